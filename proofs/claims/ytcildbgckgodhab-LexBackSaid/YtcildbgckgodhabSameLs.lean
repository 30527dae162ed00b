/- Plain: a text's lines are the same as themselves. -/
import Derived.Test.YtcildbgckgodhabLinesP
import Derived.Test.YtcildbgckgodhabSameL
namespace Go.Proofs.Ytcildbgckgodhab
open Go.RowKit Go.Proofs.Ytcildbgckgodhab.X Go.Proofs.YtcildbgckgodhabW.PrintWords Go.Proofs.YtcildbgckgodhabW.PrintLast
set_option linter.unusedVariables false
set_option linter.unusedSimpArgs false
theorem same_lines (s : ByteArray) : Ev (fun k => fescueref05_Same.f k (linesP s).1 (linesP s).1) true := by
  obtain ⟨h1, h2⟩ := linesP_len s
  exact same_eq _ (by omega) (fun x hx => by have := h2 x hx; omega)
end Go.Proofs.Ytcildbgckgodhab
