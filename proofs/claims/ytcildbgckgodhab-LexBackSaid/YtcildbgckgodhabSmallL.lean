/- Plain: a small number. -/
import Derived.Test.YtcildbgckgodhabNumW
import Derived.Test.YtcildbgckgodhabWMore
namespace Go.Proofs.Ytcildbgckgodhab
open Go.RowKit Go.Proofs.YtcildbgckgodhabW.PrintWords Go.Proofs.YtcildbgckgodhabW.PrintLast
set_option linter.unusedVariables false
set_option linter.unusedSimpArgs false
/-- A small number, as both sides tell it. -/
def smallL (l : List UInt8) (most : Int) : Int × Int :=
  if most < 0 ∨ 1000000 < most then (0, 2) else if (readL l).2 = 0 ∧ 0 ≤ (readL l).1 ∧ (readL l).1 ≤ most then ((readL l).1, 0) else (0, 10)
theorem small_tail (r : Int × Int) (x1 : Int) : (if r.2 = 0 then (if r.1 < 0 then (some ((0 : Int), (10 : Int))) else (if r.1 > x1 then (some (0, 10)) else (some (r.1, 0)))) else (some (0, 10))) = some (if r.2 = 0 ∧ 0 ≤ r.1 ∧ r.1 ≤ x1 then (r.1, 0) else (0, 10)) := by
  by_cases h : r.2 = 0
  · rw [if_pos h]
    by_cases h1 : r.1 < 0
    · rw [if_pos h1, if_neg (by omega)]
    · rw [if_neg h1]
      by_cases h2 : r.1 > x1
      · rw [if_pos h2, if_neg (by omega)]
      · rw [if_neg h2, if_pos (by omega)]
  · rw [if_neg h, if_neg (by omega)]

end Go.Proofs.Ytcildbgckgodhab
