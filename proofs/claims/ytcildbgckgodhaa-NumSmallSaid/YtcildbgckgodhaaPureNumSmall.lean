/- What small numbers are, by the program and by the document's answer, is the same: at any text and limit. No condition. -/
import Derived.Test.YtcildbgckgodhaaXx2
import Derived.Test.YtcildbgckgodhaaSmall
namespace Go.Proofs.Ytcildbgckgodhaa.Pure
open Go.RowKit Go.Proofs.Ytcildbgckgodhaa Go.Proofs.Ytcildbgckgodhaa.X Go.Proofs.YtcildbgckgodhaaW.PrintWords Go.Proofs.YtcildbgckgodhaaW.PrintLast
theorem NumSmall : fescuelaw01_NumSmall.Pure := by
  intro s most _ _
  apply Ev.rounds (r := true)
  by_cases h : (s.size : Int) > 1000
  · exact Ev.congr (f := fun _ => some true) (fun k => by simp only [fescuelaw01_NumSmall.f]; rw [if_pos h]) (Ev.now _)
  · refine Ev.congr (f := fun k => (num_Small.f k s most).bind fun a => (fescueref01_Small.f k s most).bind fun b => if a.1 = b.1 then some (a.2 == b.2) else some false) (fun k => by simp only [fescuelaw01_NumSmall.f]; rw [if_neg h]) ?_
    refine Ev.bind (progSmall s most) (Ev.bind (refSmall s most) ?_)
    exact Ev.congr (f := fun _ => some true) (fun k => by simp) (Ev.now _)
end Go.Proofs.Ytcildbgckgodhaa.Pure
