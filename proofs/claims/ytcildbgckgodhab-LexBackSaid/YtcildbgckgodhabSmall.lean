/- Plain law: the program's small number is the same. -/
import Derived.Test.YtcildbgckgodhabSmallL
import Derived.Test.YtcildbgckgodhabXx2
namespace Go.Proofs.Ytcildbgckgodhab
open Go.RowKit Go.Proofs.Ytcildbgckgodhab.X Go.Proofs.YtcildbgckgodhabW.PrintWords Go.Proofs.YtcildbgckgodhabW.PrintLast
theorem progSmall (s : ByteArray) (most : Int) : Ev (fun k => num_Small.f k s most) (smallL s.data.toList most) := by
  unfold smallL
  have hj : ∀ b : Bool, (b = true ↔ (most < 0 ∨ 1000000 < most)) → Ev (fun k => num_Small.j0 k s most b) (if most < 0 ∨ 1000000 < most then (0, 2) else if (readL s.data.toList).2 = 0 ∧ 0 ≤ (readL s.data.toList).1 ∧ (readL s.data.toList).1 ≤ most then ((readL s.data.toList).1, 0) else (0, 10)) := by
    intro b hb
    by_cases h : b = true
    · rw [if_pos (hb.1 h)]
      refine Ev.step (f := fun _ => some (0, 2)) (fun k => ?_) (Ev.now _)
      simp only [num_Small.j0]; rw [if_pos h]
    · rw [if_neg (fun e => h (hb.2 e))]
      refine Ev.step (f := fun _ => (num_Read.f s).bind fun bt111 => (if bt111.2 = 0 then (if bt111.1 < 0 then (some (0, 10)) else (if bt111.1 > most then (some (0, 10)) else (some (bt111.1, 0)))) else (some (0, 10)))) (fun k => ?_) ?_
      · simp only [num_Small.j0]; rw [if_neg h]
      · exact Ev.congr (f := fun _ => some _) (fun k => small_tail _ most) (Ev.now _)
  by_cases h : most < 0
  · refine Ev.congr (f := fun k => num_Small.j0 k s most true) (fun k => ?_) (hj true (by simp [h]))
    simp only [num_Small.f]; rw [if_pos h]
  · refine Ev.congr (f := fun k => num_Small.j0 k s most (decide (most > 1000000))) (fun k => ?_) (hj _ (by simp [h]))
    simp only [num_Small.f]; rw [if_neg h]
end Go.Proofs.Ytcildbgckgodhab
