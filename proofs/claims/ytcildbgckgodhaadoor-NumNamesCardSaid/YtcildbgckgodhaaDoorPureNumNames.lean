/- The errors' numbers and the chapter's examples. No condition. -/
import Derived.Test.YtcildbgckgodhaaDoorXx4
import Derived.Test.YtcildbgckgodhaaDoorNumKit
import Derived.Test.YtcildbgckgodhaaDoorSmall
namespace Go.Proofs.YtcildbgckgodhaaDoor.Pure
open Go.RowKit Go.Proofs.YtcildbgckgodhaaDoor Go.Proofs.YtcildbgckgodhaaDoor.X Go.Proofs.YtcildbgckgodhaaDoorW.PrintWords Go.Proofs.YtcildbgckgodhaaDoorW.PrintLast
theorem small_is (s : ByteArray) (most : Int) (r : Int × Int) (h : smallL s.data.toList most = r) : Ev (fun k => num_Small.f k s most) r := h ▸ progSmall s most
theorem itoa_least : itoaL (-9223372036854775808) = [45, 57, 50, 50, 51, 51, 55, 50, 48, 51, 54, 56, 53, 52, 55, 55, 53, 56, 48, 56] := by decide +kernel
theorem numNames_j0 : Ev (fun k => fescuelaw01_NumNames.j0 k true) true := by
  refine Ev.step (f := fun _ => some true) (fun k => ?_) (Ev.now _)
  simp only [fescuelaw01_NumNames.j0]
  rw [alive_ok, Option.bind_some]
  simp only [if_true]
  iterate 2 rw [is_ok _ _ (by decide +kernel), Option.bind_some, if_pos rfl]
  iterate 8 rw [none_ok _ (by decide +kernel), Option.bind_some, if_pos rfl]
  rw [write_ok _ (by omega) (by omega), Option.bind_some, itoa_least]
  simp [ByteArray.toList_eq]
theorem NumNames : fescuelaw01_NumNames.Pure := by
  apply Ev.rounds (r := true)
  refine Ev.bind (small_is _ _ (12, 0) (by decide +kernel)) (Ev.bind (small_is _ _ (0, 10) (by decide +kernel)) (Ev.bind (small_is _ _ (0, 2) (by decide +kernel)) (Ev.bind (small_is _ _ (0, 2) (by decide +kernel)) (Ev.bind (small_is _ _ (1000000, 0) (by decide +kernel)) (Ev.bind (small_is _ _ (0, 10) (by decide +kernel)) ?_)))))
  exact Ev.congr (f := fun k => fescuelaw01_NumNames.j0 k true) (fun k => by simp) numNames_j0
end Go.Proofs.YtcildbgckgodhaaDoor.Pure
