/- What is written is read; what is read is written as just this text. No condition. -/
import Derived.Test.YtcildbgckgodhaaDoorXx2
import Derived.Test.YtcildbgckgodhaaDoorNumKit
namespace Go.Proofs.YtcildbgckgodhaaDoor.Pure
open Go.RowKit Go.Proofs.YtcildbgckgodhaaDoor Go.Proofs.YtcildbgckgodhaaDoor.X Go.Proofs.YtcildbgckgodhaaDoorW.PrintWords Go.Proofs.YtcildbgckgodhaaDoorW.PrintLast
theorem numBack_j0 (n : Int) (s : ByteArray) (h0 : -9223372036854775808 ≤ n) (h1 : n ≤ 9223372036854775807) (b : Bool) : Ev (fun k => fescuelaw01_NumBack.j0 k n s true b) true := by
  refine Ev.step (f := fun _ => some true) (fun k => ?_) (Ev.now _)
  simp only [fescuelaw01_NumBack.j0]
  cases b with
  | true => rw [if_pos rfl]
  | false =>
    rw [if_neg (by simp)]
    rcases readL_inv s.data.toList with ⟨m, hm, hs, hm0, hm1⟩ | hz
    · have hr : num_Read.f s = some (m, 0) := by unfold num_Read.f; rw [hm]
      rw [hr, Option.bind_some]
      simp only [if_true]
      rw [write_ok n h0 h1, Option.bind_some, is_write n h0 h1, Option.bind_some, if_pos rfl, write_ok m hm0 hm1, Option.bind_some]
      simp [ByteArray.toList_eq, hs]
    · have hr : num_Read.f s = some (0, 10) := by unfold num_Read.f; rw [hz]
      rw [hr, Option.bind_some]
      rw [if_neg (by decide)]
      simp only [if_true]
      rw [write_ok n h0 h1, Option.bind_some, is_write n h0 h1, Option.bind_some]
theorem NumBack : fescuelaw01_NumBack.Pure := by
  intro n s hn _
  obtain ⟨h0, h1⟩ := i64_of n hn
  apply Ev.rounds (r := true)
  by_cases h : (s.size : Int) > 1000
  · exact Ev.congr (fun k => by simp only [fescuelaw01_NumBack.f]; rw [alive_ok, Option.bind_some, if_pos h]) (numBack_j0 n s h0 h1 true)
  · exact Ev.congr (f := fun k => fescuelaw01_NumBack.j0 k n s true false) (fun k => by simp only [fescuelaw01_NumBack.f]; rw [alive_ok, Option.bind_some, if_neg h]; rfl) (numBack_j0 n s h0 h1 false)
end Go.Proofs.YtcildbgckgodhaaDoor.Pure
