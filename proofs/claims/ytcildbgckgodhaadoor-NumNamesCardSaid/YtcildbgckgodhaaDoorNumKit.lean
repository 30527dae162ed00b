/- Plain: what the laws' own helpers answer. -/
import Derived.Test.YtcildbgckgodhaaDoorXx2
import Derived.Test.YtcildbgckgodhaaDoorRef1
import Derived.Test.YtcildbgckgodhaaDoorNumF
namespace Go.Proofs.YtcildbgckgodhaaDoor
open Go.RowKit Go.Proofs.YtcildbgckgodhaaDoor.X Go.Proofs.YtcildbgckgodhaaDoorW.PrintWords Go.Proofs.YtcildbgckgodhaaDoorW.PrintLast
set_option linter.unusedVariables false
theorem i64_of (n : Int) (h : (Lit.int .i64 n).wf = true) : -9223372036854775808 ≤ n ∧ n ≤ 9223372036854775807 := by
  simp [Lit.wf, IntKind.min, IntKind.max, IntKind.signed, IntKind.bits] at h
  omega
theorem u8_bounds (n : Int) (h : (Lit.int .u8 n).wf = true) : 0 ≤ n ∧ n ≤ 255 := by
  simp [Lit.wf, IntKind.min, IntKind.max, IntKind.signed, IntKind.bits] at h
  omega
theorem is_ok (s : ByteArray) (n : Int) (h : readL s.data.toList = (n, 0)) : fescuelaw01_is.f s n = some true := by
  simp [fescuelaw01_is.f, num_Read.f, h]
theorem none_ok (s : ByteArray) (h : readL s.data.toList = (0, 10)) : fescuelaw01_none.f s = some true := by
  simp [fescuelaw01_none.f, num_Read.f, h]
theorem write_ok (n : Int) (h0 : -9223372036854775808 ≤ n) (h1 : n ≤ 9223372036854775807) : num_Write.f n = some ⟨(itoaL n).toArray⟩ := by
  unfold num_Write.f
  rw [if_pos ⟨h0, h1⟩]
theorem is_write (n : Int) (h0 : -9223372036854775808 ≤ n) (h1 : n ≤ 9223372036854775807) : fescuelaw01_is.f ⟨(itoaL n).toArray⟩ n = some true :=
  is_ok _ _ (by rw [ba_list]; exact readL_itoa n h0 h1)
theorem itoa_120 : itoaL 120 = [49, 50, 48] := by decide +kernel
theorem alive_ok : fescuelaw01_alive.f = some true := by
  unfold fescuelaw01_alive.f
  rw [is_ok _ _ (by decide +kernel), Option.bind_some, if_pos rfl, is_ok _ _ (by decide +kernel), Option.bind_some, if_pos rfl, none_ok _ (by decide +kernel), Option.bind_some, if_pos rfl, write_ok _ (by omega) (by omega), Option.bind_some, itoa_120]
  simp [ByteArray.toList_eq]
end Go.Proofs.YtcildbgckgodhaaDoor
