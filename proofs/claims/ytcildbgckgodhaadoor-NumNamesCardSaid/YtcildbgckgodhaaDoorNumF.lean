/- num.Write by the shelf: strconv.FormatInt at base 10. -/
import Derived.Test.YtcildbgckgodhaaDoorProg
import Derived.Test.YtcildbgckgodhaaDoorWMore
import Derived.Test.YtcildbgckgodhaaDoorDec
import Derived.Shelf.Strconv.Itoa4
import Derived.Shelf.Lay
import Derived.Ground.NamesProg
import Derived.WalkKit
import Derived.Below
import Derived.Lib.LaidTab
namespace Go.Proofs.YtcildbgckgodhaaDoor
open Go.RowKit Go.Shelf Go.Proofs.YtcildbgckgodhaaDoorW.PrintWords Go.Proofs.YtcildbgckgodhaaDoorW.PrintLast
set_option linter.unusedVariables false
shelf_lay LaysM.n173 Nm 173 at Tryd as Tryd.lays173
theorem decDigits_ds (n : Nat) (h : n ≠ 0) : Lib.decDigits n = ds n := by
  induction n using Nat.strongRecOn with
  | _ n ih =>
    rw [ds_pos n h]
    unfold Lib.decDigits
    by_cases h10 : n < 10
    · have e : n / 10 = 0 := by omega
      have e2 : n % 10 = n := by omega
      rw [dif_pos h10, e, ds_zero, e2]
      rfl
    · rw [dif_neg h10, ih (n / 10) (by omega) (by omega)]
      rfl
theorem itoa_is (n : Int) : Lib.itoa n = itoaL n := by
  unfold Lib.itoa itoaL
  by_cases h0 : n = 0
  · subst h0
    rw [if_neg (by omega), if_pos rfl]
    decide +kernel
  · rw [if_neg h0]
    by_cases h : n < 0
    · rw [if_pos h, if_pos h, decDigits_ds _ (by omega)]
    · rw [if_neg h, if_neg h, ← decDigits_ds _ (by omega)]
      congr 1
      omega
/-- The table that FormatInt reads. -/
abbrev PowTab (w : World) : Prop := Lib.TabIs Tryd.prog w "internal/strconv.uint64pow10" .u64 Lib.pow10Tab
theorem below_grow (w : World) (k : Nat) (os : Array Obj) : Below w.heap.size w (Sort.grow (w.drewN k) os) := by
  have h1 : Below w.heap.size w (w.drewN k) := pw_below_drewN (Below.refl _ _) k
  refine ⟨rfl, rfl, rfl, ?_, fun j hj => ?_⟩
  · show w.heap.size ≤ ((w.drewN k).heap ++ os).size
    have := h1.size
    rw [Array.size_append]
    omega
  · show ((w.drewN k).heap ++ os)[j]? = w.heap[j]?
    have := h1.size
    rw [Array.getElem?_append_left (by omega)]
    exact h1.block j hj
theorem write_any (n : Int) (h0 : -9223372036854775808 ≤ n) (h1 : n ≤ 9223372036854775807) (w : World) (ht : PowTab w) :
    Calls Tryd.prog 10 #[.int .i64 n] w fun e w' => e = .returned (.string ⟨(itoaL n).toArray⟩) ∧ Below w.heap.size w w' := by
  go_enter Tryd.func10, Tryd.ntmps10
  go_wp2_with (go_at_call 19; refine (Any.strconv_FormatInt_10 Tryd.lays173 n h0 h1 w ht).mono ?_; rintro e w' ⟨rfl, k, os, rfl⟩)
  go_ret
  rw [itoa_is]
  exact ⟨rfl, below_grow w k os⟩
theorem PowTab.below {w w' : World} (h : PowTab w) (hb : Below w.heap.size w w') : PowTab w' := by
  unfold PowTab Lib.TabIs World.var? at h ⊢
  cases hg : Tryd.prog.globalNamed "internal/strconv.uint64pow10" with
  | none => rw [hg] at h; cases h
  | some g =>
    rw [hg] at h
    simp only [Option.bind_some] at h ⊢
    have hlt : g < w.heap.size := by
      rcases Nat.lt_or_ge g w.heap.size with h' | h'
      · exact h'
      · rw [Array.getElem?_eq_none h'] at h; cases h
    rw [hb.block g hlt]
    exact h
/- The contract in the print's form. -/
def num_Write.f (a0 : Int) : Option ByteArray := if -9223372036854775808 ≤ a0 ∧ a0 ≤ 9223372036854775807 then some ⟨(itoaL a0).toArray⟩ else none
theorem num_Write.calls (a0 : Int) (r : ByteArray) (w : World) (h : num_Write.f a0 = some r) (ht : PowTab w) :
    Calls Tryd.prog 10 #[.int .i64 a0] w fun e w' => e = .returned (.string r) ∧ Below w.heap.size w w' := by
  unfold num_Write.f at h
  by_cases hs : -9223372036854775808 ≤ a0 ∧ a0 ≤ 9223372036854775807
  · rw [if_pos hs] at h
    injection h with h
    subst h
    exact write_any a0 hs.1 hs.2 w ht
  · rw [if_neg hs] at h; cases h
end Go.Proofs.YtcildbgckgodhaaDoor
