/- Plain laws: decimal texts. What 'readL' reads is just what 'itoaL' writes. -/
import Derived.Test.YtcildbgckgodhaaMath
namespace Go.Proofs.Ytcildbgckgodhaa
open Go.RowKit
set_option linter.unusedVariables false
def dg (d : Nat) : UInt8 := UInt8.ofNat (48 + d)
/-- The digits of a number above 0; none of 0. -/
def ds (n : Nat) : List UInt8 := if h : n = 0 then [] else ds (n / 10) ++ [dg (n % 10)]
termination_by n
decreasing_by omega
def itoaL (n : Int) : List UInt8 := if n = 0 then [48] else if n < 0 then 45 :: ds n.natAbs else ds n.natAbs
theorem dg_nat (d : Nat) (h : d < 10) : (dg d).toNat = 48 + d := by
  unfold dg
  rw [UInt8.toNat_ofNat']
  omega
theorem dg_is (d : Nat) (h : d < 10) : isDig (dg d) = true := by
  unfold isDig
  rw [dg_nat d h]
  simp
  omega
theorem ds_zero : ds 0 = [] := by unfold ds; simp
theorem ds_pos (n : Nat) (h : n ≠ 0) : ds n = ds (n / 10) ++ [dg (n % 10)] := by
  conv => lhs; unfold ds
  simp [h]
theorem ds_all (n : Nat) : (ds n).all isDig = true := by
  induction n using Nat.strongRecOn with
  | _ n ih =>
    by_cases h : n = 0
    · rw [h, ds_zero]; rfl
    · rw [ds_pos n h, List.all_append, ih (n / 10) (by omega)]
      simp [dg_is (n % 10) (by omega)]
theorem ds_val (n : Nat) : decVal (ds n) = n := by
  induction n using Nat.strongRecOn with
  | _ n ih =>
    by_cases h : n = 0
    · rw [h, ds_zero]; rfl
    · rw [ds_pos n h, decVal_snoc, ih (n / 10) (by omega), dg_nat _ (by omega)]
      omega
theorem ds_ne (n : Nat) (h : n ≠ 0) : ds n ≠ [] := by rw [ds_pos n h]; simp
theorem ds_head (n : Nat) (h : n ≠ 0) : (ds n).head? ≠ some 48 ∧ (ds n).head? ≠ some 45 := by
  induction n using Nat.strongRecOn with
  | _ n ih =>
    rw [ds_pos n h]
    by_cases h1 : n / 10 = 0
    · rw [h1, ds_zero]
      have hn := dg_nat (n % 10) (by omega)
      constructor
      · intro e
        simp at e
        rw [e] at hn
        have : (48 : UInt8).toNat = 48 := rfl
        omega
      · intro e
        simp at e
        rw [e] at hn
        have : (45 : UInt8).toNat = 45 := rfl
        omega
    · have := ih (n / 10) (by omega) h1
      have hne := ds_ne (n / 10) h1
      cases hd : ds (n / 10) with
      | nil => exact absurd hd hne
      | cons x t => rw [hd] at this; simpa using this
theorem ds_len (n k : Nat) (h : n < 10 ^ k) : (ds n).length ≤ k := by
  induction k generalizing n with
  | zero =>
    have : n = 0 := by simpa using h
    rw [this, ds_zero]; simp
  | succ k ih =>
    by_cases hn : n = 0
    · rw [hn, ds_zero]; simp
    · rw [ds_pos n hn, List.length_append]
      have h1 : n / 10 < 10 ^ k := by rw [Nat.pow_succ] at h; omega
      have := ih (n / 10) h1
      simp
      omega
theorem ds_len_lo (n k : Nat) (h : 10 ^ k ≤ n) : k < (ds n).length := by
  have h1 := decVal_lt (ds n) (ds_all n)
  rw [ds_val] at h1
  rcases Nat.lt_or_ge k (ds n).length with h2 | h2
  · exact h2
  · have := Nat.pow_le_pow_right (n := 10) (by omega) h2
    omega
/-- Digits that do not begin with 0 are the digits of their number. -/
theorem ds_of (l : List UInt8) (h : l.all isDig = true) (h0 : l.head? ≠ some 48) : ds (decVal l) = l := by
  have key : ∀ n, n ≤ l.length → ds (decVal (l.take n)) = l.take n ∧ (0 < n → decVal (l.take n) ≠ 0) := by
    intro n
    induction n with
    | zero => intro _; exact ⟨by rw [List.take_zero]; exact ds_zero, fun h => absurd h (Nat.lt_irrefl 0)⟩
    | succ n ih =>
      intro hn
      obtain ⟨h1, h2⟩ := ih (by omega)
      have hd : isDig l[n] = true := List.all_eq_true.1 h _ (List.getElem_mem _)
      have hd' : 48 ≤ l[n].toNat ∧ l[n].toNat ≤ 57 := by simpa [isDig] using hd
      rw [List.take_succ_eq_append_getElem (by omega), decVal_snoc]
      have hv : 10 * decVal (l.take n) + (l[n].toNat - 48) ≠ 0 := by
        by_cases hz : n = 0
        · subst hz
          intro e
          apply h0
          have : l[0].toNat = 48 := by omega
          have e2 : l[0] = 48 := UInt8.toNat_inj.1 this
          cases l with
          | nil => simp at hn
          | cons x t => simp at e2 ⊢; exact e2
        · have := h2 (by omega)
          omega
      refine ⟨?_, fun _ => hv⟩
      rw [ds_pos _ hv]
      have e1 : (10 * decVal (l.take n) + (l[n].toNat - 48)) / 10 = decVal (l.take n) := by omega
      have e2 : (10 * decVal (l.take n) + (l[n].toNat - 48)) % 10 = l[n].toNat - 48 := by omega
      rw [e1, e2, h1]
      congr 1
      have e3 : dg (l[n].toNat - 48) = l[n] := by
        apply UInt8.toNat_inj.1
        rw [dg_nat _ (by omega)]
        omega
      rw [e3]
  have := (key l.length (Nat.le_refl _)).1
  rwa [List.take_length] at this
theorem itoaL_zero : itoaL 0 = [48] := rfl
theorem itoaL_pos (n : Int) (h : 0 < n) : itoaL n = ds n.natAbs := by unfold itoaL; rw [if_neg (by omega), if_neg (by omega)]
theorem itoaL_neg (n : Int) (h : n < 0) : itoaL n = 45 :: ds n.natAbs := by unfold itoaL; rw [if_neg (by omega), if_pos h]
theorem readL_minus (t : List UInt8) : readL (45 :: t) = if t = [] ∨ 19 < t.length ∨ t.head? = some 48 then (0, 10) else if t.all isDig = false then (0, 10) else if 9223372036854775808 < decVal t then (0, 10) else (-(decVal t : Int), 0) := by
  simp [readL]
theorem readL_plain (l : List UInt8) (h : l.head? ≠ some 45) : readL l = if l = [] ∨ 19 < l.length ∨ (l.head? = some 48 ∧ l ≠ [48]) then (0, 10) else if l.all isDig = false then (0, 10) else if 9223372036854775807 < decVal l then (0, 10) else ((decVal l : Int), 0) := by
  have h' : (l.head? == some 45) = false := by rw [beq_eq_false_iff_ne]; exact h
  simp only [readL, h', Bool.false_eq_true, if_false]
theorem readL_itoa (n : Int) (h0 : -9223372036854775808 ≤ n) (h1 : n ≤ 9223372036854775807) : readL (itoaL n) = (n, 0) := by
  rcases Int.lt_trichotomy n 0 with h | h | h
  · rw [itoaL_neg n h, readL_minus]
    have hn : n.natAbs ≠ 0 := by omega
    have hl := ds_len n.natAbs 19 (by omega)
    rw [if_neg, if_neg, if_neg, ds_val]
    · have : -(n.natAbs : Int) = n := by omega
      rw [this]
    · rw [ds_val]; omega
    · rw [ds_all]; simp
    · intro hh
      rcases hh with hh | hh | hh
      · exact ds_ne _ hn hh
      · omega
      · exact (ds_head _ hn).1 hh
  · subst h; decide
  · rw [itoaL_pos n h, readL_plain _ (ds_head _ (by omega)).2]
    have hn : n.natAbs ≠ 0 := by omega
    have hl := ds_len n.natAbs 19 (by omega)
    rw [if_neg, if_neg, if_neg, ds_val]
    · have : (n.natAbs : Int) = n := by omega
      rw [this]
    · rw [ds_val]; omega
    · rw [ds_all]; simp
    · intro hh
      rcases hh with hh | hh | hh
      · exact ds_ne _ hn hh
      · omega
      · exact (ds_head _ hn).1 hh.1
theorem readL_inv (l : List UInt8) : (∃ n : Int, readL l = (n, 0) ∧ l = itoaL n ∧ -9223372036854775808 ≤ n ∧ n ≤ 9223372036854775807) ∨ readL l = (0, 10) := by
  by_cases hm : l.head? = some 45
  · obtain ⟨t, rfl⟩ : ∃ t, l = 45 :: t := by
      cases l with
      | nil => cases hm
      | cons x t => simp at hm; exact ⟨t, by rw [hm]⟩
    rw [readL_minus]
    split
    · exact .inr rfl
    · rename_i hA
      split
      · exact .inr rfl
      · rename_i hB
        split
        · exact .inr rfl
        · rename_i hC
          have hB' : t.all isDig = true := by simpa using hB
          have hd := ds_of t hB' (fun e => hA (.inr (.inr e)))
          refine .inl ⟨_, rfl, ?_, by omega, by omega⟩
          have hz : decVal t ≠ 0 := by
            intro e
            rw [e, ds_zero] at hd
            exact hA (.inl hd.symm)
          rw [itoaL_neg _ (by omega)]
          simp only [Int.natAbs_neg, Int.natAbs_natCast]
          rw [hd]
  · rw [readL_plain l hm]
    split
    · exact .inr rfl
    · rename_i hA
      split
      · exact .inr rfl
      · rename_i hB
        split
        · exact .inr rfl
        · rename_i hC
          have hB' : l.all isDig = true := by simpa using hB
          by_cases h48 : l = [48]
          · subst h48; exact .inl ⟨0, by decide, rfl, by decide, by decide⟩
          · have hd := ds_of l hB' (fun e => hA (.inr (.inr ⟨e, h48⟩)))
            refine .inl ⟨_, rfl, ?_, by omega, by omega⟩
            have hz : decVal l ≠ 0 := by
              intro e
              rw [e, ds_zero] at hd
              exact hA (.inl hd.symm)
            rw [itoaL_pos _ (by omega)]
            simp only [Int.natAbs_natCast]
            rw [hd]
theorem itoaL_inj (m n : Int) (hm : -9223372036854775808 ≤ m) (hm' : m ≤ 9223372036854775807) (hn : -9223372036854775808 ≤ n) (hn' : n ≤ 9223372036854775807) (h : itoaL m = itoaL n) : m = n := by
  have h1 := readL_itoa m hm hm'
  rw [h, readL_itoa n hn hn'] at h1
  exact (Prod.mk.inj h1).1.symm
end Go.Proofs.Ytcildbgckgodhaa
