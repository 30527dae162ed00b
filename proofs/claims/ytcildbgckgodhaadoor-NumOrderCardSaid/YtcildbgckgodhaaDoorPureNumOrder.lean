/- The order of numbers from 0 on is the order of their texts, by length and then byte by byte; a number below 0 has a -, and the text of what it lacks. No condition. -/
import Derived.Test.YtcildbgckgodhaaDoorXx2
import Derived.Test.YtcildbgckgodhaaDoorNumKit
namespace Go.Proofs.YtcildbgckgodhaaDoor.Pure
open Go.RowKit Go.Proofs.YtcildbgckgodhaaDoor Go.Proofs.YtcildbgckgodhaaDoor.X Go.Proofs.YtcildbgckgodhaaDoorW.PrintWords Go.Proofs.YtcildbgckgodhaaDoorW.PrintLast
/-- From 0 on: the digits. -/
def dz (n : Nat) : List UInt8 := itoaL (n : Int)
theorem dz_zero : dz 0 = [dg 0] := rfl
theorem dz_small (n : Nat) (h : n < 10) : dz n = [dg n] := by
  by_cases h0 : n = 0
  · subst h0; rfl
  · unfold dz
    rw [itoaL_pos _ (by omega)]
    have e : ((n : Int)).natAbs = n := by omega
    rw [e, ds_pos n h0]
    have e1 : n / 10 = 0 := by omega
    have e2 : n % 10 = n := by omega
    rw [e1, e2, ds_zero]; rfl
theorem dz_step (n : Nat) (h : 10 ≤ n) : dz n = dz (n / 10) ++ [dg (n % 10)] := by
  unfold dz
  rw [itoaL_pos _ (by omega), itoaL_pos _ (by omega)]
  have e : ((n : Int)).natAbs = n := by omega
  have e2 : (((n / 10 : Nat) : Int)).natAbs = n / 10 := by omega
  rw [e, e2, ds_pos n (by omega)]
theorem dz_len_pos (n : Nat) : 0 < (dz n).length := by
  by_cases h : n < 10
  · rw [dz_small n h]; simp
  · rw [dz_step n (by omega)]; simp
theorem dz_len_mono : ∀ (n m : Nat), m ≤ n → (dz m).length ≤ (dz n).length := by
  intro n
  induction n using Nat.strongRecOn with
  | _ n ih =>
    intro m hm
    by_cases h : m < 10
    · rw [dz_small m h]; exact dz_len_pos n
    · rw [dz_step m (by omega), dz_step n (by omega)]
      have := ih (n / 10) (by omega) (m / 10) (by omega)
      simp
      omega
theorem less_snoc : ∀ (p q : List UInt8) (x y : UInt8), p.length = q.length → Op.bytesLess (p ++ [x]) (q ++ [y]) = (Op.bytesLess p q || (p == q && decide (x < y))) := by
  intro p
  induction p with
  | nil =>
    intro q x y h
    obtain rfl : q = [] := List.eq_nil_of_length_eq_zero (by simpa using h.symm)
    simp [Op.bytesLess]
  | cons a t ih =>
    intro q x y h
    cases q with
    | nil => simp at h
    | cons b r =>
      have hl : t.length = r.length := by simpa using h
      simp only [List.cons_append, Op.bytesLess]
      rw [ih r x y hl]
      by_cases hab : a = b
      · subst hab
        have : ¬ a < a := by simp
        simp [this]
      · have : (a :: t == b :: r) = false := by simp [hab]
        have hab' : (a == b) = false := beq_eq_false_iff_ne.2 hab
        rw [this, hab']
        simp
theorem dg_lt (a b : Nat) (ha : a < 10) (hb : b < 10) : (dg a < dg b) ↔ a < b := by
  rw [UInt8.lt_iff_toNat_lt, dg_nat a ha, dg_nat b hb]
  omega
theorem dz_inj (m n : Nat) (hm : m ≤ 9223372036854775807) (hn : n ≤ 9223372036854775807) (h : dz m = dz n) : m = n := by
  have := itoaL_inj (m : Int) (n : Int) (by omega) (by omega) (by omega) (by omega) h
  omega
theorem dz_less : ∀ (m n : Nat), m ≤ 9223372036854775807 → n ≤ 9223372036854775807 → (dz m).length = (dz n).length → Op.bytesLess (dz m) (dz n) = decide (m < n) := by
  intro m
  induction m using Nat.strongRecOn with
  | _ m ih =>
    intro n hm hn hl
    by_cases h : m < 10
    · by_cases h2 : n < 10
      · rw [dz_small m h, dz_small n h2]
        have := dg_lt m n h h2
        simp only [Op.bytesLess, Bool.and_false, Bool.or_false]
        exact decide_eq_decide.2 this
      · rw [dz_small m h, dz_step n (by omega)] at hl
        have := dz_len_pos (n / 10)
        rw [List.length_append, List.length_singleton, List.length_singleton] at hl
        omega
    · by_cases h2 : n < 10
      · rw [dz_small n h2, dz_step m (by omega)] at hl
        have := dz_len_pos (m / 10)
        rw [List.length_append, List.length_singleton, List.length_singleton] at hl
        omega
      · rw [dz_step m (by omega), dz_step n (by omega)] at hl ⊢
        have hl' : (dz (m / 10)).length = (dz (n / 10)).length := by simpa using hl
        rw [less_snoc _ _ _ _ hl', ih (m / 10) (by omega) (n / 10) (by omega) (by omega) hl']
        have hlt := dg_lt (m % 10) (n % 10) (by omega) (by omega)
        by_cases he : m / 10 = n / 10
        · rw [he]
          simp only [Nat.lt_irrefl, decide_false, Bool.false_or, beq_self_eq_true, Bool.true_and]
          exact decide_eq_decide.2 (by rw [hlt]; omega)
        · have hne : (dz (m / 10) == dz (n / 10)) = false := by
            rw [beq_eq_false_iff_ne]
            exact fun e => he (dz_inj _ _ (by omega) (by omega) e)
          rw [hne, Bool.false_and, Bool.or_false]
          exact decide_eq_decide.2 (by omega)
theorem eq_text (a b : Int) (ha0 : -9223372036854775808 ≤ a) (ha1 : a ≤ 9223372036854775807) (hb0 : -9223372036854775808 ≤ b) (hb1 : b ≤ 9223372036854775807) : (itoaL a == itoaL b) = (a == b) := by
  by_cases h : a = b
  · subst h; simp
  · have : itoaL a ≠ itoaL b := fun e => h (itoaL_inj a b ha0 ha1 hb0 hb1 e)
    rw [beq_eq_false_iff_ne.2 h, beq_eq_false_iff_ne.2 this]
theorem mk_list (l : List UInt8) : (⟨l.toArray⟩ : ByteArray).toList = l := by rw [ByteArray.toList_eq, ba_list]
theorem mk_size (l : List UInt8) : (⟨l.toArray⟩ : ByteArray).size = l.length := by rw [← ba_size, ba_list]
theorem numOrder_j0 (a b : Int) (ha0 : -9223372036854775808 ≤ a) (ha1 : a ≤ 9223372036854775807) (hb0 : -9223372036854775808 ≤ b) (hb1 : b ≤ 9223372036854775807) : Ev (fun k => fescuelaw01_NumOrder.j0 k a b true ⟨(itoaL a).toArray⟩ ⟨(itoaL b).toArray⟩ false) true := by
  refine Ev.step (f := fun _ => some true) (fun k => ?_) (Ev.now _)
  simp only [fescuelaw01_NumOrder.j0, mk_list, mk_size, eq_text a b ha0 ha1 hb0 hb1]
  rw [if_neg Bool.false_ne_true]
  simp only [if_true, beq_self_eq_true]
  by_cases h1 : a < 0
  · rw [if_pos h1]
  · rw [if_neg h1]
    by_cases h2 : b < 0
    · rw [if_pos h2]
    · rw [if_neg h2]
      obtain ⟨m, rfl⟩ : ∃ m : Nat, a = m := ⟨a.toNat, by omega⟩
      obtain ⟨n, rfl⟩ : ∃ n : Nat, b = n := ⟨b.toNat, by omega⟩
      have hmn := dz_len_mono n m
      have hnm := dz_len_mono m n
      have hless := dz_less m n (by omega) (by omega)
      unfold dz at hmn hnm hless
      by_cases c1 : ((itoaL (m : Int)).length : Int) < ((itoaL (n : Int)).length : Int)
      · have hlt : (m : Int) < n := by
          rcases Nat.lt_or_ge m n with h | h
          · omega
          · have := hnm h; omega
        rw [if_pos c1, decide_eq_true hlt]
        simp
      · rw [if_neg c1]
        by_cases c2 : ((itoaL (m : Int)).length : Int) = ((itoaL (n : Int)).length : Int)
        · have hd : decide ((m : Int) < n) = decide (m < n) := decide_eq_decide.2 (by omega)
          rw [if_pos c2, hless (by omega), hd]
          simp
        · have hlt : ¬ (m : Int) < n := by
            intro h
            have := hmn (by omega)
            omega
          rw [if_neg c2, decide_eq_false hlt]
          simp
theorem NumOrder : fescuelaw01_NumOrder.Pure := by
  intro a b ha hb
  obtain ⟨ha0, ha1⟩ := i64_of a ha
  obtain ⟨hb0, hb1⟩ := i64_of b hb
  apply Ev.rounds (r := true)
  have main := numOrder_j0 a b ha0 ha1 hb0 hb1
  by_cases c1 : a < 0
  · by_cases c2 : a > -9223372036854775808
    · have hw : wrap64 (-a) = -a := by unfold wrap64; omega
      have hl : (itoaL (-a)).length ≤ 20 := by
        rw [itoaL_pos _ (by omega)]
        exact ds_len _ 20 (by omega)
      have hx : ((⟨(itoaL a).toArray⟩ : ByteArray).toList != ((⟨#[45]⟩ : ByteArray) ++ (⟨(itoaL (-a)).toArray⟩ : ByteArray)).toList) = false := by
        have e : ((⟨#[45]⟩ : ByteArray) ++ (⟨(itoaL (-a)).toArray⟩ : ByteArray)).toList = itoaL a := by
          rw [ByteArray.toList_eq, itoaL_neg a c1, itoaL_pos _ (by omega)]
          have : (-a).natAbs = a.natAbs := by omega
          rw [this]; simp
        rw [mk_list, e]; simp
      refine Ev.congr (fun k => ?_) main
      simp only [fescuelaw01_NumOrder.f]
      rw [alive_ok, Option.bind_some, write_ok a ha0 ha1, Option.bind_some, write_ok b hb0 hb1, Option.bind_some, if_pos c1, if_pos c2, hw, write_ok (-a) (by omega) (by omega), Option.bind_some, if_pos (by rw [mk_size]; omega), hx]
    · refine Ev.congr (fun k => ?_) main
      simp only [fescuelaw01_NumOrder.f]
      rw [alive_ok, Option.bind_some, write_ok a ha0 ha1, Option.bind_some, write_ok b hb0 hb1, Option.bind_some, if_pos c1, if_neg c2]
  · refine Ev.congr (fun k => ?_) main
    simp only [fescuelaw01_NumOrder.f]
    rw [alive_ok, Option.bind_some, write_ok a ha0 ha1, Option.bind_some, write_ok b hb0 hb1, Option.bind_some, if_neg c1]
end Go.Proofs.YtcildbgckgodhaaDoor.Pure
