/- Plain laws on the reference's numbers: what the printed functions answer. -/
import Derived.Test.YtcildbgckgodhaaXx1
import Derived.Test.YtcildbgckgodhaaDec
import Derived.Lib.Hide
namespace Go.Proofs.Ytcildbgckgodhaa
open Go.RowKit Go.Proofs.Ytcildbgckgodhaa.X Go.Proofs.YtcildbgckgodhaaW.PrintWords Go.Proofs.YtcildbgckgodhaaW.PrintLast
set_option linter.unusedVariables false
theorem ba_ext {a b : ByteArray} (h : a.data.toList = b.data.toList) : a = b := by
  cases a; cases b; simp at h; simp [h]
theorem ba_list (l : List UInt8) : (⟨l.toArray⟩ : ByteArray).data.toList = l := by simp
theorem ba_size (a : ByteArray) : a.data.toList.length = a.size := by simp
theorem data_append' (a b : ByteArray) : (a ++ b).data.toList = a.data.toList ++ b.data.toList := by simp
theorem size_append' (a b : ByteArray) : (a ++ b).size = a.size + b.size := by simp
theorem tdiv10 (x : Int) : (0 ≤ x ∧ x.tdiv 10 = x / 10) ∨ (x < 0 ∧ x.tdiv 10 = -((-x) / 10)) := by
  rcases (show x < 0 ∨ 0 ≤ x by omega) with h | h
  · right
    refine ⟨h, ?_⟩
    have := Int.neg_tdiv (a := -x) (b := 10)
    rw [Int.neg_neg] at this
    rw [this, Int.tdiv_eq_ediv_of_nonneg (by omega)]
  · exact .inl ⟨h, Int.tdiv_eq_ediv_of_nonneg h⟩
theorem tmod10 (x : Int) : x.tmod 10 = x - 10 * x.tdiv 10 := Int.tmod_def x 10
theorem refWrite_l0 (x3 : ByteArray) : ∀ (m : Nat) (x0 : Int), x0.natAbs = m → m ≤ 9223372036854775808 → -9223372036854775808 ≤ x0 → x0 ≤ 9223372036854775807 → ∀ x4 : ByteArray, x3.size + x4.size + (ds m).length ≤ 1000 →
    Ev (fun k => fescueref01_Write.l0 k x0 x3 x4) (⟨(x3.data.toList ++ ds m ++ x4.data.toList).toArray⟩) := by
  intro m
  induction m using Nat.strongRecOn with
  | _ m ih =>
    intro x0 hm hm' hlo hhi x4 hs
    by_cases h0 : x0 = 0
    · subst h0
      have : m = 0 := by omega
      subst this
      refine Ev.of (k := 1) (fun k => (fescueref01_Write.mono_l k).2 _ _ _) ?_
      simp only [fescueref01_Write.l0, if_true]
      rw [if_pos (by omega), ds_zero]
      congr 1
      apply ba_ext
      simp
    · have hne : m ≠ 0 := by omega
      have hT := tdiv10 x0
      have hM := tmod10 x0
      have hd := ds_pos m hne
      have hstep : ∀ (v : Int), v = 48 + (m % 10 : Nat) → ∀ y : List Int, y = [v % 256] → Ev (fun k => if (strOfNums y).size + x4.size ≤ 9223372036854775807 then fescueref01_Write.l0 k (wrap64 (Int.tdiv x0 10)) x3 (strOfNums y ++ x4) else none) (⟨(x3.data.toList ++ ds m ++ x4.data.toList).toArray⟩) := by
        intro v hv y hy
        subst hy
        have hsz : (strOfNums [v % 256]).size = 1 := by rw [strOfNums_size]; rfl
        have hq : wrap64 (Int.tdiv x0 10) = Int.tdiv x0 10 := by unfold wrap64; omega
        have hlen : (ds m).length = (ds (m / 10)).length + 1 := by rw [hd]; simp
        refine Ev.congr (fun k => if_pos (by omega)) ?_
        rw [hq]
        have := ih (m / 10) (by omega) (Int.tdiv x0 10) (by omega) (by omega) (by omega) (by omega) (strOfNums [v % 256] ++ x4) (by rw [size_append', hsz]; omega)
        have hb : (strOfNums [v % 256]).data.toList = [dg (m % 10)] := by
          rw [strOfNums_data]
          simp only [List.map_cons, List.map_nil]
          congr 1
          unfold dg
          congr 1
          omega
        rw [data_append', hb] at this
        have e : x3.data.toList ++ ds m ++ x4.data.toList = x3.data.toList ++ ds (m / 10) ++ ([dg (m % 10)] ++ x4.data.toList) := by rw [hd]; simp
        rw [e]
        exact this
      refine Ev.step (fun k => ?_) (hstep _ rfl _ rfl)
      simp only [fescueref01_Write.l0]
      rw [if_neg h0]
      by_cases hneg : Int.tmod x0 10 < 0
      · rw [if_pos hneg]
        simp only [Option.bind_some]
        have e : wrap64 (48 + wrap64 (-Int.tmod x0 10)) = 48 + (m % 10 : Nat) := by unfold wrap64; omega
        rw [e]
      · rw [if_neg hneg]
        simp only [Option.bind_some]
        have e : wrap64 (48 + Int.tmod x0 10) = 48 + (m % 10 : Nat) := by unfold wrap64; omega
        rw [e]
theorem refWrite (n : Int) (h0 : -9223372036854775808 ≤ n) (h1 : n ≤ 9223372036854775807) : Ev (fun k => fescueref01_Write.f k n) (⟨(itoaL n).toArray⟩) := by
  have hl := ds_len n.natAbs 19 (by omega)
  have key : ∀ x3 : ByteArray, x3.size ≤ 1 → Ev (fun k => fescueref01_Write.j0 k n x3) (⟨(x3.data.toList ++ ds n.natAbs).toArray⟩) := by
    intro x3 h3
    have hz : (⟨#[]⟩ : ByteArray).size = 0 := rfl
    have := refWrite_l0 x3 n.natAbs n rfl (by omega) h0 h1 ⟨#[]⟩ (by omega)
    simp only [List.append_nil] at this
    exact Ev.step (fun k => by simp only [fescueref01_Write.j0]) this
  rcases Int.lt_trichotomy n 0 with h | h | h
  · rw [itoaL_neg n h]
    refine Ev.congr (fun k => ?_) (key ⟨#[45]⟩ (by decide))
    simp only [fescueref01_Write.f]
    rw [if_neg (by omega), if_pos h]
  · subst h
    refine Ev.congr (fun k => ?_) (Ev.now _)
    rfl
  · rw [itoaL_pos n h]
    refine Ev.congr (fun k => ?_) (key ⟨#[]⟩ (by decide))
    simp only [fescueref01_Write.f]
    rw [if_neg (by omega), if_neg (by omega)]

theorem bt_get (s : ByteArray) (i : Nat) (h : i < s.size) : bt s (i : Int) = (s[i].toNat : Int) := by
  unfold bt
  simp only [Int.toNat_natCast]
  rw [dif_pos h]
theorem mod_step (d c M : Nat) (h1 : 48 ≤ c) : ((10 * ((d % M : Nat) : Int) % (M : Int) + (c : Int) % (M : Int)) % (M : Int) - 48) % (M : Int) = ((10 * d + (c - 48)) % M : Nat) := by
  have e1 : (10 * ((d % M : Nat) : Int)) % (M : Int) = (10 * (d : Int)) % (M : Int) := by
    rw [Int.natCast_emod, Int.mul_emod, Int.emod_emod_of_dvd _ (Int.dvd_refl _), ← Int.mul_emod]
  have e2 : ((10 * d + (c - 48) : Nat) : Int) = 10 * (d : Int) + c - 48 := by omega
  rw [e1, ← Int.add_emod, Int.sub_emod, Int.emod_emod_of_dvd _ (Int.dvd_refl _), ← Int.sub_emod, Int.natCast_emod, e2]
/-- The reference's loop over the digits from 'i' on. -/
theorem refRead_l0 (s : ByteArray) (hs : s.size ≤ 20) (x4 : Int) (at_ : Nat) (r : Int × Int)
    (hend : ∀ x5 : Int, (s.data.toList.drop at_).all isDig = true → x5 = (decVal (s.data.toList.drop at_) % 18446744073709551616 : Nat) →
      Ev (fun k => if x4 = 1 then ((fescueref01_Write.f k (wrap64 (-(wrap64 (x5))))).bind fun t109 => (if t109.toList = s.toList then (some (wrap64 (-(wrap64 (x5))), 0)) else (some (0, 10)))) else ((fescueref01_Write.f k (wrap64 (x5))).bind fun t110 => (if t110.toList = s.toList then (some (wrap64 (x5), 0)) else (some (0, 10))))) r)
    (hbad : (s.data.toList.drop at_).all isDig = false → r = (0, 10)) :
    ∀ (d i : Nat), s.size - i = d → at_ ≤ i → i ≤ s.size → ∀ x5 : Int, ((s.data.toList.drop at_).take (i - at_)).all isDig = true → x5 = (decVal ((s.data.toList.drop at_).take (i - at_)) % 18446744073709551616 : Nat) →
      Ev (fun k => fescueref01_Read.l0 k s x4 x5 i) r := by
  have hL : s.data.toList.length = s.size := by simp
  intro d
  induction d with
  | zero =>
    intro i hd ha hi x5 hall hx
    have he : (s.data.toList.drop at_).take (i - at_) = s.data.toList.drop at_ := List.take_of_length_le (by rw [List.length_drop]; omega)
    rw [he] at hall hx
    refine Ev.step (fun k => ?_) (hend x5 hall hx)
    simp only [fescueref01_Read.l0]
    rw [if_neg (by omega)]
  | succ d ih =>
    intro i hd ha hi x5 hall hx
    have hlt : i < s.size := by omega
    have f1 : s.size - (i + 1) = d := by omega
    have f2 : at_ ≤ i + 1 := by omega
    have f3 : i + 1 ≤ s.size := by omega
    have g1 : (i : Int) < (s.size : Int) := by omega
    have g2 : 0 ≤ (i : Int) := by omega
    have HX := Lib.hid hx
    clear hx
    have hw0 : wrap64 ((i : Int) + 1) = ((i + 1 : Nat) : Int) := by unfold wrap64; omega
    have hw := Lib.hid hw0
    clear hw0
    have hb := bt_get s i hlt
    have hg : (s.data.toList.drop at_)[i - at_]'(by rw [List.length_drop]; omega) = s[i] := by
      rw [List.getElem_drop]
      have : at_ + (i - at_) = i := by omega
      simp only [this]
      rfl
    have hts : (s.data.toList.drop at_).take (i + 1 - at_) = (s.data.toList.drop at_).take (i - at_) ++ [s[i]] := by
      have : i + 1 - at_ = (i - at_) + 1 := by omega
      rw [this, List.take_succ_eq_append_getElem (by rw [List.length_drop]; omega), hg]
    have hno : ¬ (48 ≤ s[i].toNat ∧ s[i].toNat ≤ 57) → r = (0, 10) := by
      intro h
      apply hbad
      rw [List.all_eq_false]
      refine ⟨s[i], ?_, by simp [isDig]; omega⟩
      rw [← hg]
      exact List.getElem_mem _
    by_cases h1 : s[i].toNat < 48
    · refine Ev.step (f := fun _ => some r) (fun k => ?_) (Ev.now _)
      simp only [fescueref01_Read.l0]
      rw [if_pos g1, if_pos g2, hb, if_pos (by omega), hno (by omega)]
    · by_cases h2 : 57 < s[i].toNat
      · refine Ev.step (f := fun _ => some r) (fun k => ?_) (Ev.now _)
        simp only [fescueref01_Read.l0]
        rw [if_pos g1, if_pos g2, hb, if_neg (by omega), if_pos (by omega), hno (by omega)]
      · refine Ev.step (fun k => ?_) (ih (i + 1) f1 f2 f3 (IntKind.u64.wrap ((IntKind.u64.wrap ((IntKind.u64.wrap (10 * x5)) + (IntKind.u64.wrap (bt s i)))) - 48)) ?_ ?_)
        · simp only [fescueref01_Read.l0]
          rw [if_pos g1, if_pos g2, hb, if_neg (by omega), if_neg (by omega), hw.out]
        · rw [hts, List.all_append, hall]
          simp [isDig]
          omega
        · rw [hts, decVal_snoc, hb]
          have e : ∀ z : Int, IntKind.u64.wrap z = z % 18446744073709551616 := fun z => by simp [IntKind.wrap, IntKind.signed, IntKind.bits]
          rw [e, e, e, e, HX.out]
          have hms := mod_step (decVal (List.take (i - at_) (List.drop at_ s.data.toList))) s[i].toNat 18446744073709551616 (by omega)
          exact hms
theorem wrapEnd (x : Nat) (hx : x < 10000000000000000000) (m : Int) (hm : m = wrap64 ((x % 18446744073709551616 : Nat) : Int)) : -9223372036854775808 ≤ m ∧ m ≤ 9223372036854775807 ∧ -9223372036854775808 ≤ wrap64 (-m) ∧ wrap64 (-m) ≤ 9223372036854775807 := by
  subst hm
  unfold wrap64
  omega
theorem natAbs_wrap (n : Int) (h0 : -9223372036854775808 ≤ n) (h1 : n ≤ 9223372036854775807) : (0 ≤ n → wrap64 ((n.natAbs % 18446744073709551616 : Nat) : Int) = n) ∧ (n < 0 → wrap64 (-wrap64 ((n.natAbs % 18446744073709551616 : Nat) : Int)) = n) := by
  unfold wrap64
  omega
/-- What both sides answer, out of the text's digits. -/
theorem readL_of (l r : List UInt8) (minus : Bool) (hr : if minus = true then l = 45 :: r else l = r ∧ l.head? ≠ some 45) (hl : r.length ≤ 19) :
    readL l = if r.all isDig = true then (if itoaL (if minus then wrap64 (-wrap64 ((decVal r % 18446744073709551616 : Nat) : Int)) else wrap64 ((decVal r % 18446744073709551616 : Nat) : Int)) = l then ((if minus then wrap64 (-wrap64 ((decVal r % 18446744073709551616 : Nat) : Int)) else wrap64 ((decVal r % 18446744073709551616 : Nat) : Int)), 0) else (0, 10)) else (0, 10) := by
  by_cases hall : r.all isDig = true
  · rw [if_pos hall]
    have h1 := decVal_lt r hall
    have h2 : 10 ^ r.length ≤ 10 ^ 19 := Nat.pow_le_pow_right (by omega) hl
    have hb := wrapEnd (decVal r) (by omega) _ rfl
    have hrange : -9223372036854775808 ≤ (if minus then wrap64 (-wrap64 ((decVal r % 18446744073709551616 : Nat) : Int)) else wrap64 ((decVal r % 18446744073709551616 : Nat) : Int)) ∧ (if minus then wrap64 (-wrap64 ((decVal r % 18446744073709551616 : Nat) : Int)) else wrap64 ((decVal r % 18446744073709551616 : Nat) : Int)) ≤ 9223372036854775807 := by
      cases minus
      · simp only [Bool.false_eq_true, if_false]; omega
      · simp only [if_true]; omega
    by_cases he : itoaL (if minus then wrap64 (-wrap64 ((decVal r % 18446744073709551616 : Nat) : Int)) else wrap64 ((decVal r % 18446744073709551616 : Nat) : Int)) = l
    · rw [if_pos he]
      conv => lhs; rw [← he]
      exact readL_itoa _ hrange.1 hrange.2
    · rw [if_neg he]
      rcases readL_inv l with ⟨n, hn, hln, h3, h4⟩ | h
      · exfalso
        apply he
        have hw := natAbs_wrap n h3 h4
        have : (if minus then wrap64 (-wrap64 ((decVal r % 18446744073709551616 : Nat) : Int)) else wrap64 ((decVal r % 18446744073709551616 : Nat) : Int)) = n := by
          rcases (show n < 0 ∨ n = 0 ∨ 0 < n by omega) with hs | hs | hs
          · rw [itoaL_neg n hs] at hln
            cases minus
            · simp only [Bool.false_eq_true, if_false] at hr
              rw [hln] at hr
              exact absurd rfl hr.2
            · simp only [if_true] at hr
              rw [hr] at hln
              injection hln with _ hln
              rw [hln, ds_val]
              simp only [if_true]
              exact hw.2 hs
          · subst hs
            rw [itoaL_zero] at hln
            cases minus
            · simp only [Bool.false_eq_true, if_false] at hr
              rw [← hr.1, hln]
              simp only [Bool.false_eq_true, if_false]
              unfold wrap64
              decide
            · simp only [if_true] at hr
              rw [hr] at hln
              cases hln
          · rw [itoaL_pos n hs] at hln
            cases minus
            · simp only [Bool.false_eq_true, if_false] at hr
              rw [← hr.1, hln, ds_val]
              simp only [Bool.false_eq_true, if_false]
              exact hw.1 (by omega)
            · simp only [if_true] at hr
              have := (ds_head n.natAbs (by omega)).2
              rw [← hln, hr] at this
              exact absurd rfl this
        rw [this, hln]
      · exact h
  · rw [if_neg hall]
    have hall' : r.all isDig = false := by simpa using hall
    cases minus
    · simp only [Bool.false_eq_true, if_false] at hr
      rw [readL_plain l hr.2, hr.1, if_pos hall']
      split <;> rfl
    · simp only [if_true] at hr
      rw [hr, readL_minus, if_pos hall']
      split <;> rfl
theorem readL_long (l : List UInt8) (h : 20 < l.length ∨ (l.head? ≠ some 45 ∧ 19 < l.length)) : readL l = (0, 10) := by
  by_cases hm : l.head? = some 45
  · obtain ⟨t, rfl⟩ : ∃ t, l = 45 :: t := by
      cases l with
      | nil => cases hm
      | cons x t => simp at hm; exact ⟨t, by rw [hm]⟩
    rw [readL_minus, if_pos]
    simp at h
    omega
  · rw [readL_plain l hm, if_pos]
    omega
theorem refRead (s : ByteArray) : Ev (fun k => fescueref01_Read.f k s) (readL s.data.toList) := by
  have hL : s.data.toList.length = s.size := by simp
  by_cases h0 : s.size < 1
  · have : s.data.toList = [] := List.eq_nil_of_length_eq_zero (by omega)
    rw [this]
    refine Ev.congr (fun k => ?_) (Ev.step (g := fun k => fescueref01_Read.j0 k s true) (fun k => ?_) (Ev.now _))
    · simp only [fescueref01_Read.f]; rw [if_pos (by omega)]
    · simp only [fescueref01_Read.j0, if_true]; rfl
  by_cases h20 : 20 < s.size
  · rw [readL_long _ (.inl (by omega))]
    refine Ev.congr (fun k => ?_) (Ev.step (g := fun k => fescueref01_Read.j0 k s true) (fun k => ?_) (Ev.now _))
    · simp only [fescueref01_Read.f]; rw [if_neg (by omega), decide_eq_true (by omega)]
    · simp only [fescueref01_Read.j0, if_true]
  have hb := bt_get s 0 (by omega)
  have hcons : s.data.toList = s[0]'(by omega) :: s.data.toList.drop 1 := by
    cases e : s.data.toList with
    | nil => rw [e] at hL; simp at hL; omega
    | cons x t =>
      have : s.data.toList[0]'(by omega) = x := by simp [e]
      rw [List.drop_one, List.tail_cons, ← this]; rfl
  have hfin : ∀ (minus : Bool) (x4 : Int) (at_ : Nat), (x4 = if minus then 1 else 0) → x4 = (at_ : Int) → at_ ≤ s.size → (if minus = true then s.data.toList = 45 :: s.data.toList.drop at_ else s.data.toList = s.data.toList.drop at_ ∧ s.data.toList.head? ≠ some 45) →
      Ev (fun k => fescueref01_Read.j1 k s x4) (readL s.data.toList) := by
    intro minus x4 at_ hx4 hat hle hr
    have hw : wrap64 ((s.size : Int) - x4) = (s.size : Int) - x4 := by unfold wrap64; omega
    have hdl : (s.data.toList.drop at_).length = s.size - at_ := by rw [List.length_drop, hL]
    by_cases h19 : 19 < s.size - at_
    · have : readL s.data.toList = (0, 10) := by
        apply readL_long
        cases minus
        · simp only [Bool.false_eq_true, if_false] at hr hx4
          exact .inr ⟨hr.2, by omega⟩
        · simp only [if_true] at hx4
          exact .inl (by omega)
      rw [this]
      refine Ev.step (f := fun _ => some (0, 10)) (fun k => ?_) (Ev.now _)
      simp only [fescueref01_Read.j1]
      rw [hw, if_pos (by omega)]
    · have hof := readL_of s.data.toList (s.data.toList.drop at_) minus hr (by omega)
      refine Ev.step (f := fun k => fescueref01_Read.l0 k s x4 0 x4) (fun k => ?_) ?_
      · simp only [fescueref01_Read.j1]
        rw [hw, if_neg (by omega)]
      · have := refRead_l0 s (by omega) x4 at_ (readL s.data.toList) ?_ ?_ (s.size - at_) at_ rfl (Nat.le_refl _) hle 0 (by simp) (by simp [decVal])
        · rw [← hat] at this; exact this
        · intro x5 hall hx5
          rw [hof, if_pos hall]
          have h1 := decVal_lt _ hall
          have h2 : 10 ^ (s.data.toList.drop at_).length ≤ 10 ^ 19 := Nat.pow_le_pow_right (by omega) (by omega)
          have hb := wrapEnd (decVal (s.data.toList.drop at_)) (by omega) _ rfl
          rw [hx5]
          cases minus
          · simp only [Bool.false_eq_true, if_false] at hx4 ⊢
            refine Ev.congr (fun k => if_neg (by omega)) ?_
            refine Ev.bind (refWrite _ hb.1 hb.2.1) ?_
            refine Ev.congr (f := fun _ => some _) (fun k => ?_) (Ev.now _)
            rw [ByteArray.toList_eq, ByteArray.toList_eq, ba_list]
            split <;> rfl
          · simp only [if_true] at hx4 ⊢
            refine Ev.congr (fun k => if_pos (by omega)) ?_
            refine Ev.bind (refWrite _ hb.2.2.1 hb.2.2.2) ?_
            refine Ev.congr (f := fun _ => some _) (fun k => ?_) (Ev.now _)
            rw [ByteArray.toList_eq, ByteArray.toList_eq, ba_list]
            split <;> rfl
        · intro hbad
          rw [hof, if_neg (by rw [hbad]; simp)]
  refine Ev.congr (f := fun k => fescueref01_Read.j0 k s false) (fun k => ?_) ?_
  · simp only [fescueref01_Read.f]; rw [if_neg (by omega), decide_eq_false (by omega)]
  by_cases h45 : s[0]'(by omega) = 45
  · refine Ev.step (f := fun k => fescueref01_Read.j1 k s 1) (fun k => ?_) (hfin true 1 1 rfl rfl (by omega) ?_)
    · simp only [fescueref01_Read.j0]
      rw [if_neg (by simp), if_pos (by omega)]
      rw [show bt s 0 = 45 from by rw [show (0 : Int) = ((0 : Nat) : Int) from rfl, hb, h45]; rfl, if_pos rfl]
    · simp only [if_true]; rw [← h45]; exact hcons
  · refine Ev.step (f := fun k => fescueref01_Read.j1 k s 0) (fun k => ?_) (hfin false 0 0 rfl rfl (by omega) ?_)
    · simp only [fescueref01_Read.j0]
      rw [if_neg (by simp), if_pos (by omega)]
      rw [if_neg]
      rw [show (0 : Int) = ((0 : Nat) : Int) from rfl, hb]
      intro e
      apply h45
      apply UInt8.toNat_inj.1
      have : (45 : UInt8).toNat = 45 := rfl
      omega
    · simp only [Bool.false_eq_true, if_false]
      refine ⟨by simp, ?_⟩
      rw [hcons]
      intro e
      simp at e
      exact h45 e
/-- A small number, as both sides tell it. -/
def smallL (l : List UInt8) (most : Int) : Int × Int :=
  if most < 0 ∨ 1000000 < most then (0, 2) else if (readL l).2 = 0 ∧ 0 ≤ (readL l).1 ∧ (readL l).1 ≤ most then ((readL l).1, 0) else (0, 10)
theorem small_tail (r : Int × Int) (x1 : Int) : (if r.2 = 0 then (if r.1 < 0 then (some ((0 : Int), (10 : Int))) else (if r.1 > x1 then (some (0, 10)) else (some (r.1, 0)))) else (some (0, 10))) = some (if r.2 = 0 ∧ 0 ≤ r.1 ∧ r.1 ≤ x1 then (r.1, 0) else (0, 10)) := by
  by_cases h : r.2 = 0
  · rw [if_pos h]
    by_cases h1 : r.1 < 0
    · rw [if_pos h1, if_neg (by omega)]
    · rw [if_neg h1]
      by_cases h2 : r.1 > x1
      · rw [if_pos h2, if_neg (by omega)]
      · rw [if_neg h2, if_pos (by omega)]
  · rw [if_neg h, if_neg (by omega)]
end Go.Proofs.Ytcildbgckgodhaa
