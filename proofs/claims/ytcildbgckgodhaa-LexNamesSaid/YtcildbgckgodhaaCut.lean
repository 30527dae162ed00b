/- Plain: what stands between a byte; the words of a line; the lines. No program in sight but for the printed function 'cut'. -/
import Derived.Test.YtcildbgckgodhaaXx3
import Derived.Test.YtcildbgckgodhaaLexF
namespace Go.Proofs.Ytcildbgckgodhaa
open Go.RowKit Go.Proofs.Ytcildbgckgodhaa.X Go.Proofs.YtcildbgckgodhaaW.PrintWords Go.Proofs.YtcildbgckgodhaaW.PrintLast
set_option linter.unusedVariables false
set_option linter.unusedSimpArgs false
def mkB (l : List UInt8) : ByteArray := ⟨l.toArray⟩
theorem mkB_data (l : List UInt8) : (mkB l).data.toList = l := by simp [mkB]
theorem mkB_of (a : ByteArray) : mkB a.data.toList = a := by cases a; simp [mkB]
/-- A list's pieces between a byte: never none. -/
def splitL (c : UInt8) : List UInt8 → List (List UInt8)
  | [] => [[]]
  | x :: t => if x = c then [] :: splitL c t else match splitL c t with
    | [] => [[x]]
    | h :: r => (x :: h) :: r
def joinHead (p : List UInt8) (l : List (List UInt8)) : List (List UInt8) := match l with
  | [] => [p]
  | h :: r => (p ++ h) :: r
theorem splitL_ne (c : UInt8) (l : List UInt8) : splitL c l ≠ [] := by
  cases l with
  | nil => simp [splitL]
  | cons x t => unfold splitL; split; exact (by simp); split <;> simp
theorem splitL_cons (c x : UInt8) (t : List UInt8) (h : x ≠ c) : splitL c (x :: t) = joinHead [x] (splitL c t) := by
  rw [splitL, if_neg h]
  cases splitL c t <;> simp [joinHead]
theorem splitL_hit (c : UInt8) (t : List UInt8) : splitL c (c :: t) = [] :: splitL c t := by rw [splitL, if_pos rfl]
theorem joinHead_nil (c : UInt8) (l : List UInt8) : joinHead [] (splitL c l) = splitL c l := by
  have := splitL_ne c l
  cases h : splitL c l with
  | nil => exact absurd h this
  | cons x t => simp [joinHead]
theorem joinHead_snoc (p : List UInt8) (x : UInt8) (l : List (List UInt8)) (h : l ≠ []) : joinHead (p ++ [x]) l = joinHead p (joinHead [x] l) := by
  cases l with
  | nil => exact absurd rfl h
  | cons a t => simp [joinHead]
theorem splitL_len (c : UInt8) (l : List UInt8) : (splitL c l).length ≤ l.length + 1 := by
  induction l with
  | nil => simp [splitL]
  | cons x t ih =>
    by_cases h : x = c
    · subst h; rw [splitL_hit]; simp; omega
    · rw [splitL_cons _ _ _ h]
      have := splitL_ne c t
      cases hs : splitL c t with
      | nil => exact absurd hs this
      | cons a b => rw [hs] at ih; simp [joinHead] at ih ⊢; omega
theorem bt_get' (s : ByteArray) (i : Nat) (h : i < s.size) : bt s (i : Int) = (s[i].toNat : Int) := by
  unfold bt
  simp only [Int.toNat_natCast]
  rw [dif_pos h]
theorem ext_mk (s : ByteArray) (a b : Nat) : s.extract a b = mkB ((s.data.toList.drop a).take (b - a)) := by
  have e : (s.extract a b).data.toList = (s.data.toList.drop a).take (b - a) := by simp
  rw [← e, mkB_of]
theorem refCut_l0 (s : ByteArray) (c : UInt8) (hs : s.size ≤ 1000000) : ∀ (d i : Nat), s.size - i = d → i ≤ s.size → ∀ (from_ : Nat) (out : List ByteArray), from_ ≤ i → out.length ≤ i →
    Ev (fun k => fescueref05_cut.l0 k s (c.toNat : Int) out (from_ : Int) (i : Int)) (out ++ (joinHead ((s.data.toList.drop from_).take (i - from_)) (splitL c (s.data.toList.drop i))).map mkB) := by
  intro d
  induction d with
  | zero =>
    intro i hd hi from_ out hf ho
    have he : i = s.size := by omega
    have hnil : s.data.toList.drop i = [] := List.drop_eq_nil_of_le (by simp; omega)
    refine Ev.step (f := fun _ => some (out ++ [s.extract from_ s.size])) (fun k => ?_) (Ev.congr (f := fun _ => some _) (fun k => ?_) (Ev.now _))
    · simp only [fescueref05_cut.l0]
      rw [if_neg (by omega), if_pos (by omega), if_pos (by omega), if_pos (by omega)]
      simp
    · rw [hnil, splitL, joinHead, ext_mk, he]
      simp
  | succ d ih =>
    intro i hd hi from_ out hf ho
    have hlt : i < s.size := by omega
    have hdc := drop_cons s i hlt
    have hb := bt_get' s i hlt
    have g1 : (i : Int) < (s.size : Int) := by omega
    have g2 : 0 ≤ (i : Int) := by omega
    have hw : wrap64 ((i : Int) + 1) = ((i + 1 : Nat) : Int) := by unfold wrap64; omega
    by_cases h : s[i] = c
    · have hbc : bt s (i : Int) = (c.toNat : Int) := by rw [hb, h]
      refine Ev.step (f := fun k => fescueref05_cut.l0 k s (c.toNat : Int) (out ++ [s.extract from_ i]) ((i + 1 : Nat) : Int) ((i + 1 : Nat) : Int)) (fun k => ?_) ?_
      · simp only [fescueref05_cut.l0]
        rw [if_pos g1, if_pos g2, if_pos hbc, if_pos (by omega), if_pos (by omega), if_pos (by omega), if_pos (by omega), hw]
        simp
      · have := ih (i + 1) (by omega) (by omega) (i + 1) (out ++ [s.extract from_ i]) (Nat.le_refl _) (by simp; omega)
        rw [Nat.sub_self, List.take_zero, joinHead_nil] at this
        rw [hdc, h, splitL_hit, joinHead, ext_mk] at *
        simpa using this
    · have hbc : ¬ bt s (i : Int) = (c.toNat : Int) := by
        rw [hb]
        intro e
        exact h (UInt8.toNat_inj.1 (by omega))
      refine Ev.step (f := fun k => fescueref05_cut.l0 k s (c.toNat : Int) out (from_ : Int) ((i + 1 : Nat) : Int)) (fun k => ?_) ?_
      · simp only [fescueref05_cut.l0]
        rw [if_pos g1, if_pos g2, if_neg hbc, hw]
      · have := ih (i + 1) (by omega) (by omega) from_ out (by omega) (by omega)
        have et : (s.data.toList.drop from_).take (i + 1 - from_) = (s.data.toList.drop from_).take (i - from_) ++ [s[i]] := by
          have e1 : i + 1 - from_ = (i - from_) + 1 := by omega
          rw [e1, List.take_succ_eq_append_getElem (by rw [List.length_drop]; simp; omega), List.getElem_drop]
          have e2 : from_ + (i - from_) = i := by omega
          simp only [e2]
          rfl
        rw [et, joinHead_snoc _ _ _ (splitL_ne c _), ← splitL_cons c _ _ h, ← hdc] at this
        exact this
theorem refCut (s : ByteArray) (c : UInt8) (hs : s.size ≤ 1000000) : Ev (fun k => fescueref05_cut.f k s (c.toNat : Int)) ((splitL c s.data.toList).map mkB) := by
  have := refCut_l0 s c hs s.size 0 rfl (Nat.zero_le _) 0 [] (Nat.le_refl _) (by simp)
  rw [List.nil_append, List.drop_zero, Nat.sub_zero, List.take_zero, joinHead_nil] at this
  exact this
end Go.Proofs.Ytcildbgckgodhaa
