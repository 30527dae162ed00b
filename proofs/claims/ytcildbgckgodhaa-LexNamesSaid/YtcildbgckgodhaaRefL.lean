/- Plain: what the document's lines and mark answer, as the printed functions say it. -/
import Derived.Test.YtcildbgckgodhaaXx4
import Derived.Test.YtcildbgckgodhaaLines
import Derived.Test.YtcildbgckgodhaaSmall
import Derived.Test.YtcildbgckgodhaaRef1S
namespace Go.Proofs.Ytcildbgckgodhaa
open Go.RowKit Go.Proofs.Ytcildbgckgodhaa.X Go.Proofs.YtcildbgckgodhaaW.PrintWords Go.Proofs.YtcildbgckgodhaaW.PrintLast
set_option linter.unusedVariables false
theorem wordsOf_eq (p : List UInt8) (h : p.length ≤ 1000000) : fescueref05_wordsOf.f (mkB p) = some (wordsL p) := by
  unfold fescueref05_wordsOf.f
  rw [mkB_size, if_pos h, mkB_data]
def ansL (o : Option (List (List ByteArray))) : List (List ByteArray) × Int := match o with
  | some r => (r, 0)
  | none => ([], 4)
theorem refLines_l0 (P : List (List UInt8)) (hP : ∀ p ∈ P, p.length ≤ 1000000) (hl : P.length ≤ 1000000) : ∀ (d i : Nat), P.length - i = d → i ≤ P.length → ∀ out : List (List ByteArray), out.length ≤ i →
    Ev (fun k => fescueref05_Lines.l0 k out (P.map mkB) (i : Int)) (ansL (goL (P.drop i) out)) := by
  intro d
  induction d with
  | zero =>
    intro i hd hi out ho
    have he : i = P.length := by omega
    refine Ev.step (f := fun _ => some (out, 0)) (fun k => ?_) (Ev.congr (f := fun _ => some _) (fun k => ?_) (Ev.now _))
    · simp only [fescueref05_Lines.l0]
      rw [if_neg (by simp; omega)]
    · rw [List.drop_eq_nil_of_le (by omega)]; rfl
  | succ d ih =>
    intro i hd hi out ho
    have hlt : i < P.length := by omega
    have hw : wrap64 ((i : Int) + 1) = ((i + 1 : Nat) : Int) := by unfold wrap64; omega
    have hr : rdOf ByteArray.empty (P.map mkB) (i : Int) = mkB P[i] := by unfold rdOf; simp [hlt]
    have hdr : P.drop i = P[i] :: P.drop (i + 1) := List.drop_eq_getElem_cons hlt
    have hwo := wordsOf_eq P[i] (hP _ (List.getElem_mem hlt))
    by_cases h : (wordsL P[i]).length ≤ 64
    · refine Ev.step (f := fun k => fescueref05_Lines.l0 k (endL out (wordsL P[i])) (P.map mkB) ((i + 1 : Nat) : Int)) (fun k => ?_) ?_
      · simp only [fescueref05_Lines.l0]
        rw [if_pos (by simp; omega), if_pos (by omega), hr, hwo, Option.bind_some, if_neg (by omega)]
        by_cases hn : wordsL P[i] = []
        · rw [hn, if_neg (by simp), hw]; simp [endL]
        · have : 0 < (wordsL P[i]).length := List.length_pos_iff.2 hn
          rw [if_pos (by omega), if_pos (by omega), hw]; simp [endL, hn]
      · have := ih (i + 1) (by omega) (by omega) (endL out (wordsL P[i])) (by unfold endL; split; exact (by omega); simp; omega)
        rw [hdr, goL, if_pos h]
        exact this
    · refine Ev.step (f := fun _ => some ([], 4)) (fun k => ?_) (Ev.congr (f := fun _ => some _) (fun k => ?_) (Ev.now _))
      · simp only [fescueref05_Lines.l0]
        rw [if_pos (by simp; omega), if_pos (by omega), hr, hwo, Option.bind_some, if_pos (by omega)]
      · rw [hdr, goL, if_neg h]; rfl
theorem splitL_mem (c : UInt8) (l : List UInt8) : ∀ p ∈ splitL c l, p.length ≤ l.length := by
  induction l with
  | nil => simp [splitL]
  | cons x t ih =>
    intro p hp
    by_cases h : x = c
    · subst h
      rw [splitL_hit] at hp
      rcases List.mem_cons.1 hp with rfl | hp
      · simp
      · have := ih p hp; simp; omega
    · rw [splitL_cons _ _ _ h] at hp
      have hne := splitL_ne c t
      cases hs : splitL c t with
      | nil => exact absurd hs hne
      | cons a b =>
        rw [hs] at hp ih
        simp only [joinHead] at hp
        rcases List.mem_cons.1 hp with rfl | hp
        · have := ih a (by simp); simp; omega
        · have := ih p (by simp [hp]); simp; omega
theorem linesP_ans (s : ByteArray) (h : s.size ≤ 16384) : linesP s = ansL (goL (splitL 10 s.data.toList) []) := by
  unfold linesP ansL
  rw [if_neg (by omega), lexF_goL]
  rfl
theorem refLines (s : ByteArray) : Ev (fun k => fescueref05_Lines.f k s) (linesP s) := by
  by_cases h : s.size ≤ 16384
  · have h1 : ¬ ((s.size : Int) > 16384) := by omega
    have hsz : s.data.toList.length = s.size := by simp
    refine Ev.congr (f := fun k => (fescueref05_cut.f k s 10).bind fun t => fescueref05_Lines.l0 k [] t 0) (fun k => by simp only [fescueref05_Lines.f]; rw [if_neg h1]) ?_
    refine Ev.bind (refCut s 10 (by omega)) ?_
    have := refLines_l0 (splitL 10 s.data.toList) (fun p hp => by have := splitL_mem _ _ p hp; omega) (by have := splitL_len 10 s.data.toList; omega) _ 0 rfl (Nat.zero_le _) [] (by simp)
    rw [linesP_ans s h]
    exact this
  · have h1 : (s.size : Int) > 16384 := by omega
    refine Ev.congr (f := fun _ => some ([], 4)) (fun k => by simp only [fescueref05_Lines.f]; rw [if_pos h1]) (Ev.congr (f := fun _ => some _) (fun k => ?_) (Ev.now _))
    unfold linesP
    rw [if_pos (by omega)]
/-- Two equal lists are the same. -/
theorem same_l (l : List (List ByteArray)) (hl : l.length ≤ 1000000) (hr : ∀ x ∈ l, x.length ≤ 1000000) : ∀ (d i : Nat), l.length - i = d → i ≤ l.length → Ev (fun k => fescueref05_Same.l0 k l l (i : Int)) true := by
  intro d
  induction d with
  | zero =>
    intro i hd hi
    refine Ev.step (f := fun _ => some true) (fun k => ?_) (Ev.now _)
    simp only [fescueref05_Same.l0]
    rw [if_neg (by omega)]
  | succ d ih =>
    intro i hd hi
    have hlt : i < l.length := by omega
    have hw : wrap64 ((i : Int) + 1) = ((i + 1 : Nat) : Int) := by unfold wrap64; omega
    have hrd : rd_L2 l (i : Int) = l[i] := by unfold rd_L2; simp [hlt]
    have hl1 : l[i].length ≤ 1000000 := hr _ (List.getElem_mem hlt)
    have inner : ∀ (e j : Nat), l[i].length - j = e → j ≤ l[i].length → Ev (fun k => fescueref05_Same.l1 k l l (i : Int) (j : Int)) true := by
      intro e
      induction e with
      | zero =>
        intro j he hj
        refine Ev.step (f := fun k => fescueref05_Same.l0 k l l ((i + 1 : Nat) : Int)) (fun k => ?_) (ih (i + 1) (by omega) (by omega))
        simp only [fescueref05_Same.l1]
        rw [if_pos (by omega), if_pos (by omega), hrd, if_neg (by omega), hw]
      | succ e ih2 =>
        intro j he hj
        have hw2 : wrap64 ((j : Int) + 1) = ((j + 1 : Nat) : Int) := by unfold wrap64; omega
        refine Ev.step (f := fun k => fescueref05_Same.l1 k l l (i : Int) ((j + 1 : Nat) : Int)) (fun k => ?_) (ih2 (j + 1) (by omega) (by omega))
        simp only [fescueref05_Same.l1]
        rw [if_pos (by omega), if_pos (by omega), hrd, if_pos (by omega), if_pos (by omega), if_pos (by omega), if_pos (by omega), if_pos trivial, hw2]
    refine Ev.step (f := fun k => fescueref05_Same.l1 k l l (i : Int) ((0 : Nat) : Int)) (fun k => ?_) (inner _ 0 rfl (Nat.zero_le _))
    simp only [fescueref05_Same.l0]
    rw [if_pos (by omega), if_pos (by omega), if_pos (by omega), if_pos trivial]
    rfl
theorem same_eq (l : List (List ByteArray)) (hl : l.length ≤ 1000000) (hr : ∀ x ∈ l, x.length ≤ 1000000) : Ev (fun k => fescueref05_Same.f k l l) true := by
  refine Ev.congr (f := fun k => fescueref05_Same.l0 k l l 0) (fun k => by simp only [fescueref05_Same.f]; rw [if_pos trivial]) ?_
  exact same_l l hl hr _ 0 rfl (Nat.zero_le _)
theorem same_lines (s : ByteArray) : Ev (fun k => fescueref05_Same.f k (linesP s).1 (linesP s).1) true := by
  obtain ⟨h1, h2⟩ := linesP_len s
  exact same_eq _ (by omega) (fun x hx => by have := h2 x hx; omega)
/-- A letter and a number behind it. -/
def markL (l : List UInt8) (c : Int) : Int × Int := match l with
  | [] => (0, 10)
  | x :: t => if (x.toNat : Int) = c then smallL t 999 else (0, 10)
theorem small_two (l : List UInt8) : ((smallL l 999).2 = 0 ∨ smallL l 999 = (0, 10)) := by
  unfold smallL
  rw [if_neg (by omega)]
  split
  · exact .inl rfl
  · exact .inr rfl
theorem ext_one (s : ByteArray) (x t) (h : s.data.toList = x :: t) : (s.extract 1 s.size).data.toList = t := by
  have hs : s.size = t.length + 1 := by have : s.data.toList.length = s.size := by simp
                                        rw [h] at this; simpa using this.symm
  rw [ext_mk, mkB_data, h, hs]; simp
theorem refMark (s : ByteArray) (c : Int) : Ev (fun k => fescueref05_Mark.f k s c) (markL s.data.toList c) := by
  have hsz : s.data.toList.length = s.size := by simp
  cases h : s.data.toList with
  | nil =>
    have h0 : s.toList = [] := by rw [ByteArray.toList_eq, h]
    refine Ev.congr (f := fun k => fescueref05_Mark.j0 k s true) (fun k => by simp only [fescueref05_Mark.f]; rw [if_pos h0]) ?_
    exact Ev.step (f := fun _ => some (0, 10)) (fun k => by simp only [fescueref05_Mark.j0]; rw [if_pos trivial]) (Ev.now _)
  | cons x t =>
    have h0 : ¬ s.toList = [] := by rw [ByteArray.toList_eq, h]; simp
    have hs : s.size = t.length + 1 := by rw [h] at hsz; simpa using hsz.symm
    have hx : s[0]'(by omega) = x := by
      have e : s[0]'(by omega) = s.data.toList[0]'(by rw [hsz]; omega) := rfl
      rw [e]; simp [h]
    have hb : bt s 0 = (x.toNat : Int) := by have := bt_get' s 0 (by omega); rw [hx] at this; exact this
    refine Ev.congr (f := fun k => fescueref05_Mark.j0 k s ((bt s 0) != c)) (fun k => by simp only [fescueref05_Mark.f]; rw [if_neg h0, if_pos (by omega)]) ?_
    rw [hb]
    by_cases hc : (x.toNat : Int) = c
    · have hm : markL (x :: t) c = smallL t 999 := by simp only [markL]; rw [if_pos hc]
      rw [hm]
      have hd : (((x.toNat : Int) != c) = true) = False := by simp [hc]
      refine Ev.step (f := fun k => (fescueref01_Small.f k (s.extract 1 s.size) 999).bind fun b => if b.2 = 0 then some (b.1, 0) else some (0, 10)) (fun k => ?_) ?_
      · simp only [fescueref05_Mark.j0]
        rw [if_neg (by rw [hd]; exact id), if_pos (by omega)]
      · have := refSmall (s.extract 1 s.size) 999
        rw [ext_one s x t h] at this
        refine Ev.bind this (Ev.congr (f := fun _ => some _) (fun k => ?_) (Ev.now _))
        rcases small_two t with h2 | h2
        · rw [if_pos h2]; congr 1; exact Prod.ext rfl h2.symm
        · rw [h2]; rfl
    · have hm : markL (x :: t) c = (0, 10) := by simp only [markL]; rw [if_neg hc]
      rw [hm]
      exact Ev.step (f := fun _ => some (0, 10)) (fun k => by simp only [fescueref05_Mark.j0]; rw [if_pos (by simpa using hc)]) (Ev.now _)
theorem one_byte (x : UInt8) : (strOfNums [(x.toNat : Int)]) = mkB [x] := by
  revert x
  exact u8_all (by decide +kernel)
theorem hasP_one (s : ByteArray) (x : UInt8) : stringslite_HasPrefix.f s (mkB [x]) = some (decide (s.data.toList.head? = some x)) := by
  have hsz : s.data.toList.length = s.size := by simp
  unfold stringslite_HasPrefix.f
  rw [mkB_size]
  cases h : s.data.toList with
  | nil => rw [h] at hsz; rw [if_neg (by simp at hsz ⊢; omega)]; simp
  | cons a t =>
    have hs : s.size = t.length + 1 := by rw [h] at hsz; simpa using hsz.symm
    rw [if_pos (by simp; omega), if_pos (by simp), if_pos (by simp; omega)]
    have e : (s.extract 0 (((([x] : List UInt8).length : Nat) : Int) : Int).toNat).toList = [a] := by
      rw [ByteArray.toList_eq, ext_mk, mkB_data, h]; simp
    rw [e, mkB_list]
    congr 1
    simp [Bool.beq_eq_decide_eq]
theorem cutP_one (s : ByteArray) (x : UInt8) : strings_CutPrefix.f s (mkB [x]) = some (if s.data.toList.head? = some x then (s.extract 1 s.size, true) else (s, false)) := by
  unfold strings_CutPrefix.f stringslite_CutPrefix.f
  rw [hasP_one, Option.bind_some, mkB_size]
  by_cases h : s.data.toList.head? = some x
  · have hs : 1 ≤ s.size := by
      have hsz : s.data.toList.length = s.size := by simp
      cases hl : s.data.toList with
      | nil => rw [hl] at h; cases h
      | cons a t => rw [hl] at hsz; simp at hsz; omega
    rw [if_pos (by simpa using h), if_pos (by simp), if_pos (by simp; omega), if_pos h]
    rfl
  · rw [if_neg (by simpa using h), if_neg h]
    rfl
theorem progMark (s : ByteArray) (c : UInt8) : Ev (fun k => lex_Mark.f k s (c.toNat : Int)) (markL s.data.toList (c.toNat : Int)) := by
  by_cases h : s.data.toList.head? = some c
  · refine Ev.congr (f := fun k => (num_Small.f k (s.extract 1 s.size) 999).bind fun b => some (b.1, b.2)) (fun k => by simp only [lex_Mark.f]; rw [one_byte, cutP_one, if_pos h, Option.bind_some, if_pos rfl]) ?_
    cases hl : s.data.toList with
    | nil => rw [hl] at h; cases h
    | cons x t =>
      rw [hl] at h
      have hx : x = c := by simpa using h
      subst hx
      have := progSmall (s.extract 1 s.size) 999
      rw [ext_one s x t hl] at this
      refine Ev.bind this (Ev.congr (f := fun _ => some _) (fun k => ?_) (Ev.now _))
      simp [markL]
  · refine Ev.congr (f := fun _ => some (0, 10)) (fun k => by simp only [lex_Mark.f]; rw [one_byte, cutP_one, if_neg h, Option.bind_some, if_neg (by simp)]) (Ev.congr (f := fun _ => some _) (fun k => ?_) (Ev.now _))
    cases hl : s.data.toList with
    | nil => rfl
    | cons x t =>
      rw [hl] at h
      have hx : ¬ (x.toNat : Int) = (c.toNat : Int) := fun e => h (by have : x = c := UInt8.toNat_inj.1 (by omega)
                                                                      rw [this]; rfl)
      simp only [markL]; rw [if_neg hx]
theorem u8_of (a1 : Int) (h : (Lit.int .u8 a1).wf = true) : ∃ c : UInt8, a1 = (c.toNat : Int) := by
  have h2 : 0 ≤ a1 ∧ a1 ≤ 255 := by
    simp [Lit.wf, IntKind.min, IntKind.max, IntKind.signed, IntKind.bits] at h
    omega
  refine ⟨UInt8.ofNat a1.toNat, ?_⟩
  simp
  omega
end Go.Proofs.Ytcildbgckgodhaa
