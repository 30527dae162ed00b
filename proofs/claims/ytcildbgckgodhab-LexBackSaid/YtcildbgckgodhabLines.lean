/- Plain: the lines cut at every byte, and the lines read from left to right, are the same. No program in sight. -/
import Derived.Test.YtcildbgckgodhabSplit
import Derived.Test.YtcildbgckgodhabLexF
namespace Go.Proofs.Ytcildbgckgodhab
open Go.RowKit
set_option linter.unusedVariables false
theorem mkB_list (l : List UInt8) : (mkB l).toList = l := by rw [ByteArray.toList_eq, mkB_data]
theorem splitL_app (c : UInt8) (p l : List UInt8) (h : ∀ x ∈ p, x ≠ c) : splitL c (p ++ l) = joinHead p (splitL c l) := by
  induction p with
  | nil => rw [List.nil_append, joinHead_nil]
  | cons x t ih =>
    rw [List.cons_append, splitL_cons _ _ _ (h x (by simp)), ih (fun y hy => h y (by simp [hy]))]
    have := splitL_ne c l
    cases hs : splitL c l with
    | nil => exact absurd hs this
    | cons a b => simp [joinHead]
theorem head_join (p : List UInt8) (c : UInt8) (l : List UInt8) : (joinHead p (splitL c l)).headD [] = p ++ (splitL c l).headD [] := by
  have := splitL_ne c l
  cases hs : splitL c l with
  | nil => exact absurd hs this
  | cons a b => simp [joinHead]
theorem u8_all {p : UInt8 → Prop} (h : ∀ n : Fin 256, p (UInt8.ofNat n.val)) (c : UInt8) : p c := by
  have := h ⟨c.toNat, c.toNat_lt⟩
  simpa using this
theorem kb_one (c : UInt8) : kb c = 1 ↔ (c = 32 ∨ c = 9 ∨ c = 13) := by revert c; exact u8_all (by decide +kernel)
theorem kb_two (c : UInt8) : kb c = 2 ↔ c = 10 := by revert c; exact u8_all (by decide +kernel)
theorem kb_three (c : UInt8) : kb c = 3 ↔ c = 35 := by revert c; exact u8_all (by decide +kernel)
theorem blankTo_of (c : UInt8) : kb c = 1 → blankTo c = 32 := by revert c; exact u8_all (by decide +kernel)
theorem plain_ne (c : UInt8) : isPlain c = true → c ≠ 10 ∧ c ≠ 35 ∧ c ≠ 32 ∧ blankTo c = c := by revert c; exact u8_all (by decide +kernel)
theorem feed_ne (c : UInt8) : noFeed c = true → c ≠ 10 := by revert c; exact u8_all (by decide +kernel)
theorem wordsL_nil : wordsL [] = [] := by simp [wordsL, splitL, mkB_list]
theorem wordsL_blank (c : UInt8) (l : List UInt8) (h : kb c = 1) : wordsL (c :: l) = wordsL l := by
  have h1 := (kb_one c).1 h
  have h2 : c ≠ 35 := by rcases h1 with rfl | rfl | rfl <;> decide
  unfold wordsL
  rw [splitL_cons _ _ _ h2, head_join, List.singleton_append, List.map_cons, blankTo_of c h, splitL_hit]
  simp [mkB_list]
theorem wordsL_hash (l : List UInt8) : wordsL (35 :: l) = [] := by
  unfold wordsL
  rw [splitL_hit]
  simp [splitL, mkB_list]
/-- What follows a word: nothing, or a byte that is no word's. -/
def stops (l : List UInt8) : Prop := ∀ c t, l = c :: t → isPlain c = false ∧ kb c ≠ 2
theorem wordsL_word (p l : List UInt8) (hp : p ≠ []) (hall : ∀ x ∈ p, isPlain x = true) (hs : stops l) : wordsL (p ++ l) = mkB p :: wordsL l := by
  unfold wordsL
  rw [splitL_app 35 p l (fun x hx => (plain_ne x (hall x hx)).2.1), head_join, List.map_append]
  have hm : p.map blankTo = p := by
    have : p.map blankTo = p.map id := List.map_congr_left (fun x hx => (plain_ne x (hall x hx)).2.2.2)
    simpa using this
  rw [hm, splitL_app 32 p _ (fun x hx => (plain_ne x (hall x hx)).2.2.1)]
  have hq : ∃ r, splitL 32 (((splitL 35 l).headD []).map blankTo) = [] :: r := by
    cases l with
    | nil => exact ⟨[], by simp [splitL]⟩
    | cons c t =>
      obtain ⟨h1, h2⟩ := hs c t rfl
      rcases kb_cases c with h | h | h | h
      · have h1 := (kb_one c).1 h
        have h2 : c ≠ 35 := by rcases h1 with rfl | rfl | rfl <;> decide
        rw [splitL_cons _ _ _ h2, head_join, List.singleton_append, List.map_cons, blankTo_of c h, splitL_hit]
        exact ⟨_, rfl⟩
      · exact absurd h h2
      · rw [(kb_three c).1 h, splitL_hit]
        exact ⟨[], by simp [splitL]⟩
      · rw [isPlain, h] at h1; cases h1
  obtain ⟨r, hr⟩ := hq
  rw [hr]
  have hne : ((mkB p).toList != []) = true := by rw [mkB_list]; simpa using hp
  simp only [joinHead, List.map_cons, List.append_nil]
  rw [List.filter_cons, if_pos hne, List.filter_cons, if_neg (by simp [mkB_list])]
/-- The lines, from the pieces between feeds. -/
def goL : List (List UInt8) → List (List ByteArray) → Option (List (List ByteArray))
  | [], out => some out
  | h :: r, out => if (wordsL h).length ≤ 64 then goL r (endL out (wordsL h)) else none
def goH (l : List (List UInt8)) (ws : List ByteArray) (ls : List (List ByteArray)) : Option (List (List ByteArray)) := match l with
  | [] => none
  | h :: r => if (ws ++ wordsL h).length ≤ 64 then goL r (endL ls (ws ++ wordsL h)) else none
theorem goH_nil (l : List (List UInt8)) (hl : l ≠ []) (ls) : goH l [] ls = goL l ls := by
  cases l with
  | nil => exact absurd rfl hl
  | cons h r => simp [goH, goL]
theorem goH_join (p : List UInt8) (c : UInt8) (t : List UInt8) (ws ws' : List ByteArray) (ls) (h : ∀ x r, splitL c t = x :: r → ws ++ wordsL (p ++ x) = ws' ++ wordsL x) : goH (joinHead p (splitL c t)) ws ls = goH (splitL c t) ws' ls := by
  have := splitL_ne c t
  cases hs : splitL c t with
  | nil => exact absurd hs this
  | cons a b => simp only [joinHead, goH]; rw [h a b hs]
theorem takeWhile_all (p : UInt8 → Bool) (l : List UInt8) : ∀ x ∈ l.takeWhile p, p x = true := by
  induction l with
  | nil => simp
  | cons a t ih =>
    rw [List.takeWhile_cons]
    split
    · rename_i h
      intro x hx
      rcases List.mem_cons.1 hx with rfl | hx
      · exact h
      · exact ih x hx
    · simp
theorem dropWhile_head (p : UInt8 → Bool) (l : List UInt8) (c t) (h : l.dropWhile p = c :: t) : p c = false := by
  induction l with
  | nil => simp at h
  | cons a r ih =>
    rw [List.dropWhile_cons] at h
    split at h
    · exact ih h
    · rename_i hp
      injection h with h1 h2
      subst h1
      simpa using hp
theorem lexF_goH : ∀ (n : Nat) (l : List UInt8), l.length ≤ n → ∀ ws ls, lexF l ws ls = goH (splitL 10 l) ws ls := by
  intro n
  induction n with
  | zero =>
    intro l hl ws ls
    obtain rfl : l = [] := List.eq_nil_of_length_eq_zero (by omega)
    rw [lexF_nil]; simp [splitL, goH, goL, wordsL_nil]
  | succ n ih =>
    intro l hl ws ls
    cases l with
    | nil => rw [lexF_nil]; simp [splitL, goH, goL, wordsL_nil]
    | cons c t =>
      simp only [List.length_cons] at hl
      rcases kb_cases c with h | h | h | h
      · have hc : c ≠ 10 := by rcases (kb_one c).1 h with rfl | rfl | rfl <;> decide
        rw [lexF_blank _ _ _ _ h, ih t (by omega), splitL_cons _ _ _ hc]
        refine (goH_join _ _ _ _ _ _ ?_).symm
        intro x r _
        rw [List.singleton_append, wordsL_blank _ _ h]
      · rw [lexF_feed _ _ _ _ h, (kb_two c).1 h, splitL_hit]
        simp only [goH, wordsL_nil, List.append_nil]
        split
        · rw [ih t (by omega), goH_nil _ (splitL_ne _ _)]
        · rfl
      · have hc := (kb_three c).1 h
        subst hc
        rw [lexF_hash _ _ _ _ h]
        have e1 : (35 : UInt8) :: t = ((35 : UInt8) :: t).takeWhile noFeed ++ ((35 : UInt8) :: t).dropWhile noFeed := (List.takeWhile_append_dropWhile).symm
        have e2 : ((35 : UInt8) :: t).dropWhile noFeed = t.dropWhile noFeed := by rw [List.dropWhile_cons, if_pos (by decide +kernel)]
        have e3 : ((35 : UInt8) :: t).takeWhile noFeed = 35 :: t.takeWhile noFeed := by rw [List.takeWhile_cons, if_pos (by decide +kernel)]
        have hd := dropWhile_le noFeed t
        rw [e2] at e1 ⊢
        rw [ih _ (by omega)]
        conv => rhs; rw [e1]
        rw [splitL_app 10 _ _ (fun x hx => feed_ne x (takeWhile_all noFeed _ x hx)), e3]
        refine (goH_join _ _ _ _ _ _ ?_).symm
        intro x r hx
        have hx0 : x = [] := by
          cases hq : t.dropWhile noFeed with
          | nil => rw [hq, splitL] at hx; injection hx with h1 _; exact h1.symm
          | cons a b =>
            have ha := dropWhile_head noFeed t a b hq
            have : a = 10 := (kb_two a).1 (by simpa [noFeed] using ha)
            subst this
            rw [hq, splitL_hit] at hx
            injection hx with h1 _; exact h1.symm
        subst hx0
        rw [List.cons_append, wordsL_hash, wordsL_nil]
      · rw [lexF_word _ _ _ _ h]
        have e1 : c :: t = (c :: t).takeWhile isPlain ++ (c :: t).dropWhile isPlain := (List.takeWhile_append_dropWhile).symm
        have hpl : isPlain c = true := by rw [isPlain, h]; rfl
        have e2 : (c :: t).dropWhile isPlain = t.dropWhile isPlain := by rw [List.dropWhile_cons, if_pos hpl]
        have e3 : (c :: t).takeWhile isPlain = c :: t.takeWhile isPlain := by rw [List.takeWhile_cons, if_pos hpl]
        have hd := dropWhile_le isPlain t
        have hall := takeWhile_all isPlain (c :: t)
        rw [e2] at e1 ⊢
        rw [ih _ (by omega)]
        conv => rhs; rw [e1]
        rw [splitL_app 10 _ _ (fun x hx => (plain_ne x (hall x hx)).1)]
        refine (goH_join _ _ _ _ _ _ ?_).symm
        intro x r hx
        have hst : stops x := by
          intro a b hab
          cases hq : t.dropWhile isPlain with
          | nil => rw [hq, splitL] at hx; injection hx with h1 _; rw [← h1] at hab; cases hab
          | cons a' b' =>
            have ha := dropWhile_head isPlain t a' b' hq
            by_cases h10 : a' = 10
            · subst h10
              rw [hq, splitL_hit] at hx
              injection hx with h1 _; rw [← h1] at hab; cases hab
            · rw [hq, splitL_cons _ _ _ h10] at hx
              have hne := splitL_ne 10 b'
              cases hs : splitL 10 b' with
              | nil => exact absurd hs hne
              | cons y z =>
                rw [hs, joinHead, List.singleton_append] at hx
                injection hx with h1 _
                rw [hab] at h1
                injection h1 with h1 _
                subst h1
                exact ⟨ha, fun e => h10 ((kb_two _).1 e)⟩
        rw [wordsL_word _ _ (by rw [e3]; simp) hall hst, List.append_assoc, List.singleton_append]
        rfl
theorem lexF_goL (l : List UInt8) : lexF l [] [] = goL (splitL 10 l) [] := by
  rw [lexF_goH l.length l (Nat.le_refl _), goH_nil _ (splitL_ne _ _)]
/-- How many lines and words there can be. -/
theorem goL_len : ∀ (l : List (List UInt8)) (out r : List (List ByteArray)), goL l out = some r → (∀ x ∈ out, x.length ≤ 64) → r.length ≤ out.length + l.length ∧ ∀ x ∈ r, x.length ≤ 64 := by
  intro l
  induction l with
  | nil => intro out r h ho; simp only [goL, Option.some.injEq] at h; subst h; exact ⟨by simp, ho⟩
  | cons a t ih =>
    intro out r h ho
    rw [goL] at h
    split at h
    · rename_i hw
      obtain ⟨h1, h2⟩ := ih _ _ h (by
        intro x hx
        unfold endL at hx
        split at hx
        · exact ho x hx
        · rcases List.mem_append.1 hx with hx | hx
          · exact ho x hx
          · rw [List.mem_singleton.1 hx]; exact hw)
      refine ⟨?_, h2⟩
      have : (endL out (wordsL a)).length ≤ out.length + 1 := by unfold endL; split <;> simp
      simp only [List.length_cons]
      omega
    · cases h
theorem linesP_len (s : ByteArray) : (linesP s).1.length ≤ 16385 ∧ ∀ x ∈ (linesP s).1, x.length ≤ 64 := by
  unfold linesP
  split
  · simp
  · rename_i hs
    rw [lexF_goL]
    cases h : goL (splitL 10 s.data.toList) [] with
    | none => simp
    | some r =>
      obtain ⟨h1, h2⟩ := goL_len _ _ _ h (by simp)
      have := splitL_len 10 s.data.toList
      simp at this h1
      exact ⟨by simp; omega, h2⟩
end Go.Proofs.Ytcildbgckgodhab
