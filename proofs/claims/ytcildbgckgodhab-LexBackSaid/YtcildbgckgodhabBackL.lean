/- Plain: the lines of a text of lines are these lines; a text's lines can be joined. -/
import Derived.Test.YtcildbgckgodhabJoin
import Derived.Test.YtcildbgckgodhabParts
import Derived.Test.YtcildbgckgodhabAnyT
namespace Go.Proofs.Ytcildbgckgodhab
open Go.RowKit Go.Proofs.Ytcildbgckgodhab.X
set_option linter.unusedVariables false
theorem plain_iff (c : UInt8) : isPlain c = true ↔ ¬ (c = 32 ∨ c = 9 ∨ c = 13 ∨ c = 10 ∨ c = 35) := by
  revert c; exact u8_all (by decide +kernel)
theorem any_false (l : List UInt8) : Lib.containsAny l setB.data.toList = false ↔ ∀ c ∈ l, isPlain c = true := by
  induction l with
  | nil => simp [Lib.containsAny, Lib.indexAny]
  | cons b t ih =>
    rw [any_cons, Bool.or_eq_false_iff, ih]
    have h : setB.data.toList.contains b = false ↔ isPlain b = true := by
      rw [plain_iff, ← in_set]; simp
    rw [h]
    simp
theorem okWord_iff (x : ByteArray) : okWord x = true ↔ x.data.toList ≠ [] ∧ ∀ c ∈ x.data.toList, isPlain c = true := by
  unfold okWord badW
  rw [Bool.and_eq_true, Bool.not_eq_true', Bool.not_eq_true', any_false, ByteArray.toList_eq]
  cases x.data.toList <;> simp
theorem wordsL_one (x : ByteArray) (h : okWord x = true) : wordsL x.data.toList = [x] := by
  obtain ⟨h1, h2⟩ := (okWord_iff x).1 h
  have := wordsL_word x.data.toList [] h1 h2 (fun c t e => by cases e)
  rw [List.append_nil, wordsL_nil, mkB_of] at this
  exact this
theorem head_no35 (l : List UInt8) (h : ∀ c ∈ l, c ≠ 35) : (splitL 35 l).headD [] = l := by
  have := splitL_app 35 l [] h
  rw [List.append_nil] at this
  rw [this]; simp [splitL, joinHead]
theorem wordsL_cat (a b : List UInt8) (ha : ∀ c ∈ a, c ≠ 35) (hb : ∀ c ∈ b, c ≠ 35) : wordsL (a ++ 32 :: b) = wordsL a ++ wordsL b := by
  unfold wordsL
  rw [head_no35 a ha, head_no35 b hb, head_no35 (a ++ 32 :: b) (by
    intro c hc
    rcases List.mem_append.1 hc with h | h
    · exact ha c h
    · rcases List.mem_cons.1 h with rfl | h
      · decide
      · exact hb c h)]
  rw [List.map_append, List.map_cons, show blankTo 32 = 32 from rfl, splitL_join, List.map_append, List.filter_append]
/-- A line's bytes. -/
theorem lineTo_ok (ws : List ByteArray) (h : ws.all okWord = true) : ∀ j, j ≤ ws.length → (∀ c ∈ lineTo ws j, c ≠ 35 ∧ c ≠ 10) ∧ wordsL (lineTo ws j) = ws.take j := by
  intro j
  induction j with
  | zero => intro _; exact ⟨by simp [lineTo], by simp [lineTo, wordsL_nil]⟩
  | succ j ih =>
    intro hj
    obtain ⟨h1, h2⟩ := ih (by omega)
    have hlt : j < ws.length := by omega
    have hgd : ws.getD j ByteArray.empty = ws[j] := by simp [hlt]
    have hok := List.all_eq_true.1 h _ (List.getElem_mem hlt)
    obtain ⟨hne, hpl⟩ := (okWord_iff _).1 hok
    have hp : ∀ c ∈ (ws[j]).data.toList, c ≠ 35 ∧ c ≠ 10 := fun c hc => ⟨(plain_ne c (hpl c hc)).2.1, (plain_ne c (hpl c hc)).1⟩
    have ht : ws.take (j + 1) = ws.take j ++ [ws[j]] := by rw [List.take_succ_eq_append_getElem hlt]
    rw [lineTo, hgd]
    by_cases h0 : 0 < j
    · rw [if_pos h0, ht, List.append_assoc, List.singleton_append]
      refine ⟨fun c hc => ?_, ?_⟩
      · rcases List.mem_append.1 hc with hc | hc
        · exact h1 c hc
        · rcases List.mem_cons.1 hc with rfl | hc
          · decide
          · exact hp c hc
      · rw [wordsL_cat _ _ (fun c hc => (h1 c hc).1) (fun c hc => (hp c hc).1), h2, wordsL_one _ hok]
    · have hj0 : j = 0 := by omega
      subst hj0
      rw [if_neg h0, ht, List.append_nil]
      have e : lineTo ws 0 = [] := rfl
      rw [e, List.nil_append, List.take_zero, List.nil_append]
      exact ⟨hp, wordsL_one _ hok⟩
theorem G_line (ws : List ByteArray) (h : okRow ws = true) (h64 : ws.length ≤ 64) (out) : G (lineTo ws ws.length) out = some (out ++ [ws]) := by
  unfold okRow at h
  rw [Bool.and_eq_true, Bool.not_eq_true'] at h
  obtain ⟨h1, h2⟩ := lineTo_ok ws h.2 ws.length (Nat.le_refl _)
  rw [List.take_length] at h2
  have hs := splitL_app 10 (lineTo ws ws.length) [] (fun c hc => (h1 c hc).2)
  rw [List.append_nil] at hs
  unfold G
  rw [hs]
  simp only [splitL, joinHead, List.append_nil, goL]
  rw [h2, if_pos h64]
  unfold endL
  rw [if_neg (by intro e; rw [e] at h; simp at h)]
theorem outL_back : ∀ (l : List (List ByteArray)) (o o' : List UInt8), l.all okRow = true → outL l o = some o' → o.length ≤ 16384 → ∃ t, o' = o ++ t ∧ o'.length ≤ 16384 ∧ ∀ out, G t out = some (out ++ l) := by
  intro l
  induction l with
  | nil =>
    intro o o' _ h ho
    simp only [outL, Option.some.injEq] at h
    subst h
    exact ⟨[], by simp, ho, fun out => by rw [G_nil, List.append_nil]⟩
  | cons ws r ih =>
    intro o o' hk h ho
    rw [List.all_cons, Bool.and_eq_true] at hk
    rw [outL] at h
    split at h
    · cases h
    · rename_i hc
      have hc' : ¬ 64 < ws.length ∧ ¬ 16384 < (o ++ lineTo ws ws.length ++ [10]).length := ⟨fun x => hc (.inl x), fun x => hc (.inr x)⟩
      obtain ⟨t, h1, h2, h3⟩ := ih _ _ hk.2 h (by omega)
      refine ⟨lineTo ws ws.length ++ 10 :: t, by rw [h1]; simp, h2, fun out => ?_⟩
      rw [G_feed, G_line ws hk.1 (by omega), Option.bind_some, h3, List.append_assoc, List.singleton_append]
/-- What is joined has these lines. -/
theorem lines_join (l : List (List ByteArray)) (h : (joinP l).2 = 0) : linesP (joinP l).1 = (l, 0) := by
  unfold joinP at h ⊢
  by_cases hk : l.all okRow = true
  · rw [if_pos hk] at h ⊢
    cases ho : outL l [] with
    | none => rw [ho] at h; simp at h
    | some o =>
      obtain ⟨t, h1, h2, h3⟩ := outL_back l [] o hk ho (by simp)
      rw [List.nil_append] at h1
      subst h1
      have hd : (⟨o.toArray⟩ : ByteArray).data.toList = o := by simp
      have hs : (⟨o.toArray⟩ : ByteArray).size = o.length := mkB_size o
      simp only
      rw [linesP_G _ (by rw [hs]; exact h2), hd, h3, List.nil_append]
      rfl
  · rw [if_neg hk] at h; simp at h
/-! ### the other way: what has lines can be joined -/
def cost (ws : List ByteArray) : Nat := (ws.map fun x => x.size + 1).sum
def costs (l : List (List ByteArray)) : Nat := (l.map cost).sum
def plen (l : List (List UInt8)) : Nat := (l.map fun p => p.length + 1).sum
theorem plen_split (c : UInt8) (l : List UInt8) : plen (splitL c l) = l.length + 1 := by
  induction l with
  | nil => simp [splitL, plen]
  | cons x t ih =>
    by_cases h : x = c
    · subst h
      rw [splitL_hit]
      simp only [plen, List.map_cons, List.sum_cons, List.length_nil, List.length_cons] at ih ⊢
      omega
    · rw [splitL_cons _ _ _ h]
      have hne := splitL_ne c t
      cases hs : splitL c t with
      | nil => exact absurd hs hne
      | cons a b =>
        rw [hs] at ih
        simp only [plen, joinHead, List.map_cons, List.sum_cons, List.length_append, List.length_cons, List.length_nil] at ih ⊢
        omega
theorem cost_filter (l : List (List UInt8)) (p : ByteArray → Bool) : cost ((l.map mkB).filter p) ≤ plen l := by
  induction l with
  | nil => simp [cost, plen]
  | cons a t ih =>
    rw [List.map_cons, List.filter_cons]
    have e : (mkB a).size = a.length := mkB_size a
    split
    · simp only [cost, plen, List.map_cons, List.sum_cons, e] at ih ⊢; omega
    · simp only [cost, plen, List.map_cons, List.sum_cons] at ih ⊢; omega
theorem head_le (c : UInt8) (l : List UInt8) : ((splitL c l).headD []).length ≤ l.length := by
  have hne := splitL_ne c l
  cases hs : splitL c l with
  | nil => exact absurd hs hne
  | cons a b => exact splitL_mem c l a (by rw [hs]; simp)
theorem cost_words (p : List UInt8) : cost (wordsL p) ≤ p.length + 1 := by
  unfold wordsL
  refine Nat.le_trans (cost_filter _ _) ?_
  rw [plen_split, List.length_map]
  have := head_le 35 p
  omega
theorem split_ne (c : UInt8) (l : List UInt8) : ∀ p ∈ splitL c l, ∀ x ∈ p, x ≠ c ∧ x ∈ l := by
  induction l with
  | nil => simp [splitL]
  | cons y t ih =>
    intro p hp x hx
    by_cases h : y = c
    · subst h
      rw [splitL_hit] at hp
      rcases List.mem_cons.1 hp with rfl | hp
      · simp at hx
      · obtain ⟨h1, h2⟩ := ih p hp x hx
        exact ⟨h1, List.mem_cons_of_mem _ h2⟩
    · rw [splitL_cons _ _ _ h] at hp
      have hne := splitL_ne c t
      cases hs : splitL c t with
      | nil => exact absurd hs hne
      | cons a b =>
        rw [hs] at hp ih
        simp only [joinHead] at hp
        rcases List.mem_cons.1 hp with rfl | hp
        · rcases List.mem_append.1 hx with hx | hx
          · rw [List.mem_singleton.1 hx]; exact ⟨h, by simp⟩
          · obtain ⟨h1, h2⟩ := ih a (by simp) x hx
            exact ⟨h1, List.mem_cons_of_mem _ h2⟩
        · obtain ⟨h1, h2⟩ := ih p (by simp [hp]) x hx
          exact ⟨h1, List.mem_cons_of_mem _ h2⟩
theorem blank_plain (c : UInt8) : c ≠ 10 ∧ c ≠ 35 ∧ blankTo c ≠ 32 → isPlain (blankTo c) = true := by
  revert c; exact u8_all (by decide +kernel)
theorem words_ok (p : List UInt8) (hp : ∀ c ∈ p, c ≠ 10) : (wordsL p).all okWord = true := by
  rw [List.all_eq_true]
  intro x hx
  unfold wordsL at hx
  rw [List.mem_filter] at hx
  obtain ⟨hx1, hx2⟩ := hx
  obtain ⟨q, hq, rfl⟩ := List.mem_map.1 hx1
  rw [okWord_iff, mkB_data]
  rw [mkB_list] at hx2
  refine ⟨by simpa using hx2, fun c hc => ?_⟩
  obtain ⟨h1, h2⟩ := split_ne 32 _ q hq c hc
  obtain ⟨c0, hc0, rfl⟩ := List.mem_map.1 h2
  have hne := splitL_ne 35 p
  have h3 : c0 ≠ 35 ∧ c0 ∈ p := by
    cases hs : splitL 35 p with
    | nil => exact absurd hs hne
    | cons a b =>
      rw [hs] at hc0
      exact split_ne 35 p a (by rw [hs]; simp) c0 hc0
  exact blank_plain c0 ⟨hp c0 h3.2, h3.1, h1⟩
theorem goL_ok : ∀ (P : List (List UInt8)) (out r : List (List ByteArray)), (∀ p ∈ P, ∀ c ∈ p, c ≠ 10) → goL P out = some r → out.all okRow = true → (∀ ws ∈ out, ws.length ≤ 64) → r.all okRow = true ∧ (∀ ws ∈ r, ws.length ≤ 64) ∧ costs r ≤ costs out + plen P := by
  intro P
  induction P with
  | nil => intro out r _ h ho h6; simp only [goL, Option.some.injEq] at h; subst h; exact ⟨ho, h6, by simp [plen]⟩
  | cons p t ih =>
    intro out r hP h ho h6
    rw [goL] at h
    split at h
    · rename_i h64
      have hcw := cost_words p
      have hok := words_ok p (hP p (by simp))
      have key : (endL out (wordsL p)).all okRow = true ∧ (∀ ws ∈ endL out (wordsL p), ws.length ≤ 64) ∧ costs (endL out (wordsL p)) ≤ costs out + (p.length + 1) := by
        unfold endL
        split
        · exact ⟨ho, h6, by omega⟩
        · rename_i hne
          refine ⟨?_, ?_, ?_⟩
          · rw [List.all_append, ho, Bool.true_and, List.all_cons, List.all_nil, Bool.and_true]
            unfold okRow
            rw [hok, Bool.and_true]
            cases hw : wordsL p with
            | nil => exact absurd hw hne
            | cons => rfl
          · intro ws hws
            rcases List.mem_append.1 hws with hws | hws
            · exact h6 ws hws
            · rw [List.mem_singleton.1 hws]; exact h64
          · simp only [costs, List.map_append, List.sum_append, List.map_cons, List.map_nil, List.sum_cons, List.sum_nil]
            omega
      obtain ⟨h1, h2, h3⟩ := ih _ r (fun q hq => hP q (by simp [hq])) h key.1 key.2.1
      refine ⟨h1, h2, ?_⟩
      have := key.2.2
      simp only [plen, List.map_cons, List.sum_cons] at h3 ⊢
      omega
    · cases h
theorem lineTo_cost (ws : List ByteArray) : ∀ j, j ≤ ws.length → (lineTo ws j).length + (if 0 < j then 1 else 0) ≤ cost (ws.take j) := by
  intro j
  induction j with
  | zero => intro _; simp [lineTo]
  | succ j ih =>
    intro hj
    have h1 := ih (by omega)
    have hlt : j < ws.length := by omega
    have hgd : ws.getD j ByteArray.empty = ws[j] := by simp [hlt]
    have ht : ws.take (j + 1) = ws.take j ++ [ws[j]] := by rw [List.take_succ_eq_append_getElem hlt]
    have hsz : (ws[j]).data.toList.length = (ws[j]).size := by simp
    rw [lineTo, hgd, ht]
    simp only [cost, List.map_append, List.sum_append, List.map_cons, List.map_nil, List.sum_cons, List.sum_nil, List.length_append, hsz] at h1 ⊢
    by_cases h0 : 0 < j
    · rw [if_pos h0] at h1 ⊢; rw [if_pos (by omega)]; simp only [List.length_cons, List.length_nil]; omega
    · rw [if_neg h0] at h1 ⊢; rw [if_pos (by omega)]; simp only [List.length_nil]; omega
theorem outL_some : ∀ (l : List (List ByteArray)) (o : List UInt8), l.all okRow = true → (∀ ws ∈ l, ws.length ≤ 64) → o.length + costs l ≤ 16384 → ∃ o', outL l o = some o' := by
  intro l
  induction l with
  | nil => intro o _ _ _; exact ⟨o, rfl⟩
  | cons ws r ih =>
    intro o hk h6 hc
    rw [List.all_cons, Bool.and_eq_true] at hk
    have h64 := h6 ws (by simp)
    have hlc := lineTo_cost ws ws.length (Nat.le_refl _)
    rw [List.take_length] at hlc
    have hpos : 0 < ws.length := by
      have := hk.1
      unfold okRow at this
      cases ws with
      | nil => simp at this
      | cons => simp
    rw [if_pos hpos] at hlc
    simp only [costs, List.map_cons, List.sum_cons] at hc
    have hlen : (o ++ lineTo ws ws.length ++ [10]).length + (List.map cost r).sum ≤ 16384 := by
      simp only [List.length_append, List.length_cons, List.length_nil]; omega
    rw [outL, if_neg (by omega)]
    exact ih _ hk.2 (fun x hx => h6 x (by simp [hx])) hlen
/-- What has lines can be joined, and has these lines then. -/
theorem join_lines (s : ByteArray) (hs : s.size ≤ 16383) (h : (linesP s).2 = 0) : (joinP (linesP s).1).2 = 0 := by
  have hl := linesP_ans s (by omega)
  rw [hl] at h ⊢
  have ho := ansL_ok h
  obtain ⟨h1, h2, h3⟩ := goL_ok _ [] _ (fun p hp c hc => (split_ne 10 _ p hp c hc).1) ho rfl (by simp)
  have hsz : s.data.toList.length = s.size := by simp
  rw [plen_split] at h3
  obtain ⟨o', ho'⟩ := outL_some _ [] h1 h2 (by simp only [costs, List.map_nil, List.sum_nil, List.length_nil] at h3 ⊢; omega)
  unfold joinP
  rw [if_pos h1, ho']
end Go.Proofs.Ytcildbgckgodhab
