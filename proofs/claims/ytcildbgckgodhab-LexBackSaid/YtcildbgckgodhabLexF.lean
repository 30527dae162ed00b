/- Plain: what the reader of lines does, as one function on the bytes that are left. -/
import Derived.WalkKit
namespace Go.Proofs.Ytcildbgckgodhab
set_option linter.unusedVariables false
set_option linter.unusedSimpArgs false
/-- A byte's kind: blank, feed, hash, or a word's. -/
def kindOf (c : Nat) : Int := if c = 32 ∨ c = 9 ∨ c = 13 then 1 else if c = 10 then 2 else if c = 35 then 3 else 0
def kb (c : UInt8) : Int := kindOf c.toNat
theorem kb_cases (c : UInt8) : kb c = 1 ∨ kb c = 2 ∨ kb c = 3 ∨ kb c = 0 := by
  unfold kb kindOf
  split
  · exact .inl rfl
  · split
    · exact .inr (.inl rfl)
    · split
      · exact .inr (.inr (.inl rfl))
      · exact .inr (.inr (.inr rfl))
/-- What 'end' makes of the lines. -/
def endL (ls : List (List ByteArray)) (ws : List ByteArray) : List (List ByteArray) := if ws = [] then ls else ls ++ [ws]
def isPlain (c : UInt8) : Bool := kb c == 0
def noFeed (c : UInt8) : Bool := kb c != 2
theorem dropWhile_le {α : Type} (p : α → Bool) (l : List α) : (l.dropWhile p).length ≤ l.length := by
  induction l with
  | nil => simp
  | cons x t ih => rw [List.dropWhile_cons]; split <;> simp; omega
/-- The lines of the bytes that are left, behind the words of the line that is under way, and the lines before; none: a line has too many words. -/
def lexF (l : List UInt8) (ws : List ByteArray) (ls : List (List ByteArray)) : Option (List (List ByteArray)) :=
  match l with
  | [] => if ws.length ≤ 64 then some (endL ls ws) else none
  | c :: t =>
    if kb c = 1 then lexF t ws ls
    else if kb c = 2 then (if ws.length ≤ 64 then lexF t [] (endL ls ws) else none)
    else if kb c = 3 then lexF (t.dropWhile noFeed) ws ls
    else lexF (t.dropWhile isPlain) (ws ++ [⟨(c :: t.takeWhile isPlain).toArray⟩]) ls
termination_by l.length
decreasing_by
  · simp
  · simp
  · have := dropWhile_le noFeed t; simp; omega
  · have := dropWhile_le isPlain t; simp; omega
theorem lexF_nil (ws : List ByteArray) (ls : List (List ByteArray)) : lexF [] ws ls = if ws.length ≤ 64 then some (endL ls ws) else none := by rw [lexF]
theorem lexF_blank (c : UInt8) (t : List UInt8) (ws ls) (h : kb c = 1) : lexF (c :: t) ws ls = lexF t ws ls := by rw [lexF, if_pos h]
theorem lexF_feed (c : UInt8) (t : List UInt8) (ws ls) (h : kb c = 2) : lexF (c :: t) ws ls = if ws.length ≤ 64 then lexF t [] (endL ls ws) else none := by
  rw [lexF, if_neg (by rw [h]; decide), if_pos h]
theorem lexF_hash (c : UInt8) (t : List UInt8) (ws ls) (h : kb c = 3) : lexF (c :: t) ws ls = lexF ((c :: t).dropWhile noFeed) ws ls := by
  rw [lexF, if_neg (by rw [h]; decide), if_neg (by rw [h]; decide), if_pos h, List.dropWhile_cons, if_pos (by unfold noFeed; rw [h]; decide)]
theorem lexF_word (c : UInt8) (t : List UInt8) (ws ls) (h : kb c = 0) : lexF (c :: t) ws ls = lexF ((c :: t).dropWhile isPlain) (ws ++ [⟨((c :: t).takeWhile isPlain).toArray⟩]) ls := by
  rw [lexF, if_neg (by rw [h]; decide), if_neg (by rw [h]; decide), if_neg (by rw [h]; decide)]
  rw [List.dropWhile_cons, List.takeWhile_cons, if_pos (by unfold isPlain; rw [h]; decide), if_pos (by unfold isPlain; rw [h]; decide)]
/-- What Lines answers. -/
def linesP (s : ByteArray) : List (List ByteArray) × Int :=
  if 16384 < s.size then ([], 4) else match lexF s.data.toList [] [] with
    | some l => (l, 0)
    | none => ([], 4)
theorem drop_cons (s : ByteArray) (i : Nat) (h : i < s.size) : s.data.toList.drop i = s[i] :: s.data.toList.drop (i + 1) := by
  rw [List.drop_eq_getElem_cons (by simpa using h)]
  rfl
/-- The end of a word. -/
theorem word_done (s : ByteArray) (from_ pos : Nat) (h0 : from_ ≤ pos) (h1 : pos ≤ s.size) (hp : ∀ j, from_ ≤ j → ∀ h : j < s.size, j < pos → kb s[j] = 0) (he : ∀ h : pos < s.size, kb s[pos] ≠ 0) :
    (s.data.toList.drop from_).dropWhile isPlain = s.data.toList.drop pos ∧ (⟨((s.data.toList.drop from_).takeWhile isPlain).toArray⟩ : ByteArray) = s.extract from_ pos := by
  have key : ∀ d i, pos - i = d → from_ ≤ i → i ≤ pos → (s.data.toList.drop i).dropWhile isPlain = s.data.toList.drop pos ∧ (s.data.toList.drop i).takeWhile isPlain = (s.data.toList.drop i).take (pos - i) := by
    intro d
    induction d with
    | zero =>
      intro i hd hi hip
      have : i = pos := by omega
      subst this
      rcases Nat.lt_or_ge i s.size with h | h
      · rw [drop_cons s i h, List.dropWhile_cons, List.takeWhile_cons]
        have : isPlain s[i] = false := by unfold isPlain; rw [beq_eq_false_iff_ne]; exact he h
        rw [this]
        simp
      · have : s.data.toList.drop i = [] := List.drop_eq_nil_of_le (by simp; omega)
        rw [this]; simp
    | succ d ih =>
      intro i hd hi hip
      have hlt : i < s.size := by omega
      obtain ⟨h2, h3⟩ := ih (i + 1) (by omega) (by omega) (by omega)
      have hpl : isPlain s[i] = true := by unfold isPlain; rw [hp i hi hlt (by omega)]; rfl
      have e : pos - i = (pos - (i + 1)) + 1 := by omega
      rw [drop_cons s i hlt, List.dropWhile_cons, List.takeWhile_cons, hpl, if_pos rfl, if_pos rfl, h2, h3, e, List.take_succ_cons]
      exact ⟨rfl, rfl⟩
  obtain ⟨h2, h3⟩ := key _ from_ rfl (Nat.le_refl _) h0
  refine ⟨h2, ?_⟩
  rw [h3]
  have e : (s.extract from_ pos).data.toList = (s.data.toList.drop from_).take (pos - from_) := by
    simp
  cases hx : s.extract from_ pos with
  | mk d =>
    rw [hx] at e
    simp only at e
    rw [← e]
end Go.Proofs.Ytcildbgckgodhab
