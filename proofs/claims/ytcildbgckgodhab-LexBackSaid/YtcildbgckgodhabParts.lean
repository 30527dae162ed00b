/- Plain: the lines of what is put together. No program in sight but for the printed helpers 'are', 'mark', 'none', 'alive'. -/
import Derived.Test.YtcildbgckgodhabLinesP
namespace Go.Proofs.Ytcildbgckgodhab
open Go.RowKit Go.Proofs.YtcildbgckgodhabW.PrintWords Go.Proofs.YtcildbgckgodhabW.PrintLast
set_option linter.unusedVariables false
/-- The lines of these bytes, behind these. -/
def G (l : List UInt8) (out : List (List ByteArray)) : Option (List (List ByteArray)) := goL (splitL 10 l) out
theorem splitL_join (c : UInt8) (a b : List UInt8) : splitL c (a ++ c :: b) = splitL c a ++ splitL c b := by
  induction a with
  | nil => rw [List.nil_append, splitL_hit]; rfl
  | cons x t ih =>
    by_cases h : x = c
    · subst h; rw [List.cons_append, splitL_hit, splitL_hit, ih]; rfl
    · rw [List.cons_append, splitL_cons _ _ _ h, splitL_cons _ _ _ h, ih]
      have := splitL_ne c t
      cases hs : splitL c t with
      | nil => exact absurd hs this
      | cons p q => simp [joinHead]
theorem goL_append (p q : List (List UInt8)) : ∀ out, goL (p ++ q) out = (goL p out).bind (goL q) := by
  induction p with
  | nil => intro out; rfl
  | cons h t ih =>
    intro out
    rw [List.cons_append, goL, goL]
    split
    · exact ih _
    · rfl
theorem endL_append (o p : List (List ByteArray)) (w) : endL (o ++ p) w = o ++ endL p w := by
  unfold endL; split <;> simp
theorem goL_out (p : List (List UInt8)) : ∀ (o out : List (List ByteArray)), goL p (o ++ out) = (goL p out).map (o ++ ·) := by
  induction p with
  | nil => intro o out; rfl
  | cons h t ih =>
    intro o out
    rw [goL, goL]
    split
    · rw [endL_append, ih]
    · rfl
theorem G_feed (a b : List UInt8) (out) : G (a ++ 10 :: b) out = (G a out).bind (G b) := by
  unfold G; rw [splitL_join, goL_append]
theorem G_out (a : List UInt8) (o) : G a o = (G a []).map (o ++ ·) := by
  have := goL_out (splitL 10 a) o []
  rw [List.append_nil] at this
  exact this
theorem G_nil (out) : G [] out = some out := by simp [G, splitL, goL, wordsL_nil, endL]
theorem G_blank (c : UInt8) (h : kb c = 1) (l) (out) : G (c :: l) out = G l out := by
  have hc : c ≠ 10 := by rcases (kb_one c).1 h with rfl | rfl | rfl <;> decide
  unfold G
  rw [splitL_cons _ _ _ hc]
  have := splitL_ne 10 l
  cases hs : splitL 10 l with
  | nil => exact absurd hs this
  | cons p q => simp only [joinHead, goL, List.singleton_append]; rw [wordsL_blank _ _ h]
/-- Two rows of pieces, alike but for a tail at some. -/
inductive Like (z : List UInt8) : List (List UInt8) → List (List UInt8) → Prop
  | nil : Like z [] []
  | same (h : List UInt8) {p q} : Like z p q → Like z (h :: p) (h :: q)
  | more (h : List UInt8) {p q} : Like z p q → Like z (h :: p) ((h ++ z) :: q)
theorem goL_like {z : List UInt8} (hw : ∀ h, wordsL (h ++ z) = wordsL h) {p q} (h : Like z p q) : ∀ out, goL q out = goL p out := by
  induction h with
  | nil => intro out; rfl
  | same h _ ih => intro out; rw [goL, goL]; split; exact ih _; rfl
  | more h _ ih => intro out; rw [goL, goL, hw]; split; exact ih _; rfl
theorem like_refl (z : List UInt8) (p) : Like z p p := by
  induction p with
  | nil => exact .nil
  | cons h t ih => exact .same h ih
theorem like_split (z : List UInt8) (hz : ∀ x ∈ z, x ≠ 10) (a : List UInt8) : Like z (splitL 10 a) (splitL 10 (a ++ z)) := by
  induction a with
  | nil =>
    have := splitL_app 10 z [] hz
    rw [List.append_nil] at this
    rw [List.nil_append, this]
    simp only [splitL, joinHead, List.append_nil]
    exact Like.more [] .nil
  | cons x t ih =>
    by_cases h : x = 10
    · subst h; rw [List.cons_append, splitL_hit, splitL_hit]; exact .same _ ih
    · rw [List.cons_append, splitL_cons _ _ _ h, splitL_cons _ _ _ h]
      generalize splitL 10 t = p at ih
      generalize splitL 10 (t ++ z) = q at ih
      cases ih with
      | nil => simp only [joinHead]; exact .same _ .nil
      | same h l => simp only [joinHead]; exact .same _ l
      | more h l => simp only [joinHead]; rw [← List.append_assoc]; exact .more _ l
theorem G_tail (z : List UInt8) (hz : ∀ x ∈ z, x ≠ 10) (hw : ∀ h, wordsL (h ++ z) = wordsL h) (a out) : G (a ++ z) out = G a out := goL_like hw (like_split z hz a) out
theorem head_hash (h z : List UInt8) : (splitL 35 (h ++ 35 :: z)).headD [] = (splitL 35 h).headD [] := by
  rw [splitL_join]
  have := splitL_ne 35 h
  cases hs : splitL 35 h with
  | nil => exact absurd hs this
  | cons p q => rfl
theorem wordsL_noise (z h : List UInt8) : wordsL (h ++ 35 :: z) = wordsL h := by unfold wordsL; rw [head_hash]
theorem splitL_end (c : UInt8) (q : List UInt8) : splitL c (q ++ [c]) = splitL c q ++ [[]] := by
  rw [splitL_join]; rfl
theorem wordsL_end (c : UInt8) (hc : kb c = 1) (h : List UInt8) : wordsL (h ++ [c]) = wordsL h := by
  have h35 : c ≠ 35 := by rcases (kb_one c).1 hc with rfl | rfl | rfl <;> decide
  have key : (splitL 35 (h ++ [c])).headD [] = (splitL 35 h).headD [] ∨ (splitL 35 (h ++ [c])).headD [] = (splitL 35 h).headD [] ++ [c] := by
    induction h with
    | nil => right; rw [List.nil_append, splitL_cons _ _ _ h35]; simp [splitL, joinHead]
    | cons x t ih =>
      by_cases hx : x = 35
      · subst hx; left; rw [List.cons_append, splitL_hit, splitL_hit]; rfl
      · rw [List.cons_append, splitL_cons _ _ _ hx, splitL_cons _ _ _ hx, head_join, head_join]
        rcases ih with ih | ih
        · left; rw [ih]
        · right; rw [ih]; simp
  unfold wordsL
  rcases key with k | k
  · rw [k]
  · rw [k, List.map_append, List.map_singleton, blankTo_of c hc, splitL_end, List.map_append, List.filter_append]
    simp [mkB_list]
theorem linesP_G (s : ByteArray) (h : s.size ≤ 16384) : linesP s = ansL (G s.data.toList []) := linesP_ans s h
theorem ansL_ok {o : Option (List (List ByteArray))} (h : (ansL o).2 = 0) : o = some (ansL o).1 := by
  cases o with
  | none => simp [ansL] at h
  | some r => rfl
end Go.Proofs.Ytcildbgckgodhab
