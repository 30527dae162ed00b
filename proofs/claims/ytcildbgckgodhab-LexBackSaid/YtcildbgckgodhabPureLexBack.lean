/- What is joined has these lines; what has lines, joined, has the same lines: at any lines and text. No condition. -/
import Derived.Test.YtcildbgckgodhabXx3
import Derived.Test.YtcildbgckgodhabJoinB
import Derived.Test.YtcildbgckgodhabGreat
import Derived.Test.YtcildbgckgodhabAlive
import Derived.Test.YtcildbgckgodhabBackL
namespace Go.Proofs.Ytcildbgckgodhab.Pure
open Go.RowKit Go.Proofs.Ytcildbgckgodhab Go.Proofs.Ytcildbgckgodhab.X Go.Proofs.YtcildbgckgodhabW.PrintWords Go.Proofs.YtcildbgckgodhabW.PrintLast
set_option linter.unusedVariables false
theorem word_le (p : List UInt8) : ∀ x ∈ wordsL p, x.size ≤ p.length := by
  intro x hx
  have h := cost_words p
  have : ∀ (l : List ByteArray), x ∈ l → x.size + 1 ≤ cost l := by
    intro l
    induction l with
    | nil => intro h; simp at h
    | cons a t ih =>
      intro h
      simp only [cost, List.map_cons, List.sum_cons] at ih ⊢
      rcases List.mem_cons.1 h with rfl | h
      · omega
      · have := ih h; omega
  have := this _ hx
  omega
theorem goL_words (N : Nat) : ∀ (P : List (List UInt8)) (out r : List (List ByteArray)), (∀ p ∈ P, p.length ≤ N) → (∀ ws ∈ out, ∀ x ∈ ws, x.size ≤ N) → goL P out = some r → ∀ ws ∈ r, ∀ x ∈ ws, x.size ≤ N := by
  intro P
  induction P with
  | nil => intro out r _ ho h; simp only [goL, Option.some.injEq] at h; subst h; exact ho
  | cons p t ih =>
    intro out r hP ho h
    rw [goL] at h
    split at h
    · refine ih _ r (fun q hq => hP q (by simp [hq])) (fun ws hws x hx => ?_) h
      unfold endL at hws
      split at hws
      · exact ho ws hws x hx
      · rcases List.mem_append.1 hws with hws | hws
        · exact ho ws hws x hx
        · rw [List.mem_singleton.1 hws] at hx
          have := word_le p x hx
          have := hP p (by simp)
          omega
    · cases h
theorem few_lines (s : ByteArray) (hs : s.size ≤ 16384) : fewB (linesP s).1 = true := by
  obtain ⟨h1, h2⟩ := linesP_len s
  have hw : ∀ ws ∈ (linesP s).1, ∀ x ∈ ws, x.size ≤ 16384 := by
    rw [linesP_ans s hs]
    cases h : goL (splitL 10 s.data.toList) [] with
    | none => intro ws hws; simp [ansL] at hws
    | some r => exact goL_words 16384 _ [] r (fun p hp => by have := splitL_mem _ _ p hp; have hz : s.data.toList.length = s.size := by simp
                                                             omega) (by simp) h
  unfold fewB
  rw [Bool.and_eq_true, List.all_eq_true]
  refine ⟨decide_eq_true (by omega), fun ws hws => ?_⟩
  rw [Bool.and_eq_true, List.all_eq_true]
  exact ⟨decide_eq_true (by have := h2 ws hws; omega), fun x hx => decide_eq_true (by have := hw ws hws x hx; omega)⟩
theorem join_is (l : List (List ByteArray)) (h : fewB l = true) : Ev (fun _ => lex_Join.f l) (joinP l) :=
  Ev.congr (f := fun _ => some (joinP l)) (fun k => by unfold lex_Join.f; rw [if_pos h]) (Ev.now _)
theorem bad_empty (s : ByteArray) (h : ¬ (linesP s).2 = 0) : (linesP s).1 = [] := by
  unfold linesP at h ⊢
  by_cases h1 : 16384 < s.size
  · rw [if_pos h1]
  · rw [if_neg h1] at h ⊢
    cases h2 : lexF s.data.toList [] [] with
    | none => rfl
    | some r => rw [h2] at h; exact absurd rfl h
theorem back_j1 (s : ByteArray) (hs : s.size ≤ 2000) : Ev (fun k => fescuelaw05_LexBack.j1 k s true false) true := by
  refine Ev.step (f := fun k => (lex_Lines.f s).bind fun bt150 => (if bt150.2 = 0 then ((lex_Join.f bt150.1).bind fun bt154 => (if true = true then (if bt154.2 = 0 then ((fescuelaw05_are.f k bt154.1 bt150.1).bind fun t156 => (some t156)) else (some false)) else (some false))) else (if true = true then (some ((bt150.1.length : Int) == 0)) else (some false)))) (fun k => by simp only [fescuelaw05_LexBack.j1]; rw [if_neg (by simp)]) ?_
  refine Ev.bind (a := linesP s) (Ev.congr (f := fun _ => some (linesP s)) (fun k => rfl) (Ev.now _)) ?_
  by_cases h : (linesP s).2 = 0
  · have hj := join_lines s (by omega) h
    refine Ev.congr (f := fun k => (lex_Join.f (linesP s).1).bind fun bt154 => (if true = true then (if bt154.2 = 0 then ((fescuelaw05_are.f k bt154.1 (linesP s).1).bind fun t156 => (some t156)) else (some false)) else (some false))) (fun k => by rw [if_pos h]) ?_
    refine Ev.bind (join_is _ (few_lines s (by omega))) ?_
    refine Ev.congr (f := fun k => (fescuelaw05_are.f k (joinP (linesP s).1).1 (linesP s).1).bind fun t156 => (some t156)) (fun k => by rw [if_pos rfl, if_pos hj]) ?_
    exact Ev.bind (are_ok _ _ (lines_join _ hj)) (Ev.now _)
  · have he := bad_empty s h
    exact Ev.congr (f := fun _ => some true) (fun k => by rw [if_neg h, if_pos rfl, he]; rfl) (Ev.now _)
theorem LexBack (l : List (List ByteArray)) (s : ByteArray) : ∃ k, fescuelaw05_LexBack.f k l s = some true := by
  refine Ev.rounds (g := fun k => fescuelaw05_LexBack.f k l s) ?_
  unfold fescuelaw05_LexBack.f
  refine Ev.bind alive_ok ?_
  obtain ⟨b, hb, hf⟩ := great_any l 2000 (by omega)
  refine Ev.bind hb ?_
  have done : Ev (fun k => fescuelaw05_LexBack.j0 k l s true true) true :=
    Ev.step (f := fun _ => some true) (fun k => by simp only [fescuelaw05_LexBack.j0]; rw [if_pos trivial]) (Ev.now _)
  cases b with
  | true => exact Ev.congr (fun k => by rw [if_pos rfl]) done
  | false =>
    by_cases hs : (s.size : Int) > 2000
    · exact Ev.congr (fun k => by rw [if_neg (by simp), if_pos hs]) done
    · obtain ⟨h1, h2⟩ := hf rfl
      have hfew : fewB l = true := by
        unfold fewB
        rw [Bool.and_eq_true, List.all_eq_true]
        refine ⟨decide_eq_true (by omega), fun ws hw => ?_⟩
        rw [Bool.and_eq_true, List.all_eq_true]
        exact ⟨decide_eq_true (by have := (h2 ws hw).1; omega), fun x hx => decide_eq_true (by have := (h2 ws hw).2 x hx; omega)⟩
      have hj1 := back_j1 s (by omega)
      refine Ev.congr (f := fun k => fescuelaw05_LexBack.j0 k l s true false) (fun k => by rw [if_neg (by simp), if_neg hs]; rfl) ?_
      refine Ev.step (f := fun k => (lex_Join.f l).bind fun bt147 => (if bt147.2 = 0 then ((fescuelaw05_are.f k bt147.1 l).bind fun t149 => (fescuelaw05_LexBack.j1 k s true (!t149))) else (fescuelaw05_LexBack.j1 k s true false))) (fun k => by simp only [fescuelaw05_LexBack.j0]; rw [if_neg (by simp)]) ?_
      refine Ev.bind (join_is l hfew) ?_
      by_cases hj : (joinP l).2 = 0
      · refine Ev.congr (f := fun k => (fescuelaw05_are.f k (joinP l).1 l).bind fun t149 => (fescuelaw05_LexBack.j1 k s true (!t149))) (fun k => by rw [if_pos hj]) ?_
        exact Ev.bind (are_ok _ _ (lines_join _ hj)) hj1
      · exact Ev.congr (fun k => by rw [if_neg hj]) hj1
end Go.Proofs.Ytcildbgckgodhab.Pure
