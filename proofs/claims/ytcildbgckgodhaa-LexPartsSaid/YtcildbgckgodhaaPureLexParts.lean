/- The lines of two texts with a feed between are both's; what stands behind a hash, and blanks, count for nothing: at any three texts. No condition. -/
import Derived.Test.YtcildbgckgodhaaXx6
import Derived.Test.YtcildbgckgodhaaParts
namespace Go.Proofs.Ytcildbgckgodhaa.Pure
open Go.RowKit Go.Proofs.Ytcildbgckgodhaa Go.Proofs.Ytcildbgckgodhaa.X Go.Proofs.YtcildbgckgodhaaW.PrintWords Go.Proofs.YtcildbgckgodhaaW.PrintLast
set_option linter.unusedVariables false
theorem data_app (a b : ByteArray) : (a ++ b).data.toList = a.data.toList ++ b.data.toList := by simp
theorem size_app (a b : ByteArray) : (a ++ b).size = a.size + b.size := by simp
theorem sz10 : (⟨#[10]⟩ : ByteArray).size = 1 := rfl
theorem sz32 : (⟨#[32]⟩ : ByteArray).size = 1 := rfl
theorem sz2 : (⟨#[32, 9]⟩ : ByteArray).size = 2 := rfl
theorem sz5 : (⟨#[13, 10, 10, 32, 10]⟩ : ByteArray).size = 5 := rfl
theorem size_list (a : ByteArray) : a.data.toList.length = a.size := by simp
def Linked (a b : ByteArray) (l : List (List ByteArray)) : Prop := ∃ x y, G a.data.toList [] = some x ∧ G b.data.toList [] = some y ∧ l = x ++ y
theorem linked_G {a b l} (h : Linked a b l) : (G a.data.toList []).bind (G b.data.toList) = some l := by
  obtain ⟨x, y, hx, hy, rfl⟩ := h
  rw [hx, Option.bind_some, G_out, hy]
  rfl
theorem lines_of (s : ByteArray) (l) (hs : s.size ≤ 16384) (h : G s.data.toList [] = some l) : linesP s = (l, 0) := by
  rw [linesP_G s hs, h]; rfl
theorem part1 (a b : ByteArray) (l) (ha : a.size ≤ 700) (hb : b.size ≤ 700) (h : Linked a b l) : linesP ((a ++ (⟨#[10]⟩ : ByteArray)) ++ b) = (l, 0) := by
  refine lines_of _ _ (by rw [size_app, size_app, sz10]; omega) ?_
  rw [data_app, data_app]
  show G ((a.data.toList ++ [10]) ++ b.data.toList) [] = some l
  rw [List.append_assoc, List.singleton_append, G_feed, linked_G h]
theorem part2 (a b n : ByteArray) (z : List UInt8) (l) (ha : a.size ≤ 700) (hb : b.size ≤ 700) (hn : n.size ≤ 701) (hz : n.data.toList = 35 :: z) (h10 : ∀ x ∈ z, x ≠ 10) (h : Linked a b l) : linesP (((a ++ n) ++ (⟨#[10]⟩ : ByteArray)) ++ b) = (l, 0) := by
  refine lines_of _ _ (by rw [size_app, size_app, size_app, sz10]; omega) ?_
  rw [data_app, data_app, data_app, hz]
  show G (((a.data.toList ++ 35 :: z) ++ [10]) ++ b.data.toList) [] = some l
  rw [List.append_assoc, List.singleton_append, G_feed, G_tail (35 :: z) (by
    intro x hx
    rcases List.mem_cons.1 hx with rfl | hx
    · decide
    · exact h10 x hx) (wordsL_noise z), linked_G h]
theorem part3 (a b : ByteArray) (l) (ha : a.size ≤ 700) (hb : b.size ≤ 700) (h : Linked a b l) :
    linesP (((((⟨#[32, 9]⟩ : ByteArray) ++ a) ++ (⟨#[13, 10, 10, 32, 10]⟩ : ByteArray)) ++ b) ++ (⟨#[32]⟩ : ByteArray)) = (l, 0) := by
  refine lines_of _ _ (by rw [size_app, size_app, size_app, size_app, sz32, sz2, sz5]; omega) ?_
  rw [data_app, data_app, data_app, data_app]
  show G (((([32, 9] ++ a.data.toList) ++ [13, 10, 10, 32, 10]) ++ b.data.toList) ++ [32]) [] = some l
  have e : (((([32, 9] ++ a.data.toList) ++ [13, 10, 10, 32, 10]) ++ b.data.toList) ++ [32] : List UInt8) = (32 :: 9 :: (a.data.toList ++ [13])) ++ 10 :: ([] ++ 10 :: ([32] ++ 10 :: (b.data.toList ++ [32]))) := by simp
  have k32 : kb 32 = 1 := by decide +kernel
  have k9 : kb 9 = 1 := by decide +kernel
  have k13 : kb 13 = 1 := by decide +kernel
  rw [e, G_feed, G_blank _ k32, G_blank _ k9, G_tail [13] (by simp) (wordsL_end 13 k13)]
  have e2 : ∀ out, G ([] ++ 10 :: ([32] ++ 10 :: (b.data.toList ++ [32]))) out = G b.data.toList out := by
    intro out
    rw [G_feed, G_nil, Option.bind_some, G_feed, G_blank _ k32, G_nil, Option.bind_some, G_tail [32] (by simp) (wordsL_end 32 k32)]
  rw [show G ([] ++ 10 :: ([32] ++ 10 :: (b.data.toList ++ [32]))) = G b.data.toList from funext e2]
  exact linked_G h
theorem tail_l0 (a b c : ByteArray) (l : List (List ByteArray)) (ha : a.size ≤ 700) (hb : b.size ≤ 700) (hc : c.size ≤ 700) (h : Linked a b l) : ∀ (d i : Nat), c.size - i = d → i ≤ c.size → ∀ (n : ByteArray) (z : List UInt8), n.data.toList = 35 :: z → (∀ x ∈ z, x ≠ 10) → n.size ≤ i + 1 →
    Ev (fun k => fescuelaw05_LexParts.l0 k a b c true l n (i : Int)) true := by
  intro d
  induction d with
  | zero =>
    intro i hd hi n z hz h10 hn
    have p1 := are_ok _ _ (part1 a b l ha hb h)
    have p2 := are_ok _ _ (part2 a b n z l ha hb (by omega) hz h10 h)
    have p3 := are_ok _ _ (part3 a b l ha hb h)
    have s1 : (⟨#[10]⟩ : ByteArray).size = 1 := rfl
    have s2 : (⟨#[32, 9]⟩ : ByteArray).size = 2 := rfl
    have s3 : (⟨#[13, 10, 10, 32, 10]⟩ : ByteArray).size = 5 := rfl
    refine Ev.step (f := fun k => (fescuelaw05_are.f k ((a ++ (⟨#[10]⟩ : ByteArray)) ++ b) l).bind fun t207 => if t207 = true then (fescuelaw05_are.f k (((a ++ n) ++ (⟨#[10]⟩ : ByteArray)) ++ b) l).bind fun t208 => if t208 = true then (fescuelaw05_are.f k (((((⟨#[32, 9]⟩ : ByteArray) ++ a) ++ (⟨#[13, 10, 10, 32, 10]⟩ : ByteArray)) ++ b) ++ (⟨#[32]⟩ : ByteArray)) l).bind fun t209 => some t209 else some false else some false) (fun k => ?_) ?_
    · simp only [fescuelaw05_LexParts.l0]
      have q1 : a.size + 1 ≤ 9223372036854775807 := by omega
      have q2 : (a ++ (⟨#[10]⟩ : ByteArray)).size + b.size ≤ 9223372036854775807 := by rw [size_app, s1]; omega
      have q3 : a.size + n.size ≤ 9223372036854775807 := by omega
      have q4 : (a ++ n).size + 1 ≤ 9223372036854775807 := by rw [size_app]; omega
      have q5 : ((a ++ n) ++ (⟨#[10]⟩ : ByteArray)).size + b.size ≤ 9223372036854775807 := by rw [size_app, size_app, s1]; omega
      have q6 : 2 + a.size ≤ 9223372036854775807 := by omega
      have q7 : ((⟨#[32, 9]⟩ : ByteArray) ++ a).size + 5 ≤ 9223372036854775807 := by rw [size_app, s2]; omega
      have q8 : (((⟨#[32, 9]⟩ : ByteArray) ++ a) ++ (⟨#[13, 10, 10, 32, 10]⟩ : ByteArray)).size + b.size ≤ 9223372036854775807 := by rw [size_app, size_app, s2, s3]; omega
      have q9 : ((((⟨#[32, 9]⟩ : ByteArray) ++ a) ++ (⟨#[13, 10, 10, 32, 10]⟩ : ByteArray)) ++ b).size + 1 ≤ 9223372036854775807 := by rw [size_app, size_app, size_app, s2, s3]; omega
      rw [if_neg (by omega)]
      simp only [if_pos q1, if_pos q2, if_pos q3, if_pos q4, if_pos q5, if_pos q6, if_pos q7, if_pos q8, if_pos q9, if_true]
    · refine Ev.bind p1 (Ev.congr (fun k => by rw [if_pos rfl]) (Ev.bind p2 (Ev.congr (fun k => by rw [if_pos rfl]) (Ev.bind p3 (Ev.now _)))))
  | succ d ih =>
    intro i hd hi n z hz h10 hn
    have hlt : i < c.size := by omega
    have hw : wrap64 ((i : Int) + 1) = ((i + 1 : Nat) : Int) := by unfold wrap64; omega
    have hbt := bt_get' c i hlt
    by_cases h1 : c[i] = 10
    · refine Ev.step (f := fun k => fescuelaw05_LexParts.l0 k a b c true l n ((i + 1 : Nat) : Int)) (fun k => ?_) (ih (i + 1) (by omega) (by omega) n z hz h10 (by omega))
      simp only [fescuelaw05_LexParts.l0]
      rw [if_pos (by omega), if_pos (by omega), if_pos (by rw [hbt, h1]; rfl), hw]
    · have hne : ¬ bt c (i : Int) = 10 := by
        rw [hbt]; intro e; exact h1 (UInt8.toNat_inj.1 (by have : (10 : UInt8).toNat = 10 := rfl
                                                           omega))
      have hsn : (mkB [c[i]]).size = 1 := by rw [mkB_size]; rfl
      refine Ev.step (f := fun k => fescuelaw05_LexParts.l0 k a b c true l (n ++ mkB [c[i]]) ((i + 1 : Nat) : Int)) (fun k => ?_) (ih (i + 1) (by omega) (by omega) (n ++ mkB [c[i]]) (z ++ [c[i]]) (by rw [data_app, hz, mkB_data]; rfl) (by
        intro x hx
        rcases List.mem_append.1 hx with hx | hx
        · exact h10 x hx
        · rw [List.mem_singleton.1 hx]; exact h1) (by rw [size_app, hsn]; omega))
      simp only [fescuelaw05_LexParts.l0]
      rw [if_pos (by omega), if_pos (by omega), if_neg hne, Option.bind_some, hbt, one_byte, if_pos (by rw [hsn]; omega), hw]
theorem lexParts_j0 (a b c : ByteArray) (q : Bool) (ha : q = false → a.size ≤ 700 ∧ b.size ≤ 700 ∧ c.size ≤ 700) : Ev (fun k => fescuelaw05_LexParts.j0 k a b c true q) true := by
  cases q with
  | true => exact Ev.step (f := fun _ => some true) (fun k => by simp only [fescuelaw05_LexParts.j0]; rw [if_pos trivial]) (Ev.now _)
  | false =>
    obtain ⟨ha, hb, hc⟩ := ha rfl
    have hA := linesP_G a (by omega)
    have hB := linesP_G b (by omega)
    refine Ev.step (f := fun k => if (linesP a).2 = 0 then fescuelaw05_LexParts.j1 k a b c true (linesP a).1 (linesP b).1 ((linesP b).2 != 0) else fescuelaw05_LexParts.j1 k a b c true (linesP a).1 (linesP b).1 true) (fun k => by simp only [fescuelaw05_LexParts.j0, lex_Lines.f, Option.bind_some]; rw [if_neg (by simp)]) ?_
    have stop : Ev (fun k => fescuelaw05_LexParts.j1 k a b c true (linesP a).1 (linesP b).1 true) true := Ev.step (f := fun _ => some true) (fun k => by simp only [fescuelaw05_LexParts.j1]; rw [if_pos trivial]) (Ev.now _)
    by_cases h1 : (linesP a).2 = 0
    · by_cases h2 : (linesP b).2 = 0
      · have hL : Linked a b ((linesP a).1 ++ (linesP b).1) := ⟨_, _, by rw [hA] at h1 ⊢; exact ansL_ok h1, by rw [hB] at h2 ⊢; exact ansL_ok h2, rfl⟩
        have l1 := (linesP_len a).1
        have l2 := (linesP_len b).1
        refine Ev.congr (f := fun k => fescuelaw05_LexParts.j1 k a b c true (linesP a).1 (linesP b).1 false) (fun k => by rw [if_pos h1, h2]; rfl) ?_
        refine Ev.step (f := fun k => fescuelaw05_LexParts.l0 k a b c true ((linesP a).1 ++ (linesP b).1) (⟨#[35]⟩ : ByteArray) ((0 : Nat) : Int)) (fun k => ?_) (tail_l0 a b c _ ha hb hc hL _ 0 rfl (Nat.zero_le _) _ [] rfl (by simp) (Nat.le_refl 1))
        simp only [fescuelaw05_LexParts.j1, Option.bind_some, List.nil_append, List.length_nil]
        rw [if_neg (by simp), if_pos (by omega), if_pos (by omega)]
        rfl
      · exact Ev.congr (f := fun k => fescuelaw05_LexParts.j1 k a b c true (linesP a).1 (linesP b).1 true) (fun k => by rw [if_pos h1, bne_iff_ne.2 h2]) stop
    · exact Ev.congr (f := fun k => fescuelaw05_LexParts.j1 k a b c true (linesP a).1 (linesP b).1 true) (fun k => by rw [if_neg h1]) stop
theorem LexParts : fescuelaw05_LexParts.Pure := by
  intro a b c _ _ _
  apply Ev.rounds (r := true)
  refine Ev.bind (a := true) alive_ok ?_
  by_cases h1 : (a.size : Int) > 700
  · exact Ev.congr (fun k => by rw [if_pos h1]) (lexParts_j0 a b c true (fun h => by cases h))
  · by_cases h2 : (b.size : Int) > 700
    · exact Ev.congr (fun k => by rw [if_neg h1, if_pos h2]) (lexParts_j0 a b c true (fun h => by cases h))
    · by_cases h3 : (c.size : Int) > 700
      · exact Ev.congr (fun k => by rw [if_neg h1, if_neg h2, if_pos h3]) (lexParts_j0 a b c true (fun h => by cases h))
      · exact Ev.congr (f := fun k => fescuelaw05_LexParts.j0 k a b c true false) (fun k => by rw [if_neg h1, if_neg h2, if_neg h3]; rfl) (lexParts_j0 a b c false (fun _ => by omega))
end Go.Proofs.Ytcildbgckgodhaa.Pure
