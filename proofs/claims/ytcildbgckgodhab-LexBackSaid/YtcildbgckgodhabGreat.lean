/- Plain: lines that are not great are few and short. -/
import Derived.Test.YtcildbgckgodhabXx2
namespace Go.Proofs.Ytcildbgckgodhab
open Go.RowKit Go.Proofs.Ytcildbgckgodhab.X Go.Proofs.YtcildbgckgodhabW.PrintWords Go.Proofs.YtcildbgckgodhabW.PrintLast
set_option linter.unusedVariables false
theorem wr_nat (n : Nat) (h : n < 4000000000000000000) : wrap64 (n : Int) = (n : Int) := by unfold wrap64; omega
theorem wr_one (n : Nat) (h : n < 3000000000000000000) : wrap64 ((n : Int) + 1) = ((n + 1 : Nat) : Int) := wr_nat (n + 1) (by omega)
theorem wr_add (n m : Nat) (h : n + m < 4000000000000000000) : wrap64 ((n : Int) + (m : Int)) = ((n + m : Nat) : Int) := wr_nat (n + m) (by omega)
theorem mn_cap (a : Nat) : ∃ z : Nat, mn (a : Int) 100000 = (z : Int) ∧ z ≤ 100000 ∧ (z < 100000 → a = z) := by
  unfold mn
  by_cases h : a ≤ 100000
  · exact ⟨a, by split <;> omega, h, fun _ => rfl⟩
  · exact ⟨100000, by split <;> omega, by omega, fun h => by omega⟩
def RowOk (most : Nat) (ws : List ByteArray) : Prop := ws.length ≤ 80 ∧ ∀ x ∈ ws, x.size ≤ most
theorem great_l (l : List (List ByteArray)) (most : Nat) (hm : most < 100000) : ∀ (d i : Nat), l.length - i = d → i ≤ l.length → ∀ n : Nat, n ≤ most →
    ∃ b, Ev (fun k => fescueref05_Great.l0 k l (most : Int) (n : Int) (i : Int)) b ∧ (b = false → l.length ≤ 2000 ∧ ∀ j, i ≤ j → ∀ h : j < l.length, RowOk most l[j]) := by
  have stop : ∀ (n i : Nat), Ev (fun k => fescueref05_Great.j1 k l (most : Int) (n : Int) (i : Int) false) (decide ((l.length : Int) > 2000)) := fun n i =>
    Ev.step (f := fun _ => some (decide ((l.length : Int) > 2000))) (fun k => by simp only [fescueref05_Great.j1]; rw [if_neg (by simp)]) (Ev.now _)
  intro d
  induction d with
  | zero =>
    intro i hd hi n hn
    refine ⟨_, Ev.step (f := fun k => fescueref05_Great.j1 k l (most : Int) (n : Int) (i : Int) false) (fun k => by simp only [fescueref05_Great.l0]; rw [if_neg (by omega)]) (stop n i), fun h => ⟨?_, fun j hj h' => by omega⟩⟩
    have := of_decide_eq_false h; omega
  | succ d ih =>
    intro i hd hi n hn
    have hlt : i < l.length := by omega
    have hrd : rd_L1 l (i : Int) = l[i] := by unfold rd_L1; simp [hlt]
    by_cases h21 : i < 2100
    · have inner : ∀ (e j : Nat), l[i].length - j = e → j ≤ l[i].length → l[i].length ≤ 80 → ∀ m : Nat, m ≤ most + 1 + j * 100001 →
          ∃ b, Ev (fun k => fescueref05_Great.l1 k l (most : Int) (m : Int) (i : Int) (j : Int)) b ∧ (b = false → m ≤ most ∧ (∀ q, j ≤ q → ∀ h : q < l[i].length, l[i][q].size ≤ most) ∧ l.length ≤ 2000 ∧ ∀ q, i + 1 ≤ q → ∀ h : q < l.length, RowOk most l[q]) := by
        intro e
        induction e with
        | zero =>
          intro j he hj h80 m hmm
          by_cases hgt : m > most
          · refine ⟨true, Ev.step (f := fun _ => some true) (fun k => ?_) (Ev.now _), fun h => by cases h⟩
            simp only [fescueref05_Great.l1]
            rw [if_pos (by omega), if_pos (by omega), hrd, if_neg (by omega), if_pos (by omega)]
          · obtain ⟨b, hb, hf⟩ := ih (i + 1) (by omega) (by omega) m (by omega)
            refine ⟨b, Ev.step (f := fun k => fescueref05_Great.l0 k l (most : Int) (m : Int) ((i + 1 : Nat) : Int)) (fun k => ?_) hb, fun h => ?_⟩
            · simp only [fescueref05_Great.l1]
              rw [if_pos (by omega), if_pos (by omega), hrd, if_neg (by omega), if_neg (by omega), wr_one i (by omega)]
            · obtain ⟨h1, h2⟩ := hf h
              exact ⟨by omega, fun q hq hq' => by omega, h1, h2⟩
        | succ e ihe =>
          intro j he hj h80 m hmm
          have hjl : j < l[i].length := by omega
          have hws : rdOf ByteArray.empty l[i] (j : Int) = l[i][j] := by unfold rdOf; simp [hjl]
          have hj3 : j < 3000000000000000000 := by omega
          obtain ⟨z, hz⟩ := mn_cap l[i][j].size
          obtain ⟨hz1, hz2, hz3⟩ := hz
          have hm3 : m < 3000000000000000000 := by omega
          have hm4 : m + 1 + z < 4000000000000000000 := by omega
          obtain ⟨b, hb, hf⟩ := ihe (j + 1) (by omega) (by omega) h80 (m + 1 + z) (by omega)
          refine ⟨b, Ev.step (f := fun k => fescueref05_Great.l1 k l (most : Int) ((m + 1 + z : Nat) : Int) (i : Int) ((j + 1 : Nat) : Int)) (fun k => ?_) hb, fun h => ?_⟩
          · simp only [fescueref05_Great.l1]
            rw [if_pos (by omega), if_pos (by omega), hrd, if_pos (by omega), if_pos (by omega), hws, hz1, wr_one m hm3, wr_add (m + 1) z hm4, wr_one j hj3]
          · obtain ⟨h1, h2, h3, h4⟩ := hf h
            refine ⟨by omega, fun q hq hq' => ?_, h3, h4⟩
            by_cases e1 : q = j
            · subst e1; have := hz3 (by omega); omega
            · exact h2 q (by omega) hq'
      by_cases h80 : l[i].length ≤ 80
      · have hn3 : n < 3000000000000000000 := by omega
        obtain ⟨b, hb, hf⟩ := inner _ 0 rfl (Nat.zero_le _) h80 (n + 1) (by omega)
        refine ⟨b, Ev.step (f := fun k => fescueref05_Great.j1 k l (most : Int) (n : Int) (i : Int) true) (fun k => ?_) (Ev.step (f := fun k => fescueref05_Great.l1 k l (most : Int) ((n + 1 : Nat) : Int) (i : Int) ((0 : Nat) : Int)) (fun k => ?_) hb), fun h => ?_⟩
        · simp only [fescueref05_Great.l0]
          rw [if_pos (by omega), decide_eq_true (by omega)]
        · simp only [fescueref05_Great.j1]
          rw [if_pos trivial, if_pos (by omega), if_pos (by omega), hrd, if_neg (by omega), wr_one n hn3]; rfl
        · obtain ⟨_, h2, h3, h4⟩ := hf h
          refine ⟨h3, fun q hq hq' => ?_⟩
          by_cases e1 : q = i
          · subst e1
            refine ⟨h80, fun x hx => ?_⟩
            obtain ⟨p, hp, rfl⟩ := List.getElem_of_mem hx
            exact h2 p (Nat.zero_le _) hp
          · exact h4 q (by omega) hq'
      · refine ⟨true, Ev.step (f := fun k => fescueref05_Great.j1 k l (most : Int) (n : Int) (i : Int) true) (fun k => ?_) (Ev.step (f := fun _ => some true) (fun k => ?_) (Ev.now _)), fun h => by cases h⟩
        · simp only [fescueref05_Great.l0]
          rw [if_pos (by omega), decide_eq_true (by omega)]
        · simp only [fescueref05_Great.j1]
          rw [if_pos trivial, if_pos (by omega), if_pos (by omega), hrd, if_pos (by omega)]
    · refine ⟨_, Ev.step (f := fun k => fescueref05_Great.j1 k l (most : Int) (n : Int) (i : Int) false) (fun k => ?_) (stop n i), fun h => ?_⟩
      · simp only [fescueref05_Great.l0]
        rw [if_pos (by omega), decide_eq_false (by omega)]
      · have := of_decide_eq_false h; omega
theorem great_any (l : List (List ByteArray)) (most : Nat) (hm : most < 100000) : ∃ b, Ev (fun k => fescueref05_Great.f k l (most : Int)) b ∧ (b = false → l.length ≤ 2000 ∧ ∀ ws ∈ l, RowOk most ws) := by
  obtain ⟨b, hb, hf⟩ := great_l l most hm _ 0 rfl (Nat.zero_le _) 0 (Nat.zero_le _)
  refine ⟨b, hb, fun h => ⟨(hf h).1, fun ws hw => ?_⟩⟩
  obtain ⟨p, hp, rfl⟩ := List.getElem_of_mem hw
  exact (hf h).2 p (Nat.zero_le _) hp
end Go.Proofs.Ytcildbgckgodhab
