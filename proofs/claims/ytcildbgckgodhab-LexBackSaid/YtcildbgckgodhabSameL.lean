/- Plain: a list is the same as itself, as the document's Same says it. -/
import Derived.Test.YtcildbgckgodhabXx1
namespace Go.Proofs.Ytcildbgckgodhab
open Go.RowKit Go.Proofs.Ytcildbgckgodhab.X Go.Proofs.YtcildbgckgodhabW.PrintWords Go.Proofs.YtcildbgckgodhabW.PrintLast
set_option linter.unusedVariables false
/-- Two equal lists are the same. -/
theorem same_l (l : List (List ByteArray)) (hl : l.length ≤ 1000000) (hr : ∀ x ∈ l, x.length ≤ 1000000) : ∀ (d i : Nat), l.length - i = d → i ≤ l.length → Ev (fun k => fescueref05_Same.l0 k l l (i : Int)) true := by
  intro d
  induction d with
  | zero =>
    intro i hd hi
    refine Ev.step (f := fun _ => some true) (fun k => ?_) (Ev.now _)
    simp only [fescueref05_Same.l0]
    rw [if_neg (by omega)]
  | succ d ih =>
    intro i hd hi
    have hlt : i < l.length := by omega
    have hw : wrap64 ((i : Int) + 1) = ((i + 1 : Nat) : Int) := by unfold wrap64; omega
    have hrd : rd_L1 l (i : Int) = l[i] := by unfold rd_L1; simp [hlt]
    have hl1 : l[i].length ≤ 1000000 := hr _ (List.getElem_mem hlt)
    have inner : ∀ (e j : Nat), l[i].length - j = e → j ≤ l[i].length → Ev (fun k => fescueref05_Same.l1 k l l (i : Int) (j : Int)) true := by
      intro e
      induction e with
      | zero =>
        intro j he hj
        refine Ev.step (f := fun k => fescueref05_Same.l0 k l l ((i + 1 : Nat) : Int)) (fun k => ?_) (ih (i + 1) (by omega) (by omega))
        simp only [fescueref05_Same.l1]
        rw [if_pos (by omega), if_pos (by omega), hrd, if_neg (by omega), hw]
      | succ e ih2 =>
        intro j he hj
        have hw2 : wrap64 ((j : Int) + 1) = ((j + 1 : Nat) : Int) := by unfold wrap64; omega
        refine Ev.step (f := fun k => fescueref05_Same.l1 k l l (i : Int) ((j + 1 : Nat) : Int)) (fun k => ?_) (ih2 (j + 1) (by omega) (by omega))
        simp only [fescueref05_Same.l1]
        rw [if_pos (by omega), if_pos (by omega), hrd, if_pos (by omega), if_pos (by omega), if_pos (by omega), if_pos (by omega), if_pos trivial, hw2]
    refine Ev.step (f := fun k => fescueref05_Same.l1 k l l (i : Int) ((0 : Nat) : Int)) (fun k => ?_) (inner _ 0 rfl (Nat.zero_le _))
    simp only [fescueref05_Same.l0]
    rw [if_pos (by omega), if_pos (by omega), if_pos (by omega), if_pos trivial]
    rfl
theorem same_eq (l : List (List ByteArray)) (hl : l.length ≤ 1000000) (hr : ∀ x ∈ l, x.length ≤ 1000000) : Ev (fun k => fescueref05_Same.f k l l) true := by
  refine Ev.congr (f := fun k => fescueref05_Same.l0 k l l 0) (fun k => by simp only [fescueref05_Same.f]; rw [if_pos trivial]) ?_
  exact same_l l hl hr _ 0 rfl (Nat.zero_le _)
end Go.Proofs.Ytcildbgckgodhab
