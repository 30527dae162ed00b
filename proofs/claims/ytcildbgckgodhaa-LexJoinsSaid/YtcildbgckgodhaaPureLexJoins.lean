/- The text of lines, or the error, is the document's: at any lines. No condition. -/
import Derived.Test.YtcildbgckgodhaaXx3
import Derived.Test.YtcildbgckgodhaaJoinB
import Derived.Test.YtcildbgckgodhaaGreat
import Derived.Test.YtcildbgckgodhaaSameL
import Derived.Test.YtcildbgckgodhaaRefJ
namespace Go.Proofs.Ytcildbgckgodhaa.Pure
open Go.RowKit Go.Proofs.Ytcildbgckgodhaa Go.Proofs.Ytcildbgckgodhaa.X Go.Proofs.YtcildbgckgodhaaW.PrintWords Go.Proofs.YtcildbgckgodhaaW.PrintLast
set_option linter.unusedVariables false
theorem joins_l0 (l : List (List ByteArray)) (hl : l.length ≤ 2000) (hr : ∀ ws ∈ l, RowOk 20000 ws) : ∀ (d i : Nat), l.length - i = d → i ≤ l.length → Ev (fun k => fescuelaw05_LexJoins.l0 k l (l.take i) (i : Int)) true := by
  have hfew : fewB l = true := by
    unfold fewB
    rw [Bool.and_eq_true, List.all_eq_true]
    refine ⟨decide_eq_true (by omega), fun ws hw => ?_⟩
    rw [Bool.and_eq_true, List.all_eq_true]
    exact ⟨decide_eq_true (by have := (hr ws hw).1; omega), fun x hx => decide_eq_true (by have := (hr ws hw).2 x hx; omega)⟩
  intro d
  induction d with
  | zero =>
    intro i hd hi
    have he : l.take i = l := List.take_of_length_le (by omega)
    rw [he]
    refine Ev.step (f := fun k => (lex_Join.f l).bind fun bt151 => ((fescueref05_Join.f k l).bind fun bt153 => (if bt151.1.toList = bt153.1.toList then (if bt151.2 = bt153.2 then ((fescueref05_Same.f k l l).bind fun t155 => (some t155)) else (some false)) else (some false)))) (fun k => by simp only [fescuelaw05_LexJoins.l0]; rw [if_neg (by omega)]) ?_
    refine Ev.bind (a := joinP l) (Ev.congr (f := fun _ => some (joinP l)) (fun k => by unfold lex_Join.f; rw [if_pos hfew]) (Ev.now _)) ?_
    refine Ev.bind (refJoin l (by omega) (fun ws hw => by have := (hr ws hw).1; omega) (fun ws hw x hx => by have := (hr ws hw).2 x hx; omega)) ?_
    refine Ev.congr (f := fun k => (fescueref05_Same.f k l l).bind fun t => some t) (fun k => by rw [if_pos rfl, if_pos rfl]) ?_
    exact Ev.bind (same_eq l (by omega) (fun x hx => by have := (hr x hx).1; omega)) (Ev.now _)
  | succ d ih =>
    intro i hd hi
    have hlt : i < l.length := by omega
    have hrd : rd_L1 l (i : Int) = l[i] := by unfold rd_L1; simp [hlt]
    have h80 := (hr _ (List.getElem_mem hlt)).1
    have htl : (l.take i).length = i := by rw [List.length_take]; omega
    have hst : l.take i ++ [([] ++ l[i] : List ByteArray)] = l.take (i + 1) := by rw [List.nil_append, List.take_succ_eq_append_getElem hlt]
    refine Ev.step (f := fun k => fescuelaw05_LexJoins.l0 k l (l.take (i + 1)) ((i + 1 : Nat) : Int)) (fun k => ?_) (ih (i + 1) (by omega) (by omega))
    simp only [fescuelaw05_LexJoins.l0]
    rw [if_pos (by omega), Option.bind_some, if_pos (by omega), hrd, if_pos (by rw [List.length_nil]; omega), if_pos (by omega), hst, wr_one i (by omega)]
theorem LexJoins (l : List (List ByteArray)) : ∃ k, fescuelaw05_LexJoins.f k l = some true := by
  obtain ⟨b, hb, hf⟩ := great_any l 20000 (by omega)
  refine Ev.rounds (g := fun k => fescuelaw05_LexJoins.f k l) ?_
  unfold fescuelaw05_LexJoins.f
  refine Ev.bind hb ?_
  cases b with
  | true => exact Ev.congr (f := fun _ => some true) (fun k => by rw [if_pos rfl]) (Ev.now _)
  | false =>
    obtain ⟨h1, h2⟩ := hf rfl
    refine Ev.congr (f := fun k => fescuelaw05_LexJoins.l0 k l (l.take 0) ((0 : Nat) : Int)) (fun k => by rw [if_neg (by simp)]; rfl) (joins_l0 l h1 h2 _ 0 rfl (Nat.zero_le _))
end Go.Proofs.Ytcildbgckgodhaa.Pure
