/- The walk of package lex: kinds. -/
import Derived.Test.YtcildbgckgodhabProg
import Derived.Test.YtcildbgckgodhabLexT
import Derived.WalkKit
import Derived.WalkSpells
import Derived.WalkLawsBesides
import Derived.Laws.RangeAny
import Derived.Laws.Rows
import Derived.Great.BuildSlice
import Derived.Lib.OthersKept
import Derived.Lib.Hide
import Derived.PlainAid
namespace Go.Proofs.Ytcildbgckgodhab
open Go.RowKit Go.Proofs.YtcildbgckgodhabW.PrintWords Go.Proofs.YtcildbgckgodhabW.PrintLast Go.Proofs.YtcildbgckgodhabW.PrintMore
set_option linter.unusedVariables false
set_option linter.unusedSimpArgs false
def arrOf (f : Nat → Int) : Array Value := ((List.range 64).map fun i => Value.int .i64 (f i)).toArray
theorem arrOf_get (f : Nat → Int) (j : Nat) (h : j < 64) : (arrOf f)[j]? = some (.int .i64 (f j)) := by simp [arrOf, h]
theorem arrOf_size (f : Nat → Int) : (arrOf f).size = 64 := by simp [arrOf]
theorem arrOf_set (f : Nat → Int) (j : Nat) (v : Int) : (arrOf f).setIfInBounds j (.int .i64 v) = arrOf (fun i => if i = j then v else f i) := by
  apply Array.ext_getElem?
  intro i
  rw [Array.getElem?_setIfInBounds, arrOf_size]
  by_cases h : j = i
  · subst h
    rw [if_pos rfl]
    by_cases hj : j < 64
    · rw [if_pos hj, arrOf_get _ j hj, if_pos rfl]
    · rw [if_neg hj, Array.getElem?_eq_none (by rw [arrOf_size]; omega)]
  · rw [if_neg h]
    by_cases hi : i < 64
    · rw [arrOf_get _ i hi, arrOf_get _ i hi, if_neg (fun e => h e.symm)]
    · rw [Array.getElem?_eq_none (by rw [arrOf_size]; omega), Array.getElem?_eq_none (by rw [arrOf_size]; omega)]
theorem arrOf_congr (f f' : Nat → Int) (h : ∀ i, i < 64 → f i = f' i) : arrOf f = arrOf f' := by
  unfold arrOf
  congr 1
  apply List.map_congr_left
  intro i hi
  rw [h i (List.mem_range.1 hi)]
/-- The array's and the iterator's blocks. -/
structure KS (b : Nat) (w0 : World) (pos : Nat) (f : Nat → Int) (W : World) : Prop where
  row : W.heap[b]? = some (.cells (arrOf f) 49 (0, 0))
  it : W.heap[b + 1]? = some (.stringIter ⟨#[32, 9, 13]⟩ pos)
  below : Below b w0 W
theorem KS.cell {b w0 pos f W} (h : KS b w0 pos f W) (j : Nat) (hj : j < 64) : W.cell? ⟨b, j, none⟩ = some (.int .i64 (f j)) := by
  rw [cell_of_row _ _ _ _ _ _ h.row, arrOf_get f j hj]
theorem KS.fz {b w0 pos f W} (h : KS b w0 pos f W) (j : Nat) : W.frozen? ⟨b, j, none⟩ = false := frozen_of_row _ _ _ _ _ h.row
theorem KS.next {b w0 pos f W} (h : KS b w0 pos f W) (pos' : Nat) : KS b w0 pos' f (W.iterAt (b + 1) ⟨#[32, 9, 13]⟩ pos') :=
  ⟨by rw [Lib.iterAt_other _ _ _ _ _ (by omega)]; exact h.row, Lib.iterAt_heap _ _ _ _ _ h.it, Lib.below_iterAt h.below (by omega) _ _⟩
theorem setRow_get {W : World} {g : Nat} {cs : Array Value} {t : Nat} {fr : Nat × Nat} (h : W.heap[g]? = some (.cells cs t fr)) (cs' : Array Value) : (W.setRow g cs').heap[g]? = some (.cells cs' t fr) := by
  simp [World.setRow, Array.getElem?_modify, h]
theorem below_setRow {B g : Nat} {a W : World} (h : Below B a W) (hg : B ≤ g) (cs : Array Value) : Below B a (W.setRow g cs) := by
  refine h.trans ⟨rfl, rfl, rfl, by simp [World.setRow], fun k hk => ?_⟩
  simp only [World.setRow, Array.getElem?_modify]
  rw [if_neg (by omega)]
theorem KS.set {b w0 pos f W} (h : KS b w0 pos f W) (j : Nat) (v : Int) : KS b w0 pos (fun i => if i = j then v else f i) (W.setCell ⟨b, j, none⟩ (.int .i64 v)) :=
  ⟨by rw [heap_setCell_same _ _ _ _ _ _ h.row, arrOf_set], by rw [heap_setCell_other _ _ _ _ (by simp)]; exact h.it, h.below.setCell (Nat.le_refl _) _⟩
def kAt (pos i : Nat) : Int := if (i = 32 ∧ 1 ≤ pos) ∨ (i = 9 ∧ 2 ≤ pos) ∨ (i = 13 ∧ 3 ≤ pos) then 1 else 0
def posAt (b : Nat) (W : World) : Nat := match W.heap[b + 1]? with | some (.stringIter _ p) => p | _ => 0
set_option maxRecDepth 100000 in
set_option maxHeartbeats 3200000 in
theorem kinds_any (w : World) : Calls Try.prog 17 #[] w fun e w' => e = .returned (.agg kindCells.toArray) ∧ Below w.heap.size w w' := by
  go_enter Try.func17, Try.ntmps17
  go_wp2
  refine wp_at (fun W => ∃ f, KS w.heap.size w 0 f W ∧ ∀ i, i < 64 → f i = kAt 0 i) ⟨fun _ => 0, ⟨?_, ?_, ?_⟩, ?_⟩ ?_
  · exact heap_alloc2_old w _ _
  · exact heap_alloc2_new w _ _
  · unfold World.iter
    exact ((Below.refl _ _).alloc (Nat.le_refl _) _).alloc (by simp) _
  · intro i hi; simp [kAt]
  · rintro W ⟨f, hK, hf⟩
    have HK := Lib.hid hK
    have HF := Lib.hid hf
    clear hK hf
    go_loopw [] (fun w' => ∃ (pos : Nat) (f : Nat → Int), pos ≤ 3 ∧ KS w.heap.size w pos f w' ∧ ∀ i, i < 64 → f i = kAt pos i) (fun w' => 3 - posAt w.heap.size w')
    case atStart => exact ⟨0, f, by omega, HK.out, HF.out⟩
    case round =>
      obtain ⟨pos, f1, hp, hK, hf⟩ := hrel
      rcases (show pos = 0 ∨ pos = 1 ∨ pos = 2 ∨ pos = 3 by omega) with rfl | rfl | rfl | rfl
      · have hnx : ∀ ty, (Instr.next (.pointer (some ⟨w.heap.size + 1, 0, none⟩)) true ty).run Try.prog wr = .ok (.tuple #[.bool true, .int .i64 0, .int .i32 32]) (wr.iterAt (w.heap.size + 1) ⟨#[32, 9, 13]⟩ 1) := fun ty => Lib.run_next_ascii_at wr _ ⟨#[32, 9, 13]⟩ 0 ty hK.it (by decide) (by decide)
        have hN := hK.next 1
        have hc := hN.cell 32 (by omega)
        have hz := hN.fz 32
        have HN := Lib.hid hN
        have HF1 := Lib.hid hf
        have HK1 := Lib.hid hK
        clear hN hf hK
        go_wp2
        go_roundw
        case rel => exact ⟨1, _, by omega, HN.out.set 32 1, fun i hi => by rw [HF1.out i hi]; simp only [kAt]; (repeat' split) <;> first | rfl | omega⟩
        case measure =>
          have e1 : posAt w.heap.size wr = 0 := by unfold posAt; rw [HK1.out.it]
          have e2 : posAt w.heap.size ((wr.iterAt (w.heap.size + 1) ⟨#[32, 9, 13]⟩ 1).setCell ⟨w.heap.size, 32, none⟩ (.int .i64 1)) = 1 := by unfold posAt; rw [(HN.out.set 32 1).it]
          first | (rw [e1, e2]; omega) | (simp [e1, e2]; omega)
      · have hnx : ∀ ty, (Instr.next (.pointer (some ⟨w.heap.size + 1, 0, none⟩)) true ty).run Try.prog wr = .ok (.tuple #[.bool true, .int .i64 1, .int .i32 9]) (wr.iterAt (w.heap.size + 1) ⟨#[32, 9, 13]⟩ 2) := fun ty => Lib.run_next_ascii_at wr _ ⟨#[32, 9, 13]⟩ 1 ty hK.it (by decide) (by decide)
        have hN := hK.next 2
        have hc := hN.cell 9 (by omega)
        have hz := hN.fz 9
        have HN := Lib.hid hN
        have HF1 := Lib.hid hf
        have HK1 := Lib.hid hK
        clear hN hf hK
        go_wp2
        go_roundw
        case rel => exact ⟨2, _, by omega, HN.out.set 9 1, fun i hi => by rw [HF1.out i hi]; simp only [kAt]; (repeat' split) <;> first | rfl | omega⟩
        case measure =>
          have e1 : posAt w.heap.size wr = 1 := by unfold posAt; rw [HK1.out.it]
          have e2 : posAt w.heap.size ((wr.iterAt (w.heap.size + 1) ⟨#[32, 9, 13]⟩ 2).setCell ⟨w.heap.size, 9, none⟩ (.int .i64 1)) = 2 := by unfold posAt; rw [(HN.out.set 9 1).it]
          first | (rw [e1, e2]; omega) | (simp [e1, e2]; omega)
      · have hnx : ∀ ty, (Instr.next (.pointer (some ⟨w.heap.size + 1, 0, none⟩)) true ty).run Try.prog wr = .ok (.tuple #[.bool true, .int .i64 2, .int .i32 13]) (wr.iterAt (w.heap.size + 1) ⟨#[32, 9, 13]⟩ 3) := fun ty => Lib.run_next_ascii_at wr _ ⟨#[32, 9, 13]⟩ 2 ty hK.it (by decide) (by decide)
        have hN := hK.next 3
        have hc := hN.cell 13 (by omega)
        have hz := hN.fz 13
        have HN := Lib.hid hN
        have HF1 := Lib.hid hf
        have HK1 := Lib.hid hK
        clear hN hf hK
        go_wp2
        go_roundw
        case rel => exact ⟨3, _, by omega, HN.out.set 13 1, fun i hi => by rw [HF1.out i hi]; simp only [kAt]; (repeat' split) <;> first | rfl | omega⟩
        case measure =>
          have e1 : posAt w.heap.size wr = 2 := by unfold posAt; rw [HK1.out.it]
          have e2 : posAt w.heap.size ((wr.iterAt (w.heap.size + 1) ⟨#[32, 9, 13]⟩ 3).setCell ⟨w.heap.size, 13, none⟩ (.int .i64 1)) = 3 := by unfold posAt; rw [(HN.out.set 13 1).it]
          first | (rw [e1, e2]; omega) | (simp [e1, e2]; omega)
      · have hnx : ∀ ty, (Instr.next (.pointer (some ⟨w.heap.size + 1, 0, none⟩)) true ty).run Try.prog wr = .ok (.tuple #[.bool false]) wr := fun ty => Lib.run_next_end_at wr _ ⟨#[32, 9, 13]⟩ 3 ty hK.it (by decide)
        have hc := hK.cell 10 (by omega)
        have hz := hK.fz 10
        have h35 := (hK.set 10 2).cell 35 (by omega)
        have hz35 := (hK.set 10 2).fz 35
        have HF1 := Lib.hid hf
        have HK1 := Lib.hid hK
        clear hf hK
        go_wp2_with (first
          | (refine wpList_load_row rfl 49 (.tmp 0) rfl w.heap.size rfl 49 _ (0, 0) _ ((HK1.out.set 10 2).set 35 3).row Try.underlying49 rfl (by kernel_rfl) ?_)
          | (refine wpList_store_rowTo rfl 49 (.tmp 0) (.tmp 11) rfl rfl w.heap.size _ rfl rfl 49 _ ((HK1.out.set 10 2).set 35 3).row (by kernel_rfl) rfl (by simp [arrOf, Value.oneCell']) ?_))
        have hS := (HK1.out.set 10 2).set 35 3
        have ha : arrOf (fun i => if i = 35 then 3 else if i = 10 then 2 else f1 i) = kindCells.toArray := by
          have : kindCells.toArray = arrOf (fun i => kindOf i) := rfl
          rw [this]
          apply arrOf_congr
          intro i hi
          simp only [HF1.out i hi, kAt, kindOf]
          (repeat' split) <;> first | rfl | omega
        have hrow := hS.row
        rw [ha] at hrow ⊢
        refine bodyPost_ret (v := .agg kindCells.toArray) ?_ rfl ⟨rfl, ?_⟩
        · exact results_cell_row rfl _ _ w.heap.size 49 kindCells.toArray (0, 0) _ rfl (setRow_get hrow _) Try.underlying49 rfl (by kernel_rfl)
        · exact below_setRow hS.below (Nat.le_refl _) _
end Go.Proofs.Ytcildbgckgodhab
