/- The walks of package lex: kinds, kind, end, run, Lines. -/
import Derived.Test.YtcildbgckgodhabProg
import Derived.Test.YtcildbgckgodhabMath
import Derived.Test.YtcildbgckgodhabMem
import Derived.Test.YtcildbgckgodhabLexF
import Derived.Test.YtcildbgckgodhabScope
import Derived.Test.YtcildbgckgodhabWMore
import Derived.WalkKit
import Derived.WalkSpells
import Derived.WalkLawsBesides
import Derived.Laws.RangeAny
import Derived.Lib.Hide
import Derived.PlainAid
import Derived.Deep.QuietTactic
import Derived.BigQuiet
import Derived.Deep.RegionHeld3
import Derived.Deep.AppendLies
import Derived.Deep.RegionLaw
import Derived.ScopeJumps
namespace Go.Proofs.Ytcildbgckgodhab
open Go.RowKit Go.Proofs.YtcildbgckgodhabW.PrintWords Go.Proofs.YtcildbgckgodhabW.PrintLast Go.Proofs.YtcildbgckgodhabW.PrintMore
set_option linter.unusedVariables false
set_option linter.unusedSimpArgs false
def kindCells : List Value := (List.range 64).map fun i => .int .i64 (kindOf i)
/-- The reader's block. -/
def RD (g : Nat) (s : ByteArray) (at_ : Int) (vw vl : Value) (W : World) : Prop :=
  W.heap[g]? = some (.cells ([Value.string s, Value.int .i64 at_] ++ kindCells ++ [vw, vl]).toArray 52 (0, 0))
theorem kindCells_len : kindCells.length = 64 := by simp [kindCells]
theorem RD.c0 {g s at_ vw vl W} (h : RD g s at_ vw vl W) : W.cell? ⟨g, 0, none⟩ = some (.string s) := by
  unfold RD at h; simp [World.cell?, h]
theorem RD.c1 {g s at_ vw vl W} (h : RD g s at_ vw vl W) : W.cell? ⟨g, 1, none⟩ = some (.int .i64 at_) := by
  unfold RD at h; simp [World.cell?, h]
theorem RD.ck {g s at_ vw vl W} (h : RD g s at_ vw vl W) (i : Nat) (hi : i < 64) : W.cell? ⟨g, 2 + i, none⟩ = some (.int .i64 (kindOf i)) := by
  unfold RD at h
  simp only [World.cell?, h]
  simp only [Option.isSome_none, Bool.false_eq_true, if_false, List.getElem?_toArray]
  have hl := kindCells_len
  rw [List.getElem?_append_left (by simp; omega), List.getElem?_append_right (by simp)]
  simp [kindCells, hi]
theorem RD.c66 {g s at_ vw vl W} (h : RD g s at_ vw vl W) : W.cell? ⟨g, 66, none⟩ = some vw := by
  unfold RD at h
  simp only [World.cell?, h]
  simp only [Option.isSome_none, Bool.false_eq_true, if_false, List.getElem?_toArray]
  have hl := kindCells_len
  rw [List.getElem?_append_right (by simp; omega)]
  simp [hl]
theorem RD.c67 {g s at_ vw vl W} (h : RD g s at_ vw vl W) : W.cell? ⟨g, 67, none⟩ = some vl := by
  unfold RD at h
  simp only [World.cell?, h]
  simp only [Option.isSome_none, Bool.false_eq_true, if_false, List.getElem?_toArray]
  have hl := kindCells_len
  rw [List.getElem?_append_right (by simp; omega)]
  simp [hl]
theorem RD.fz {g s at_ vw vl W} (h : RD g s at_ vw vl W) (j : Nat) : W.frozen? ⟨g, j, none⟩ = false := by
  unfold RD at h
  simp [World.frozen?, h]
theorem RD.drew {g s at_ vw vl W} (h : RD g s at_ vw vl W) : RD g s at_ vw vl W.drew := h
theorem RD.drewN {g s at_ vw vl W} (h : RD g s at_ vw vl W) (n : Nat) : RD g s at_ vw vl (W.drewN n) := h
theorem heap_set {W : World} {g j : Nat} {cs : Array Value} {t : Nat} {fr : Nat × Nat} (h : W.heap[g]? = some (.cells cs t fr)) (v : Value) : (W.setCell ⟨g, j, none⟩ v).heap[g]? = some (.cells (cs.setIfInBounds j v) t fr) := by
  simp [World.setCell, Array.getElem?_modify, h]
theorem RD.set1 {g s at_ vw vl W} (h : RD g s at_ vw vl W) (n : Int) : RD g s n vw vl (W.setCell ⟨g, 1, none⟩ (.int .i64 n)) := by
  unfold RD at h ⊢
  rw [heap_set h]
  rfl
theorem RD.set66 {g s at_ vw vl W} (h : RD g s at_ vw vl W) (v : Value) : RD g s at_ v vl (W.setCell ⟨g, 66, none⟩ v) := by
  unfold RD at h ⊢
  rw [heap_set h]
  rfl
theorem RD.set67 {g s at_ vw vl W} (h : RD g s at_ vw vl W) (v : Value) : RD g s at_ vw v (W.setCell ⟨g, 67, none⟩ v) := by
  unfold RD at h ⊢
  rw [heap_set h]
  rfl
theorem RD.of_block {g s at_ vw vl W W1} (h : RD g s at_ vw vl W) (hb : W1.heap[g]? = W.heap[g]?) : RD g s at_ vw vl W1 := by
  unfold RD at h ⊢
  rw [hb, h]
set_option maxHeartbeats 800000 in
theorem kind_any (g : Nat) (s : ByteArray) (at_ : Nat) (vw vl : Value) (w : World) (h : RD g s at_ vw vl w) (hp : at_ < s.size) (hs : s.size ≤ 16384) :
    Calls Try.prog 23 #[.pointer (some ⟨g, 0, none⟩)] w fun e w' => e = .returned (.int .i64 (kindOf (s[at_]'hp).toNat)) ∧ ∃ n, w' = w.drewN n := by
  have c0 := h.c0
  have c1 := h.c1
  have hb : (s[at_]'hp).toNat < 256 := (s[at_]'hp).toNat_lt
  by_cases hk : (s[at_]'hp).toNat < 64
  · have ck := h.ck _ hk
    go_enter Try.func23, Try.ntmps23
    go_wp2
    go_quiet (fail)
    go_wp2
    go_ret
    exact ⟨rfl, _, rfl⟩
  · have hz : kindOf (s[at_]'hp).toNat = 0 := by unfold kindOf; rw [if_neg (by omega), if_neg (by omega), if_neg (by omega)]
    have HZ := Lib.hid hz
    clear hz
    go_enter Try.func23, Try.ntmps23
    go_wp2
    go_quiet (fail)
    go_wp2
    go_ret
    exact ⟨by rw [HZ.out]; rfl, _, rfl⟩
theorem Try.info9' : (Try.prog.info? 9).map (fun i => (i.zero, i.size, i.bytes)) = some (some (.string ⟨#[]⟩), 1, 16) := by kernel_rfl
theorem Try.info42' : (Try.prog.info? 32).map (fun i => (i.zero, i.size, i.bytes)) = some (some (.slice none 0 0), 1, 24) := by kernel_rfl
abbrev KW : Kd ByteArray := Kd.string
abbrev KL : Kd (List ByteArray) := Kd.slice 9 Kd.string
set_option maxHeartbeats 1600000 in
theorem end_some (g B : Nat) (s : ByteArray) (at_ : Int) (A : Option Addr) (c : Nat) (ws : List ByteArray) (vl : Value) (ls : List (List ByteArray)) (w : World) (h : RD g s at_ (.slice A ws.length c) vl w)
    (hg : B ≤ g) (hB : B ≤ w.heap.size) (hw : KW.R 9 w B (fun k => k ≠ g) (.slice A ws.length c) ws)
    (hl : Kd.S KL 32 w B (fun k => k ≠ g ∧ some k ≠ (Value.slice A ws.length c).ownBlock) vl ls) (hn : ls.length < 100000) (hws : 0 < ws.length) (hws2 : ws.length < 100000) :
    Calls Try.prog 22 #[.pointer (some ⟨g, 0, none⟩)] w fun e w' => ∃ vl', e = .returned (.bool (decide (ws.length ≤ 64))) ∧ RD g s at_ (.slice none 0 0) vl' w' ∧
      Kd.S KL 32 w' B (fun k => k ≠ g) vl' (ls ++ [ws]) ∧ Below B w w' := by
  have c66 := h.c66
  have c67 := h.c67
  have f66 := h.fz 66
  have f67 := h.fz 67
  have hgs : g < w.heap.size := World.block_lt_of_cell? w _ c66
  have hp : KL.M w.drew B (fun k => k ≠ g ∧ some k ≠ vl.ownBlock ∧ some k = (Value.slice A ws.length c).ownBlock) ws [.slice A ws.length c] := ⟨_, rfl, Kd.R_drew (Kd.R_of_own (Kd.own_of_R hw) (fun k hk => ⟨hw.1 k hk, fun e => ((Kd.S_R hl).1 k e.symm).2 hk.symm, hk.symm⟩))⟩
  have hO : Kd.S KL 32 w.drew B (fun k => k ≠ g ∧ ¬ (k ≠ g ∧ some k ≠ vl.ownBlock ∧ some k = (Value.slice A ws.length c).ownBlock)) vl ls := Kd.S_drew (Kd.S_mono hl (fun _ hk => ⟨hk.1, fun h => hk.2 h.2.2⟩))
  have hvg : vl.ownBlock ≠ some g := fun e => ((Kd.S_R hl).1 g e).1 rfl
  have H := Lib.hid h
  clear h hw hl
  go_enter Try.func22, Try.ntmps22
  go_wp2
  go_region_law (refine Kd.S_append_step KL (w0 := w) (W := w.drew) B (by rfl) (.tmp 14) (.tmp 19) 22 32 (.slice none 0 0) 24 (by rfl) Try.underlying22 Try.info42' rfl (by decide) (by decide) vl ls ws [.slice A ws.length c] (fun k => k ≠ g) (fun k => k ≠ g ∧ some k ≠ vl.ownBlock ∧ some k = (Value.slice A ws.length c).ownBlock) (by simp [Act.eval, Act.put]) (by simp [Act.eval, Act.put]) hp (fun _ hk => ⟨hk.1, hk.2.1⟩) (fun k hk => by have : w.drew.heap.size = w.heap.size := rfl; omega) hO (Below.refl _ _).drew hB (by omega) ?_; intro v1 w1 hR hb hgrow hat; obtain ⟨A1, c1, rfl⟩ := Kd.S_slice hR; have HR := Lib.hid hR; have HG := Lib.hid hgrow; have HAT := Lib.hid hat; have d66 : w1.cell? ⟨g, 66, none⟩ = some (.slice A ws.length c) := (hgrow.cell_far _ (by exact hgs) (fun e => hvg e.symm)).trans c66; have d67 : w1.cell? ⟨g, 67, none⟩ = some vl := (hgrow.cell_far _ (by exact hgs) (fun e => hvg e.symm)).trans c67; have e66 : w1.frozen? ⟨g, 66, none⟩ = false := (hgrow.frozen_far _ (by exact hgs) (fun e => hvg e.symm)).trans f66; have e67 : w1.frozen? ⟨g, 67, none⟩ = false := (hgrow.frozen_far _ (by exact hgs) (fun e => hvg e.symm)).trans f67; clear hR hat hgrow)
  all_goals
    go_wp2
    go_ret
    have hln : (ls ++ [ws]).length = ls.length + 1 := by simp
    have hr := HR.out
    rw [hln] at hr
    have hd : decide ((ws.length : Int) ≤ 64) = decide (ws.length ≤ 64) := decide_eq_decide.2 (by omega)
    refine ⟨.slice A1 (ls.length + 1) c1, by rw [← hd]; rfl, ?_, ?_, ?_⟩
    · exact ((H.out.of_block (W1 := w1) (HG.out.block g (by exact hgs) (fun e => hvg e.symm))).set67 _).set66 _
    · exact Kd.S_far (p := ⟨g, 66, none⟩) (Kd.S_far (p := ⟨g, 67, none⟩) hr (fun _ hk => hk) _) (fun _ hk => hk) _
    · exact (hb.setCell (by exact hg) _).setCell (by exact hg) _
set_option maxHeartbeats 1600000 in
theorem end_none (g B : Nat) (s : ByteArray) (at_ : Int) (A : Option Addr) (c : Nat) (vl : Value) (ls : List (List ByteArray)) (w : World) (h : RD g s at_ (.slice A 0 c) vl w)
    (hg : B ≤ g) (hl : Kd.S KL 32 w B (fun k => k ≠ g) vl ls) :
    Calls Try.prog 22 #[.pointer (some ⟨g, 0, none⟩)] w fun e w' => e = .returned (.bool true) ∧ RD g s at_ (.slice none 0 0) vl w' ∧
      Kd.S KL 32 w' B (fun k => k ≠ g) vl ls ∧ Below B w w' := by
  have c66 := h.c66
  have f66 := h.fz 66
  have H := Lib.hid h
  have HL := Lib.hid hl
  clear h hl
  go_enter Try.func22, Try.ntmps22
  go_wp2
  go_ret
  exact ⟨rfl, H.out.set66 _, Kd.S_far (p := ⟨g, 66, none⟩) HL.out (fun _ hk => hk) _, (Below.refl _ _).setCell (by exact hg) _⟩
theorem end_any (g B : Nat) (s : ByteArray) (at_ : Int) (vw : Value) (ws : List ByteArray) (vl : Value) (ls : List (List ByteArray)) (w : World) (h : RD g s at_ vw vl w)
    (hg : B ≤ g) (hB : B ≤ w.heap.size) (hw : KW.R 9 w B (fun k => k ≠ g) vw ws)
    (hl : Kd.S KL 32 w B (fun k => k ≠ g ∧ some k ≠ vw.ownBlock) vl ls) (hn : ls.length < 100000) (hws2 : ws.length < 100000) :
    Calls Try.prog 22 #[.pointer (some ⟨g, 0, none⟩)] w fun e w' => ∃ vl', e = .returned (.bool (decide (ws.length ≤ 64))) ∧ RD g s at_ (.slice none 0 0) vl' w' ∧
      Kd.S KL 32 w' B (fun k => k ≠ g) vl' (endL ls ws) ∧ Below B w w' := by
  obtain ⟨A, c, rfl⟩ := Kd.R_slice hw
  by_cases hz : ws = []
  · subst hz
    refine (end_none g B s at_ A c vl ls w h hg (Kd.S_mono hl (fun _ hk => hk.1))).mono ?_
    rintro e w' ⟨rfl, h1, h2, h3⟩
    exact ⟨vl, rfl, h1, h2, h3⟩
  · refine (end_some g B s at_ A c ws vl ls w h hg hB hw hl hn (List.length_pos_iff.2 hz) hws2).mono ?_
    rintro e w' ⟨vl', rfl, h1, h2, h3⟩
    exact ⟨vl', rfl, h1, by unfold endL; rw [if_neg hz]; exact h2, h3⟩
end Go.Proofs.Ytcildbgckgodhab
