/- Texts of this claim, merged (part 5 of 13): LexR, LexK, LexL. -/
import Derived.Test.YtlghkomipboflaaDoorProg
import Derived.WalkKit
import Derived.WalkSpells
import Derived.WalkLawsBesides
import Derived.Laws.RangeAny
import Derived.Lib.Hide
import Derived.PlainAid
import Derived.Deep.QuietTactic
import Derived.BigQuiet
import Derived.Deep.RegionHeld3
import Derived.Deep.AppendLies
import Derived.Deep.RegionLaw
import Derived.ScopeJumps
import Derived.Laws.Rows
import Derived.Great.BuildSlice
import Derived.Lib.OthersKept
import Derived.Test.YtlghkomipboflaaDoorBR1
import Derived.Test.YtlghkomipboflaaDoorBR2
set_option linter.unusedVariables false
set_option linter.unusedSimpArgs false
section
namespace Go.Proofs.YtlghkomipboflaaDoor
open Go.RowKit Go.Proofs.YtlghkomipboflaaDoorW.PrintWords Go.Proofs.YtlghkomipboflaaDoorW.PrintLast Go.Proofs.YtlghkomipboflaaDoorW.PrintMore
set_option linter.unusedVariables false
set_option linter.unusedSimpArgs false
structure At (g B : Nat) (s : ByteArray) (w0 : World) (pos : Nat) (vw : Value) (ws : List ByteArray) (vl : Value) (ls : List (List ByteArray)) (W : World) : Prop where
  rd : RD g s (pos : Int) vw vl W
  kw : KW.R 9 W B (fun k => k ≠ g) vw ws
  kl : Kd.S KL 51 W B (fun k => k ≠ g ∧ some k ≠ vw.ownBlock) vl ls
  below : Below B w0 W
  le : pos ≤ s.size
  few : ws.length + ls.length ≤ pos
def FrL (g : Nat) (f : Value) (a : Act) : Prop := a.tmps.size = 108 ∧ a.tmps[0]? = some (.pointer (some ⟨g, 0, none⟩)) ∧ a.tmps[3]? = some f ∧ a.defers = []
theorem list_all (l : List Value) : l = (List.range l.length).map (fun i => l.getD i undef) := by
  apply List.ext_getElem (by simp)
  intro i h1 h2
  simp [h1]
theorem FrL.open_ {g : Nat} {f : Value} {a : Act} (h : FrL g f a) : ∃ us : Nat → Value, a = { tmps := #[.pointer (some ⟨g, 0, none⟩), us 1, us 2, f, us 4, us 5, us 6, us 7, us 8, us 9, us 10, us 11, us 12, us 13, us 14, us 15, us 16, us 17, us 18, us 19, us 20, us 21, us 22, us 23, us 24, us 25, us 26, us 27, us 28, us 29, us 30, us 31, us 32, us 33, us 34, us 35, us 36, us 37, us 38, us 39, us 40, us 41, us 42, us 43, us 44, us 45, us 46, us 47, us 48, us 49, us 50, us 51, us 52, us 53, us 54, us 55, us 56, us 57, us 58, us 59, us 60, us 61, us 62, us 63, us 64, us 65, us 66, us 67, us 68, us 69, us 70, us 71, us 72, us 73, us 74, us 75, us 76, us 77, us 78, us 79, us 80, us 81, us 82, us 83, us 84, us 85, us 86, us 87, us 88, us 89, us 90, us 91, us 92, us 93, us 94, us 95, us 96, us 97, us 98, us 99, us 100, us 101, us 102, us 103, us 104, us 105, us 106, us 107], defers := [] } := by
  obtain ⟨hs, h0, h3, hd⟩ := h
  refine ⟨fun i => a.tmps.toList.getD i undef, ?_⟩
  cases a with
  | mk tmps defers =>
    simp only at hs h0 h3 hd
    subst hd
    have hl : tmps.toList.length = 108 := by simpa using hs
    have e := list_all tmps.toList
    rw [hl] at e
    have e2 : (List.range 108).map (fun i => tmps.toList.getD i undef) = [tmps.toList.getD 0 undef, tmps.toList.getD 1 undef, tmps.toList.getD 2 undef, tmps.toList.getD 3 undef, tmps.toList.getD 4 undef, tmps.toList.getD 5 undef, tmps.toList.getD 6 undef, tmps.toList.getD 7 undef, tmps.toList.getD 8 undef, tmps.toList.getD 9 undef, tmps.toList.getD 10 undef, tmps.toList.getD 11 undef, tmps.toList.getD 12 undef, tmps.toList.getD 13 undef, tmps.toList.getD 14 undef, tmps.toList.getD 15 undef, tmps.toList.getD 16 undef, tmps.toList.getD 17 undef, tmps.toList.getD 18 undef, tmps.toList.getD 19 undef, tmps.toList.getD 20 undef, tmps.toList.getD 21 undef, tmps.toList.getD 22 undef, tmps.toList.getD 23 undef, tmps.toList.getD 24 undef, tmps.toList.getD 25 undef, tmps.toList.getD 26 undef, tmps.toList.getD 27 undef, tmps.toList.getD 28 undef, tmps.toList.getD 29 undef, tmps.toList.getD 30 undef, tmps.toList.getD 31 undef, tmps.toList.getD 32 undef, tmps.toList.getD 33 undef, tmps.toList.getD 34 undef, tmps.toList.getD 35 undef, tmps.toList.getD 36 undef, tmps.toList.getD 37 undef, tmps.toList.getD 38 undef, tmps.toList.getD 39 undef, tmps.toList.getD 40 undef, tmps.toList.getD 41 undef, tmps.toList.getD 42 undef, tmps.toList.getD 43 undef, tmps.toList.getD 44 undef, tmps.toList.getD 45 undef, tmps.toList.getD 46 undef, tmps.toList.getD 47 undef, tmps.toList.getD 48 undef, tmps.toList.getD 49 undef, tmps.toList.getD 50 undef, tmps.toList.getD 51 undef, tmps.toList.getD 52 undef, tmps.toList.getD 53 undef, tmps.toList.getD 54 undef, tmps.toList.getD 55 undef, tmps.toList.getD 56 undef, tmps.toList.getD 57 undef, tmps.toList.getD 58 undef, tmps.toList.getD 59 undef, tmps.toList.getD 60 undef, tmps.toList.getD 61 undef, tmps.toList.getD 62 undef, tmps.toList.getD 63 undef, tmps.toList.getD 64 undef, tmps.toList.getD 65 undef, tmps.toList.getD 66 undef, tmps.toList.getD 67 undef, tmps.toList.getD 68 undef, tmps.toList.getD 69 undef, tmps.toList.getD 70 undef, tmps.toList.getD 71 undef, tmps.toList.getD 72 undef, tmps.toList.getD 73 undef, tmps.toList.getD 74 undef, tmps.toList.getD 75 undef, tmps.toList.getD 76 undef, tmps.toList.getD 77 undef, tmps.toList.getD 78 undef, tmps.toList.getD 79 undef, tmps.toList.getD 80 undef, tmps.toList.getD 81 undef, tmps.toList.getD 82 undef, tmps.toList.getD 83 undef, tmps.toList.getD 84 undef, tmps.toList.getD 85 undef, tmps.toList.getD 86 undef, tmps.toList.getD 87 undef, tmps.toList.getD 88 undef, tmps.toList.getD 89 undef, tmps.toList.getD 90 undef, tmps.toList.getD 91 undef, tmps.toList.getD 92 undef, tmps.toList.getD 93 undef, tmps.toList.getD 94 undef, tmps.toList.getD 95 undef, tmps.toList.getD 96 undef, tmps.toList.getD 97 undef, tmps.toList.getD 98 undef, tmps.toList.getD 99 undef, tmps.toList.getD 100 undef, tmps.toList.getD 101 undef, tmps.toList.getD 102 undef, tmps.toList.getD 103 undef, tmps.toList.getD 104 undef, tmps.toList.getD 105 undef, tmps.toList.getD 106 undef, tmps.toList.getD 107 undef] := rfl
    have g0 : tmps.toList.getD 0 undef = .pointer (some ⟨g, 0, none⟩) := by
      rw [List.getD_eq_getElem?_getD, Array.getElem?_toList, h0]; rfl
    have g3 : tmps.toList.getD 3 undef = f := by
      rw [List.getD_eq_getElem?_getD, Array.getElem?_toList, h3]; rfl
    congr 1
    have e3 : tmps = tmps.toList.toArray := by simp
    conv => lhs; rw [e3, e, e2, g0, g3]
def J (g B : Nat) (s : ByteArray) (w0 : World) (R : Option (List (List ByteArray))) (l : Nat) (a : Act) (W : World) : Prop :=
  match l with
  | 0 => ∃ f, FrL g f a ∧ ∃ pos vw ws vl ls, At g B s w0 pos vw ws vl ls W ∧ lexF (s.data.toList.drop pos) ws ls = R
  | 1 => ∃ f, FrL g f a ∧ ∃ pos vw ws vl ls, At g B s w0 pos vw ws vl ls W ∧ lexF ((s.data.toList.drop pos).dropWhile noFeed) ws ls = R
  | 2 => ∃ from_ : Nat, FrL g (.int .i64 from_) a ∧ ∃ pos vw ws vl ls, At g B s w0 pos vw ws vl ls W ∧ from_ ≤ pos ∧ (∀ h : from_ < s.size, kb s[from_] = 0) ∧ from_ < s.size ∧ ws.length + ls.length ≤ from_ ∧ (∀ j, from_ ≤ j → ∀ h : j < s.size, j < pos → kb s[j] = 0) ∧ lexF (s.data.toList.drop from_) ws ls = R
  | _ => False
def posOf (g : Nat) (W : World) : Nat := match W.cell? ⟨g, 1, none⟩ with | some (.int _ n) => n.toNat | _ => 0
theorem At.pos {g B s w0 pos vw ws vl ls W} (h : At g B s w0 pos vw ws vl ls W) : posOf g W = pos := by unfold posOf; rw [h.rd.c1]; simp
def mu (g : Nat) (s : ByteArray) (l : Nat) (W : World) : Nat :=
  3 * (s.size - posOf g W) + (match l with
    | 0 => 2
    | 1 => if h : posOf g W < s.size then (if kb (s[posOf g W]'h) = 3 then 1 else 3) else 3
    | _ => if h : posOf g W < s.size then (if kb (s[posOf g W]'h) = 0 then 1 else 3) else 3)
def RunPost (g B : Nat) (s : ByteArray) (w0 : World) (R : Option (List (List ByteArray))) (e : Ending) (w' : World) : Prop :=
  e = .returned (.bool R.isSome) ∧ Below B w0 w' ∧ ∀ l, R = some l → ∃ at_ vw vl, RD g s at_ vw vl w' ∧ Kd.S KL 51 w' B (fun k => k ≠ g) vl l
theorem kind_is (k : Int) (g : Nat) (s : ByteArray) (at_ : Nat) (vw vl : Value) (w : World) (h : RD g s at_ vw vl w) (hp : at_ < s.size) (hs : s.size ≤ 16384) (hk : kb (s[at_]'hp) = k) :
    Calls Tryd.prog 39 #[.pointer (some ⟨g, 0, none⟩)] w fun e w' => e = .returned (.int .i64 k) ∧ ∃ n, w' = w.drewN n := by
  subst hk; exact kind_any g s at_ vw vl w h hp hs
theorem end_is (b : Bool) (g B : Nat) (s : ByteArray) (at_ : Int) (vw : Value) (ws : List ByteArray) (vl : Value) (ls : List (List ByteArray)) (w : World) (h : RD g s at_ vw vl w)
    (hg : B ≤ g) (hB : B ≤ w.heap.size) (hw : KW.R 9 w B (fun k => k ≠ g) vw ws)
    (hl : Kd.S KL 51 w B (fun k => k ≠ g ∧ some k ≠ vw.ownBlock) vl ls) (hn : ls.length < 100000) (hws2 : ws.length < 100000) (hb : decide (ws.length ≤ 64) = b) :
    Calls Tryd.prog 38 #[.pointer (some ⟨g, 0, none⟩)] w fun e w' => ∃ vl', e = .returned (.bool b) ∧ RD g s at_ (.slice none 0 0) vl' w' ∧
      Kd.S KL 51 w' B (fun k => k ≠ g) vl' (endL ls ws) ∧ Below B w w' := by
  subst hb; exact end_any g B s at_ vw ws vl ls w h hg hB hw hl hn hws2
theorem endL_len (ls : List (List ByteArray)) (ws : List ByteArray) : (endL ls ws).length ≤ ls.length + ws.length := by
  unfold endL
  split
  · omega
  · rename_i h
    have := List.length_pos_iff.2 h
    simp; omega
theorem At.next {g B : Nat} {s : ByteArray} {w0 : World} {pos : Nat} {vw : Value} {ws : List ByteArray} {vl : Value} {ls : List (List ByteArray)} {W W1 : World} (h : At g B s w0 pos vw ws vl ls W) (hd : W1.heap = W.heap) (hb : Below B w0 W1) (hg : B ≤ g) (hp : pos < s.size) :
    At g B s w0 (pos + 1) vw ws vl ls (W1.setCell ⟨g, 1, none⟩ (.int .i64 ((pos : Int) + 1))) := by
  have hblk : ∀ k : Nat, W1.heap[k]? = W.heap[k]? := fun (k : Nat) => by rw [hd]
  exact ⟨((h.rd.of_block (W1 := W1) (hblk g)).set1 ((pos : Int) + 1)), Kd.R_far (p := ⟨g, 1, none⟩) (Kd.R_move h.kw (fun k _ => hblk k)) (fun _ hk => hk) _,
    Kd.S_far (p := ⟨g, 1, none⟩) (Kd.S_move h.kl (fun k _ => hblk k)) (fun _ hk => hk.1) _, hb.setCell hg _, by omega, by have := h.few; omega⟩
theorem At.same {g B : Nat} {s : ByteArray} {w0 : World} {pos : Nat} {vw : Value} {ws : List ByteArray} {vl : Value} {ls : List (List ByteArray)} {W W1 : World} (h : At g B s w0 pos vw ws vl ls W) (hd : W1.heap = W.heap) (hb : Below B w0 W1) : At g B s w0 pos vw ws vl ls W1 := by
  have hblk : ∀ k : Nat, W1.heap[k]? = W.heap[k]? := fun (k : Nat) => by rw [hd]
  exact ⟨h.rd.of_block (hblk g), Kd.R_move h.kw (fun k _ => hblk k), Kd.S_move h.kl (fun k _ => hblk k), hb, h.le, h.few⟩
theorem below_drewN' {B : Nat} {a w : World} (h : Below B a w) (n : Nat) : Below B a (w.drewN n) := ⟨h.os, h.tape, h.output, h.size, h.block⟩
theorem mu_lo (g : Nat) (s : ByteArray) (l : Nat) (W : World) : 3 * (s.size - posOf g W) + 1 ≤ mu g s l W := by
  unfold mu
  split
  · omega
  · split
    · split <;> omega
    · omega
  · split
    · split <;> omega
    · omega
theorem mu_hi (g : Nat) (s : ByteArray) (l : Nat) (W : World) : mu g s l W ≤ 3 * (s.size - posOf g W) + 3 := by
  unfold mu
  split
  · omega
  · split
    · split <;> omega
    · omega
  · split
    · split <;> omega
    · omega
theorem mu_step {g : Nat} {s : ByteArray} {l l' pos : Nat} {W W1 : World} (hp : pos < s.size) (h : posOf g W = pos) (h1 : posOf g W1 = pos + 1) : mu g s l' W1 < mu g s l W := by
  have := mu_lo g s l W
  have := mu_hi g s l' W1
  omega
theorem mu_hash {g : Nat} {s : ByteArray} {pos : Nat} {W W1 : World} (hp : pos < s.size) (h : posOf g W = pos) (h1 : posOf g W1 = pos) (hk : kb (s[pos]'hp) = 3) : mu g s 1 W1 < mu g s 0 W := by
  unfold mu
  simp only [h, h1]
  rw [dif_pos hp, if_pos hk]
  omega
theorem mu_back {g : Nat} {s : ByteArray} {pos l : Nat} {W W1 : World} (hl : l = 1 ∨ l = 2) (h : posOf g W = pos) (h1 : posOf g W1 = pos) (hk : ∀ hp : pos < s.size, kb (s[pos]'hp) ≠ 3 ∧ l = 1 ∨ kb (s[pos]'hp) ≠ 0 ∧ l = 2) : mu g s 0 W1 < mu g s l W := by
  unfold mu
  simp only [h, h1]
  rcases hl with rfl | rfl
  · by_cases hp : pos < s.size
    · rcases hk hp with ⟨hh, _⟩ | ⟨_, hh⟩
      · simp only [dif_pos hp, if_neg hh]; omega
      · cases hh
    · simp only [dif_neg hp]; omega
  · by_cases hp : pos < s.size
    · rcases hk hp with ⟨_, hh⟩ | ⟨hh, _⟩
      · cases hh
      · simp only [dif_pos hp, if_neg hh]; omega
    · simp only [dif_neg hp]; omega
theorem noFeed_drop (l : List UInt8) (c : UInt8) (t : List UInt8) (h : l = c :: t) (hk : kb c ≠ 2) : l.dropWhile noFeed = t.dropWhile noFeed := by
  rw [h, List.dropWhile_cons, if_pos (by unfold noFeed; simp [hk])]
theorem noFeed_stop (l : List UInt8) (c : UInt8) (t : List UInt8) (h : l = c :: t) (hk : kb c = 2) : l.dropWhile noFeed = l := by
  rw [h, List.dropWhile_cons, if_neg (by unfold noFeed; simp [hk])]
theorem At.ended {g B : Nat} {s : ByteArray} {w0 : World} {pos : Nat} {vw : Value} {ws : List ByteArray} {vl vl' : Value} {ls : List (List ByteArray)} {W W1 W2 : World} (h : At g B s w0 pos vw ws vl ls W) (hg : B ≤ g) (hp : pos < s.size)
    (hb : Below B w0 W1) (h1 : RD g s pos (.slice none 0 0) vl' W2) (h2 : Kd.S KL 51 W2 B (fun k => k ≠ g) vl' (endL ls ws)) (h3 : Below B W1 W2) :
    At g B s w0 (pos + 1) (.slice none 0 0) [] vl' (endL ls ws) (W2.setCell ⟨g, 1, none⟩ (.int .i64 ((pos : Int) + 1))) := by
  refine ⟨h1.set1 _, Kd.R_nil _ _ _ _ _, Kd.S_far (p := ⟨g, 1, none⟩) (Kd.S_apart_nil h2) (fun _ hk => hk.1) _, (hb.trans h3).setCell hg _, by omega, ?_⟩
  have := endL_len ls ws
  have := h.few
  simp
  omega
theorem At.worded {g B : Nat} {s : ByteArray} {w0 : World} {pos from_ : Nat} {vw : Value} {ws : List ByteArray} {vl v1 : Value} {ls : List (List ByteArray)} {W W1 w1 : World} {x : ByteArray} (h : At g B s w0 pos vw ws vl ls W) (hg : B ≤ g) (hgs : g < W.heap.size) (hvg : vw.ownBlock ≠ some g)
    (hf : ws.length + ls.length ≤ from_) (hlt : from_ < pos) (hW : W1.heap = W.heap) (hR : KW.R 9 w1 B (fun k => k ≠ g) v1 (ws ++ [x])) (hb : Below B w0 w1) (hgr : W1.grownBy w1 vw.ownBlock) (hat : v1.ownBlock = vw.ownBlock ∨ ∃ b, v1.ownBlock = some b ∧ W1.heap.size ≤ b) :
    At g B s w0 pos v1 (ws ++ [x]) vl ls (w1.setCell ⟨g, 66, none⟩ v1) := by
  have hblk : ∀ k : Nat, W1.heap[k]? = W.heap[k]? := fun (k : Nat) => by rw [hW]
  have e : w1.heap[g]? = W.heap[g]? := (hgr.block g (by rw [hW]; exact hgs) (fun e => hvg e.symm)).trans (hblk g)
  refine ⟨(h.rd.of_block e).set66 _, Kd.R_far (p := ⟨g, 66, none⟩) hR (fun _ hk => hk) _, ?_, hb.setCell hg _, h.le, by simp; omega⟩
  exact Kd.S_far (p := ⟨g, 66, none⟩) (Kd.S_after (Kd.S_move h.kl (fun k _ => hblk k)) hgr hat) (fun _ hk => hk.1) _
theorem from_lt {s : ByteArray} {from_ pos : Nat} (h0 : from_ ≤ pos) (hlt : from_ < s.size) (hh : ∀ h : from_ < s.size, kb s[from_] = 0) (he : ∀ h : pos < s.size, kb s[pos] ≠ 0) : from_ < pos := by
  rcases Nat.lt_or_ge from_ pos with h | h
  · exact h
  · have : from_ = pos := by omega
    subst this
    exact absurd (hh hlt) (he hlt)
theorem At.nextN {g B : Nat} {s : ByteArray} {w0 : World} {pos : Nat} {vw : Value} {ws : List ByteArray} {vl : Value} {ls : List (List ByteArray)} {W : World} {n : Nat} (h : At g B s w0 pos vw ws vl ls W) (hg : B ≤ g) (hp : pos < s.size) :
    At g B s w0 (pos + 1) vw ws vl ls ((W.drewN n).setCell ⟨g, 1, none⟩ (.int .i64 ((pos : Int) + 1))) := At.next (W1 := W.drewN n) h rfl (below_drewN' h.below n) hg hp
theorem At.sameN {g B : Nat} {s : ByteArray} {w0 : World} {pos : Nat} {vw : Value} {ws : List ByteArray} {vl : Value} {ls : List (List ByteArray)} {W : World} {n : Nat} (h : At g B s w0 pos vw ws vl ls W) :
    At g B s w0 pos vw ws vl ls (W.drewN n) := At.same (W1 := W.drewN n) h rfl (below_drewN' h.below n)
theorem plain_more {s : ByteArray} {from_ pos : Nat} {hp : pos < s.size} (h : ∀ j, from_ ≤ j → ∀ h : j < s.size, j < pos → kb s[j] = 0) (hk : kb (s[pos]'hp) = 0) (j : Nat) (h0 : from_ ≤ j) (h1 : j < s.size) (h2 : j < pos + 1) : kb s[j] = 0 := by
  rcases Nat.lt_or_ge j pos with h3 | h3
  · exact h j h0 h1 h3
  · have hj : j = pos := by omega
    subst hj
    exact hk
theorem q_add {P : Program} {f : FuncId} {args : Array Value} {w : World} {a n : Nat} {v : Value}
    (h : Calls P f args (w.drewN (a + n)) fun e w' => e = .returned v ∧ ∃ m, w' = (w.drewN (a + n)).drewN m) :
    Calls P f args (w.drewN (a + n)) fun e w'' => e = .returned v ∧ ∃ m, w'' = w.drewN (a + m) :=
  h.mono fun _ _ ⟨he, m, hm⟩ => ⟨he, n + m, by rw [hm, World.drewN_drewN, Nat.add_assoc]⟩
set_option maxRecDepth 100000 in
set_option maxHeartbeats 6400000 in
theorem run_any (g B : Nat) (s : ByteArray) (hs : s.size ≤ 16384) (w : World) (hg : B ≤ g) (hB : B ≤ w.heap.size) (hrd : RD g s 0 (.slice none 0 0) (.slice none 0 0) w) :
    Calls Tryd.prog 20 #[.pointer (some ⟨g, 0, none⟩)] w (RunPost g B s w (lexF s.data.toList [] [])) := by
  have HRD := Lib.hid hrd
  clear hrd
  go_enter Tryd.func20, Tryd.ntmps20
  go_wp2
  refine wp_scope_many (J g B s w (lexF s.data.toList [] [])) (fun l _ W => mu g s l W) ?_ ?_
  · have hA : At g B s w 0 (.slice none 0 0) [] (.slice none 0 0) [] w := ⟨HRD.out, Kd.R_nil _ _ _ _ _, Kd.S_nil _ _ _ _ _, Below.refl _ _, Nat.zero_le _, Nat.le_refl _⟩
    have hF : lexF (s.data.toList.drop 0) [] [] = lexF s.data.toList [] [] := by rw [List.drop_zero]
    go_wp2
    go_step3
    go_wp2
    obtain ⟨pos, ws, ls, vw, vl, f, hpos, hvs, hA, hF⟩ : ∃ (pos : Nat) (ws : List ByteArray) (ls : List (List ByteArray)) (vw vl f : Value), pos = 0 ∧ f = .int .i64 0 ∧ At g B s w pos vw ws vl ls w ∧ lexF (s.data.toList.drop pos) ws ls = lexF s.data.toList [] [] := ⟨0, [], [], _, _, _, rfl, rfl, hA, hF⟩
    have HPOS := Lib.hid hpos
    have HVS := Lib.hid hvs
    clear hpos hvs
    have c0 := hA.rd.c0
    have c1 := hA.rd.c1
    have f1 := hA.rd.fz 1
    have hle := hA.le
    have hfew := hA.few
    have HBz : B ≤ w.heap.size := Nat.le_trans hB hA.below.size
    by_cases hlt : pos < s.size
    · have hne : ((pos : Int) == (s.size : Int)) = false := beq_eq_false_iff_ne.2 (by omega)
      have HDC := Lib.hid (drop_cons s pos hlt)
      have HF := Lib.hid hF
      clear hF
      rcases kb_cases (s[pos]'hlt) with hk | hk | hk | hk
      · have HK := Lib.hid hk
        clear hk
        go_quiet (fail)
        go_wp2_with (go_at_call 39; refine (kind_is 1 g s pos _ _ _ (hA.rd.drewN _) hlt hs HK.out).mono ?_; rintro e w' ⟨rfl, n1, rfl⟩)
        go_step3
        have hn := At.next (W1 := w.drewN (nq + n1)) hA rfl (below_drewN' hA.below _) hg hlt
        exact (show J g B s w (lexF s.data.toList [] []) 0 _ _ from ⟨_, ⟨rfl, rfl, rfl, rfl⟩, pos + 1, vw, ws, vl, ls, hn, by rw [← HF.out, HDC.out, lexF_blank _ _ _ _ HK.out]⟩)
      · have HK := Lib.hid hk
        clear hk
        by_cases h64 : ws.length ≤ 64
        · have hd64 : decide (ws.length ≤ 64) = true := decide_eq_true h64
          have H64 := Lib.hid hd64
          have H64' := Lib.hid h64
          clear hd64 h64
          go_quiet (fail)
          go_wp2_with (first | (go_at_call 39; refine (kind_is 2 g s pos _ _ _ (hA.rd.drewN _) hlt hs HK.out).mono ?_; rintro e w' ⟨rfl, n1, rfl⟩) | (go_at_call 38; refine (end_is true g B s pos vw ws vl ls _ (hA.rd.drewN _) hg HBz (Kd.R_drewN hA.kw _) (Kd.S_drewN hA.kl _) (by omega) (by omega) H64.out).mono ?_; rintro e w2 ⟨vl', rfl, h1, h2, h3⟩; have H1 := Lib.hid h1; have H2 := Lib.hid h2; have d1 := h1.c1; have e1 := h1.fz 1; clear h1 h2))
          go_step3
          have hn := At.ended hA hg hlt (below_drewN' hA.below _) H1.out H2.out h3
          exact (show J g B s w (lexF s.data.toList [] []) 0 _ _ from ⟨_, ⟨rfl, rfl, rfl, rfl⟩, pos + 1, _, _, vl', _, hn, by rw [← HF.out, HDC.out, lexF_feed _ _ _ _ HK.out, if_pos H64'.out]⟩)
        · have hd64 : decide (ws.length ≤ 64) = false := decide_eq_false h64
          have H64 := Lib.hid hd64
          have H64' := Lib.hid h64
          clear hd64 h64
          go_quiet (fail)
          go_wp2_with (first | (go_at_call 39; refine (kind_is 2 g s pos _ _ _ (hA.rd.drewN _) hlt hs HK.out).mono ?_; rintro e w' ⟨rfl, n1, rfl⟩) | (go_at_call 38; refine (end_is false g B s pos vw ws vl ls _ (hA.rd.drewN _) hg HBz (Kd.R_drewN hA.kw _) (Kd.S_drewN hA.kl _) (by omega) (by omega) H64.out).mono ?_; rintro e w2 ⟨vl', rfl, h1, h2, h3⟩; have H1 := Lib.hid h1; have H2 := Lib.hid h2; clear h1 h2))
          try simp only [jumps_ret]
          go_ret
          have hR : lexF s.data.toList [] [] = none := by rw [← HF.out, HDC.out, lexF_feed _ _ _ _ HK.out, if_neg H64'.out]
          exact ⟨by rw [hR]; rfl, (below_drewN' hA.below _).trans h3, fun l hl => by rw [hR] at hl; cases hl⟩
      · have HK := Lib.hid hk
        clear hk
        go_quiet (fail)
        go_wp2_with (go_at_call 39; refine (kind_is 3 g s pos _ _ _ (hA.rd.drewN _) hlt hs HK.out).mono ?_; rintro e w' ⟨rfl, n1, rfl⟩)
        go_step3
        have hn := At.same (W1 := w.drewN (nq + n1)) hA rfl (below_drewN' hA.below _)
        exact (show J g B s w (lexF s.data.toList [] []) 1 _ _ from ⟨_, ⟨rfl, rfl, rfl, rfl⟩, pos, vw, ws, vl, ls, hn, by rw [← HF.out, HDC.out, lexF_hash _ _ _ _ HK.out]⟩)
      · have HK := Lib.hid hk
        clear hk
        go_quiet (fail)
        go_wp2_with (go_at_call 39; refine (kind_is 0 g s pos _ _ _ (hA.rd.drewN _) hlt hs HK.out).mono ?_; rintro e w' ⟨rfl, n1, rfl⟩)
        go_step3
        go_wp2_with fail
        have hdlt : decide ((pos : Int) < (s.size : Int)) = true := decide_eq_true (by omega)
        go_quiet ((go_at_call 39; (first | exact Calls.quiet_of (kind_is 0 g s pos _ _ _ (hA.rd.drewN _) hlt hs HK.out) | exact q_add (kind_is 0 g s pos _ _ _ (hA.rd.drewN _) hlt hs HK.out))))
        go_wp2_with fail
        go_step3
        exact (show J g B s w (lexF s.data.toList [] []) 2 _ _ from ⟨pos, ⟨rfl, rfl, rfl, rfl⟩, pos + 1, vw, ws, vl, ls, At.nextN hA hg hlt, by omega, fun _ => HK.out, hlt, hfew, fun j h0 h1 h2 => plain_more (fun j h0 _ h2 => absurd h2 (Nat.not_lt.2 h0)) HK.out j h0 h1 h2, HF.out⟩)
    · have hpe : pos = s.size := by omega
      have HF := Lib.hid hF
      have HPE := Lib.hid hpe
      have hne : ((pos : Int) == (s.size : Int)) = true := beq_iff_eq.2 (by omega)
      clear hF hpe hlt
      go_quiet (fail)
      go_wp2_with (go_at_call 38; refine (end_is (decide (ws.length ≤ 64)) g B s pos vw ws vl ls _ (hA.rd.drewN _) hg HBz (Kd.R_drewN hA.kw _) (Kd.S_drewN hA.kl _) (by omega) (by omega) rfl).mono ?_; rintro e w2 ⟨vl', rfl, h1, h2, h3⟩; have H1 := Lib.hid h1; have H2 := Lib.hid h2; clear h1 h2)
      try simp only [jumps_ret]
      go_ret
      have hnil : s.data.toList.drop pos = [] := List.drop_eq_nil_of_le (by rw [HPE.out]; simp)
      have hR : lexF s.data.toList [] [] = if ws.length ≤ 64 then some (endL ls ws) else none := by rw [← HF.out, hnil, lexF_nil]
      refine ⟨?_, (below_drewN' hA.below _).trans h3, fun l hl => ?_⟩
      · rw [hR]; by_cases h : ws.length ≤ 64 <;> simp [h]
      · rw [hR] at hl
        by_cases h : ws.length ≤ 64
        · rw [if_pos h] at hl
          injection hl with hl
          subst hl
          exact ⟨_, _, vl', H1.out, H2.out⟩
        · rw [if_neg h] at hl; cases hl

  · rintro l a W hJ
    match l, hJ with
    | 0, hJ =>
      obtain ⟨f, hfr, pos, vw, ws, vl, ls, hA, hF⟩ := hJ
      obtain ⟨us, rfl⟩ := hfr.open_
      clear hfr
      refine ⟨_, rfl, ?_⟩
      go_wp2
      have c0 := hA.rd.c0
      have c1 := hA.rd.c1
      have f1 := hA.rd.fz 1
      have hle := hA.le
      have hfew := hA.few
      have HBz : B ≤ W.heap.size := Nat.le_trans hB hA.below.size
      by_cases hlt : pos < s.size
      · have hne : ((pos : Int) == (s.size : Int)) = false := beq_eq_false_iff_ne.2 (by omega)
        have HDC := Lib.hid (drop_cons s pos hlt)
        have HF := Lib.hid hF
        clear hF
        rcases kb_cases (s[pos]'hlt) with hk | hk | hk | hk
        · have HK := Lib.hid hk
          clear hk
          go_quiet (fail)
          go_wp2_with (go_at_call 39; refine (kind_is 1 g s pos _ _ _ (hA.rd.drewN _) hlt hs HK.out).mono ?_; rintro e w' ⟨rfl, n1, rfl⟩)
          go_step3
          have hn := At.next (W1 := W.drewN (nq + n1)) hA rfl (below_drewN' hA.below _) hg hlt
          exact (show J g B s w (lexF s.data.toList [] []) 0 _ _ ∧ mu g s 0 _ < mu g s 0 W from ⟨⟨_, ⟨rfl, rfl, rfl, rfl⟩, pos + 1, vw, ws, vl, ls, hn, by rw [← HF.out, HDC.out, lexF_blank _ _ _ _ HK.out]⟩, mu_step hlt hA.pos hn.pos⟩)
        · have HK := Lib.hid hk
          clear hk
          by_cases h64 : ws.length ≤ 64
          · have hd64 : decide (ws.length ≤ 64) = true := decide_eq_true h64
            have H64 := Lib.hid hd64
            have H64' := Lib.hid h64
            clear hd64 h64
            go_quiet (fail)
            go_wp2_with (first | (go_at_call 39; refine (kind_is 2 g s pos _ _ _ (hA.rd.drewN _) hlt hs HK.out).mono ?_; rintro e w' ⟨rfl, n1, rfl⟩) | (go_at_call 38; refine (end_is true g B s pos vw ws vl ls _ (hA.rd.drewN _) hg HBz (Kd.R_drewN hA.kw _) (Kd.S_drewN hA.kl _) (by omega) (by omega) H64.out).mono ?_; rintro e w2 ⟨vl', rfl, h1, h2, h3⟩; have H1 := Lib.hid h1; have H2 := Lib.hid h2; have d1 := h1.c1; have e1 := h1.fz 1; clear h1 h2))
            go_step3
            have hn := At.ended hA hg hlt (below_drewN' hA.below _) H1.out H2.out h3
            exact (show J g B s w (lexF s.data.toList [] []) 0 _ _ ∧ mu g s 0 _ < mu g s 0 W from ⟨⟨_, ⟨rfl, rfl, rfl, rfl⟩, pos + 1, _, _, vl', _, hn, by rw [← HF.out, HDC.out, lexF_feed _ _ _ _ HK.out, if_pos H64'.out]⟩, mu_step hlt hA.pos hn.pos⟩)
          · have hd64 : decide (ws.length ≤ 64) = false := decide_eq_false h64
            have H64 := Lib.hid hd64
            have H64' := Lib.hid h64
            clear hd64 h64
            go_quiet (fail)
            go_wp2_with (first | (go_at_call 39; refine (kind_is 2 g s pos _ _ _ (hA.rd.drewN _) hlt hs HK.out).mono ?_; rintro e w' ⟨rfl, n1, rfl⟩) | (go_at_call 38; refine (end_is false g B s pos vw ws vl ls _ (hA.rd.drewN _) hg HBz (Kd.R_drewN hA.kw _) (Kd.S_drewN hA.kl _) (by omega) (by omega) H64.out).mono ?_; rintro e w2 ⟨vl', rfl, h1, h2, h3⟩; have H1 := Lib.hid h1; have H2 := Lib.hid h2; clear h1 h2))
            try simp only [jumps_ret]
            go_ret
            have hR : lexF s.data.toList [] [] = none := by rw [← HF.out, HDC.out, lexF_feed _ _ _ _ HK.out, if_neg H64'.out]
            exact ⟨by rw [hR]; rfl, (below_drewN' hA.below _).trans h3, fun l hl => by rw [hR] at hl; cases hl⟩
        · have HK := Lib.hid hk
          clear hk
          go_quiet (fail)
          go_wp2_with (go_at_call 39; refine (kind_is 3 g s pos _ _ _ (hA.rd.drewN _) hlt hs HK.out).mono ?_; rintro e w' ⟨rfl, n1, rfl⟩)
          go_step3
          have hn := At.same (W1 := W.drewN (nq + n1)) hA rfl (below_drewN' hA.below _)
          exact (show J g B s w (lexF s.data.toList [] []) 1 _ _ ∧ mu g s 1 _ < mu g s 0 W from ⟨⟨_, ⟨rfl, rfl, rfl, rfl⟩, pos, vw, ws, vl, ls, hn, by rw [← HF.out, HDC.out, lexF_hash _ _ _ _ HK.out]⟩, mu_hash hlt hA.pos hn.pos HK.out⟩)
        · have HK := Lib.hid hk
          clear hk
          go_quiet (fail)
          go_wp2_with (go_at_call 39; refine (kind_is 0 g s pos _ _ _ (hA.rd.drewN _) hlt hs HK.out).mono ?_; rintro e w' ⟨rfl, n1, rfl⟩)
          go_step3
          go_wp2_with fail
          have hdlt : decide ((pos : Int) < (s.size : Int)) = true := decide_eq_true (by omega)
          go_quiet ((go_at_call 39; (first | exact Calls.quiet_of (kind_is 0 g s pos _ _ _ (hA.rd.drewN _) hlt hs HK.out) | exact q_add (kind_is 0 g s pos _ _ _ (hA.rd.drewN _) hlt hs HK.out))))
          go_wp2_with fail
          go_step3
          exact (show J g B s w (lexF s.data.toList [] []) 2 _ _ ∧ mu g s 2 _ < mu g s 0 W from ⟨⟨pos, ⟨rfl, rfl, rfl, rfl⟩, pos + 1, vw, ws, vl, ls, At.nextN hA hg hlt, by omega, fun _ => HK.out, hlt, hfew, fun j h0 h1 h2 => plain_more (fun j h0 _ h2 => absurd h2 (Nat.not_lt.2 h0)) HK.out j h0 h1 h2, HF.out⟩, mu_step hlt hA.pos (At.nextN hA hg hlt).pos⟩)
      · have hpe : pos = s.size := by omega
        have HF := Lib.hid hF
        have HPE := Lib.hid hpe
        have hne : ((pos : Int) == (s.size : Int)) = true := beq_iff_eq.2 (by omega)
        clear hF hpe hlt
        go_quiet (fail)
        go_wp2_with (go_at_call 38; refine (end_is (decide (ws.length ≤ 64)) g B s pos vw ws vl ls _ (hA.rd.drewN _) hg HBz (Kd.R_drewN hA.kw _) (Kd.S_drewN hA.kl _) (by omega) (by omega) rfl).mono ?_; rintro e w2 ⟨vl', rfl, h1, h2, h3⟩; have H1 := Lib.hid h1; have H2 := Lib.hid h2; clear h1 h2)
        try simp only [jumps_ret]
        go_ret
        have hnil : s.data.toList.drop pos = [] := List.drop_eq_nil_of_le (by rw [HPE.out]; simp)
        have hR : lexF s.data.toList [] [] = if ws.length ≤ 64 then some (endL ls ws) else none := by rw [← HF.out, hnil, lexF_nil]
        refine ⟨?_, (below_drewN' hA.below _).trans h3, fun l hl => ?_⟩
        · rw [hR]; by_cases h : ws.length ≤ 64 <;> simp [h]
        · rw [hR] at hl
          by_cases h : ws.length ≤ 64
          · rw [if_pos h] at hl
            injection hl with hl
            subst hl
            exact ⟨_, _, vl', H1.out, H2.out⟩
          · rw [if_neg h] at hl; cases hl
    | 1, hJ =>
      obtain ⟨f, hfr, pos, vw, ws, vl, ls, hA, hF⟩ := hJ
      obtain ⟨us, rfl⟩ := hfr.open_
      clear hfr
      refine ⟨_, rfl, ?_⟩
      go_wp2
      have c0 := hA.rd.c0
      have c1 := hA.rd.c1
      have f1 := hA.rd.fz 1
      have hle := hA.le
      have hfew := hA.few
      have HBz : B ≤ W.heap.size := Nat.le_trans hB hA.below.size
      by_cases hlt : pos < s.size
      · have hdlt : decide ((pos : Int) < (s.size : Int)) = true := decide_eq_true (by omega)
        have HDC := Lib.hid (drop_cons s pos hlt)
        have HF := Lib.hid hF
        clear hF
        rcases kb_cases (s[pos]'hlt) with hk | hk | hk | hk
        · have HK := Lib.hid hk
          clear hk
          go_quiet ((go_at_call 39; (first | exact Calls.quiet_of (kind_is 1 g s pos _ _ _ (hA.rd.drewN _) hlt hs HK.out) | exact q_add (kind_is 1 g s pos _ _ _ (hA.rd.drewN _) hlt hs HK.out))))
          go_wp2_with fail
          go_step3
          exact (show J g B s w (lexF s.data.toList [] []) 1 _ _ ∧ mu g s 1 _ < mu g s 1 W from ⟨⟨_, ⟨rfl, rfl, rfl, rfl⟩, pos + 1, vw, ws, vl, ls, At.nextN hA hg hlt, by rw [← HF.out, noFeed_drop _ _ _ HDC.out (by rw [HK.out]; decide)]⟩, mu_step hlt hA.pos (At.nextN hA hg hlt).pos⟩)
        · have HK := Lib.hid hk
          clear hk
          go_quiet ((go_at_call 39; (first | exact Calls.quiet_of (kind_is 2 g s pos _ _ _ (hA.rd.drewN _) hlt hs HK.out) | exact q_add (kind_is 2 g s pos _ _ _ (hA.rd.drewN _) hlt hs HK.out))))
          go_wp2_with fail
          go_step3
          exact (show J g B s w (lexF s.data.toList [] []) 0 _ _ ∧ mu g s 0 _ < mu g s 1 W from ⟨⟨_, ⟨rfl, rfl, rfl, rfl⟩, pos, vw, ws, vl, ls, At.sameN hA, by rw [← HF.out, noFeed_stop _ _ _ HDC.out HK.out]⟩, mu_back (.inl rfl) hA.pos (At.sameN hA).pos (fun _ => .inl ⟨by rw [HK.out]; decide, rfl⟩)⟩)
        · have HK := Lib.hid hk
          clear hk
          go_quiet ((go_at_call 39; (first | exact Calls.quiet_of (kind_is 3 g s pos _ _ _ (hA.rd.drewN _) hlt hs HK.out) | exact q_add (kind_is 3 g s pos _ _ _ (hA.rd.drewN _) hlt hs HK.out))))
          go_wp2_with fail
          go_step3
          exact (show J g B s w (lexF s.data.toList [] []) 1 _ _ ∧ mu g s 1 _ < mu g s 1 W from ⟨⟨_, ⟨rfl, rfl, rfl, rfl⟩, pos + 1, vw, ws, vl, ls, At.nextN hA hg hlt, by rw [← HF.out, noFeed_drop _ _ _ HDC.out (by rw [HK.out]; decide)]⟩, mu_step hlt hA.pos (At.nextN hA hg hlt).pos⟩)
        · have HK := Lib.hid hk
          clear hk
          go_quiet ((go_at_call 39; (first | exact Calls.quiet_of (kind_is 0 g s pos _ _ _ (hA.rd.drewN _) hlt hs HK.out) | exact q_add (kind_is 0 g s pos _ _ _ (hA.rd.drewN _) hlt hs HK.out))))
          go_wp2_with fail
          go_step3
          exact (show J g B s w (lexF s.data.toList [] []) 1 _ _ ∧ mu g s 1 _ < mu g s 1 W from ⟨⟨_, ⟨rfl, rfl, rfl, rfl⟩, pos + 1, vw, ws, vl, ls, At.nextN hA hg hlt, by rw [← HF.out, noFeed_drop _ _ _ HDC.out (by rw [HK.out]; decide)]⟩, mu_step hlt hA.pos (At.nextN hA hg hlt).pos⟩)
      · have hdlt : decide ((pos : Int) < (s.size : Int)) = false := decide_eq_false (by omega)
        have HF := Lib.hid hF
        have HNL := Lib.hid hlt
        have hnl : ¬ ((pos : Int) < (s.size : Int)) := by omega
        have hnl' : (s.size : Int) ≤ (pos : Int) := by omega
        clear hF
        go_quiet (fail)
        go_wp2_with fail
        go_step3
        have hnil : s.data.toList.drop pos = [] := List.drop_eq_nil_of_le (by have := HNL.out; simp; omega)
        exact (show J g B s w (lexF s.data.toList [] []) 0 _ _ ∧ mu g s 0 _ < mu g s 1 W from ⟨⟨_, ⟨rfl, rfl, rfl, rfl⟩, pos, vw, ws, vl, ls, At.sameN hA, by rw [← HF.out, hnil]; rfl⟩, mu_back (.inl rfl) hA.pos (At.sameN hA).pos (fun h => absurd h HNL.out)⟩)
    | 2, hJ =>
      obtain ⟨from_, hfr, pos, vw, ws, vl, ls, hA, hfp, hh0, hlt0, hfew2, hpl, hF⟩ := hJ
      obtain ⟨us, rfl⟩ := hfr.open_
      clear hfr
      refine ⟨_, rfl, ?_⟩
      go_wp2
      have c0 := hA.rd.c0
      have c1 := hA.rd.c1
      have f1 := hA.rd.fz 1
      have hle := hA.le
      have hfew := hA.few
      have HBz : B ≤ W.heap.size := Nat.le_trans hB hA.below.size
      have c66 := hA.rd.c66
      have f66 := hA.rd.fz 66
      have hgs : g < W.heap.size := World.block_lt_of_cell? W _ c66
      have hvg : vw.ownBlock ≠ some g := fun e => (hA.kw.1 g e) rfl
      have HF := Lib.hid hF
      have HPL := Lib.hid hpl
      have HH0 := Lib.hid hh0
      clear hF hpl hh0
      by_cases hlt : pos < s.size
      · have hdlt : decide ((pos : Int) < (s.size : Int)) = true := decide_eq_true (by omega)
        by_cases hk : kb (s[pos]'hlt) = 0
        · have HK := Lib.hid hk
          clear hk
          go_quiet ((go_at_call 39; (first | exact Calls.quiet_of (kind_is 0 g s pos _ _ _ (hA.rd.drewN _) hlt hs HK.out) | exact q_add (kind_is 0 g s pos _ _ _ (hA.rd.drewN _) hlt hs HK.out))))
          go_wp2_with fail
          go_step3
          exact (show J g B s w (lexF s.data.toList [] []) 2 _ _ ∧ mu g s 2 _ < mu g s 2 W from ⟨⟨from_, ⟨rfl, rfl, rfl, rfl⟩, pos + 1, vw, ws, vl, ls, At.nextN hA hg hlt, by omega, HH0.out, hlt0, hfew2, fun j h0 h1 h2 => plain_more HPL.out HK.out j h0 h1 h2, HF.out⟩, mu_step hlt hA.pos (At.nextN hA hg hlt).pos⟩)
        · have HK := Lib.hid hk
          have hkv : (kb (s[pos]'hlt) == 0) = false := beq_eq_false_iff_ne.2 hk
          clear hk
          go_quiet ((go_at_call 39; (first | exact Calls.quiet_of (kind_is (kb (s[pos]'hlt)) g s pos _ _ _ (hA.rd.drewN _) hlt hs rfl) | exact q_add (kind_is (kb (s[pos]'hlt)) g s pos _ _ _ (hA.rd.drewN _) hlt hs rfl))))
          go_wp2_with fail
          have hfl : from_ < pos := from_lt hfp hlt0 HH0.out (fun _ => HK.out)
          have hwd := Lib.hid (word_done s from_ pos hfp hle HPL.out (fun _ => HK.out))
          have hx1 : (from_ : Int) ≤ (pos : Int) := by omega
          have hx2 : (pos : Int) ≤ (s.size : Int) := by omega
          have c66a : ∀ (n : Nat) (o : Obj), ((W.drewN n).alloc o).cell? ⟨g, 66, none⟩ = some vw := fun n o => (World.cell?_alloc_lt _ _ _ (by exact hgs)).trans c66
          have c1a : ∀ (n : Nat) (o : Obj), ((W.drewN n).alloc o).cell? ⟨g, 1, none⟩ = some (.int .i64 pos) := fun n o => (World.cell?_alloc_lt _ _ _ (by exact hgs)).trans c1
          go_region_law (refine Kd.R_append_step KW (w0 := w) (W := (W.drewN nq).drew) B (by rfl) (.tmp 71) (.tmp 82) 51 9 (.string ⟨#[]⟩) 16 (by rfl) Tryd.underlying51 Tryd.info9' rfl (by decide) (by decide) vw ws (s.extract from_ pos) [.string (s.extract from_ pos)] (fun k => k ≠ g) (fun _ => False) (by simp [Act.eval]) (by simp [Act.eval]) rfl (fun _ hk => hk.elim) (fun k hk => by have : ((W.drewN nq).drew).heap.size = W.heap.size := rfl; omega) (Kd.R_drew (Kd.R_drewN hA.kw nq)) (below_drewN' hA.below nq).drew HBz (by omega) ?_; intro v1 w1 hR hb hgrow hat; obtain ⟨A1, cc1, rfl⟩ := Kd.R_slice hR; have HR := Lib.hid hR; have HG := Lib.hid hgrow; have HAT := Lib.hid hat; have d66 : w1.cell? ⟨g, 66, none⟩ = some vw := (hgrow.cell_far _ (by exact hgs) (fun e => hvg e.symm)).trans c66; have e66 : w1.frozen? ⟨g, 66, none⟩ = false := (hgrow.frozen_far _ (by exact hgs) (fun e => hvg e.symm)).trans f66; clear hR hat hgrow)
          all_goals
            go_wp2_with fail
            go_step3
            have hn := At.worded hA hg hgs hvg hfew2 hfl (W1 := (W.drewN nq).drew) rfl HR.out hb HG.out HAT.out
            have hln : (ws ++ [s.extract from_ pos]).length = ws.length + 1 := by simp
            rw [hln] at hn
            exact (show J g B s w (lexF s.data.toList [] []) 0 _ _ ∧ mu g s 0 _ < mu g s 2 W from ⟨⟨.int .i64 from_, ⟨rfl, rfl, rfl, rfl⟩, pos, _, _, vl, ls, hn, by rw [← HF.out, drop_cons s from_ hlt0, lexF_word _ _ _ _ (HH0.out hlt0), ← drop_cons s from_ hlt0, hwd.out.1, hwd.out.2]⟩, mu_back (.inr rfl) hA.pos hn.pos (fun hp => .inr ⟨(fun _ => HK.out) hp, rfl⟩)⟩)
      · have HNL := Lib.hid hlt
        have hdlt : decide ((pos : Int) < (s.size : Int)) = false := decide_eq_false (by omega)
        have hnl : ¬ ((pos : Int) < (s.size : Int)) := by omega
        have hnl' : (s.size : Int) ≤ (pos : Int) := by omega
        go_quiet (fail)
        go_wp2_with fail
        have hfl : from_ < pos := from_lt hfp hlt0 HH0.out (fun h => absurd h HNL.out)
        have hwd := Lib.hid (word_done s from_ pos hfp hle HPL.out (fun h => absurd h HNL.out))
        have hx1 : (from_ : Int) ≤ (pos : Int) := by omega
        have hx2 : (pos : Int) ≤ (s.size : Int) := by omega
        have c66a : ∀ (n : Nat) (o : Obj), ((W.drewN n).alloc o).cell? ⟨g, 66, none⟩ = some vw := fun n o => (World.cell?_alloc_lt _ _ _ (by exact hgs)).trans c66
        have c1a : ∀ (n : Nat) (o : Obj), ((W.drewN n).alloc o).cell? ⟨g, 1, none⟩ = some (.int .i64 pos) := fun n o => (World.cell?_alloc_lt _ _ _ (by exact hgs)).trans c1
        go_region_law (refine Kd.R_append_step KW (w0 := w) (W := (W.drewN nq).drew) B (by rfl) (.tmp 71) (.tmp 82) 51 9 (.string ⟨#[]⟩) 16 (by rfl) Tryd.underlying51 Tryd.info9' rfl (by decide) (by decide) vw ws (s.extract from_ pos) [.string (s.extract from_ pos)] (fun k => k ≠ g) (fun _ => False) (by simp [Act.eval]) (by simp [Act.eval]) rfl (fun _ hk => hk.elim) (fun k hk => by have : ((W.drewN nq).drew).heap.size = W.heap.size := rfl; omega) (Kd.R_drew (Kd.R_drewN hA.kw nq)) (below_drewN' hA.below nq).drew HBz (by omega) ?_; intro v1 w1 hR hb hgrow hat; obtain ⟨A1, cc1, rfl⟩ := Kd.R_slice hR; have HR := Lib.hid hR; have HG := Lib.hid hgrow; have HAT := Lib.hid hat; have d66 : w1.cell? ⟨g, 66, none⟩ = some vw := (hgrow.cell_far _ (by exact hgs) (fun e => hvg e.symm)).trans c66; have e66 : w1.frozen? ⟨g, 66, none⟩ = false := (hgrow.frozen_far _ (by exact hgs) (fun e => hvg e.symm)).trans f66; clear hR hat hgrow)
        all_goals
          go_wp2_with fail
          go_step3
          have hn := At.worded hA hg hgs hvg hfew2 hfl (W1 := (W.drewN nq).drew) rfl HR.out hb HG.out HAT.out
          have hln : (ws ++ [s.extract from_ pos]).length = ws.length + 1 := by simp
          rw [hln] at hn
          exact (show J g B s w (lexF s.data.toList [] []) 0 _ _ ∧ mu g s 0 _ < mu g s 2 W from ⟨⟨.int .i64 from_, ⟨rfl, rfl, rfl, rfl⟩, pos, _, _, vl, ls, hn, by rw [← HF.out, drop_cons s from_ hlt0, lexF_word _ _ _ _ (HH0.out hlt0), ← drop_cons s from_ hlt0, hwd.out.1, hwd.out.2]⟩, mu_back (.inr rfl) hA.pos hn.pos (fun hp => .inr ⟨(fun h => absurd h HNL.out) hp, rfl⟩)⟩)
    | n + 3, hJ => exact hJ.elim
end Go.Proofs.YtlghkomipboflaaDoor
end
section
namespace Go.Proofs.YtlghkomipboflaaDoor
open Go.RowKit Go.Proofs.YtlghkomipboflaaDoorW.PrintWords Go.Proofs.YtlghkomipboflaaDoorW.PrintLast Go.Proofs.YtlghkomipboflaaDoorW.PrintMore
set_option linter.unusedVariables false
set_option linter.unusedSimpArgs false
def arrOf (f : Nat → Int) : Array Value := ((List.range 64).map fun i => Value.int .i64 (f i)).toArray
theorem arrOf_get (f : Nat → Int) (j : Nat) (h : j < 64) : (arrOf f)[j]? = some (.int .i64 (f j)) := by simp [arrOf, h]
theorem arrOf_size (f : Nat → Int) : (arrOf f).size = 64 := by simp [arrOf]
theorem arrOf_set (f : Nat → Int) (j : Nat) (v : Int) : (arrOf f).setIfInBounds j (.int .i64 v) = arrOf (fun i => if i = j then v else f i) := by
  apply Array.ext_getElem?
  intro i
  rw [Array.getElem?_setIfInBounds, arrOf_size]
  by_cases h : j = i
  · subst h
    rw [if_pos rfl]
    by_cases hj : j < 64
    · rw [if_pos hj, arrOf_get _ j hj, if_pos rfl]
    · rw [if_neg hj, Array.getElem?_eq_none (by rw [arrOf_size]; omega)]
  · rw [if_neg h]
    by_cases hi : i < 64
    · rw [arrOf_get _ i hi, arrOf_get _ i hi, if_neg (fun e => h e.symm)]
    · rw [Array.getElem?_eq_none (by rw [arrOf_size]; omega), Array.getElem?_eq_none (by rw [arrOf_size]; omega)]
theorem arrOf_congr (f f' : Nat → Int) (h : ∀ i, i < 64 → f i = f' i) : arrOf f = arrOf f' := by
  unfold arrOf
  congr 1
  apply List.map_congr_left
  intro i hi
  rw [h i (List.mem_range.1 hi)]
structure KS (b : Nat) (w0 : World) (pos : Nat) (f : Nat → Int) (W : World) : Prop where
  row : W.heap[b]? = some (.cells (arrOf f) 66 (0, 0))
  it : W.heap[b + 1]? = some (.stringIter ⟨#[32, 9, 13]⟩ pos)
  below : Below b w0 W
theorem KS.cell {b w0 pos f W} (h : KS b w0 pos f W) (j : Nat) (hj : j < 64) : W.cell? ⟨b, j, none⟩ = some (.int .i64 (f j)) := by
  rw [cell_of_row _ _ _ _ _ _ h.row, arrOf_get f j hj]
theorem KS.fz {b w0 pos f W} (h : KS b w0 pos f W) (j : Nat) : W.frozen? ⟨b, j, none⟩ = false := frozen_of_row _ _ _ _ _ h.row
theorem KS.next {b w0 pos f W} (h : KS b w0 pos f W) (pos' : Nat) : KS b w0 pos' f (W.iterAt (b + 1) ⟨#[32, 9, 13]⟩ pos') :=
  ⟨by rw [Lib.iterAt_other _ _ _ _ _ (by omega)]; exact h.row, Lib.iterAt_heap _ _ _ _ _ h.it, Lib.below_iterAt h.below (by omega) _ _⟩
theorem setRow_get {W : World} {g : Nat} {cs : Array Value} {t : Nat} {fr : Nat × Nat} (h : W.heap[g]? = some (.cells cs t fr)) (cs' : Array Value) : (W.setRow g cs').heap[g]? = some (.cells cs' t fr) := by
  simp [World.setRow, Array.getElem?_modify, h]
theorem below_setRow {B g : Nat} {a W : World} (h : Below B a W) (hg : B ≤ g) (cs : Array Value) : Below B a (W.setRow g cs) := by
  refine h.trans ⟨rfl, rfl, rfl, by simp [World.setRow], fun k hk => ?_⟩
  simp only [World.setRow, Array.getElem?_modify]
  rw [if_neg (by omega)]
theorem KS.set {b w0 pos f W} (h : KS b w0 pos f W) (j : Nat) (v : Int) : KS b w0 pos (fun i => if i = j then v else f i) (W.setCell ⟨b, j, none⟩ (.int .i64 v)) :=
  ⟨by rw [heap_setCell_same _ _ _ _ _ _ h.row, arrOf_set], by rw [heap_setCell_other _ _ _ _ (by simp)]; exact h.it, h.below.setCell (Nat.le_refl _) _⟩
def kAt (pos i : Nat) : Int := if (i = 32 ∧ 1 ≤ pos) ∨ (i = 9 ∧ 2 ≤ pos) ∨ (i = 13 ∧ 3 ≤ pos) then 1 else 0
def posAt (b : Nat) (W : World) : Nat := match W.heap[b + 1]? with | some (.stringIter _ p) => p | _ => 0
set_option maxRecDepth 100000 in
set_option maxHeartbeats 3200000 in
theorem kinds_any (w : World) : Calls Tryd.prog 19 #[] w fun e w' => e = .returned (.agg kindCells.toArray) ∧ Below w.heap.size w w' := by
  go_enter Tryd.func19, Tryd.ntmps19
  go_wp2
  refine wp_at (fun W => ∃ f, KS w.heap.size w 0 f W ∧ ∀ i, i < 64 → f i = kAt 0 i) ⟨fun _ => 0, ⟨?_, ?_, ?_⟩, ?_⟩ ?_
  · exact heap_alloc2_old w _ _
  · exact heap_alloc2_new w _ _
  · unfold World.iter
    exact ((Below.refl _ _).alloc (Nat.le_refl _) _).alloc (by simp) _
  · intro i hi; simp [kAt]
  · rintro W ⟨f, hK, hf⟩
    have HK := Lib.hid hK
    have HF := Lib.hid hf
    clear hK hf
    go_loopw [] (fun w' => ∃ (pos : Nat) (f : Nat → Int), pos ≤ 3 ∧ KS w.heap.size w pos f w' ∧ ∀ i, i < 64 → f i = kAt pos i) (fun w' => 3 - posAt w.heap.size w')
    case atStart => exact ⟨0, f, by omega, HK.out, HF.out⟩
    case round =>
      obtain ⟨pos, f1, hp, hK, hf⟩ := hrel
      rcases (show pos = 0 ∨ pos = 1 ∨ pos = 2 ∨ pos = 3 by omega) with rfl | rfl | rfl | rfl
      · have hnx : ∀ ty, (Instr.next (.pointer (some ⟨w.heap.size + 1, 0, none⟩)) true ty).run Tryd.prog wr = .ok (.tuple #[.bool true, .int .i64 0, .int .i32 32]) (wr.iterAt (w.heap.size + 1) ⟨#[32, 9, 13]⟩ 1) := fun ty => Lib.run_next_ascii_at wr _ ⟨#[32, 9, 13]⟩ 0 ty hK.it (by decide) (by decide)
        have hN := hK.next 1
        have hc := hN.cell 32 (by omega)
        have hz := hN.fz 32
        have HN := Lib.hid hN
        have HF1 := Lib.hid hf
        have HK1 := Lib.hid hK
        clear hN hf hK
        go_wp2
        go_roundw
        case rel => exact ⟨1, _, by omega, HN.out.set 32 1, fun i hi => by rw [HF1.out i hi]; simp only [kAt]; (repeat' split) <;> first | rfl | omega⟩
        case measure =>
          have e1 : posAt w.heap.size wr = 0 := by unfold posAt; rw [HK1.out.it]
          have e2 : posAt w.heap.size ((wr.iterAt (w.heap.size + 1) ⟨#[32, 9, 13]⟩ 1).setCell ⟨w.heap.size, 32, none⟩ (.int .i64 1)) = 1 := by unfold posAt; rw [(HN.out.set 32 1).it]
          first | (rw [e1, e2]; omega) | (simp [e1, e2]; omega)
      · have hnx : ∀ ty, (Instr.next (.pointer (some ⟨w.heap.size + 1, 0, none⟩)) true ty).run Tryd.prog wr = .ok (.tuple #[.bool true, .int .i64 1, .int .i32 9]) (wr.iterAt (w.heap.size + 1) ⟨#[32, 9, 13]⟩ 2) := fun ty => Lib.run_next_ascii_at wr _ ⟨#[32, 9, 13]⟩ 1 ty hK.it (by decide) (by decide)
        have hN := hK.next 2
        have hc := hN.cell 9 (by omega)
        have hz := hN.fz 9
        have HN := Lib.hid hN
        have HF1 := Lib.hid hf
        have HK1 := Lib.hid hK
        clear hN hf hK
        go_wp2
        go_roundw
        case rel => exact ⟨2, _, by omega, HN.out.set 9 1, fun i hi => by rw [HF1.out i hi]; simp only [kAt]; (repeat' split) <;> first | rfl | omega⟩
        case measure =>
          have e1 : posAt w.heap.size wr = 1 := by unfold posAt; rw [HK1.out.it]
          have e2 : posAt w.heap.size ((wr.iterAt (w.heap.size + 1) ⟨#[32, 9, 13]⟩ 2).setCell ⟨w.heap.size, 9, none⟩ (.int .i64 1)) = 2 := by unfold posAt; rw [(HN.out.set 9 1).it]
          first | (rw [e1, e2]; omega) | (simp [e1, e2]; omega)
      · have hnx : ∀ ty, (Instr.next (.pointer (some ⟨w.heap.size + 1, 0, none⟩)) true ty).run Tryd.prog wr = .ok (.tuple #[.bool true, .int .i64 2, .int .i32 13]) (wr.iterAt (w.heap.size + 1) ⟨#[32, 9, 13]⟩ 3) := fun ty => Lib.run_next_ascii_at wr _ ⟨#[32, 9, 13]⟩ 2 ty hK.it (by decide) (by decide)
        have hN := hK.next 3
        have hc := hN.cell 13 (by omega)
        have hz := hN.fz 13
        have HN := Lib.hid hN
        have HF1 := Lib.hid hf
        have HK1 := Lib.hid hK
        clear hN hf hK
        go_wp2
        go_roundw
        case rel => exact ⟨3, _, by omega, HN.out.set 13 1, fun i hi => by rw [HF1.out i hi]; simp only [kAt]; (repeat' split) <;> first | rfl | omega⟩
        case measure =>
          have e1 : posAt w.heap.size wr = 2 := by unfold posAt; rw [HK1.out.it]
          have e2 : posAt w.heap.size ((wr.iterAt (w.heap.size + 1) ⟨#[32, 9, 13]⟩ 3).setCell ⟨w.heap.size, 13, none⟩ (.int .i64 1)) = 3 := by unfold posAt; rw [(HN.out.set 13 1).it]
          first | (rw [e1, e2]; omega) | (simp [e1, e2]; omega)
      · have hnx : ∀ ty, (Instr.next (.pointer (some ⟨w.heap.size + 1, 0, none⟩)) true ty).run Tryd.prog wr = .ok (.tuple #[.bool false]) wr := fun ty => Lib.run_next_end_at wr _ ⟨#[32, 9, 13]⟩ 3 ty hK.it (by decide)
        have hc := hK.cell 10 (by omega)
        have hz := hK.fz 10
        have h35 := (hK.set 10 2).cell 35 (by omega)
        have hz35 := (hK.set 10 2).fz 35
        have HF1 := Lib.hid hf
        have HK1 := Lib.hid hK
        clear hf hK
        go_wp2_with (first
          | (refine wpList_load_row rfl 66 (.tmp 0) rfl w.heap.size rfl 66 _ (0, 0) _ ((HK1.out.set 10 2).set 35 3).row Tryd.underlying66 rfl (by kernel_rfl) ?_)
          | (refine wpList_store_rowTo rfl 66 (.tmp 0) (.tmp 11) rfl rfl w.heap.size _ rfl rfl 66 _ ((HK1.out.set 10 2).set 35 3).row (by kernel_rfl) rfl (by simp [arrOf, Value.oneCell']) ?_))
        have hS := (HK1.out.set 10 2).set 35 3
        have ha : arrOf (fun i => if i = 35 then 3 else if i = 10 then 2 else f1 i) = kindCells.toArray := by
          have : kindCells.toArray = arrOf (fun i => kindOf i) := rfl
          rw [this]
          apply arrOf_congr
          intro i hi
          simp only [HF1.out i hi, kAt, kindOf]
          (repeat' split) <;> first | rfl | omega
        have hrow := hS.row
        rw [ha] at hrow ⊢
        refine bodyPost_ret (v := .agg kindCells.toArray) ?_ rfl ⟨rfl, ?_⟩
        · exact results_cell_row rfl _ _ w.heap.size 66 kindCells.toArray (0, 0) _ rfl (setRow_get hrow _) Tryd.underlying66 rfl (by kernel_rfl)
        · exact below_setRow hS.below (Nat.le_refl _) _
end Go.Proofs.YtlghkomipboflaaDoor
end
section
namespace Go.Proofs.YtlghkomipboflaaDoor
open Go.RowKit Go.Proofs.YtlghkomipboflaaDoorW.PrintWords Go.Proofs.YtlghkomipboflaaDoorW.PrintLast Go.Proofs.YtlghkomipboflaaDoorW.PrintMore
set_option linter.unusedVariables false
set_option linter.unusedSimpArgs false
def BuiltAt (P : Program) (t : Nat) (l : List (Nat × Value)) (cells : Array Value) : Prop := ∀ l', l' = l → P.built t l' = some cells
def LinesEnd (s : ByteArray) (w : World) (e : Ending) (w' : World) : Prop :=
  ∃ v, e = .returned (.tuple #[v, .int .i64 (linesP s).2]) ∧ Kd.S KL 51 w' w.heap.size (fun _ => True) v (linesP s).1 ∧ Below w.heap.size w w'
theorem lines_long (s : ByteArray) (w : World) (h : 16384 < s.size) : Calls Tryd.prog 11 #[.string s] w (LinesEnd s w) := by
  have hp : linesP s = ([], 4) := by unfold linesP; rw [if_pos h]
  have HP := Lib.hid hp
  clear hp
  go_enter Tryd.func11, Tryd.ntmps11
  go_wp2
  go_ret2
  exact ⟨.slice none 0 0, by rw [HP.out]; rfl, by rw [HP.out]; exact Kd.S_nil _ _ _ _ _, Below.refl _ _⟩
set_option maxHeartbeats 1600000 in
set_option maxRecDepth 100000 in
theorem lines_short (s : ByteArray) (w : World) (h : s.size ≤ 16384) : Calls Tryd.prog 11 #[.string s] w (LinesEnd s w) := by
  have hp : linesP s = match lexF s.data.toList [] [] with | some l => (l, 0) | none => ([], 4) := by unfold linesP; rw [if_neg (by omega)]; rfl
  have HP := Lib.hid hp
  clear hp
  have HBU : BuiltAt Tryd.prog 69 [(0, Value.string s), (2, Value.agg kindCells.toArray)] ([Value.string s, Value.int .i64 0] ++ kindCells ++ [Value.slice none 0 0, Value.slice none 0 0]).toArray := by
    rintro l rfl
    as_aux_lemma => kernel_rfl
  go_enter Tryd.func11, Tryd.ntmps11
  go_wp2_with fail
  refine (kinds_any _).mono ?_
  rintro e w1 ⟨rfl, hb1⟩
  go_wp2_with (refine wpList_buildTo rfl 69 #[(0, .tmp 8), (2, .tmp 9)] rfl _ rfl ([Value.string s, Value.int .i64 0] ++ kindCells ++ [Value.slice none 0 0, Value.slice none 0 0]).toArray (by refine HBU _ ?_; simp [Act.eval]) ?_)
  have hrd : RD w1.heap.size s 0 (.slice none 0 0) (.slice none 0 0) (w1.alloc (.cells (Value.string s :: Value.int .i64 0 :: (kindCells ++ [Value.slice none 0 0, Value.slice none 0 0])).toArray 69)) := heap_alloc_new w1 _
  refine (run_any w1.heap.size w.heap.size s h _ hb1.size (by simp; have := hb1.size; omega) hrd).mono ?_
  rintro e w2 ⟨rfl, hb2, hfin⟩
  have hb : Below w.heap.size w w2 := (hb1.alloc hb1.size _).trans hb2
  have HFIN := Lib.hid hfin
  clear hfin hrd
  cases hR : lexF s.data.toList [] [] with
  | none =>
    rw [hR] at HP HFIN
    clear hR
    go_wp2
    go_ret2
    exact ⟨.slice none 0 0, by rw [HP.out]; rfl, by rw [HP.out]; exact Kd.S_nil _ _ _ _ _, hb⟩
  | some l =>
    rw [hR] at HP HFIN
    obtain ⟨at_, vw, vl, h1, h2⟩ := HFIN.out l rfl
    clear hR
    have c67 := h1.c67
    go_wp2
    go_ret2
    exact ⟨vl, by rw [HP.out]; rfl, by rw [HP.out]; exact Kd.S_mono h2 (fun _ _ => trivial), hb⟩
theorem lines_any (s : ByteArray) (w : World) : Calls Tryd.prog 11 #[.string s] w (LinesEnd s w) := by
  rcases Nat.lt_or_ge 16384 s.size with h | h
  · exact lines_long s w h
  · exact lines_short s w h
def lex_Lines.f (a0 : ByteArray) : Option (List (List ByteArray) × Int) := some (linesP a0)
theorem lex_Lines.calls (a0 : ByteArray) (r1 : List (List ByteArray)) (r2 : Int) (w : World) (h : lex_Lines.f a0 = some (r1, r2)) :
    Calls Tryd.prog 11 #[.string a0] w fun e w' => ∃ v0_ : Value, e = .returned (.tuple #[v0_, .int .i64 r2]) ∧ Kd.S (Kd.slice 9 Kd.string) 51 w' w.heap.size (fun _ => True) v0_ r1 ∧ Below w.heap.size w w' := by
  have h' : linesP a0 = (r1, r2) := Option.some.inj h
  refine (lines_any a0 w).mono ?_
  rintro e w' ⟨v, rfl, hr, hb⟩
  rw [h'] at hr ⊢
  exact ⟨v, rfl, hr, hb⟩
end Go.Proofs.YtlghkomipboflaaDoor
end
