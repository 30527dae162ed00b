/- Texts of this claim, merged (part 11 of 13): Chap, Alive7, PureRead, CardSh, LinesP, Parts. -/
import Derived.WalkKit
import Derived.WalkSpells
import Derived.Lib.Hide
import Derived.Deep.RegionHeld3
import Derived.Test.YtlghkomipboflaaDoorCards
import Derived.Test.YtlghkomipboflaaDoorTie
import Derived.ProofKit
import Derived.OpenShut
import Derived.LaidLaws
import Derived.Deep.DeepHandedRow
import Derived.Lib.LaidTab
import Derived.Test.YtlghkomipboflaaDoorBR1
import Derived.Test.YtlghkomipboflaaDoorBR2
import Derived.Test.YtlghkomipboflaaDoorBR5
import Derived.Test.YtlghkomipboflaaDoorBR8
import Derived.Test.YtlghkomipboflaaDoorBR10
set_option linter.unusedVariables false
set_option linter.unusedSimpArgs false
section
namespace Go.Proofs.YtlghkomipboflaaDoor.Sh
open Go.RowKit Go.Proofs.YtlghkomipboflaaDoor Go.Proofs.YtlghkomipboflaaDoor.X Go.Proofs.YtlghkomipboflaaDoorW.PrintWords Go.Proofs.YtlghkomipboflaaDoorW.PrintLast Go.Proofs.YtlghkomipboflaaDoorW.PrintMore
set_option linter.unusedVariables false
set_option linter.unusedSimpArgs false
theorem add_at (b n : Nat) : (⟨b, 0, none⟩ : Addr).add n = ⟨b, n, none⟩ := by unfold Addr.add; simp; omega
theorem row1 {α : Type} (d : Kd α) {W : World} {b t : Nat} {x : α} {cs : List Value} (h : W.heap[b]? = some (.cells cs.toArray t (0, 0))) (hK : d.K W x cs) : d.C W (some ⟨b, 0, none⟩) [x].length [x] :=
  ⟨rfl, by simp, fun _ => ⟨_, rfl, fun j p hj => by
    cases j with
    | zero =>
      simp at hj
      subst hj
      refine ⟨cs, d.K_len hK, hK, fun i u hi => ?_⟩
      rw [Nat.zero_mul, Nat.zero_add, add_at, blk_cell h i]
      simpa using hi
    | succ j => simp at hj⟩⟩
theorem row2 {α : Type} (d : Kd α) {W : World} {b t : Nat} {x y : α} {cs ds : List Value} (h : W.heap[b]? = some (.cells (cs ++ ds).toArray t (0, 0))) (hK : d.K W x cs) (hL : d.K W y ds) : d.C W (some ⟨b, 0, none⟩) [x, y].length [x, y] :=
  ⟨rfl, by simp, fun _ => ⟨_, rfl, fun j p hj => by
    match j, hj with
    | 0, hj =>
      simp at hj
      subst hj
      refine ⟨cs, d.K_len hK, hK, fun i u hi => ?_⟩
      rw [Nat.zero_mul, Nat.zero_add, add_at, blk_cell h i]
      have hlt := (List.getElem?_eq_some_iff.1 hi).1
      rw [List.getElem?_toArray, List.getElem?_append_left hlt]
      exact hi
    | 1, hj =>
      simp at hj
      subst hj
      refine ⟨ds, d.K_len hL, hL, fun i u hi => ?_⟩
      rw [Nat.one_mul, add_at, blk_cell h _, List.getElem?_toArray, ← d.K_len hK, List.getElem?_append_right (Nat.le_add_right _ _), Nat.add_sub_cancel_left]
      exact hi
    | j + 2, hj => simp at hj⟩⟩
def chT : List S41 := [⟨1, 0, 0, []⟩, ⟨3, 0, 0, []⟩]
def chF : List S31 := [⟨1, [⟨[⟨1, 0, 0, 0, 5, [], []⟩], ⟨1, 0, 1, 0⟩⟩, ⟨[⟨4, 0, 0, 0, 0, [], []⟩], ⟨3, 1, 0, 0⟩⟩]⟩]
def ChEnd (w : World) (e : Ending) (w' : World) : Prop := ∃ A0 c0 A1 c1, e = .returned (.agg #[.slice A0 chT.length c0, .slice A1 chF.length c1]) ∧ chT.length ≤ c0 ∧ chF.length ≤ c1 ∧ k41.C w' A0 chT.length chT ∧ k31.C w' A1 chF.length chF ∧ Below w.heap.size w w'
theorem push8 (w : World) (o0 o1 o2 o3 o4 o5 o6 o7 : Obj) : let W := (((((((w.alloc o0).alloc o1).alloc o2).alloc o3).alloc o4).alloc o5).alloc o6).alloc o7
    W.heap[w.heap.size]? = some o0 ∧ W.heap[w.heap.size + 1]? = some o1 ∧ W.heap[w.heap.size + 1 + 1 + 1]? = some o3 ∧ W.heap[w.heap.size + 1 + 1 + 1 + 1 + 1]? = some o5 ∧ W.heap[w.heap.size + 1 + 1 + 1 + 1 + 1 + 1]? = some o6 ∧ W.heap[w.heap.size + 1 + 1 + 1 + 1 + 1 + 1 + 1]? = some o7 := by
  intro W
  simp only [W, World.alloc]
  refine ⟨?_, ?_, ?_, ?_, ?_, ?_⟩ <;> (simp only [Array.getElem?_push, Array.size_push]; repeat (first | rw [if_pos (by omega)] | rw [if_neg (by omega)] | rw [if_pos trivial]))
theorem chap_C {W : World} {n : Nat} (h1 : W.heap[n + 1]? = some (.cells #[.int .u8 1, .int .i64 0, .int .i64 0, .int .i64 0, .int .i64 5, .slice none 0 0, .slice none 0 0] 39 (0, 0))) (h3 : W.heap[n + 1 + 1 + 1]? = some (.cells #[.int .u8 4, .int .i64 0, .int .i64 0, .int .i64 0, .int .i64 0, .slice none 0 0, .slice none 0 0] 39 (0, 0)))
    (h5 : W.heap[n + 1 + 1 + 1 + 1 + 1]? = some (.cells #[.int .u8 1, .int .i64 0, .int .i64 0, .slice none 0 0, .int .u8 3, .int .i64 0, .int .i64 0, .slice none 0 0] 41 (0, 0))) (h6 : W.heap[n + 1 + 1 + 1 + 1 + 1 + 1]? = some (.cells #[.slice (some ⟨n + 1, 0, none⟩) 1 1, .int .u8 1, .int .i64 0, .int .i64 1, .int .i64 0, .slice (some ⟨n + 1 + 1 + 1, 0, none⟩) 1 1, .int .u8 3, .int .i64 1, .int .i64 0, .int .i64 0] 36 (0, 0)))
    (h7 : W.heap[n + 1 + 1 + 1 + 1 + 1 + 1 + 1]? = some (.cells #[.int .i64 1, .slice (some ⟨n + 1 + 1 + 1 + 1 + 1 + 1, 0, none⟩) 2 2] 31 (0, 0))) :
    k41.C W (some ⟨n + 1 + 1 + 1 + 1 + 1, 0, none⟩) chT.length chT ∧ k31.C W (some ⟨n + 1 + 1 + 1 + 1 + 1 + 1 + 1, 0, none⟩) chF.length chF := by
  refine ⟨?_, ?_⟩
  · exact row2 k41 (x := ⟨1, 0, 0, []⟩) (y := ⟨3, 0, 0, []⟩) (cs := [_, _, _, _]) (ds := [_, _, _, _]) h5 (k41_mk W ⟨1, 0, 0, []⟩ (Nat.le_refl 0) (Kd.C_nil _ _)) (k41_mk W ⟨3, 0, 0, []⟩ (Nat.le_refl 0) (Kd.C_nil _ _))
  · have i1 := row1 k39 (x := ⟨1, 0, 0, 0, 5, [], []⟩) (cs := [_, _, _, _, _, _, _]) h1 (k39_mk W ⟨1, 0, 0, 0, 5, [], []⟩ (Nat.le_refl 0) (Kd.C_nil _ _) (Nat.le_refl 0) (Kd.C_nil _ _))
    have i2 := row1 k39 (x := ⟨4, 0, 0, 0, 0, [], []⟩) (cs := [_, _, _, _, _, _, _]) h3 (k39_mk W ⟨4, 0, 0, 0, 0, [], []⟩ (Nat.le_refl 0) (Kd.C_nil _ _) (Nat.le_refl 0) (Kd.C_nil _ _))
    have b1 := row2 k36 (x := ⟨[⟨1, 0, 0, 0, 5, [], []⟩], ⟨1, 0, 1, 0⟩⟩) (y := ⟨[⟨4, 0, 0, 0, 0, [], []⟩], ⟨3, 1, 0, 0⟩⟩) (cs := [_, _, _, _, _]) (ds := [_, _, _, _, _]) h6 (k36_mk W ⟨[⟨1, 0, 0, 0, 5, [], []⟩], ⟨1, 0, 1, 0⟩⟩ (Nat.le_refl 1) i1) (k36_mk W ⟨[⟨4, 0, 0, 0, 0, [], []⟩], ⟨3, 1, 0, 0⟩⟩ (Nat.le_refl 1) i2)
    exact row1 k31 (x := ⟨1, _⟩) (cs := [_, _]) h7 (k31_mk W ⟨1, _⟩ (Nat.le_refl 2) b1)
set_option maxHeartbeats 1600000 in
set_option maxRecDepth 100000 in
theorem chap_call (w : World) : Calls Tryd.prog 18 #[] w (ChEnd w) := by
  have HP := Lib.hid (push8 w)
  go_enter Tryd.func18, Tryd.ntmps18
  go_wp2
  refine bodyPost_ret (results_cell_row rfl _ _ w.heap.size 25 _ (0, 0) _ rfl (HP.out _ _ _ _ _ _ _ _).1 Tryd.underlying25 rfl (by kernel_rfl)) rfl ⟨_, 2, _, 1, rfl, by decide, by decide, ?_, ?_, ?_⟩
  · exact (chap_C (HP.out _ _ _ _ _ _ _ _).2.1 (HP.out _ _ _ _ _ _ _ _).2.2.1 (HP.out _ _ _ _ _ _ _ _).2.2.2.1 (HP.out _ _ _ _ _ _ _ _).2.2.2.2.1 (HP.out _ _ _ _ _ _ _ _).2.2.2.2.2).1
  · exact (chap_C (HP.out _ _ _ _ _ _ _ _).2.1 (HP.out _ _ _ _ _ _ _ _).2.2.1 (HP.out _ _ _ _ _ _ _ _).2.2.2.1 (HP.out _ _ _ _ _ _ _ _).2.2.2.2.1 (HP.out _ _ _ _ _ _ _ _).2.2.2.2.2).2
  · repeat (first | exact Below.refl _ _ | apply below_alloc)
end Go.Proofs.YtlghkomipboflaaDoor.Sh
end
section
namespace Go.Proofs.YtlghkomipboflaaDoor.X
open Go.RowKit Go.Proofs.YtlghkomipboflaaDoor Go.Proofs.YtlghkomipboflaaDoor.Sh Go.Proofs.YtlghkomipboflaaDoorW.PrintWords Go.Proofs.YtlghkomipboflaaDoorW.PrintLast Go.Proofs.YtlghkomipboflaaDoorW.PrintMore
set_option linter.unusedVariables false
set_option linter.unusedSimpArgs false
def tx0 : ByteArray := ⟨#[116, 121, 112, 101, 32, 105, 110, 116, 10, 116, 121, 112, 101, 32, 102, 110, 32, 116, 48, 10, 102, 117, 110, 99, 32, 116, 49, 10, 98, 108, 111, 99, 107, 10, 114, 48, 32, 116, 48, 32, 61, 32, 105, 110, 116, 32, 53, 10, 106, 117, 109, 112, 32, 98, 49, 10, 98, 108, 111, 99, 107, 10]⟩
abbrev la1 : ByteArray := ⟨#[114, 49, 32, 116, 48, 32, 61, 32, 97, 100, 100, 32, 114, 48, 32, 114, 48, 10, 114, 101, 116, 117, 114, 110, 32, 114, 49, 10]⟩
abbrev la2 : ByteArray := ⟨#[114, 50, 32, 116, 48, 32, 61, 32, 97, 100, 100, 32, 114, 48, 32, 114, 48, 10, 114, 101, 116, 117, 114, 110, 32, 114, 49, 10]⟩
abbrev la3 : ByteArray := ⟨#[114, 49, 32, 116, 48, 32, 61, 32, 97, 100, 100, 32, 114, 48, 32, 114, 48, 10]⟩
theorem read1 : read_Read.f (tx0 ++ la1) = some (chT, chF, 0) := by kernel_rfl
theorem odd2_ : fescuelaw07_odd.f (tx0 ++ la2) 70 = some true := by kernel_rfl
theorem odd3_ : fescuelaw07_odd.f (tx0 ++ la3) 70 = some true := by kernel_rfl
theorem same1 : fescueref06_Same.f 20 chT chF chT chF = some true := by kernel_rfl
theorem text_any (s : ByteArray) (hs : s.size ≤ 1000000) (w : World) : Calls Tryd.prog 9 #[.string s] w fun e w' => e = .returned (.string (tx0 ++ s)) ∧ Below w.heap.size w w' :=
  (fescuelaw07_text.calls s _ w (by unfold fescuelaw07_text.f; rw [if_pos (by omega)]; rfl)).mono fun e w' ⟨he, hb⟩ => ⟨he, hb.below⟩
structure Px (V : World) (o : Obj) (W : World) : Prop where
  below : Below V.heap.size V W
  blk : W.heap[V.heap.size]? = some o
theorem Px.later {V W W1 : World} {o : Obj} (h : Px V o W) (hb : Below W.heap.size W W1) : Px V o W1 :=
  ⟨h.below.trans (hb.mono h.below.size), by rw [hb.block _ (blk_lt h.blk)]; exact h.blk⟩
theorem Px.start (V : World) (o : Obj) : Px V o (V.alloc o) := ⟨below_alloc (Below.refl _ _) _, heap_alloc_new V o⟩
set_option maxHeartbeats 6400000 in
set_option maxRecDepth 100000 in
theorem alive_call (w : World) (hsh : ShTab w) : Calls Tryd.prog 10 #[] w fun e w' => e = .returned (.bool true) ∧ Below w.heap.size w w' := by
  have HT1 := Lib.hid (fun W => text_any la1 (by decide) W)
  have HT2 := Lib.hid (fun W => text_any la2 (by decide) W)
  have HT3 := Lib.hid (fun W => text_any la3 (by decide) W)
  have HRD := Lib.hid (fun W (hb : Below w.heap.size w W) => read_Read.calls (tx0 ++ la1) chT chF 0 W read1 (hsh.below hb))
  have HO2 := Lib.hid (fun W (hb : Below w.heap.size w W) => fescuelaw07_odd.calls (tx0 ++ la2) 70 true W odd2_ (hsh.below hb))
  have HO3 := Lib.hid (fun W (hb : Below w.heap.size w W) => fescuelaw07_odd.calls (tx0 ++ la3) 70 true W odd3_ (hsh.below hb))
  generalize tx0 ++ la1 = s1 at *
  generalize tx0 ++ la2 = s2 at *
  generalize tx0 ++ la3 = s3 at *
  clear hsh
  go_enter Tryd.func10, Tryd.ntmps10
  go_wp2_with (first
    | (go_at_call 9; refine (HT1.out _).mono ?_; rintro e W1 ⟨rfl, hb⟩; have HB1 := Lib.hid hb; clear hb)
    | (go_at_call 7; refine (HRD.out _ HB1.out).mono ?_; rintro e V ⟨v0, v1, rfl, hS, hR, hb⟩; obtain ⟨A0, c0, rfl⟩ := Kd.S_slice hS; obtain ⟨A1, c1, rfl⟩ := Kd.R_slice hR; have HS := Lib.hid (Kd.S_reads' hS); have HR := Lib.hid (Kd.R_reads' hR); have HBV := Lib.hid (HB1.out.trans (hb.mono HB1.out.size)); clear hb hS hR))
  have HP := Lib.hid (Px.start V (.cells #[.slice A0 chT.length c0, .slice A1 chF.length c1] 25))
  have HSS : Hid (∀ w', Px V (.cells #[.slice A0 chT.length c0, .slice A1 chF.length c1] 25) w' → Px V (.cells #[.slice A0 chT.length c0, .slice A1 chF.length c1] 25) w' ∧ w'.cell? ⟨V.heap.size, 0, none⟩ = some (.slice A0 chT.length c0) ∧ w'.cell? ⟨V.heap.size, 1, none⟩ = some (.slice A1 chF.length c1)) := Lib.hid (fun w' h => ⟨h, (blk_cell h.blk 0).trans rfl, (blk_cell h.blk 1).trans rfl⟩)
  have HSM : Hid (∀ (W : World) (B0 : Option Addr) (d0 : Nat) (B1 : Option Addr) (d1 : Nat), Below V.heap.size V W → chT.length ≤ d0 → chF.length ≤ d1 → k41.C W B0 chT.length chT → k31.C W B1 chF.length chF → Calls Tryd.prog 13 #[.agg #[.slice A0 chT.length c0, .slice A1 chF.length c1], .agg #[.slice B0 chT.length d0, .slice B1 chF.length d1]] W fun e w' => e = .returned (.bool true) ∧ Below W.heap.size W w') := Lib.hid (fun W B0 d0 B1 d1 hb h1 h2 h3 h4 => fescueref06_Same.calls 20 A0 c0 chT A1 c1 chF B0 d0 chT B1 d1 chF true W (Kd.C_below HS.out.2.2 hb) HS.out.2.1 (Kd.C_below HR.out.2.2 hb) HR.out.2.1 h3 h1 h4 h2 same1)
  go_region_held3 (fun w' => Px V (.cells #[.slice A0 chT.length c0, .slice A1 chF.length c1] 25) w' ∧ w'.cell? ⟨V.heap.size, 0, none⟩ = some (.slice A0 chT.length c0) ∧ w'.cell? ⟨V.heap.size, 1, none⟩ = some (.slice A1 chF.length c1))
    (first
      | exact HSS.out _ HP.out
      | exact HSS.out _ (HP.out.later (below_drew (Below.refl _ _))))
    (first
      | (go_at_call 18; refine (chap_call _).mono ?_; rintro e W5 ⟨B0, d0, B1, d1, rfl, l0, l1, g0, g1, hb⟩; have HG := Lib.hid (And.intro l0 (And.intro l1 (And.intro g0 g1))); have hp := (HP.out.later (by repeat (first | exact Below.refl _ _ | apply below_alloc | apply pw_below_drewN | apply below_drew1))).later hb; clear HP; have HP := Lib.hid hp; clear hp; clear hb l0 l1 g0 g1)
      | (go_at_call 13; refine (HSM.out _ _ _ _ _ HP.out.below HG.out.1 HG.out.2.1 HG.out.2.2.1 HG.out.2.2.2).mono ?_; rintro e W6 ⟨rfl, hb⟩; have hp := (HP.out.later (by repeat (first | exact Below.refl _ _ | apply below_alloc | apply pw_below_drewN | apply below_drew1))).later hb; clear HP; have HP := Lib.hid hp; clear hp; clear hb)
      | (go_at_call 9; (with_reducible refine (HT2.out _).mono ?_); rintro e W7 ⟨rfl, hb⟩; have hp := (HP.out.later (by repeat (first | exact Below.refl _ _ | apply below_alloc | apply pw_below_drewN | apply below_drew1))).later hb; clear HP; have HP := Lib.hid hp; clear hp; clear hb)
      | (go_at_call 9; (with_reducible refine (HT3.out _).mono ?_); rintro e W7 ⟨rfl, hb⟩; have hp := (HP.out.later (by repeat (first | exact Below.refl _ _ | apply below_alloc | apply pw_below_drewN | apply below_drew1))).later hb; clear HP; have HP := Lib.hid hp; clear hp; clear hb)
      | (go_at_call 8; (with_reducible refine (HO2.out _ (HBV.out.trans (HP.out.below.mono HBV.out.size))).mono ?_); rintro e W8 ⟨rfl, hb⟩; have hp := (HP.out.later (by repeat (first | exact Below.refl _ _ | apply below_alloc | apply pw_below_drewN | apply below_drew1))).later hb; clear HP; have HP := Lib.hid hp; clear hp; clear hb)
      | (go_at_call 8; (with_reducible refine (HO3.out _ (HBV.out.trans (HP.out.below.mono HBV.out.size))).mono ?_); rintro e W8 ⟨rfl, hb⟩; have hp := (HP.out.later (by repeat (first | exact Below.refl _ _ | apply below_alloc | apply pw_below_drewN | apply below_drew1))).later hb; clear HP; have HP := Lib.hid hp; clear hp; clear hb))
  go_wp2
  go_ret
  exact ⟨rfl, HBV.out.trans (HP.out.below.mono HBV.out.size)⟩
def fescuelaw07_alive.f : Option Bool := some true
theorem fescuelaw07_alive.calls (r : Bool) (w : World) (h : fescuelaw07_alive.f = some r) (hsh : ShTab w) : Calls Tryd.prog 10 #[] w fun e w' => e = .returned (.bool r) ∧ Below w.heap.size w w' := by
  cases h
  exact alive_call w hsh
end Go.Proofs.YtlghkomipboflaaDoor.X
end
section
namespace Go.Proofs.YtlghkomipboflaaDoor.Rd
open Go.RowKit Go.Proofs.YtlghkomipboflaaDoor Go.Proofs.YtlghkomipboflaaDoor.X Go.Proofs.YtlghkomipboflaaDoor.Sh Go.Proofs.YtlghkomipboflaaDoorW.PrintWords Go.Proofs.YtlghkomipboflaaDoorW.PrintLast Go.Proofs.YtlghkomipboflaaDoorW.PrintMore
set_option linter.unusedVariables false
set_option linter.unusedSimpArgs false
def cntB (bs : List Bk) : Nat := (bs.map fun b => b.f0.length + 2).sum
def cntF (fs : List Fn) : Nat := (fs.map fun f => cntB f.f1 + 1).sum
theorem cntB_snoc (bs : List Bk) (b : Bk) : cntB (bs ++ [b]) = cntB bs + (b.f0.length + 2) := by simp [cntB]
theorem cntF_snoc (fs : List Fn) (f : Fn) : cntF (fs ++ [f]) = cntF fs + (cntB f.f1 + 1) := by simp [cntF]
def opIn (x : In) : Prop := 0 < x.f0 ∧ x.f0 ≤ 22
theorem insF_op {reg : Int} {ws r : List ByteArray} {x : In} (h : insF reg ws = some (x, r)) : opIn x := by
  unfold insF at h
  obtain ⟨hd, _, h⟩ := Option.bind_eq_some_iff.1 h
  obtain ⟨o, ho, h⟩ := Option.bind_eq_some_iff.1 h
  obtain ⟨g, _, h⟩ := Option.bind_eq_some_iff.1 h
  obtain ⟨n, _, h⟩ := Option.bind_eq_some_iff.1 h
  obtain ⟨t, _, e⟩ := Option.map_eq_some_iff.1 h
  cases e
  cases hw : hd.2 with
  | nil => rw [hw] at ho; cases ho
  | cons y l =>
    rw [hw, opF_cons] at ho
    split at ho
    · rename_i hc
      cases ho
      have h2 := idxFrom_le y opsB 0 (by omega)
      rw [opsB_len] at h2
      exact ⟨hc.1, by show idxF y ≤ 22; unfold idxF; omega⟩
    · cases ho
theorem blkF_cnt (reg : Int) : ∀ (ls : List (List ByteArray)) (xs : List In) (b : Bk) (r : List (List ByteArray)), (∀ x ∈ xs, opIn x) → blkF reg ls xs = some (b, r) → b.f0.length + 1 + r.length = xs.length + ls.length ∧ ∀ x ∈ b.f0, opIn x
  | [], _, _, _, _, h => by cases h
  | l :: ls, xs, b, r, hx, h => by
    have e : blkF reg (l :: ls) xs = if isEnd (l.headD ⟨#[]⟩) then (endF l).bind fun p => if p.2 = [] then some (⟨xs, p.1⟩, ls) else none
     else (insF (reg + (xs.length : Int)) l).bind fun p => if p.2 = [] then blkF reg ls (xs ++ [p.1]) else none := rfl
    rw [e] at h
    split at h
    · obtain ⟨p, _, h⟩ := Option.bind_eq_some_iff.1 h
      split at h
      · cases h; exact ⟨by simp; omega, hx⟩
      · cases h
    · obtain ⟨⟨x, r0⟩, hi, h⟩ := Option.bind_eq_some_iff.1 h
      split at h
      · obtain ⟨a, c⟩ := blkF_cnt reg ls _ b r (by
          intro y hy
          rcases List.mem_append.1 hy with hy | hy
          · exact hx y hy
          · rw [List.mem_singleton.1 hy]; exact insF_op hi) h
        exact ⟨by simp at a ⊢; omega, c⟩
      · cases h
theorem blksF_cnt : ∀ (k : Nat) (reg : Int) (ls : List (List ByteArray)) (bs bs1 : List Bk) (r : List (List ByteArray)), (∀ b ∈ bs, ∀ x ∈ b.f0, opIn x) → blksF k reg ls bs = some (bs1, r) → cntB bs1 + r.length = cntB bs + ls.length ∧ ∀ b ∈ bs1, ∀ x ∈ b.f0, opIn x
  | 0, _, _, _, _, _, _, h => by cases h
  | k + 1, reg, [], bs, bs1, r, hx, h => by
    have e : blksF (k + 1) reg [] bs = some (bs, []) := rfl
    rw [e] at h
    cases h
    exact ⟨rfl, hx⟩
  | k + 1, reg, l :: ls, bs, bs1, r, hx, h => by
    have e : blksF (k + 1) reg (l :: ls) bs = if isBlk (l.headD ⟨#[]⟩) then (if l.length = 1 then (blkF reg ls []).bind fun q => blksF k (reg + (q.1.f0.length : Int)) q.2 (bs ++ [q.1]) else none) else some (bs, l :: ls) := rfl
    rw [e] at h
    split at h
    · split at h
      · obtain ⟨⟨b, r2⟩, hb, h⟩ := Option.bind_eq_some_iff.1 h
        obtain ⟨a, c⟩ := blkF_cnt reg ls [] b r2 (fun _ h => by cases h) hb
        obtain ⟨a2, c2⟩ := blksF_cnt k _ _ _ bs1 r (by
          intro y hy
          rcases List.mem_append.1 hy with hy | hy
          · exact hx y hy
          · rw [List.mem_singleton.1 hy]; exact c) h
        rw [cntB_snoc] at a2
        simp only at a2
        exact ⟨by simp at a ⊢; omega, c2⟩
      · cases h
    · cases h
      exact ⟨rfl, hx⟩
theorem fnF_cnt {ts : List Tp} {ws : List ByteArray} {ls r : List (List ByteArray)} {f : Fn} (h : fnF ts ws ls = some (f, r)) : cntB f.f1 + r.length = ls.length ∧ ∀ b ∈ f.f1, ∀ x ∈ b.f0, opIn x := by
  unfold fnF at h
  obtain ⟨p, _, h⟩ := Option.bind_eq_some_iff.1 h
  split at h
  · obtain ⟨⟨bs, r1⟩, hb, e⟩ := Option.map_eq_some_iff.1 h
    cases e
    obtain ⟨a, c⟩ := blksF_cnt _ _ _ [] bs _ (fun _ h => by cases h) hb
    exact ⟨by simpa [cntB] using a, c⟩
  · cases h
theorem funcsF_cnt (ts : List Tp) : ∀ (k : Nat) (ls : List (List ByteArray)) (fs fs1 : List Fn), (∀ f ∈ fs, ∀ b ∈ f.f1, ∀ x ∈ b.f0, opIn x) → funcsF ts k ls fs = some fs1 → cntF fs1 = cntF fs + ls.length ∧ ∀ f ∈ fs1, ∀ b ∈ f.f1, ∀ x ∈ b.f0, opIn x
  | 0, _, _, _, _, h => by cases h
  | k + 1, [], fs, fs1, hx, h => by
    have e : funcsF ts (k + 1) [] fs = some fs := rfl
    rw [e] at h
    cases h
    exact ⟨rfl, hx⟩
  | k + 1, l :: ls, fs, fs1, hx, h => by
    have e : funcsF ts (k + 1) (l :: ls) fs = if isFun (l.headD ⟨#[]⟩) then (fnF ts l.tail ls).bind fun q => funcsF ts k q.2 (fs ++ [q.1]) else none := rfl
    rw [e] at h
    split at h
    · obtain ⟨⟨f, r⟩, hf, h⟩ := Option.bind_eq_some_iff.1 h
      obtain ⟨a, c⟩ := fnF_cnt hf
      obtain ⟨a2, c2⟩ := funcsF_cnt ts k _ _ fs1 (by
        intro y hy
        rcases List.mem_append.1 hy with hy | hy
        · exact hx y hy
        · rw [List.mem_singleton.1 hy]; exact c) h
      rw [cntF_snoc] at a2
      simp only at a2
      exact ⟨by simp; omega, c2⟩
    · cases h
theorem typesF_cnt : ∀ (ls : List (List ByteArray)) (ts ts1 : List Tp) (r : List (List ByteArray)), typesF ls ts = some (ts1, r) → ts1.length + r.length = ts.length + ls.length
  | [], ts, ts1, r, h => by cases h; rfl
  | l :: ls, ts, ts1, r, h => by
    have e : typesF (l :: ls) ts = if isTyp (l.headD ⟨#[]⟩) then (kindF l.tail).bind fun p => if p.2 = [] then typesF ls (ts ++ [p.1]) else none else some (ts, l :: ls) := rfl
    rw [e] at h
    split at h
    · obtain ⟨⟨t, r0⟩, hk, h⟩ := Option.bind_eq_some_iff.1 h
      split at h
      · have := typesF_cnt ls _ ts1 r h
        simp at this ⊢
        omega
      · cases h
    · cases h; rfl
theorem progF_cnt {ls : List (List ByteArray)} {ts : List Tp} {fs : List Fn} (hf : Fine ls) (h : progF ls = some (ts, fs)) : ts.length + cntF fs = ls.length ∧ (∀ f ∈ fs, ∀ b ∈ f.f1, ∀ x ∈ b.f0, opIn x) ∧ ∀ t ∈ ts, t.f3.length ≤ 1000000 := by
  unfold progF at h
  obtain ⟨⟨ts1, ls1⟩, ht, h⟩ := Option.bind_eq_some_iff.1 h
  obtain ⟨fs1, hfs, e⟩ := Option.map_eq_some_iff.1 h
  cases e
  have a := typesF_cnt ls [] _ ls1 ht
  obtain ⟨b, c⟩ := funcsF_cnt _ _ ls1 [] _ (fun _ h => by cases h) hfs
  exact ⟨by have c0 : cntF [] = 0 := rfl; rw [c0] at b; simp at a b ⊢; omega, c, typesF_parts ls [] _ ls1 hf (fun _ h => by cases h) ht⟩
theorem opsOk_of {fs : List Fn} (h : ∀ f ∈ fs, ∀ b ∈ f.f1, ∀ x ∈ b.f0, opIn x) : opsOk fs = true := by
  unfold opsOk
  rw [List.all_eq_true]; intro f hf
  rw [List.all_eq_true]; intro b hb
  rw [List.all_eq_true]; intro x hx
  obtain ⟨h1, h2⟩ := h f hf b hb x hx
  simp; omega
theorem typesC_l0 (ts : List Tp) (hp : ∀ t ∈ ts, t.f3.length ≤ 1000000) (hl : ts.length ≤ 16) : ∀ (d k : Nat) (sz : List Int) (i : Nat), sz.length = i → i + d = ts.length → d < k → ∃ e, types_Check.l0 k ts sz (ts.length : Int) (i : Int) = some e := by
  intro d
  induction d with
  | zero =>
    intro k sz i hs hd hk
    obtain ⟨k, rfl⟩ : ∃ m, k = m + 1 := ⟨k - 1, by omega⟩
    simp only [types_Check.l0]
    rw [if_neg (by omega)]
    exact ⟨_, rfl⟩
  | succ d ih =>
    intro k sz i hs hd hk
    obtain ⟨k, rfl⟩ : ∃ m, k = m + 1 := ⟨k - 1, by omega⟩
    simp only [types_Check.l0]
    rw [if_pos (by omega)]
    have hm : ∃ r, types_may.f ts (i : Int) sz = some r := by
      unfold types_may.f
      rw [if_pos ⟨by omega, by omega, by omega, by
        unfold rd_T41
        rw [List.getD_eq_getElem?_getD, Int.toNat_natCast, List.getElem?_eq_getElem (by omega)]
        exact hp _ (List.getElem_mem _)⟩]
      exact ⟨_, rfl⟩
    obtain ⟨r, hr⟩ := hm
    rw [hr, Option.bind_some]
    split
    · rw [if_pos (by omega), show wrap64 ((i : Int) + 1) = ((i + 1 : Nat) : Int) by unfold wrap64; omega]
      exact ih k (sz ++ [r.1]) (i + 1) (by simp; omega) (by omega) (by omega)
    · exact ⟨_, rfl⟩
theorem typesC_some (ts : List Tp) (hp : ∀ t ∈ ts, t.f3.length ≤ 1000000) : ∃ e, types_Check.f 20 ts = some e := by
  unfold types_Check.f
  split
  · exact ⟨_, rfl⟩
  · exact typesC_l0 ts hp (by omega) ts.length 20 [] 0 rfl (by omega) (by omega)
theorem shape_some {ts : List Tp} {fs : List Fn} (hp : ∀ t ∈ ts, t.f3.length ≤ 1000000) (ho : opsOk fs = true) : ∃ e, shape_Check.f ts fs = some e := by
  obtain ⟨e, he⟩ := typesC_some ts hp
  unfold shape_Check.f
  rw [he, Option.bind_some]
  split
  · first | exact ⟨_, rfl⟩ | (rw [if_pos ho]; exact ⟨_, rfl⟩)
  · exact ⟨_, rfl⟩
theorem read_cases (s : ByteArray) : (∃ e, e ≠ 0 ∧ read_Read.f s = some ([], [], e)) ∨
    ∃ ts fs, read_Read.f s = some (ts, fs, 0) ∧ (linesP s).2 = 0 ∧ ts.length + cntF fs = (linesP s).1.length ∧ shape_Check.f ts fs = some 0 := by
  unfold read_Read.f
  by_cases h0 : (linesP s).2 = 0
  · rw [if_pos h0]
    cases hp : progF (linesP s).1 with
    | none => exact .inl ⟨70, by omega, rfl⟩
    | some p =>
      obtain ⟨ts, fs⟩ := p
      obtain ⟨a, b, c⟩ := progF_cnt (linesP_fine s) hp
      obtain ⟨e, he⟩ := shape_some c (opsOk_of b)
      by_cases hz : e = 0
      · subst hz
        exact .inr ⟨ts, fs, by simp only [he, Option.bind_some]; rfl, h0, a, he⟩
      · exact .inl ⟨e, hz, by simp only [he, Option.bind_some]; rw [if_neg hz]⟩
  · rw [if_neg h0]
    exact .inl ⟨_, h0, rfl⟩
end Go.Proofs.YtlghkomipboflaaDoor.Rd
end
section
namespace Go.Proofs.YtlghkomipboflaaDoor
open Go.ChangeShapes Go.WideShapes Go.ChangeAt Go.RowKit
set_option linter.unusedVariables false
set_option linter.unusedSimpArgs false
def rowD (r : List Bool) : DataW Unit := .agg (r.map fun b => .lit (.bool b))
theorem tabD : (Rows.laid_fescue_shape_table : DataW Unit) = .agg ((List.range 23).map fun i => rowD (rowB i)) := by kernel_rfl
section
variable {H : Type} {enc : TypeId × Value → H} {P : Program} {w : World} {base : Nat} {sp : Nat → Bool} {held : Bool} {fuel : Nat} {t e tb : TypeId} {n m : Nat} {cs : List Value} {p : List MemPlace}
theorem cells_of_bools {fs : Array Field} {bs : List Bool} (ht : P.underlying t = some (.struct fs)) (hb : P.underlying tb = some .bool) (hcb : P.cellsOf tb = 1) (hct : P.cellsOf t = m) (hm : fs.toList.length = m)
    (hf : ∀ (i : Nat) (f : Field), fs.toList[i]? = some f → f.offset = i ∧ f.type = tb) (h : DataW.trod enc P w base sp held fuel t cs = some (.agg (bs.map fun b => .lit (.bool b)), p)) : cs = bs.map Value.bool := by
  cases fuel with
  | zero => simp [DataW.trod] at h
  | succ fuel =>
    simp only [DataW.trod, ht, hct] at h
    split at h
    · rename_i hl
      obtain ⟨xs, hx, hx2⟩ := Option.map_eq_some_iff.1 h
      have hxs : xs.map (·.1) = bs.map fun b => (DataW.lit (.bool b) : DataW H) := by
        have := congrArg Prod.fst hx2
        simpa using this
      have hxl : xs.length = m := by rw [Lib.mapM_length hx, hm]
      have hbl : bs.length = m := by
        have := congrArg List.length hxs
        simp at this
        omega
      apply List.ext_getElem?
      intro i
      by_cases hi : i < m
      · obtain ⟨b, hb1, hb2⟩ := Lib.mapM_at hx i (fs.toList[i]'(by omega)) (by rw [List.getElem?_eq_getElem])
        obtain ⟨ho, hty⟩ := hf i _ (List.getElem?_eq_getElem (by omega))
        rw [ho, hty, hcb] at hb2
        obtain ⟨z, hc, rfl⟩ := DataW.trod_bool hb hb2
        have h1 : cs[i]? = some (.bool z) := by
          have := congrArg (·[0]?) hc
          simpa [List.getElem?_take, List.getElem?_drop] using this
        have h2 : (xs.map (·.1))[i]? = some (DataW.lit (.bool z) : DataW H) := by simp [hb1]
        rw [hxs] at h2
        simp only [List.getElem?_map, Option.map_eq_some_iff, DataW.lit.injEq, Lit.bool.injEq] at h2
        obtain ⟨z', hz', rfl⟩ := h2
        simp [h1, hz']
      · rw [List.getElem?_eq_none (by omega), List.getElem?_eq_none (by simp; omega)]
    · cases h
theorem cells_of_rows {fs : Array Field} {rows : List (List Bool)} (hr : ∀ r ∈ rows, r.length = m) (ha : P.underlying t = some (.array n e)) (ht : P.underlying e = some (.struct fs)) (hb : P.underlying tb = some .bool) (hcb : P.cellsOf tb = 1) (hce : P.cellsOf e = m) (hct : P.cellsOf t = n * m) (hm : fs.toList.length = m) (hm0 : 0 < m)
    (hf : ∀ (i : Nat) (f : Field), fs.toList[i]? = some f → f.offset = i ∧ f.type = tb) (h : DataW.trod enc P w base sp held fuel t cs = some (.agg (rows.map fun r => .agg (r.map fun b => .lit (.bool b))), p)) : cs = rows.flatten.map Value.bool := by
  cases fuel with
  | zero => simp [DataW.trod] at h
  | succ fuel =>
    simp only [DataW.trod, ha, hce, hct] at h
    split at h
    · rename_i hl
      obtain ⟨xs, hx, hx2⟩ := Option.map_eq_some_iff.1 h
      have hxs : xs.map (·.1) = rows.map fun r => (DataW.agg (r.map fun b => .lit (.bool b)) : DataW H) := by
        have := congrArg Prod.fst hx2
        simpa using this
      have hxl : xs.length = n := by simpa using Lib.mapM_length hx
      have hrl : rows.length = n := by
        have := congrArg List.length hxs
        simp at this
        omega
      have key : ∀ i (hi : i < rows.length), (cs.drop (i * m)).take m = (rows[i]).map Value.bool := by
        intro i hi
        obtain ⟨b, hb1, hb2⟩ := Lib.mapM_at hx i i (List.getElem?_range (by omega))
        have h2 : (xs.map (·.1))[i]? = some b.1 := by simp [hb1]
        rw [hxs] at h2
        simp only [List.getElem?_map, Option.map_eq_some_iff] at h2
        obtain ⟨r, hr1, hr2⟩ := h2
        have hri : rows[i] = r := by rw [List.getElem?_eq_getElem hi] at hr1; exact Option.some.inj hr1
        rw [hri]
        have hb3 : DataW.trod enc P w base sp held fuel e ((cs.drop (i * m)).take m) = some (.agg (r.map fun b => .lit (.bool b)), b.2) := by rw [hb2, hr2]
        exact cells_of_bools ht hb hcb hce hm hf hb3
      have all : ∀ (k : Nat) (l : List Value) (rs : List (List Bool)), (∀ r ∈ rs, r.length = m) → l.length = rs.length * m → (∀ i (hi : i < rs.length), (l.drop (i * m)).take m = (rs[i]).map Value.bool) → rs.length = k → l = rs.flatten.map Value.bool := by
        intro k
        induction k with
        | zero =>
          intro l rs _ hl2 _ hk
          have : rs = [] := List.eq_nil_of_length_eq_zero hk
          subst this
          simpa using hl2
        | succ k ih =>
          intro l rs h1 hl2 h3 hk
          cases rs with
          | nil => simp at hk
          | cons r rs =>
            have h0 := h3 0 (by simp)
            simp only [Nat.zero_mul, List.drop_zero, List.getElem_cons_zero] at h0
            have e1 := ih (l.drop m) rs (fun q hq => h1 q (List.mem_cons_of_mem _ hq)) (by simp at hl2 ⊢; rw [hl2, Nat.succ_mul]; omega) (fun i hi => by
              have := h3 (i + 1) (by simp; omega)
              rw [List.getElem_cons_succ] at this
              rw [List.drop_drop, ← this]
              congr 2
              rw [Nat.succ_mul]; omega) (by simpa using hk)
            have : l = l.take m ++ l.drop m := (List.take_append_drop m l).symm
            rw [this, h0, e1]
            simp
      exact all n cs rows hr (by rw [hl, hrl]) key hrl
    · cases h
end
theorem gShType : (Tryd.prog.globals[0]?).map (·.type) = some 131 := by kernel_rfl
theorem cellsSh : Tryd.prog.cellsOf 131 = 23 * 6 := by kernel_rfl
theorem cellsHas : Tryd.prog.cellsOf 111 = 6 := by kernel_rfl
theorem cellsBool : Tryd.prog.cellsOf 4 = 1 := by kernel_rfl
theorem sh_of_head {W : World} {rest : List (String × DataW Unit)} (h : laidMet Tryd.prog (("fescue/shape.table", Rows.laid_fescue_shape_table) :: rest) W) : ShTab W := by
  obtain ⟨ps, ⟨g', t', cs, fuel, p, q, hg', ht', hvar, hd, _, _⟩, _⟩ := h
  obtain rfl := Option.some.inj (gSh.symm.trans hg')
  obtain rfl := Option.some.inj (gShType.symm.trans ht')
  unfold ShTab
  rw [hvar]
  congr 1
  rw [tabD] at hd
  have hd2 : DataW.trod (fun _ => ()) Tryd.prog W 0 (fun _ => true) false fuel 131 cs.toList = some (.agg (((List.range 23).map rowB).map fun r => .agg (r.map fun b => .lit (.bool b))), p) := by
    rw [List.map_map]; exact hd
  have e := cells_of_rows (m := 6) (tb := 4) (by decide) Tryd.underlying131 Tryd.underlying111 Tryd.underlying4 cellsBool cellsHas cellsSh rfl (by decide) (by
    intro i f hf
    match i, hf with
    | 0, hf => cases hf; exact ⟨rfl, rfl⟩
    | 1, hf => cases hf; exact ⟨rfl, rfl⟩
    | 2, hf => cases hf; exact ⟨rfl, rfl⟩
    | 3, hf => cases hf; exact ⟨rfl, rfl⟩
    | 4, hf => cases hf; exact ⟨rfl, rfl⟩
    | 5, hf => cases hf; exact ⟨rfl, rfl⟩
    | i + 6, hf => cases hf) hd2
  have e2 : cs = cs.toList.toArray := by simp
  rw [e2, e]
  rfl
abbrev oneTab : List (String × DataW Unit) := [("fescue/shape.table", Rows.laid_fescue_shape_table)]
theorem tableS {W : World} (h : laidMetH Tryd.prog oneTab W) : ShTab W := sh_of_head (rest := []) (show laidMet Tryd.prog oneTab W from h)
def valsOf : DataW Unit → List Value
  | .agg l => l.map fun
    | .lit (.int k n) => .int k n
    | .lit (.bool b) => .bool b
    | _ => .bool false
  | _ => []
def vals2 : DataW Unit → List Value
  | .agg l => l.flatMap valsOf
  | _ => []
def fillBy (vs : List Value) : Obj → Obj
  | .cells _ t frozen => .cells vs.toArray t frozen
  | o => o
noncomputable def laidWorld1 (os : Os) : World :=
  { World.holding Tryd.prog os ⟨#[], #[], []⟩ with heap := (World.holding Tryd.prog os ⟨#[], #[], []⟩).heap.modify 0 (fillBy (vals2 Rows.laid_fescue_shape_table)) }
theorem laid_met1 (os : Os) (args : Array Value) : laidMet Tryd.prog oneTab ((laidWorld1 os).forCall (fun _ _ => 0) ⟨#[], args, []⟩).memory :=
  laidMet_of_run' 8 (by kernel_rfl) (by kernel_rfl)
theorem own : ownKnob Tryd.prog.godebug = none := by kernel_rfl
end Go.Proofs.YtlghkomipboflaaDoor
end
section
namespace Go.Proofs.YtlghkomipboflaaDoor
open Go.RowKit Go.Proofs.YtlghkomipboflaaDoorW.PrintWords Go.Proofs.YtlghkomipboflaaDoorW.PrintLast
set_option linter.unusedVariables false
set_option linter.unusedSimpArgs false
def ansL (o : Option (List (List ByteArray))) : List (List ByteArray) × Int := match o with
  | some r => (r, 0)
  | none => ([], 4)
theorem linesP_ans (s : ByteArray) (h : s.size ≤ 16384) : linesP s = ansL (goL (splitL 10 s.data.toList) []) := by
  unfold linesP ansL
  rw [if_neg (by omega), lexF_goL]
  rfl
end Go.Proofs.YtlghkomipboflaaDoor
end
section
namespace Go.Proofs.YtlghkomipboflaaDoor
open Go.RowKit Go.Proofs.YtlghkomipboflaaDoorW.PrintWords Go.Proofs.YtlghkomipboflaaDoorW.PrintLast
set_option linter.unusedVariables false
def G (l : List UInt8) (out : List (List ByteArray)) : Option (List (List ByteArray)) := goL (splitL 10 l) out
theorem splitL_join (c : UInt8) (a b : List UInt8) : splitL c (a ++ c :: b) = splitL c a ++ splitL c b := by
  induction a with
  | nil => rw [List.nil_append, splitL_hit]; rfl
  | cons x t ih =>
    by_cases h : x = c
    · subst h; rw [List.cons_append, splitL_hit, splitL_hit, ih]; rfl
    · rw [List.cons_append, splitL_cons _ _ _ h, splitL_cons _ _ _ h, ih]
      have := splitL_ne c t
      cases hs : splitL c t with
      | nil => exact absurd hs this
      | cons p q => simp [joinHead]
theorem goL_append (p q : List (List UInt8)) : ∀ out, goL (p ++ q) out = (goL p out).bind (goL q) := by
  induction p with
  | nil => intro out; rfl
  | cons h t ih =>
    intro out
    rw [List.cons_append, goL, goL]
    split
    · exact ih _
    · rfl
theorem G_feed (a b : List UInt8) (out) : G (a ++ 10 :: b) out = (G a out).bind (G b) := by
  unfold G; rw [splitL_join, goL_append]
theorem G_nil (out) : G [] out = some out := by simp [G, splitL, goL, wordsL_nil, endL]
inductive Like (z : List UInt8) : List (List UInt8) → List (List UInt8) → Prop
  | nil : Like z [] []
  | same (h : List UInt8) {p q} : Like z p q → Like z (h :: p) (h :: q)
  | more (h : List UInt8) {p q} : Like z p q → Like z (h :: p) ((h ++ z) :: q)
theorem linesP_G (s : ByteArray) (h : s.size ≤ 16384) : linesP s = ansL (G s.data.toList []) := linesP_ans s h
end Go.Proofs.YtlghkomipboflaaDoor
end
