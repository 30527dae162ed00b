/- Texts of this claim, merged (part 3 of 13): Xx14, RdI, RdJ, RdL, RdO, RdQ, RdB. -/
import Derived.Deep.RegionHeld3
import Derived.Deep.AppendLies
import Derived.Deep.RegionLaw
import Derived.Shelf.Lay
import Derived.Test.YtlghkomipboflaaDoorBR1
import Derived.Test.YtlghkomipboflaaDoorBR2
set_option linter.unusedVariables false
set_option linter.unusedSimpArgs false
section
namespace Go.Proofs.YtlghkomipboflaaDoor.X
open Go.RowKit Go.Proofs.YtlghkomipboflaaDoorW.PrintWords Go.Proofs.YtlghkomipboflaaDoorW.PrintLast Go.Proofs.YtlghkomipboflaaDoorW.PrintMore
attribute [local go_sem] max2_int min2_int max_two min_two max_three min_three max_four min_four
set_option linter.unusedVariables false
set_option linter.unusedSimpArgs false
def shape_Uses.j0 : Nat → List Int → Int → Int → Int → Int → Int → List Int → List Int → Bool → Bool → Bool → Bool → Bool → Bool → Option (List Int)
  | 0, _, _, _, _, _, _, _, _, _, _, _, _, _, _ => none
  | k + 1, x2, x273000, x273001, x273002, x273003, x273004, x273005, x273006, x280000, x280001, x280002, x280003, x280004, x280005 => if x280001 = true then (if x2.length < 17592186044416 then ((some (x2 ++ [x273003] : List Int)).bind fun y283 => (if x280003 = true then (if y283.length + x273005.length < 17592186044416 then (some (y283 ++ x273005)) else (none)) else (some y283))) else (none)) else (if x280003 = true then (if x2.length + x273005.length < 17592186044416 then (some (x2 ++ x273005)) else (none)) else (some x2))
def shape_Uses.f (k : Nat) (a0_0 : Int) (a0_1 : Int) (a0_2 : Int) (a0_3 : Int) (a0_4 : Int) (l0_5 : List Int) (l0_6 : List Int) : Option (List Int) := (shape_of.f a0_0).bind fun bt273 => (if bt273.1 = true then (if ([] : List Int).length < 17592186044416 then (shape_Uses.j0 k (([] : List Int) ++ [a0_2]) a0_0 a0_1 a0_2 a0_3 a0_4 l0_5 l0_6 bt273.1 bt273.2.1 bt273.2.2.1 bt273.2.2.2.1 bt273.2.2.2.2.1 bt273.2.2.2.2.2) else (none)) else (shape_Uses.j0 k ([] : List Int) a0_0 a0_1 a0_2 a0_3 a0_4 l0_5 l0_6 bt273.1 bt273.2.1 bt273.2.2.1 bt273.2.2.2.1 bt273.2.2.2.2.1 bt273.2.2.2.2.2))
set_option maxHeartbeats 8000000 in
set_option maxRecDepth 100000 in
theorem shape_Uses.calls (k : Nat) (a0_0 : Int) (a0_1 : Int) (a0_2 : Int) (a0_3 : Int) (a0_4 : Int) (A0_5 : Option Addr) (c0_5 : Nat) (l0_5 : List Int) (A0_6 : Option Addr) (c0_6 : Nat) (l0_6 : List Int) (r : List Int) (w : World) (hr0_5 : Kd.C (Kd.int .i64) w A0_5 l0_5.length l0_5) (hc0_5 : l0_5.length ≤ c0_5) (hr0_6 : Kd.C (Kd.int .i64) w A0_6 l0_6.length l0_6) (hc0_6 : l0_6.length ≤ c0_6) (h : shape_Uses.f k a0_0 a0_1 a0_2 a0_3 a0_4 l0_5 l0_6 = some r) (HTS0 : ShTab w) :
    Calls Tryd.prog 89 #[.agg #[.int .u8 a0_0, .int .i64 a0_1, .int .i64 a0_2, .int .i64 a0_3, .int .i64 a0_4, .slice A0_5 l0_5.length c0_5, .slice A0_6 l0_6.length c0_6]] w fun e w' => ∃ v0_ : Value, e = .returned (v0_) ∧ Kd.R (Kd.int .i64) 3 w' w.heap.size (fun _ => True) v0_ r ∧ Below w.heap.size w w' := by
  have HTS := Aside0.mk HTS0
  clear HTS0
  have hu39 := Tryd.underlying39
  have hu111 := Tryd.underlying111
  have HR0_5 := Aside0.mk hr0_5
  have HC0_5 := Aside0.mk hc0_5
  clear hr0_5 hc0_5
  have HR0_6 := Aside0.mk hr0_6
  have HC0_6 := Aside0.mk hc0_6
  clear hr0_6 hc0_6
  have HB := Aside0.mk (Below.refl w.heap.size w)
  have H : ((shape_of.f a0_0).bind fun bt273 => (if bt273.1 = true then (if ([] : List Int).length < 17592186044416 then (shape_Uses.j0 k (([] : List Int) ++ [a0_2]) a0_0 a0_1 a0_2 a0_3 a0_4 l0_5 l0_6 bt273.1 bt273.2.1 bt273.2.2.1 bt273.2.2.2.1 bt273.2.2.2.2.1 bt273.2.2.2.2.2) else (none)) else (shape_Uses.j0 k ([] : List Int) a0_0 a0_1 a0_2 a0_3 a0_4 l0_5 l0_6 bt273.1 bt273.2.1 bt273.2.2.1 bt273.2.2.2.1 bt273.2.2.2.2.1 bt273.2.2.2.2.2))) = some r := h
  clear h
  replace H := Option.bind_eq_some_iff.mp H
  obtain ⟨⟨t273, t274, t275, t276, t277, t278⟩, A20, H⟩ := H
  replace H : (if t273 = true then (if ([] : List Int).length < 17592186044416 then (shape_Uses.j0 k (([] : List Int) ++ [a0_2]) a0_0 a0_1 a0_2 a0_3 a0_4 l0_5 l0_6 t273 t274 t275 t276 t277 t278) else (none)) else (shape_Uses.j0 k ([] : List Int) a0_0 a0_1 a0_2 a0_3 a0_4 l0_5 l0_6 t273 t274 t275 t276 t277 t278)) = some r := H
  have A2 := Aside0.mk A20
  clear A20
  have HC3 := Aside0.mk H
  clear H
  go_enter Tryd.func89, Tryd.ntmps89
  go_upto_if 8 with (first | ((with_reducible refine gate_dst (N := 1) rfl ?_); refine box_event ?hg (N := 1) ?hd (cs := #[.int .u8 a0_0, .int .i64 a0_1, .int .i64 a0_2, .int .i64 a0_3, .int .i64 a0_4, .slice A0_5 l0_5.length c0_5, .slice A0_6 l0_6.length c0_6]) (t := 39) ?hr ?_; (case hd => rfl); (case hg => rfl); (case hr => first | (go_simp; done) | (go_simp; rfl)); intro gb272 hg w4 hbox hb; have n0_ := Aside0.mk (below_step (by repeat (first | (with_reducible first | exact HB.out | apply below_alloc | apply pw_below_drewN | apply below_drew1) | exact HB.out)) hb); have n1_ := Aside0.mk (hbox); have n2_ := Aside0.mk ((by rw [hg]; exact (below_size (by repeat (first | (with_reducible first | exact HB.out | apply below_alloc | apply pw_below_drewN | apply below_drew1) | exact HB.out))) : w.heap.size ≤ gb272)); have n3_ := Aside0.mk ((by rw [hg]; exact (below_size (by repeat (first | (with_reducible first | exact HB.out | apply below_alloc | apply pw_below_drewN | apply below_drew1) | exact HB.out))) : w.heap.size ≤ gb272)); clear HB; have HB := n0_; have BK272 := n1_; have GW272 := n2_; have GE272 := n3_; clear n0_ n1_ n2_ n3_; clear hb hbox hg; have hcz5_0 : w4.cell? ⟨gb272, 0, none⟩ = some (.int .u8 a0_0) := (blk_cell BK272.out 0).trans rfl; have hcz5_1 : w4.cell? ⟨gb272, 1, none⟩ = some (.int .i64 a0_1) := (blk_cell BK272.out 1).trans rfl; have hcz5_2 : w4.cell? ⟨gb272, 2, none⟩ = some (.int .i64 a0_2) := (blk_cell BK272.out 2).trans rfl; have hcz5_3 : w4.cell? ⟨gb272, 3, none⟩ = some (.int .i64 a0_3) := (blk_cell BK272.out 3).trans rfl; have hcz5_4 : w4.cell? ⟨gb272, 4, none⟩ = some (.int .i64 a0_4) := (blk_cell BK272.out 4).trans rfl; have hcz5_5 : w4.cell? ⟨gb272, 5, none⟩ = some (.slice A0_5 l0_5.length c0_5) := (blk_cell BK272.out 5).trans rfl; have hcz5_6 : w4.cell? ⟨gb272, 6, none⟩ = some (.slice A0_6 l0_6.length c0_6) := (blk_cell BK272.out 6).trans rfl; have hfz5_0 := blk_frozen BK272.out 0; have hfz5_1 := blk_frozen BK272.out 1; have hfz5_2 := blk_frozen BK272.out 2; have hfz5_3 := blk_frozen BK272.out 3; have hfz5_4 := blk_frozen BK272.out 4; have hfz5_5 := blk_frozen BK272.out 5; have hfz5_6 := blk_frozen BK272.out 6) | ((with_reducible refine gate_callee (f := 62) rfl ?_); refine goesL_ (some 6) rfl rfl Tryd.func62 (by kernel_rfl) rfl #[.int .u8 a0_0] rfl (by (try simp only [List.map_toArray, List.map_cons, List.map_nil]); first | done | rfl | (simp only [List.length_drop, List.length_take]; rfl)) ?_; (with_reducible refine (shape_of.calls a0_0 t273 t274 t275 t276 t277 t278 _ A2.out (ShTab.below HTS.out (by repeat (first | (with_reducible first | exact HB.out | apply below_alloc | apply pw_below_drewN | apply below_drew1) | exact HB.out)))).mono ?_); rintro e w6 ⟨rfl, hb⟩; refine ⟨_, rfl, ?_⟩; have n0_ := Aside0.mk (blk_below (g := gb272) (o := .cells #[.int .u8 a0_0, .int .i64 a0_1, .int .i64 a0_2, .int .i64 a0_3, .int .i64 a0_4, .slice A0_5 l0_5.length c0_5, .slice A0_6 l0_6.length c0_6] 39 (0, 0)) (by (with_reducible repeat (first | refine blk_drewN ?_ _ | refine blk_drew ?_ | refine blk_alloc ?_ _)); exact BK272.out) hb); have n1_ := Aside0.mk (below_step (by repeat (first | (with_reducible first | exact HB.out | apply below_alloc | apply pw_below_drewN | apply below_drew1 | refine below_set ?_ GE272.out) | exact HB.out)) hb); clear BK272; clear HB; have BK272 := n0_; have HB := n1_; clear n0_ n1_; (try clear hb); (try clear hb2); (try clear hk); (try clear hi)) | ((with_reducible refine gate_dst (N := 3) rfl ?_); refine box_event ?hg (N := 3) ?hd (cs := #[.bool false, .bool false, .bool false, .bool false, .bool false, .bool false]) (t := 111) ?hr ?_; (case hd => rfl); (case hg => rfl); (case hr => first | (go_simp; done) | (go_simp; rfl)); intro gb279 hg w7 hbox hb; have n0_ := Aside0.mk (blk_below (g := gb272) (o := .cells #[.int .u8 a0_0, .int .i64 a0_1, .int .i64 a0_2, .int .i64 a0_3, .int .i64 a0_4, .slice A0_5 l0_5.length c0_5, .slice A0_6 l0_6.length c0_6] 39 (0, 0)) (by (with_reducible repeat (first | refine blk_drewN ?_ _ | refine blk_drew ?_ | refine blk_alloc ?_ _)); exact BK272.out) hb); have n1_ := Aside0.mk (below_step (by repeat (first | (with_reducible first | exact HB.out | apply below_alloc | apply pw_below_drewN | apply below_drew1 | refine below_set ?_ GE272.out) | exact HB.out)) hb); have n2_ := Aside0.mk (hbox); have n3_ := Aside0.mk ((by rw [hg]; exact (below_size (by repeat (first | (with_reducible first | exact HB.out | apply below_alloc | apply pw_below_drewN | apply below_drew1 | refine below_set ?_ GE272.out) | exact HB.out))) : w.heap.size ≤ gb279)); have n4_ := Aside0.mk ((by rw [hg]; exact (below_size (by repeat (first | (with_reducible first | exact HB.out | apply below_alloc | apply pw_below_drewN | apply below_drew1 | refine below_set ?_ GE272.out) | exact HB.out))) : w.heap.size ≤ gb279)); have n5_ := Aside0.mk ((by rw [hg]; exact Nat.ne_of_lt (blk_lt (g := gb272) (o := .cells #[.int .u8 a0_0, .int .i64 a0_1, .int .i64 a0_2, .int .i64 a0_3, .int .i64 a0_4, .slice A0_5 l0_5.length c0_5, .slice A0_6 l0_6.length c0_6] 39 (0, 0)) (by (with_reducible repeat (first | refine blk_drewN ?_ _ | refine blk_drew ?_ | refine blk_alloc ?_ _)); exact BK272.out)) : gb272 ≠ gb279)); have n6_ := Aside0.mk ((by rw [hg]; exact Nat.ne_of_gt (blk_lt (g := gb272) (o := .cells #[.int .u8 a0_0, .int .i64 a0_1, .int .i64 a0_2, .int .i64 a0_3, .int .i64 a0_4, .slice A0_5 l0_5.length c0_5, .slice A0_6 l0_6.length c0_6] 39 (0, 0)) (by (with_reducible repeat (first | refine blk_drewN ?_ _ | refine blk_drew ?_ | refine blk_alloc ?_ _)); exact BK272.out)) : gb279 ≠ gb272)); clear BK272; clear HB; have BK272 := n0_; have HB := n1_; have BK279 := n2_; have GW279 := n3_; have GE279 := n4_; have NB272_279 := n5_; have NB279_272 := n6_; clear n0_ n1_ n2_ n3_ n4_ n5_ n6_; clear hb hbox hg; have hnb8 := NB279_272.out; have hnc8 := NB272_279.out; have hcz9_0 : w7.cell? ⟨gb279, 0, none⟩ = some (.bool false) := (blk_cell BK279.out 0).trans rfl; have hcz9_1 : w7.cell? ⟨gb279, 1, none⟩ = some (.bool false) := (blk_cell BK279.out 1).trans rfl; have hcz9_2 : w7.cell? ⟨gb279, 2, none⟩ = some (.bool false) := (blk_cell BK279.out 2).trans rfl; have hcz9_3 : w7.cell? ⟨gb279, 3, none⟩ = some (.bool false) := (blk_cell BK279.out 3).trans rfl; have hcz9_4 : w7.cell? ⟨gb279, 4, none⟩ = some (.bool false) := (blk_cell BK279.out 4).trans rfl; have hcz9_5 : w7.cell? ⟨gb279, 5, none⟩ = some (.bool false) := (blk_cell BK279.out 5).trans rfl; have hfz9_0 := blk_frozen BK279.out 0; have hfz9_1 := blk_frozen BK279.out 1; have hfz9_2 := blk_frozen BK279.out 2; have hfz9_3 := blk_frozen BK279.out 3; have hfz9_4 := blk_frozen BK279.out 4; have hfz9_5 := blk_frozen BK279.out 5))
  (try simp only [Act.put, List.setIfInBounds_toArray, List.set_cons_zero, List.set_cons_succ])
  go_cut [2] (fun v2 wc => ∃ (kq : Nat) (x2_2 : List Int), Aside0 (shape_Uses.j0 kq x2_2 a0_0 a0_1 a0_2 a0_3 a0_4 l0_5 l0_6 t273 t274 t275 t276 t277 t278 = some r) ∧ Aside0 (kq ≤ k) ∧ Aside0 (Kd.R (Kd.int .i64) 3 wc w.heap.size (fun _ => True) v2 x2_2) ∧ Aside0 (wc.heap[gb272]? = some (.cells #[.int .u8 a0_0, .int .i64 a0_1, .int .i64 a0_2, .int .i64 a0_3, .int .i64 a0_4, (.slice A0_5 l0_5.length c0_5), (.slice A0_6 l0_6.length c0_6)] 39 (0, 0))) ∧ Aside0 (wc.heap[gb279]? = some (.cells #[.bool t273, .bool t274, .bool t275, .bool t276, .bool t277, .bool t278] 111 (0, 0))) ∧ Aside0 (Below w.heap.size w wc))
  case first =>
    have H := HC3.out
    clear HC3
    by_cases c10 : t273 = true
    · subst c10
      have H1 : (if ([] : List Int).length < 17592186044416 then (shape_Uses.j0 k (([] : List Int) ++ [a0_2]) a0_0 a0_1 a0_2 a0_3 a0_4 l0_5 l0_6 true t274 t275 t276 t277 t278) else (none)) = some r := by rw [if_pos rfl] at H; exact H
      clear H
      have H := H1
      clear H1
      by_cases c11 : ([] : List Int).length < 17592186044416
      · rw [if_pos c11] at H
        have LMc11 := Aside0.mk c11
        clear c11
        obtain ⟨y280, hy280⟩ : ∃ y_ : List Int, y_ = (([] : List Int) ++ [a0_2]) := ⟨_, rfl⟩
        replace H : (shape_Uses.j0 k y280 a0_0 a0_1 a0_2 a0_3 a0_4 l0_5 l0_6 true t274 t275 t276 t277 t278) = some r := by first | (rw [hy280]; with_reducible exact H) | (have H2_ := (Option.bind_some _ _).symm.trans H; rw [hy280]; with_reducible exact H2_) | (have H2_ := (Option.bind_some _ _).symm.trans H; with_reducible exact H2_) | with_reducible exact H | (rw [hy280]; exact H) | exact H
        have Ny280 := Aside0.mk hy280
        clear hy280
        have H' := Aside0.mk H
        clear H
        have hnb12 := NB272_279.out
        have hnc12 := NB279_272.out
        have hcz13_0 : w7.cell? ⟨gb272, 0, none⟩ = some (.int .u8 a0_0) := (blk_cell BK272.out 0).trans rfl
        have hcz13_1 : w7.cell? ⟨gb272, 1, none⟩ = some (.int .i64 a0_1) := (blk_cell BK272.out 1).trans rfl
        have hcz13_2 : w7.cell? ⟨gb272, 2, none⟩ = some (.int .i64 a0_2) := (blk_cell BK272.out 2).trans rfl
        have hcz13_3 : w7.cell? ⟨gb272, 3, none⟩ = some (.int .i64 a0_3) := (blk_cell BK272.out 3).trans rfl
        have hcz13_4 : w7.cell? ⟨gb272, 4, none⟩ = some (.int .i64 a0_4) := (blk_cell BK272.out 4).trans rfl
        have hcz13_5 : w7.cell? ⟨gb272, 5, none⟩ = some (.slice A0_5 l0_5.length c0_5) := (blk_cell BK272.out 5).trans rfl
        have hcz13_6 : w7.cell? ⟨gb272, 6, none⟩ = some (.slice A0_6 l0_6.length c0_6) := (blk_cell BK272.out 6).trans rfl
        have hfz13_0 := blk_frozen BK272.out 0
        have hfz13_1 := blk_frozen BK272.out 1
        have hfz13_2 := blk_frozen BK272.out 2
        have hfz13_3 := blk_frozen BK272.out 3
        have hfz13_4 := blk_frozen BK272.out 4
        have hfz13_5 := blk_frozen BK272.out 5
        have hfz13_6 := blk_frozen BK272.out 6
        go_wp2_with (first | ((with_reducible refine gate_builtin (b := .append) (xs := #[.tmp 9, .tmp 12]) rfl ?_); at_builtin; refine Kd.R_append (Kd.int .i64) (w0 := w) w.heap.size rfl (.tmp 9) (.tmp 12) 37 3 (.int .i64 0) 8 rfl Tryd.underlying37 info3 rfl (by decide) (by omega) (.slice none 0 0) ([] : List Int) a0_2 [.int .i64 a0_2] (fun _ => True) (fun _ => False) rfl (by first | (go_simp; done) | (go_simp; rfl)) ?aP (fun _ hk => hk.elim) ?aF ?aO ?aB ?aS ?aL ?_; (case aP => exact rfl); (case aB => exact (by repeat (first | (with_reducible first | exact HB.out | apply below_alloc | apply pw_below_drewN | apply below_drew1 | refine below_set ?_ GE272.out | refine below_set ?_ GE279.out) | exact HB.out))); (case aF => exact (fun _ _ => trivial)); (case aO => exact ((Kd.R_nil _ _ _ _ (fun _ => True)))); (case aS => exact (below_size (by repeat (first | (with_reducible first | exact HB.out | apply below_alloc | apply pw_below_drewN | apply below_drew1 | refine below_set ?_ GE272.out | refine below_set ?_ GE279.out) | exact HB.out)))); (case aL => have := LMc11.out; omega); intro v281 w14 ho hb hg hat; rw [← Ny280.out] at ho; have n0_ := Aside0.mk (blk_grown (g := gb272) (o := .cells #[.int .u8 a0_0, .int .i64 a0_1, .int .i64 a0_2, .int .i64 a0_3, .int .i64 a0_4, .slice A0_5 l0_5.length c0_5, .slice A0_6 l0_6.length c0_6] 39 (0, 0)) (by (with_reducible repeat (first | refine blk_drewN ?_ _ | refine blk_drew ?_ | refine blk_alloc ?_ _)); refine blk_far ?_ NB272_279.out _; (with_reducible repeat (first | refine blk_drewN ?_ _ | refine blk_drew ?_ | refine blk_alloc ?_ _)); refine blk_far ?_ NB272_279.out _; (with_reducible repeat (first | refine blk_drewN ?_ _ | refine blk_drew ?_ | refine blk_alloc ?_ _)); refine blk_far ?_ NB272_279.out _; (with_reducible repeat (first | refine blk_drewN ?_ _ | refine blk_drew ?_ | refine blk_alloc ?_ _)); refine blk_far ?_ NB272_279.out _; (with_reducible repeat (first | refine blk_drewN ?_ _ | refine blk_drew ?_ | refine blk_alloc ?_ _)); refine blk_far ?_ NB272_279.out _; (with_reducible repeat (first | refine blk_drewN ?_ _ | refine blk_drew ?_ | refine blk_alloc ?_ _)); refine blk_far ?_ NB272_279.out _; (with_reducible repeat (first | refine blk_drewN ?_ _ | refine blk_drew ?_ | refine blk_alloc ?_ _)); exact BK272.out) hg (by simp [Value.ownBlock])); have n1_ := Aside0.mk (blk_grown (g := gb279) (o := .cells #[.bool true, .bool t274, .bool t275, .bool t276, .bool t277, .bool t278] 111 (0, 0)) (by (with_reducible repeat (first | refine blk_drewN ?_ _ | refine blk_drew ?_ | refine blk_alloc ?_ _)); refine blk_put (cs := #[.bool true, .bool t274, .bool t275, .bool t276, .bool t277, .bool false]) ?_ 5 _ rfl; (with_reducible repeat (first | refine blk_drewN ?_ _ | refine blk_drew ?_ | refine blk_alloc ?_ _)); refine blk_put (cs := #[.bool true, .bool t274, .bool t275, .bool t276, .bool false, .bool false]) ?_ 4 _ rfl; (with_reducible repeat (first | refine blk_drewN ?_ _ | refine blk_drew ?_ | refine blk_alloc ?_ _)); refine blk_put (cs := #[.bool true, .bool t274, .bool t275, .bool false, .bool false, .bool false]) ?_ 3 _ rfl; (with_reducible repeat (first | refine blk_drewN ?_ _ | refine blk_drew ?_ | refine blk_alloc ?_ _)); refine blk_put (cs := #[.bool true, .bool t274, .bool false, .bool false, .bool false, .bool false]) ?_ 2 _ rfl; (with_reducible repeat (first | refine blk_drewN ?_ _ | refine blk_drew ?_ | refine blk_alloc ?_ _)); refine blk_put (cs := #[.bool true, .bool false, .bool false, .bool false, .bool false, .bool false]) ?_ 1 _ rfl; (with_reducible repeat (first | refine blk_drewN ?_ _ | refine blk_drew ?_ | refine blk_alloc ?_ _)); refine blk_put (cs := #[.bool false, .bool false, .bool false, .bool false, .bool false, .bool false]) ?_ 0 _ rfl; (with_reducible repeat (first | refine blk_drewN ?_ _ | refine blk_drew ?_ | refine blk_alloc ?_ _)); exact BK279.out) hg (by simp [Value.ownBlock])); have n2_ := Aside0.mk (hb); have n3_ := Aside0.mk (ho); clear BK272; clear BK279; clear HB; have BK272 := n0_; have BK279 := n1_; have HB := n2_; have HO282 := n3_; clear n0_ n1_ n2_ n3_; clear ho hb hg hat))
        go_meet
        case rel => exact ⟨_, (y280), H', ⟨by first | omega | exact Nat.le_refl _⟩, ⟨by (with_reducible repeat (first | apply Kd.R_alloc | apply Kd.R_drewN | apply Kd.R_drew)); exact HO282.out⟩, ⟨by (with_reducible repeat (first | refine blk_drewN ?_ _ | refine blk_drew ?_ | refine blk_alloc ?_ _)); exact BK272.out⟩, ⟨by (with_reducible repeat (first | refine blk_drewN ?_ _ | refine blk_drew ?_ | refine blk_alloc ?_ _)); exact BK279.out⟩, ⟨by repeat (first | (with_reducible first | exact HB.out | apply below_alloc | apply pw_below_drewN | apply below_drew1 | refine below_set ?_ GE272.out | refine below_set ?_ GE279.out) | exact HB.out)⟩⟩
      · rw [if_neg c11] at H
        exact absurd H (by simp)
    · replace c10 := Bool.eq_false_iff.mpr c10
      subst c10
      have H1 : (shape_Uses.j0 k ([] : List Int) a0_0 a0_1 a0_2 a0_3 a0_4 l0_5 l0_6 false t274 t275 t276 t277 t278) = some r := by rw [if_neg (show ¬ (false = true) by decide)] at H; exact H
      clear H
      have H := H1
      clear H1
      have H' := Aside0.mk H
      clear H
      go_wp2
      go_meet
      case rel => exact ⟨_, (([] : List Int)), H', ⟨by first | omega | exact Nat.le_refl _⟩, ⟨by first | exact Kd.R_nil _ _ _ _ _ | exact Kd.N_nil _ _ _ _ _ | exact Kd.V_nil _ _ _ _ _ | exact Kd.Q_nil _ _ _ _ _ | exact Kd.S_nil _ _ _ _ _⟩, ⟨by (with_reducible repeat (first | refine blk_drewN ?_ _ | refine blk_drew ?_ | refine blk_alloc ?_ _)); refine blk_far ?_ NB272_279.out _; (with_reducible repeat (first | refine blk_drewN ?_ _ | refine blk_drew ?_ | refine blk_alloc ?_ _)); refine blk_far ?_ NB272_279.out _; (with_reducible repeat (first | refine blk_drewN ?_ _ | refine blk_drew ?_ | refine blk_alloc ?_ _)); refine blk_far ?_ NB272_279.out _; (with_reducible repeat (first | refine blk_drewN ?_ _ | refine blk_drew ?_ | refine blk_alloc ?_ _)); refine blk_far ?_ NB272_279.out _; (with_reducible repeat (first | refine blk_drewN ?_ _ | refine blk_drew ?_ | refine blk_alloc ?_ _)); refine blk_far ?_ NB272_279.out _; (with_reducible repeat (first | refine blk_drewN ?_ _ | refine blk_drew ?_ | refine blk_alloc ?_ _)); refine blk_far ?_ NB272_279.out _; (with_reducible repeat (first | refine blk_drewN ?_ _ | refine blk_drew ?_ | refine blk_alloc ?_ _)); exact BK272.out⟩, ⟨by (with_reducible repeat (first | refine blk_drewN ?_ _ | refine blk_drew ?_ | refine blk_alloc ?_ _)); refine blk_put (cs := #[.bool false, .bool t274, .bool t275, .bool t276, .bool t277, .bool false]) ?_ 5 _ rfl; (with_reducible repeat (first | refine blk_drewN ?_ _ | refine blk_drew ?_ | refine blk_alloc ?_ _)); refine blk_put (cs := #[.bool false, .bool t274, .bool t275, .bool t276, .bool false, .bool false]) ?_ 4 _ rfl; (with_reducible repeat (first | refine blk_drewN ?_ _ | refine blk_drew ?_ | refine blk_alloc ?_ _)); refine blk_put (cs := #[.bool false, .bool t274, .bool t275, .bool false, .bool false, .bool false]) ?_ 3 _ rfl; (with_reducible repeat (first | refine blk_drewN ?_ _ | refine blk_drew ?_ | refine blk_alloc ?_ _)); refine blk_put (cs := #[.bool false, .bool t274, .bool false, .bool false, .bool false, .bool false]) ?_ 2 _ rfl; (with_reducible repeat (first | refine blk_drewN ?_ _ | refine blk_drew ?_ | refine blk_alloc ?_ _)); refine blk_put (cs := #[.bool false, .bool false, .bool false, .bool false, .bool false, .bool false]) ?_ 1 _ rfl; (with_reducible repeat (first | refine blk_drewN ?_ _ | refine blk_drew ?_ | refine blk_alloc ?_ _)); refine blk_put (cs := #[.bool false, .bool false, .bool false, .bool false, .bool false, .bool false]) ?_ 0 _ rfl; (with_reducible repeat (first | refine blk_drewN ?_ _ | refine blk_drew ?_ | refine blk_alloc ?_ _)); exact BK279.out⟩, ⟨by repeat (first | (with_reducible first | exact HB.out | apply below_alloc | apply pw_below_drewN | apply below_drew1 | refine below_set ?_ GE272.out | refine below_set ?_ GE279.out) | exact HB.out)⟩⟩
  case rest =>
    clear HC3
    try clear c1
    try clear p2
    try clear c6
    try clear c8
    try clear c10
    try clear c11
    try clear c12
    try clear hcz13_0
    try clear hcz13_1
    try clear hcz13_2
    try clear hcz13_3
    try clear hcz13_4
    try clear hcz13_5
    try clear hcz13_6
    try clear hcz5_0
    try clear hcz5_1
    try clear hcz5_2
    try clear hcz5_3
    try clear hcz5_4
    try clear hcz5_5
    try clear hcz5_6
    try clear hcz9_0
    try clear hcz9_1
    try clear hcz9_2
    try clear hcz9_3
    try clear hcz9_4
    try clear hcz9_5
    try clear hfz13_0
    try clear hfz13_1
    try clear hfz13_2
    try clear hfz13_3
    try clear hfz13_4
    try clear hfz13_5
    try clear hfz13_6
    try clear hfz5_0
    try clear hfz5_1
    try clear hfz5_2
    try clear hfz5_3
    try clear hfz5_4
    try clear hfz5_5
    try clear hfz5_6
    try clear hfz9_0
    try clear hfz9_1
    try clear hfz9_2
    try clear hfz9_3
    try clear hfz9_4
    try clear hfz9_5
    obtain ⟨kq, x2_2, HA, HJ2, HO_2, BK272, BK279, HB⟩ := hcut
    cases kq with
    | zero => exact absurd HA.out (by simp [shape_Uses.j0])
    | succ kj2 =>
      have H := HA.out
      clear HA
      simp only [shape_Uses.j0] at H
      by_cases c15 : t274 = true
      · subst c15
        have H1 : (if x2_2.length < 17592186044416 then ((some (x2_2 ++ [a0_3] : List Int)).bind fun y283 => (if t276 = true then (if y283.length + l0_5.length < 17592186044416 then (some (y283 ++ l0_5)) else (none)) else (some y283))) else (none)) = some r := by rw [if_pos rfl] at H; exact H
        clear H
        have H := H1
        clear H1
        by_cases c16 : x2_2.length < 17592186044416
        · rw [if_pos c16] at H
          have LMc16 := Aside0.mk c16
          clear c16
          obtain ⟨y283, hy283⟩ : ∃ y_ : List Int, y_ = (x2_2 ++ [a0_3]) := ⟨_, rfl⟩
          replace H : (if t276 = true then (if y283.length + l0_5.length < 17592186044416 then (some (y283 ++ l0_5)) else (none)) else (some y283)) = some r := by first | (rw [hy283]; with_reducible exact H) | (have H2_ := (Option.bind_some _ _).symm.trans H; rw [hy283]; with_reducible exact H2_) | (have H2_ := (Option.bind_some _ _).symm.trans H; with_reducible exact H2_) | with_reducible exact H | (rw [hy283]; exact H) | exact H
          have Ny283 := Aside0.mk hy283
          clear hy283
          by_cases c17 : t276 = true
          · subst c17
            have H1 : (if y283.length + l0_5.length < 17592186044416 then (some (y283 ++ l0_5)) else (none)) = some r := by rw [if_pos rfl] at H; exact H
            clear H
            have H := H1
            clear H1
            by_cases c18 : y283.length + l0_5.length < 17592186044416
            · rw [if_pos c18] at H
              have LMc18 := Aside0.mk c18
              clear c18
              obtain ⟨y286, hy286⟩ : ∃ y_ : List Int, y_ = (y283 ++ l0_5) := ⟨_, rfl⟩
              replace H : (some y286) = some r := by first | (rw [hy286]; with_reducible exact H) | (have H2_ := (Option.bind_some _ _).symm.trans H; rw [hy286]; with_reducible exact H2_) | (have H2_ := (Option.bind_some _ _).symm.trans H; with_reducible exact H2_) | with_reducible exact H | (rw [hy286]; exact H) | exact H
              have Ny286 := Aside0.mk hy286
              clear hy286
              obtain rfl := Option.some.inj H
              have hnb19 := NB279_272.out
              have hnc19 := NB272_279.out
              have hcz20_0 : wc.cell? ⟨gb279, 0, none⟩ = some (.bool t273) := (blk_cell BK279.out 0).trans rfl
              have hcz20_1 : wc.cell? ⟨gb279, 1, none⟩ = some (.bool true) := (blk_cell BK279.out 1).trans rfl
              have hcz20_2 : wc.cell? ⟨gb279, 2, none⟩ = some (.bool t275) := (blk_cell BK279.out 2).trans rfl
              have hcz20_3 : wc.cell? ⟨gb279, 3, none⟩ = some (.bool true) := (blk_cell BK279.out 3).trans rfl
              have hcz20_4 : wc.cell? ⟨gb279, 4, none⟩ = some (.bool t277) := (blk_cell BK279.out 4).trans rfl
              have hcz20_5 : wc.cell? ⟨gb279, 5, none⟩ = some (.bool t278) := (blk_cell BK279.out 5).trans rfl
              have hfz20_0 := blk_frozen BK279.out 0
              have hfz20_1 := blk_frozen BK279.out 1
              have hfz20_2 := blk_frozen BK279.out 2
              have hfz20_3 := blk_frozen BK279.out 3
              have hfz20_4 := blk_frozen BK279.out 4
              have hfz20_5 := blk_frozen BK279.out 5
              have hcz21_0 : wc.cell? ⟨gb272, 0, none⟩ = some (.int .u8 a0_0) := (blk_cell BK272.out 0).trans rfl
              have hcz21_1 : wc.cell? ⟨gb272, 1, none⟩ = some (.int .i64 a0_1) := (blk_cell BK272.out 1).trans rfl
              have hcz21_2 : wc.cell? ⟨gb272, 2, none⟩ = some (.int .i64 a0_2) := (blk_cell BK272.out 2).trans rfl
              have hcz21_3 : wc.cell? ⟨gb272, 3, none⟩ = some (.int .i64 a0_3) := (blk_cell BK272.out 3).trans rfl
              have hcz21_4 : wc.cell? ⟨gb272, 4, none⟩ = some (.int .i64 a0_4) := (blk_cell BK272.out 4).trans rfl
              have hcz21_5 : wc.cell? ⟨gb272, 5, none⟩ = some (.slice A0_5 l0_5.length c0_5) := (blk_cell BK272.out 5).trans rfl
              have hcz21_6 : wc.cell? ⟨gb272, 6, none⟩ = some (.slice A0_6 l0_6.length c0_6) := (blk_cell BK272.out 6).trans rfl
              have hfz21_0 := blk_frozen BK272.out 0
              have hfz21_1 := blk_frozen BK272.out 1
              have hfz21_2 := blk_frozen BK272.out 2
              have hfz21_3 := blk_frozen BK272.out 3
              have hfz21_4 := blk_frozen BK272.out 4
              have hfz21_5 := blk_frozen BK272.out 5
              have hfz21_6 := blk_frozen BK272.out 6
              go_wp2_with (first | ((with_reducible refine gate_builtin (b := .append) (xs := #[.tmp 16, .tmp 19]) rfl ?_); at_builtin; refine Kd.R_append (Kd.int .i64) (w0 := w) w.heap.size rfl (.tmp 16) (.tmp 19) 37 3 (.int .i64 0) 8 rfl Tryd.underlying37 info3 rfl (by decide) (by omega) u2 x2_2 a0_3 [.int .i64 a0_3] (fun _ => True) (fun _ => False) rfl rfl ?aP (fun _ hk => hk.elim) ?aF ?aO ?aB ?aS ?aL ?_; (case aP => exact rfl); (case aB => exact (by repeat (first | (with_reducible first | exact HB.out | apply below_alloc | apply pw_below_drewN | apply below_drew1 | refine below_set ?_ GE272.out | refine below_set ?_ GE279.out) | exact HB.out))); (case aF => exact (fun _ _ => trivial)); (case aO => exact (by (with_reducible repeat (first | apply Kd.R_alloc | apply Kd.R_drewN | apply Kd.R_drew)); exact HO_2.out)); (case aS => exact (below_size (by repeat (first | (with_reducible first | exact HB.out | apply below_alloc | apply pw_below_drewN | apply below_drew1 | refine below_set ?_ GE272.out | refine below_set ?_ GE279.out) | exact HB.out)))); (case aL => have := LMc16.out; omega); intro v284 w22 ho hb hg hat; rw [← Ny283.out] at ho; have n0_ := Aside0.mk (blk_grown (g := gb272) (o := .cells #[.int .u8 a0_0, .int .i64 a0_1, .int .i64 a0_2, .int .i64 a0_3, .int .i64 a0_4, .slice A0_5 l0_5.length c0_5, .slice A0_6 l0_6.length c0_6] 39 (0, 0)) (by (with_reducible repeat (first | refine blk_drewN ?_ _ | refine blk_drew ?_ | refine blk_alloc ?_ _)); exact BK272.out) hg (Kd.R_ne HO_2.out BK272.out (by decide))); have n1_ := Aside0.mk (blk_grown (g := gb279) (o := .cells #[.bool t273, .bool true, .bool t275, .bool true, .bool t277, .bool t278] 111 (0, 0)) (by (with_reducible repeat (first | refine blk_drewN ?_ _ | refine blk_drew ?_ | refine blk_alloc ?_ _)); exact BK279.out) hg (Kd.R_ne HO_2.out BK279.out (by decide))); have n2_ := Aside0.mk (hb); have n3_ := Aside0.mk (ho); clear BK272; clear BK279; clear HB; clear HO_2; have BK272 := n0_; have BK279 := n1_; have HB := n2_; have HO285 := n3_; clear n0_ n1_ n2_ n3_; clear ho hb hg hat; have hcz23_0 : w22.cell? ⟨gb279, 0, none⟩ = some (.bool t273) := (blk_cell BK279.out 0).trans rfl; have hcz23_1 : w22.cell? ⟨gb279, 1, none⟩ = some (.bool true) := (blk_cell BK279.out 1).trans rfl; have hcz23_2 : w22.cell? ⟨gb279, 2, none⟩ = some (.bool t275) := (blk_cell BK279.out 2).trans rfl; have hcz23_3 : w22.cell? ⟨gb279, 3, none⟩ = some (.bool true) := (blk_cell BK279.out 3).trans rfl; have hcz23_4 : w22.cell? ⟨gb279, 4, none⟩ = some (.bool t277) := (blk_cell BK279.out 4).trans rfl; have hcz23_5 : w22.cell? ⟨gb279, 5, none⟩ = some (.bool t278) := (blk_cell BK279.out 5).trans rfl; have hfz23_0 := blk_frozen BK279.out 0; have hfz23_1 := blk_frozen BK279.out 1; have hfz23_2 := blk_frozen BK279.out 2; have hfz23_3 := blk_frozen BK279.out 3; have hfz23_4 := blk_frozen BK279.out 4; have hfz23_5 := blk_frozen BK279.out 5; have hcz24_0 : w22.cell? ⟨gb272, 0, none⟩ = some (.int .u8 a0_0) := (blk_cell BK272.out 0).trans rfl; have hcz24_1 : w22.cell? ⟨gb272, 1, none⟩ = some (.int .i64 a0_1) := (blk_cell BK272.out 1).trans rfl; have hcz24_2 : w22.cell? ⟨gb272, 2, none⟩ = some (.int .i64 a0_2) := (blk_cell BK272.out 2).trans rfl; have hcz24_3 : w22.cell? ⟨gb272, 3, none⟩ = some (.int .i64 a0_3) := (blk_cell BK272.out 3).trans rfl; have hcz24_4 : w22.cell? ⟨gb272, 4, none⟩ = some (.int .i64 a0_4) := (blk_cell BK272.out 4).trans rfl; have hcz24_5 : w22.cell? ⟨gb272, 5, none⟩ = some (.slice A0_5 l0_5.length c0_5) := (blk_cell BK272.out 5).trans rfl; have hcz24_6 : w22.cell? ⟨gb272, 6, none⟩ = some (.slice A0_6 l0_6.length c0_6) := (blk_cell BK272.out 6).trans rfl; have hfz24_0 := blk_frozen BK272.out 0; have hfz24_1 := blk_frozen BK272.out 1; have hfz24_2 := blk_frozen BK272.out 2; have hfz24_3 := blk_frozen BK272.out 3; have hfz24_4 := blk_frozen BK272.out 4; have hfz24_5 := blk_frozen BK272.out 5; have hfz24_6 := blk_frozen BK272.out 6) | ((with_reducible refine gate_builtin (b := .append) (xs := #[.tmp 23, .tmp 25]) rfl ?_); at_builtin; refine Kd.R_append_rows (Kd.int .i64) (w0 := w) w.heap.size rfl (.tmp 23) (.tmp 25) 37 3 (.int .i64 0) 8 rfl Tryd.underlying37 info3 rfl (by decide) (by omega) v284 y283 l0_5 _ _ _ (fun _ => True) (fun _ => False) rfl rfl ?aO ?aR (fun _ _ h => h) (fun _ h => h.elim) ?aF ?aB ?aS ?aL ?_; (case aR => repeat (first | exact (Kd.C_below HR0_5.out HB.out) | (with_reducible refine Kd.C_alloc ?_ _) | (with_reducible refine Kd.C_drewN ?_ _) | (with_reducible refine Kd.C_drew ?_))); (case aB => exact (by repeat (first | (with_reducible first | exact HB.out | apply below_alloc | apply pw_below_drewN | apply below_drew1 | refine below_set ?_ GE272.out | refine below_set ?_ GE279.out) | exact HB.out))); (case aF => exact (fun _ _ => trivial)); (case aO => exact (by (with_reducible repeat (first | apply Kd.R_alloc | apply Kd.R_drewN | apply Kd.R_drew)); exact HO285.out)); (case aS => exact (below_size (by repeat (first | (with_reducible first | exact HB.out | apply below_alloc | apply pw_below_drewN | apply below_drew1 | refine below_set ?_ GE272.out | refine below_set ?_ GE279.out) | exact HB.out)))); (case aL => have := LMc18.out; omega); intro v287 w25 ho hb hg hat; rw [← Ny286.out] at ho; have n0_ := Aside0.mk (blk_grown (g := gb272) (o := .cells #[.int .u8 a0_0, .int .i64 a0_1, .int .i64 a0_2, .int .i64 a0_3, .int .i64 a0_4, .slice A0_5 l0_5.length c0_5, .slice A0_6 l0_6.length c0_6] 39 (0, 0)) (by (with_reducible repeat (first | refine blk_drewN ?_ _ | refine blk_drew ?_ | refine blk_alloc ?_ _)); exact BK272.out) hg (Kd.R_ne HO285.out BK272.out (by decide))); have n1_ := Aside0.mk (blk_grown (g := gb279) (o := .cells #[.bool t273, .bool true, .bool t275, .bool true, .bool t277, .bool t278] 111 (0, 0)) (by (with_reducible repeat (first | refine blk_drewN ?_ _ | refine blk_drew ?_ | refine blk_alloc ?_ _)); exact BK279.out) hg (Kd.R_ne HO285.out BK279.out (by decide))); have n2_ := Aside0.mk (hb); have n3_ := Aside0.mk (ho); clear BK272; clear BK279; clear HB; clear HO285; have BK272 := n0_; have BK279 := n1_; have HB := n2_; have HO288 := n3_; clear n0_ n1_ n2_ n3_; clear ho hb hg hat))
              go_ret
              exact ⟨_, by first | rfl | (simp [errW_none, errW_some] <;> rfl) | (simp [*, errW_none, errW_some] <;> rfl), by (with_reducible repeat (first | apply Kd.R_alloc | apply Kd.R_drewN | apply Kd.R_drew)); exact HO288.out, by repeat (first | (with_reducible first | exact HB.out | apply below_alloc | apply pw_below_drewN | apply below_drew1 | refine below_set ?_ GE272.out | refine below_set ?_ GE279.out) | exact HB.out)⟩
            · rw [if_neg c18] at H
              exact absurd H (by simp)
          · replace c17 := Bool.eq_false_iff.mpr c17
            subst c17
            have H1 : (some y283) = some r := by rw [if_neg (show ¬ (false = true) by decide)] at H; exact H
            clear H
            have H := H1
            clear H1
            obtain rfl := Option.some.inj H
            have hnb26 := NB279_272.out
            have hnc26 := NB272_279.out
            have hcz27_0 : wc.cell? ⟨gb279, 0, none⟩ = some (.bool t273) := (blk_cell BK279.out 0).trans rfl
            have hcz27_1 : wc.cell? ⟨gb279, 1, none⟩ = some (.bool true) := (blk_cell BK279.out 1).trans rfl
            have hcz27_2 : wc.cell? ⟨gb279, 2, none⟩ = some (.bool t275) := (blk_cell BK279.out 2).trans rfl
            have hcz27_3 : wc.cell? ⟨gb279, 3, none⟩ = some (.bool false) := (blk_cell BK279.out 3).trans rfl
            have hcz27_4 : wc.cell? ⟨gb279, 4, none⟩ = some (.bool t277) := (blk_cell BK279.out 4).trans rfl
            have hcz27_5 : wc.cell? ⟨gb279, 5, none⟩ = some (.bool t278) := (blk_cell BK279.out 5).trans rfl
            have hfz27_0 := blk_frozen BK279.out 0
            have hfz27_1 := blk_frozen BK279.out 1
            have hfz27_2 := blk_frozen BK279.out 2
            have hfz27_3 := blk_frozen BK279.out 3
            have hfz27_4 := blk_frozen BK279.out 4
            have hfz27_5 := blk_frozen BK279.out 5
            have hcz28_0 : wc.cell? ⟨gb272, 0, none⟩ = some (.int .u8 a0_0) := (blk_cell BK272.out 0).trans rfl
            have hcz28_1 : wc.cell? ⟨gb272, 1, none⟩ = some (.int .i64 a0_1) := (blk_cell BK272.out 1).trans rfl
            have hcz28_2 : wc.cell? ⟨gb272, 2, none⟩ = some (.int .i64 a0_2) := (blk_cell BK272.out 2).trans rfl
            have hcz28_3 : wc.cell? ⟨gb272, 3, none⟩ = some (.int .i64 a0_3) := (blk_cell BK272.out 3).trans rfl
            have hcz28_4 : wc.cell? ⟨gb272, 4, none⟩ = some (.int .i64 a0_4) := (blk_cell BK272.out 4).trans rfl
            have hcz28_5 : wc.cell? ⟨gb272, 5, none⟩ = some (.slice A0_5 l0_5.length c0_5) := (blk_cell BK272.out 5).trans rfl
            have hcz28_6 : wc.cell? ⟨gb272, 6, none⟩ = some (.slice A0_6 l0_6.length c0_6) := (blk_cell BK272.out 6).trans rfl
            have hfz28_0 := blk_frozen BK272.out 0
            have hfz28_1 := blk_frozen BK272.out 1
            have hfz28_2 := blk_frozen BK272.out 2
            have hfz28_3 := blk_frozen BK272.out 3
            have hfz28_4 := blk_frozen BK272.out 4
            have hfz28_5 := blk_frozen BK272.out 5
            have hfz28_6 := blk_frozen BK272.out 6
            go_wp2_with (first | ((with_reducible refine gate_builtin (b := .append) (xs := #[.tmp 16, .tmp 19]) rfl ?_); at_builtin; refine Kd.R_append (Kd.int .i64) (w0 := w) w.heap.size rfl (.tmp 16) (.tmp 19) 37 3 (.int .i64 0) 8 rfl Tryd.underlying37 info3 rfl (by decide) (by omega) u2 x2_2 a0_3 [.int .i64 a0_3] (fun _ => True) (fun _ => False) rfl rfl ?aP (fun _ hk => hk.elim) ?aF ?aO ?aB ?aS ?aL ?_; (case aP => exact rfl); (case aB => exact (by repeat (first | (with_reducible first | exact HB.out | apply below_alloc | apply pw_below_drewN | apply below_drew1 | refine below_set ?_ GE272.out | refine below_set ?_ GE279.out) | exact HB.out))); (case aF => exact (fun _ _ => trivial)); (case aO => exact (by (with_reducible repeat (first | apply Kd.R_alloc | apply Kd.R_drewN | apply Kd.R_drew)); exact HO_2.out)); (case aS => exact (below_size (by repeat (first | (with_reducible first | exact HB.out | apply below_alloc | apply pw_below_drewN | apply below_drew1 | refine below_set ?_ GE272.out | refine below_set ?_ GE279.out) | exact HB.out)))); (case aL => have := LMc16.out; omega); intro v284 w29 ho hb hg hat; rw [← Ny283.out] at ho; have n0_ := Aside0.mk (blk_grown (g := gb272) (o := .cells #[.int .u8 a0_0, .int .i64 a0_1, .int .i64 a0_2, .int .i64 a0_3, .int .i64 a0_4, .slice A0_5 l0_5.length c0_5, .slice A0_6 l0_6.length c0_6] 39 (0, 0)) (by (with_reducible repeat (first | refine blk_drewN ?_ _ | refine blk_drew ?_ | refine blk_alloc ?_ _)); exact BK272.out) hg (Kd.R_ne HO_2.out BK272.out (by decide))); have n1_ := Aside0.mk (blk_grown (g := gb279) (o := .cells #[.bool t273, .bool true, .bool t275, .bool false, .bool t277, .bool t278] 111 (0, 0)) (by (with_reducible repeat (first | refine blk_drewN ?_ _ | refine blk_drew ?_ | refine blk_alloc ?_ _)); exact BK279.out) hg (Kd.R_ne HO_2.out BK279.out (by decide))); have n2_ := Aside0.mk (hb); have n3_ := Aside0.mk (ho); clear BK272; clear BK279; clear HB; clear HO_2; have BK272 := n0_; have BK279 := n1_; have HB := n2_; have HO285 := n3_; clear n0_ n1_ n2_ n3_; clear ho hb hg hat; have hcz30_0 : w29.cell? ⟨gb279, 0, none⟩ = some (.bool t273) := (blk_cell BK279.out 0).trans rfl; have hcz30_1 : w29.cell? ⟨gb279, 1, none⟩ = some (.bool true) := (blk_cell BK279.out 1).trans rfl; have hcz30_2 : w29.cell? ⟨gb279, 2, none⟩ = some (.bool t275) := (blk_cell BK279.out 2).trans rfl; have hcz30_3 : w29.cell? ⟨gb279, 3, none⟩ = some (.bool false) := (blk_cell BK279.out 3).trans rfl; have hcz30_4 : w29.cell? ⟨gb279, 4, none⟩ = some (.bool t277) := (blk_cell BK279.out 4).trans rfl; have hcz30_5 : w29.cell? ⟨gb279, 5, none⟩ = some (.bool t278) := (blk_cell BK279.out 5).trans rfl; have hfz30_0 := blk_frozen BK279.out 0; have hfz30_1 := blk_frozen BK279.out 1; have hfz30_2 := blk_frozen BK279.out 2; have hfz30_3 := blk_frozen BK279.out 3; have hfz30_4 := blk_frozen BK279.out 4; have hfz30_5 := blk_frozen BK279.out 5))
            go_ret
            exact ⟨_, by first | rfl | (simp [errW_none, errW_some] <;> rfl) | (simp [*, errW_none, errW_some] <;> rfl), by (with_reducible repeat (first | apply Kd.R_alloc | apply Kd.R_drewN | apply Kd.R_drew)); exact HO285.out, by repeat (first | (with_reducible first | exact HB.out | apply below_alloc | apply pw_below_drewN | apply below_drew1 | refine below_set ?_ GE272.out | refine below_set ?_ GE279.out) | exact HB.out)⟩
        · rw [if_neg c16] at H
          exact absurd H (by simp)
      · replace c15 := Bool.eq_false_iff.mpr c15
        subst c15
        have H1 : (if t276 = true then (if x2_2.length + l0_5.length < 17592186044416 then (some (x2_2 ++ l0_5)) else (none)) else (some x2_2)) = some r := by rw [if_neg (show ¬ (false = true) by decide)] at H; exact H
        clear H
        have H := H1
        clear H1
        by_cases c31 : t276 = true
        · subst c31
          have H1 : (if x2_2.length + l0_5.length < 17592186044416 then (some (x2_2 ++ l0_5)) else (none)) = some r := by rw [if_pos rfl] at H; exact H
          clear H
          have H := H1
          clear H1
          by_cases c32 : x2_2.length + l0_5.length < 17592186044416
          · rw [if_pos c32] at H
            have LMc32 := Aside0.mk c32
            clear c32
            obtain ⟨y289, hy289⟩ : ∃ y_ : List Int, y_ = (x2_2 ++ l0_5) := ⟨_, rfl⟩
            replace H : (some y289) = some r := by first | (rw [hy289]; with_reducible exact H) | (have H2_ := (Option.bind_some _ _).symm.trans H; rw [hy289]; with_reducible exact H2_) | (have H2_ := (Option.bind_some _ _).symm.trans H; with_reducible exact H2_) | with_reducible exact H | (rw [hy289]; exact H) | exact H
            have Ny289 := Aside0.mk hy289
            clear hy289
            obtain rfl := Option.some.inj H
            have hnb33 := NB279_272.out
            have hnc33 := NB272_279.out
            have hcz34_0 : wc.cell? ⟨gb279, 0, none⟩ = some (.bool t273) := (blk_cell BK279.out 0).trans rfl
            have hcz34_1 : wc.cell? ⟨gb279, 1, none⟩ = some (.bool false) := (blk_cell BK279.out 1).trans rfl
            have hcz34_2 : wc.cell? ⟨gb279, 2, none⟩ = some (.bool t275) := (blk_cell BK279.out 2).trans rfl
            have hcz34_3 : wc.cell? ⟨gb279, 3, none⟩ = some (.bool true) := (blk_cell BK279.out 3).trans rfl
            have hcz34_4 : wc.cell? ⟨gb279, 4, none⟩ = some (.bool t277) := (blk_cell BK279.out 4).trans rfl
            have hcz34_5 : wc.cell? ⟨gb279, 5, none⟩ = some (.bool t278) := (blk_cell BK279.out 5).trans rfl
            have hfz34_0 := blk_frozen BK279.out 0
            have hfz34_1 := blk_frozen BK279.out 1
            have hfz34_2 := blk_frozen BK279.out 2
            have hfz34_3 := blk_frozen BK279.out 3
            have hfz34_4 := blk_frozen BK279.out 4
            have hfz34_5 := blk_frozen BK279.out 5
            have hcz35_0 : wc.cell? ⟨gb272, 0, none⟩ = some (.int .u8 a0_0) := (blk_cell BK272.out 0).trans rfl
            have hcz35_1 : wc.cell? ⟨gb272, 1, none⟩ = some (.int .i64 a0_1) := (blk_cell BK272.out 1).trans rfl
            have hcz35_2 : wc.cell? ⟨gb272, 2, none⟩ = some (.int .i64 a0_2) := (blk_cell BK272.out 2).trans rfl
            have hcz35_3 : wc.cell? ⟨gb272, 3, none⟩ = some (.int .i64 a0_3) := (blk_cell BK272.out 3).trans rfl
            have hcz35_4 : wc.cell? ⟨gb272, 4, none⟩ = some (.int .i64 a0_4) := (blk_cell BK272.out 4).trans rfl
            have hcz35_5 : wc.cell? ⟨gb272, 5, none⟩ = some (.slice A0_5 l0_5.length c0_5) := (blk_cell BK272.out 5).trans rfl
            have hcz35_6 : wc.cell? ⟨gb272, 6, none⟩ = some (.slice A0_6 l0_6.length c0_6) := (blk_cell BK272.out 6).trans rfl
            have hfz35_0 := blk_frozen BK272.out 0
            have hfz35_1 := blk_frozen BK272.out 1
            have hfz35_2 := blk_frozen BK272.out 2
            have hfz35_3 := blk_frozen BK272.out 3
            have hfz35_4 := blk_frozen BK272.out 4
            have hfz35_5 := blk_frozen BK272.out 5
            have hfz35_6 := blk_frozen BK272.out 6
            go_wp2_with (first | ((with_reducible refine gate_builtin (b := .append) (xs := #[.tmp 23, .tmp 25]) rfl ?_); at_builtin; refine Kd.R_append_rows (Kd.int .i64) (w0 := w) w.heap.size rfl (.tmp 23) (.tmp 25) 37 3 (.int .i64 0) 8 rfl Tryd.underlying37 info3 rfl (by decide) (by omega) u2 x2_2 l0_5 _ _ _ (fun _ => True) (fun _ => False) rfl rfl ?aO ?aR (fun _ _ h => h) (fun _ h => h.elim) ?aF ?aB ?aS ?aL ?_; (case aR => repeat (first | exact (Kd.C_below HR0_5.out HB.out) | (with_reducible refine Kd.C_alloc ?_ _) | (with_reducible refine Kd.C_drewN ?_ _) | (with_reducible refine Kd.C_drew ?_))); (case aB => exact (by repeat (first | (with_reducible first | exact HB.out | apply below_alloc | apply pw_below_drewN | apply below_drew1 | refine below_set ?_ GE272.out | refine below_set ?_ GE279.out) | exact HB.out))); (case aF => exact (fun _ _ => trivial)); (case aO => exact (by (with_reducible repeat (first | apply Kd.R_alloc | apply Kd.R_drewN | apply Kd.R_drew)); exact HO_2.out)); (case aS => exact (below_size (by repeat (first | (with_reducible first | exact HB.out | apply below_alloc | apply pw_below_drewN | apply below_drew1 | refine below_set ?_ GE272.out | refine below_set ?_ GE279.out) | exact HB.out)))); (case aL => have := LMc32.out; omega); intro v290 w36 ho hb hg hat; rw [← Ny289.out] at ho; have n0_ := Aside0.mk (blk_grown (g := gb272) (o := .cells #[.int .u8 a0_0, .int .i64 a0_1, .int .i64 a0_2, .int .i64 a0_3, .int .i64 a0_4, .slice A0_5 l0_5.length c0_5, .slice A0_6 l0_6.length c0_6] 39 (0, 0)) (by (with_reducible repeat (first | refine blk_drewN ?_ _ | refine blk_drew ?_ | refine blk_alloc ?_ _)); exact BK272.out) hg (Kd.R_ne HO_2.out BK272.out (by decide))); have n1_ := Aside0.mk (blk_grown (g := gb279) (o := .cells #[.bool t273, .bool false, .bool t275, .bool true, .bool t277, .bool t278] 111 (0, 0)) (by (with_reducible repeat (first | refine blk_drewN ?_ _ | refine blk_drew ?_ | refine blk_alloc ?_ _)); exact BK279.out) hg (Kd.R_ne HO_2.out BK279.out (by decide))); have n2_ := Aside0.mk (hb); have n3_ := Aside0.mk (ho); clear BK272; clear BK279; clear HB; clear HO_2; have BK272 := n0_; have BK279 := n1_; have HB := n2_; have HO291 := n3_; clear n0_ n1_ n2_ n3_; clear ho hb hg hat))
            go_ret
            exact ⟨_, by first | rfl | (simp [errW_none, errW_some] <;> rfl) | (simp [*, errW_none, errW_some] <;> rfl), by (with_reducible repeat (first | apply Kd.R_alloc | apply Kd.R_drewN | apply Kd.R_drew)); exact HO291.out, by repeat (first | (with_reducible first | exact HB.out | apply below_alloc | apply pw_below_drewN | apply below_drew1 | refine below_set ?_ GE272.out | refine below_set ?_ GE279.out) | exact HB.out)⟩
          · rw [if_neg c32] at H
            exact absurd H (by simp)
        · replace c31 := Bool.eq_false_iff.mpr c31
          subst c31
          have H1 : (some x2_2) = some r := by rw [if_neg (show ¬ (false = true) by decide)] at H; exact H
          clear H
          have H := H1
          clear H1
          obtain rfl := Option.some.inj H
          have hnb37 := NB279_272.out
          have hnc37 := NB272_279.out
          have hcz38_0 : wc.cell? ⟨gb279, 0, none⟩ = some (.bool t273) := (blk_cell BK279.out 0).trans rfl
          have hcz38_1 : wc.cell? ⟨gb279, 1, none⟩ = some (.bool false) := (blk_cell BK279.out 1).trans rfl
          have hcz38_2 : wc.cell? ⟨gb279, 2, none⟩ = some (.bool t275) := (blk_cell BK279.out 2).trans rfl
          have hcz38_3 : wc.cell? ⟨gb279, 3, none⟩ = some (.bool false) := (blk_cell BK279.out 3).trans rfl
          have hcz38_4 : wc.cell? ⟨gb279, 4, none⟩ = some (.bool t277) := (blk_cell BK279.out 4).trans rfl
          have hcz38_5 : wc.cell? ⟨gb279, 5, none⟩ = some (.bool t278) := (blk_cell BK279.out 5).trans rfl
          have hfz38_0 := blk_frozen BK279.out 0
          have hfz38_1 := blk_frozen BK279.out 1
          have hfz38_2 := blk_frozen BK279.out 2
          have hfz38_3 := blk_frozen BK279.out 3
          have hfz38_4 := blk_frozen BK279.out 4
          have hfz38_5 := blk_frozen BK279.out 5
          go_wp2
          go_ret
          exact ⟨_, by first | rfl | (simp [errW_none, errW_some] <;> rfl) | (simp [*, errW_none, errW_some] <;> rfl), by (with_reducible repeat (first | apply Kd.R_alloc | apply Kd.R_drewN | apply Kd.R_drew)); exact HO_2.out, by repeat (first | (with_reducible first | exact HB.out | apply below_alloc | apply pw_below_drewN | apply below_drew1 | refine below_set ?_ GE272.out | refine below_set ?_ GE279.out) | exact HB.out)⟩
def slices_Index_string_string.l0 : Nat → List ByteArray → ByteArray → Int → Int → Option (Int)
  | 0, _, _, _, _ => none
  | k + 1, x0, x1, x7, x8 => if x8 < x7 then (if 0 ≤ x8 then (if x8 < (x0.length : Int) then (if x1.toList = (rdOf ByteArray.empty x0 x8).toList then (some x8) else (slices_Index_string_string.l0 k x0 x1 x7 (wrap64 (x8 + 1)))) else (none)) else (none)) else (some (-1))
def slices_Index_string_string.f (k : Nat) (l0 : List ByteArray) (a1 : ByteArray) : Option (Int) := slices_Index_string_string.l0 k l0 a1 (l0.length : Int) 0
set_option maxHeartbeats 8000000 in
set_option maxRecDepth 100000 in
theorem slices_Index_string_string.calls (k : Nat) (A0 : Option Addr) (c0 : Nat) (l0 : List ByteArray) (a1 : ByteArray) (r : Int) (w : World) (hr0 : Kd.C Kd.string w A0 l0.length l0) (hc0 : l0.length ≤ c0) (h : slices_Index_string_string.f k l0 a1 = some r) :
    Calls Tryd.prog 86 #[.slice A0 l0.length c0, .string a1] w fun e w' => e = .returned (.int .i64 r) ∧ Drawn0 w w' := by
  have HR0 := Aside0.mk hr0
  have HC0 := Aside0.mk hc0
  clear hr0 hc0
  have H : (slices_Index_string_string.l0 k l0 a1 (l0.length : Int) 0) = some r := h
  clear h
  have H' := Aside0.mk H
  clear H
  go_enter Tryd.func86, Tryd.ntmps86
  go_wp2
  go_loopg [8] k (fun kq v8 w' => ∃ (x8_1 : Int), v8 = .int .i64 x8_1 ∧ Aside0 (slices_Index_string_string.l0 kq l0 a1 (l0.length : Int) x8_1 = some r) ∧ Aside0 (kq ≤ k) ∧ Drawn0 w w')
  case atStart => exact ⟨(0), (by first | rfl | (simp; done) | (simp [*]; done)), H', ⟨Nat.le_refl _⟩, by repeat (first | exact Drawn0.refl _ | apply Drawn0.step)⟩
  case round =>
    clear H'
    try clear p2
    obtain ⟨x8_1, rfl, HA, HK1, ⟨m1, rfl⟩⟩ := hrel
    cases gk with
    | zero => exact absurd HA.out (by simp [slices_Index_string_string.l0])
    | succ k1 =>
      have H := HA.out
      clear HA
      simp only [slices_Index_string_string.l0] at H
      by_cases c3 : x8_1 < (l0.length : Int)
      · rw [if_pos c3] at H
        have c3b0 : decide (x8_1 < (l0.length : Int)) = true := decide_eq_true c3
        clear c3
        by_cases c4 : 0 ≤ x8_1
        · rw [if_pos c4] at H
          have c4b0 : decide (0 ≤ x8_1) = true := decide_eq_true c4
          clear c4
          by_cases c5 : x8_1 < (l0.length : Int)
          · rw [if_pos c5] at H
            have c5b0 : decide (x8_1 < (l0.length : Int)) = true := decide_eq_true c5
            clear c5
            by_cases c6 : a1.toList = (rdOf ByteArray.empty l0 x8_1).toList
            · rw [if_pos c6] at H
              have c6b0 : (a1.toList == (rdOf ByteArray.empty l0 x8_1).toList) = true := beq_iff_eq.mpr c6
              have c6b1 : (a1.toList != (rdOf ByteArray.empty l0 x8_1).toList) = false := bne_eq_false_iff_eq.mpr c6
              clear c6
              obtain rfl := Option.some.inj H
              have p292 : 0 ≤ (x8_1 : Int) := of_decide_eq_true (by first | (with_reducible assumption) | assumption)
              have q292 : x8_1 < (l0.length : Int) := of_decide_eq_true (by first | (with_reducible assumption) | assumption)
              obtain ⟨ad292, e292, hx292_0⟩ := Kd.at_string HR0.out x8_1 p292 q292
              cases e292
              replace p292 := eq_true p292
              replace q292 := eq_true q292
              go_wp2
              go_ret
              exact ⟨by first | rfl | (simp; done) | (simp [*]; done), by repeat (first | exact Drawn0.refl _ | apply Drawn0.step)⟩
            · rw [if_neg c6] at H
              have c6b0 : (a1.toList == (rdOf ByteArray.empty l0 x8_1).toList) = false := beq_eq_false_iff_ne.mpr c6
              have c6b1 : (a1.toList != (rdOf ByteArray.empty l0 x8_1).toList) = true := bne_iff_ne.mpr c6
              have H' := Aside0.mk H
              clear H
              have p292 : 0 ≤ (x8_1 : Int) := of_decide_eq_true (by first | (with_reducible assumption) | assumption)
              have q292 : x8_1 < (l0.length : Int) := of_decide_eq_true (by first | (with_reducible assumption) | assumption)
              obtain ⟨ad292, e292, hx292_0⟩ := Kd.at_string HR0.out x8_1 p292 q292
              cases e292
              replace p292 := eq_true p292
              replace q292 := eq_true q292
              go_wp2
              go_roundg k1
              case measure => have := HK1.out; omega
              case rel => exact ⟨(wrap64 (x8_1 + 1)), (by first | rfl | (simp; done) | (simp [*]; done)), H', ⟨by have := HK1.out; omega⟩, by repeat (first | exact Drawn0.refl _ | apply Drawn0.step)⟩
          · rw [if_neg c5] at H
            exact absurd H (by simp)
        · rw [if_neg c4] at H
          exact absurd H (by simp)
      · rw [if_neg c3] at H
        have c3b0 : decide (x8_1 < (l0.length : Int)) = false := decide_eq_false c3
        clear c3
        obtain rfl := Option.some.inj H
        go_wp2
        go_ret
        exact ⟨by first | rfl | (simp; done) | (simp [*]; done), by repeat (first | exact Drawn0.refl _ | apply Drawn0.step)⟩
def slices_Contains_string_string.f (k : Nat) (l0 : List ByteArray) (a1 : ByteArray) : Option (Bool) := (slices_Index_string_string.f k l0 a1).bind fun t293 => (some (decide (t293 ≥ 0)))
set_option maxHeartbeats 8000000 in
set_option maxRecDepth 100000 in
theorem slices_Contains_string_string.calls (k : Nat) (A0 : Option Addr) (c0 : Nat) (l0 : List ByteArray) (a1 : ByteArray) (r : Bool) (w : World) (hr0 : Kd.C Kd.string w A0 l0.length l0) (hc0 : l0.length ≤ c0) (h : slices_Contains_string_string.f k l0 a1 = some r) :
    Calls Tryd.prog 75 #[.slice A0 l0.length c0, .string a1] w fun e w' => e = .returned (.bool r) ∧ Drawn0 w w' := by
  have HR0 := Aside0.mk hr0
  have HC0 := Aside0.mk hc0
  clear hr0 hc0
  have H : ((slices_Index_string_string.f k l0 a1).bind fun t293 => (some (decide (t293 ≥ 0)))) = some r := h
  clear h
  replace H := Option.bind_eq_some_iff.mp H
  obtain ⟨t293, A30, H⟩ := H
  replace H : (some (decide (t293 ≥ 0))) = some r := H
  have A3 := Aside0.mk A30
  clear A30
  obtain rfl := Option.some.inj H
  go_enter Tryd.func75, Tryd.ntmps75
  go_wp2_with (first | ((with_reducible refine gate_callee (f := 86) rfl ?_); refine goesL_ (some 7) rfl rfl Tryd.func86 (by kernel_rfl) rfl #[.slice A0 l0.length c0, .string a1] rfl (by (try simp only [List.map_toArray, List.map_cons, List.map_nil]); first | done | rfl | (simp only [List.length_drop, List.length_take]; rfl)) ?_; (with_reducible refine (slices_Index_string_string.calls k _ _ l0 a1 t293 _ ?side1 ?side2 A3.out).mono ?_); (case side1 => repeat (first | exact HR0.out | (with_reducible refine Kd.C_alloc ?_ _) | (with_reducible refine Kd.C_drewN ?_ _) | (with_reducible refine Kd.C_drew ?_))); (case side2 => exact HC0.out); rintro e w' ⟨rfl, ⟨nd, rfl⟩⟩; refine ⟨_, rfl, ?_⟩))
  go_ret
  exact ⟨by first | rfl | (simp; done) | (simp [*]; done), by repeat (first | exact Drawn0.refl _ | apply Drawn0.step)⟩
def read_ops.f  : Option (List ByteArray) := some (([(⟨#[]⟩ : ByteArray), (⟨#[105, 110, 116]⟩ : ByteArray), (⟨#[110, 117, 108, 108]⟩ : ByteArray), (⟨#[102, 110]⟩ : ByteArray), (⟨#[97, 100, 100]⟩ : ByteArray), (⟨#[115, 117, 98]⟩ : ByteArray), (⟨#[109, 117, 108]⟩ : ByteArray), (⟨#[100, 105, 118]⟩ : ByteArray), (⟨#[108, 101, 115, 115]⟩ : ByteArray), (⟨#[101, 113]⟩ : ByteArray), (⟨#[115, 97, 109, 101]⟩ : ByteArray), (⟨#[110, 101, 119]⟩ : ByteArray), (⟨#[108, 111, 99, 97, 108]⟩ : ByteArray), (⟨#[102, 114, 101, 101]⟩ : ByteArray), (⟨#[102, 105, 101, 108, 100]⟩ : ByteArray), (⟨#[101, 108, 101, 109]⟩ : ByteArray), (⟨#[108, 111, 97, 100]⟩ : ByteArray), (⟨#[115, 116, 111, 114, 101]⟩ : ByteArray), (⟨#[99, 97, 108, 108]⟩ : ByteArray), (⟨#[105, 99, 97, 108, 108]⟩ : ByteArray), (⟨#[114, 101, 97, 100]⟩ : ByteArray), (⟨#[112, 114, 105, 110, 116]⟩ : ByteArray), (⟨#[112, 104, 105]⟩ : ByteArray)] : List ByteArray))
set_option maxHeartbeats 8000000 in
set_option maxRecDepth 100000 in
theorem read_ops.calls  (r : List ByteArray) (w : World) (h : read_ops.f  = some r) :
    Calls Tryd.prog 87 #[] w fun e w' => ∃ v0_ : Value, e = .returned (v0_) ∧ Kd.R Kd.string 9 w' w.heap.size (fun _ => True) v0_ r ∧ Below w.heap.size w w' := by
  have HB := Aside0.mk (Below.refl w.heap.size w)
  have H : (some (([(⟨#[]⟩ : ByteArray), (⟨#[105, 110, 116]⟩ : ByteArray), (⟨#[110, 117, 108, 108]⟩ : ByteArray), (⟨#[102, 110]⟩ : ByteArray), (⟨#[97, 100, 100]⟩ : ByteArray), (⟨#[115, 117, 98]⟩ : ByteArray), (⟨#[109, 117, 108]⟩ : ByteArray), (⟨#[100, 105, 118]⟩ : ByteArray), (⟨#[108, 101, 115, 115]⟩ : ByteArray), (⟨#[101, 113]⟩ : ByteArray), (⟨#[115, 97, 109, 101]⟩ : ByteArray), (⟨#[110, 101, 119]⟩ : ByteArray), (⟨#[108, 111, 99, 97, 108]⟩ : ByteArray), (⟨#[102, 114, 101, 101]⟩ : ByteArray), (⟨#[102, 105, 101, 108, 100]⟩ : ByteArray), (⟨#[101, 108, 101, 109]⟩ : ByteArray), (⟨#[108, 111, 97, 100]⟩ : ByteArray), (⟨#[115, 116, 111, 114, 101]⟩ : ByteArray), (⟨#[99, 97, 108, 108]⟩ : ByteArray), (⟨#[105, 99, 97, 108, 108]⟩ : ByteArray), (⟨#[114, 101, 97, 100]⟩ : ByteArray), (⟨#[112, 114, 105, 110, 116]⟩ : ByteArray), (⟨#[112, 104, 105]⟩ : ByteArray)] : List ByteArray))) = some r := h
  clear h
  obtain ⟨y294, hy294⟩ : ∃ y_ : List ByteArray, y_ = (([(⟨#[]⟩ : ByteArray), (⟨#[105, 110, 116]⟩ : ByteArray), (⟨#[110, 117, 108, 108]⟩ : ByteArray), (⟨#[102, 110]⟩ : ByteArray), (⟨#[97, 100, 100]⟩ : ByteArray), (⟨#[115, 117, 98]⟩ : ByteArray), (⟨#[109, 117, 108]⟩ : ByteArray), (⟨#[100, 105, 118]⟩ : ByteArray), (⟨#[108, 101, 115, 115]⟩ : ByteArray), (⟨#[101, 113]⟩ : ByteArray), (⟨#[115, 97, 109, 101]⟩ : ByteArray), (⟨#[110, 101, 119]⟩ : ByteArray), (⟨#[108, 111, 99, 97, 108]⟩ : ByteArray), (⟨#[102, 114, 101, 101]⟩ : ByteArray), (⟨#[102, 105, 101, 108, 100]⟩ : ByteArray), (⟨#[101, 108, 101, 109]⟩ : ByteArray), (⟨#[108, 111, 97, 100]⟩ : ByteArray), (⟨#[115, 116, 111, 114, 101]⟩ : ByteArray), (⟨#[99, 97, 108, 108]⟩ : ByteArray), (⟨#[105, 99, 97, 108, 108]⟩ : ByteArray), (⟨#[114, 101, 97, 100]⟩ : ByteArray), (⟨#[112, 114, 105, 110, 116]⟩ : ByteArray), (⟨#[112, 104, 105]⟩ : ByteArray)] : List ByteArray)) := ⟨_, rfl⟩
  replace H : (some y294) = some r := by first | (rw [hy294]; with_reducible exact H) | (have H2_ := (Option.bind_some _ _).symm.trans H; rw [hy294]; with_reducible exact H2_) | (have H2_ := (Option.bind_some _ _).symm.trans H; with_reducible exact H2_) | with_reducible exact H | (rw [hy294]; exact H) | exact H
  have Ny294 := Aside0.mk hy294
  clear hy294
  obtain rfl := Option.some.inj H
  go_enter Tryd.func87, Tryd.ntmps87
  go_wp2_with (first | ((with_reducible refine gate_dst (N := 1) rfl ?_); refine Kd.R_lit Kd.string _ 9 ?hg (N := 1) ?hd (xs := ([(⟨#[]⟩ : ByteArray), (⟨#[105, 110, 116]⟩ : ByteArray), (⟨#[110, 117, 108, 108]⟩ : ByteArray), (⟨#[102, 110]⟩ : ByteArray), (⟨#[97, 100, 100]⟩ : ByteArray), (⟨#[115, 117, 98]⟩ : ByteArray), (⟨#[109, 117, 108]⟩ : ByteArray), (⟨#[100, 105, 118]⟩ : ByteArray), (⟨#[108, 101, 115, 115]⟩ : ByteArray), (⟨#[101, 113]⟩ : ByteArray), (⟨#[115, 97, 109, 101]⟩ : ByteArray), (⟨#[110, 101, 119]⟩ : ByteArray), (⟨#[108, 111, 99, 97, 108]⟩ : ByteArray), (⟨#[102, 114, 101, 101]⟩ : ByteArray), (⟨#[102, 105, 101, 108, 100]⟩ : ByteArray), (⟨#[101, 108, 101, 109]⟩ : ByteArray), (⟨#[108, 111, 97, 100]⟩ : ByteArray), (⟨#[115, 116, 111, 114, 101]⟩ : ByteArray), (⟨#[99, 97, 108, 108]⟩ : ByteArray), (⟨#[105, 99, 97, 108, 108]⟩ : ByteArray), (⟨#[114, 101, 97, 100]⟩ : ByteArray), (⟨#[112, 114, 105, 110, 116]⟩ : ByteArray), (⟨#[112, 104, 105]⟩ : ByteArray)] : List ByteArray)) (inner := [.string (⟨#[]⟩ : ByteArray), .string (⟨#[105, 110, 116]⟩ : ByteArray), .string (⟨#[110, 117, 108, 108]⟩ : ByteArray), .string (⟨#[102, 110]⟩ : ByteArray), .string (⟨#[97, 100, 100]⟩ : ByteArray), .string (⟨#[115, 117, 98]⟩ : ByteArray), .string (⟨#[109, 117, 108]⟩ : ByteArray), .string (⟨#[100, 105, 118]⟩ : ByteArray), .string (⟨#[108, 101, 115, 115]⟩ : ByteArray), .string (⟨#[101, 113]⟩ : ByteArray), .string (⟨#[115, 97, 109, 101]⟩ : ByteArray), .string (⟨#[110, 101, 119]⟩ : ByteArray), .string (⟨#[108, 111, 99, 97, 108]⟩ : ByteArray), .string (⟨#[102, 114, 101, 101]⟩ : ByteArray), .string (⟨#[102, 105, 101, 108, 100]⟩ : ByteArray), .string (⟨#[101, 108, 101, 109]⟩ : ByteArray), .string (⟨#[108, 111, 97, 100]⟩ : ByteArray), .string (⟨#[115, 116, 111, 114, 101]⟩ : ByteArray), .string (⟨#[99, 97, 108, 108]⟩ : ByteArray), .string (⟨#[105, 99, 97, 108, 108]⟩ : ByteArray), .string (⟨#[114, 101, 97, 100]⟩ : ByteArray), .string (⟨#[112, 114, 105, 110, 116]⟩ : ByteArray), .string (⟨#[112, 104, 105]⟩ : ByteArray)]) (ok := fun _ => True) (okp := fun _ => True) ?hr ?hp (fun _ hk => hk) trivial (Below.refl _ _) (Nat.le_refl _) (by simp) ?_; (case hd => rfl); (case hg => rfl); (case hr => first | (go_simp; done) | (go_simp; rfl)); (case hp => exact (Reps.one (show Kd.M Kd.string _ _ _ (⟨#[]⟩ : ByteArray) [.string (⟨#[]⟩ : ByteArray)] from rfl) (Reps.one (show Kd.M Kd.string _ _ _ (⟨#[105, 110, 116]⟩ : ByteArray) [.string (⟨#[105, 110, 116]⟩ : ByteArray)] from rfl) (Reps.one (show Kd.M Kd.string _ _ _ (⟨#[110, 117, 108, 108]⟩ : ByteArray) [.string (⟨#[110, 117, 108, 108]⟩ : ByteArray)] from rfl) (Reps.one (show Kd.M Kd.string _ _ _ (⟨#[102, 110]⟩ : ByteArray) [.string (⟨#[102, 110]⟩ : ByteArray)] from rfl) (Reps.one (show Kd.M Kd.string _ _ _ (⟨#[97, 100, 100]⟩ : ByteArray) [.string (⟨#[97, 100, 100]⟩ : ByteArray)] from rfl) (Reps.one (show Kd.M Kd.string _ _ _ (⟨#[115, 117, 98]⟩ : ByteArray) [.string (⟨#[115, 117, 98]⟩ : ByteArray)] from rfl) (Reps.one (show Kd.M Kd.string _ _ _ (⟨#[109, 117, 108]⟩ : ByteArray) [.string (⟨#[109, 117, 108]⟩ : ByteArray)] from rfl) (Reps.one (show Kd.M Kd.string _ _ _ (⟨#[100, 105, 118]⟩ : ByteArray) [.string (⟨#[100, 105, 118]⟩ : ByteArray)] from rfl) (Reps.one (show Kd.M Kd.string _ _ _ (⟨#[108, 101, 115, 115]⟩ : ByteArray) [.string (⟨#[108, 101, 115, 115]⟩ : ByteArray)] from rfl) (Reps.one (show Kd.M Kd.string _ _ _ (⟨#[101, 113]⟩ : ByteArray) [.string (⟨#[101, 113]⟩ : ByteArray)] from rfl) (Reps.one (show Kd.M Kd.string _ _ _ (⟨#[115, 97, 109, 101]⟩ : ByteArray) [.string (⟨#[115, 97, 109, 101]⟩ : ByteArray)] from rfl) (Reps.one (show Kd.M Kd.string _ _ _ (⟨#[110, 101, 119]⟩ : ByteArray) [.string (⟨#[110, 101, 119]⟩ : ByteArray)] from rfl) (Reps.one (show Kd.M Kd.string _ _ _ (⟨#[108, 111, 99, 97, 108]⟩ : ByteArray) [.string (⟨#[108, 111, 99, 97, 108]⟩ : ByteArray)] from rfl) (Reps.one (show Kd.M Kd.string _ _ _ (⟨#[102, 114, 101, 101]⟩ : ByteArray) [.string (⟨#[102, 114, 101, 101]⟩ : ByteArray)] from rfl) (Reps.one (show Kd.M Kd.string _ _ _ (⟨#[102, 105, 101, 108, 100]⟩ : ByteArray) [.string (⟨#[102, 105, 101, 108, 100]⟩ : ByteArray)] from rfl) (Reps.one (show Kd.M Kd.string _ _ _ (⟨#[101, 108, 101, 109]⟩ : ByteArray) [.string (⟨#[101, 108, 101, 109]⟩ : ByteArray)] from rfl) (Reps.one (show Kd.M Kd.string _ _ _ (⟨#[108, 111, 97, 100]⟩ : ByteArray) [.string (⟨#[108, 111, 97, 100]⟩ : ByteArray)] from rfl) (Reps.one (show Kd.M Kd.string _ _ _ (⟨#[115, 116, 111, 114, 101]⟩ : ByteArray) [.string (⟨#[115, 116, 111, 114, 101]⟩ : ByteArray)] from rfl) (Reps.one (show Kd.M Kd.string _ _ _ (⟨#[99, 97, 108, 108]⟩ : ByteArray) [.string (⟨#[99, 97, 108, 108]⟩ : ByteArray)] from rfl) (Reps.one (show Kd.M Kd.string _ _ _ (⟨#[105, 99, 97, 108, 108]⟩ : ByteArray) [.string (⟨#[105, 99, 97, 108, 108]⟩ : ByteArray)] from rfl) (Reps.one (show Kd.M Kd.string _ _ _ (⟨#[114, 101, 97, 100]⟩ : ByteArray) [.string (⟨#[114, 101, 97, 100]⟩ : ByteArray)] from rfl) (Reps.one (show Kd.M Kd.string _ _ _ (⟨#[112, 114, 105, 110, 116]⟩ : ByteArray) [.string (⟨#[112, 114, 105, 110, 116]⟩ : ByteArray)] from rfl) (Reps.one (show Kd.M Kd.string _ _ _ (⟨#[112, 104, 105]⟩ : ByteArray) [.string (⟨#[112, 104, 105]⟩ : ByteArray)] from rfl) (Reps.none _ _))))))))))))))))))))))))); intro v295 w1 ho2 hb hg_ hnew_; clear hg_ hnew_; (first | rw [← Ny294.out] at ho2 | (simp only [Int.reduceToNat] at ho2; rw [← Ny294.out] at ho2)); have n0_ := Aside0.mk (Kd.R_lower ho2 (below_size (by repeat (first | (with_reducible first | exact HB.out | apply below_alloc | apply pw_below_drewN | apply below_drew1) | exact HB.out)))); have n1_ := Aside0.mk (below_step (by repeat (first | (with_reducible first | exact HB.out | apply below_alloc | apply pw_below_drewN | apply below_drew1) | exact HB.out)) hb); clear HB; have HO296 := n0_; have HB := n1_; clear n0_ n1_; clear hb ho2))
  go_ret
  exact ⟨_, by first | rfl | (simp [errW_none, errW_some] <;> rfl) | (simp [*, errW_none, errW_some] <;> rfl), by (with_reducible repeat (first | apply Kd.R_alloc | apply Kd.R_drewN | apply Kd.R_drew)); exact HO296.out, by repeat (first | (with_reducible first | exact HB.out | apply below_alloc | apply pw_below_drewN | apply below_drew1) | exact HB.out)⟩
end Go.Proofs.YtlghkomipboflaaDoor.X
end
section
namespace Go.Proofs.YtlghkomipboflaaDoor.Rd
open Go.RowKit Go.Proofs.YtlghkomipboflaaDoor Go.Proofs.YtlghkomipboflaaDoor.X Go.Proofs.YtlghkomipboflaaDoorW.PrintWords Go.Proofs.YtlghkomipboflaaDoorW.PrintLast Go.Proofs.YtlghkomipboflaaDoorW.PrintMore
set_option linter.unusedVariables false
set_option linter.unusedSimpArgs false
def rights : Nat → Code → Code
  | 0, c => c
  | n + 1, .seq _ b => rights n b
  | _ + 1, c => c
def cutAt : Nat → Code → Code → Code
  | 0, _, T => T
  | n + 1, .seq a b, T => .seq a (cutAt n b T)
  | _ + 1, c, _ => c
noncomputable def c77 : Code := Tryd.f77.body.getD .skip
def IB (b : Nat) (a0 a1 a2 a3 a4 a5 a6 : Value) (W : World) : Prop := W.heap[b]? = some (.cells #[a0, a1, a2, a3, a4, a5, a6] 39 (0, 0))
theorem IB.c0 {g a0 a1 a2 a3 a4 a5 a6 W} (h : IB g a0 a1 a2 a3 a4 a5 a6 W) : W.cell? ⟨g, 0, none⟩ = some a0 := by unfold IB at h; simp [World.cell?, h]
theorem IB.c1 {g a0 a1 a2 a3 a4 a5 a6 W} (h : IB g a0 a1 a2 a3 a4 a5 a6 W) : W.cell? ⟨g, 1, none⟩ = some a1 := by unfold IB at h; simp [World.cell?, h]
theorem IB.c2 {g a0 a1 a2 a3 a4 a5 a6 W} (h : IB g a0 a1 a2 a3 a4 a5 a6 W) : W.cell? ⟨g, 2, none⟩ = some a2 := by unfold IB at h; simp [World.cell?, h]
theorem IB.c3 {g a0 a1 a2 a3 a4 a5 a6 W} (h : IB g a0 a1 a2 a3 a4 a5 a6 W) : W.cell? ⟨g, 3, none⟩ = some a3 := by unfold IB at h; simp [World.cell?, h]
theorem IB.c4 {g a0 a1 a2 a3 a4 a5 a6 W} (h : IB g a0 a1 a2 a3 a4 a5 a6 W) : W.cell? ⟨g, 4, none⟩ = some a4 := by unfold IB at h; simp [World.cell?, h]
theorem IB.c5 {g a0 a1 a2 a3 a4 a5 a6 W} (h : IB g a0 a1 a2 a3 a4 a5 a6 W) : W.cell? ⟨g, 5, none⟩ = some a5 := by unfold IB at h; simp [World.cell?, h]
theorem IB.c6 {g a0 a1 a2 a3 a4 a5 a6 W} (h : IB g a0 a1 a2 a3 a4 a5 a6 W) : W.cell? ⟨g, 6, none⟩ = some a6 := by unfold IB at h; simp [World.cell?, h]
theorem IB.fz {g a0 a1 a2 a3 a4 a5 a6 W} (h : IB g a0 a1 a2 a3 a4 a5 a6 W) (j : Nat) : W.frozen? ⟨g, j, none⟩ = false := by unfold IB at h; simp [World.frozen?, h]
theorem IB.set0 {g a0 a1 a2 a3 a4 a5 a6 W} (h : IB g a0 a1 a2 a3 a4 a5 a6 W) (v : Value) : IB g v a1 a2 a3 a4 a5 a6 (W.setCell ⟨g, 0, none⟩ v) := by unfold IB at h ⊢; rw [heap_set h]; rfl
theorem IB.set1 {g a0 a1 a2 a3 a4 a5 a6 W} (h : IB g a0 a1 a2 a3 a4 a5 a6 W) (v : Value) : IB g a0 v a2 a3 a4 a5 a6 (W.setCell ⟨g, 1, none⟩ v) := by unfold IB at h ⊢; rw [heap_set h]; rfl
theorem IB.set2 {g a0 a1 a2 a3 a4 a5 a6 W} (h : IB g a0 a1 a2 a3 a4 a5 a6 W) (v : Value) : IB g a0 a1 v a3 a4 a5 a6 (W.setCell ⟨g, 2, none⟩ v) := by unfold IB at h ⊢; rw [heap_set h]; rfl
theorem IB.set3 {g a0 a1 a2 a3 a4 a5 a6 W} (h : IB g a0 a1 a2 a3 a4 a5 a6 W) (v : Value) : IB g a0 a1 a2 v a4 a5 a6 (W.setCell ⟨g, 3, none⟩ v) := by unfold IB at h ⊢; rw [heap_set h]; rfl
theorem IB.set4 {g a0 a1 a2 a3 a4 a5 a6 W} (h : IB g a0 a1 a2 a3 a4 a5 a6 W) (v : Value) : IB g a0 a1 a2 a3 v a5 a6 (W.setCell ⟨g, 4, none⟩ v) := by unfold IB at h ⊢; rw [heap_set h]; rfl
theorem IB.set5 {g a0 a1 a2 a3 a4 a5 a6 W} (h : IB g a0 a1 a2 a3 a4 a5 a6 W) (v : Value) : IB g a0 a1 a2 a3 a4 v a6 (W.setCell ⟨g, 5, none⟩ v) := by unfold IB at h ⊢; rw [heap_set h]; rfl
theorem IB.set6 {g a0 a1 a2 a3 a4 a5 a6 W} (h : IB g a0 a1 a2 a3 a4 a5 a6 W) (v : Value) : IB g a0 a1 a2 a3 a4 a5 v (W.setCell ⟨g, 6, none⟩ v) := by unfold IB at h ⊢; rw [heap_set h]; rfl
theorem IB.same {wL : World} {g a0 a1 a2 a3 a4 a5 a6 W W1} (h : IB g a0 a1 a2 a3 a4 a5 a6 W) (hs : Same wL W W1) (hg : wL.heap.size < g) : IB g a0 a1 a2 a3 a4 a5 a6 W1 := by
  unfold IB at h ⊢
  rw [hs.2 g (blk_lt h) (by omega) (by simp), h]
theorem IB.block {g a0 a1 a2 a3 a4 a5 a6 W W1} (h : IB g a0 a1 a2 a3 a4 a5 a6 W) (hb : W1.heap[g]? = W.heap[g]?) : IB g a0 a1 a2 a3 a4 a5 a6 W1 := by
  unfold IB at h ⊢
  rw [hb, h]
abbrev In : Type := S39
def InsPost (wL : World) (ls : List (List ByteArray)) (r : List ByteArray) (vt vf : Value) (w : World) (x : In) (e : Ending) (w' : World) : Prop :=
  ∃ v5 v6, e = .returned (.agg #[.int .u8 x.f0, .int .i64 x.f1, .int .i64 x.f2, .int .i64 x.f3, .int .i64 x.f4, v5, v6]) ∧ KI.R 3 w' w.heap.size (fun _ => True) v5 x.f5 ∧ KI.R 3 w' w.heap.size (fun _ => True) v6 x.f6 ∧ At wL ls r vt vf w' ∧ Same wL w w'
theorem ins_end {wL : World} {ls : List (List ByteArray)} {r : List ByteArray} {vt vf : Value} {w W : World} {x : In} {tmps : Array Value} {b : Nat} {v5 v6 : Value} (h2 : tmps.getD 4 undef = .pointer (some ⟨b, 0, none⟩))
    (hk : IB b (.int .u8 x.f0) (.int .i64 x.f1) (.int .i64 x.f2) (.int .i64 x.f3) (.int .i64 x.f4) v5 v6 W) (h5 : KI.R 3 W w.heap.size (fun _ => True) v5 x.f5) (h6 : KI.R 3 W w.heap.size (fun _ => True) v6 x.f6) (ha : At wL ls r vt vf W) (hs : Same wL w W) :
    bodyPost Tryd.prog Tryd.f77 (InsPost wL ls r vt vf w x) Exit.ret { tmps := tmps, defers := [] } W :=
  bodyPost_ret (results_cell_row rfl _ _ b 39 _ (0, 0) _ h2 hk Tryd.underlying39 rfl (by kernel_rfl)) rfl ⟨v5, v6, rfl, h5, h6, ha, hs⟩
structure Fr (n : Nat) (ks : List (Nat × Value)) (a : Act) : Prop where
  size : a.tmps.size = n
  at_ : ∀ p ∈ ks, a.tmps[p.1]? = some p.2
  no : a.defers = []
theorem list_all' (l : List Value) : l = (List.range l.length).map (fun i => l.getD i undef) := by
  apply List.ext_getElem (by simp)
  intro i h1 h2
  simp [h1]
set_option maxRecDepth 100000 in
theorem open141 (a : Act) (hs : a.tmps.size = 141) (hd : a.defers = []) : ∃ us : Nat → Value, (∀ i, us i = a.tmps.toList.getD i undef) ∧ a = { tmps := #[us 0, us 1, us 2, us 3, us 4, us 5, us 6, us 7, us 8, us 9, us 10, us 11, us 12, us 13, us 14, us 15, us 16, us 17, us 18, us 19, us 20, us 21, us 22, us 23, us 24, us 25, us 26, us 27, us 28, us 29, us 30, us 31, us 32, us 33, us 34, us 35, us 36, us 37, us 38, us 39, us 40, us 41, us 42, us 43, us 44, us 45, us 46, us 47, us 48, us 49, us 50, us 51, us 52, us 53, us 54, us 55, us 56, us 57, us 58, us 59, us 60, us 61, us 62, us 63, us 64, us 65, us 66, us 67, us 68, us 69, us 70, us 71, us 72, us 73, us 74, us 75, us 76, us 77, us 78, us 79, us 80, us 81, us 82, us 83, us 84, us 85, us 86, us 87, us 88, us 89, us 90, us 91, us 92, us 93, us 94, us 95, us 96, us 97, us 98, us 99, us 100, us 101, us 102, us 103, us 104, us 105, us 106, us 107, us 108, us 109, us 110, us 111, us 112, us 113, us 114, us 115, us 116, us 117, us 118, us 119, us 120, us 121, us 122, us 123, us 124, us 125, us 126, us 127, us 128, us 129, us 130, us 131, us 132, us 133, us 134, us 135, us 136, us 137, us 138, us 139, us 140], defers := [] } := by
  refine ⟨fun i => a.tmps.toList.getD i undef, fun _ => rfl, ?_⟩
  cases a with
  | mk tmps defers =>
    simp only at hs hd
    subst hd
    have hl : tmps.toList.length = 141 := by simpa using hs
    have e := list_all' tmps.toList
    rw [hl] at e
    generalize hll : tmps.toList = l at e
    have e2 : (List.range 141).map (fun i => l.getD i undef) = [l.getD 0 undef, l.getD 1 undef, l.getD 2 undef, l.getD 3 undef, l.getD 4 undef, l.getD 5 undef, l.getD 6 undef, l.getD 7 undef, l.getD 8 undef, l.getD 9 undef, l.getD 10 undef, l.getD 11 undef, l.getD 12 undef, l.getD 13 undef, l.getD 14 undef, l.getD 15 undef, l.getD 16 undef, l.getD 17 undef, l.getD 18 undef, l.getD 19 undef, l.getD 20 undef, l.getD 21 undef, l.getD 22 undef, l.getD 23 undef, l.getD 24 undef, l.getD 25 undef, l.getD 26 undef, l.getD 27 undef, l.getD 28 undef, l.getD 29 undef, l.getD 30 undef, l.getD 31 undef, l.getD 32 undef, l.getD 33 undef, l.getD 34 undef, l.getD 35 undef, l.getD 36 undef, l.getD 37 undef, l.getD 38 undef, l.getD 39 undef, l.getD 40 undef, l.getD 41 undef, l.getD 42 undef, l.getD 43 undef, l.getD 44 undef, l.getD 45 undef, l.getD 46 undef, l.getD 47 undef, l.getD 48 undef, l.getD 49 undef, l.getD 50 undef, l.getD 51 undef, l.getD 52 undef, l.getD 53 undef, l.getD 54 undef, l.getD 55 undef, l.getD 56 undef, l.getD 57 undef, l.getD 58 undef, l.getD 59 undef, l.getD 60 undef, l.getD 61 undef, l.getD 62 undef, l.getD 63 undef, l.getD 64 undef, l.getD 65 undef, l.getD 66 undef, l.getD 67 undef, l.getD 68 undef, l.getD 69 undef, l.getD 70 undef, l.getD 71 undef, l.getD 72 undef, l.getD 73 undef, l.getD 74 undef, l.getD 75 undef, l.getD 76 undef, l.getD 77 undef, l.getD 78 undef, l.getD 79 undef, l.getD 80 undef, l.getD 81 undef, l.getD 82 undef, l.getD 83 undef, l.getD 84 undef, l.getD 85 undef, l.getD 86 undef, l.getD 87 undef, l.getD 88 undef, l.getD 89 undef, l.getD 90 undef, l.getD 91 undef, l.getD 92 undef, l.getD 93 undef, l.getD 94 undef, l.getD 95 undef, l.getD 96 undef, l.getD 97 undef, l.getD 98 undef, l.getD 99 undef, l.getD 100 undef, l.getD 101 undef, l.getD 102 undef, l.getD 103 undef, l.getD 104 undef, l.getD 105 undef, l.getD 106 undef, l.getD 107 undef, l.getD 108 undef, l.getD 109 undef, l.getD 110 undef, l.getD 111 undef, l.getD 112 undef, l.getD 113 undef, l.getD 114 undef, l.getD 115 undef, l.getD 116 undef, l.getD 117 undef, l.getD 118 undef, l.getD 119 undef, l.getD 120 undef, l.getD 121 undef, l.getD 122 undef, l.getD 123 undef, l.getD 124 undef, l.getD 125 undef, l.getD 126 undef, l.getD 127 undef, l.getD 128 undef, l.getD 129 undef, l.getD 130 undef, l.getD 131 undef, l.getD 132 undef, l.getD 133 undef, l.getD 134 undef, l.getD 135 undef, l.getD 136 undef, l.getD 137 undef, l.getD 138 undef, l.getD 139 undef, l.getD 140 undef] := rfl
    rw [e2] at e
    congr 1
    have e3 : tmps = tmps.toList.toArray := by simp
    rw [e3, hll]
    conv => lhs; rw [e]
theorem Fr.val {n : Nat} {ks : List (Nat × Value)} {a : Act} (h : Fr n ks a) {us : Nat → Value} (hu : ∀ i, us i = a.tmps.toList.getD i undef) (i : Nat) (v : Value) (hm : (i, v) ∈ ks) : us i = v := by
  rw [hu, List.getD_eq_getElem?_getD, Array.getElem?_toList, h.at_ _ hm]
  rfl
abbrev pG (wL : World) : Value := .pointer (some ⟨wL.heap.size, 0, none⟩)
abbrev pB (w : World) : Value := .pointer (some ⟨w.heap.size, 0, none⟩)
set_option maxHeartbeats 1600000 in
set_option maxRecDepth 100000 in
theorem tail_other (wL : World) (ls : List (List ByteArray)) (ws : List ByteArray) (vt vf : Value) (w : World) (op ty a1 b1 n : Int) (ho : op ≠ 18 ∧ op ≠ 19 ∧ op ≠ 22) (hlt : wL.heap.size < w.heap.size) (a : Act) (W : World)
    (hfr : Fr 141 [(0, pG wL), (4, pB w)] a) (hk : IB w.heap.size (.int .u8 op) (.int .i64 ty) (.int .i64 a1) (.int .i64 b1) (.int .i64 n) (.slice none 0 0) (.slice none 0 0) W) (hat : At wL ls ws vt vf W) (hs : Same wL w W) :
    Code.wp Tryd.prog (rights 8 c77) (bodyPost Tryd.prog Tryd.f77 (InsPost wL ls ws vt vf w ⟨op, ty, a1, b1, n, [], []⟩)) a W := by
  obtain ⟨us, hus, rfl⟩ := open141 a hfr.size hfr.no
  have e0 := hfr.val hus 0 _ (List.mem_cons_self)
  have e4 := hfr.val hus 4 _ (List.mem_cons_of_mem _ (List.mem_cons_self))
  rw [e0, e4]
  clear e0 e4 hfr hus
  have k0 := hk.c0
  have k1 := hk.c1
  have k2 := hk.c2
  have k3 := hk.c3
  have k4 := hk.c4
  have k5 := hk.c5
  have k6 := hk.c6
  have z0 := hk.fz 0
  have z1 := hk.fz 1
  have z2 := hk.fz 2
  have z3 := hk.fz 3
  have z4 := hk.fz 4
  have z5 := hk.fz 5
  have z6 := hk.fz 6
  have o18 : (op == 18) = false := beq_eq_false_iff_ne.2 ho.1
  have o19 : (op == 19) = false := beq_eq_false_iff_ne.2 ho.2.1
  have o22 : (op == 22) = false := beq_eq_false_iff_ne.2 ho.2.2
  have HK := Lib.hid hk
  have HA := Lib.hid hat
  have HS := Lib.hid hs
  clear hk hat hs ho
  conv => arg 2; whnf
  go_wp2
  exact ins_end rfl (((((((HK.out.set0 _).set1 _).set2 _).set3 _).set4 _).set5 _).set6 _) (Kd.R_nil _ _ _ _ _) (Kd.R_nil _ _ _ _ _) (by repeat' (first | (with_reducible refine At.set ?_ hlt _ _) | exact HA.out)) (by repeat' (first | (with_reducible refine Same.set ?_ (Nat.le_refl _) _ _) | exact HS.out))
set_option maxHeartbeats 1600000 in
set_option maxRecDepth 100000 in
theorem tail_args18 (wL : World) (ls : List (List ByteArray)) (ws : List ByteArray) (vt vf : Value) (w : World) (ty a1 b1 n : Int) (ps : List Int) (hp : mks 114 ws = some ps) (hl : ws.length ≤ 1000000) (hlt : wL.heap.size < w.heap.size) (a : Act) (W : World)
    (hfr : Fr 141 [(0, pG wL), (4, pB w)] a) (hk : IB w.heap.size (.int .u8 18) (.int .i64 ty) (.int .i64 a1) (.int .i64 b1) (.int .i64 n) (.slice none 0 0) (.slice none 0 0) W) (hat : At wL ls ws vt vf W) (hs : Same wL w W) :
    Code.wp Tryd.prog (rights 8 c77) (bodyPost Tryd.prog Tryd.f77 (InsPost wL ls [] vt vf w ⟨18, ty, a1, b1, n, ps, []⟩)) a W := by
  obtain ⟨us, hus, rfl⟩ := open141 a hfr.size hfr.no
  have e0 := hfr.val hus 0 _ (List.mem_cons_self)
  have e4 := hfr.val hus 4 _ (List.mem_cons_of_mem _ (List.mem_cons_self))
  rw [e0, e4]
  clear e0 e4 hfr hus
  have k0 := hk.c0
  have k1 := hk.c1
  have k2 := hk.c2
  have k3 := hk.c3
  have k4 := hk.c4
  have k5 := hk.c5
  have k6 := hk.c6
  have z0 := hk.fz 0
  have z1 := hk.fz 1
  have z2 := hk.fz 2
  have z3 := hk.fz 3
  have z4 := hk.fz 4
  have z5 := hk.fz 5
  have z6 := hk.fz 6
  have HK := Lib.hid hk
  have HA := Lib.hid hat
  have HS := Lib.hid hs
  have HP := Lib.hid hp
  have HL := Lib.hid hl
  have hbW : w.heap.size < W.heap.size := blk_lt hk
  clear hk hat hs hp hl
  conv => arg 2; whnf
  go_wp2_with (go_at_call 53; refine (marks_ok wL ls ws 114 (by omega) (by omega) ps HP.out HL.out vt vf _ HA.out).mono ?_; rintro e w3 ⟨v, rfl, hr, ha, hs⟩; obtain ⟨Av, cv, rfl⟩ := Kd.R_slice hr; have HR3 := Lib.hid hr; have HA3 := Lib.hid ha; have HS3 := Lib.hid (HS.out.also hs); have hk3 := IB.same HK.out hs hlt; have HK3 := Lib.hid hk3; clear k0 z0 k1 z1 k2 z2 k3 z3 k4 z4 k5 z5 k6 z6; have k0 := hk3.c0; have k1 := hk3.c1; have k2 := hk3.c2; have k3 := hk3.c3; have k4 := hk3.c4; have k5 := hk3.c5; have k6 := hk3.c6; have z0 := hk3.fz 0; have z1 := hk3.fz 1; have z2 := hk3.fz 2; have z3 := hk3.fz 3; have z4 := hk3.fz 4; have z5 := hk3.fz 5; have z6 := hk3.fz 6; clear ha hs hk3 hr)
  exact ins_end rfl ((((((((HK3.out.set5 _).set0 _).set1 _).set2 _).set3 _).set4 _).set5 _).set6 _) (by refine Kd.R_lower (base := W.heap.size) ?_ (Nat.le_of_lt hbW); repeat' (first | (with_reducible refine R_on ?_ hbW _ _) | exact HR3.out)) (Kd.R_nil _ _ _ _ _) (by repeat' (first | (with_reducible refine At.set ?_ hlt _ _) | exact HA3.out)) (by repeat' (first | (with_reducible refine Same.set ?_ (Nat.le_refl _) _ _) | exact HS3.out))
set_option maxHeartbeats 1600000 in
set_option maxRecDepth 100000 in
theorem tail_args18_b (wL : World) (ls : List (List ByteArray)) (ws : List ByteArray) (vt vf : Value) (w : World) (ty a1 b1 n : Int) (hp : mks 114 ws = none) (hl : ws.length ≤ 1000000) (hlt : wL.heap.size < w.heap.size) (a : Act) (W : World)
    (hfr : Fr 141 [(0, pG wL), (4, pB w)] a) (hk : IB w.heap.size (.int .u8 18) (.int .i64 ty) (.int .i64 a1) (.int .i64 b1) (.int .i64 n) (.slice none 0 0) (.slice none 0 0) W) (hat : At wL ls ws vt vf W) (hs : Same wL w W) :
    Code.wp Tryd.prog (rights 8 c77) (bodyPost Tryd.prog Tryd.f77 (Gone wL w)) a W := by
  obtain ⟨us, hus, rfl⟩ := open141 a hfr.size hfr.no
  have e0 := hfr.val hus 0 _ (List.mem_cons_self)
  have e4 := hfr.val hus 4 _ (List.mem_cons_of_mem _ (List.mem_cons_self))
  rw [e0, e4]
  clear e0 e4 hfr hus
  have k0 := hk.c0
  have k1 := hk.c1
  have k2 := hk.c2
  have k3 := hk.c3
  have k4 := hk.c4
  have k5 := hk.c5
  have k6 := hk.c6
  have z0 := hk.fz 0
  have z1 := hk.fz 1
  have z2 := hk.fz 2
  have z3 := hk.fz 3
  have z4 := hk.fz 4
  have z5 := hk.fz 5
  have z6 := hk.fz 6
  have HK := Lib.hid hk
  have HA := Lib.hid hat
  have HS := Lib.hid hs
  have HP := Lib.hid hp
  have HL := Lib.hid hl
  have hbW : w.heap.size < W.heap.size := blk_lt hk
  clear hk hat hs hp hl
  conv => arg 2; whnf
  go_wp2_with (go_at_call 53; refine (marks_bad wL ls ws 114 (by omega) (by omega) HP.out HL.out vt vf _ HA.out).mono ?_; rintro e w3 ⟨rfl, hb⟩)
  exact ⟨rfl, rfl, hb⟩
set_option maxHeartbeats 1600000 in
set_option maxRecDepth 100000 in
theorem tail_args19 (wL : World) (ls : List (List ByteArray)) (ws : List ByteArray) (vt vf : Value) (w : World) (ty a1 b1 n : Int) (ps : List Int) (hp : mks 114 ws = some ps) (hl : ws.length ≤ 1000000) (hlt : wL.heap.size < w.heap.size) (a : Act) (W : World)
    (hfr : Fr 141 [(0, pG wL), (4, pB w)] a) (hk : IB w.heap.size (.int .u8 19) (.int .i64 ty) (.int .i64 a1) (.int .i64 b1) (.int .i64 n) (.slice none 0 0) (.slice none 0 0) W) (hat : At wL ls ws vt vf W) (hs : Same wL w W) :
    Code.wp Tryd.prog (rights 8 c77) (bodyPost Tryd.prog Tryd.f77 (InsPost wL ls [] vt vf w ⟨19, ty, a1, b1, n, ps, []⟩)) a W := by
  obtain ⟨us, hus, rfl⟩ := open141 a hfr.size hfr.no
  have e0 := hfr.val hus 0 _ (List.mem_cons_self)
  have e4 := hfr.val hus 4 _ (List.mem_cons_of_mem _ (List.mem_cons_self))
  rw [e0, e4]
  clear e0 e4 hfr hus
  have k0 := hk.c0
  have k1 := hk.c1
  have k2 := hk.c2
  have k3 := hk.c3
  have k4 := hk.c4
  have k5 := hk.c5
  have k6 := hk.c6
  have z0 := hk.fz 0
  have z1 := hk.fz 1
  have z2 := hk.fz 2
  have z3 := hk.fz 3
  have z4 := hk.fz 4
  have z5 := hk.fz 5
  have z6 := hk.fz 6
  have HK := Lib.hid hk
  have HA := Lib.hid hat
  have HS := Lib.hid hs
  have HP := Lib.hid hp
  have HL := Lib.hid hl
  have hbW : w.heap.size < W.heap.size := blk_lt hk
  clear hk hat hs hp hl
  conv => arg 2; whnf
  go_wp2_with (go_at_call 53; refine (marks_ok wL ls ws 114 (by omega) (by omega) ps HP.out HL.out vt vf _ HA.out).mono ?_; rintro e w3 ⟨v, rfl, hr, ha, hs⟩; obtain ⟨Av, cv, rfl⟩ := Kd.R_slice hr; have HR3 := Lib.hid hr; have HA3 := Lib.hid ha; have HS3 := Lib.hid (HS.out.also hs); have hk3 := IB.same HK.out hs hlt; have HK3 := Lib.hid hk3; clear k0 z0 k1 z1 k2 z2 k3 z3 k4 z4 k5 z5 k6 z6; have k0 := hk3.c0; have k1 := hk3.c1; have k2 := hk3.c2; have k3 := hk3.c3; have k4 := hk3.c4; have k5 := hk3.c5; have k6 := hk3.c6; have z0 := hk3.fz 0; have z1 := hk3.fz 1; have z2 := hk3.fz 2; have z3 := hk3.fz 3; have z4 := hk3.fz 4; have z5 := hk3.fz 5; have z6 := hk3.fz 6; clear ha hs hk3 hr)
  exact ins_end rfl ((((((((HK3.out.set5 _).set0 _).set1 _).set2 _).set3 _).set4 _).set5 _).set6 _) (by refine Kd.R_lower (base := W.heap.size) ?_ (Nat.le_of_lt hbW); repeat' (first | (with_reducible refine R_on ?_ hbW _ _) | exact HR3.out)) (Kd.R_nil _ _ _ _ _) (by repeat' (first | (with_reducible refine At.set ?_ hlt _ _) | exact HA3.out)) (by repeat' (first | (with_reducible refine Same.set ?_ (Nat.le_refl _) _ _) | exact HS3.out))
set_option maxHeartbeats 1600000 in
set_option maxRecDepth 100000 in
theorem tail_args19_b (wL : World) (ls : List (List ByteArray)) (ws : List ByteArray) (vt vf : Value) (w : World) (ty a1 b1 n : Int) (hp : mks 114 ws = none) (hl : ws.length ≤ 1000000) (hlt : wL.heap.size < w.heap.size) (a : Act) (W : World)
    (hfr : Fr 141 [(0, pG wL), (4, pB w)] a) (hk : IB w.heap.size (.int .u8 19) (.int .i64 ty) (.int .i64 a1) (.int .i64 b1) (.int .i64 n) (.slice none 0 0) (.slice none 0 0) W) (hat : At wL ls ws vt vf W) (hs : Same wL w W) :
    Code.wp Tryd.prog (rights 8 c77) (bodyPost Tryd.prog Tryd.f77 (Gone wL w)) a W := by
  obtain ⟨us, hus, rfl⟩ := open141 a hfr.size hfr.no
  have e0 := hfr.val hus 0 _ (List.mem_cons_self)
  have e4 := hfr.val hus 4 _ (List.mem_cons_of_mem _ (List.mem_cons_self))
  rw [e0, e4]
  clear e0 e4 hfr hus
  have k0 := hk.c0
  have k1 := hk.c1
  have k2 := hk.c2
  have k3 := hk.c3
  have k4 := hk.c4
  have k5 := hk.c5
  have k6 := hk.c6
  have z0 := hk.fz 0
  have z1 := hk.fz 1
  have z2 := hk.fz 2
  have z3 := hk.fz 3
  have z4 := hk.fz 4
  have z5 := hk.fz 5
  have z6 := hk.fz 6
  have HK := Lib.hid hk
  have HA := Lib.hid hat
  have HS := Lib.hid hs
  have HP := Lib.hid hp
  have HL := Lib.hid hl
  have hbW : w.heap.size < W.heap.size := blk_lt hk
  clear hk hat hs hp hl
  conv => arg 2; whnf
  go_wp2_with (go_at_call 53; refine (marks_bad wL ls ws 114 (by omega) (by omega) HP.out HL.out vt vf _ HA.out).mono ?_; rintro e w3 ⟨rfl, hb⟩)
  exact ⟨rfl, rfl, hb⟩
def prF : List ByteArray → Option (List Int × List Int)
  | [] => some ([], [])
  | [_] => none
  | x :: y :: r => (mk1 98 x).bind fun b => (mk1 114 y).bind fun q => (prF r).map fun p => (b :: p.1, q :: p.2)
theorem R_new {α : Type} {d : Kd α} {e base : Nat} {ok : Nat → Prop} {v : Value} {xs : List α} {W : World} (h : d.R e W base ok v xs) : ∀ k, W.heap.size ≤ k → True ∧ some k ≠ v.ownBlock :=
  fun k hk => ⟨trivial, fun he => by have := Kd.R_lt h k he.symm; omega⟩
set_option maxHeartbeats 3200000 in
set_option maxRecDepth 100000 in
theorem tail_phi (wL : World) (ls : List (List ByteArray)) (ws : List ByteArray) (vt vf : Value) (w : World) (ty a1 b1 n : Int) (F G : List Int) (hp : prF ws = some (F, G)) (hl : ws.length ≤ 1000000) (hlt : wL.heap.size < w.heap.size) (a : Act) (W : World)
    (hfr : Fr 141 [(0, pG wL), (4, pB w)] a) (hk : IB w.heap.size (.int .u8 22) (.int .i64 ty) (.int .i64 a1) (.int .i64 b1) (.int .i64 n) (.slice none 0 0) (.slice none 0 0) W) (hat : At wL ls ws vt vf W) (hs : Same wL w W) :
    Code.wp Tryd.prog (rights 8 c77) (bodyPost Tryd.prog Tryd.f77 (InsPost wL ls [] vt vf w ⟨22, ty, a1, b1, n, G, F⟩)) a W := by
  obtain ⟨us, hus, rfl⟩ := open141 a hfr.size hfr.no
  have e0 := hfr.val hus 0 _ (List.mem_cons_self)
  have e4 := hfr.val hus 4 _ (List.mem_cons_of_mem _ (List.mem_cons_self))
  rw [e0, e4]
  clear e0 e4 hfr hus
  have k0 := hk.c0
  have k1 := hk.c1
  have k2 := hk.c2
  have k3 := hk.c3
  have k4 := hk.c4
  have k5 := hk.c5
  have k6 := hk.c6
  have z0 := hk.fz 0
  have z1 := hk.fz 1
  have z2 := hk.fz 2
  have z3 := hk.fz 3
  have z4 := hk.fz 4
  have z5 := hk.fz 5
  have z6 := hk.fz 6
  have HK := Lib.hid hk
  have HA := Lib.hid hat
  have HS := Lib.hid hs
  have HP := Lib.hid hp
  have hbW : w.heap.size < W.heap.size := blk_lt hk
  clear hk hat hs hp
  conv => arg 2; whnf
  go_wp2
  clear k0 z0 k1 z1 k2 z2 k3 z3 k4 z4 k5 z5 k6 z6
  go_loopg [121] ws.length (fun g _ Wr => ∃ (rest : List ByteArray) (fs gs : List Int) (v5 v6 : Value), rest.length = g ∧ Hid ((prF rest).map (fun p => (fs ++ p.1, gs ++ p.2)) = some (F, G)) ∧ fs.length + rest.length ≤ ws.length ∧ gs.length + rest.length ≤ ws.length ∧ Hid (IB w.heap.size (.int .u8 22) (.int .i64 ty) (.int .i64 a1) (.int .i64 b1) (.int .i64 n) v5 v6 Wr) ∧ Hid (At wL ls rest vt vf Wr) ∧ Hid (Same wL w Wr) ∧ Hid (KI.R 3 Wr (w.heap.size + 1) (fun k => True ∧ some k ≠ v6.ownBlock) v5 gs) ∧ Hid (KI.R 3 Wr (w.heap.size + 1) (fun k => True ∧ some k ≠ v5.ownBlock) v6 fs))
  case atStart => exact ⟨ws, [], [], _, _, rfl, (show _ = _ by rw [HP.out]; rfl), by simp, by simp, HK.out, HA.out, HS.out, Kd.R_nil _ _ _ _ _, Kd.R_nil _ _ _ _ _⟩
  case round =>
    obtain ⟨rest, fs, gs, v5, v6, hg, HQ, hl1, hl2, HKr, HAr, HSr, H5, H6⟩ := hrel
    obtain ⟨vl, vw, hr, _, ⟨A, cc, rfl, _, _⟩⟩ := HAr.out.rb
    have c1 := hr.c1
    clear hr
    subst hg
    cases rest with
    | nil =>
      have hd : (fs, gs) = (F, G) := by have := HQ.out; simpa [prF] using this
      have HD := Lib.hid hd
      clear hd
      obtain ⟨A5, c5, rfl⟩ := Kd.R_slice H5.out
      obtain ⟨A6, c6, rfl⟩ := Kd.R_slice H6.out
      have k0 := HKr.out.c0
      have k1 := HKr.out.c1
      have k2 := HKr.out.c2
      have k3 := HKr.out.c3
      have k4 := HKr.out.c4
      have k5 := HKr.out.c5
      have k6 := HKr.out.c6
      have z0 := HKr.out.fz 0
      have z1 := HKr.out.fz 1
      have z2 := HKr.out.fz 2
      have z3 := HKr.out.fz 3
      have z4 := HKr.out.fz 4
      have z5 := HKr.out.fz 5
      have z6 := HKr.out.fz 6
      go_wp2
      injection HD.out with e1 e2
      subst e1; subst e2
      exact ins_end rfl (((((((HKr.out.set0 _).set1 _).set2 _).set3 _).set4 _).set5 _).set6 _) (by refine Kd.R_lower (base := w.heap.size + 1) ?_ (Nat.le_succ _); repeat' (first | (with_reducible refine R_on ?_ (Nat.lt_succ_self _) _ _) | exact Kd.R_mono H5.out (fun _ _ => trivial))) (by refine Kd.R_lower (base := w.heap.size + 1) ?_ (Nat.le_succ _); repeat' (first | (with_reducible refine R_on ?_ (Nat.lt_succ_self _) _ _) | exact Kd.R_mono H6.out (fun _ _ => trivial))) (by repeat' (first | (with_reducible refine At.set ?_ hlt _ _) | exact HAr.out)) (by repeat' (first | (with_reducible refine Same.set ?_ (Nat.le_refl _) _ _) | exact HSr.out))
    | cons x r1 =>
      obtain ⟨y, r, rfl⟩ : ∃ y r, r1 = y :: r := by
        cases r1 with
        | nil => have := HQ.out; simp [prF] at this
        | cons y r => exact ⟨y, r, rfl⟩
      obtain ⟨m, hm⟩ : ∃ m, mk1 98 x = some m := by
        cases hx : mk1 98 x with
        | some m => exact ⟨m, rfl⟩
        | none => have := HQ.out; simp [prF, hx] at this
      obtain ⟨q, hq⟩ : ∃ q, mk1 114 y = some q := by
        cases hx : mk1 114 y with
        | some q => exact ⟨q, rfl⟩
        | none => have := HQ.out; simp [prF, hm, hx] at this
      have hq2 : (prF r).map (fun p => ((fs ++ [m]) ++ p.1, (gs ++ [q]) ++ p.2)) = some (F, G) := by
        have := HQ.out
        simp only [prF, hm, hq, Option.bind_some, Option.map_map] at this
        rw [← this]
        congr 1
        funext p
        simp
      have HQ2 := Lib.hid hq2
      have HM := Lib.hid hm
      have HQQ := Lib.hid hq
      clear hq2 hm hq
      have n0 : decide (0 < (x :: y :: r).length) = true := decide_eq_true (by simp)
      have n1 : (0 : Int) < ((x :: y :: r).length : Int) := by simp; omega
      have hl3 : fs.length + r.length + 2 ≤ ws.length := by simp at hl1; omega
      have hl4 : gs.length + r.length + 2 ≤ ws.length := by simp at hl2; omega
      have hbr : w.heap.size < wr.heap.size := blk_lt HKr.out
      clear hl1 hl2
      obtain ⟨mm, hmm⟩ : ∃ mm, mm = (x :: y :: r).length := ⟨_, rfl⟩
      rw [← hmm] at c1 n0 n1
      have HMM := Lib.hid hmm
      clear hmm
      go_wp2_with fail
      have k6 := HKr.out.c6
      have z6 := HKr.out.fz 6
      go_region_law (first
        | (refine Kd.R_append_step KI (w0 := w1) (w.heap.size + 1) (by rfl) (.tmp 123) (.tmp 128) 37 3 (.int .i64 0) 8 (by rfl) Tryd.underlying37 info3' rfl (by decide) (by decide) v6 fs m [.int .i64 m] (fun k => True ∧ some k ≠ v5.ownBlock) (fun _ => False) (by simp [Act.eval, Act.put]) (by simp [Act.eval, Act.put]) rfl (fun _ hk => hk.elim) (R_new H51.out) H61.out (Below.refl _ _) hz1 (by omega) ?_; intro v12 w2 ho hb hg hat; obtain ⟨A12, c12, rfl⟩ := Kd.R_slice ho; rw [List.length_append, List.length_singleton] at ho hat; have HB2 := Lib.hid hb; have hk2 := IB.block HK1.out (hb.block _ (Nat.lt_succ_self _)); have HK2 := Lib.hid hk2; have HO2 := Lib.hid ho; have HP2 := Lib.hid (Kd.R_after (ok := fun _ => True) H51.out hg hat); have k6 := hk2.c6; have z6 := hk2.fz 6; clear ho hb hg hat hk2)
        | (go_simp; go_at_call 52; refine (mark_ok wL ls x (y :: r) 98 (by omega) (by omega) _ HM.out vt vf _ (HAr.out.drewN _)).mono ?_; rintro e w1 ⟨rfl, ha, hs⟩; have HA1 := Lib.hid ha; have HS1 := Lib.hid (HSr.out.also hs); have hk1 := IB.same HKr.out hs hlt; have HK1 := Lib.hid hk1; have hz1 := Nat.lt_of_lt_of_le hbr hs.1; have H51 := Lib.hid (R_same H5.out hs (Nat.lt_succ_of_lt hlt)); have H61 := Lib.hid (R_same H6.out hs (Nat.lt_succ_of_lt hlt)); have k5 := hk1.c5; have k6 := hk1.c6; have z5 := hk1.fz 5; have z6 := hk1.fz 6; clear ha hs hk1))
      all_goals
        have ha3 := ((HA1.out.upon (HB2.out.mono (Nat.le_succ _)) hlt).set hlt 6 (.slice A12 (fs.length + 1) c12))
        have hs3 := ((HS1.out.upon (HB2.out.mono (Nat.le_succ _))).set (Nat.le_refl _) 6 (.slice A12 (fs.length + 1) c12))
        have hk3 := (HK2.out.set6 (.slice A12 (fs.length + 1) c12))
        have h53 := R_on HP2.out (Nat.lt_succ_self _) 6 (.slice A12 (fs.length + 1) c12)
        have h63 := R_on HO2.out (Nat.lt_succ_self _) 6 (.slice A12 (fs.length + 1) c12)
        have hz3 : w.heap.size < (w2.setCell ⟨w.heap.size, 6, none⟩ (.slice A12 (fs.length + 1) c12)).heap.size := blk_lt hk3
        clear k5 k6 z5 z6
        generalize w2.setCell ⟨w.heap.size, 6, none⟩ (.slice A12 (fs.length + 1) c12) = w3 at ha3 hs3 hk3 h53 h63 hz3 ⊢
        have HA3 := Lib.hid ha3
        have HS3 := Lib.hid hs3
        have HK3 := Lib.hid hk3
        have H53 := Lib.hid h53
        have H63 := Lib.hid h63
        have k5 := hk3.c5
        have z5 := hk3.fz 5
        clear ha3 hs3 hk3 h53 h63
        go_wp2_with fail
        go_region_law (first
          | (refine Kd.R_append_step KI (w0 := w4) (w.heap.size + 1) (by rfl) (.tmp 132) (.tmp 137) 37 3 (.int .i64 0) 8 (by rfl) Tryd.underlying37 info3' rfl (by decide) (by decide) v5 gs q [.int .i64 q] (fun k => True ∧ some k ≠ (Value.slice A12 (fs.length + 1) c12).ownBlock) (fun _ => False) (by simp [Act.eval, Act.put]) (by simp [Act.eval, Act.put]) rfl (fun _ hk => hk.elim) (R_new H64.out) H54.out (Below.refl _ _) hz4 (by omega) ?_; intro v15 w5 ho hb hg hat; obtain ⟨A15, c15, rfl⟩ := Kd.R_slice ho; rw [List.length_append, List.length_singleton] at ho hat; have HB5 := Lib.hid hb; have hk5 := IB.block HK4.out (hb.block _ (Nat.lt_succ_self _)); have HK5 := Lib.hid hk5; have HO5 := Lib.hid ho; have HP5 := Lib.hid (Kd.R_after (ok := fun _ => True) H64.out hg hat); have k5 := hk5.c5; have z5 := hk5.fz 5; clear ho hb hg hat hk5)
          | (go_simp; go_at_call 52; refine (mark_ok wL ls y r 114 (by omega) (by omega) _ HQQ.out vt vf _ (HA3.out.drewN _)).mono ?_; rintro e w4 ⟨rfl, ha, hs⟩; have HA4 := Lib.hid ha; have HS4 := Lib.hid (HS3.out.also hs); have hk4 := IB.same HK3.out hs hlt; have HK4 := Lib.hid hk4; have hz4 := Nat.lt_of_lt_of_le hz3 hs.1; have H54 := Lib.hid (R_same H53.out hs (Nat.lt_succ_of_lt hlt)); have H64 := Lib.hid (R_same H63.out hs (Nat.lt_succ_of_lt hlt)); have k5 := hk4.c5; have k6 := hk4.c6; have z5 := hk4.fz 5; have z6 := hk4.fz 6; clear ha hs hk4))
        all_goals
          go_wp2_with fail
          go_roundg r.length
          case measure => simp; omega
          case rel => exact ⟨r, fs ++ [m], gs ++ [q], .slice A15 (gs.length + 1) c15, .slice A12 (fs.length + 1) c12, rfl, HQ2.out, by simp; omega, by simp; omega, HK5.out.set5 _, ((HA4.out.upon (HB5.out.mono (Nat.le_succ _)) hlt).set hlt 5 _), ((HS4.out.upon (HB5.out.mono (Nat.le_succ _))).set (Nat.le_refl _) 5 _), R_on HO5.out (Nat.lt_succ_self _) 5 _, R_on HP5.out (Nat.lt_succ_self _) 5 _⟩
set_option maxHeartbeats 3200000 in
set_option maxRecDepth 100000 in
theorem tail_phi_b (wL : World) (ls : List (List ByteArray)) (ws : List ByteArray) (vt vf : Value) (w : World) (ty a1 b1 n : Int) (hp : prF ws = none) (hl : ws.length ≤ 1000000) (hlt : wL.heap.size < w.heap.size) (a : Act) (W : World)
    (hfr : Fr 141 [(0, pG wL), (4, pB w)] a) (hk : IB w.heap.size (.int .u8 22) (.int .i64 ty) (.int .i64 a1) (.int .i64 b1) (.int .i64 n) (.slice none 0 0) (.slice none 0 0) W) (hat : At wL ls ws vt vf W) (hs : Same wL w W) :
    Code.wp Tryd.prog (rights 8 c77) (bodyPost Tryd.prog Tryd.f77 (Gone wL w)) a W := by
  obtain ⟨us, hus, rfl⟩ := open141 a hfr.size hfr.no
  have e0 := hfr.val hus 0 _ (List.mem_cons_self)
  have e4 := hfr.val hus 4 _ (List.mem_cons_of_mem _ (List.mem_cons_self))
  rw [e0, e4]
  clear e0 e4 hfr hus
  have k0 := hk.c0
  have k1 := hk.c1
  have k2 := hk.c2
  have k3 := hk.c3
  have k4 := hk.c4
  have k5 := hk.c5
  have k6 := hk.c6
  have z0 := hk.fz 0
  have z1 := hk.fz 1
  have z2 := hk.fz 2
  have z3 := hk.fz 3
  have z4 := hk.fz 4
  have z5 := hk.fz 5
  have z6 := hk.fz 6
  have HK := Lib.hid hk
  have HA := Lib.hid hat
  have HS := Lib.hid hs
  have HP := Lib.hid hp
  have hbW : w.heap.size < W.heap.size := blk_lt hk
  clear hk hat hs hp
  conv => arg 2; whnf
  go_wp2
  clear k0 z0 k1 z1 k2 z2 k3 z3 k4 z4 k5 z5 k6 z6
  go_loopg [121] ws.length (fun g _ Wr => ∃ (rest : List ByteArray) (fs gs : List Int) (v5 v6 : Value), rest.length = g ∧ Hid (prF rest = none) ∧ fs.length + rest.length ≤ ws.length ∧ gs.length + rest.length ≤ ws.length ∧ Hid (IB w.heap.size (.int .u8 22) (.int .i64 ty) (.int .i64 a1) (.int .i64 b1) (.int .i64 n) v5 v6 Wr) ∧ Hid (At wL ls rest vt vf Wr) ∧ Hid (Same wL w Wr) ∧ Hid (KI.R 3 Wr (w.heap.size + 1) (fun k => True ∧ some k ≠ v6.ownBlock) v5 gs) ∧ Hid (KI.R 3 Wr (w.heap.size + 1) (fun k => True ∧ some k ≠ v5.ownBlock) v6 fs))
  case atStart => exact ⟨ws, [], [], _, _, rfl, HP.out, by simp, by simp, HK.out, HA.out, HS.out, Kd.R_nil _ _ _ _ _, Kd.R_nil _ _ _ _ _⟩
  case round =>
    obtain ⟨rest, fs, gs, v5, v6, hg, HQ, hl1, hl2, HKr, HAr, HSr, H5, H6⟩ := hrel
    obtain ⟨vl, vw, hr, _, ⟨A, cc, rfl, _, _⟩⟩ := HAr.out.rb
    have c1 := hr.c1
    clear hr
    subst hg
    cases rest with
    | nil =>
      exact absurd HQ.out (by simp [prF])
    | cons x r1 =>
      have n0 : decide (0 < (x :: r1).length) = true := decide_eq_true (by simp)
      have n1 : (0 : Int) < ((x :: r1).length : Int) := by simp
      have hl3 : fs.length + r1.length + 1 ≤ ws.length := by simp at hl1; omega
      have hl4 : gs.length + r1.length + 1 ≤ ws.length := by simp at hl2; omega
      have hbr : w.heap.size < wr.heap.size := blk_lt HKr.out
      clear hl1 hl2
      obtain ⟨mm, hmm⟩ : ∃ mm, mm = (x :: r1).length := ⟨_, rfl⟩
      rw [← hmm] at c1 n0 n1
      have HMM := Lib.hid hmm
      clear hmm
      cases hx : mk1 98 x with
      | none =>
        have HM := Lib.hid hx
        clear hx
        go_wp2_with fail
        have k6 := HKr.out.c6
        have z6 := HKr.out.fz 6
        go_region_law (go_simp; go_at_call 52; refine (mark_bad wL ls x r1 98 (by omega) (by omega) HM.out vt vf _ (HAr.out.drewN _)).mono ?_; rintro e w4 ⟨rfl, hb⟩; refine gone_dummy (w := w) ⟨rfl, rfl, hb⟩ ?_)
        all_goals trivial
      | some m =>
        have HM := Lib.hid hx
        clear hx
        go_wp2_with fail
        have k6 := HKr.out.c6
        have z6 := HKr.out.fz 6
        go_region_law (first
          | (refine Kd.R_append_step KI (w0 := w1) (w.heap.size + 1) (by rfl) (.tmp 123) (.tmp 128) 37 3 (.int .i64 0) 8 (by rfl) Tryd.underlying37 info3' rfl (by decide) (by decide) v6 fs m [.int .i64 m] (fun k => True ∧ some k ≠ v5.ownBlock) (fun _ => False) (by simp [Act.eval, Act.put]) (by simp [Act.eval, Act.put]) rfl (fun _ hk => hk.elim) (R_new H51.out) H61.out (Below.refl _ _) hz1 (by omega) ?_; intro v12 w2 ho hb hg hat; obtain ⟨A12, c12, rfl⟩ := Kd.R_slice ho; rw [List.length_append, List.length_singleton] at ho hat; have HB2 := Lib.hid hb; have hk2 := IB.block HK1.out (hb.block _ (Nat.lt_succ_self _)); have HK2 := Lib.hid hk2; have HO2 := Lib.hid ho; have HP2 := Lib.hid (Kd.R_after (ok := fun _ => True) H51.out hg hat); have k6 := hk2.c6; have z6 := hk2.fz 6; clear ho hb hg hat hk2)
          | (go_simp; go_at_call 52; refine (mark_ok wL ls x r1 98 (by omega) (by omega) _ HM.out vt vf _ (HAr.out.drewN _)).mono ?_; rintro e w1 ⟨rfl, ha, hs⟩; have HA1 := Lib.hid ha; have HS1 := Lib.hid (HSr.out.also hs); have hk1 := IB.same HKr.out hs hlt; have HK1 := Lib.hid hk1; have hz1 := Nat.lt_of_lt_of_le hbr hs.1; have H51 := Lib.hid (R_same H5.out hs (Nat.lt_succ_of_lt hlt)); have H61 := Lib.hid (R_same H6.out hs (Nat.lt_succ_of_lt hlt)); have k5 := hk1.c5; have k6 := hk1.c6; have z5 := hk1.fz 5; have z6 := hk1.fz 6; clear ha hs hk1))
        all_goals
          have ha3 := ((HA1.out.upon (HB2.out.mono (Nat.le_succ _)) hlt).set hlt 6 (.slice A12 (fs.length + 1) c12))
          have hs3 := ((HS1.out.upon (HB2.out.mono (Nat.le_succ _))).set (Nat.le_refl _) 6 (.slice A12 (fs.length + 1) c12))
          have hk3 := (HK2.out.set6 (.slice A12 (fs.length + 1) c12))
          have h53 := R_on HP2.out (Nat.lt_succ_self _) 6 (.slice A12 (fs.length + 1) c12)
          have h63 := R_on HO2.out (Nat.lt_succ_self _) 6 (.slice A12 (fs.length + 1) c12)
          have hz3 : w.heap.size < (w2.setCell ⟨w.heap.size, 6, none⟩ (.slice A12 (fs.length + 1) c12)).heap.size := blk_lt hk3
          clear k5 k6 z5 z6
          generalize w2.setCell ⟨w.heap.size, 6, none⟩ (.slice A12 (fs.length + 1) c12) = w3 at ha3 hs3 hk3 h53 h63 hz3 ⊢
          have HA3 := Lib.hid ha3
          have HS3 := Lib.hid hs3
          have HK3 := Lib.hid hk3
          have H53 := Lib.hid h53
          have H63 := Lib.hid h63
          have k5 := hk3.c5
          have z5 := hk3.fz 5
          clear ha3 hs3 hk3 h53 h63
          go_wp2_with fail
          cases r1 with
          | nil =>
            go_region_law (go_simp; go_at_call 52; refine (mark_none wL ls 114 vt vf _ (HA3.out.drewN _)).mono ?_; rintro e w4 ⟨rfl, hb⟩; refine gone_dummy (w := w) ⟨rfl, rfl, hb⟩ ?_)
            all_goals trivial
          | cons y r =>
            cases hy : mk1 114 y with
            | none =>
              have HQQ := Lib.hid hy
              clear hy
              go_region_law (go_simp; go_at_call 52; refine (mark_bad wL ls y r 114 (by omega) (by omega) HQQ.out vt vf _ (HA3.out.drewN _)).mono ?_; rintro e w4 ⟨rfl, hb⟩; refine gone_dummy (w := w) ⟨rfl, rfl, hb⟩ ?_)
              all_goals trivial
            | some q =>
              have HQQ := Lib.hid hy
              have HQ2 := Lib.hid (show prF r = none by
                have := HQ.out
                simp only [prF, HM.out, hy, Option.bind_some, Option.map_eq_none_iff] at this
                exact this)
              have hl5 : fs.length + r.length + 2 ≤ ws.length := by simp at hl3; omega
              have hl6 : gs.length + r.length + 2 ≤ ws.length := by simp at hl4; omega
              clear hl3 hl4
              clear hy
              go_region_law (first
                | (refine Kd.R_append_step KI (w0 := w4) (w.heap.size + 1) (by rfl) (.tmp 132) (.tmp 137) 37 3 (.int .i64 0) 8 (by rfl) Tryd.underlying37 info3' rfl (by decide) (by decide) v5 gs q [.int .i64 q] (fun k => True ∧ some k ≠ (Value.slice A12 (fs.length + 1) c12).ownBlock) (fun _ => False) (by simp [Act.eval, Act.put]) (by simp [Act.eval, Act.put]) rfl (fun _ hk => hk.elim) (R_new H64.out) H54.out (Below.refl _ _) hz4 (by omega) ?_; intro v15 w5 ho hb hg hat; obtain ⟨A15, c15, rfl⟩ := Kd.R_slice ho; rw [List.length_append, List.length_singleton] at ho hat; have HB5 := Lib.hid hb; have hk5 := IB.block HK4.out (hb.block _ (Nat.lt_succ_self _)); have HK5 := Lib.hid hk5; have HO5 := Lib.hid ho; have HP5 := Lib.hid (Kd.R_after (ok := fun _ => True) H64.out hg hat); have k5 := hk5.c5; have z5 := hk5.fz 5; clear ho hb hg hat hk5)
                | (go_simp; go_at_call 52; refine (mark_ok wL ls y r 114 (by omega) (by omega) _ HQQ.out vt vf _ (HA3.out.drewN _)).mono ?_; rintro e w4 ⟨rfl, ha, hs⟩; have HA4 := Lib.hid ha; have HS4 := Lib.hid (HS3.out.also hs); have hk4 := IB.same HK3.out hs hlt; have HK4 := Lib.hid hk4; have hz4 := Nat.lt_of_lt_of_le hz3 hs.1; have H54 := Lib.hid (R_same H53.out hs (Nat.lt_succ_of_lt hlt)); have H64 := Lib.hid (R_same H63.out hs (Nat.lt_succ_of_lt hlt)); have k5 := hk4.c5; have k6 := hk4.c6; have z5 := hk4.fz 5; have z6 := hk4.fz 6; clear ha hs hk4))
              all_goals
                go_wp2_with fail
                go_roundg r.length
                case measure => simp; omega
                case rel => exact ⟨r, fs ++ [m], gs ++ [q], .slice A15 (gs.length + 1) c15, .slice A12 (fs.length + 1) c12, rfl, HQ2.out, by simp; omega, by simp; omega, HK5.out.set5 _, ((HA4.out.upon (HB5.out.mono (Nat.le_succ _)) hlt).set hlt 5 _), ((HS4.out.upon (HB5.out.mono (Nat.le_succ _))).set (Nat.le_refl _) 5 _), R_on HO5.out (Nat.lt_succ_self _) 5 _, R_on HP5.out (Nat.lt_succ_self _) 5 _⟩
end Go.Proofs.YtlghkomipboflaaDoor.Rd
end
section
namespace Go.Proofs.YtlghkomipboflaaDoor.Rd
open Go.RowKit Go.Proofs.YtlghkomipboflaaDoor Go.Proofs.YtlghkomipboflaaDoor.X Go.Proofs.YtlghkomipboflaaDoorW.PrintWords Go.Proofs.YtlghkomipboflaaDoorW.PrintLast Go.Proofs.YtlghkomipboflaaDoorW.PrintMore
set_option linter.unusedVariables false
set_option linter.unusedSimpArgs false
def tailF (op : Int) (ws : List ByteArray) : Option (List Int × List Int × List ByteArray) :=
  if op = 18 then (mks 114 ws).map fun ps => (ps, [], [])
  else if op = 19 then (mks 114 ws).map fun ps => (ps, [], [])
  else if op = 22 then (prF ws).map fun p => (p.2, p.1, [])
  else some ([], [], ws)
theorem tail_ok (wL : World) (ls : List (List ByteArray)) (ws : List ByteArray) (vt vf : Value) (w : World) (op ty a1 b1 n : Int) (ps fs : List Int) (r : List ByteArray) (ht : tailF op ws = some (ps, fs, r)) (hl : ws.length ≤ 1000000) (hlt : wL.heap.size < w.heap.size) (a : Act) (W : World)
    (hfr : Fr 141 [(0, pG wL), (4, pB w)] a) (hk : IB w.heap.size (.int .u8 op) (.int .i64 ty) (.int .i64 a1) (.int .i64 b1) (.int .i64 n) (.slice none 0 0) (.slice none 0 0) W) (hat : At wL ls ws vt vf W) (hs : Same wL w W) :
    Code.wp Tryd.prog (rights 8 c77) (bodyPost Tryd.prog Tryd.f77 (InsPost wL ls r vt vf w ⟨op, ty, a1, b1, n, ps, fs⟩)) a W := by
  unfold tailF at ht
  by_cases h18 : op = 18
  · rw [if_pos h18, Option.map_eq_some_iff] at ht
    obtain ⟨p, hp, he⟩ := ht
    simp only [Prod.mk.injEq] at he
    obtain ⟨rfl, rfl, rfl⟩ := he
    subst h18
    exact tail_args18 wL ls ws vt vf w ty a1 b1 n p hp hl hlt a W hfr hk hat hs
  rw [if_neg h18] at ht
  by_cases h19 : op = 19
  · rw [if_pos h19, Option.map_eq_some_iff] at ht
    obtain ⟨p, hp, he⟩ := ht
    simp only [Prod.mk.injEq] at he
    obtain ⟨rfl, rfl, rfl⟩ := he
    subst h19
    exact tail_args19 wL ls ws vt vf w ty a1 b1 n p hp hl hlt a W hfr hk hat hs
  rw [if_neg h19] at ht
  by_cases h22 : op = 22
  · rw [if_pos h22, Option.map_eq_some_iff] at ht
    obtain ⟨p, hp, he⟩ := ht
    simp only [Prod.mk.injEq] at he
    obtain ⟨rfl, rfl, rfl⟩ := he
    subst h22
    exact tail_phi wL ls ws vt vf w ty a1 b1 n p.1 p.2 hp hl hlt a W hfr hk hat hs
  · rw [if_neg h22] at ht
    simp only [Option.some.injEq, Prod.mk.injEq] at ht
    obtain ⟨rfl, rfl, rfl⟩ := ht
    exact tail_other wL ls ws vt vf w op ty a1 b1 n ⟨h18, h19, h22⟩ hlt a W hfr hk hat hs
theorem tail_bad (wL : World) (ls : List (List ByteArray)) (ws : List ByteArray) (vt vf : Value) (w : World) (op ty a1 b1 n : Int) (ht : tailF op ws = none) (hl : ws.length ≤ 1000000) (hlt : wL.heap.size < w.heap.size) (a : Act) (W : World)
    (hfr : Fr 141 [(0, pG wL), (4, pB w)] a) (hk : IB w.heap.size (.int .u8 op) (.int .i64 ty) (.int .i64 a1) (.int .i64 b1) (.int .i64 n) (.slice none 0 0) (.slice none 0 0) W) (hat : At wL ls ws vt vf W) (hs : Same wL w W) :
    Code.wp Tryd.prog (rights 8 c77) (bodyPost Tryd.prog Tryd.f77 (Gone wL w)) a W := by
  unfold tailF at ht
  by_cases h18 : op = 18
  · rw [if_pos h18, Option.map_eq_none_iff] at ht
    subst h18
    exact tail_args18_b wL ls ws vt vf w ty a1 b1 n ht hl hlt a W hfr hk hat hs
  rw [if_neg h18] at ht
  by_cases h19 : op = 19
  · rw [if_pos h19, Option.map_eq_none_iff] at ht
    subst h19
    exact tail_args19_b wL ls ws vt vf w ty a1 b1 n ht hl hlt a W hfr hk hat hs
  rw [if_neg h19] at ht
  by_cases h22 : op = 22
  · rw [if_pos h22, Option.map_eq_none_iff] at ht
    subst h22
    exact tail_phi_b wL ls ws vt vf w ty a1 b1 n ht hl hlt a W hfr hk hat hs
  · rw [if_neg h22] at ht; cases ht
structure St (wL : World) (ls : List (List ByteArray)) (ws : List ByteArray) (vt vf : Value) (w : World) (op ty a1 b1 n : Int) (a : Act) (W : World) : Prop where
  fr : Fr 141 [(0, pG wL), (4, pB w)] a
  ib : IB w.heap.size (.int .u8 op) (.int .i64 ty) (.int .i64 a1) (.int .i64 b1) (.int .i64 n) (.slice none 0 0) (.slice none 0 0) W
  at_ : At wL ls ws vt vf W
  same : Same wL w W
set_option maxHeartbeats 1600000 in
set_option maxRecDepth 100000 in
theorem num_ok (wL : World) (ls : List (List ByteArray)) (ws : List ByteArray) (vt vf : Value) (w : World) (op ty a1 b1 n0 : Int) (hlt : wL.heap.size < w.heap.size) (n : Int) (r : List ByteArray) (hn : numF op ws = some (n, r)) (T : Code) (R : Ending → World → Prop)
    (hT : ∀ a W, St wL ls r vt vf w op ty a1 b1 n a W → Code.wp Tryd.prog T (bodyPost Tryd.prog Tryd.f77 R) a W) (a : Act) (W : World) (h : St wL ls ws vt vf w op ty a1 b1 n0 a W) :
    Code.wp Tryd.prog (cutAt 1 (rights 7 c77) T) (bodyPost Tryd.prog Tryd.f77 R) a W := by
  obtain ⟨us, hus, rfl⟩ := open141 a h.fr.size h.fr.no
  have e0 := h.fr.val hus 0 _ (List.mem_cons_self)
  have e4 := h.fr.val hus 4 _ (List.mem_cons_of_mem _ (List.mem_cons_self))
  rw [e0, e4]
  clear e0 e4
  have hk := h.ib
  have k0 := hk.c0
  have k1 := hk.c1
  have k2 := hk.c2
  have k3 := hk.c3
  have k4 := hk.c4
  have k5 := hk.c5
  have k6 := hk.c6
  have z0 := hk.fz 0
  have z1 := hk.fz 1
  have z2 := hk.fz 2
  have z3 := hk.fz 3
  have z4 := hk.fz 4
  have z5 := hk.fz 5
  have z6 := hk.fz 6
  have HK := Lib.hid hk
  have HA := Lib.hid h.at_
  have HS := Lib.hid h.same
  clear hk h hus
  have HN := Lib.hid hn
  have HT := Lib.hid hT
  clear hn hT
  conv => arg 2; whnf
  go_wp2_with (go_at_call 90; refine (number_ok wL ls op ws n r HN.out vt vf _ HA.out).mono ?_; rintro e w2 ⟨rfl, ha, hs⟩; have HA2 := Lib.hid ha; have HS2 := Lib.hid (HS.out.also hs); have hk2 := IB.same HK.out hs hlt; have HK2 := Lib.hid hk2; clear k0 z0 k1 z1 k2 z2 k3 z3 k4 z4 k5 z5 k6 z6; have k0 := hk2.c0; have k1 := hk2.c1; have k2 := hk2.c2; have k3 := hk2.c3; have k4 := hk2.c4; have k5 := hk2.c5; have k6 := hk2.c6; have z0 := hk2.fz 0; have z1 := hk2.fz 1; have z2 := hk2.fz 2; have z3 := hk2.fz 3; have z4 := hk2.fz 4; have z5 := hk2.fz 5; have z6 := hk2.fz 6; clear ha hs hk2)
  exact HT.out _ _ ⟨⟨rfl, by intro p hp; simp only [List.mem_cons, List.not_mem_nil, or_false] at hp; rcases hp with rfl | rfl <;> rfl, rfl⟩, HK2.out.set4 _, HA2.out.set hlt _ _, HS2.out.set (Nat.le_refl _) _ _⟩
set_option maxHeartbeats 1600000 in
set_option maxRecDepth 100000 in
theorem num_bad (wL : World) (ls : List (List ByteArray)) (ws : List ByteArray) (vt vf : Value) (w : World) (op ty a1 b1 n0 : Int) (hlt : wL.heap.size < w.heap.size) (hn : numF op ws = none) (T : Code) (a : Act) (W : World) (h : St wL ls ws vt vf w op ty a1 b1 n0 a W) :
    Code.wp Tryd.prog (cutAt 1 (rights 7 c77) T) (bodyPost Tryd.prog Tryd.f77 (Gone wL w)) a W := by
  obtain ⟨us, hus, rfl⟩ := open141 a h.fr.size h.fr.no
  have e0 := h.fr.val hus 0 _ (List.mem_cons_self)
  have e4 := h.fr.val hus 4 _ (List.mem_cons_of_mem _ (List.mem_cons_self))
  rw [e0, e4]
  clear e0 e4
  have hk := h.ib
  have k0 := hk.c0
  have k1 := hk.c1
  have k2 := hk.c2
  have k3 := hk.c3
  have k4 := hk.c4
  have k5 := hk.c5
  have k6 := hk.c6
  have z0 := hk.fz 0
  have z1 := hk.fz 1
  have z2 := hk.fz 2
  have z3 := hk.fz 3
  have z4 := hk.fz 4
  have z5 := hk.fz 5
  have z6 := hk.fz 6
  have HK := Lib.hid hk
  have HA := Lib.hid h.at_
  have HS := Lib.hid h.same
  clear hk h hus
  have HN := Lib.hid hn
  clear hn
  conv => arg 2; whnf
  go_wp2_with (go_at_call 90; refine (number_bad wL ls op ws HN.out vt vf _ HA.out).mono ?_; rintro e w2 ⟨rfl, hb⟩)
  exact ⟨rfl, rfl, hb⟩
def usesL (op a b : Int) (args : List Int) : List Int := (if hA op then [a] else []) ++ (if hB op then [b] else []) ++ (if hG op then args else [])
theorem uses_f (op ty a b n : Int) (h0 : 0 ≤ op) (h1 : op ≤ 255) (args fs : List Int) (hl : args.length ≤ 1000000) : shape_Uses.f 1 op ty a b n args fs = some (usesL op a b args) := by
  unfold shape_Uses.f shape_of.f usesL
  rw [if_pos ⟨h0, h1⟩, Option.bind_some]
  cases hA op <;> cases hB op <;> cases hG op <;> simp [shape_Uses.j0] <;> omega
def nU (op : Int) : Nat := if hB op then 2 else if hA op then 1 else 0
theorem nU_len (op a b : Int) : (usesL op a b []).length = nU op := by
  unfold usesL nU
  have : hB op = true → hA op = true := fun h => by unfold hA; rw [h]; rfl
  cases hb : hB op with
  | true => rw [this hb]; simp
  | false => cases hA op <;> simp
theorem uses_call (op : Int) (h0 : 0 ≤ op) (h1 : op ≤ 255) (w : World) (ht : ShTab w) :
    Calls Tryd.prog 89 #[.agg #[.int .u8 op, .int .i64 0, .int .i64 0, .int .i64 0, .int .i64 0, .slice none 0 0, .slice none 0 0]] w fun e w' => ∃ A c, e = .returned (.slice A (nU op) c) ∧ Below w.heap.size w w' := by
  refine (shape_Uses.calls 1 op 0 0 0 0 none 0 [] none 0 [] _ w (Kd.C_nil _ _) (Nat.le_refl _) (Kd.C_nil _ _) (Nat.le_refl _) (uses_f op 0 0 0 0 h0 h1 [] [] (by simp)) ht).mono ?_
  rintro e w' ⟨v, rfl, hr, hb⟩
  obtain ⟨A, c, rfl⟩ := Kd.R_slice hr
  rw [nU_len]
  exact ⟨A, c, rfl, hb⟩
theorem At.tab {wL : World} {ls ws vt vf W} (h : At wL ls ws vt vf W) (ht : ShTab wL) : ShTab W := ht.below h.below
structure St2 (wL : World) (ls : List (List ByteArray)) (ws : List ByteArray) (vt vf : Value) (w : World) (op ty : Int) (a : Act) (W : World) : Prop where
  fr : Fr 141 [(0, pG wL), (4, pB w), (6, .int .i64 op)] a
  ib : IB w.heap.size (.int .u8 0) (.int .i64 ty) (.int .i64 0) (.int .i64 0) (.int .i64 0) (.slice none 0 0) (.slice none 0 0) W
  at_ : At wL ls ws vt vf W
  same : Same wL w W
set_option maxHeartbeats 1600000 in
set_option maxRecDepth 100000 in
theorem regs_ok0 (wL : World) (hsh : ShTab wL) (ls : List (List ByteArray)) (ws : List ByteArray) (vt vf : Value) (w : World) (op ty : Int) (hop : 0 ≤ op) (hop2 : op ≤ 22) (hlt : wL.heap.size < w.heap.size) (hu : nU op = 0) (T : Code) (R : Ending → World → Prop)
    (hT : ∀ a W, St wL ls ws vt vf w op ty 0 0 0 a W → Code.wp Tryd.prog T (bodyPost Tryd.prog Tryd.f77 R) a W) (a : Act) (W : World) (h : St2 wL ls ws vt vf w op ty a W) :
    Code.wp Tryd.prog (cutAt 2 (rights 5 c77) T) (bodyPost Tryd.prog Tryd.f77 R) a W := by
  obtain ⟨us, hus, rfl⟩ := open141 a h.fr.size h.fr.no
  have e0 := h.fr.val hus 0 _ (List.mem_cons_self)
  have e4 := h.fr.val hus 4 _ (List.mem_cons_of_mem _ (List.mem_cons_self))
  have e6 := h.fr.val hus 6 _ (List.mem_cons_of_mem _ (List.mem_cons_of_mem _ (List.mem_cons_self)))
  rw [e0, e4, e6]
  clear e0 e4 e6
  have hk := h.ib
  have k0 := hk.c0
  have k1 := hk.c1
  have k2 := hk.c2
  have k3 := hk.c3
  have k4 := hk.c4
  have k5 := hk.c5
  have k6 := hk.c6
  have z0 := hk.fz 0
  have z1 := hk.fz 1
  have z2 := hk.fz 2
  have z3 := hk.fz 3
  have z4 := hk.fz 4
  have z5 := hk.fz 5
  have z6 := hk.fz 6
  have HK := Lib.hid hk
  have HA := Lib.hid h.at_
  have HS := Lib.hid h.same
  have HSH := Lib.hid hsh
  have hbW : w.heap.size < W.heap.size := blk_lt hk
  clear hk h hus hsh
  have HU := Lib.hid hu
  have HT := Lib.hid hT
  clear hT
  clear hu
  conv => arg 2; whnf; arg 2; whnf
  go_wp2_with (first
    | (go_at_call 89; refine (uses_call op (by omega) (by omega) _ ((HA.out.set hlt 0 (.int .u8 op)).tab HSH.out)).mono ?_; rintro e w2 ⟨Au, cu, rfl, hb⟩; rw [HU.out]; have HA2 := Lib.hid ((HA.out.set hlt 0 (.int .u8 op)).later hb); have HS2 := Lib.hid ((HS.out.set (Nat.le_refl _) 0 (.int .u8 op)).later hb); have hk2 := (HK.out.set0 (.int .u8 op)).block (hb.block _ (by rw [set_size]; exact hbW)); have HK2 := Lib.hid hk2; clear k0 z0 k1 z1 k2 z2 k3 z3 k4 z4 k5 z5 k6 z6; have k0 := hk2.c0; have k1 := hk2.c1; have k2 := hk2.c2; have k3 := hk2.c3; have k4 := hk2.c4; have k5 := hk2.c5; have k6 := hk2.c6; have z0 := hk2.fz 0; have z1 := hk2.fz 1; have z2 := hk2.fz 2; have z3 := hk2.fz 3; have z4 := hk2.fz 4; have z5 := hk2.fz 5; have z6 := hk2.fz 6; clear hb hk2))
  exact HT.out _ _ ⟨⟨rfl, by intro p hp; simp only [List.mem_cons, List.not_mem_nil, or_false] at hp; rcases hp with rfl | rfl <;> rfl, rfl⟩, HK2.out, HA2.out, HS2.out⟩
set_option maxHeartbeats 1600000 in
set_option maxRecDepth 100000 in
theorem regs_ok1 (wL : World) (hsh : ShTab wL) (ls : List (List ByteArray)) (ws : List ByteArray) (vt vf : Value) (w : World) (op ty : Int) (hop : 0 ≤ op) (hop2 : op ≤ 22) (hlt : wL.heap.size < w.heap.size) (m : Int) (r : List ByteArray) (hm : mkN 114 ws = some (m, r)) (hu : nU op = 1) (T : Code) (R : Ending → World → Prop)
    (hT : ∀ a W, St wL ls r vt vf w op ty m 0 0 a W → Code.wp Tryd.prog T (bodyPost Tryd.prog Tryd.f77 R) a W) (a : Act) (W : World) (h : St2 wL ls ws vt vf w op ty a W) :
    Code.wp Tryd.prog (cutAt 2 (rights 5 c77) T) (bodyPost Tryd.prog Tryd.f77 R) a W := by
  obtain ⟨us, hus, rfl⟩ := open141 a h.fr.size h.fr.no
  have e0 := h.fr.val hus 0 _ (List.mem_cons_self)
  have e4 := h.fr.val hus 4 _ (List.mem_cons_of_mem _ (List.mem_cons_self))
  have e6 := h.fr.val hus 6 _ (List.mem_cons_of_mem _ (List.mem_cons_of_mem _ (List.mem_cons_self)))
  rw [e0, e4, e6]
  clear e0 e4 e6
  have hk := h.ib
  have k0 := hk.c0
  have k1 := hk.c1
  have k2 := hk.c2
  have k3 := hk.c3
  have k4 := hk.c4
  have k5 := hk.c5
  have k6 := hk.c6
  have z0 := hk.fz 0
  have z1 := hk.fz 1
  have z2 := hk.fz 2
  have z3 := hk.fz 3
  have z4 := hk.fz 4
  have z5 := hk.fz 5
  have z6 := hk.fz 6
  have HK := Lib.hid hk
  have HA := Lib.hid h.at_
  have HS := Lib.hid h.same
  have HSH := Lib.hid hsh
  have hbW : w.heap.size < W.heap.size := blk_lt hk
  clear hk h hus hsh
  have HM := Lib.hid hm
  clear hm
  have HU := Lib.hid hu
  have HT := Lib.hid hT
  clear hT
  clear hu
  conv => arg 2; whnf; arg 2; whnf
  go_wp2_with (first
    | (go_at_call 89; refine (uses_call op (by omega) (by omega) _ ((HA.out.set hlt 0 (.int .u8 op)).tab HSH.out)).mono ?_; rintro e w2 ⟨Au, cu, rfl, hb⟩; rw [HU.out]; have HA2 := Lib.hid ((HA.out.set hlt 0 (.int .u8 op)).later hb); have HS2 := Lib.hid ((HS.out.set (Nat.le_refl _) 0 (.int .u8 op)).later hb); have hk2 := (HK.out.set0 (.int .u8 op)).block (hb.block _ (by rw [set_size]; exact hbW)); have HK2 := Lib.hid hk2; clear k0 z0 k1 z1 k2 z2 k3 z3 k4 z4 k5 z5 k6 z6; have k0 := hk2.c0; have k1 := hk2.c1; have k2 := hk2.c2; have k3 := hk2.c3; have k4 := hk2.c4; have k5 := hk2.c5; have k6 := hk2.c6; have z0 := hk2.fz 0; have z1 := hk2.fz 1; have z2 := hk2.fz 2; have z3 := hk2.fz 3; have z4 := hk2.fz 4; have z5 := hk2.fz 5; have z6 := hk2.fz 6; clear hb hk2)
    | (go_at_call 52; refine (mark_take wL ls ws 114 (by omega) (by omega) m r HM.out vt vf _ HA2.out).mono ?_; rintro e w3 ⟨rfl, ha, hs⟩; have HA3 := Lib.hid ha; have HS3 := Lib.hid (HS2.out.also hs); have hk3 := IB.same HK2.out hs hlt; have HK3 := Lib.hid hk3; clear k0 z0 k1 z1 k2 z2 k3 z3 k4 z4 k5 z5 k6 z6; have k0 := hk3.c0; have k1 := hk3.c1; have k2 := hk3.c2; have k3 := hk3.c3; have k4 := hk3.c4; have k5 := hk3.c5; have k6 := hk3.c6; have z0 := hk3.fz 0; have z1 := hk3.fz 1; have z2 := hk3.fz 2; have z3 := hk3.fz 3; have z4 := hk3.fz 4; have z5 := hk3.fz 5; have z6 := hk3.fz 6; clear ha hs hk3))
  exact HT.out _ _ ⟨⟨rfl, by intro p hp; simp only [List.mem_cons, List.not_mem_nil, or_false] at hp; rcases hp with rfl | rfl <;> rfl, rfl⟩, HK3.out.set2 _, HA3.out.set hlt _ _, HS3.out.set (Nat.le_refl _) _ _⟩
set_option maxHeartbeats 1600000 in
set_option maxRecDepth 100000 in
theorem regs_b1 (wL : World) (hsh : ShTab wL) (ls : List (List ByteArray)) (ws : List ByteArray) (vt vf : Value) (w : World) (op ty : Int) (hop : 0 ≤ op) (hop2 : op ≤ 22) (hlt : wL.heap.size < w.heap.size) (hm : mkN 114 ws = none) (hu : nU op = 1) (T : Code) (a : Act) (W : World) (h : St2 wL ls ws vt vf w op ty a W) :
    Code.wp Tryd.prog (cutAt 2 (rights 5 c77) T) (bodyPost Tryd.prog Tryd.f77 (Gone wL w)) a W := by
  obtain ⟨us, hus, rfl⟩ := open141 a h.fr.size h.fr.no
  have e0 := h.fr.val hus 0 _ (List.mem_cons_self)
  have e4 := h.fr.val hus 4 _ (List.mem_cons_of_mem _ (List.mem_cons_self))
  have e6 := h.fr.val hus 6 _ (List.mem_cons_of_mem _ (List.mem_cons_of_mem _ (List.mem_cons_self)))
  rw [e0, e4, e6]
  clear e0 e4 e6
  have hk := h.ib
  have k0 := hk.c0
  have k1 := hk.c1
  have k2 := hk.c2
  have k3 := hk.c3
  have k4 := hk.c4
  have k5 := hk.c5
  have k6 := hk.c6
  have z0 := hk.fz 0
  have z1 := hk.fz 1
  have z2 := hk.fz 2
  have z3 := hk.fz 3
  have z4 := hk.fz 4
  have z5 := hk.fz 5
  have z6 := hk.fz 6
  have HK := Lib.hid hk
  have HA := Lib.hid h.at_
  have HS := Lib.hid h.same
  have HSH := Lib.hid hsh
  have hbW : w.heap.size < W.heap.size := blk_lt hk
  clear hk h hus hsh
  have HM := Lib.hid hm
  clear hm
  have HU := Lib.hid hu
  clear hu
  conv => arg 2; whnf; arg 2; whnf
  go_wp2_with (first
    | (go_at_call 89; refine (uses_call op (by omega) (by omega) _ ((HA.out.set hlt 0 (.int .u8 op)).tab HSH.out)).mono ?_; rintro e w2 ⟨Au, cu, rfl, hb⟩; rw [HU.out]; have HA2 := Lib.hid ((HA.out.set hlt 0 (.int .u8 op)).later hb); have HS2 := Lib.hid ((HS.out.set (Nat.le_refl _) 0 (.int .u8 op)).later hb); have hk2 := (HK.out.set0 (.int .u8 op)).block (hb.block _ (by rw [set_size]; exact hbW)); have HK2 := Lib.hid hk2; clear k0 z0 k1 z1 k2 z2 k3 z3 k4 z4 k5 z5 k6 z6; have k0 := hk2.c0; have k1 := hk2.c1; have k2 := hk2.c2; have k3 := hk2.c3; have k4 := hk2.c4; have k5 := hk2.c5; have k6 := hk2.c6; have z0 := hk2.fz 0; have z1 := hk2.fz 1; have z2 := hk2.fz 2; have z3 := hk2.fz 3; have z4 := hk2.fz 4; have z5 := hk2.fz 5; have z6 := hk2.fz 6; clear hb hk2)
    | (go_at_call 52; refine (mark_fail wL ls ws 114 (by omega) (by omega) HM.out vt vf _ HA2.out).mono ?_; rintro e w3 ⟨rfl, hb⟩))
  exact ⟨rfl, rfl, hb⟩
set_option maxHeartbeats 1600000 in
set_option maxRecDepth 100000 in
theorem regs_ok2 (wL : World) (hsh : ShTab wL) (ls : List (List ByteArray)) (ws : List ByteArray) (vt vf : Value) (w : World) (op ty : Int) (hop : 0 ≤ op) (hop2 : op ≤ 22) (hlt : wL.heap.size < w.heap.size) (m : Int) (r : List ByteArray) (hm : mkN 114 ws = some (m, r)) (q : Int) (r2 : List ByteArray) (hq : mkN 114 r = some (q, r2)) (hu : nU op = 2) (T : Code) (R : Ending → World → Prop)
    (hT : ∀ a W, St wL ls r2 vt vf w op ty m q 0 a W → Code.wp Tryd.prog T (bodyPost Tryd.prog Tryd.f77 R) a W) (a : Act) (W : World) (h : St2 wL ls ws vt vf w op ty a W) :
    Code.wp Tryd.prog (cutAt 2 (rights 5 c77) T) (bodyPost Tryd.prog Tryd.f77 R) a W := by
  obtain ⟨us, hus, rfl⟩ := open141 a h.fr.size h.fr.no
  have e0 := h.fr.val hus 0 _ (List.mem_cons_self)
  have e4 := h.fr.val hus 4 _ (List.mem_cons_of_mem _ (List.mem_cons_self))
  have e6 := h.fr.val hus 6 _ (List.mem_cons_of_mem _ (List.mem_cons_of_mem _ (List.mem_cons_self)))
  rw [e0, e4, e6]
  clear e0 e4 e6
  have hk := h.ib
  have k0 := hk.c0
  have k1 := hk.c1
  have k2 := hk.c2
  have k3 := hk.c3
  have k4 := hk.c4
  have k5 := hk.c5
  have k6 := hk.c6
  have z0 := hk.fz 0
  have z1 := hk.fz 1
  have z2 := hk.fz 2
  have z3 := hk.fz 3
  have z4 := hk.fz 4
  have z5 := hk.fz 5
  have z6 := hk.fz 6
  have HK := Lib.hid hk
  have HA := Lib.hid h.at_
  have HS := Lib.hid h.same
  have HSH := Lib.hid hsh
  have hbW : w.heap.size < W.heap.size := blk_lt hk
  clear hk h hus hsh
  have HM := Lib.hid hm
  clear hm
  have HQ := Lib.hid hq
  clear hq
  have HU := Lib.hid hu
  have HT := Lib.hid hT
  clear hT
  clear hu
  conv => arg 2; whnf; arg 2; whnf
  go_wp2_with (first
    | (go_at_call 89; refine (uses_call op (by omega) (by omega) _ ((HA.out.set hlt 0 (.int .u8 op)).tab HSH.out)).mono ?_; rintro e w2 ⟨Au, cu, rfl, hb⟩; rw [HU.out]; have HA2 := Lib.hid ((HA.out.set hlt 0 (.int .u8 op)).later hb); have HS2 := Lib.hid ((HS.out.set (Nat.le_refl _) 0 (.int .u8 op)).later hb); have hk2 := (HK.out.set0 (.int .u8 op)).block (hb.block _ (by rw [set_size]; exact hbW)); have HK2 := Lib.hid hk2; clear k0 z0 k1 z1 k2 z2 k3 z3 k4 z4 k5 z5 k6 z6; have k0 := hk2.c0; have k1 := hk2.c1; have k2 := hk2.c2; have k3 := hk2.c3; have k4 := hk2.c4; have k5 := hk2.c5; have k6 := hk2.c6; have z0 := hk2.fz 0; have z1 := hk2.fz 1; have z2 := hk2.fz 2; have z3 := hk2.fz 3; have z4 := hk2.fz 4; have z5 := hk2.fz 5; have z6 := hk2.fz 6; clear hb hk2))
  clear k0 z0 k1 z1 k2 z2 k3 z3 k4 z4 k5 z5 k6 z6
  go_region_with (first
    | (go_at_call 52; (with_reducible refine (mark_take wL ls r 114 (by omega) (by omega) q r2 HQ.out vt vf _ HA3.out).mono ?_); rintro e w4 ⟨rfl, ha, hs⟩; have HA4 := Lib.hid ha; have HS4 := Lib.hid (HS3.out.also hs); have hk4 := IB.same HK3.out hs hlt; have HK4 := Lib.hid hk4; have k0 := hk4.c0; have k1 := hk4.c1; have k2 := hk4.c2; have k3 := hk4.c3; have k4 := hk4.c4; have k5 := hk4.c5; have k6 := hk4.c6; have z0 := hk4.fz 0; have z1 := hk4.fz 1; have z2 := hk4.fz 2; have z3 := hk4.fz 3; have z4 := hk4.fz 4; have z5 := hk4.fz 5; have z6 := hk4.fz 6; clear ha hs hk4)
    | (go_at_call 52; refine (mark_take wL ls ws 114 (by omega) (by omega) m r HM.out vt vf _ (HA2.out.drewN _)).mono ?_; rintro e w3 ⟨rfl, ha, hs⟩; have HA3 := Lib.hid ha; have HS3 := Lib.hid (HS2.out.also hs); have HK3 := Lib.hid (IB.same HK2.out hs hlt); clear ha hs))
  all_goals
    go_wp2_with fail
    exact HT.out _ _ ⟨⟨rfl, by intro p hp; simp only [List.mem_cons, List.not_mem_nil, or_false] at hp; rcases hp with rfl | rfl <;> rfl, rfl⟩, (HK4.out.set2 _).set3 _, (HA4.out.set hlt _ _).set hlt _ _, (HS4.out.set (Nat.le_refl _) _ _).set (Nat.le_refl _) _ _⟩
set_option maxHeartbeats 1600000 in
set_option maxRecDepth 100000 in
theorem regs_b2a (wL : World) (hsh : ShTab wL) (ls : List (List ByteArray)) (ws : List ByteArray) (vt vf : Value) (w : World) (op ty : Int) (hop : 0 ≤ op) (hop2 : op ≤ 22) (hlt : wL.heap.size < w.heap.size) (hm : mkN 114 ws = none) (hu : nU op = 2) (T : Code) (a : Act) (W : World) (h : St2 wL ls ws vt vf w op ty a W) :
    Code.wp Tryd.prog (cutAt 2 (rights 5 c77) T) (bodyPost Tryd.prog Tryd.f77 (Gone wL w)) a W := by
  obtain ⟨us, hus, rfl⟩ := open141 a h.fr.size h.fr.no
  have e0 := h.fr.val hus 0 _ (List.mem_cons_self)
  have e4 := h.fr.val hus 4 _ (List.mem_cons_of_mem _ (List.mem_cons_self))
  have e6 := h.fr.val hus 6 _ (List.mem_cons_of_mem _ (List.mem_cons_of_mem _ (List.mem_cons_self)))
  rw [e0, e4, e6]
  clear e0 e4 e6
  have hk := h.ib
  have k0 := hk.c0
  have k1 := hk.c1
  have k2 := hk.c2
  have k3 := hk.c3
  have k4 := hk.c4
  have k5 := hk.c5
  have k6 := hk.c6
  have z0 := hk.fz 0
  have z1 := hk.fz 1
  have z2 := hk.fz 2
  have z3 := hk.fz 3
  have z4 := hk.fz 4
  have z5 := hk.fz 5
  have z6 := hk.fz 6
  have HK := Lib.hid hk
  have HA := Lib.hid h.at_
  have HS := Lib.hid h.same
  have HSH := Lib.hid hsh
  have hbW : w.heap.size < W.heap.size := blk_lt hk
  clear hk h hus hsh
  have HM := Lib.hid hm
  clear hm
  have HU := Lib.hid hu
  clear hu
  conv => arg 2; whnf; arg 2; whnf
  go_wp2_with (first
    | (go_at_call 89; refine (uses_call op (by omega) (by omega) _ ((HA.out.set hlt 0 (.int .u8 op)).tab HSH.out)).mono ?_; rintro e w2 ⟨Au, cu, rfl, hb⟩; rw [HU.out]; have HA2 := Lib.hid ((HA.out.set hlt 0 (.int .u8 op)).later hb); have HS2 := Lib.hid ((HS.out.set (Nat.le_refl _) 0 (.int .u8 op)).later hb); have hk2 := (HK.out.set0 (.int .u8 op)).block (hb.block _ (by rw [set_size]; exact hbW)); have HK2 := Lib.hid hk2; clear k0 z0 k1 z1 k2 z2 k3 z3 k4 z4 k5 z5 k6 z6; have k0 := hk2.c0; have k1 := hk2.c1; have k2 := hk2.c2; have k3 := hk2.c3; have k4 := hk2.c4; have k5 := hk2.c5; have k6 := hk2.c6; have z0 := hk2.fz 0; have z1 := hk2.fz 1; have z2 := hk2.fz 2; have z3 := hk2.fz 3; have z4 := hk2.fz 4; have z5 := hk2.fz 5; have z6 := hk2.fz 6; clear hb hk2))
  clear k0 z0 k1 z1 k2 z2 k3 z3 k4 z4 k5 z5 k6 z6
  go_region_with (go_at_call 52; refine (mark_fail wL ls ws 114 (by omega) (by omega) HM.out vt vf _ (HA2.out.drewN _)).mono ?_; rintro e w3 ⟨rfl, hb⟩; refine gone_dummy (w := w) ⟨rfl, rfl, hb⟩ ?_)
  all_goals trivial
set_option maxHeartbeats 1600000 in
set_option maxRecDepth 100000 in
theorem regs_b2b (wL : World) (hsh : ShTab wL) (ls : List (List ByteArray)) (ws : List ByteArray) (vt vf : Value) (w : World) (op ty : Int) (hop : 0 ≤ op) (hop2 : op ≤ 22) (hlt : wL.heap.size < w.heap.size) (m : Int) (r : List ByteArray) (hm : mkN 114 ws = some (m, r)) (hq : mkN 114 r = none) (hu : nU op = 2) (T : Code) (a : Act) (W : World) (h : St2 wL ls ws vt vf w op ty a W) :
    Code.wp Tryd.prog (cutAt 2 (rights 5 c77) T) (bodyPost Tryd.prog Tryd.f77 (Gone wL w)) a W := by
  obtain ⟨us, hus, rfl⟩ := open141 a h.fr.size h.fr.no
  have e0 := h.fr.val hus 0 _ (List.mem_cons_self)
  have e4 := h.fr.val hus 4 _ (List.mem_cons_of_mem _ (List.mem_cons_self))
  have e6 := h.fr.val hus 6 _ (List.mem_cons_of_mem _ (List.mem_cons_of_mem _ (List.mem_cons_self)))
  rw [e0, e4, e6]
  clear e0 e4 e6
  have hk := h.ib
  have k0 := hk.c0
  have k1 := hk.c1
  have k2 := hk.c2
  have k3 := hk.c3
  have k4 := hk.c4
  have k5 := hk.c5
  have k6 := hk.c6
  have z0 := hk.fz 0
  have z1 := hk.fz 1
  have z2 := hk.fz 2
  have z3 := hk.fz 3
  have z4 := hk.fz 4
  have z5 := hk.fz 5
  have z6 := hk.fz 6
  have HK := Lib.hid hk
  have HA := Lib.hid h.at_
  have HS := Lib.hid h.same
  have HSH := Lib.hid hsh
  have hbW : w.heap.size < W.heap.size := blk_lt hk
  clear hk h hus hsh
  have HM := Lib.hid hm
  clear hm
  have HQ := Lib.hid hq
  clear hq
  have HU := Lib.hid hu
  clear hu
  conv => arg 2; whnf; arg 2; whnf
  go_wp2_with (first
    | (go_at_call 89; refine (uses_call op (by omega) (by omega) _ ((HA.out.set hlt 0 (.int .u8 op)).tab HSH.out)).mono ?_; rintro e w2 ⟨Au, cu, rfl, hb⟩; rw [HU.out]; have HA2 := Lib.hid ((HA.out.set hlt 0 (.int .u8 op)).later hb); have HS2 := Lib.hid ((HS.out.set (Nat.le_refl _) 0 (.int .u8 op)).later hb); have hk2 := (HK.out.set0 (.int .u8 op)).block (hb.block _ (by rw [set_size]; exact hbW)); have HK2 := Lib.hid hk2; clear k0 z0 k1 z1 k2 z2 k3 z3 k4 z4 k5 z5 k6 z6; have k0 := hk2.c0; have k1 := hk2.c1; have k2 := hk2.c2; have k3 := hk2.c3; have k4 := hk2.c4; have k5 := hk2.c5; have k6 := hk2.c6; have z0 := hk2.fz 0; have z1 := hk2.fz 1; have z2 := hk2.fz 2; have z3 := hk2.fz 3; have z4 := hk2.fz 4; have z5 := hk2.fz 5; have z6 := hk2.fz 6; clear hb hk2))
  clear k0 z0 k1 z1 k2 z2 k3 z3 k4 z4 k5 z5 k6 z6
  go_region_with (first
    | (go_at_call 52; (with_reducible refine (mark_fail wL ls r 114 (by omega) (by omega) HQ.out vt vf _ HA3.out).mono ?_); rintro e w4 ⟨rfl, hb⟩; refine gone_dummy (w := w) ⟨rfl, rfl, hb⟩ ?_)
    | (go_at_call 52; refine (mark_take wL ls ws 114 (by omega) (by omega) m r HM.out vt vf _ (HA2.out.drewN _)).mono ?_; rintro e w3 ⟨rfl, ha, hs⟩; have HA3 := Lib.hid ha; have HS3 := Lib.hid (HS2.out.also hs); have HK3 := Lib.hid (IB.same HK2.out hs hlt); clear ha hs))
  all_goals trivial
end Go.Proofs.YtlghkomipboflaaDoor.Rd
end
section
namespace Go.Proofs.YtlghkomipboflaaDoor.Rd
open Go.RowKit Go.Proofs.YtlghkomipboflaaDoor Go.Proofs.YtlghkomipboflaaDoor.X Go.Proofs.YtlghkomipboflaaDoorW.PrintWords Go.Proofs.YtlghkomipboflaaDoorW.PrintLast Go.Proofs.YtlghkomipboflaaDoorW.PrintMore
set_option linter.unusedVariables false
set_option linter.unusedSimpArgs false
def ansL : List ByteArray → Bool
  | x :: _ :: z :: _ => x.data.toList.head? == some 114 && z.toList == [61]
  | _ => false
structure St0 (wL : World) (ls : List (List ByteArray)) (ws : List ByteArray) (vt vf : Value) (w : World) (reg : Int) (ans : Bool) (a : Act) (W : World) : Prop where
  fr : Fr 141 [(0, pG wL), (1, .int .i64 reg), (4, pB w), (5, .bool ans)] a
  ib : IB w.heap.size (.int .u8 0) (.int .i64 0) (.int .i64 0) (.int .i64 0) (.int .i64 0) (.slice none 0 0) (.slice none 0 0) W
  at_ : At wL ls ws vt vf W
  same : Same wL w W
structure St00 (wL : World) (ls : List (List ByteArray)) (ws : List ByteArray) (vt vf : Value) (w : World) (reg : Int) (a : Act) (W : World) : Prop where
  fr : Fr 141 [(0, pG wL), (1, .int .i64 reg), (4, pB w)] a
  ib : IB w.heap.size (.int .u8 0) (.int .i64 0) (.int .i64 0) (.int .i64 0) (.int .i64 0) (.slice none 0 0) (.slice none 0 0) W
  at_ : At wL ls ws vt vf W
  same : Same wL w W
set_option maxHeartbeats 1600000 in
set_option maxRecDepth 100000 in
theorem ins_0 (wL : World) (ls : List (List ByteArray)) (ws : List ByteArray) (vt vf : Value) (w : World) (reg : Int) (h : At wL ls ws vt vf w) (T : Code) (R : Ending → World → Prop)
    (hT : ∀ a W, St00 wL ls ws vt vf w reg a W → Code.wp Tryd.prog T (bodyPost Tryd.prog Tryd.f77 R) a W) (a : Act) (hfr : Fr 141 [(0, pG wL), (1, .int .i64 reg)] a) :
    Code.wp Tryd.prog (cutAt 1 c77 T) (bodyPost Tryd.prog Tryd.f77 R) a w := by
  obtain ⟨us, hus, rfl⟩ := open141 a hfr.size hfr.no
  have e0 := hfr.val hus 0 _ (List.mem_cons_self)
  have e1 := hfr.val hus 1 _ (List.mem_cons_of_mem _ (List.mem_cons_self))
  rw [e0, e1]
  clear e0 e1
  clear hfr hus
  have HH := Lib.hid h
  have hlt := h.lt
  have HT := Lib.hid hT
  clear h hT
  conv => arg 2; whnf; arg 2; whnf
  go_wp2
  exact HT.out _ _ ⟨⟨rfl, by intro p hp; simp only [List.mem_cons, List.not_mem_nil, or_false] at hp; rcases hp with rfl | rfl | rfl <;> rfl, rfl⟩, heap_alloc_new w _, HH.out.alloc _, (Same.now wL w).alloc _⟩
set_option maxHeartbeats 1600000 in
set_option maxRecDepth 100000 in
theorem ins_A0 (wL : World) (ls : List (List ByteArray)) (x : ByteArray) (l : List ByteArray) (vt vf : Value) (w : World) (reg : Int) (hx : 0 < x.size) (hb : ¬ ((x[0]'hx).toNat : Int) = 114) (T : Code) (R : Ending → World → Prop)
    (hT : ∀ a W, St0 wL ls (x :: l) vt vf w reg false a W → Code.wp Tryd.prog T (bodyPost Tryd.prog Tryd.f77 R) a W) (a : Act) (W : World) (h : St00 wL ls (x :: l) vt vf w reg a W) :
    Code.wp Tryd.prog (cutAt 1 (rights 1 c77) T) (bodyPost Tryd.prog Tryd.f77 R) a W := by
  obtain ⟨us, hus, rfl⟩ := open141 a h.fr.size h.fr.no
  have e0 := h.fr.val hus 0 _ (List.mem_cons_self)
  have e1 := h.fr.val hus 1 _ (List.mem_cons_of_mem _ (List.mem_cons_self))
  have e4 := h.fr.val hus 4 _ (List.mem_cons_of_mem _ (List.mem_cons_of_mem _ (List.mem_cons_self)))
  rw [e0, e1, e4]
  clear e0 e1 e4
  obtain ⟨vl, vw, hr, hln, ⟨A, c, rfl, hc, hC⟩⟩ := h.at_.rb
  obtain ⟨ad, rfl, hcell⟩ := wd_at hC h.at_.below 0 (by simp)
  rw [add0, show (x :: l)[0] = x from rfl] at hcell
  have c1 := hr.c1
  have i0 : (0 : Int) < ((x :: l).length : Int) := by simp <;> omega
  have HA := Lib.hid h.at_
  have HK := Lib.hid h.ib
  have HS := Lib.hid h.same
  have HT := Lib.hid hT
  clear h hr hC hc hln hT hus
  obtain ⟨n, hn⟩ : ∃ n, n = (x :: l).length := ⟨_, rfl⟩
  rw [← hn] at c1 i0
  conv => arg 2; whnf; arg 2; whnf
  go_wp2
  exact HT.out _ _ ⟨⟨rfl, by intro p hp; simp only [List.mem_cons, List.not_mem_nil, or_false] at hp; rcases hp with rfl | rfl | rfl | rfl <;> rfl, rfl⟩, HK.out, HA.out, HS.out⟩
set_option maxHeartbeats 1600000 in
set_option maxRecDepth 100000 in
theorem ins_A1 (wL : World) (ls : List (List ByteArray)) (x : ByteArray) (l : List ByteArray) (vt vf : Value) (w : World) (reg : Int) (hx : 0 < x.size) (hb : ((x[0]'hx).toNat : Int) = 114) (hl : l.length < 2) (T : Code) (R : Ending → World → Prop)
    (hT : ∀ a W, St0 wL ls (x :: l) vt vf w reg false a W → Code.wp Tryd.prog T (bodyPost Tryd.prog Tryd.f77 R) a W) (a : Act) (W : World) (h : St00 wL ls (x :: l) vt vf w reg a W) :
    Code.wp Tryd.prog (cutAt 1 (rights 1 c77) T) (bodyPost Tryd.prog Tryd.f77 R) a W := by
  obtain ⟨us, hus, rfl⟩ := open141 a h.fr.size h.fr.no
  have e0 := h.fr.val hus 0 _ (List.mem_cons_self)
  have e1 := h.fr.val hus 1 _ (List.mem_cons_of_mem _ (List.mem_cons_self))
  have e4 := h.fr.val hus 4 _ (List.mem_cons_of_mem _ (List.mem_cons_of_mem _ (List.mem_cons_self)))
  rw [e0, e1, e4]
  clear e0 e1 e4
  obtain ⟨vl, vw, hr, hln, ⟨A, c, rfl, hc, hC⟩⟩ := h.at_.rb
  obtain ⟨ad, rfl, hcell⟩ := wd_at hC h.at_.below 0 (by simp)
  rw [add0, show (x :: l)[0] = x from rfl] at hcell
  have c1 := hr.c1
  have i0 : (0 : Int) < ((x :: l).length : Int) := by simp <;> omega
  have HA := Lib.hid h.at_
  have HK := Lib.hid h.ib
  have HS := Lib.hid h.same
  have HT := Lib.hid hT
  clear h hr hC hc hln hT hus
  obtain ⟨n, hn⟩ : ∃ n, n = (x :: l).length := ⟨_, rfl⟩
  rw [← hn] at c1 i0
  have hn2 : ¬ (2 : Int) < (n : Int) := by rw [hn]; simp; omega
  have HN := Lib.hid hn
  clear hn
  conv => arg 2; whnf; arg 2; whnf
  go_wp2
  exact HT.out _ _ ⟨⟨rfl, by intro p hp; simp only [List.mem_cons, List.not_mem_nil, or_false] at hp; rcases hp with rfl | rfl | rfl | rfl <;> rfl, rfl⟩, HK.out, HA.out, HS.out⟩
set_option maxHeartbeats 1600000 in
set_option maxRecDepth 100000 in
theorem ins_A2 (wL : World) (ls : List (List ByteArray)) (x y z : ByteArray) (l : List ByteArray) (vt vf : Value) (w : World) (reg : Int) (hx : 0 < x.size) (hb : ((x[0]'hx).toNat : Int) = 114) (T : Code) (R : Ending → World → Prop)
    (hT : ∀ a W, St0 wL ls (x :: y :: z :: l) vt vf w reg (z.toList == [61]) a W → Code.wp Tryd.prog T (bodyPost Tryd.prog Tryd.f77 R) a W) (a : Act) (W : World) (h : St00 wL ls (x :: y :: z :: l) vt vf w reg a W) :
    Code.wp Tryd.prog (cutAt 1 (rights 1 c77) T) (bodyPost Tryd.prog Tryd.f77 R) a W := by
  obtain ⟨us, hus, rfl⟩ := open141 a h.fr.size h.fr.no
  have e0 := h.fr.val hus 0 _ (List.mem_cons_self)
  have e1 := h.fr.val hus 1 _ (List.mem_cons_of_mem _ (List.mem_cons_self))
  have e4 := h.fr.val hus 4 _ (List.mem_cons_of_mem _ (List.mem_cons_of_mem _ (List.mem_cons_self)))
  rw [e0, e1, e4]
  clear e0 e1 e4
  obtain ⟨vl, vw, hr, hln, ⟨A, c, rfl, hc, hC⟩⟩ := h.at_.rb
  obtain ⟨ad, rfl, hcell⟩ := wd_at hC h.at_.below 0 (by simp)
  rw [add0, show (x :: y :: z :: l)[0] = x from rfl] at hcell
  obtain ⟨ad', had, hcell2⟩ := wd_at hC h.at_.below 2 (by simp)
  cases had
  rw [show (x :: y :: z :: l)[2] = z from rfl] at hcell2
  unfold Addr.add at hcell2
  rw [if_neg (by decide)] at hcell2
  have c1 := hr.c1
  have i0 : (0 : Int) < ((x :: y :: z :: l).length : Int) := by simp <;> omega
  have HA := Lib.hid h.at_
  have HK := Lib.hid h.ib
  have HS := Lib.hid h.same
  have HT := Lib.hid hT
  clear h hr hC hc hln hT hus
  obtain ⟨n, hn⟩ : ∃ n, n = (x :: y :: z :: l).length := ⟨_, rfl⟩
  rw [← hn] at c1 i0
  have hn2 : (2 : Int) < (n : Int) := by rw [hn]; simp; omega
  have HN := Lib.hid hn
  clear hn
  conv => arg 2; whnf; arg 2; whnf
  go_wp2
  exact HT.out _ _ ⟨⟨rfl, by intro p hp; simp only [List.mem_cons, List.not_mem_nil, or_false] at hp; rcases hp with rfl | rfl | rfl | rfl <;> rfl, rfl⟩, HK.out, HA.out, HS.out⟩
structure St1 (wL : World) (ls : List (List ByteArray)) (ws : List ByteArray) (vt vf : Value) (w : World) (ans : Bool) (ty : Int) (a : Act) (W : World) : Prop where
  fr : Fr 141 [(0, pG wL), (4, pB w), (5, .bool ans)] a
  ib : IB w.heap.size (.int .u8 0) (.int .i64 ty) (.int .i64 0) (.int .i64 0) (.int .i64 0) (.slice none 0 0) (.slice none 0 0) W
  at_ : At wL ls ws vt vf W
  same : Same wL w W
set_option maxHeartbeats 1600000 in
set_option maxRecDepth 100000 in
theorem ins_Bno (wL : World) (ls : List (List ByteArray)) (ws : List ByteArray) (vt vf : Value) (w : World) (reg : Int) (hlt : wL.heap.size < w.heap.size)  (T : Code) (R : Ending → World → Prop)
    (hT : ∀ a W, St1 wL ls ws vt vf w false 0 a W → Code.wp Tryd.prog T (bodyPost Tryd.prog Tryd.f77 R) a W) (a : Act) (W : World) (h : St0 wL ls ws vt vf w reg false a W) :
    Code.wp Tryd.prog (cutAt 1 (rights 2 c77) T) (bodyPost Tryd.prog Tryd.f77 R) a W := by
  obtain ⟨us, hus, rfl⟩ := open141 a h.fr.size h.fr.no
  have e0 := h.fr.val hus 0 _ (List.mem_cons_self)
  have e1 := h.fr.val hus 1 _ (List.mem_cons_of_mem _ (List.mem_cons_self))
  have e4 := h.fr.val hus 4 _ (List.mem_cons_of_mem _ (List.mem_cons_of_mem _ (List.mem_cons_self)))
  have e5 := h.fr.val hus 5 _ (List.mem_cons_of_mem _ (List.mem_cons_of_mem _ (List.mem_cons_of_mem _ (List.mem_cons_self))))
  rw [e0, e1, e4, e5]
  clear e0 e1 e4 e5
  have hk := h.ib
  have k0 := hk.c0
  have k1 := hk.c1
  have k2 := hk.c2
  have k3 := hk.c3
  have k4 := hk.c4
  have k5 := hk.c5
  have k6 := hk.c6
  have z0 := hk.fz 0
  have z1 := hk.fz 1
  have z2 := hk.fz 2
  have z3 := hk.fz 3
  have z4 := hk.fz 4
  have z5 := hk.fz 5
  have z6 := hk.fz 6
  have HK := Lib.hid hk
  have HA := Lib.hid h.at_
  have HS := Lib.hid h.same
  have HT := Lib.hid hT
  clear hT
  clear hk h hus
  conv => arg 2; whnf; arg 2; whnf
  go_wp2
  exact HT.out _ _ ⟨⟨rfl, by intro p hp; simp only [List.mem_cons, List.not_mem_nil, or_false] at hp; rcases hp with rfl | rfl | rfl <;> rfl, rfl⟩, HK.out, HA.out, HS.out⟩
set_option maxHeartbeats 1600000 in
set_option maxRecDepth 100000 in
theorem ins_Bok (wL : World) (ls : List (List ByteArray)) (ws : List ByteArray) (vt vf : Value) (w : World) (reg : Int) (hlt : wL.heap.size < w.heap.size) (r : List ByteArray) (hm : mkN 114 ws = some (reg, r)) (ty : Int) (y : ByteArray) (r2 : List ByteArray) (hq : mkN 116 r = some (ty, y :: r2)) (T : Code) (R : Ending → World → Prop)
    (hT : ∀ a W, St1 wL ls r2 vt vf w true ty a W → Code.wp Tryd.prog T (bodyPost Tryd.prog Tryd.f77 R) a W) (a : Act) (W : World) (h : St0 wL ls ws vt vf w reg true a W) :
    Code.wp Tryd.prog (cutAt 1 (rights 2 c77) T) (bodyPost Tryd.prog Tryd.f77 R) a W := by
  obtain ⟨us, hus, rfl⟩ := open141 a h.fr.size h.fr.no
  have e0 := h.fr.val hus 0 _ (List.mem_cons_self)
  have e1 := h.fr.val hus 1 _ (List.mem_cons_of_mem _ (List.mem_cons_self))
  have e4 := h.fr.val hus 4 _ (List.mem_cons_of_mem _ (List.mem_cons_of_mem _ (List.mem_cons_self)))
  have e5 := h.fr.val hus 5 _ (List.mem_cons_of_mem _ (List.mem_cons_of_mem _ (List.mem_cons_of_mem _ (List.mem_cons_self))))
  rw [e0, e1, e4, e5]
  clear e0 e1 e4 e5
  have hk := h.ib
  have k0 := hk.c0
  have k1 := hk.c1
  have k2 := hk.c2
  have k3 := hk.c3
  have k4 := hk.c4
  have k5 := hk.c5
  have k6 := hk.c6
  have z0 := hk.fz 0
  have z1 := hk.fz 1
  have z2 := hk.fz 2
  have z3 := hk.fz 3
  have z4 := hk.fz 4
  have z5 := hk.fz 5
  have z6 := hk.fz 6
  have HK := Lib.hid hk
  have HA := Lib.hid h.at_
  have HS := Lib.hid h.same
  have HT := Lib.hid hT
  clear hT
  clear hk h hus
  have HM := Lib.hid hm
  clear hm
  have HQ := Lib.hid hq
  clear hq
  have hnn : (reg == reg) = true := by simp
  conv => arg 2; whnf; arg 2; whnf
  go_wp2_with (first
    | (go_at_call 36; refine (need_yes _).mono ?_; rintro e w9 ⟨rfl, rfl⟩)
    | (go_at_call 52; (with_reducible refine (mark_take wL ls ws 114 (by omega) (by omega) reg r HM.out vt vf _ HA.out).mono ?_); rintro e w2 ⟨rfl, ha, hs⟩; have HA2 := Lib.hid ha; have HS2 := Lib.hid (HS.out.also hs); have hk2 := IB.same HK.out hs hlt; have HK2 := Lib.hid hk2; clear k0 z0 k1 z1 k2 z2 k3 z3 k4 z4 k5 z5 k6 z6; have k0 := hk2.c0; have k1 := hk2.c1; have k2 := hk2.c2; have k3 := hk2.c3; have k4 := hk2.c4; have k5 := hk2.c5; have k6 := hk2.c6; have z0 := hk2.fz 0; have z1 := hk2.fz 1; have z2 := hk2.fz 2; have z3 := hk2.fz 3; have z4 := hk2.fz 4; have z5 := hk2.fz 5; have z6 := hk2.fz 6; clear ha hs hk2)
    | (go_at_call 52; (with_reducible refine (mark_take wL ls r 116 (by omega) (by omega) ty (y :: r2) HQ.out vt vf _ HA2.out).mono ?_); rintro e w3 ⟨rfl, ha, hs⟩; have HA3 := Lib.hid ha; have HS3 := Lib.hid (HS2.out.also hs); have hk3 := IB.same HK2.out hs hlt; have HK3 := Lib.hid hk3; clear k0 z0 k1 z1 k2 z2 k3 z3 k4 z4 k5 z5 k6 z6; have k0 := hk3.c0; have k1 := hk3.c1; have k2 := hk3.c2; have k3 := hk3.c3; have k4 := hk3.c4; have k5 := hk3.c5; have k6 := hk3.c6; have z0 := hk3.fz 0; have z1 := hk3.fz 1; have z2 := hk3.fz 2; have z3 := hk3.fz 3; have z4 := hk3.fz 4; have z5 := hk3.fz 5; have z6 := hk3.fz 6; clear ha hs hk3)
    | (go_at_call 34; (with_reducible refine (word_ok wL ls y r2 vt vf _ (HA3.out.set hlt _ _)).mono ?_); rintro e w4 ⟨rfl, ha, hs⟩; have HA4 := Lib.hid ha; have HS4 := Lib.hid ((HS3.out.set (Nat.le_refl _) _ _).also hs); have hk4 := IB.same (HK3.out.set1 _) hs hlt; have HK4 := Lib.hid hk4; clear k0 z0 k1 z1 k2 z2 k3 z3 k4 z4 k5 z5 k6 z6; have k0 := hk4.c0; have k1 := hk4.c1; have k2 := hk4.c2; have k3 := hk4.c3; have k4 := hk4.c4; have k5 := hk4.c5; have k6 := hk4.c6; have z0 := hk4.fz 0; have z1 := hk4.fz 1; have z2 := hk4.fz 2; have z3 := hk4.fz 3; have z4 := hk4.fz 4; have z5 := hk4.fz 5; have z6 := hk4.fz 6; clear ha hs hk4))
  exact HT.out _ _ ⟨⟨rfl, by intro p hp; simp only [List.mem_cons, List.not_mem_nil, or_false] at hp; rcases hp with rfl | rfl | rfl <;> rfl, rfl⟩, HK4.out, HA4.out, HS4.out⟩
set_option maxHeartbeats 1600000 in
set_option maxRecDepth 100000 in
theorem ins_Bb1 (wL : World) (ls : List (List ByteArray)) (ws : List ByteArray) (vt vf : Value) (w : World) (reg : Int) (hlt : wL.heap.size < w.heap.size) (hm : mkN 114 ws = none) (T : Code) (a : Act) (W : World) (h : St0 wL ls ws vt vf w reg true a W) :
    Code.wp Tryd.prog (cutAt 1 (rights 2 c77) T) (bodyPost Tryd.prog Tryd.f77 (Gone wL w)) a W := by
  obtain ⟨us, hus, rfl⟩ := open141 a h.fr.size h.fr.no
  have e0 := h.fr.val hus 0 _ (List.mem_cons_self)
  have e1 := h.fr.val hus 1 _ (List.mem_cons_of_mem _ (List.mem_cons_self))
  have e4 := h.fr.val hus 4 _ (List.mem_cons_of_mem _ (List.mem_cons_of_mem _ (List.mem_cons_self)))
  have e5 := h.fr.val hus 5 _ (List.mem_cons_of_mem _ (List.mem_cons_of_mem _ (List.mem_cons_of_mem _ (List.mem_cons_self))))
  rw [e0, e1, e4, e5]
  clear e0 e1 e4 e5
  have hk := h.ib
  have k0 := hk.c0
  have k1 := hk.c1
  have k2 := hk.c2
  have k3 := hk.c3
  have k4 := hk.c4
  have k5 := hk.c5
  have k6 := hk.c6
  have z0 := hk.fz 0
  have z1 := hk.fz 1
  have z2 := hk.fz 2
  have z3 := hk.fz 3
  have z4 := hk.fz 4
  have z5 := hk.fz 5
  have z6 := hk.fz 6
  have HK := Lib.hid hk
  have HA := Lib.hid h.at_
  have HS := Lib.hid h.same
  clear hk h hus
  have HM := Lib.hid hm
  clear hm
  conv => arg 2; whnf
  go_wp2_with (first
    | (go_at_call 52; (with_reducible refine (mark_fail wL ls ws 114 (by omega) (by omega) HM.out vt vf _ HA.out).mono ?_); rintro e w2 ⟨rfl, hb⟩))
  exact ⟨rfl, rfl, hb⟩
set_option maxHeartbeats 1600000 in
set_option maxRecDepth 100000 in
theorem ins_Bb2 (wL : World) (ls : List (List ByteArray)) (ws : List ByteArray) (vt vf : Value) (w : World) (reg : Int) (hlt : wL.heap.size < w.heap.size) (n : Int) (r : List ByteArray) (hm : mkN 114 ws = some (n, r)) (hne : n ≠ reg) (T : Code) (a : Act) (W : World) (h : St0 wL ls ws vt vf w reg true a W) :
    Code.wp Tryd.prog (cutAt 1 (rights 2 c77) T) (bodyPost Tryd.prog Tryd.f77 (Gone wL w)) a W := by
  obtain ⟨us, hus, rfl⟩ := open141 a h.fr.size h.fr.no
  have e0 := h.fr.val hus 0 _ (List.mem_cons_self)
  have e1 := h.fr.val hus 1 _ (List.mem_cons_of_mem _ (List.mem_cons_self))
  have e4 := h.fr.val hus 4 _ (List.mem_cons_of_mem _ (List.mem_cons_of_mem _ (List.mem_cons_self)))
  have e5 := h.fr.val hus 5 _ (List.mem_cons_of_mem _ (List.mem_cons_of_mem _ (List.mem_cons_of_mem _ (List.mem_cons_self))))
  rw [e0, e1, e4, e5]
  clear e0 e1 e4 e5
  have hk := h.ib
  have k0 := hk.c0
  have k1 := hk.c1
  have k2 := hk.c2
  have k3 := hk.c3
  have k4 := hk.c4
  have k5 := hk.c5
  have k6 := hk.c6
  have z0 := hk.fz 0
  have z1 := hk.fz 1
  have z2 := hk.fz 2
  have z3 := hk.fz 3
  have z4 := hk.fz 4
  have z5 := hk.fz 5
  have z6 := hk.fz 6
  have HK := Lib.hid hk
  have HA := Lib.hid h.at_
  have HS := Lib.hid h.same
  clear hk h hus
  have HM := Lib.hid hm
  clear hm
  have hnn : (n == reg) = false := beq_eq_false_iff_ne.2 hne
  conv => arg 2; whnf
  go_wp2_with (first
    | (go_at_call 36; refine (need_no _).mono ?_; rintro e w9 ⟨rfl, hw⟩; rw [hw])
    | (go_at_call 52; (with_reducible refine (mark_take wL ls ws 114 (by omega) (by omega) n r HM.out vt vf _ HA.out).mono ?_); rintro e w2 ⟨rfl, ha, hs⟩; have HA2 := Lib.hid ha; have HS2 := Lib.hid (HS.out.also hs); have hk2 := IB.same HK.out hs hlt; have HK2 := Lib.hid hk2; clear k0 z0 k1 z1 k2 z2 k3 z3 k4 z4 k5 z5 k6 z6; have k0 := hk2.c0; have k1 := hk2.c1; have k2 := hk2.c2; have k3 := hk2.c3; have k4 := hk2.c4; have k5 := hk2.c5; have k6 := hk2.c6; have z0 := hk2.fz 0; have z1 := hk2.fz 1; have z2 := hk2.fz 2; have z3 := hk2.fz 3; have z4 := hk2.fz 4; have z5 := hk2.fz 5; have z6 := hk2.fz 6; clear ha hs hk2))
  exact ⟨rfl, rfl, HA2.out.below⟩
set_option maxHeartbeats 1600000 in
set_option maxRecDepth 100000 in
theorem ins_Bb3 (wL : World) (ls : List (List ByteArray)) (ws : List ByteArray) (vt vf : Value) (w : World) (reg : Int) (hlt : wL.heap.size < w.heap.size) (r : List ByteArray) (hm : mkN 114 ws = some (reg, r)) (hq : mkN 116 r = none) (T : Code) (a : Act) (W : World) (h : St0 wL ls ws vt vf w reg true a W) :
    Code.wp Tryd.prog (cutAt 1 (rights 2 c77) T) (bodyPost Tryd.prog Tryd.f77 (Gone wL w)) a W := by
  obtain ⟨us, hus, rfl⟩ := open141 a h.fr.size h.fr.no
  have e0 := h.fr.val hus 0 _ (List.mem_cons_self)
  have e1 := h.fr.val hus 1 _ (List.mem_cons_of_mem _ (List.mem_cons_self))
  have e4 := h.fr.val hus 4 _ (List.mem_cons_of_mem _ (List.mem_cons_of_mem _ (List.mem_cons_self)))
  have e5 := h.fr.val hus 5 _ (List.mem_cons_of_mem _ (List.mem_cons_of_mem _ (List.mem_cons_of_mem _ (List.mem_cons_self))))
  rw [e0, e1, e4, e5]
  clear e0 e1 e4 e5
  have hk := h.ib
  have k0 := hk.c0
  have k1 := hk.c1
  have k2 := hk.c2
  have k3 := hk.c3
  have k4 := hk.c4
  have k5 := hk.c5
  have k6 := hk.c6
  have z0 := hk.fz 0
  have z1 := hk.fz 1
  have z2 := hk.fz 2
  have z3 := hk.fz 3
  have z4 := hk.fz 4
  have z5 := hk.fz 5
  have z6 := hk.fz 6
  have HK := Lib.hid hk
  have HA := Lib.hid h.at_
  have HS := Lib.hid h.same
  clear hk h hus
  have HM := Lib.hid hm
  clear hm
  have HQ := Lib.hid hq
  clear hq
  have hnn : (reg == reg) = true := by simp
  conv => arg 2; whnf
  go_wp2_with (first
    | (go_at_call 36; refine (need_yes _).mono ?_; rintro e w9 ⟨rfl, rfl⟩)
    | (go_at_call 52; (with_reducible refine (mark_take wL ls ws 114 (by omega) (by omega) reg r HM.out vt vf _ HA.out).mono ?_); rintro e w2 ⟨rfl, ha, hs⟩; have HA2 := Lib.hid ha; have HS2 := Lib.hid (HS.out.also hs); have hk2 := IB.same HK.out hs hlt; have HK2 := Lib.hid hk2; clear k0 z0 k1 z1 k2 z2 k3 z3 k4 z4 k5 z5 k6 z6; have k0 := hk2.c0; have k1 := hk2.c1; have k2 := hk2.c2; have k3 := hk2.c3; have k4 := hk2.c4; have k5 := hk2.c5; have k6 := hk2.c6; have z0 := hk2.fz 0; have z1 := hk2.fz 1; have z2 := hk2.fz 2; have z3 := hk2.fz 3; have z4 := hk2.fz 4; have z5 := hk2.fz 5; have z6 := hk2.fz 6; clear ha hs hk2)
    | (go_at_call 52; (with_reducible refine (mark_fail wL ls r 116 (by omega) (by omega) HQ.out vt vf _ HA2.out).mono ?_); rintro e w3 ⟨rfl, hb⟩))
  exact ⟨rfl, rfl, hb⟩
end Go.Proofs.YtlghkomipboflaaDoor.Rd
end
section
namespace Go.Proofs.YtlghkomipboflaaDoor.Rd
open Go.RowKit Go.Proofs.YtlghkomipboflaaDoor Go.Proofs.YtlghkomipboflaaDoor.X Go.Proofs.YtlghkomipboflaaDoorW.PrintWords Go.Proofs.YtlghkomipboflaaDoorW.PrintLast Go.Proofs.YtlghkomipboflaaDoorW.PrintMore
set_option linter.unusedVariables false
set_option linter.unusedSimpArgs false
def opsB : List ByteArray := read_ops.f.getD []
theorem opsB_len : opsB.length = 23 := by decide +kernel
theorem ops_some : read_ops.f = some opsB := rfl
def idxFrom (a : ByteArray) : Int → List ByteArray → Int
  | _, [] => -1
  | i, b :: r => if a.toList = b.toList then i else idxFrom a (i + 1) r
theorem idx_l0 (a : ByteArray) (l : List ByteArray) (hl : l.length ≤ 1000000) : ∀ (n k : Nat) (i : Nat), i + n = l.length → n < k → slices_Index_string_string.l0 k l a (l.length : Int) (i : Int) = some (idxFrom a i (l.drop i)) := by
  intro n
  induction n with
  | zero =>
    intro k i hi hk
    obtain ⟨k, rfl⟩ : ∃ q, k = q + 1 := ⟨k - 1, by omega⟩
    unfold slices_Index_string_string.l0
    rw [if_neg (by omega), List.drop_eq_nil_of_le (by omega)]
    rfl
  | succ n ih =>
    intro k i hi hk
    obtain ⟨k, rfl⟩ : ∃ q, k = q + 1 := ⟨k - 1, by omega⟩
    have hlt : i < l.length := by omega
    have e1 : wrap64 ((i : Int) + 1) = ((i + 1 : Nat) : Int) := by unfold wrap64; omega
    have e2 : rdOf ByteArray.empty l (i : Int) = l[i] := by unfold rdOf; simp [hlt]
    unfold slices_Index_string_string.l0
    rw [if_pos (by omega), if_pos (by omega), if_pos (by omega), e1, e2, ih k (i + 1) (by omega) (by omega), List.drop_eq_getElem_cons hlt]
    have e3 : idxFrom a (i : Int) (l[i] :: l.drop (i + 1)) = if a.toList = l[i].toList then (i : Int) else idxFrom a ((i + 1 : Nat) : Int) (l.drop (i + 1)) := rfl
    rw [e3]
    by_cases h : a.toList = l[i].toList
    · rw [if_pos h, if_pos h]
    · rw [if_neg h, if_neg h]
def idxF (a : ByteArray) : Int := idxFrom a 0 opsB
theorem idx_ops (a : ByteArray) : slices_Index_string_string.f 24 opsB a = some (idxF a) := by
  unfold slices_Index_string_string.f idxF
  have := idx_l0 a opsB (by rw [opsB_len]; omega) 23 24 0 (by rw [opsB_len]) (by omega)
  simpa using this
theorem idxFrom_le (a : ByteArray) : ∀ (l : List ByteArray) (i : Int), 0 ≤ i → -1 ≤ idxFrom a i l ∧ idxFrom a i l < i + (l.length : Int) := by
  intro l
  induction l with
  | nil => intro i hi; simp [idxFrom]; omega
  | cons b r ih =>
    intro i hi
    unfold idxFrom
    by_cases h : a.toList = b.toList
    · rw [if_pos h]; simp; omega
    · rw [if_neg h]
      have := ih (i + 1) (by omega)
      simp
      omega
theorem idxF_le (a : ByteArray) : -1 ≤ idxF a ∧ idxF a ≤ 22 := by
  have := idxFrom_le a opsB 0 (by omega)
  rw [opsB_len] at this
  unfold idxF
  omega
set_option maxHeartbeats 1600000 in
set_option maxRecDepth 100000 in
theorem ins_Cok (wL : World) (hsh : ShTab wL) (ls : List (List ByteArray)) (x : ByteArray) (r : List ByteArray) (vt vf : Value) (w : World) (ans : Bool) (ty : Int) (hlt : wL.heap.size < w.heap.size) (h1 : 0 < idxF x) (h2 : hR (idxF x) = ans) (T : Code) (R : Ending → World → Prop)
    (hT : ∀ a W, St2 wL ls r vt vf w (idxF x) ty a W → Code.wp Tryd.prog T (bodyPost Tryd.prog Tryd.f77 R) a W) (a : Act) (W : World) (h : St1 wL ls (x :: r) vt vf w ans ty a W) :
    Code.wp Tryd.prog (cutAt 2 (rights 3 c77) T) (bodyPost Tryd.prog Tryd.f77 R) a W := by
  obtain ⟨us, hus, rfl⟩ := open141 a h.fr.size h.fr.no
  have e0 := h.fr.val hus 0 _ (List.mem_cons_self)
  have e4 := h.fr.val hus 4 _ (List.mem_cons_of_mem _ (List.mem_cons_self))
  have e5 := h.fr.val hus 5 _ (List.mem_cons_of_mem _ (List.mem_cons_of_mem _ (List.mem_cons_self)))
  rw [e0, e4, e5]
  clear e0 e4 e5
  have hk := h.ib
  have k0 := hk.c0
  have k1 := hk.c1
  have k2 := hk.c2
  have k3 := hk.c3
  have k4 := hk.c4
  have k5 := hk.c5
  have k6 := hk.c6
  have z0 := hk.fz 0
  have z1 := hk.fz 1
  have z2 := hk.fz 2
  have z3 := hk.fz 3
  have z4 := hk.fz 4
  have z5 := hk.fz 5
  have z6 := hk.fz 6
  have HK := Lib.hid hk
  have HA := Lib.hid h.at_
  have HS := Lib.hid h.same
  have HSH := Lib.hid hsh
  have hbW : w.heap.size < W.heap.size := blk_lt hk
  obtain ⟨op, hop⟩ : ∃ op, op = idxF x := ⟨_, rfl⟩
  have hop1 : -1 ≤ op := by rw [hop]; exact (idxF_le x).1
  have hop2 : op ≤ 22 := by rw [hop]; exact (idxF_le x).2
  have HO := Lib.hid hop
  have hop3 : (0 : Int) < op := by rw [hop]; exact h1
  have hu8 : IntKind.u8.wrap op = op := by show op % 256 = op; omega
  have hrr : hR op = ans := by rw [hop]; exact h2
  have hrb : (hR op == ans) = true := by rw [hrr]; exact beq_self_eq_true _
  clear h1 h2 hrr
  rw [← hop] at hT
  have HT := Lib.hid hT
  clear hT
  clear hk h hus hsh hop
  clear k0 z0 k1 z1 k2 z2 k3 z3 k4 z4 k5 z5 k6 z6
  conv => arg 2; whnf; arg 2; whnf; arg 2; whnf
  go_wp2
  go_region_with (first
    | (go_at_call 86; obtain ⟨Ax, cx, hv, hcx, hC⟩ := Kd.R_reads HR.out; cases hv; (with_reducible refine (slices_Index_string_string.calls 24 Ao co opsB x _ _ hC hcx (idx_ops x)).mono ?_); rintro e w5 ⟨rfl, hd⟩; rw [← HO.out]; have HA5 := Lib.hid (HA2.out.later hd.below); have HS5 := Lib.hid (HS2.out.later hd.below); have hk5 := HK2.out.block (hd.below.block _ (blk_lt HK2.out)); have HK5 := Lib.hid hk5; clear hd hk5 hC hcx)
    | (go_at_call 87; (with_reducible refine (read_ops.calls opsB _ ops_some).mono ?_); rintro e wo ⟨vo, rfl, hr, hb⟩; obtain ⟨Ao, co, rfl⟩ := Kd.R_slice hr; have HR := Lib.hid hr; have HA2 := Lib.hid ((HAw.out.drewN _).later hb); have HS2 := Lib.hid (HSw.out.later hb); have hk2 := HKw.out.block (hb.block _ (blk_lt HKw.out)); have HK2 := Lib.hid hk2; clear hb hk2 hr)
    | (go_at_call 34; (with_reducible refine (word_ok wL ls x r vt vf _ HAo.out).mono ?_); rintro e ww ⟨rfl, ha, hs⟩; have HA2 := Lib.hid ha; have HS2 := Lib.hid (HSo.out.also hs); have hk2 := IB.same HKo.out hs hlt; have HK2 := Lib.hid hk2; replace HR := Lib.hid (R_same HR.out hs (Nat.lt_trans hlt hbW)); clear ha hs hk2)
    | (go_at_call 87; (with_reducible refine (read_ops.calls opsB _ ops_some).mono ?_); rintro e wo ⟨vo, rfl, hr, hb⟩; obtain ⟨Ao, co, rfl⟩ := Kd.R_slice hr; have HR := Lib.hid hr; have hb : Below W.heap.size W wo := (Below.refl _ _).drew.trans hb; have HAo := Lib.hid (HA.out.later hb); have HSo := Lib.hid (HS.out.later hb); have hk2 := HK.out.block (hb.block _ hbW); have HKo := Lib.hid hk2; clear hb hk2 hr)
    | (go_at_call 34; refine (word_ok wL ls x r vt vf _ (HA.out.drewN _)).mono ?_; rintro e ww ⟨rfl, ha, hs⟩; have HAw := Lib.hid ha; have HSw := Lib.hid (HS.out.also hs); have hk2 := IB.same HK.out hs hlt; have HKw := Lib.hid hk2; clear ha hs hk2))
  all_goals
    go_wp2_with (first | (go_at_call 36; refine (need_yes _).mono ?_; rintro e w9 ⟨rfl, rfl⟩) | (go_at_call 88; (with_reducible refine (shape_Answers.calls op (hR op) _ (by unfold shape_Answers.f; rw [if_pos ⟨by omega, by omega⟩]) (HA5.out.tab HSH.out)).mono ?_); rintro e w6 ⟨rfl, hd⟩; have HA6 := Lib.hid (HA5.out.later hd); have HS6 := Lib.hid (HS5.out.later hd); have hk6 := HK5.out.block (hd.block _ (blk_lt HK5.out)); have HK6 := Lib.hid hk6; clear hd hk6))
    exact HT.out _ _ ⟨⟨rfl, by intro p hp; simp only [List.mem_cons, List.not_mem_nil, or_false] at hp; rcases hp with rfl | rfl | rfl <;> rfl, rfl⟩, HK6.out, HA6.out, HS6.out⟩
set_option maxHeartbeats 1600000 in
set_option maxRecDepth 100000 in
theorem ins_Cb2 (wL : World) (hsh : ShTab wL) (ls : List (List ByteArray)) (x : ByteArray) (r : List ByteArray) (vt vf : Value) (w : World) (ans : Bool) (ty : Int) (hlt : wL.heap.size < w.heap.size) (h1 : 0 < idxF x) (h2 : hR (idxF x) ≠ ans) (T : Code) (a : Act) (W : World) (h : St1 wL ls (x :: r) vt vf w ans ty a W) :
    Code.wp Tryd.prog (cutAt 2 (rights 3 c77) T) (bodyPost Tryd.prog Tryd.f77 (Gone wL w)) a W := by
  obtain ⟨us, hus, rfl⟩ := open141 a h.fr.size h.fr.no
  have e0 := h.fr.val hus 0 _ (List.mem_cons_self)
  have e4 := h.fr.val hus 4 _ (List.mem_cons_of_mem _ (List.mem_cons_self))
  have e5 := h.fr.val hus 5 _ (List.mem_cons_of_mem _ (List.mem_cons_of_mem _ (List.mem_cons_self)))
  rw [e0, e4, e5]
  clear e0 e4 e5
  have hk := h.ib
  have k0 := hk.c0
  have k1 := hk.c1
  have k2 := hk.c2
  have k3 := hk.c3
  have k4 := hk.c4
  have k5 := hk.c5
  have k6 := hk.c6
  have z0 := hk.fz 0
  have z1 := hk.fz 1
  have z2 := hk.fz 2
  have z3 := hk.fz 3
  have z4 := hk.fz 4
  have z5 := hk.fz 5
  have z6 := hk.fz 6
  have HK := Lib.hid hk
  have HA := Lib.hid h.at_
  have HS := Lib.hid h.same
  have HSH := Lib.hid hsh
  have hbW : w.heap.size < W.heap.size := blk_lt hk
  obtain ⟨op, hop⟩ : ∃ op, op = idxF x := ⟨_, rfl⟩
  have hop1 : -1 ≤ op := by rw [hop]; exact (idxF_le x).1
  have hop2 : op ≤ 22 := by rw [hop]; exact (idxF_le x).2
  have HO := Lib.hid hop
  have hop3 : (0 : Int) < op := by rw [hop]; exact h1
  have hu8 : IntKind.u8.wrap op = op := by show op % 256 = op; omega
  have hrb : (hR op == ans) = false := by rw [hop]; exact beq_eq_false_iff_ne.2 h2
  clear h1 h2
  clear hk h hus hsh hop
  clear k0 z0 k1 z1 k2 z2 k3 z3 k4 z4 k5 z5 k6 z6
  conv => arg 2; whnf; arg 2; whnf
  go_wp2
  go_region_with (first
    | (go_at_call 86; obtain ⟨Ax, cx, hv, hcx, hC⟩ := Kd.R_reads HR.out; cases hv; (with_reducible refine (slices_Index_string_string.calls 24 Ao co opsB x _ _ hC hcx (idx_ops x)).mono ?_); rintro e w5 ⟨rfl, hd⟩; rw [← HO.out]; have HA5 := Lib.hid (HA2.out.later hd.below); have HS5 := Lib.hid (HS2.out.later hd.below); have hk5 := HK2.out.block (hd.below.block _ (blk_lt HK2.out)); have HK5 := Lib.hid hk5; clear hd hk5 hC hcx)
    | (go_at_call 87; (with_reducible refine (read_ops.calls opsB _ ops_some).mono ?_); rintro e wo ⟨vo, rfl, hr, hb⟩; obtain ⟨Ao, co, rfl⟩ := Kd.R_slice hr; have HR := Lib.hid hr; have HA2 := Lib.hid ((HAw.out.drewN _).later hb); have HS2 := Lib.hid (HSw.out.later hb); have hk2 := HKw.out.block (hb.block _ (blk_lt HKw.out)); have HK2 := Lib.hid hk2; clear hb hk2 hr)
    | (go_at_call 34; (with_reducible refine (word_ok wL ls x r vt vf _ HAo.out).mono ?_); rintro e ww ⟨rfl, ha, hs⟩; have HA2 := Lib.hid ha; have HS2 := Lib.hid (HSo.out.also hs); have hk2 := IB.same HKo.out hs hlt; have HK2 := Lib.hid hk2; replace HR := Lib.hid (R_same HR.out hs (Nat.lt_trans hlt hbW)); clear ha hs hk2)
    | (go_at_call 87; (with_reducible refine (read_ops.calls opsB _ ops_some).mono ?_); rintro e wo ⟨vo, rfl, hr, hb⟩; obtain ⟨Ao, co, rfl⟩ := Kd.R_slice hr; have HR := Lib.hid hr; have hb : Below W.heap.size W wo := (Below.refl _ _).drew.trans hb; have HAo := Lib.hid (HA.out.later hb); have HSo := Lib.hid (HS.out.later hb); have hk2 := HK.out.block (hb.block _ hbW); have HKo := Lib.hid hk2; clear hb hk2 hr)
    | (go_at_call 34; refine (word_ok wL ls x r vt vf _ (HA.out.drewN _)).mono ?_; rintro e ww ⟨rfl, ha, hs⟩; have HAw := Lib.hid ha; have HSw := Lib.hid (HS.out.also hs); have hk2 := IB.same HK.out hs hlt; have HKw := Lib.hid hk2; clear ha hs hk2))
  all_goals
    go_wp2_with (first | (go_at_call 36; refine (need_no _).mono ?_; rintro e w9 ⟨rfl, hw⟩; rw [hw]) | (go_at_call 88; (with_reducible refine (shape_Answers.calls op (hR op) _ (by unfold shape_Answers.f; rw [if_pos ⟨by omega, by omega⟩]) (HA5.out.tab HSH.out)).mono ?_); rintro e w6 ⟨rfl, hd⟩; have HA6 := Lib.hid (HA5.out.later hd); have HS6 := Lib.hid (HS5.out.later hd); have hk6 := HK5.out.block (hd.block _ (blk_lt HK5.out)); have HK6 := Lib.hid hk6; clear hd hk6))
    exact ⟨rfl, rfl, HA6.out.below⟩
set_option maxHeartbeats 1600000 in
set_option maxRecDepth 100000 in
theorem ins_Cb1 (wL : World) (hsh : ShTab wL) (ls : List (List ByteArray)) (x : ByteArray) (r : List ByteArray) (vt vf : Value) (w : World) (ans : Bool) (ty : Int) (hlt : wL.heap.size < w.heap.size) (h1 : idxF x ≤ 0) (T : Code) (a : Act) (W : World) (h : St1 wL ls (x :: r) vt vf w ans ty a W) :
    Code.wp Tryd.prog (cutAt 2 (rights 3 c77) T) (bodyPost Tryd.prog Tryd.f77 (Gone wL w)) a W := by
  obtain ⟨us, hus, rfl⟩ := open141 a h.fr.size h.fr.no
  have e0 := h.fr.val hus 0 _ (List.mem_cons_self)
  have e4 := h.fr.val hus 4 _ (List.mem_cons_of_mem _ (List.mem_cons_self))
  have e5 := h.fr.val hus 5 _ (List.mem_cons_of_mem _ (List.mem_cons_of_mem _ (List.mem_cons_self)))
  rw [e0, e4, e5]
  clear e0 e4 e5
  have hk := h.ib
  have k0 := hk.c0
  have k1 := hk.c1
  have k2 := hk.c2
  have k3 := hk.c3
  have k4 := hk.c4
  have k5 := hk.c5
  have k6 := hk.c6
  have z0 := hk.fz 0
  have z1 := hk.fz 1
  have z2 := hk.fz 2
  have z3 := hk.fz 3
  have z4 := hk.fz 4
  have z5 := hk.fz 5
  have z6 := hk.fz 6
  have HK := Lib.hid hk
  have HA := Lib.hid h.at_
  have HS := Lib.hid h.same
  have HSH := Lib.hid hsh
  have hbW : w.heap.size < W.heap.size := blk_lt hk
  obtain ⟨op, hop⟩ : ∃ op, op = idxF x := ⟨_, rfl⟩
  have hop1 : -1 ≤ op := by rw [hop]; exact (idxF_le x).1
  have hop2 : op ≤ 22 := by rw [hop]; exact (idxF_le x).2
  have HO := Lib.hid hop
  have hop3 : ¬ (0 : Int) < op := by rw [hop]; omega
  clear h1
  clear hk h hus hsh hop
  clear k0 z0 k1 z1 k2 z2 k3 z3 k4 z4 k5 z5 k6 z6
  conv => arg 2; whnf; arg 2; whnf
  go_wp2
  go_region_with (first
    | (go_at_call 86; obtain ⟨Ax, cx, hv, hcx, hC⟩ := Kd.R_reads HR.out; cases hv; (with_reducible refine (slices_Index_string_string.calls 24 Ao co opsB x _ _ hC hcx (idx_ops x)).mono ?_); rintro e w5 ⟨rfl, hd⟩; rw [← HO.out]; have HA5 := Lib.hid (HA2.out.later hd.below); have HS5 := Lib.hid (HS2.out.later hd.below); have hk5 := HK2.out.block (hd.below.block _ (blk_lt HK2.out)); have HK5 := Lib.hid hk5; clear hd hk5 hC hcx)
    | (go_at_call 87; (with_reducible refine (read_ops.calls opsB _ ops_some).mono ?_); rintro e wo ⟨vo, rfl, hr, hb⟩; obtain ⟨Ao, co, rfl⟩ := Kd.R_slice hr; have HR := Lib.hid hr; have HA2 := Lib.hid ((HAw.out.drewN _).later hb); have HS2 := Lib.hid (HSw.out.later hb); have hk2 := HKw.out.block (hb.block _ (blk_lt HKw.out)); have HK2 := Lib.hid hk2; clear hb hk2 hr)
    | (go_at_call 34; (with_reducible refine (word_ok wL ls x r vt vf _ HAo.out).mono ?_); rintro e ww ⟨rfl, ha, hs⟩; have HA2 := Lib.hid ha; have HS2 := Lib.hid (HSo.out.also hs); have hk2 := IB.same HKo.out hs hlt; have HK2 := Lib.hid hk2; replace HR := Lib.hid (R_same HR.out hs (Nat.lt_trans hlt hbW)); clear ha hs hk2)
    | (go_at_call 87; (with_reducible refine (read_ops.calls opsB _ ops_some).mono ?_); rintro e wo ⟨vo, rfl, hr, hb⟩; obtain ⟨Ao, co, rfl⟩ := Kd.R_slice hr; have HR := Lib.hid hr; have hb : Below W.heap.size W wo := (Below.refl _ _).drew.trans hb; have HAo := Lib.hid (HA.out.later hb); have HSo := Lib.hid (HS.out.later hb); have hk2 := HK.out.block (hb.block _ hbW); have HKo := Lib.hid hk2; clear hb hk2 hr)
    | (go_at_call 34; refine (word_ok wL ls x r vt vf _ (HA.out.drewN _)).mono ?_; rintro e ww ⟨rfl, ha, hs⟩; have HAw := Lib.hid ha; have HSw := Lib.hid (HS.out.also hs); have hk2 := IB.same HK.out hs hlt; have HKw := Lib.hid hk2; clear ha hs hk2))
  all_goals
    go_wp2_with (go_at_call 36; refine (need_no _).mono ?_; rintro e w9 ⟨rfl, hw⟩; rw [hw])
    exact ⟨rfl, rfl, HA5.out.below⟩
set_option maxHeartbeats 1600000 in
set_option maxRecDepth 100000 in
theorem ins_Cb0 (wL : World) (hsh : ShTab wL) (ls : List (List ByteArray)) (x : ByteArray) (r : List ByteArray) (vt vf : Value) (w : World) (ans : Bool) (ty : Int) (hlt : wL.heap.size < w.heap.size)  (T : Code) (a : Act) (W : World) (h : St1 wL ls [] vt vf w ans ty a W) :
    Code.wp Tryd.prog (cutAt 2 (rights 3 c77) T) (bodyPost Tryd.prog Tryd.f77 (Gone wL w)) a W := by
  obtain ⟨us, hus, rfl⟩ := open141 a h.fr.size h.fr.no
  have e0 := h.fr.val hus 0 _ (List.mem_cons_self)
  have e4 := h.fr.val hus 4 _ (List.mem_cons_of_mem _ (List.mem_cons_self))
  have e5 := h.fr.val hus 5 _ (List.mem_cons_of_mem _ (List.mem_cons_of_mem _ (List.mem_cons_self)))
  rw [e0, e4, e5]
  clear e0 e4 e5
  have hk := h.ib
  have k0 := hk.c0
  have k1 := hk.c1
  have k2 := hk.c2
  have k3 := hk.c3
  have k4 := hk.c4
  have k5 := hk.c5
  have k6 := hk.c6
  have z0 := hk.fz 0
  have z1 := hk.fz 1
  have z2 := hk.fz 2
  have z3 := hk.fz 3
  have z4 := hk.fz 4
  have z5 := hk.fz 5
  have z6 := hk.fz 6
  have HK := Lib.hid hk
  have HA := Lib.hid h.at_
  have HS := Lib.hid h.same
  have HSH := Lib.hid hsh
  have hbW : w.heap.size < W.heap.size := blk_lt hk
  obtain ⟨op, hop⟩ : ∃ op, op = idxF x := ⟨_, rfl⟩
  have hop1 : -1 ≤ op := by rw [hop]; exact (idxF_le x).1
  have hop2 : op ≤ 22 := by rw [hop]; exact (idxF_le x).2
  have HO := Lib.hid hop
  clear hk h hus hsh hop
  clear k0 z0 k1 z1 k2 z2 k3 z3 k4 z4 k5 z5 k6 z6
  conv => arg 2; whnf; arg 2; whnf
  go_wp2
  go_region_with (first
    | (go_at_call 34; refine (word_bad wL ls vt vf _ HAo.out).mono ?_; rintro e ww ⟨rfl, hb⟩; refine gone_dummy (w := w) ⟨rfl, rfl, hb⟩ ?_)
    | (go_at_call 87; (with_reducible refine (read_ops.calls opsB _ ops_some).mono ?_); rintro e wo ⟨vo, rfl, hr, hb⟩; obtain ⟨Ao, co, rfl⟩ := Kd.R_slice hr; have HR := Lib.hid hr; have hb : Below W.heap.size W wo := (Below.refl _ _).drew.trans hb; have HAo := Lib.hid (HA.out.later hb); have HSo := Lib.hid (HS.out.later hb); have hk2 := HK.out.block (hb.block _ hbW); have HKo := Lib.hid hk2; clear hb hk2 hr)
    | (go_at_call 34; refine (word_bad wL ls vt vf _ (HA.out.drewN _)).mono ?_; rintro e ww ⟨rfl, hb⟩; refine gone_dummy (w := w) ⟨rfl, rfl, hb⟩ ?_))
  all_goals trivial
end Go.Proofs.YtlghkomipboflaaDoor.Rd
end
section
namespace Go.Proofs.YtlghkomipboflaaDoor.Rd
open Go.RowKit Go.Proofs.YtlghkomipboflaaDoor Go.Proofs.YtlghkomipboflaaDoor.X Go.Proofs.YtlghkomipboflaaDoorW.PrintWords Go.Proofs.YtlghkomipboflaaDoorW.PrintLast Go.Proofs.YtlghkomipboflaaDoorW.PrintMore
set_option linter.unusedVariables false
set_option linter.unusedSimpArgs false
theorem ins_A (wL : World) (ls : List (List ByteArray)) (x : ByteArray) (l : List ByteArray) (vt vf : Value) (w : World) (reg : Int) (hx : 0 < x.size) (T : Code) (R : Ending → World → Prop)
    (hT : ∀ a W, St0 wL ls (x :: l) vt vf w reg (ansL (x :: l)) a W → Code.wp Tryd.prog T (bodyPost Tryd.prog Tryd.f77 R) a W) (a : Act) (W : World) (h : St00 wL ls (x :: l) vt vf w reg a W) :
    Code.wp Tryd.prog (cutAt 1 (rights 1 c77) T) (bodyPost Tryd.prog Tryd.f77 R) a W := by
  have e0 : x.data.toList.head? = some (x[0]'hx) := by
    have : x.data.toList[0]? = some (x[0]'hx) := by
      rw [Array.getElem?_toList, Array.getElem?_eq_getElem hx]
      rfl
    rw [← this, List.head?_eq_getElem?]
  by_cases hb : ((x[0]'hx).toNat : Int) = 114
  · have hb2 : x[0]'hx = 114 := by
      apply UInt8.toNat_inj.1
      have : (x[0]'hx).toNat = 114 := by omega
      rw [this]
      rfl
    match l, hT, h with
    | [], hT, h => exact ins_A1 wL ls x [] vt vf w reg hx hb (by simp) T R hT a W h
    | [y], hT, h => exact ins_A1 wL ls x [y] vt vf w reg hx hb (by simp) T R hT a W h
    | y :: z :: l, hT, h =>
      refine ins_A2 wL ls x y z l vt vf w reg hx hb T R ?_ a W h
      have : ansL (x :: y :: z :: l) = (z.toList == [61]) := by
        show (x.data.toList.head? == some 114 && z.toList == [61]) = _
        rw [e0, hb2]
        simp
      rw [this] at hT
      exact hT
  · have hb2 : x[0]'hx ≠ 114 := by
      intro e
      apply hb
      rw [e]
      rfl
    refine ins_A0 wL ls x l vt vf w reg hx hb T R ?_ a W h
    have : ansL (x :: l) = false := by
      match l with
      | [] => rfl
      | [_] => rfl
      | y :: z :: l =>
        show (x.data.toList.head? == some 114 && z.toList == [61]) = _
        rw [e0]
        simp [hb2]
    rw [this] at hT
    exact hT
def headF (ans : Bool) (reg : Int) (ws : List ByteArray) : Option (Int × List ByteArray) :=
  if ans then (mkN 114 ws).bind fun p => if p.1 = reg then (mkN 116 p.2).map fun q => (q.1, q.2.tail) else none
  else some (0, ws)
theorem mkN_ln {c : Int} {ws r : List ByteArray} {n : Int} (h : mkN c ws = some (n, r)) : ws.length = r.length + 1 := by
  cases ws with
  | nil => cases h
  | cons x l =>
    unfold mkN at h
    rw [Option.map_eq_some_iff] at h
    obtain ⟨m, _, e⟩ := h
    cases e
    rfl
theorem smN_ln {ws r : List ByteArray} {n : Int} (h : smN ws = some (n, r)) : ws.length = r.length + 1 := by
  cases ws with
  | nil => cases h
  | cons x l =>
    unfold smN at h
    rw [Option.map_eq_some_iff] at h
    obtain ⟨m, _, e⟩ := h
    cases e
    rfl
theorem ins_B (wL : World) (ls : List (List ByteArray)) (ws : List ByteArray) (vt vf : Value) (w : World) (reg : Int) (hlt : wL.heap.size < w.heap.size) (ans : Bool) (hlen : ans = true → 3 ≤ ws.length) (ty : Int) (r : List ByteArray) (hf : headF ans reg ws = some (ty, r)) (T : Code) (R : Ending → World → Prop)
    (hT : ∀ a W, St1 wL ls r vt vf w ans ty a W → Code.wp Tryd.prog T (bodyPost Tryd.prog Tryd.f77 R) a W) (a : Act) (W : World) (h : St0 wL ls ws vt vf w reg ans a W) :
    Code.wp Tryd.prog (cutAt 1 (rights 2 c77) T) (bodyPost Tryd.prog Tryd.f77 R) a W := by
  cases ans with
  | false =>
    unfold headF at hf
    simp only [Bool.false_eq_true, if_false, Option.some.injEq, Prod.mk.injEq] at hf
    obtain ⟨rfl, rfl⟩ := hf
    exact ins_Bno wL ls ws vt vf w reg hlt T R hT a W h
  | true =>
    have hlen := hlen rfl
    unfold headF at hf
    rw [if_pos rfl, Option.bind_eq_some_iff] at hf
    obtain ⟨p, hp, hf⟩ := hf
    by_cases hr : p.1 = reg
    · rw [if_pos hr, Option.map_eq_some_iff] at hf
      obtain ⟨q, hq, e⟩ := hf
      cases e
      have l1 := mkN_ln hp
      have l2 := mkN_ln hq
      obtain ⟨p1, p2⟩ := p
      obtain ⟨q1, q2⟩ := q
      simp only at hr hq l1 l2 hT
      subst hr
      cases q2 with
      | nil => simp at l2; omega
      | cons y r2 => exact ins_Bok wL ls ws vt vf w p1 hlt p2 hp q1 y r2 hq T R hT a W h
    · rw [if_neg hr] at hf
      cases hf
theorem ins_Bbad (wL : World) (ls : List (List ByteArray)) (ws : List ByteArray) (vt vf : Value) (w : World) (reg : Int) (hlt : wL.heap.size < w.heap.size) (ans : Bool) (hf : headF ans reg ws = none) (T : Code)
    (a : Act) (W : World) (h : St0 wL ls ws vt vf w reg ans a W) :
    Code.wp Tryd.prog (cutAt 1 (rights 2 c77) T) (bodyPost Tryd.prog Tryd.f77 (Gone wL w)) a W := by
  cases ans with
  | false => simp [headF] at hf
  | true =>
    unfold headF at hf
    rw [if_pos rfl] at hf
    cases hp : mkN 114 ws with
    | none => exact ins_Bb1 wL ls ws vt vf w reg hlt hp T a W h
    | some p =>
      obtain ⟨p1, p2⟩ := p
      rw [hp, Option.bind_some] at hf
      simp only at hf
      by_cases hr : p1 = reg
      · subst hr
        rw [if_pos rfl, Option.map_eq_none_iff] at hf
        exact ins_Bb3 wL ls ws vt vf w p1 hlt p2 hp hf T a W h
      · exact ins_Bb2 wL ls ws vt vf w reg hlt p1 p2 hp hr T a W h
def opF (ans : Bool) : List ByteArray → Option (Int × List ByteArray)
  | [] => none
  | x :: r => if 0 < idxF x ∧ hR (idxF x) = ans then some (idxF x, r) else none
theorem opF_cons (ans : Bool) (x : ByteArray) (r : List ByteArray) : opF ans (x :: r) = if 0 < idxF x ∧ hR (idxF x) = ans then some (idxF x, r) else none := rfl
theorem ins_C (wL : World) (hsh : ShTab wL) (ls : List (List ByteArray)) (ws : List ByteArray) (vt vf : Value) (w : World) (ans : Bool) (ty : Int) (hlt : wL.heap.size < w.heap.size) (op : Int) (r : List ByteArray) (hf : opF ans ws = some (op, r)) (T : Code) (R : Ending → World → Prop)
    (hT : ∀ a W, St2 wL ls r vt vf w op ty a W → Code.wp Tryd.prog T (bodyPost Tryd.prog Tryd.f77 R) a W) (a : Act) (W : World) (h : St1 wL ls ws vt vf w ans ty a W) :
    Code.wp Tryd.prog (cutAt 2 (rights 3 c77) T) (bodyPost Tryd.prog Tryd.f77 R) a W := by
  cases ws with
  | nil => cases hf
  | cons x l =>
    rw [opF_cons] at hf
    by_cases hc : 0 < idxF x ∧ hR (idxF x) = ans
    · rw [if_pos hc] at hf
      simp only [Option.some.injEq, Prod.mk.injEq] at hf
      obtain ⟨rfl, rfl⟩ := hf
      exact ins_Cok wL hsh ls x l vt vf w ans ty hlt hc.1 hc.2 T R hT a W h
    · rw [if_neg hc] at hf; cases hf
theorem ins_Cbad (wL : World) (hsh : ShTab wL) (ls : List (List ByteArray)) (ws : List ByteArray) (vt vf : Value) (w : World) (ans : Bool) (ty : Int) (hlt : wL.heap.size < w.heap.size) (hf : opF ans ws = none) (T : Code)
    (a : Act) (W : World) (h : St1 wL ls ws vt vf w ans ty a W) :
    Code.wp Tryd.prog (cutAt 2 (rights 3 c77) T) (bodyPost Tryd.prog Tryd.f77 (Gone wL w)) a W := by
  cases ws with
  | nil => exact ins_Cb0 wL hsh ls ⟨#[]⟩ [] vt vf w ans ty hlt T a W h
  | cons x l =>
    rw [opF_cons] at hf
    by_cases h1 : 0 < idxF x
    · by_cases h2 : hR (idxF x) = ans
      · rw [if_pos ⟨h1, h2⟩] at hf; cases hf
      · exact ins_Cb2 wL hsh ls x l vt vf w ans ty hlt h1 h2 T a W h
    · exact ins_Cb1 wL hsh ls x l vt vf w ans ty hlt (by omega) T a W h
theorem opF_le {ans : Bool} {ws r : List ByteArray} {op : Int} (hf : opF ans ws = some (op, r)) : 0 < op ∧ op ≤ 22 ∧ ws.length = r.length + 1 := by
  cases ws with
  | nil => cases hf
  | cons x l =>
    rw [opF_cons] at hf
    by_cases hc : 0 < idxF x ∧ hR (idxF x) = ans
    · rw [if_pos hc] at hf
      simp only [Option.some.injEq, Prod.mk.injEq] at hf
      obtain ⟨rfl, rfl⟩ := hf
      exact ⟨hc.1, (idxF_le x).2, rfl⟩
    · rw [if_neg hc] at hf; cases hf
def regsF (op : Int) (ws : List ByteArray) : Option (Int × Int × List ByteArray) :=
  if nU op = 2 then (mkN 114 ws).bind fun p => (mkN 114 p.2).map fun q => (p.1, q.1, q.2)
  else if nU op = 1 then (mkN 114 ws).map fun p => (p.1, 0, p.2)
  else some (0, 0, ws)
theorem nU_le (op : Int) : nU op = 0 ∨ nU op = 1 ∨ nU op = 2 := by
  unfold nU
  split
  · exact .inr (.inr rfl)
  · split
    · exact .inr (.inl rfl)
    · exact .inl rfl
theorem regsF_len {op a b : Int} {ws r : List ByteArray} (hf : regsF op ws = some (a, b, r)) : r.length ≤ ws.length := by
  unfold regsF at hf
  split at hf
  · rw [Option.bind_eq_some_iff] at hf
    obtain ⟨p, hp, hf⟩ := hf
    rw [Option.map_eq_some_iff] at hf
    obtain ⟨q, hq, e⟩ := hf
    cases e
    have l1 := mkN_ln hp
    have l2 := mkN_ln hq
    omega
  · split at hf
    · rw [Option.map_eq_some_iff] at hf
      obtain ⟨q, hq, e⟩ := hf
      cases e
      have l2 := mkN_ln hq
      omega
    · cases hf; exact Nat.le_refl _
theorem ins_G (wL : World) (hsh : ShTab wL) (ls : List (List ByteArray)) (ws : List ByteArray) (vt vf : Value) (w : World) (op ty : Int) (hop : 0 ≤ op) (hop2 : op ≤ 22) (hlt : wL.heap.size < w.heap.size) (a1 b1 : Int) (r : List ByteArray) (hf : regsF op ws = some (a1, b1, r)) (T : Code) (R : Ending → World → Prop)
    (hT : ∀ a W, St wL ls r vt vf w op ty a1 b1 0 a W → Code.wp Tryd.prog T (bodyPost Tryd.prog Tryd.f77 R) a W) (a : Act) (W : World) (h : St2 wL ls ws vt vf w op ty a W) :
    Code.wp Tryd.prog (cutAt 2 (rights 5 c77) T) (bodyPost Tryd.prog Tryd.f77 R) a W := by
  rcases nU_le op with hu | hu | hu
  · unfold regsF at hf
    rw [if_neg (by omega), if_neg (by omega)] at hf
    cases hf
    exact regs_ok0 wL hsh ls _ vt vf w op ty hop hop2 hlt hu T R hT a W h
  · unfold regsF at hf
    rw [if_neg (by omega), if_pos hu, Option.map_eq_some_iff] at hf
    obtain ⟨⟨q1, q2⟩, hq, e⟩ := hf
    cases e
    exact regs_ok1 wL hsh ls ws vt vf w op ty hop hop2 hlt _ _ hq hu T R hT a W h
  · unfold regsF at hf
    rw [if_pos hu, Option.bind_eq_some_iff] at hf
    obtain ⟨⟨p1, p2⟩, hp, hf⟩ := hf
    rw [Option.map_eq_some_iff] at hf
    obtain ⟨⟨q1, q2⟩, hq, e⟩ := hf
    cases e
    exact regs_ok2 wL hsh ls ws vt vf w op ty hop hop2 hlt _ p2 hp _ _ hq hu T R hT a W h
theorem ins_Gbad (wL : World) (hsh : ShTab wL) (ls : List (List ByteArray)) (ws : List ByteArray) (vt vf : Value) (w : World) (op ty : Int) (hop : 0 ≤ op) (hop2 : op ≤ 22) (hlt : wL.heap.size < w.heap.size) (hf : regsF op ws = none) (T : Code)
    (a : Act) (W : World) (h : St2 wL ls ws vt vf w op ty a W) :
    Code.wp Tryd.prog (cutAt 2 (rights 5 c77) T) (bodyPost Tryd.prog Tryd.f77 (Gone wL w)) a W := by
  rcases nU_le op with hu | hu | hu
  · unfold regsF at hf
    rw [if_neg (by omega), if_neg (by omega)] at hf
    cases hf
  · unfold regsF at hf
    rw [if_neg (by omega), if_pos hu, Option.map_eq_none_iff] at hf
    exact regs_b1 wL hsh ls ws vt vf w op ty hop hop2 hlt hf hu T a W h
  · unfold regsF at hf
    rw [if_pos hu] at hf
    cases hp : mkN 114 ws with
    | none => exact regs_b2a wL hsh ls ws vt vf w op ty hop hop2 hlt hp hu T a W h
    | some p =>
      obtain ⟨p1, p2⟩ := p
      rw [hp, Option.bind_some, Option.map_eq_none_iff] at hf
      exact regs_b2b wL hsh ls ws vt vf w op ty hop hop2 hlt p1 p2 hp hf hu T a W h
theorem numF_len {op n : Int} {ws r : List ByteArray} (hf : numF op ws = some (n, r)) : r.length ≤ ws.length := by
  unfold numF at hf
  split at hf
  · cases ws with
    | nil => cases hf
    | cons x l =>
      simp only at hf
      split at hf
      · cases hf; simp
      · cases hf
  split at hf
  · have := mkN_ln hf; omega
  split at hf
  · have := mkN_ln hf; omega
  split at hf
  · have := smN_ln hf; omega
  · cases hf; exact Nat.le_refl _
def insF (reg : Int) (ws : List ByteArray) : Option (In × List ByteArray) :=
  (headF (ansL ws) reg ws).bind fun h => (opF (ansL ws) h.2).bind fun o => (regsF o.1 o.2).bind fun g => (numF o.1 g.2.2).bind fun n => (tailF o.1 n.2).map fun t => (⟨o.1, h.1, g.1, g.2.1, n.1, t.1, t.2.1⟩, t.2.2)
theorem headF_len {ans : Bool} {reg ty : Int} {ws r : List ByteArray} (hf : headF ans reg ws = some (ty, r)) : r.length ≤ ws.length := by
  unfold headF at hf
  split at hf
  · rw [Option.bind_eq_some_iff] at hf
    obtain ⟨p, hp, hf⟩ := hf
    split at hf
    · rw [Option.map_eq_some_iff] at hf
      obtain ⟨q, hq, e⟩ := hf
      cases e
      have l1 := mkN_ln hp
      have l2 := mkN_ln hq
      simp
      omega
    · cases hf
  · cases hf; exact Nat.le_refl _
theorem ansL_len {ws : List ByteArray} (h : ansL ws = true) : 3 ≤ ws.length := by
  match ws, h with
  | _ :: _ :: _ :: _, _ => simp
set_option maxRecDepth 100000 in
theorem c77_cut : c77 = cutAt 1 c77 (cutAt 1 (rights 1 c77) (cutAt 1 (rights 2 c77) (cutAt 2 (rights 3 c77) (cutAt 2 (rights 5 c77) (cutAt 1 (rights 7 c77) (rights 8 c77)))))) := by kernel_rfl
set_option maxRecDepth 100000 in
theorem enter77 (wL w : World) (reg : Int) (R : Ending → World → Prop) (h : ∀ a, Fr 141 [(0, pG wL), (1, .int .i64 reg)] a → Code.wp Tryd.prog c77 (bodyPost Tryd.prog Tryd.f77 R) a w) : Calls Tryd.prog 77 #[pG wL, .int .i64 reg] w R := by
  go_enter Tryd.func77, Tryd.ntmps77
  exact h _ ⟨rfl, by intro p hp; simp only [List.mem_cons, List.not_mem_nil, or_false] at hp; rcases hp with rfl | rfl <;> rfl, rfl⟩
theorem ins_ok (wL : World) (hsh : ShTab wL) (ls : List (List ByteArray)) (y : ByteArray) (l : List ByteArray) (hy : 0 < y.size) (hl : (y :: l).length ≤ 1000000) (vt vf : Value) (w : World) (reg : Int) (x : In) (r : List ByteArray) (hk : insF reg (y :: l) = some (x, r)) (h : At wL ls (y :: l) vt vf w) :
    Calls Tryd.prog 77 #[pG wL, .int .i64 reg] w (InsPost wL ls r vt vf w x) := by
  unfold insF at hk
  rw [Option.bind_eq_some_iff] at hk
  obtain ⟨⟨ty, r0⟩, h0, hk⟩ := hk
  rw [Option.bind_eq_some_iff] at hk
  obtain ⟨⟨op, r1⟩, h1, hk⟩ := hk
  rw [Option.bind_eq_some_iff] at hk
  obtain ⟨⟨a1, b1, r2⟩, h2, hk⟩ := hk
  rw [Option.bind_eq_some_iff] at hk
  obtain ⟨⟨n, r3⟩, h3, hk⟩ := hk
  rw [Option.map_eq_some_iff] at hk
  obtain ⟨⟨ps, fs, r4⟩, h4, hk⟩ := hk
  cases hk
  have hlt := h.lt
  have o1 := opF_le h1
  have e0 := headF_len h0
  have e2 := regsF_len h2
  have e3 := numF_len h3
  simp only at e0 e2 e3 h1 h2 h3 h4 o1
  refine enter77 wL w reg _ fun a hfr => ?_
  rw [c77_cut]
  refine ins_0 wL ls _ vt vf w reg h _ _ (fun a W h => ?_) a hfr
  refine ins_A wL ls y l vt vf w reg hy _ _ (fun a W h => ?_) a W h
  refine ins_B wL ls _ vt vf w reg hlt _ ansL_len ty r0 h0 _ _ (fun a W h => ?_) a W h
  refine ins_C wL hsh ls _ vt vf w _ ty hlt op r1 h1 _ _ (fun a W h => ?_) a W h
  refine ins_G wL hsh ls _ vt vf w op ty (by omega) o1.2.1 hlt a1 b1 r2 h2 _ _ (fun a W h => ?_) a W h
  refine num_ok wL ls _ vt vf w op ty a1 b1 0 hlt n r3 h3 _ _ (fun a W h => ?_) a W h
  exact tail_ok wL ls r3 vt vf w op ty a1 b1 n ps fs r4 h4 (by omega) hlt a W h.fr h.ib h.at_ h.same
theorem ins_bad (wL : World) (hsh : ShTab wL) (ls : List (List ByteArray)) (y : ByteArray) (l : List ByteArray) (hy : 0 < y.size) (hl : (y :: l).length ≤ 1000000) (vt vf : Value) (w : World) (reg : Int) (hk : insF reg (y :: l) = none) (h : At wL ls (y :: l) vt vf w) :
    Calls Tryd.prog 77 #[pG wL, .int .i64 reg] w (Gone wL w) := by
  have hlt := h.lt
  refine enter77 wL w reg _ fun a hfr => ?_
  rw [c77_cut]
  refine ins_0 wL ls _ vt vf w reg h _ _ (fun a W h => ?_) a hfr
  refine ins_A wL ls y l vt vf w reg hy _ _ (fun a W h => ?_) a W h
  unfold insF at hk
  cases h0 : headF (ansL (y :: l)) reg (y :: l) with
  | none => exact ins_Bbad wL ls _ vt vf w reg hlt _ h0 _ a W h
  | some q =>
  obtain ⟨ty, r0⟩ := q
  rw [h0, Option.bind_some] at hk
  refine ins_B wL ls _ vt vf w reg hlt _ ansL_len ty r0 h0 _ _ (fun a W h => ?_) a W h
  cases h1 : opF (ansL (y :: l)) r0 with
  | none => exact ins_Cbad wL hsh ls _ vt vf w _ ty hlt h1 _ a W h
  | some q =>
  obtain ⟨op, r1⟩ := q
  simp only [h1, Option.bind_some] at hk
  have o1 := opF_le h1
  refine ins_C wL hsh ls _ vt vf w _ ty hlt op r1 h1 _ _ (fun a W h => ?_) a W h
  cases h2 : regsF op r1 with
  | none => exact ins_Gbad wL hsh ls _ vt vf w op ty (by omega) o1.2.1 hlt h2 _ a W h
  | some q =>
  obtain ⟨a1, b1, r2⟩ := q
  simp only [h2, Option.bind_some] at hk
  refine ins_G wL hsh ls _ vt vf w op ty (by omega) o1.2.1 hlt a1 b1 r2 h2 _ _ (fun a W h => ?_) a W h
  cases h3 : numF op r2 with
  | none => exact num_bad wL ls _ vt vf w op ty a1 b1 0 hlt h3 _ a W h
  | some q =>
  obtain ⟨n, r3⟩ := q
  simp only [h3, Option.bind_some, Option.map_eq_none_iff] at hk
  have e0 := headF_len h0
  have e2 := regsF_len h2
  have e3 := numF_len h3
  refine num_ok wL ls _ vt vf w op ty a1 b1 0 hlt n r3 h3 _ _ (fun a W h => ?_) a W h
  exact tail_bad wL ls r3 vt vf w op ty a1 b1 n hk (by omega) hlt a W h.fr h.ib h.at_ h.same
end Go.Proofs.YtlghkomipboflaaDoor.Rd
end
section
namespace Go.Proofs.YtlghkomipboflaaDoor.Rd
open Go.RowKit Go.Proofs.YtlghkomipboflaaDoor Go.Proofs.YtlghkomipboflaaDoor.X Go.Proofs.YtlghkomipboflaaDoorW.PrintWords Go.Proofs.YtlghkomipboflaaDoorW.PrintLast Go.Proofs.YtlghkomipboflaaDoorW.PrintMore
set_option linter.unusedVariables false
set_option linter.unusedSimpArgs false
def BB (b : Nat) (a0 a1 a2 a3 a4 : Value) (W : World) : Prop := W.heap[b]? = some (.cells #[a0, a1, a2, a3, a4] 36 (0, 0))
theorem BB.c0 {g a0 a1 a2 a3 a4 W} (h : BB g a0 a1 a2 a3 a4 W) : W.cell? ⟨g, 0, none⟩ = some a0 := by unfold BB at h; simp [World.cell?, h]
theorem BB.c1 {g a0 a1 a2 a3 a4 W} (h : BB g a0 a1 a2 a3 a4 W) : W.cell? ⟨g, 1, none⟩ = some a1 := by unfold BB at h; simp [World.cell?, h]
theorem BB.c2 {g a0 a1 a2 a3 a4 W} (h : BB g a0 a1 a2 a3 a4 W) : W.cell? ⟨g, 2, none⟩ = some a2 := by unfold BB at h; simp [World.cell?, h]
theorem BB.c3 {g a0 a1 a2 a3 a4 W} (h : BB g a0 a1 a2 a3 a4 W) : W.cell? ⟨g, 3, none⟩ = some a3 := by unfold BB at h; simp [World.cell?, h]
theorem BB.c4 {g a0 a1 a2 a3 a4 W} (h : BB g a0 a1 a2 a3 a4 W) : W.cell? ⟨g, 4, none⟩ = some a4 := by unfold BB at h; simp [World.cell?, h]
theorem BB.fz {g a0 a1 a2 a3 a4 W} (h : BB g a0 a1 a2 a3 a4 W) (j : Nat) : W.frozen? ⟨g, j, none⟩ = false := by unfold BB at h; simp [World.frozen?, h]
theorem BB.set0 {g a0 a1 a2 a3 a4 W} (h : BB g a0 a1 a2 a3 a4 W) (v : Value) : BB g v a1 a2 a3 a4 (W.setCell ⟨g, 0, none⟩ v) := by unfold BB at h ⊢; rw [heap_set h]; rfl
theorem BB.set1 {g a0 a1 a2 a3 a4 W} (h : BB g a0 a1 a2 a3 a4 W) (v : Value) : BB g a0 v a2 a3 a4 (W.setCell ⟨g, 1, none⟩ v) := by unfold BB at h ⊢; rw [heap_set h]; rfl
theorem BB.set2 {g a0 a1 a2 a3 a4 W} (h : BB g a0 a1 a2 a3 a4 W) (v : Value) : BB g a0 a1 v a3 a4 (W.setCell ⟨g, 2, none⟩ v) := by unfold BB at h ⊢; rw [heap_set h]; rfl
theorem BB.set3 {g a0 a1 a2 a3 a4 W} (h : BB g a0 a1 a2 a3 a4 W) (v : Value) : BB g a0 a1 a2 v a4 (W.setCell ⟨g, 3, none⟩ v) := by unfold BB at h ⊢; rw [heap_set h]; rfl
theorem BB.set4 {g a0 a1 a2 a3 a4 W} (h : BB g a0 a1 a2 a3 a4 W) (v : Value) : BB g a0 a1 a2 a3 v (W.setCell ⟨g, 4, none⟩ v) := by unfold BB at h ⊢; rw [heap_set h]; rfl
theorem BB.same {wL : World} {g a0 a1 a2 a3 a4 W W1} (h : BB g a0 a1 a2 a3 a4 W) (hs : Same wL W W1) (hg : wL.heap.size < g) : BB g a0 a1 a2 a3 a4 W1 := by
  unfold BB at h ⊢
  rw [hs.2 g (blk_lt h) (by omega) (by simp), h]
theorem BB.block {g a0 a1 a2 a3 a4 W W1} (h : BB g a0 a1 a2 a3 a4 W) (hb : W1.heap[g]? = W.heap[g]?) : BB g a0 a1 a2 a3 a4 W1 := by
  unfold BB at h ⊢
  rw [hb, h]
abbrev Bk : Type := S36
abbrev KIn : Kd In := k39
def BlkPost (wL : World) (ls : List (List ByteArray)) (vt vf : Value) (w : World) (b : Bk) (e : Ending) (w' : World) : Prop :=
  ∃ v, e = .returned (.agg #[v, .int .u8 b.f1.f0, .int .i64 b.f1.f1, .int .i64 b.f1.f2, .int .i64 b.f1.f3]) ∧ KIn.R 39 w' w.heap.size (fun _ => True) v b.f0 ∧ At wL ls [] vt vf w' ∧ Same wL w w'
theorem blk_end {wL : World} {ls : List (List ByteArray)} {vt vf : Value} {w W : World} {x : Bk} {tmps : Array Value} {b : Nat} {v : Value} (h2 : tmps.getD 4 undef = .pointer (some ⟨b, 0, none⟩))
    (hk : BB b v (.int .u8 x.f1.f0) (.int .i64 x.f1.f1) (.int .i64 x.f1.f2) (.int .i64 x.f1.f3) W) (h5 : KIn.R 39 W w.heap.size (fun _ => True) v x.f0) (ha : At wL ls [] vt vf W) (hs : Same wL w W) :
    bodyPost Tryd.prog Tryd.f55 (BlkPost wL ls vt vf w x) Exit.ret { tmps := tmps, defers := [] } W :=
  bodyPost_ret (results_cell_row rfl _ _ b 36 _ (0, 0) _ h2 hk Tryd.underlying36 rfl (by kernel_rfl)) rfl ⟨v, rfl, h5, ha, hs⟩
def endB : List ByteArray := [(⟨#[106, 117, 109, 112]⟩ : ByteArray), (⟨#[98, 114, 97, 110, 99, 104]⟩ : ByteArray), (⟨#[114, 101, 116, 117, 114, 110]⟩ : ByteArray)]
def isEnd (x : ByteArray) : Bool := decide (idxFrom x 0 endB ≥ 0)
theorem ends_f (x : ByteArray) : slices_Contains_string_string.f 4 endB x = some (isEnd x) := by
  have := idx_l0 x endB (by decide) 3 4 0 (by rfl) (by omega)
  unfold slices_Contains_string_string.f slices_Index_string_string.f isEnd
  have e : slices_Index_string_string.l0 4 endB x (endB.length : Int) 0 = some (idxFrom x 0 endB) := by simpa using this
  rw [e]
  rfl
theorem len_ne {n : Nat} {r : List ByteArray} (hn : n = r.length) (hr : r ≠ []) : ((n : Int) == 0) = false := by
  rw [beq_eq_false_iff_ne]
  intro e
  exact hr (List.eq_nil_of_length_eq_zero (by omega))
def blkF (reg : Int) : List (List ByteArray) → List In → Option (Bk × List (List ByteArray))
  | [], _ => none
  | l :: ls, xs => if isEnd (l.headD ⟨#[]⟩) then (endF l).bind fun p => if p.2 = [] then some (⟨xs, p.1⟩, ls) else none
     else (insF (reg + (xs.length : Int)) l).bind fun p => if p.2 = [] then blkF reg ls (xs ++ [p.1]) else none
def Fine (ls : List (List ByteArray)) : Prop := ∀ l ∈ ls, l.length ≤ 1000000 ∧ ∃ x r, l = x :: r ∧ 0 < x.size
theorem infoIn : (Tryd.prog.info? 39).map (fun i => (i.zero, i.size, i.bytes)) = some (some (.agg #[(.int .u8 0), (.int .i64 0), (.int .i64 0), (.int .i64 0), (.int .i64 0), (.slice none 0 0), (.slice none 0 0)]), 7, 88) := by kernel_rfl
theorem cells_at {wL : World} {ls : List (List ByteArray)} {x : ByteArray} {r : List ByteArray} {vt vf : Value} {W : World} (h : At wL ls (x :: r) vt vf W) : ∃ ad n c, n = (x :: r).length ∧ W.cell? ⟨wL.heap.size, 1, none⟩ = some (.slice (some ad) n c) ∧ W.cell? ad = some (.string x) ∧ (0 : Int) < (n : Int) := by
  obtain ⟨vl, vw, hr, hln, ⟨A, c, rfl, hc, hC⟩⟩ := h.rb
  obtain ⟨ad, rfl, hcell⟩ := wd_at hC h.below 0 (by simp)
  rw [add0] at hcell
  exact ⟨ad, _, c, rfl, hr.c1, hcell, by simp⟩
theorem cells_at0 {wL : World} {ls : List (List ByteArray)} {vt vf : Value} {W : World} {ws : List ByteArray} (h : At wL ls ws vt vf W) : ∃ A n c, n = ws.length ∧ W.cell? ⟨wL.heap.size, 1, none⟩ = some (.slice A n c) := by
  obtain ⟨vl, vw, hr, hln, ⟨A, c, rfl, hc, hC⟩⟩ := h.rb
  exact ⟨A, _, c, rfl, hr.c1⟩
set_option maxHeartbeats 3200000 in
set_option maxRecDepth 100000 in
theorem blk_ok (wL : World) (hsh : ShTab wL) (ls : List (List ByteArray)) (hfine : Fine ls) (hlen : ls.length ≤ 1000000) (ws : List ByteArray) (vt vf : Value) (w : World) (reg : Int) (hr0 : 0 ≤ reg) (hr1 : reg ≤ 1000000000) (bk : Bk) (ls1 : List (List ByteArray)) (hk : blkF reg ls [] = some (bk, ls1)) (h : At wL ls ws vt vf w) :
    Calls Tryd.prog 55 #[pG wL, .int .i64 reg] w (BlkPost wL ls1 vt vf w bk) := by
  have HH := Lib.hid h
  have hlt := h.lt
  have HSH := Lib.hid hsh
  have HK0 := Lib.hid hk
  have HF0 := Lib.hid hfine
  clear h hsh hk hfine
  go_enter Tryd.func55, Tryd.ntmps55
  go_wp2_with ((with_reducible refine gate_dst (N := 6) rfl ?_); refine Kd.R_lit Kd.string _ 9 ?hg (N := 6) ?hd (xs := endB) (inner := [.string (⟨#[106, 117, 109, 112]⟩ : ByteArray), .string (⟨#[98, 114, 97, 110, 99, 104]⟩ : ByteArray), .string (⟨#[114, 101, 116, 117, 114, 110]⟩ : ByteArray)]) (ok := fun _ => True) (okp := fun _ => True) ?hr ?hp (fun _ hk => hk) trivial (Below.refl _ _) (Nat.le_refl _) (by first | done | decide) ?_; (case hd => rfl); (case hg => rfl); (case hr => first | (go_simp; done) | (go_simp; rfl)); (case hp => exact (Reps.one (show Kd.M Kd.string _ _ _ (⟨#[106, 117, 109, 112]⟩ : ByteArray) [.string (⟨#[106, 117, 109, 112]⟩ : ByteArray)] from rfl) (Reps.one (show Kd.M Kd.string _ _ _ (⟨#[98, 114, 97, 110, 99, 104]⟩ : ByteArray) [.string (⟨#[98, 114, 97, 110, 99, 104]⟩ : ByteArray)] from rfl) (Reps.one (show Kd.M Kd.string _ _ _ (⟨#[114, 101, 116, 117, 114, 110]⟩ : ByteArray) [.string (⟨#[114, 101, 116, 117, 114, 110]⟩ : ByteArray)] from rfl) (Reps.none _ _))))); intro ve W1 hre hbe hge _)
  have hb1 : Below w.heap.size w W1 := (below_alloc (Below.refl _ _) _).trans (hbe.mono (by simp))
  have hB1 : w.heap.size + 1 ≤ W1.heap.size := by have := hbe.size; simpa using this
  have hre : Kd.string.R 9 W1 (w.heap.size + 1) (fun k => k < W1.heap.size) ve endB := Kd.R_mono (Kd.R_bound (Kd.R_lower hre (by simp))) (fun k hk => hk.2.2.1)
  have hbox : BB w.heap.size _ _ _ _ _ W1 := BB.block (heap_alloc_new w _) (hbe.block _ (by simp))
  obtain ⟨B2, hB2⟩ : ∃ B, B = W1.heap.size := ⟨_, rfl⟩
  rw [← hB2] at hre hB1
  have hB3 : B2 ≤ W1.heap.size := Nat.le_of_eq hB2
  have ha1 := HH.out.later hb1
  have hs1 := (Same.now wL w).later hb1
  obtain ⟨Ae, ce, rfl⟩ := Kd.R_slice hre
  clear hb1 hbe hge hB2
  have HE := Lib.hid hre
  have HK := Lib.hid hbox
  have HA := Lib.hid ha1
  have HS := Lib.hid hs1
  clear hre hbox ha1 hs1
  have hB4 : w.heap.size < B2 := hB1
  go_loopg [20] ls.length (fun g _ Wr => ∃ (rest : List (List ByteArray)) (ws0 : List ByteArray) (xs : List In) (v : Value), rest.length = g ∧ Hid (blkF reg rest xs = some (bk, ls1)) ∧ Hid (Fine rest) ∧ xs.length + rest.length ≤ 1000000 ∧ Hid (BB w.heap.size v (.int .u8 0) (.int .i64 0) (.int .i64 0) (.int .i64 0) Wr) ∧ Hid (At wL rest ws0 vt vf Wr) ∧ Hid (Same wL w Wr) ∧ Hid (KIn.R 39 Wr B2 (fun _ => True) v xs) ∧ Hid (Kd.string.R 9 Wr (w.heap.size + 1) (fun k => k < B2) (.slice Ae endB.length ce) endB) ∧ B2 ≤ Wr.heap.size)
  case atStart => exact ⟨ls, ws, [], _, rfl, HK0.out, HF0.out, by simpa using hlen, HK.out, HA.out, HS.out, Kd.R_nil _ _ _ _ _, HE.out, hB3⟩
  case round =>
    obtain ⟨rest, ws0, xs, v, hg, HQ, HF, hl1, HKr, HAr, HSr, HV, HEr, hBr⟩ := hrel
    subst hg
    cases rest with
    | nil => exact absurd HQ.out (by simp [blkF])
    | cons l rest =>
      obtain ⟨hll, x, r, rfl, hx⟩ := HF.out l (List.mem_cons_self)
      have HF2 : Hid (Fine rest) := Lib.hid (fun q hq => HF.out q (List.mem_cons_of_mem _ hq))
      obtain ⟨Av, cv, rfl⟩ := Kd.R_slice HV.out
      have hk := HKr.out
      have k0 := hk.c0; have k1 := hk.c1; have k2 := hk.c2; have k3 := hk.c3; have k4 := hk.c4; have z0 := hk.fz 0; have z1 := hk.fz 1; have z2 := hk.fz 2; have z3 := hk.fz 3; have z4 := hk.fz 4
      have HLL := Lib.hid hll
      have HX := Lib.hid hx
      have HQ1 : (if isEnd x then (endF (x :: r)).bind fun p => if p.2 = [] then some ((⟨xs, p.1⟩ : Bk), rest) else none
        else (insF (reg + (xs.length : Int)) (x :: r)).bind fun p => if p.2 = [] then blkF reg rest (xs ++ [p.1]) else none) = some (bk, ls1) := HQ.out
      clear hk hll hx
      cases hend : isEnd x with
      | true =>
        rw [hend, if_pos rfl, Option.bind_eq_some_iff] at HQ1
        obtain ⟨⟨t, r0⟩, he, hq⟩ := HQ1
        by_cases hr : r0 = []
        · subst hr
          rw [if_pos rfl] at hq
          cases hq
          have HT := Lib.hid he
          have HEN := Lib.hid hend
          clear he hend
          go_wp2_with (first
            | (go_at_call 33; (with_reducible refine (next_cons wL (x :: r) _ ws0 vt vf _ HAr.out).mono ?_); rintro e w2 ⟨rfl, ha, hs⟩; obtain ⟨ad, n, cn, hn, cw, cx, i0⟩ := cells_at ha; have HN := Lib.hid hn; have HA2 := Lib.hid ha; have HS2 := Lib.hid (HSr.out.also hs); have hk2 := HKr.out.same hs hlt; have HK2 := Lib.hid hk2; clear k0 z0 k1 z1 k2 z2 k3 z3 k4 z4; have k0 := hk2.c0; have k1 := hk2.c1; have k2 := hk2.c2; have k3 := hk2.c3; have k4 := hk2.c4; have z0 := hk2.fz 0; have z1 := hk2.fz 1; have z2 := hk2.fz 2; have z3 := hk2.fz 3; have z4 := hk2.fz 4; have HV2 := Lib.hid (R_same HV.out hs (Nat.lt_trans hlt hB4)); have HE2 := Lib.hid (R_same HEr.out hs (Nat.lt_succ_of_lt hlt)); have hB2 := Nat.le_trans hBr hs.1; clear ha hs hk2 hn)
            | (go_at_call 36; (with_reducible refine (need_yes _).mono ?_); rintro e w9 ⟨rfl, rfl⟩)
            | (go_at_call 75; obtain ⟨Ax, cx2, hv, hcx, hC⟩ := Kd.R_reads HE2.out; cases hv; (with_reducible refine (slices_Contains_string_string.calls 4 Ae ce endB x _ _ hC hcx (ends_f x)).mono ?_); rintro e w3 ⟨rfl, hd⟩; rw [HEN.out]; have hd := hd.below; have ha3 := HA2.out.later hd; have HA3 := Lib.hid ha3; have HS3 := Lib.hid (HS2.out.later hd); have hk3 := HK2.out.block (hd.block _ (blk_lt HK2.out)); have HK3 := Lib.hid hk3; clear k0 z0 k1 z1 k2 z2 k3 z3 k4 z4; have k0 := hk3.c0; have k1 := hk3.c1; have k2 := hk3.c2; have k3 := hk3.c3; have k4 := hk3.c4; have z0 := hk3.fz 0; have z1 := hk3.fz 1; have z2 := hk3.fz 2; have z3 := hk3.fz 3; have z4 := hk3.fz 4; have HV3 := Lib.hid (Kd.R_below HV2.out hd); have HE3 := Lib.hid (Kd.R_below HE2.out hd); have hB3 := Nat.le_trans hB2 hd.size; clear hd hk3 hcx hC ha3)
            | (go_at_call 76; (with_reducible refine (end_ok wL _ (x :: r) t [] HT.out vt vf _ HA3.out).mono ?_); rintro e w4 ⟨rfl, ha, hs⟩; obtain ⟨A4, n4, c4, hn4, cw4⟩ := cells_at0 ha; cases hn4; have HA4 := Lib.hid ha; have HS4 := Lib.hid (HS3.out.also hs); have hk4 := HK3.out.same hs hlt; have HK4 := Lib.hid hk4; clear k0 z0 k1 z1 k2 z2 k3 z3 k4 z4; have k0 := hk4.c0; have k1 := hk4.c1; have k2 := hk4.c2; have k3 := hk4.c3; have k4 := hk4.c4; have z0 := hk4.fz 0; have z1 := hk4.fz 1; have z2 := hk4.fz 2; have z3 := hk4.fz 3; have z4 := hk4.fz 4; have HV4 := Lib.hid (R_same HV3.out hs (Nat.lt_trans hlt hB4)); clear ha hs hk4))
          exact blk_end rfl (((((((((HK4.out.set1 _).set2 _).set3 _).set4 _).set0 _).set1 _).set2 _).set3 _).set4 _) (Kd.R_lower (base' := w.heap.size) (by repeat' (first | (with_reducible refine R_on ?_ hB4 _ _) | exact HV4.out)) (Nat.le_of_lt hB4)) (by repeat' (first | (with_reducible refine At.set ?_ hlt _ _) | exact HA4.out)) (by repeat' (first | (with_reducible refine Same.set ?_ (Nat.le_refl _) _ _) | exact HS4.out))
        · rw [if_neg hr] at hq; cases hq
      | false =>
        rw [hend, if_neg (by simp), Option.bind_eq_some_iff] at HQ1
        obtain ⟨⟨i, r0⟩, he, hq⟩ := HQ1
        by_cases hr : r0 = []
        · subst hr
          rw [if_pos rfl] at hq
          have HI := Lib.hid he
          have HQ2 := Lib.hid hq
          have HEN := Lib.hid hend
          have hl2 : xs.length + rest.length + 1 ≤ 1000000 := by simp at hl1; omega
          have hwr : IntKind.i64.wrap (reg + (xs.length : Int)) = reg + (xs.length : Int) := by rw [IntKind.wrap_i64]; omega
          clear he hend hq
          go_wp2_with (first
            | (go_at_call 33; (with_reducible refine (next_cons wL (x :: r) _ ws0 vt vf _ HAr.out).mono ?_); rintro e w2 ⟨rfl, ha, hs⟩; obtain ⟨ad, n, cn, hn, cw, cx, i0⟩ := cells_at ha; have HN := Lib.hid hn; have HA2 := Lib.hid ha; have HS2 := Lib.hid (HSr.out.also hs); have hk2 := HKr.out.same hs hlt; have HK2 := Lib.hid hk2; clear k0 z0 k1 z1 k2 z2 k3 z3 k4 z4; have k0 := hk2.c0; have k1 := hk2.c1; have k2 := hk2.c2; have k3 := hk2.c3; have k4 := hk2.c4; have z0 := hk2.fz 0; have z1 := hk2.fz 1; have z2 := hk2.fz 2; have z3 := hk2.fz 3; have z4 := hk2.fz 4; have HV2 := Lib.hid (R_same HV.out hs (Nat.lt_trans hlt hB4)); have HE2 := Lib.hid (R_same HEr.out hs (Nat.lt_succ_of_lt hlt)); have hB2 := Nat.le_trans hBr hs.1; clear ha hs hk2 hn)
            | (go_at_call 36; (with_reducible refine (need_yes _).mono ?_); rintro e w9 ⟨rfl, rfl⟩)
            | (go_at_call 75; obtain ⟨Ax, cx2, hv, hcx, hC⟩ := Kd.R_reads HE2.out; cases hv; (with_reducible refine (slices_Contains_string_string.calls 4 Ae ce endB x _ _ hC hcx (ends_f x)).mono ?_); rintro e w3 ⟨rfl, hd⟩; rw [HEN.out]; have hd := hd.below; have ha3 := HA2.out.later hd; have HA3 := Lib.hid ha3; have HS3 := Lib.hid (HS2.out.later hd); have hk3 := HK2.out.block (hd.block _ (blk_lt HK2.out)); have HK3 := Lib.hid hk3; clear k0 z0 k1 z1 k2 z2 k3 z3 k4 z4; have k0 := hk3.c0; have k1 := hk3.c1; have k2 := hk3.c2; have k3 := hk3.c3; have k4 := hk3.c4; have z0 := hk3.fz 0; have z1 := hk3.fz 1; have z2 := hk3.fz 2; have z3 := hk3.fz 3; have z4 := hk3.fz 4; have HV3 := Lib.hid (Kd.R_below HV2.out hd); have HE3 := Lib.hid (Kd.R_below HE2.out hd); have hB3 := Nat.le_trans hB2 hd.size; clear hd hk3 hcx hC ha3))
          clear k0 z0 k1 z1 k2 z2 k3 z3 k4 z4
          have k0 := HK3.out.c0
          have z0 := HK3.out.fz 0
          go_region_law (first
            | (refine Kd.R_append_step KIn (w0 := w4) B2 (by rfl) (.tmp 34) (.tmp 42) 32 39 (.agg #[(.int .u8 0), (.int .i64 0), (.int .i64 0), (.int .i64 0), (.int .i64 0), (.slice none 0 0), (.slice none 0 0)]) 88 (by rfl) Tryd.underlying32 infoIn rfl (by decide) (by decide) (.slice Av xs.length cv) xs i [.int .u8 i.f0, .int .i64 i.f1, .int .i64 i.f2, .int .i64 i.f3, .int .i64 i.f4, .slice A5 i.f5.length c5, .slice A6 i.f6.length c6] (fun _ => True) (fun k => w3.heap.size ≤ k) (by simp [Act.eval, Act.put]) (by simp [Act.eval, Act.put]) HM.out (fun k hk => ⟨trivial, fun e => by have := Kd.R_lt HV3.out k e.symm; omega⟩) (fun _ _ => trivial) HV4.out (Below.refl _ _) hBw (by omega) ?_; intro v9 w5 ho hb hg hat; obtain ⟨A9, c9, rfl⟩ := Kd.R_slice ho; rw [List.length_append, List.length_singleton] at ho hat; have HV5 := Lib.hid ho; have HA5 := Lib.hid (HA4.out.upon (hb.mono (Nat.le_of_lt hB4)) hlt); have HS5 := Lib.hid (HS4.out.upon (hb.mono (Nat.le_of_lt hB4))); have hk5 := HK4.out.block (hb.block _ hB4); have HK5 := Lib.hid hk5; have HE5 := Lib.hid (Kd.R_step HE4.out (fun k hk _ => hb.block k hk)); have hB5 := Nat.le_trans hBw hb.size; have k0 := hk5.c0; have z0 := hk5.fz 0; clear ho hb hg hat hk5)
            | (go_simp; go_at_call 77; refine (ins_ok wL HSH.out _ x r HX.out HLL.out vt vf _ (reg + (xs.length : Int)) i [] HI.out (HA3.out.drewN _)).mono ?_; rintro e w4 ⟨v5, v6, rfl, h5, h6, ha, hs⟩; obtain ⟨A5, c5, rfl⟩ := Kd.R_slice h5; obtain ⟨A6, c6, rfl⟩ := Kd.R_slice h6; have HA4 := Lib.hid ha; have HS4 := Lib.hid (HS3.out.also hs); have hk4 := HK3.out.same hs hlt; have HK4 := Lib.hid hk4; have HV4 := Lib.hid (R_same HV3.out hs (Nat.lt_trans hlt hB4)); have HE4 := Lib.hid (R_same HE3.out hs (Nat.lt_succ_of_lt hlt)); have hBw := Nat.le_trans hB3 hs.1; have hz4 : w.heap.size < w4.heap.size := Nat.lt_of_lt_of_le hB4 hBw; have HM := Lib.hid (k39_mkM w4 B2 (fun k => w3.heap.size ≤ k) i (Kd.R_lower (Kd.R_mono (Kd.R_bound h5) (fun k hk => hk.2.1)) hB3) (Kd.R_lower (Kd.R_mono (Kd.R_bound h6) (fun k hk => hk.2.1)) hB3)); have k0 := hk4.c0; have z0 := hk4.fz 0; clear ha hs hk4 h5 h6))
          all_goals
            have ha6 := (HA5.out.set hlt 0 (.slice A9 (xs.length + 1) c9))
            have hs6 := (HS5.out.set (Nat.le_refl _) 0 (.slice A9 (xs.length + 1) c9))
            have hk6 := (HK5.out.set0 (.slice A9 (xs.length + 1) c9))
            have hv6 := R_on HV5.out hB4 0 (.slice A9 (xs.length + 1) c9)
            have he6 := R_on HE5.out (Nat.lt_succ_self _) 0 (.slice A9 (xs.length + 1) c9)
            have hz6 : B2 ≤ (w5.setCell ⟨w.heap.size, 0, none⟩ (.slice A9 (xs.length + 1) c9)).heap.size := by rw [set_size]; exact hB5
            clear k0 z0
            generalize w5.setCell ⟨w.heap.size, 0, none⟩ (.slice A9 (xs.length + 1) c9) = w6 at ha6 hs6 hk6 hv6 he6 hz6 ⊢
            have HA6 := Lib.hid ha6
            have HS6 := Lib.hid hs6
            have HK6 := Lib.hid hk6
            have HV6 := Lib.hid hv6
            have HE6 := Lib.hid he6
            obtain ⟨A7, n7, c7, hn7, cw7⟩ := cells_at0 ha6
            cases hn7
            clear ha6 hs6 hk6 hv6 he6
            go_wp2_with (go_at_call 36; (with_reducible refine (need_yes _).mono ?_); rintro e w9 ⟨rfl, rfl⟩)
            go_roundg rest.length
            case measure => simp
            case rel => exact ⟨rest, [], xs ++ [i], .slice A9 (xs.length + 1) c9, rfl, HQ2.out, HF2.out, by simp; omega, HK6.out, HA6.out, HS6.out, HV6.out, HE6.out, hz6⟩
        · rw [if_neg hr] at hq; cases hq
end Go.Proofs.YtlghkomipboflaaDoor.Rd
end
