/- Texts of this claim, merged (part 12 of 13): Xx5, PureReadShapes, LawReadShapes. -/
import Derived.Test.YtlghkomipboflaaDoorRows
import Derived.WalkKit
import Derived.ProofKit
import Derived.OpenShut
import Derived.ShutString
import Derived.ChangeOld
import Derived.Below
import Derived.SizedLaws
import Derived.Test.YtlghkomipboflaaDoorBR1
import Derived.Test.YtlghkomipboflaaDoorBR5
import Derived.Test.YtlghkomipboflaaDoorBR8
import Derived.Test.YtlghkomipboflaaDoorBR11
set_option linter.unusedVariables false
set_option linter.unusedSimpArgs false
section
namespace Go.Proofs.YtlghkomipboflaaDoor.X
open Go.RowKit Go.Proofs.YtlghkomipboflaaDoorW.PrintWords Go.Proofs.YtlghkomipboflaaDoorW.PrintLast Go.Proofs.YtlghkomipboflaaDoorW.PrintMore
attribute [local go_sem] max2_int min2_int max_two min_two max_three min_three max_four min_four
set_option linter.unusedVariables false
set_option linter.unusedSimpArgs false
mutual
def fescuelaw07_ReadShapes.j0 : Nat → ByteArray → Bool → Bool → Option (Bool)
  | 0, _, _, _ => none
  | k + 1, x0, x3, x18 => if x18 = true then (some x3) else ((read_Read.f x0).bind fun bt102 => (if bt102.2.2 = 0 then (fescuelaw07_ReadShapes.l0 k x0 x3 (bt102.1.length : Int) 0 bt102.1 bt102.2.1) else (if x3 = true then (if (bt102.2.1.length : Int) = 0 then (some ((bt102.1.length : Int) == 0)) else (some false)) else (some false))))
def fescuelaw07_ReadShapes.l0 : Nat → ByteArray → Bool → Int → Int → List (S41) → List (S31) → Option (Bool)
  | 0, _, _, _, _, _, _ => none
  | k + 1, x0, x3, x6, x7, x110000, x110001 => if x7 < (x110001.length : Int) then (fescuelaw07_ReadShapes.l1 k x0 x3 (wrap64 (x6 + 1)) x7 0 x110000 x110001) else ((lex_Lines.f x0).bind fun bt110 => (if x3 = true then (if bt110.2 = 0 then (if (bt110.1.length : Int) = x6 then ((shape_Check.f x110000 x110001).bind fun t114 => (some (t114 == 0))) else (some false)) else (some false)) else (some false)))
def fescuelaw07_ReadShapes.l1 : Nat → ByteArray → Bool → Int → Int → Int → List (S41) → List (S31) → Option (Bool)
  | 0, _, _, _, _, _, _, _ => none
  | k + 1, x0, x3, x6, x7, x8, x110000, x110001 => if 0 ≤ x7 then (if x7 < (x110001.length : Int) then (if x8 < (((rd_T31 x110001 x7).f1).length : Int) then (if 0 ≤ x8 then (fescuelaw07_ReadShapes.l1 k x0 x3 (wrap64 ((wrap64 (x6 + 2)) + (((rd_T36 ((rd_T31 x110001 x7).f1) x8).f0).length : Int))) x7 (wrap64 (x8 + 1)) x110000 x110001) else (none)) else (fescuelaw07_ReadShapes.l0 k x0 x3 x6 (wrap64 (x7 + 1)) x110000 x110001)) else (none)) else (none)
end
def fescuelaw07_ReadShapes.f (k : Nat) (a0 : ByteArray) : Option (Bool) := (fescuelaw07_alive.f).bind fun t101 => (if (a0.size : Int) > 3000 then (fescuelaw07_ReadShapes.j0 k a0 t101 true) else (fescuelaw07_ReadShapes.j0 k a0 t101 (!t101)))
set_option maxHeartbeats 8000000 in
set_option maxRecDepth 100000 in
theorem fescuelaw07_ReadShapes.calls (k : Nat) (a0 : ByteArray) (r : Bool) (w : World) (h : fescuelaw07_ReadShapes.f k a0 = some r) (HTS0 : ShTab w) :
    Calls Tryd.prog 4 #[.string a0] w fun e w' => e = .returned (.bool r) ∧ Below w.heap.size w w' := by
  have HTS := Aside0.mk HTS0
  clear HTS0
  have hu25 := Tryd.underlying25
  have HB := Aside0.mk (Below.refl w.heap.size w)
  have H : ((fescuelaw07_alive.f).bind fun t101 => (if (a0.size : Int) > 3000 then (fescuelaw07_ReadShapes.j0 k a0 t101 true) else (fescuelaw07_ReadShapes.j0 k a0 t101 (!t101)))) = some r := h
  clear h
  replace H := Option.bind_eq_some_iff.mp H
  obtain ⟨t101, A20, H⟩ := H
  replace H : (if (a0.size : Int) > 3000 then (fescuelaw07_ReadShapes.j0 k a0 t101 true) else (fescuelaw07_ReadShapes.j0 k a0 t101 (!t101))) = some r := H
  have A2 := Aside0.mk A20
  clear A20
  have HC3 := Aside0.mk H
  clear H
  go_enter Tryd.func4, Tryd.ntmps4
  go_upto_region 2 with (first | ((with_reducible refine gate_callee (f := 10) rfl ?_); refine goesL_ (some 11) rfl rfl Tryd.func10 (by kernel_rfl) rfl #[] rfl (by (try simp only [List.map_toArray, List.map_cons, List.map_nil]); first | done | rfl | (simp only [List.length_drop, List.length_take]; rfl)) ?_; (with_reducible refine (fescuelaw07_alive.calls  t101 _ A2.out (ShTab.below HTS.out (by repeat (first | (with_reducible first | exact HB.out | apply below_alloc | apply pw_below_drewN | apply below_drew1 | refine below_set ?_ GE109.out) | exact HB.out)))).mono ?_); rintro e w4 ⟨rfl, hb⟩; refine ⟨_, rfl, ?_⟩; have n0_ := Aside0.mk (below_step (by repeat (first | (with_reducible first | exact HB.out | apply below_alloc | apply pw_below_drewN | apply below_drew1) | exact HB.out)) hb); clear HB; have HB := n0_; clear n0_; (try clear hb); (try clear hb2); (try clear hk); (try clear hi)))
  (try simp only [Act.put, List.setIfInBounds_toArray, List.set_cons_zero, List.set_cons_succ])
  go_cut [18] (fun v18 wc => ∃ (kq : Nat) (x18_2 : Bool), v18 = .bool x18_2 ∧ Aside0 (fescuelaw07_ReadShapes.j0 kq a0 t101 x18_2 = some r) ∧ Aside0 (kq ≤ k) ∧ Aside0 (Below w.heap.size w wc))
  case first =>
    have H := HC3.out
    clear HC3
    by_cases c5 : (a0.size : Int) > 3000
    · rw [if_pos c5] at H
      have c5b0 : decide (3000 < (a0.size : Int)) = true := decide_eq_true c5
      have c5b1 : decide (3000 < a0.size) = true := decide_eq_true (by omega)
      clear c5
      (first | rw [c5b0] | (simp only [i64_w, i32_w]; rw [c5b0]) | skip)
      have H' := Aside0.mk H
      clear H
      go_wp2
      go_meet
      case rel => exact ⟨_, (true), (by first | rfl | (simp; done) | (simp [*]; done)), H', ⟨by first | omega | exact Nat.le_refl _⟩, ⟨by repeat (first | (with_reducible first | exact HB.out | apply below_alloc | apply pw_below_drewN | apply below_drew1) | exact HB.out)⟩⟩
    · rw [if_neg c5] at H
      have c5b0 : decide (3000 < (a0.size : Int)) = false := decide_eq_false c5
      have c5b1 : decide (3000 < a0.size) = false := decide_eq_false (by omega)
      clear c5
      (first | rw [c5b0] | (simp only [i64_w, i32_w]; rw [c5b0]) | skip)
      have H' := Aside0.mk H
      clear H
      go_wp2
      go_meet
      case rel => exact ⟨_, (!t101), (by first | rfl | (simp; done) | (simp [*]; done)), H', ⟨by first | omega | exact Nat.le_refl _⟩, ⟨by repeat (first | (with_reducible first | exact HB.out | apply below_alloc | apply pw_below_drewN | apply below_drew1) | exact HB.out)⟩⟩
  case rest =>
    clear HC3
    try clear c1
    try clear p2
    try clear c4
    try clear c5
    try clear c5b0
    try clear c5b1
    obtain ⟨kq, x18_2, rfl, HA, HJ2, HB⟩ := hcut
    cases kq with
    | zero => exact absurd HA.out (by simp [fescuelaw07_ReadShapes.j0])
    | succ kj2 =>
      have H := HA.out
      clear HA
      simp only [fescuelaw07_ReadShapes.j0] at H
      by_cases c6 : x18_2 = true
      · subst c6
        have H1 : (some t101) = some r := by rw [if_pos rfl] at H; exact H
        clear H
        have H := H1
        clear H1
        obtain rfl := Option.some.inj H
        go_wp2
        go_ret
        exact ⟨by first | rfl | (simp [errW_none, errW_some] <;> rfl) | (simp [*, errW_none, errW_some] <;> rfl), by repeat (first | (with_reducible first | exact HB.out | apply below_alloc | apply pw_below_drewN | apply below_drew1) | exact HB.out)⟩
      · replace c6 := Bool.eq_false_iff.mpr c6
        subst c6
        have H1 : ((read_Read.f a0).bind fun bt102 => (if bt102.2.2 = 0 then (fescuelaw07_ReadShapes.l0 kj2 a0 t101 (bt102.1.length : Int) 0 bt102.1 bt102.2.1) else (if t101 = true then (if (bt102.2.1.length : Int) = 0 then (some ((bt102.1.length : Int) == 0)) else (some false)) else (some false)))) = some r := by rw [if_neg (show ¬ (false = true) by decide)] at H; exact H
        clear H
        have H := H1
        clear H1
        replace H := Option.bind_eq_some_iff.mp H
        obtain ⟨⟨t102, t105, t108⟩, A70, H⟩ := H
        replace H : (if t108 = 0 then (fescuelaw07_ReadShapes.l0 kj2 a0 t101 (t102.length : Int) 0 t102 t105) else (if t101 = true then (if (t105.length : Int) = 0 then (some ((t102.length : Int) == 0)) else (some false)) else (some false))) = some r := H
        have A7 := Aside0.mk A70
        clear A70
        by_cases c8 : t108 = 0
        · rw [if_pos c8] at H
          have c8b0 : (t108 == 0) = true := beq_iff_eq.mpr c8
          have c8b1 : (t108 != 0) = false := bne_eq_false_iff_eq.mpr c8
          clear c8
          have H' := Aside0.mk H
          clear H
          go_wp2_with (first | ((with_reducible refine gate_callee (f := 7) rfl ?_); refine goesL_ (some 22) rfl rfl Tryd.func7 (by kernel_rfl) rfl #[.string a0] rfl (by (try simp only [List.map_toArray, List.map_cons, List.map_nil]); first | done | rfl | (simp only [List.length_drop, List.length_take]; rfl)) ?_; (with_reducible refine (read_Read.calls a0 t102 t105 t108 _ A7.out (ShTab.below HTS.out (by repeat (first | (with_reducible first | exact HB.out | apply below_alloc | apply pw_below_drewN | apply below_drew1 | refine below_set ?_ GE109.out) | exact HB.out)))).mono ?_); rintro e w9 ⟨v103, v106, rfl, ho0, ho1, hb⟩; refine ⟨_, rfl, ?_⟩; have n0_ := Aside0.mk (Kd.S_lower ho0 (below_size (by repeat (first | (with_reducible first | exact HB.out | apply below_alloc | apply pw_below_drewN | apply below_drew1) | exact HB.out)))); have n1_ := Aside0.mk (Kd.R_lower ho1 (below_size (by repeat (first | (with_reducible first | exact HB.out | apply below_alloc | apply pw_below_drewN | apply below_drew1) | exact HB.out)))); have n2_ := Aside0.mk (below_step (by repeat (first | (with_reducible first | exact HB.out | apply below_alloc | apply pw_below_drewN | apply below_drew1) | exact HB.out)) hb); clear HB; have HO104 := n0_; have HO107 := n1_; have HB := n2_; clear n0_ n1_ n2_; (try clear hb); (try clear hb2); (try clear hk); (try clear hi); (try clear ho0); (try clear ho1)) | ((with_reducible refine gate_dst (N := 4) rfl ?_); (try (refine gate_guard (by rfl) ?_; dsimp only)); refine box_event ?hg (N := 4) ?hd (cs := #[.slice none 0 0, .slice none 0 0]) (t := 25) ?hr ?_; (case hd => rfl); (case hg => rfl); (case hr => first | (go_simp; done) | (go_simp; rfl)); intro gb109 hg w10 hbox hb; have n0_ := Aside0.mk (Kd.S_below (by (with_reducible repeat (first | apply Kd.S_alloc | apply Kd.S_drewN | apply Kd.S_drew)); exact HO104.out) hb); have n1_ := Aside0.mk (Kd.R_below (by (with_reducible repeat (first | apply Kd.R_alloc | apply Kd.R_drewN | apply Kd.R_drew)); exact HO107.out) hb); have n2_ := Aside0.mk (below_step (by repeat (first | (with_reducible first | exact HB.out | apply below_alloc | apply pw_below_drewN | apply below_drew1) | exact HB.out)) hb); have n3_ := Aside0.mk (hbox); have n4_ := Aside0.mk ((by rw [hg]; exact (below_size (by repeat (first | (with_reducible first | exact HB.out | apply below_alloc | apply pw_below_drewN | apply below_drew1) | exact HB.out))) : w.heap.size ≤ gb109)); have n5_ := Aside0.mk ((by rw [hg]; exact (below_size (by repeat (first | (with_reducible first | exact HB.out | apply below_alloc | apply pw_below_drewN | apply below_drew1) | exact HB.out))) : w.heap.size ≤ gb109)); clear HO104; clear HO107; clear HB; have HO104 := n0_; have HO107 := n1_; have HB := n2_; have BK109 := n3_; have GW109 := n4_; have GE109 := n5_; clear n0_ n1_ n2_ n3_ n4_ n5_; clear hb hbox hg; obtain ⟨Ao11, co11, eo11⟩ := Kd.S_slice HO104.out; subst eo11; have hcz12_0 : w10.cell? ⟨gb109, 0, none⟩ = some (.slice none 0 0) := (blk_cell BK109.out 0).trans rfl; have hcz12_1 : w10.cell? ⟨gb109, 1, none⟩ = some (.slice none 0 0) := (blk_cell BK109.out 1).trans rfl; have hfz12_0 := blk_frozen BK109.out 0; have hfz12_1 := blk_frozen BK109.out 1; obtain ⟨Ao13, co13, eo13⟩ := Kd.R_slice HO107.out; subst eo13))
          go_loopg [6, 7] kj2 (fun kq v6 v7 w' => ∃ (x6_2 : Int) (x7_2 : Int), v6 = .int .i64 x6_2 ∧ v7 = .int .i64 x7_2 ∧ Aside0 (fescuelaw07_ReadShapes.l0 kq a0 t101 x6_2 x7_2 t102 t105 = some r) ∧ Aside0 (kq ≤ kj2) ∧ Aside0 (Kd.S k41 41 w' w.heap.size (fun _ => True) (.slice Ao11 t102.length co11) t102) ∧ Aside0 (Kd.R k31 31 w' w.heap.size (fun _ => True) (.slice Ao13 t105.length co13) t105) ∧ Aside0 (w'.heap[gb109]? = some (.cells #[(.slice Ao11 t102.length co11), (.slice Ao13 t105.length co13)] 25 (0, 0))) ∧ Aside0 (Below w.heap.size w w'))
          case atStart => exact ⟨((t102.length : Int)), (0), (by first | rfl | (simp; done) | (simp [*]; done)), (by first | rfl | (simp; done) | (simp [*]; done)), H', ⟨Nat.le_refl _⟩, ⟨by (with_reducible repeat (first | apply Kd.S_alloc | apply Kd.S_drewN | apply Kd.S_drew)); exact Kd.S_mono (Kd.S_far (p := ⟨gb109, 1, none⟩) (Kd.S_far (p := ⟨gb109, 0, none⟩) (Kd.S_types HO104.out BK109.out (by decide)) (fun _ hk => hk.2) (.slice Ao11 t102.length co11)) (fun _ hk => hk.2) (.slice Ao13 t105.length co13)) (fun _ hk => trivial)⟩, ⟨by (with_reducible repeat (first | apply Kd.R_alloc | apply Kd.R_drewN | apply Kd.R_drew)); exact Kd.R_mono (Kd.R_far (p := ⟨gb109, 1, none⟩) (Kd.R_far (p := ⟨gb109, 0, none⟩) (Kd.R_types HO107.out BK109.out (by decide)) (fun _ hk => hk.2) (.slice Ao11 t102.length co11)) (fun _ hk => hk.2) (.slice Ao13 t105.length co13)) (fun _ hk => trivial)⟩, ⟨by (with_reducible repeat (first | refine blk_drewN ?_ _ | refine blk_drew ?_ | refine blk_alloc ?_ _)); refine blk_put (cs := #[.slice Ao11 t102.length co11, .slice none 0 0]) ?_ 1 _ rfl; (with_reducible repeat (first | refine blk_drewN ?_ _ | refine blk_drew ?_ | refine blk_alloc ?_ _)); refine blk_put (cs := #[.slice none 0 0, .slice none 0 0]) ?_ 0 _ rfl; (with_reducible repeat (first | refine blk_drewN ?_ _ | refine blk_drew ?_ | refine blk_alloc ?_ _)); exact BK109.out⟩, ⟨by repeat (first | (with_reducible first | exact HB.out | apply below_alloc | apply pw_below_drewN | apply below_drew1 | refine below_set ?_ GE109.out) | exact HB.out)⟩⟩
          case round =>
            clear H'
            try clear c1
            try clear p2
            try clear c4
            try clear c5
            try clear c5b0
            try clear c5b1
            try clear c6
            try clear c7
            try clear c8
            try clear c8b0
            try clear c8b1
            try clear c10
            try clear hcz12_0
            try clear hcz12_1
            try clear hfz12_0
            try clear hfz12_1
            try clear p2
            obtain ⟨x6_2, x7_2, rfl, rfl, HA, HK2, HO_110000, HO_110001, BK109, HB⟩ := hrel
            cases gk with
            | zero => exact absurd HA.out (by simp [fescuelaw07_ReadShapes.l0])
            | succ k2 =>
              have H := HA.out
              clear HA
              simp only [fescuelaw07_ReadShapes.l0] at H
              by_cases c14 : x7_2 < (t105.length : Int)
              · rw [if_pos c14] at H
                have c14b0 : decide (x7_2 < (t105.length : Int)) = true := decide_eq_true c14
                clear c14
                have H' := Aside0.mk H
                clear H
                have hcz15_0 : wr.cell? ⟨gb109, 0, none⟩ = some (.slice Ao11 t102.length co11) := (blk_cell BK109.out 0).trans rfl
                have hcz15_1 : wr.cell? ⟨gb109, 1, none⟩ = some (.slice Ao13 t105.length co13) := (blk_cell BK109.out 1).trans rfl
                have hfz15_0 := blk_frozen BK109.out 0
                have hfz15_1 := blk_frozen BK109.out 1
                go_wp2
                go_loopg [6, 8] k2 (fun kq v6 v8 w' => ∃ (x6_3 : Int) (x8_3 : Int), v6 = .int .i64 x6_3 ∧ v8 = .int .i64 x8_3 ∧ Aside0 (fescuelaw07_ReadShapes.l1 kq a0 t101 x6_3 x7_2 x8_3 t102 t105 = some r) ∧ Aside0 (kq ≤ k2) ∧ Aside0 (Kd.S k41 41 w' w.heap.size (fun _ => True) (.slice Ao11 t102.length co11) t102) ∧ Aside0 (Kd.R k31 31 w' w.heap.size (fun _ => True) (.slice Ao13 t105.length co13) t105) ∧ Aside0 (w'.heap[gb109]? = some (.cells #[(.slice Ao11 t102.length co11), (.slice Ao13 t105.length co13)] 25 (0, 0))) ∧ Aside0 (Below w.heap.size w w'))
                case atStart => exact ⟨(wrap64 (x6_2 + 1)), (0), (by first | rfl | (simp; done) | (simp [*]; done)), (by first | rfl | (simp; done) | (simp [*]; done)), H', ⟨Nat.le_refl _⟩, ⟨by (with_reducible repeat (first | apply Kd.S_alloc | apply Kd.S_drewN | apply Kd.S_drew)); exact HO_110000.out⟩, ⟨by (with_reducible repeat (first | apply Kd.R_alloc | apply Kd.R_drewN | apply Kd.R_drew)); exact HO_110001.out⟩, ⟨by (with_reducible repeat (first | refine blk_drewN ?_ _ | refine blk_drew ?_ | refine blk_alloc ?_ _)); exact BK109.out⟩, ⟨by repeat (first | (with_reducible first | exact HB.out | apply below_alloc | apply pw_below_drewN | apply below_drew1 | refine below_set ?_ GE109.out) | exact HB.out)⟩⟩
                case round =>
                  clear H'
                  try clear c1
                  try clear p2
                  try clear c4
                  try clear c5
                  try clear c5b0
                  try clear c5b1
                  try clear c6
                  try clear p6
                  try clear c7
                  try clear c8
                  try clear c8b0
                  try clear c8b1
                  try clear c10
                  try clear c14
                  try clear c14b0
                  try clear hcz12_0
                  try clear hcz12_1
                  try clear hcz15_0
                  try clear hcz15_1
                  try clear hfz12_0
                  try clear hfz12_1
                  try clear hfz15_0
                  try clear hfz15_1
                  try clear p2
                  obtain ⟨x6_3, x8_3, rfl, rfl, HA, HK3, HO_110000, HO_110001, BK109, HB⟩ := hrel
                  cases gk with
                  | zero => exact absurd HA.out (by simp [fescuelaw07_ReadShapes.l1])
                  | succ k3 =>
                    have H := HA.out
                    clear HA
                    simp only [fescuelaw07_ReadShapes.l1] at H
                    by_cases c16 : 0 ≤ x7_2
                    · rw [if_pos c16] at H
                      have c16b0 : decide (0 ≤ x7_2) = true := decide_eq_true c16
                      clear c16
                      by_cases c17 : x7_2 < (t105.length : Int)
                      · rw [if_pos c17] at H
                        have c17b0 : decide (x7_2 < (t105.length : Int)) = true := decide_eq_true c17
                        clear c17
                        by_cases c18 : x8_3 < (((rd_T31 t105 x7_2).f1).length : Int)
                        · rw [if_pos c18] at H
                          have c18b0 : decide (x8_3 < (((rd_T31 t105 x7_2).f1).length : Int)) = true := decide_eq_true c18
                          clear c18
                          by_cases c19 : 0 ≤ x8_3
                          · rw [if_pos c19] at H
                            have c19b0 : decide (0 ≤ x8_3) = true := decide_eq_true c19
                            clear c19
                            have H' := Aside0.mk H
                            clear H
                            have hcz20_0 : wr.cell? ⟨gb109, 0, none⟩ = some (.slice Ao11 t102.length co11) := (blk_cell BK109.out 0).trans rfl
                            have hcz20_1 : wr.cell? ⟨gb109, 1, none⟩ = some (.slice Ao13 t105.length co13) := (blk_cell BK109.out 1).trans rfl
                            have hfz20_0 := blk_frozen BK109.out 0
                            have hfz20_1 := blk_frozen BK109.out 1
                            have p115 : 0 ≤ (x7_2 : Int) := of_decide_eq_true (by first | (with_reducible assumption) | assumption)
                            have q115 : x7_2 < (t105.length : Int) := of_decide_eq_true (by first | (with_reducible assumption) | assumption)
                            obtain ⟨ad115, A115_1, c115_1, e115, hx115_0, hx115_1, hl115_1, hi115_1⟩ := at_T31 (Kd.R_reads' HO_110001.out).2.2 x7_2 p115 q115
                            cases e115
                            obtain ⟨ce115, hce115, hMe115, hcc115⟩ := Kd.R_get HO_110001.out z31 x7_2 p115 (by first | exact q115 | exact of_decide_eq_true (by first | (with_reducible assumption) | assumption) | (have e_ := (Kd.R_reads' HO_110001.out).1; omega))
                            obtain ⟨ve115_1, rfl, ge115_1⟩ := k31_openM hMe115
                            have hv115_1 := hcc115 1 _ rfl
                            rw [add_field _ _ 1 (by omega)] at hv115_1
                            replace hv115_1 := Option.some.inj (hv115_1.symm.trans hx115_1)
                            rw [hv115_1] at ge115_1
                            have HL115_1 := Aside0.mk (show Kd.R k36 36 _ _ _ _ ((rd_T31 t105 x7_2).f1) from ge115_1)
                            clear hv115_1 ge115_1
                            clear hcc115 hce115
                            have HR115_1 := Aside0.mk hi115_1
                            have HC115_1 := Aside0.mk hl115_1
                            clear hi115_1 hl115_1
                            replace p115 := eq_true p115
                            replace q115 := eq_true q115
                            have p116 : 0 ≤ (x7_2 : Int) := of_decide_eq_true (by first | (with_reducible assumption) | assumption)
                            have q116 : x7_2 < (t105.length : Int) := of_decide_eq_true (by first | (with_reducible assumption) | assumption)
                            obtain ⟨ad116, A116_1, c116_1, e116, hx116_0, hx116_1, hl116_1, hi116_1⟩ := at_T31 (Kd.R_reads' HO_110001.out).2.2 x7_2 p116 q116
                            obtain rfl : ad115 = ad116 := (by injection e116)
                            obtain ⟨ce116, hce116, hMe116, hcc116⟩ := Kd.R_get HO_110001.out z31 x7_2 p116 (by first | exact q116 | exact of_decide_eq_true (by first | (with_reducible assumption) | assumption) | (have e_ := (Kd.R_reads' HO_110001.out).1; omega))
                            obtain ⟨ve116_1, rfl, ge116_1⟩ := k31_openM hMe116
                            have hv116_1 := hcc116 1 _ rfl
                            rw [add_field _ _ 1 (by omega)] at hv116_1
                            replace hv116_1 := Option.some.inj (hv116_1.symm.trans hx116_1)
                            rw [hv116_1] at ge116_1
                            have HL116_1 := Aside0.mk (show Kd.R k36 36 _ _ _ _ ((rd_T31 t105 x7_2).f1) from ge116_1)
                            clear hv116_1 ge116_1
                            clear hcc116 hce116
                            have HR116_1 := Aside0.mk hi116_1
                            have HC116_1 := Aside0.mk hl116_1
                            clear hi116_1 hl116_1
                            replace p116 := eq_true p116
                            replace q116 := eq_true q116
                            have ea_ := Option.some.inj (hx115_1.symm.trans hx116_1)
                            injection ea_ with ea_ en_ ec_
                            subst ea_
                            subst ec_
                            clear en_
                            have p117 : 0 ≤ (x8_3 : Int) := of_decide_eq_true (by first | (with_reducible assumption) | assumption)
                            have q117 : x8_3 < (((rd_T31 t105 x7_2).f1).length : Int) := of_decide_eq_true (by first | (with_reducible assumption) | assumption)
                            obtain ⟨ad117, A117_0, c117_0, e117, hx117_0, hx117_1, hx117_2, hx117_3, hx117_4, hl117_0, hi117_0⟩ := at_T36 (by repeat (first | (with_reducible exact HR116_1.out) | (with_reducible refine Kd.C_alloc ?_ _) | (with_reducible refine Kd.C_drewN ?_ _) | (with_reducible refine Kd.C_drew ?_) | exact HR116_1.out)) x8_3 p117 q117
                            cases e117
                            obtain ⟨ce117, hce117, hMe117, hcc117⟩ := Kd.R_get HL116_1.out z36 x8_3 p117 (by first | exact q117 | exact of_decide_eq_true (by first | (with_reducible assumption) | assumption) | (have e_ := (Kd.R_reads' HL116_1.out).1; omega))
                            obtain ⟨ve117_0, rfl, ge117_0⟩ := k36_openM hMe117
                            have hv117_0 := hcc117 0 _ rfl
                            rw [Nat.add_zero] at hv117_0
                            replace hv117_0 := Option.some.inj (hv117_0.symm.trans hx117_0)
                            rw [hv117_0] at ge117_0
                            have HL117_0 := Aside0.mk (show Kd.R k39 39 _ _ _ _ ((rd_T36 ((rd_T31 t105 x7_2).f1) x8_3).f0) from ge117_0)
                            clear hv117_0 ge117_0
                            clear hcc117 hce117
                            have HR117_0 := Aside0.mk hi117_0
                            have HC117_0 := Aside0.mk hl117_0
                            clear hi117_0 hl117_0
                            replace p117 := eq_true p117
                            replace q117 := eq_true q117
                            go_wp2
                            go_roundg k3
                            case measure => have := HJ2.out; have := HK2.out; have := HK3.out; omega
                            case rel => exact ⟨(wrap64 ((wrap64 (x6_3 + 2)) + (((rd_T36 ((rd_T31 t105 x7_2).f1) x8_3).f0).length : Int))), (wrap64 (x8_3 + 1)), (by first | rfl | (simp; done) | (simp [*]; done)), (by first | rfl | (simp; done) | (simp [*]; done)), H', ⟨by have := HJ2.out; have := HK2.out; have := HK3.out; omega⟩, ⟨by (with_reducible repeat (first | apply Kd.S_alloc | apply Kd.S_drewN | apply Kd.S_drew)); exact HO_110000.out⟩, ⟨by (with_reducible repeat (first | apply Kd.R_alloc | apply Kd.R_drewN | apply Kd.R_drew)); exact HO_110001.out⟩, ⟨by (with_reducible repeat (first | refine blk_drewN ?_ _ | refine blk_drew ?_ | refine blk_alloc ?_ _)); exact BK109.out⟩, ⟨by repeat (first | (with_reducible first | exact HB.out | apply below_alloc | apply pw_below_drewN | apply below_drew1 | refine below_set ?_ GE109.out) | exact HB.out)⟩⟩
                          · rw [if_neg c19] at H
                            exact absurd H (by simp)
                        · rw [if_neg c18] at H
                          have c18b0 : decide (x8_3 < (((rd_T31 t105 x7_2).f1).length : Int)) = false := decide_eq_false c18
                          clear c18
                          have H' := Aside0.mk H
                          clear H
                          have hcz21_0 : wr.cell? ⟨gb109, 0, none⟩ = some (.slice Ao11 t102.length co11) := (blk_cell BK109.out 0).trans rfl
                          have hcz21_1 : wr.cell? ⟨gb109, 1, none⟩ = some (.slice Ao13 t105.length co13) := (blk_cell BK109.out 1).trans rfl
                          have hfz21_0 := blk_frozen BK109.out 0
                          have hfz21_1 := blk_frozen BK109.out 1
                          have p115 : 0 ≤ (x7_2 : Int) := of_decide_eq_true (by first | (with_reducible assumption) | assumption)
                          have q115 : x7_2 < (t105.length : Int) := of_decide_eq_true (by first | (with_reducible assumption) | assumption)
                          obtain ⟨ad115, A115_1, c115_1, e115, hx115_0, hx115_1, hl115_1, hi115_1⟩ := at_T31 (Kd.R_reads' HO_110001.out).2.2 x7_2 p115 q115
                          cases e115
                          obtain ⟨ce115, hce115, hMe115, hcc115⟩ := Kd.R_get HO_110001.out z31 x7_2 p115 (by first | exact q115 | exact of_decide_eq_true (by first | (with_reducible assumption) | assumption) | (have e_ := (Kd.R_reads' HO_110001.out).1; omega))
                          obtain ⟨ve115_1, rfl, ge115_1⟩ := k31_openM hMe115
                          have hv115_1 := hcc115 1 _ rfl
                          rw [add_field _ _ 1 (by omega)] at hv115_1
                          replace hv115_1 := Option.some.inj (hv115_1.symm.trans hx115_1)
                          rw [hv115_1] at ge115_1
                          have HL115_1 := Aside0.mk (show Kd.R k36 36 _ _ _ _ ((rd_T31 t105 x7_2).f1) from ge115_1)
                          clear hv115_1 ge115_1
                          clear hcc115 hce115
                          have HR115_1 := Aside0.mk hi115_1
                          have HC115_1 := Aside0.mk hl115_1
                          clear hi115_1 hl115_1
                          replace p115 := eq_true p115
                          replace q115 := eq_true q115
                          go_wp2
                          go_roundg k3
                          case measure => have := HJ2.out; have := HK2.out; have := HK3.out; omega
                          case rel => exact ⟨(x6_3), (wrap64 (x7_2 + 1)), (by first | rfl | (simp; done) | (simp [*]; done)), (by first | rfl | (simp; done) | (simp [*]; done)), H', ⟨by have := HJ2.out; have := HK2.out; have := HK3.out; omega⟩, ⟨by (with_reducible repeat (first | apply Kd.S_alloc | apply Kd.S_drewN | apply Kd.S_drew)); exact HO_110000.out⟩, ⟨by (with_reducible repeat (first | apply Kd.R_alloc | apply Kd.R_drewN | apply Kd.R_drew)); exact HO_110001.out⟩, ⟨by (with_reducible repeat (first | refine blk_drewN ?_ _ | refine blk_drew ?_ | refine blk_alloc ?_ _)); exact BK109.out⟩, ⟨by repeat (first | (with_reducible first | exact HB.out | apply below_alloc | apply pw_below_drewN | apply below_drew1 | refine below_set ?_ GE109.out) | exact HB.out)⟩⟩
                      · rw [if_neg c17] at H
                        exact absurd H (by simp)
                    · rw [if_neg c16] at H
                      exact absurd H (by simp)
              · rw [if_neg c14] at H
                have c14b0 : decide (x7_2 < (t105.length : Int)) = false := decide_eq_false c14
                clear c14
                replace H := Option.bind_eq_some_iff.mp H
                obtain ⟨⟨t110, t111⟩, A220, H⟩ := H
                replace H : (if t101 = true then (if t111 = 0 then (if (t110.length : Int) = x6_2 then ((shape_Check.f t102 t105).bind fun t114 => (some (t114 == 0))) else (some false)) else (some false)) else (some false)) = some r := H
                have A22 := Aside0.mk A220
                clear A220
                by_cases c23 : t101 = true
                · subst c23
                  have H1 : (if t111 = 0 then (if (t110.length : Int) = x6_2 then ((shape_Check.f t102 t105).bind fun t114 => (some (t114 == 0))) else (some false)) else (some false)) = some r := by rw [if_pos rfl] at H; exact H
                  clear H
                  have H := H1
                  clear H1
                  by_cases c24 : t111 = 0
                  · rw [if_pos c24] at H
                    have c24b0 : (t111 == 0) = true := beq_iff_eq.mpr c24
                    have c24b1 : (t111 != 0) = false := bne_eq_false_iff_eq.mpr c24
                    clear c24
                    by_cases c25 : (t110.length : Int) = x6_2
                    · rw [if_pos c25] at H
                      have c25b0 : ((t110.length : Int) == x6_2) = true := beq_iff_eq.mpr c25
                      have c25b1 : ((t110.length : Int) != x6_2) = false := bne_eq_false_iff_eq.mpr c25
                      clear c25
                      replace H := Option.bind_eq_some_iff.mp H
                      obtain ⟨t114, A260, H⟩ := H
                      replace H : (some (t114 == 0)) = some r := H
                      have A26 := Aside0.mk A260
                      clear A260
                      obtain rfl := Option.some.inj H
                      have hcz27_0 : wr.cell? ⟨gb109, 0, none⟩ = some (.slice Ao11 t102.length co11) := (blk_cell BK109.out 0).trans rfl
                      have hcz27_1 : wr.cell? ⟨gb109, 1, none⟩ = some (.slice Ao13 t105.length co13) := (blk_cell BK109.out 1).trans rfl
                      have hfz27_0 := blk_frozen BK109.out 0
                      have hfz27_1 := blk_frozen BK109.out 1
                      go_wp2_with (first | ((with_reducible refine gate_callee (f := 11) rfl ?_); refine goesL_ (some 79) rfl rfl Tryd.func11 (by kernel_rfl) rfl #[.string a0] rfl (by (try simp only [List.map_toArray, List.map_cons, List.map_nil]); first | done | rfl | (simp only [List.length_drop, List.length_take]; rfl)) ?_; (with_reducible refine (lex_Lines.calls a0 t110 t111 _ A22.out).mono ?_); rintro e w28 ⟨v112, rfl, ho0, hb⟩; refine ⟨_, rfl, ?_⟩; have n0_ := Aside0.mk (Kd.S_below (by (with_reducible repeat (first | apply Kd.S_alloc | apply Kd.S_drewN | apply Kd.S_drew)); exact HO_110000.out) hb); have n1_ := Aside0.mk (Kd.R_below (by (with_reducible repeat (first | apply Kd.R_alloc | apply Kd.R_drewN | apply Kd.R_drew)); exact HO_110001.out) hb); have n2_ := Aside0.mk (Kd.S_lower ho0 (below_size (by repeat (first | (with_reducible first | exact HB.out | apply below_alloc | apply pw_below_drewN | apply below_drew1 | refine below_set ?_ GE109.out) | exact HB.out)))); have n3_ := Aside0.mk (blk_below (g := gb109) (o := .cells #[.slice Ao11 t102.length co11, .slice Ao13 t105.length co13] 25 (0, 0)) (by (with_reducible repeat (first | refine blk_drewN ?_ _ | refine blk_drew ?_ | refine blk_alloc ?_ _)); exact BK109.out) hb); have n4_ := Aside0.mk (below_step (by repeat (first | (with_reducible first | exact HB.out | apply below_alloc | apply pw_below_drewN | apply below_drew1 | refine below_set ?_ GE109.out) | exact HB.out)) hb); clear HO_110000; clear HO_110001; clear BK109; clear HB; have HO_110000 := n0_; have HO_110001 := n1_; have HO113 := n2_; have BK109 := n3_; have HB := n4_; clear n0_ n1_ n2_ n3_ n4_; (try clear hb); (try clear hb2); (try clear hk); (try clear hi); (try clear ho0); obtain ⟨Ao29, co29, eo29⟩ := Kd.S_slice HO113.out; subst eo29; have hcz30_0 : w28.cell? ⟨gb109, 0, none⟩ = some (.slice Ao11 t102.length co11) := (blk_cell BK109.out 0).trans rfl; have hcz30_1 : w28.cell? ⟨gb109, 1, none⟩ = some (.slice Ao13 t105.length co13) := (blk_cell BK109.out 1).trans rfl; have hfz30_0 := blk_frozen BK109.out 0; have hfz30_1 := blk_frozen BK109.out 1) | (go_at_call 12; (with_reducible refine (shape_Check.calls _ _ t102 _ _ t105 t114 _ ?side1 ?side2 ?side3 ?side4 A26.out (ShTab.below HTS.out (by repeat (first | (with_reducible first | exact HB.out | apply below_alloc | apply pw_below_drewN | apply below_drew1 | refine below_set ?_ GE109.out) | exact HB.out)))).mono ?_); (case side1 => repeat (first | exact (Kd.S_reads' HO_110000.out).2.2 | (with_reducible refine Kd.C_alloc ?_ _) | (with_reducible refine Kd.C_drewN ?_ _) | (with_reducible refine Kd.C_drew ?_))); (case side2 => exact (Kd.S_reads' HO_110000.out).2.1); (case side3 => repeat (first | exact (Kd.R_reads' HO_110001.out).2.2 | (with_reducible refine Kd.C_alloc ?_ _) | (with_reducible refine Kd.C_drewN ?_ _) | (with_reducible refine Kd.C_drew ?_))); (case side4 => exact (Kd.R_reads' HO_110001.out).2.1); rintro e w31 ⟨rfl, hb⟩; have n0_ := Aside0.mk (Kd.S_below (by (with_reducible repeat (first | apply Kd.S_alloc | apply Kd.S_drewN | apply Kd.S_drew)); exact HO_110000.out) hb); have n1_ := Aside0.mk (Kd.R_below (by (with_reducible repeat (first | apply Kd.R_alloc | apply Kd.R_drewN | apply Kd.R_drew)); exact HO_110001.out) hb); have n2_ := Aside0.mk (Kd.S_below (by (with_reducible repeat (first | apply Kd.S_alloc | apply Kd.S_drewN | apply Kd.S_drew)); exact HO113.out) hb); have n3_ := Aside0.mk (blk_below (g := gb109) (o := .cells #[.slice Ao11 t102.length co11, .slice Ao13 t105.length co13] 25 (0, 0)) (by (with_reducible repeat (first | refine blk_drewN ?_ _ | refine blk_drew ?_ | refine blk_alloc ?_ _)); exact BK109.out) hb); have n4_ := Aside0.mk (below_step (by repeat (first | (with_reducible first | exact HB.out | apply below_alloc | apply pw_below_drewN | apply below_drew1 | refine below_set ?_ GE109.out) | exact HB.out)) hb); clear HO_110000; clear HO_110001; clear HO113; clear BK109; clear HB; have HO_110000 := n0_; have HO_110001 := n1_; have HO113 := n2_; have BK109 := n3_; have HB := n4_; clear n0_ n1_ n2_ n3_ n4_; (try clear hb); (try clear hb2); (try clear hk); (try clear hi)))
                      go_ret
                      exact ⟨by first | rfl | (simp [errW_none, errW_some] <;> rfl) | (simp [*, errW_none, errW_some] <;> rfl), by repeat (first | (with_reducible first | exact HB.out | apply below_alloc | apply pw_below_drewN | apply below_drew1 | refine below_set ?_ GE109.out) | exact HB.out)⟩
                    · rw [if_neg c25] at H
                      have c25b0 : ((t110.length : Int) == x6_2) = false := beq_eq_false_iff_ne.mpr c25
                      have c25b1 : ((t110.length : Int) != x6_2) = true := bne_iff_ne.mpr c25
                      obtain rfl := Option.some.inj H
                      have hcz32_0 : wr.cell? ⟨gb109, 0, none⟩ = some (.slice Ao11 t102.length co11) := (blk_cell BK109.out 0).trans rfl
                      have hcz32_1 : wr.cell? ⟨gb109, 1, none⟩ = some (.slice Ao13 t105.length co13) := (blk_cell BK109.out 1).trans rfl
                      have hfz32_0 := blk_frozen BK109.out 0
                      have hfz32_1 := blk_frozen BK109.out 1
                      go_wp2_with (first | ((with_reducible refine gate_callee (f := 11) rfl ?_); refine goesL_ (some 79) rfl rfl Tryd.func11 (by kernel_rfl) rfl #[.string a0] rfl (by (try simp only [List.map_toArray, List.map_cons, List.map_nil]); first | done | rfl | (simp only [List.length_drop, List.length_take]; rfl)) ?_; (with_reducible refine (lex_Lines.calls a0 t110 t111 _ A22.out).mono ?_); rintro e w33 ⟨v112, rfl, ho0, hb⟩; refine ⟨_, rfl, ?_⟩; have n0_ := Aside0.mk (Kd.S_below (by (with_reducible repeat (first | apply Kd.S_alloc | apply Kd.S_drewN | apply Kd.S_drew)); exact HO_110000.out) hb); have n1_ := Aside0.mk (Kd.R_below (by (with_reducible repeat (first | apply Kd.R_alloc | apply Kd.R_drewN | apply Kd.R_drew)); exact HO_110001.out) hb); have n2_ := Aside0.mk (Kd.S_lower ho0 (below_size (by repeat (first | (with_reducible first | exact HB.out | apply below_alloc | apply pw_below_drewN | apply below_drew1 | refine below_set ?_ GE109.out) | exact HB.out)))); have n3_ := Aside0.mk (blk_below (g := gb109) (o := .cells #[.slice Ao11 t102.length co11, .slice Ao13 t105.length co13] 25 (0, 0)) (by (with_reducible repeat (first | refine blk_drewN ?_ _ | refine blk_drew ?_ | refine blk_alloc ?_ _)); exact BK109.out) hb); have n4_ := Aside0.mk (below_step (by repeat (first | (with_reducible first | exact HB.out | apply below_alloc | apply pw_below_drewN | apply below_drew1 | refine below_set ?_ GE109.out) | exact HB.out)) hb); clear HO_110000; clear HO_110001; clear BK109; clear HB; have HO_110000 := n0_; have HO_110001 := n1_; have HO113 := n2_; have BK109 := n3_; have HB := n4_; clear n0_ n1_ n2_ n3_ n4_; (try clear hb); (try clear hb2); (try clear hk); (try clear hi); (try clear ho0); obtain ⟨Ao34, co34, eo34⟩ := Kd.S_slice HO113.out; subst eo34))
                      go_ret
                      exact ⟨by first | rfl | (simp [errW_none, errW_some] <;> rfl) | (simp [*, errW_none, errW_some] <;> rfl), by repeat (first | (with_reducible first | exact HB.out | apply below_alloc | apply pw_below_drewN | apply below_drew1 | refine below_set ?_ GE109.out) | exact HB.out)⟩
                  · rw [if_neg c24] at H
                    have c24b0 : (t111 == 0) = false := beq_eq_false_iff_ne.mpr c24
                    have c24b1 : (t111 != 0) = true := bne_iff_ne.mpr c24
                    obtain rfl := Option.some.inj H
                    have hcz35_0 : wr.cell? ⟨gb109, 0, none⟩ = some (.slice Ao11 t102.length co11) := (blk_cell BK109.out 0).trans rfl
                    have hcz35_1 : wr.cell? ⟨gb109, 1, none⟩ = some (.slice Ao13 t105.length co13) := (blk_cell BK109.out 1).trans rfl
                    have hfz35_0 := blk_frozen BK109.out 0
                    have hfz35_1 := blk_frozen BK109.out 1
                    go_wp2_with (first | ((with_reducible refine gate_callee (f := 11) rfl ?_); refine goesL_ (some 79) rfl rfl Tryd.func11 (by kernel_rfl) rfl #[.string a0] rfl (by (try simp only [List.map_toArray, List.map_cons, List.map_nil]); first | done | rfl | (simp only [List.length_drop, List.length_take]; rfl)) ?_; (with_reducible refine (lex_Lines.calls a0 t110 t111 _ A22.out).mono ?_); rintro e w36 ⟨v112, rfl, ho0, hb⟩; refine ⟨_, rfl, ?_⟩; have n0_ := Aside0.mk (Kd.S_below (by (with_reducible repeat (first | apply Kd.S_alloc | apply Kd.S_drewN | apply Kd.S_drew)); exact HO_110000.out) hb); have n1_ := Aside0.mk (Kd.R_below (by (with_reducible repeat (first | apply Kd.R_alloc | apply Kd.R_drewN | apply Kd.R_drew)); exact HO_110001.out) hb); have n2_ := Aside0.mk (Kd.S_lower ho0 (below_size (by repeat (first | (with_reducible first | exact HB.out | apply below_alloc | apply pw_below_drewN | apply below_drew1 | refine below_set ?_ GE109.out) | exact HB.out)))); have n3_ := Aside0.mk (blk_below (g := gb109) (o := .cells #[.slice Ao11 t102.length co11, .slice Ao13 t105.length co13] 25 (0, 0)) (by (with_reducible repeat (first | refine blk_drewN ?_ _ | refine blk_drew ?_ | refine blk_alloc ?_ _)); exact BK109.out) hb); have n4_ := Aside0.mk (below_step (by repeat (first | (with_reducible first | exact HB.out | apply below_alloc | apply pw_below_drewN | apply below_drew1 | refine below_set ?_ GE109.out) | exact HB.out)) hb); clear HO_110000; clear HO_110001; clear BK109; clear HB; have HO_110000 := n0_; have HO_110001 := n1_; have HO113 := n2_; have BK109 := n3_; have HB := n4_; clear n0_ n1_ n2_ n3_ n4_; (try clear hb); (try clear hb2); (try clear hk); (try clear hi); (try clear ho0)))
                    go_ret
                    exact ⟨by first | rfl | (simp [errW_none, errW_some] <;> rfl) | (simp [*, errW_none, errW_some] <;> rfl), by repeat (first | (with_reducible first | exact HB.out | apply below_alloc | apply pw_below_drewN | apply below_drew1 | refine below_set ?_ GE109.out) | exact HB.out)⟩
                · replace c23 := Bool.eq_false_iff.mpr c23
                  subst c23
                  have H1 : (some false) = some r := by rw [if_neg (show ¬ (false = true) by decide)] at H; exact H
                  clear H
                  have H := H1
                  clear H1
                  obtain rfl := Option.some.inj H
                  have hcz37_0 : wr.cell? ⟨gb109, 0, none⟩ = some (.slice Ao11 t102.length co11) := (blk_cell BK109.out 0).trans rfl
                  have hcz37_1 : wr.cell? ⟨gb109, 1, none⟩ = some (.slice Ao13 t105.length co13) := (blk_cell BK109.out 1).trans rfl
                  have hfz37_0 := blk_frozen BK109.out 0
                  have hfz37_1 := blk_frozen BK109.out 1
                  go_wp2_with (first | ((with_reducible refine gate_callee (f := 11) rfl ?_); refine goesL_ (some 79) rfl rfl Tryd.func11 (by kernel_rfl) rfl #[.string a0] rfl (by (try simp only [List.map_toArray, List.map_cons, List.map_nil]); first | done | rfl | (simp only [List.length_drop, List.length_take]; rfl)) ?_; (with_reducible refine (lex_Lines.calls a0 t110 t111 _ A22.out).mono ?_); rintro e w38 ⟨v112, rfl, ho0, hb⟩; refine ⟨_, rfl, ?_⟩; have n0_ := Aside0.mk (Kd.S_below (by (with_reducible repeat (first | apply Kd.S_alloc | apply Kd.S_drewN | apply Kd.S_drew)); exact HO_110000.out) hb); have n1_ := Aside0.mk (Kd.R_below (by (with_reducible repeat (first | apply Kd.R_alloc | apply Kd.R_drewN | apply Kd.R_drew)); exact HO_110001.out) hb); have n2_ := Aside0.mk (Kd.S_lower ho0 (below_size (by repeat (first | (with_reducible first | exact HB.out | apply below_alloc | apply pw_below_drewN | apply below_drew1 | refine below_set ?_ GE109.out) | exact HB.out)))); have n3_ := Aside0.mk (blk_below (g := gb109) (o := .cells #[.slice Ao11 t102.length co11, .slice Ao13 t105.length co13] 25 (0, 0)) (by (with_reducible repeat (first | refine blk_drewN ?_ _ | refine blk_drew ?_ | refine blk_alloc ?_ _)); exact BK109.out) hb); have n4_ := Aside0.mk (below_step (by repeat (first | (with_reducible first | exact HB.out | apply below_alloc | apply pw_below_drewN | apply below_drew1 | refine below_set ?_ GE109.out) | exact HB.out)) hb); clear HO_110000; clear HO_110001; clear BK109; clear HB; have HO_110000 := n0_; have HO_110001 := n1_; have HO113 := n2_; have BK109 := n3_; have HB := n4_; clear n0_ n1_ n2_ n3_ n4_; (try clear hb); (try clear hb2); (try clear hk); (try clear hi); (try clear ho0)))
                  go_ret
                  exact ⟨by first | rfl | (simp [errW_none, errW_some] <;> rfl) | (simp [*, errW_none, errW_some] <;> rfl), by repeat (first | (with_reducible first | exact HB.out | apply below_alloc | apply pw_below_drewN | apply below_drew1 | refine below_set ?_ GE109.out) | exact HB.out)⟩
        · rw [if_neg c8] at H
          have c8b0 : (t108 == 0) = false := beq_eq_false_iff_ne.mpr c8
          have c8b1 : (t108 != 0) = true := bne_iff_ne.mpr c8
          by_cases c39 : t101 = true
          · subst c39
            have H1 : (if (t105.length : Int) = 0 then (some ((t102.length : Int) == 0)) else (some false)) = some r := by rw [if_pos rfl] at H; exact H
            clear H
            have H := H1
            clear H1
            by_cases c40 : (t105.length : Int) = 0
            · rw [if_pos c40] at H
              have c40b0 : ((t105.length : Int) == 0) = true := beq_iff_eq.mpr c40
              have c40b1 : ((t105.length : Int) != 0) = false := bne_eq_false_iff_eq.mpr c40
              clear c40
              obtain rfl := Option.some.inj H
              go_wp2_with (first | ((with_reducible refine gate_callee (f := 7) rfl ?_); refine goesL_ (some 22) rfl rfl Tryd.func7 (by kernel_rfl) rfl #[.string a0] rfl (by (try simp only [List.map_toArray, List.map_cons, List.map_nil]); first | done | rfl | (simp only [List.length_drop, List.length_take]; rfl)) ?_; (with_reducible refine (read_Read.calls a0 t102 t105 t108 _ A7.out (ShTab.below HTS.out (by repeat (first | (with_reducible first | exact HB.out | apply below_alloc | apply pw_below_drewN | apply below_drew1 | refine below_set ?_ GE109.out) | exact HB.out)))).mono ?_); rintro e w41 ⟨v103, v106, rfl, ho0, ho1, hb⟩; refine ⟨_, rfl, ?_⟩; have n0_ := Aside0.mk (Kd.S_lower ho0 (below_size (by repeat (first | (with_reducible first | exact HB.out | apply below_alloc | apply pw_below_drewN | apply below_drew1) | exact HB.out)))); have n1_ := Aside0.mk (Kd.R_lower ho1 (below_size (by repeat (first | (with_reducible first | exact HB.out | apply below_alloc | apply pw_below_drewN | apply below_drew1) | exact HB.out)))); have n2_ := Aside0.mk (below_step (by repeat (first | (with_reducible first | exact HB.out | apply below_alloc | apply pw_below_drewN | apply below_drew1) | exact HB.out)) hb); clear HB; have HO104 := n0_; have HO107 := n1_; have HB := n2_; clear n0_ n1_ n2_; (try clear hb); (try clear hb2); (try clear hk); (try clear hi); (try clear ho0); (try clear ho1)) | ((with_reducible refine gate_dst (N := 4) rfl ?_); (try (refine gate_guard (by rfl) ?_; dsimp only)); refine box_event ?hg (N := 4) ?hd (cs := #[.slice none 0 0, .slice none 0 0]) (t := 25) ?hr ?_; (case hd => rfl); (case hg => rfl); (case hr => first | (go_simp; done) | (go_simp; rfl)); intro gb109 hg w42 hbox hb; have n0_ := Aside0.mk (Kd.S_below (by (with_reducible repeat (first | apply Kd.S_alloc | apply Kd.S_drewN | apply Kd.S_drew)); exact HO104.out) hb); have n1_ := Aside0.mk (Kd.R_below (by (with_reducible repeat (first | apply Kd.R_alloc | apply Kd.R_drewN | apply Kd.R_drew)); exact HO107.out) hb); have n2_ := Aside0.mk (below_step (by repeat (first | (with_reducible first | exact HB.out | apply below_alloc | apply pw_below_drewN | apply below_drew1) | exact HB.out)) hb); have n3_ := Aside0.mk (hbox); have n4_ := Aside0.mk ((by rw [hg]; exact (below_size (by repeat (first | (with_reducible first | exact HB.out | apply below_alloc | apply pw_below_drewN | apply below_drew1) | exact HB.out))) : w.heap.size ≤ gb109)); have n5_ := Aside0.mk ((by rw [hg]; exact (below_size (by repeat (first | (with_reducible first | exact HB.out | apply below_alloc | apply pw_below_drewN | apply below_drew1) | exact HB.out))) : w.heap.size ≤ gb109)); clear HO104; clear HO107; clear HB; have HO104 := n0_; have HO107 := n1_; have HB := n2_; have BK109 := n3_; have GW109 := n4_; have GE109 := n5_; clear n0_ n1_ n2_ n3_ n4_ n5_; clear hb hbox hg; obtain ⟨Ao43, co43, eo43⟩ := Kd.S_slice HO104.out; subst eo43; have hcz44_0 : w42.cell? ⟨gb109, 0, none⟩ = some (.slice none 0 0) := (blk_cell BK109.out 0).trans rfl; have hcz44_1 : w42.cell? ⟨gb109, 1, none⟩ = some (.slice none 0 0) := (blk_cell BK109.out 1).trans rfl; have hfz44_0 := blk_frozen BK109.out 0; have hfz44_1 := blk_frozen BK109.out 1; obtain ⟨Ao45, co45, eo45⟩ := Kd.R_slice HO107.out; subst eo45))
              go_ret
              exact ⟨by first | rfl | (simp [errW_none, errW_some] <;> rfl) | (simp [*, errW_none, errW_some] <;> rfl), by repeat (first | (with_reducible first | exact HB.out | apply below_alloc | apply pw_below_drewN | apply below_drew1 | refine below_set ?_ GE109.out) | exact HB.out)⟩
            · rw [if_neg c40] at H
              have c40b0 : ((t105.length : Int) == 0) = false := beq_eq_false_iff_ne.mpr c40
              have c40b1 : ((t105.length : Int) != 0) = true := bne_iff_ne.mpr c40
              have c40b2 : ¬ (t105 = []) := fun h_ => c40 (by rw [h_]; rfl)
              obtain rfl := Option.some.inj H
              go_wp2_with (first | ((with_reducible refine gate_callee (f := 7) rfl ?_); refine goesL_ (some 22) rfl rfl Tryd.func7 (by kernel_rfl) rfl #[.string a0] rfl (by (try simp only [List.map_toArray, List.map_cons, List.map_nil]); first | done | rfl | (simp only [List.length_drop, List.length_take]; rfl)) ?_; (with_reducible refine (read_Read.calls a0 t102 t105 t108 _ A7.out (ShTab.below HTS.out (by repeat (first | (with_reducible first | exact HB.out | apply below_alloc | apply pw_below_drewN | apply below_drew1 | refine below_set ?_ GE109.out) | exact HB.out)))).mono ?_); rintro e w46 ⟨v103, v106, rfl, ho0, ho1, hb⟩; refine ⟨_, rfl, ?_⟩; have n0_ := Aside0.mk (Kd.S_lower ho0 (below_size (by repeat (first | (with_reducible first | exact HB.out | apply below_alloc | apply pw_below_drewN | apply below_drew1) | exact HB.out)))); have n1_ := Aside0.mk (Kd.R_lower ho1 (below_size (by repeat (first | (with_reducible first | exact HB.out | apply below_alloc | apply pw_below_drewN | apply below_drew1) | exact HB.out)))); have n2_ := Aside0.mk (below_step (by repeat (first | (with_reducible first | exact HB.out | apply below_alloc | apply pw_below_drewN | apply below_drew1) | exact HB.out)) hb); clear HB; have HO104 := n0_; have HO107 := n1_; have HB := n2_; clear n0_ n1_ n2_; (try clear hb); (try clear hb2); (try clear hk); (try clear hi); (try clear ho0); (try clear ho1)) | ((with_reducible refine gate_dst (N := 4) rfl ?_); (try (refine gate_guard (by rfl) ?_; dsimp only)); refine box_event ?hg (N := 4) ?hd (cs := #[.slice none 0 0, .slice none 0 0]) (t := 25) ?hr ?_; (case hd => rfl); (case hg => rfl); (case hr => first | (go_simp; done) | (go_simp; rfl)); intro gb109 hg w47 hbox hb; have n0_ := Aside0.mk (Kd.S_below (by (with_reducible repeat (first | apply Kd.S_alloc | apply Kd.S_drewN | apply Kd.S_drew)); exact HO104.out) hb); have n1_ := Aside0.mk (Kd.R_below (by (with_reducible repeat (first | apply Kd.R_alloc | apply Kd.R_drewN | apply Kd.R_drew)); exact HO107.out) hb); have n2_ := Aside0.mk (below_step (by repeat (first | (with_reducible first | exact HB.out | apply below_alloc | apply pw_below_drewN | apply below_drew1) | exact HB.out)) hb); have n3_ := Aside0.mk (hbox); have n4_ := Aside0.mk ((by rw [hg]; exact (below_size (by repeat (first | (with_reducible first | exact HB.out | apply below_alloc | apply pw_below_drewN | apply below_drew1) | exact HB.out))) : w.heap.size ≤ gb109)); have n5_ := Aside0.mk ((by rw [hg]; exact (below_size (by repeat (first | (with_reducible first | exact HB.out | apply below_alloc | apply pw_below_drewN | apply below_drew1) | exact HB.out))) : w.heap.size ≤ gb109)); clear HO104; clear HO107; clear HB; have HO104 := n0_; have HO107 := n1_; have HB := n2_; have BK109 := n3_; have GW109 := n4_; have GE109 := n5_; clear n0_ n1_ n2_ n3_ n4_ n5_; clear hb hbox hg; obtain ⟨Ao48, co48, eo48⟩ := Kd.S_slice HO104.out; subst eo48; have hcz49_0 : w47.cell? ⟨gb109, 0, none⟩ = some (.slice none 0 0) := (blk_cell BK109.out 0).trans rfl; have hcz49_1 : w47.cell? ⟨gb109, 1, none⟩ = some (.slice none 0 0) := (blk_cell BK109.out 1).trans rfl; have hfz49_0 := blk_frozen BK109.out 0; have hfz49_1 := blk_frozen BK109.out 1; obtain ⟨Ao50, co50, eo50⟩ := Kd.R_slice HO107.out; subst eo50))
              go_ret
              exact ⟨by first | rfl | (simp [errW_none, errW_some] <;> rfl) | (simp [*, errW_none, errW_some] <;> rfl), by repeat (first | (with_reducible first | exact HB.out | apply below_alloc | apply pw_below_drewN | apply below_drew1 | refine below_set ?_ GE109.out) | exact HB.out)⟩
          · replace c39 := Bool.eq_false_iff.mpr c39
            subst c39
            have H1 : (some false) = some r := by rw [if_neg (show ¬ (false = true) by decide)] at H; exact H
            clear H
            have H := H1
            clear H1
            obtain rfl := Option.some.inj H
            go_wp2_with (first | ((with_reducible refine gate_callee (f := 7) rfl ?_); refine goesL_ (some 22) rfl rfl Tryd.func7 (by kernel_rfl) rfl #[.string a0] rfl (by (try simp only [List.map_toArray, List.map_cons, List.map_nil]); first | done | rfl | (simp only [List.length_drop, List.length_take]; rfl)) ?_; (with_reducible refine (read_Read.calls a0 t102 t105 t108 _ A7.out (ShTab.below HTS.out (by repeat (first | (with_reducible first | exact HB.out | apply below_alloc | apply pw_below_drewN | apply below_drew1 | refine below_set ?_ GE109.out) | exact HB.out)))).mono ?_); rintro e w51 ⟨v103, v106, rfl, ho0, ho1, hb⟩; refine ⟨_, rfl, ?_⟩; have n0_ := Aside0.mk (Kd.S_lower ho0 (below_size (by repeat (first | (with_reducible first | exact HB.out | apply below_alloc | apply pw_below_drewN | apply below_drew1) | exact HB.out)))); have n1_ := Aside0.mk (Kd.R_lower ho1 (below_size (by repeat (first | (with_reducible first | exact HB.out | apply below_alloc | apply pw_below_drewN | apply below_drew1) | exact HB.out)))); have n2_ := Aside0.mk (below_step (by repeat (first | (with_reducible first | exact HB.out | apply below_alloc | apply pw_below_drewN | apply below_drew1) | exact HB.out)) hb); clear HB; have HO104 := n0_; have HO107 := n1_; have HB := n2_; clear n0_ n1_ n2_; (try clear hb); (try clear hb2); (try clear hk); (try clear hi); (try clear ho0); (try clear ho1)) | ((with_reducible refine gate_dst (N := 4) rfl ?_); (try (refine gate_guard (by rfl) ?_; dsimp only)); refine box_event ?hg (N := 4) ?hd (cs := #[.slice none 0 0, .slice none 0 0]) (t := 25) ?hr ?_; (case hd => rfl); (case hg => rfl); (case hr => first | (go_simp; done) | (go_simp; rfl)); intro gb109 hg w52 hbox hb; have n0_ := Aside0.mk (Kd.S_below (by (with_reducible repeat (first | apply Kd.S_alloc | apply Kd.S_drewN | apply Kd.S_drew)); exact HO104.out) hb); have n1_ := Aside0.mk (Kd.R_below (by (with_reducible repeat (first | apply Kd.R_alloc | apply Kd.R_drewN | apply Kd.R_drew)); exact HO107.out) hb); have n2_ := Aside0.mk (below_step (by repeat (first | (with_reducible first | exact HB.out | apply below_alloc | apply pw_below_drewN | apply below_drew1) | exact HB.out)) hb); have n3_ := Aside0.mk (hbox); have n4_ := Aside0.mk ((by rw [hg]; exact (below_size (by repeat (first | (with_reducible first | exact HB.out | apply below_alloc | apply pw_below_drewN | apply below_drew1) | exact HB.out))) : w.heap.size ≤ gb109)); have n5_ := Aside0.mk ((by rw [hg]; exact (below_size (by repeat (first | (with_reducible first | exact HB.out | apply below_alloc | apply pw_below_drewN | apply below_drew1) | exact HB.out))) : w.heap.size ≤ gb109)); clear HO104; clear HO107; clear HB; have HO104 := n0_; have HO107 := n1_; have HB := n2_; have BK109 := n3_; have GW109 := n4_; have GE109 := n5_; clear n0_ n1_ n2_ n3_ n4_ n5_; clear hb hbox hg; obtain ⟨Ao53, co53, eo53⟩ := Kd.S_slice HO104.out; subst eo53; have hcz54_0 : w52.cell? ⟨gb109, 0, none⟩ = some (.slice none 0 0) := (blk_cell BK109.out 0).trans rfl; have hcz54_1 : w52.cell? ⟨gb109, 1, none⟩ = some (.slice none 0 0) := (blk_cell BK109.out 1).trans rfl; have hfz54_0 := blk_frozen BK109.out 0; have hfz54_1 := blk_frozen BK109.out 1; obtain ⟨Ao55, co55, eo55⟩ := Kd.R_slice HO107.out; subst eo55))
            go_ret
            exact ⟨by first | rfl | (simp [errW_none, errW_some] <;> rfl) | (simp [*, errW_none, errW_some] <;> rfl), by repeat (first | (with_reducible first | exact HB.out | apply below_alloc | apply pw_below_drewN | apply below_drew1 | refine below_set ?_ GE109.out) | exact HB.out)⟩
def fescuelaw07_ReadShapes.Pure : Prop := ∀ (a0 : ByteArray), a0.size ≤ 140737488351232 → ∃ k, fescuelaw07_ReadShapes.f k a0 = some true
theorem fescuelaw07_ReadShapes.walk (P : fescuelaw07_ReadShapes.Pure) (a0 : ByteArray) (w : World) (w0 : a0.size ≤ 140737488351232) (HTS0 : ShTab w) :
    Calls Tryd.prog 4 #[.string a0] w fun e w' => e = .returned (.bool true) ∧ Below w.heap.size w w' := by
  have HTS := Aside0.mk HTS0
  clear HTS0
  obtain ⟨k, h⟩ := P a0 w0
  refine (fescuelaw07_ReadShapes.calls k a0 true w h HTS.out).mono ?_
  rintro e w' ⟨rfl, hd⟩
  exact ⟨rfl, hd⟩
end Go.Proofs.YtlghkomipboflaaDoor.X
end
section
namespace Go.Proofs.YtlghkomipboflaaDoor.Pure
open Go.RowKit Go.Proofs.YtlghkomipboflaaDoor Go.Proofs.YtlghkomipboflaaDoor.X Go.Proofs.YtlghkomipboflaaDoor.Rd Go.Proofs.YtlghkomipboflaaDoor.Sh Go.Proofs.YtlghkomipboflaaDoorW.PrintWords Go.Proofs.YtlghkomipboflaaDoorW.PrintLast
set_option linter.unusedVariables false
set_option linter.unusedSimpArgs false
theorem l1_go (s : ByteArray) (ts : List Tp) (fs : List Rd.Fn) (x7 : Int) (h0 : 0 ≤ x7) (h1 : x7 < (fs.length : Int)) (K : Nat) : ∀ (rest : List Bk) (i : Nat) (n : Nat), (rd_T31 fs x7).f1.drop i = rest → i + rest.length = (rd_T31 fs x7).f1.length → n + cntB rest ≤ 1000000 → i + rest.length ≤ 1000000 →
    fescuelaw07_ReadShapes.l1 (K + rest.length + 1) s true (n : Int) x7 (i : Int) ts fs = fescuelaw07_ReadShapes.l0 K s true ((n + cntB rest : Nat) : Int) (wrap64 (x7 + 1)) ts fs
  | [], i, n, hd, hi, hn, hm => by
    simp only [List.length_nil, Nat.add_zero] at hi
    rw [List.length_nil, Nat.add_zero, fescuelaw07_ReadShapes.l1, if_pos h0, if_pos h1, if_neg (by omega)]
    rfl
  | b :: rest, i, n, hd, hi, hn, hm => by
    simp only [List.length_cons] at hi hm
    have hlt : i < (rd_T31 fs x7).f1.length := by omega
    have hb : rd_T36 (rd_T31 fs x7).f1 (i : Int) = b := by
      unfold rd_T36
      rw [List.getD_eq_getElem?_getD, Int.toNat_natCast, List.getElem?_eq_getElem hlt]
      rw [List.drop_eq_getElem_cons hlt] at hd
      injection hd
    have hd2 : (rd_T31 fs x7).f1.drop (i + 1) = rest := by
      rw [List.drop_eq_getElem_cons hlt] at hd
      injection hd
    have hc : cntB (b :: rest) = b.f0.length + 2 + cntB rest := by simp [cntB]
    rw [hc] at hn
    rw [show K + (b :: rest).length + 1 = (K + rest.length + 1) + 1 by simp; omega]
    have w1 : wrap64 ((n : Int) + 2) = ((n + 2 : Nat) : Int) := by unfold wrap64; omega
    have w2 : wrap64 (((n + 2 : Nat) : Int) + (b.f0.length : Int)) = ((n + 2 + b.f0.length : Nat) : Int) := by unfold wrap64; omega
    rw [fescuelaw07_ReadShapes.l1, if_pos h0, if_pos h1, if_pos (by omega), if_pos (by omega), hb, w1, w2, show wrap64 ((i : Int) + 1) = ((i + 1 : Nat) : Int) by unfold wrap64; omega,
      l1_go s ts fs x7 h0 h1 K rest (i + 1) (n + 2 + b.f0.length) hd2 (by omega) (by omega) (by omega), hc, show n + 2 + b.f0.length + cntB rest = n + (b.f0.length + 2 + cntB rest) by omega]
def need (fs : List Rd.Fn) : Nat := (fs.map fun f => f.f1.length + 2).sum + 1
theorem len_cnt (bs : List Bk) : bs.length ≤ cntB bs := by
  induction bs with
  | nil => simp
  | cons b bs ih => simp [cntB] at ih ⊢; omega
theorem l0_go (s : ByteArray) (ts : List Tp) (fs : List Rd.Fn) (hl : (linesP s).2 = 0) (hc : ts.length + cntF fs = (linesP s).1.length) (hs : shape_Check.f ts fs = some 0) (hm : (linesP s).1.length ≤ 1000000) (hF : fs.length ≤ 1000000) : ∀ (rest : List Rd.Fn) (i : Nat) (n : Nat), fs.drop i = rest → i + rest.length = fs.length → n + cntF rest = (linesP s).1.length →
    fescuelaw07_ReadShapes.l0 (need rest) s true (n : Int) (i : Int) ts fs = some true
  | [], i, n, hd, hi, hn => by
    have hn2 : n = (linesP s).1.length := by simpa [cntF] using hn
    simp only [List.length_nil, Nat.add_zero] at hi
    unfold need
    rw [List.map_nil, List.sum_nil, Nat.zero_add, fescuelaw07_ReadShapes.l0, if_neg (by omega)]
    unfold lex_Lines.f
    rw [Option.bind_some, if_pos rfl, if_pos hl, if_pos (by omega), hs]
    rfl
  | f :: rest, i, n, hd, hi, hn => by
    simp only [List.length_cons] at hi
    have hlt : i < fs.length := by omega
    have hf : rd_T31 fs (i : Int) = f := by
      unfold rd_T31
      rw [List.getD_eq_getElem?_getD, Int.toNat_natCast, List.getElem?_eq_getElem hlt]
      rw [List.drop_eq_getElem_cons hlt] at hd
      injection hd
    have hd2 : fs.drop (i + 1) = rest := by
      rw [List.drop_eq_getElem_cons hlt] at hd
      injection hd
    have hc2 : cntF (f :: rest) = cntB f.f1 + 1 + cntF rest := by simp [cntF]
    have hlen := len_cnt f.f1
    rw [hc2] at hn
    rw [show need (f :: rest) = (need rest + f.f1.length + 1) + 1 by simp [need]; omega]
    rw [fescuelaw07_ReadShapes.l0, if_pos (by omega), show wrap64 ((n : Int) + 1) = ((n + 1 : Nat) : Int) by unfold wrap64; omega]
    have h := l1_go s ts fs (i : Int) (by omega) (by omega) (need rest) f.f1 0 (n + 1) (by rw [hf]; rfl) (by rw [hf]; omega) (by omega) (by omega)
    rw [show ((0 : Nat) : Int) = 0 from rfl] at h
    rw [h, show wrap64 ((i : Int) + 1) = ((i + 1 : Nat) : Int) by unfold wrap64; omega]
    exact l0_go s ts fs hl hc hs hm hF rest (i + 1) _ hd2 (by omega) (by omega)
theorem len_cntF (fs : List Rd.Fn) : fs.length ≤ cntF fs := by
  induction fs with
  | nil => simp
  | cons b bs ih => simp [cntF] at ih ⊢; omega
theorem ReadShapes : fescuelaw07_ReadShapes.Pure := by
  intro s hs
  unfold fescuelaw07_ReadShapes.f fescuelaw07_alive.f
  simp only [Option.bind_some]
  by_cases h3 : (s.size : Int) > 3000
  · refine ⟨1, ?_⟩
    rw [if_pos h3]
    rw [fescuelaw07_ReadShapes.j0]
    rfl
  · rcases read_cases s with ⟨e, he, hr⟩ | ⟨ts, fs, hr, hl, hc, hk⟩
    · refine ⟨1, ?_⟩
      rw [if_neg h3, fescuelaw07_ReadShapes.j0, hr, Option.bind_some, if_neg (by decide), if_neg he]
      rfl
    · refine ⟨need fs + 1, ?_⟩
      rw [if_neg h3, fescuelaw07_ReadShapes.j0, hr, Option.bind_some, if_neg (by decide), if_pos rfl]
      have hm : (linesP s).1.length ≤ 1000000 := by have := (linesP_good s).2; omega
      have hF := len_cntF fs
      exact l0_go s ts fs hl hc hk hm (by omega) fs 0 ts.length rfl (by omega) hc
end Go.Proofs.YtlghkomipboflaaDoor.Pure
end
section
namespace Go.Proofs.YtlghkomipboflaaDoor.readShapes
open Go.ChangeShapes Go.WideShapes Go.ChangeAt Go.RowKit
open Go.ChangeMaps (open_string shut_string)
set_option linter.unusedVariables false
theorem reads (os : Os) {H : Type} (enc : TypeId × Value → H) : ∃ places, DataW.whole enc Tryd.prog ((laidWorld1 os).forCall (fun _ _ => 0) ⟨#[], #[.string ByteArray.empty], []⟩).memory Tryd.f4.params.toList Rows.readShapesSpec.vars false (#[.string ByteArray.empty] : Array Value).toList 8 = some ([.lit (.string [])], [], places) :=
  ⟨[], by kernel_rfl⟩
set_option maxRecDepth 100000 in
theorem lifted (os : Os) (started : os.Started) (H : Type) (enc : TypeId × Value → H) (F : Stop.Interp) :
    ReturnsInHanded {} Tryd.checked os 4 .any ((OpenSpec.ofChange Rows.readShapesSpec).preRow enc Tryd.prog Tryd.f4 Rows.readShapesRow.domain false Rows.readShapesRow.laid) (((OpenSpec.ofChange Rows.readShapesSpec).at F).post enc Tryd.prog Tryd.f4 false true false false) := by
  obtain ⟨places, hx⟩ := reads os enc
  refine returnsInHanded_of_row (C := Tryd.checked) (s := OpenSpec.ofChange Rows.readShapesSpec) own started (by kernel_rfl) Tryd.func4
    (witness_row_at (enc := enc) (C := Tryd.checked) false (laidWorld1 os) #[.string ByteArray.empty] rfl (by kernel_rfl) (by kernel_rfl) (by kernel_rfl)
      (OpenSpec.preRow_of_cond 8 hx (by kernel_rfl) (fun k hk => by cases hk) (by kernel_rfl) (laid_met1 os _))) ?_
  intro W base args ds gs before hval0 hW _ hcnd hsz0 hL _ _
  have hT : ShTab W := tableS hL
  have hsz : (DataW.weightsEach Tryd.prog (Tryd.f4.params.toList ++ (OpenSpec.ofChange Rows.readShapesSpec).bare.plain.varTypes Tryd.prog) (ds ++ gs)).all (· ≤ reachBytes) = true := hsz0
  have hval : ∀ (j : Nat) t v, Tryd.f4.params[j]? = some t → args[j]? = some v → Value.okWide Tryd.prog W .any base t v := hval0
  have hW' := hW
  obtain ⟨p, q, hA0, hV, rfl, hfz, hnd⟩ := hW
  have hA : DataW.TrodAll enc Tryd.prog W 0 (fun _ => true) true Tryd.f4.params.toList args.toList ds p := hA0
  rw [Tryd.params4] at hA hval hsz
  obtain ⟨v0, vs0, d0, ds0, p0, q0, hargs, rfl, rfl, h0, r0⟩ := trodAll_cons hA
  obtain ⟨rfl, rfl, rfl⟩ := trodAll_nil r0
  obtain rfl : args = #[v0] := by cases args; simp_all
  obtain ⟨rfl, rfl⟩ := trodVars_none hV
  obtain ⟨a0, rfl, rfl, rfl, y0⟩ := open_string Tryd.underlying9 (hval 0 9 v0 rfl rfl) h0
  have w0 : a0.size ≤ 140737488351232 := by
    have z := sized_string hsz (j := 0) (t := 9) rfl rfl
    rw [Array.length_toList] at z
    exact z
  clear hA0 hval0 hsz0 hsz
  refine (X.fescuelaw07_ReadShapes.walk Pure.ReadShapes a0 W w0 hT).mono fun e W' ⟨he, bel⟩ => ?_
  subst he
  exact ⟨_, rfl, _, _, _, [], _, [], hW', trodAll_mk1 (shut_bool Tryd.underlying4 _), (trodAll_cons_mk (shut_string Tryd.underlying9 y0) trodAll_mk0), rfl, bel.frame _, fun h => by cases h⟩
theorem over : Rows.ReadShapesSaid :=
  OpenClaim.holds_of_cond 4 Tryd.f4 rfl rfl rfl rfl rfl rfl rfl ⟨rfl, rfl, rfl, rfl, rfl⟩ rfl rfl rfl rfl rfl (by kernel_rfl) Tryd.func4 (by kernel_rfl)
    (of_decide_eq_true (by kernel_rfl)) (by unfold Func.isWrapper; first | (rw [if_pos (by decide +kernel)]; kernel_rfl) | (rw [if_neg (by decide +kernel)]; exact ⟨rfl, rfl⟩))
    (fun os started H enc _ F => by rw [OpenClaim.pre_eq_preRow]; exact lifted os started H enc F)
theorem plain (f : FuncId) (fn : Func) (hf : Tryd.pinned.checked.prog.funcNamed Rows.readShapesRow.func = some f) (hfn : Tryd.pinned.checked.prog.funcs[f]? = some fn) :
    true = Tryd.pinned.checked.prog.looks [] ∧ ∀ (j : Nat) t, fn.params[j]? = some t → Tryd.pinned.checked.prog.wantsStandIn t = false := by
  obtain rfl : f = 4 := Option.some.inj ((show Tryd.prog.funcNamed Rows.readShapesRow.func = some 4 by kernel_rfl).symm.trans hf) |>.symm
  obtain rfl : fn = Tryd.f4 := (Option.some.inj (Tryd.func4.symm.trans hfn)).symm
  refine ⟨by kernel_rfl, fun j t ht => ?_⟩
  have hall : Tryd.f4.params.toList.all (fun t => Tryd.prog.wantsStandIn t == false) = true := by kernel_rfl
  have hm : t ∈ Tryd.f4.params.toList := by
    rw [Array.mem_toList_iff]
    exact Array.mem_of_getElem? ht
  exact eq_of_beq (List.all_eq_true.1 hall t hm)
theorem proved : Rows.ReadShapesCardSaid :=
  Claim7.holds_tied_plain_at .later [] _ _ _ _ over (fun _ h => by cases h) (by kernel_rfl) (fun _ h => by cases h) readShapes_row_tie rfl ⟨rfl, rfl⟩ (by kernel_rfl) rfl plain (by kernel_rfl)
#print axioms proved
end Go.Proofs.YtlghkomipboflaaDoor.readShapes
namespace Go.Proofs.YtlghkomipboflaaDoor
theorem readShapes_holds : Rows.ReadShapesCardSaid := readShapes.proved
end Go.Proofs.YtlghkomipboflaaDoor
end
