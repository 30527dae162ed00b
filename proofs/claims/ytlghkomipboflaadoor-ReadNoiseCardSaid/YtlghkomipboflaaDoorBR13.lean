/- The law fescuelaw07_ReadShapes answers true at every input, and its arguments read as they did. No condition. (Written by a program of this session.) -/
import Derived.Test.YtlghkomipboflaaDoorRows
import Derived.WalkKit
import Derived.ProofKit
import Derived.OpenShut
import Derived.ShutString
import Derived.ChangeOld
import Derived.Below
import Derived.SizedLaws
import Derived.Test.YtlghkomipboflaaDoorBR1
import Derived.Test.YtlghkomipboflaaDoorBR2
import Derived.Test.YtlghkomipboflaaDoorBR5
import Derived.Test.YtlghkomipboflaaDoorBR8
import Derived.Test.YtlghkomipboflaaDoorBR10
import Derived.Test.YtlghkomipboflaaDoorBR11
set_option linter.unusedVariables false
set_option linter.unusedSimpArgs false
section
namespace Go.Proofs.YtlghkomipboflaaDoor.X
open Go.RowKit Go.Proofs.YtlghkomipboflaaDoorW.PrintWords Go.Proofs.YtlghkomipboflaaDoorW.PrintLast Go.Proofs.YtlghkomipboflaaDoorW.PrintMore
attribute [local go_sem] max2_int min2_int max_two min_two max_three min_three max_four min_four
set_option linter.unusedVariables false
set_option linter.unusedSimpArgs false
mutual
def fescuelaw07_ReadNoise.j0 : Nat → ByteArray → Bool → Bool → Option (Bool)
  | 0, _, _, _ => none
  | k + 1, x0, x3, x20 => if x20 = true then (some x3) else ((lex_Lines.f x0).bind fun bt153 => (if bt153.2 = 0 then (fescuelaw07_ReadNoise.l0 k x0 x3 bt153.1 (⟨#[35, 32, 10]⟩ : ByteArray) 0) else (if x3 = true then ((fescuelaw07_odd.f x0 bt153.2).bind fun t157 => (some t157)) else (some false))))
def fescuelaw07_ReadNoise.l0 : Nat → ByteArray → Bool → List (List ByteArray) → ByteArray → Int → Option (Bool)
  | 0, _, _, _, _, _ => none
  | k + 1, x0, x3, x4, x6, x7 => if x7 < (x4.length : Int) then (fescuelaw07_ReadNoise.l1 k x0 x3 x4 x6 x7 0) else (if (x6.size : Int) > 16384 then (some x3) else ((read_Read.f x0).bind fun bt161 => ((read_Read.f x6).bind fun bt169 => (if x3 = true then (if bt161.2.2 = bt169.2.2 then ((fescueref06_Same.f k bt161.1 bt161.2.1 bt169.1 bt169.2.1).bind fun t177 => (some t177)) else (some false)) else (some false)))))
def fescuelaw07_ReadNoise.l1 : Nat → ByteArray → Bool → List (List ByteArray) → ByteArray → Int → Int → Option (Bool)
  | 0, _, _, _, _, _, _ => none
  | k + 1, x0, x3, x4, x6, x7, x8 => if 0 ≤ x7 then (if x7 < (x4.length : Int) then (if x8 < ((rd_L14 x4 x7).length : Int) then (if x6.size + 2 ≤ 9223372036854775807 then (if 0 ≤ x8 then (if (x6 ++ (⟨#[32, 9]⟩ : ByteArray)).size + (rdOf ByteArray.empty (rd_L14 x4 x7) x8).size ≤ 9223372036854775807 then (fescuelaw07_ReadNoise.l1 k x0 x3 x4 ((x6 ++ (⟨#[32, 9]⟩ : ByteArray)) ++ (rdOf ByteArray.empty (rd_L14 x4 x7) x8)) x7 (wrap64 (x8 + 1))) else (none)) else (none)) else (none)) else (if x6.size + 7 ≤ 9223372036854775807 then (fescuelaw07_ReadNoise.l0 k x0 x3 x4 (x6 ++ (⟨#[35, 32, 114, 48, 13, 10, 10]⟩ : ByteArray)) (wrap64 (x7 + 1))) else (none))) else (none)) else (none)
end
def fescuelaw07_ReadNoise.f (k : Nat) (a0 : ByteArray) : Option (Bool) := (fescuelaw07_alive.f).bind fun t152 => (if (a0.size : Int) > 3000 then (fescuelaw07_ReadNoise.j0 k a0 t152 true) else (fescuelaw07_ReadNoise.j0 k a0 t152 (!t152)))
set_option maxHeartbeats 8000000 in
set_option maxRecDepth 100000 in
theorem fescuelaw07_ReadNoise.calls (k : Nat) (a0 : ByteArray) (r : Bool) (w : World) (h : fescuelaw07_ReadNoise.f k a0 = some r) (HTS0 : ShTab w) :
    Calls Tryd.prog 5 #[.string a0] w fun e w' => e = .returned (.bool r) ∧ Below w.heap.size w w' := by
  have HTS := Aside0.mk HTS0
  clear HTS0
  have hu25 := Tryd.underlying25
  have HB := Aside0.mk (Below.refl w.heap.size w)
  have H : ((fescuelaw07_alive.f).bind fun t152 => (if (a0.size : Int) > 3000 then (fescuelaw07_ReadNoise.j0 k a0 t152 true) else (fescuelaw07_ReadNoise.j0 k a0 t152 (!t152)))) = some r := h
  clear h
  replace H := Option.bind_eq_some_iff.mp H
  obtain ⟨t152, A20, H⟩ := H
  replace H : (if (a0.size : Int) > 3000 then (fescuelaw07_ReadNoise.j0 k a0 t152 true) else (fescuelaw07_ReadNoise.j0 k a0 t152 (!t152))) = some r := H
  have A2 := Aside0.mk A20
  clear A20
  have HC3 := Aside0.mk H
  clear H
  go_enter Tryd.func5, Tryd.ntmps5
  go_upto_region 2 with (first | ((with_reducible refine gate_callee (f := 10) rfl ?_); refine goesL_ (some 13) rfl rfl Tryd.func10 (by kernel_rfl) rfl #[] rfl (by (try simp only [List.map_toArray, List.map_cons, List.map_nil]); first | done | rfl | (simp only [List.length_drop, List.length_take]; rfl)) ?_; (with_reducible refine (fescuelaw07_alive.calls  t152 _ A2.out (ShTab.below HTS.out (by repeat (first | (with_reducible first | exact HB.out | apply below_alloc | apply pw_below_drewN | apply below_drew1 | refine below_set ?_ GE168.out | refine below_set ?_ GE176.out) | exact HB.out)))).mono ?_); rintro e w4 ⟨rfl, hb⟩; refine ⟨_, rfl, ?_⟩; have n0_ := Aside0.mk (below_step (by repeat (first | (with_reducible first | exact HB.out | apply below_alloc | apply pw_below_drewN | apply below_drew1) | exact HB.out)) hb); clear HB; have HB := n0_; clear n0_; (try clear hb); (try clear hb2); (try clear hk); (try clear hi)))
  (try simp only [Act.put, List.setIfInBounds_toArray, List.set_cons_zero, List.set_cons_succ])
  go_cut [20] (fun v20 wc => ∃ (kq : Nat) (x20_2 : Bool), v20 = .bool x20_2 ∧ Aside0 (fescuelaw07_ReadNoise.j0 kq a0 t152 x20_2 = some r) ∧ Aside0 (kq ≤ k) ∧ Aside0 (Below w.heap.size w wc))
  case first =>
    have H := HC3.out
    clear HC3
    by_cases c5 : (a0.size : Int) > 3000
    · rw [if_pos c5] at H
      have c5b0 : decide (3000 < (a0.size : Int)) = true := decide_eq_true c5
      have c5b1 : decide (3000 < a0.size) = true := decide_eq_true (by omega)
      clear c5
      (first | rw [c5b0] | (simp only [i64_w, i32_w]; rw [c5b0]) | skip)
      have H' := Aside0.mk H
      clear H
      go_wp2
      go_meet
      case rel => exact ⟨_, (true), (by first | rfl | (simp; done) | (simp [*]; done)), H', ⟨by first | omega | exact Nat.le_refl _⟩, ⟨by repeat (first | (with_reducible first | exact HB.out | apply below_alloc | apply pw_below_drewN | apply below_drew1) | exact HB.out)⟩⟩
    · rw [if_neg c5] at H
      have c5b0 : decide (3000 < (a0.size : Int)) = false := decide_eq_false c5
      have c5b1 : decide (3000 < a0.size) = false := decide_eq_false (by omega)
      clear c5
      (first | rw [c5b0] | (simp only [i64_w, i32_w]; rw [c5b0]) | skip)
      have H' := Aside0.mk H
      clear H
      go_wp2
      go_meet
      case rel => exact ⟨_, (!t152), (by first | rfl | (simp; done) | (simp [*]; done)), H', ⟨by first | omega | exact Nat.le_refl _⟩, ⟨by repeat (first | (with_reducible first | exact HB.out | apply below_alloc | apply pw_below_drewN | apply below_drew1) | exact HB.out)⟩⟩
  case rest =>
    clear HC3
    try clear c1
    try clear p2
    try clear c5
    try clear c5b0
    try clear c5b1
    obtain ⟨kq, x20_2, rfl, HA, HJ2, HB⟩ := hcut
    cases kq with
    | zero => exact absurd HA.out (by simp [fescuelaw07_ReadNoise.j0])
    | succ kj2 =>
      have H := HA.out
      clear HA
      simp only [fescuelaw07_ReadNoise.j0] at H
      by_cases c6 : x20_2 = true
      · subst c6
        have H1 : (some t152) = some r := by rw [if_pos rfl] at H; exact H
        clear H
        have H := H1
        clear H1
        obtain rfl := Option.some.inj H
        go_wp2
        go_ret
        exact ⟨by first | rfl | (simp [errW_none, errW_some] <;> rfl) | (simp [*, errW_none, errW_some] <;> rfl), by repeat (first | (with_reducible first | exact HB.out | apply below_alloc | apply pw_below_drewN | apply below_drew1) | exact HB.out)⟩
      · replace c6 := Bool.eq_false_iff.mpr c6
        subst c6
        have H1 : ((lex_Lines.f a0).bind fun bt153 => (if bt153.2 = 0 then (fescuelaw07_ReadNoise.l0 kj2 a0 t152 bt153.1 (⟨#[35, 32, 10]⟩ : ByteArray) 0) else (if t152 = true then ((fescuelaw07_odd.f a0 bt153.2).bind fun t157 => (some t157)) else (some false)))) = some r := by rw [if_neg (show ¬ (false = true) by decide)] at H; exact H
        clear H
        have H := H1
        clear H1
        replace H := Option.bind_eq_some_iff.mp H
        obtain ⟨⟨t153, t154⟩, A70, H⟩ := H
        replace H : (if t154 = 0 then (fescuelaw07_ReadNoise.l0 kj2 a0 t152 t153 (⟨#[35, 32, 10]⟩ : ByteArray) 0) else (if t152 = true then ((fescuelaw07_odd.f a0 t154).bind fun t157 => (some t157)) else (some false))) = some r := H
        have A7 := Aside0.mk A70
        clear A70
        by_cases c8 : t154 = 0
        · rw [if_pos c8] at H
          have c8b0 : (t154 == 0) = true := beq_iff_eq.mpr c8
          have c8b1 : (t154 != 0) = false := bne_eq_false_iff_eq.mpr c8
          clear c8
          have H' := Aside0.mk H
          clear H
          go_wp2_with (first | ((with_reducible refine gate_callee (f := 11) rfl ?_); refine goesL_ (some 24) rfl rfl Tryd.func11 (by kernel_rfl) rfl #[.string a0] rfl (by (try simp only [List.map_toArray, List.map_cons, List.map_nil]); first | done | rfl | (simp only [List.length_drop, List.length_take]; rfl)) ?_; (with_reducible refine (lex_Lines.calls a0 t153 t154 _ A7.out).mono ?_); rintro e w9 ⟨v155, rfl, ho0, hb⟩; refine ⟨_, rfl, ?_⟩; have n0_ := Aside0.mk (Kd.S_lower ho0 (below_size (by repeat (first | (with_reducible first | exact HB.out | apply below_alloc | apply pw_below_drewN | apply below_drew1) | exact HB.out)))); have n1_ := Aside0.mk (below_step (by repeat (first | (with_reducible first | exact HB.out | apply below_alloc | apply pw_below_drewN | apply below_drew1) | exact HB.out)) hb); clear HB; have HO156 := n0_; have HB := n1_; clear n0_ n1_; (try clear hb); (try clear hb2); (try clear hk); (try clear hi); (try clear ho0)))
          go_loopg [6, 7] kj2 (fun kq v6 v7 w' => ∃ (x6_2 : ByteArray) (x7_2 : Int), v6 = .string x6_2 ∧ v7 = .int .i64 x7_2 ∧ Aside0 (fescuelaw07_ReadNoise.l0 kq a0 t152 t153 x6_2 x7_2 = some r) ∧ Aside0 (kq ≤ kj2) ∧ Aside0 (Kd.S (Kd.slice 9 Kd.string) 51 w' w.heap.size (fun _ => True) v155 t153) ∧ Aside0 (Below w.heap.size w w'))
          case atStart => exact ⟨((⟨#[35, 32, 10]⟩ : ByteArray)), (0), (by first | rfl | (simp; done) | (simp [*]; done)), (by first | rfl | (simp; done) | (simp [*]; done)), H', ⟨Nat.le_refl _⟩, ⟨by (with_reducible repeat (first | apply Kd.S_alloc | apply Kd.S_drewN | apply Kd.S_drew)); exact HO156.out⟩, ⟨by repeat (first | (with_reducible first | exact HB.out | apply below_alloc | apply pw_below_drewN | apply below_drew1) | exact HB.out)⟩⟩
          case round =>
            clear H'
            try clear c1
            try clear p2
            try clear c5
            try clear c5b0
            try clear c5b1
            try clear c6
            try clear c8
            try clear c8b0
            try clear c8b1
            try clear p2
            obtain ⟨x6_2, x7_2, rfl, rfl, HA, HK2, HO_4, HB⟩ := hrel
            cases gk with
            | zero => exact absurd HA.out (by simp [fescuelaw07_ReadNoise.l0])
            | succ k2 =>
              have H := HA.out
              clear HA
              simp only [fescuelaw07_ReadNoise.l0] at H
              by_cases c10 : x7_2 < (t153.length : Int)
              · rw [if_pos c10] at H
                have c10b0 : decide (x7_2 < (t153.length : Int)) = true := decide_eq_true c10
                clear c10
                have H' := Aside0.mk H
                clear H
                obtain ⟨Ao11, co11, eo11⟩ := Kd.S_slice HO_4.out
                subst eo11
                go_wp2
                go_loopg [6, 8] k2 (fun kq v6 v8 w' => ∃ (x6_3 : ByteArray) (x8_3 : Int), v6 = .string x6_3 ∧ v8 = .int .i64 x8_3 ∧ Aside0 (fescuelaw07_ReadNoise.l1 kq a0 t152 t153 x6_3 x7_2 x8_3 = some r) ∧ Aside0 (kq ≤ k2) ∧ Aside0 (Kd.S (Kd.slice 9 Kd.string) 51 w' w.heap.size (fun _ => True) (.slice Ao11 t153.length co11) t153) ∧ Aside0 (Below w.heap.size w w'))
                case atStart => exact ⟨(x6_2), (0), (by first | rfl | (simp; done) | (simp [*]; done)), (by first | rfl | (simp; done) | (simp [*]; done)), H', ⟨Nat.le_refl _⟩, ⟨by (with_reducible repeat (first | apply Kd.S_alloc | apply Kd.S_drewN | apply Kd.S_drew)); exact HO_4.out⟩, ⟨by repeat (first | (with_reducible first | exact HB.out | apply below_alloc | apply pw_below_drewN | apply below_drew1) | exact HB.out)⟩⟩
                case round =>
                  clear H'
                  try clear c1
                  try clear p2
                  try clear c5
                  try clear c5b0
                  try clear c5b1
                  try clear c6
                  try clear c8
                  try clear c8b0
                  try clear c8b1
                  try clear c10
                  try clear c10b0
                  try clear c11
                  try clear p2
                  obtain ⟨x6_3, x8_3, rfl, rfl, HA, HK3, HO_4, HB⟩ := hrel
                  cases gk with
                  | zero => exact absurd HA.out (by simp [fescuelaw07_ReadNoise.l1])
                  | succ k3 =>
                    have H := HA.out
                    clear HA
                    simp only [fescuelaw07_ReadNoise.l1] at H
                    by_cases c12 : 0 ≤ x7_2
                    · rw [if_pos c12] at H
                      have c12b0 : decide (0 ≤ x7_2) = true := decide_eq_true c12
                      clear c12
                      by_cases c13 : x7_2 < (t153.length : Int)
                      · rw [if_pos c13] at H
                        have c13b0 : decide (x7_2 < (t153.length : Int)) = true := decide_eq_true c13
                        clear c13
                        by_cases c14 : x8_3 < ((rd_L14 t153 x7_2).length : Int)
                        · rw [if_pos c14] at H
                          have c14b0 : decide (x8_3 < ((rd_L14 t153 x7_2).length : Int)) = true := decide_eq_true c14
                          clear c14
                          by_cases c15 : x6_3.size + 2 ≤ 9223372036854775807
                          · rw [if_pos c15] at H
                            have c15b0 := eq_true c15
                            have c15b1 : decide (x6_3.size + 2 ≤ 9223372036854775807) = true := decide_eq_true c15
                            try have c15b2 : (9223372036854775807 < x6_3.size + 2) = False := eq_false (Nat.not_lt.2 c15)
                            by_cases c16 : 0 ≤ x8_3
                            · rw [if_pos c16] at H
                              have c16b0 : decide (0 ≤ x8_3) = true := decide_eq_true c16
                              clear c16
                              by_cases c17 : (x6_3 ++ (⟨#[32, 9]⟩ : ByteArray)).size + (rdOf ByteArray.empty (rd_L14 t153 x7_2) x8_3).size ≤ 9223372036854775807
                              · rw [if_pos c17] at H
                                have c17b0 := eq_true c17
                                have c17b1 : decide ((x6_3 ++ (⟨#[32, 9]⟩ : ByteArray)).size + (rdOf ByteArray.empty (rd_L14 t153 x7_2) x8_3).size ≤ 9223372036854775807) = true := decide_eq_true c17
                                try have c17b2 : (9223372036854775807 < (x6_3 ++ (⟨#[32, 9]⟩ : ByteArray)).size + (rdOf ByteArray.empty (rd_L14 t153 x7_2) x8_3).size) = False := eq_false (Nat.not_lt.2 c17)
                                try (have c17b3 := c17b2; (repeat rw [ByteArray.size_append] at c17b3); (repeat rw [show (⟨#[32, 9]⟩ : ByteArray).size = 2 from rfl] at c17b3))
                                have H' := Aside0.mk H
                                clear H
                                have p158 : 0 ≤ (x7_2 : Int) := of_decide_eq_true (by first | (with_reducible assumption) | assumption)
                                have q158 : x7_2 < (t153.length : Int) := of_decide_eq_true (by first | (with_reducible assumption) | assumption)
                                obtain ⟨ad158, A158_0, c158_0, e158, hx158_0, hl158_0, hi158_0⟩ := at_L14 (Kd.S_reads' HO_4.out).2.2 x7_2 p158 q158
                                cases e158
                                obtain ⟨ce158, hce158, hMe158, hcc158⟩ := Kd.S_get HO_4.out [] x7_2 p158 (by first | exact q158 | exact of_decide_eq_true (by first | (with_reducible assumption) | assumption) | (have e_ := (Kd.S_reads' HO_4.out).1; omega))
                                obtain ⟨ve158_0, rfl, ge158_0⟩ := hMe158
                                have hv158_0 := hcc158 0 _ rfl
                                rw [Nat.add_zero, show ((Kd.slice 9 Kd.string)).sz = 1 from rfl, Nat.mul_one] at hv158_0
                                replace hv158_0 := Option.some.inj (hv158_0.symm.trans hx158_0)
                                rw [hv158_0] at ge158_0
                                have HL158_0 := Aside0.mk (show Kd.R Kd.string 9 _ _ _ _ (rd_L14 t153 x7_2) from ge158_0)
                                clear hv158_0 ge158_0
                                clear hcc158 hce158
                                have HR158_0 := Aside0.mk hi158_0
                                have HC158_0 := Aside0.mk hl158_0
                                clear hi158_0 hl158_0
                                replace p158 := eq_true p158
                                replace q158 := eq_true q158
                                have p159 : 0 ≤ (x7_2 : Int) := of_decide_eq_true (by first | (with_reducible assumption) | assumption)
                                have q159 : x7_2 < (t153.length : Int) := of_decide_eq_true (by first | (with_reducible assumption) | assumption)
                                obtain ⟨ad159, A159_0, c159_0, e159, hx159_0, hl159_0, hi159_0⟩ := at_L14 (Kd.S_reads' HO_4.out).2.2 x7_2 p159 q159
                                obtain rfl : ad158 = ad159 := (by injection e159)
                                obtain ⟨ce159, hce159, hMe159, hcc159⟩ := Kd.S_get HO_4.out [] x7_2 p159 (by first | exact q159 | exact of_decide_eq_true (by first | (with_reducible assumption) | assumption) | (have e_ := (Kd.S_reads' HO_4.out).1; omega))
                                obtain ⟨ve159_0, rfl, ge159_0⟩ := hMe159
                                have hv159_0 := hcc159 0 _ rfl
                                rw [Nat.add_zero, show ((Kd.slice 9 Kd.string)).sz = 1 from rfl, Nat.mul_one] at hv159_0
                                replace hv159_0 := Option.some.inj (hv159_0.symm.trans hx159_0)
                                rw [hv159_0] at ge159_0
                                have HL159_0 := Aside0.mk (show Kd.R Kd.string 9 _ _ _ _ (rd_L14 t153 x7_2) from ge159_0)
                                clear hv159_0 ge159_0
                                clear hcc159 hce159
                                have HR159_0 := Aside0.mk hi159_0
                                have HC159_0 := Aside0.mk hl159_0
                                clear hi159_0 hl159_0
                                replace p159 := eq_true p159
                                replace q159 := eq_true q159
                                have ea_ := Option.some.inj (hx158_0.symm.trans hx159_0)
                                injection ea_ with ea_ en_ ec_
                                subst ea_
                                subst ec_
                                clear en_
                                have p160 : 0 ≤ (x8_3 : Int) := of_decide_eq_true (by first | (with_reducible assumption) | assumption)
                                have q160 : x8_3 < ((rd_L14 t153 x7_2).length : Int) := of_decide_eq_true (by first | (with_reducible assumption) | assumption)
                                obtain ⟨ad160, e160, hx160_0⟩ := Kd.at_string (by repeat (first | (with_reducible exact HR159_0.out) | (with_reducible refine Kd.C_alloc ?_ _) | (with_reducible refine Kd.C_drewN ?_ _) | (with_reducible refine Kd.C_drew ?_) | exact HR159_0.out)) x8_3 p160 q160
                                cases e160
                                replace p160 := eq_true p160
                                replace q160 := eq_true q160
                                go_wp2
                                go_roundg k3
                                case measure => have := HJ2.out; have := HK2.out; have := HK3.out; omega
                                case rel => exact ⟨((x6_3 ++ (⟨#[32, 9]⟩ : ByteArray)) ++ (rdOf ByteArray.empty (rd_L14 t153 x7_2) x8_3)), (wrap64 (x8_3 + 1)), (by first | rfl | (simp; done) | (simp [*]; done)), (by first | rfl | (simp; done) | (simp [*]; done)), H', ⟨by have := HJ2.out; have := HK2.out; have := HK3.out; omega⟩, ⟨by (with_reducible repeat (first | apply Kd.S_alloc | apply Kd.S_drewN | apply Kd.S_drew)); exact HO_4.out⟩, ⟨by repeat (first | (with_reducible first | exact HB.out | apply below_alloc | apply pw_below_drewN | apply below_drew1) | exact HB.out)⟩⟩
                              · rw [if_neg c17] at H
                                exact absurd H (by simp)
                            · rw [if_neg c16] at H
                              exact absurd H (by simp)
                          · rw [if_neg c15] at H
                            exact absurd H (by simp)
                        · rw [if_neg c14] at H
                          have c14b0 : decide (x8_3 < ((rd_L14 t153 x7_2).length : Int)) = false := decide_eq_false c14
                          clear c14
                          by_cases c18 : x6_3.size + 7 ≤ 9223372036854775807
                          · rw [if_pos c18] at H
                            have c18b0 := eq_true c18
                            have c18b1 : decide (x6_3.size + 7 ≤ 9223372036854775807) = true := decide_eq_true c18
                            try have c18b2 : (9223372036854775807 < x6_3.size + 7) = False := eq_false (Nat.not_lt.2 c18)
                            have H' := Aside0.mk H
                            clear H
                            have p158 : 0 ≤ (x7_2 : Int) := of_decide_eq_true (by first | (with_reducible assumption) | assumption)
                            have q158 : x7_2 < (t153.length : Int) := of_decide_eq_true (by first | (with_reducible assumption) | assumption)
                            obtain ⟨ad158, A158_0, c158_0, e158, hx158_0, hl158_0, hi158_0⟩ := at_L14 (Kd.S_reads' HO_4.out).2.2 x7_2 p158 q158
                            cases e158
                            obtain ⟨ce158, hce158, hMe158, hcc158⟩ := Kd.S_get HO_4.out [] x7_2 p158 (by first | exact q158 | exact of_decide_eq_true (by first | (with_reducible assumption) | assumption) | (have e_ := (Kd.S_reads' HO_4.out).1; omega))
                            obtain ⟨ve158_0, rfl, ge158_0⟩ := hMe158
                            have hv158_0 := hcc158 0 _ rfl
                            rw [Nat.add_zero, show ((Kd.slice 9 Kd.string)).sz = 1 from rfl, Nat.mul_one] at hv158_0
                            replace hv158_0 := Option.some.inj (hv158_0.symm.trans hx158_0)
                            rw [hv158_0] at ge158_0
                            have HL158_0 := Aside0.mk (show Kd.R Kd.string 9 _ _ _ _ (rd_L14 t153 x7_2) from ge158_0)
                            clear hv158_0 ge158_0
                            clear hcc158 hce158
                            have HR158_0 := Aside0.mk hi158_0
                            have HC158_0 := Aside0.mk hl158_0
                            clear hi158_0 hl158_0
                            replace p158 := eq_true p158
                            replace q158 := eq_true q158
                            go_wp2
                            go_roundg k3
                            case measure => have := HJ2.out; have := HK2.out; have := HK3.out; omega
                            case rel => exact ⟨(x6_3 ++ (⟨#[35, 32, 114, 48, 13, 10, 10]⟩ : ByteArray)), (wrap64 (x7_2 + 1)), (by first | rfl | (simp; done) | (simp [*]; done)), (by first | rfl | (simp; done) | (simp [*]; done)), H', ⟨by have := HJ2.out; have := HK2.out; have := HK3.out; omega⟩, ⟨by (with_reducible repeat (first | apply Kd.S_alloc | apply Kd.S_drewN | apply Kd.S_drew)); exact HO_4.out⟩, ⟨by repeat (first | (with_reducible first | exact HB.out | apply below_alloc | apply pw_below_drewN | apply below_drew1) | exact HB.out)⟩⟩
                          · rw [if_neg c18] at H
                            exact absurd H (by simp)
                      · rw [if_neg c13] at H
                        exact absurd H (by simp)
                    · rw [if_neg c12] at H
                      exact absurd H (by simp)
              · rw [if_neg c10] at H
                have c10b0 : decide (x7_2 < (t153.length : Int)) = false := decide_eq_false c10
                clear c10
                by_cases c19 : (x6_2.size : Int) > 16384
                · rw [if_pos c19] at H
                  have c19b0 : decide (16384 < (x6_2.size : Int)) = true := decide_eq_true c19
                  have c19b1 : decide (16384 < x6_2.size) = true := decide_eq_true (by omega)
                  clear c19
                  obtain rfl := Option.some.inj H
                  obtain ⟨Ao20, co20, eo20⟩ := Kd.S_slice HO_4.out
                  subst eo20
                  go_wp2
                  go_ret
                  exact ⟨by first | rfl | (simp [errW_none, errW_some] <;> rfl) | (simp [*, errW_none, errW_some] <;> rfl), by repeat (first | (with_reducible first | exact HB.out | apply below_alloc | apply pw_below_drewN | apply below_drew1) | exact HB.out)⟩
                · rw [if_neg c19] at H
                  have c19b0 : decide (16384 < (x6_2.size : Int)) = false := decide_eq_false c19
                  have c19b1 : decide (16384 < x6_2.size) = false := decide_eq_false (by omega)
                  clear c19
                  replace H := Option.bind_eq_some_iff.mp H
                  obtain ⟨⟨t161, t164, t167⟩, A210, H⟩ := H
                  replace H : ((read_Read.f x6_2).bind fun bt169 => (if t152 = true then (if t167 = bt169.2.2 then ((fescueref06_Same.f k2 t161 t164 bt169.1 bt169.2.1).bind fun t177 => (some t177)) else (some false)) else (some false))) = some r := H
                  have A21 := Aside0.mk A210
                  clear A210
                  replace H := Option.bind_eq_some_iff.mp H
                  obtain ⟨⟨t169, t172, t175⟩, A220, H⟩ := H
                  replace H : (if t152 = true then (if t167 = t175 then ((fescueref06_Same.f k2 t161 t164 t169 t172).bind fun t177 => (some t177)) else (some false)) else (some false)) = some r := H
                  have A22 := Aside0.mk A220
                  clear A220
                  by_cases c23 : t152 = true
                  · subst c23
                    have H1 : (if t167 = t175 then ((fescueref06_Same.f k2 t161 t164 t169 t172).bind fun t177 => (some t177)) else (some false)) = some r := by rw [if_pos rfl] at H; exact H
                    clear H
                    have H := H1
                    clear H1
                    by_cases c24 : t167 = t175
                    · rw [if_pos c24] at H
                      have c24b0 : (t167 == t175) = true := beq_iff_eq.mpr c24
                      have c24b1 : (t167 != t175) = false := bne_eq_false_iff_eq.mpr c24
                      clear c24
                      replace H := Option.bind_eq_some_iff.mp H
                      obtain ⟨t177, A250, H⟩ := H
                      replace H : (some t177) = some r := H
                      have A25 := Aside0.mk A250
                      clear A250
                      obtain rfl := Option.some.inj H
                      obtain ⟨Ao26, co26, eo26⟩ := Kd.S_slice HO_4.out
                      subst eo26
                      go_wp2_with (first | ((with_reducible refine gate_callee (f := 7) rfl ?_); refine goesL_ (some 68) rfl rfl Tryd.func7 (by kernel_rfl) rfl #[.string a0] rfl (by (try simp only [List.map_toArray, List.map_cons, List.map_nil]); first | done | rfl | (simp only [List.length_drop, List.length_take]; rfl)) ?_; (with_reducible refine (read_Read.calls a0 t161 t164 t167 _ A21.out (ShTab.below HTS.out (by repeat (first | (with_reducible first | exact HB.out | apply below_alloc | apply pw_below_drewN | apply below_drew1 | refine below_set ?_ GE168.out | refine below_set ?_ GE176.out) | exact HB.out)))).mono ?_); rintro e w27 ⟨v162, v165, rfl, ho0, ho1, hb⟩; refine ⟨_, rfl, ?_⟩; have n0_ := Aside0.mk (Kd.S_below (by (with_reducible repeat (first | apply Kd.S_alloc | apply Kd.S_drewN | apply Kd.S_drew)); exact HO_4.out) hb); have n1_ := Aside0.mk (Kd.S_lower ho0 (below_size (by repeat (first | (with_reducible first | exact HB.out | apply below_alloc | apply pw_below_drewN | apply below_drew1) | exact HB.out)))); have n2_ := Aside0.mk (Kd.R_lower ho1 (below_size (by repeat (first | (with_reducible first | exact HB.out | apply below_alloc | apply pw_below_drewN | apply below_drew1) | exact HB.out)))); have n3_ := Aside0.mk (below_step (by repeat (first | (with_reducible first | exact HB.out | apply below_alloc | apply pw_below_drewN | apply below_drew1) | exact HB.out)) hb); clear HO_4; clear HB; have HO_4 := n0_; have HO163 := n1_; have HO166 := n2_; have HB := n3_; clear n0_ n1_ n2_ n3_; (try clear hb); (try clear hb2); (try clear hk); (try clear hi); (try clear ho0); (try clear ho1)) | ((with_reducible refine gate_dst (N := 9) rfl ?_); refine box_event ?hg (N := 9) ?hd (cs := #[.slice none 0 0, .slice none 0 0]) (t := 25) ?hr ?_; (case hd => rfl); (case hg => rfl); (case hr => first | (go_simp; done) | (go_simp; rfl)); intro gb168 hg w28 hbox hb; have n0_ := Aside0.mk (Kd.S_below (by (with_reducible repeat (first | apply Kd.S_alloc | apply Kd.S_drewN | apply Kd.S_drew)); exact HO_4.out) hb); have n1_ := Aside0.mk (Kd.S_below (by (with_reducible repeat (first | apply Kd.S_alloc | apply Kd.S_drewN | apply Kd.S_drew)); exact HO163.out) hb); have n2_ := Aside0.mk (Kd.R_below (by (with_reducible repeat (first | apply Kd.R_alloc | apply Kd.R_drewN | apply Kd.R_drew)); exact HO166.out) hb); have n3_ := Aside0.mk (below_step (by repeat (first | (with_reducible first | exact HB.out | apply below_alloc | apply pw_below_drewN | apply below_drew1) | exact HB.out)) hb); have n4_ := Aside0.mk (hbox); have n5_ := Aside0.mk ((by rw [hg]; exact (below_size (by repeat (first | (with_reducible first | exact HB.out | apply below_alloc | apply pw_below_drewN | apply below_drew1) | exact HB.out))) : w.heap.size ≤ gb168)); have n6_ := Aside0.mk ((by rw [hg]; exact (below_size (by repeat (first | (with_reducible first | exact HB.out | apply below_alloc | apply pw_below_drewN | apply below_drew1) | exact HB.out))) : w.heap.size ≤ gb168)); clear HO_4; clear HO163; clear HO166; clear HB; have HO_4 := n0_; have HO163 := n1_; have HO166 := n2_; have HB := n3_; have BK168 := n4_; have GW168 := n5_; have GE168 := n6_; clear n0_ n1_ n2_ n3_ n4_ n5_ n6_; clear hb hbox hg; obtain ⟨Ao29, co29, eo29⟩ := Kd.S_slice HO163.out; subst eo29; have hcz30_0 : w28.cell? ⟨gb168, 0, none⟩ = some (.slice none 0 0) := (blk_cell BK168.out 0).trans rfl; have hcz30_1 : w28.cell? ⟨gb168, 1, none⟩ = some (.slice none 0 0) := (blk_cell BK168.out 1).trans rfl; have hfz30_0 := blk_frozen BK168.out 0; have hfz30_1 := blk_frozen BK168.out 1; obtain ⟨Ao31, co31, eo31⟩ := Kd.R_slice HO166.out; subst eo31) | ((with_reducible refine gate_callee (f := 7) rfl ?_); refine goesL_ (some 73) rfl rfl Tryd.func7 (by kernel_rfl) rfl #[.string x6_2] rfl (by (try simp only [List.map_toArray, List.map_cons, List.map_nil]); first | done | rfl | (simp only [List.length_drop, List.length_take]; rfl)) ?_; (with_reducible refine (read_Read.calls x6_2 t169 t172 t175 _ A22.out (ShTab.below HTS.out (by repeat (first | (with_reducible first | exact HB.out | apply below_alloc | apply pw_below_drewN | apply below_drew1 | refine below_set ?_ GE168.out | refine below_set ?_ GE176.out) | exact HB.out)))).mono ?_); rintro e w32 ⟨v170, v173, rfl, ho0, ho1, hb⟩; refine ⟨_, rfl, ?_⟩; have n0_ := Aside0.mk (Kd.S_below (by (with_reducible repeat (first | apply Kd.S_alloc | apply Kd.S_drewN | apply Kd.S_drew)); exact (Kd.S_mono (Kd.S_far (p := ⟨gb168, 1, none⟩) (Kd.S_far (p := ⟨gb168, 0, none⟩) (Kd.S_types HO_4.out BK168.out (by decide)) (fun _ hk => hk.2) (.slice Ao29 t161.length co29)) (fun _ hk => hk.2) (.slice Ao31 t164.length co31)) (fun _ h_ => h_.1))) hb); have n1_ := Aside0.mk (Kd.S_elder' (by (with_reducible repeat (first | apply Kd.S_alloc | apply Kd.S_drewN | apply Kd.S_drew)); exact (Kd.S_mono (Kd.S_far (p := ⟨gb168, 1, none⟩) (Kd.S_far (p := ⟨gb168, 0, none⟩) (Kd.S_types HO163.out BK168.out (by decide)) (fun _ hk => hk.2) (.slice Ao29 t161.length co29)) (fun _ hk => hk.2) (.slice Ao31 t164.length co31)) (fun _ h_ => h_.1))) (Kd.S_base ho0) hb); have n2_ := Aside0.mk (Kd.R_elder' (by (with_reducible repeat (first | apply Kd.R_alloc | apply Kd.R_drewN | apply Kd.R_drew)); exact (Kd.R_mono (Kd.R_far (p := ⟨gb168, 1, none⟩) (Kd.R_far (p := ⟨gb168, 0, none⟩) (Kd.R_types HO166.out BK168.out (by decide)) (fun _ hk => hk.2) (.slice Ao29 t161.length co29)) (fun _ hk => hk.2) (.slice Ao31 t164.length co31)) (fun _ h_ => h_.1))) (Kd.R_base ho1) hb); have n3_ := Aside0.mk (Kd.S_lower (Kd.S_new' ho0 (Kd.S_lt (by (with_reducible repeat (first | apply Kd.S_alloc | apply Kd.S_drewN | apply Kd.S_drew)); exact (Kd.S_mono (Kd.S_far (p := ⟨gb168, 1, none⟩) (Kd.S_far (p := ⟨gb168, 0, none⟩) (Kd.S_types HO163.out BK168.out (by decide)) (fun _ hk => hk.2) (.slice Ao29 t161.length co29)) (fun _ hk => hk.2) (.slice Ao31 t164.length co31)) (fun _ h_ => h_.1))))) (below_size (by repeat (first | (with_reducible first | exact HB.out | apply below_alloc | apply pw_below_drewN | apply below_drew1 | refine below_set ?_ GE168.out) | exact HB.out)))); have n4_ := Aside0.mk (Kd.R_lower (Kd.R_new' ho1 (Kd.R_lt (by (with_reducible repeat (first | apply Kd.R_alloc | apply Kd.R_drewN | apply Kd.R_drew)); exact (Kd.R_mono (Kd.R_far (p := ⟨gb168, 1, none⟩) (Kd.R_far (p := ⟨gb168, 0, none⟩) (Kd.R_types HO166.out BK168.out (by decide)) (fun _ hk => hk.2) (.slice Ao29 t161.length co29)) (fun _ hk => hk.2) (.slice Ao31 t164.length co31)) (fun _ h_ => h_.1))))) (below_size (by repeat (first | (with_reducible first | exact HB.out | apply below_alloc | apply pw_below_drewN | apply below_drew1 | refine below_set ?_ GE168.out) | exact HB.out)))); have n5_ := Aside0.mk (blk_below (g := gb168) (o := .cells #[.slice Ao29 t161.length co29, .slice Ao31 t164.length co31] 25 (0, 0)) (by (with_reducible repeat (first | refine blk_drewN ?_ _ | refine blk_drew ?_ | refine blk_alloc ?_ _)); refine blk_put (cs := #[.slice Ao29 t161.length co29, .slice none 0 0]) ?_ 1 _ rfl; (with_reducible repeat (first | refine blk_drewN ?_ _ | refine blk_drew ?_ | refine blk_alloc ?_ _)); refine blk_put (cs := #[.slice none 0 0, .slice none 0 0]) ?_ 0 _ rfl; (with_reducible repeat (first | refine blk_drewN ?_ _ | refine blk_drew ?_ | refine blk_alloc ?_ _)); exact BK168.out) hb); have n6_ := Aside0.mk (below_step (by repeat (first | (with_reducible first | exact HB.out | apply below_alloc | apply pw_below_drewN | apply below_drew1 | refine below_set ?_ GE168.out) | exact HB.out)) hb); clear HO_4; clear HO163; clear HO166; clear BK168; clear HB; have HO_4 := n0_; have HO163 := n1_; have HO166 := n2_; have HO171 := n3_; have HO174 := n4_; have BK168 := n5_; have HB := n6_; clear n0_ n1_ n2_ n3_ n4_ n5_ n6_; (try clear hb); (try clear hb2); (try clear hk); (try clear hi); (try clear ho0); (try clear ho1)) | ((with_reducible refine gate_dst (N := 11) rfl ?_); refine box_event ?hg (N := 11) ?hd (cs := #[.slice none 0 0, .slice none 0 0]) (t := 25) ?hr ?_; (case hd => rfl); (case hg => rfl); (case hr => first | (go_simp; done) | (go_simp; rfl)); intro gb176 hg w33 hbox hb; have n0_ := Aside0.mk (Kd.S_below (by (with_reducible repeat (first | apply Kd.S_alloc | apply Kd.S_drewN | apply Kd.S_drew)); exact HO_4.out) hb); have n1_ := Aside0.mk (Kd.S_below (by (with_reducible repeat (first | apply Kd.S_alloc | apply Kd.S_drewN | apply Kd.S_drew)); exact HO163.out) hb); have n2_ := Aside0.mk (Kd.R_below (by (with_reducible repeat (first | apply Kd.R_alloc | apply Kd.R_drewN | apply Kd.R_drew)); exact HO166.out) hb); have n3_ := Aside0.mk (Kd.S_below (by (with_reducible repeat (first | apply Kd.S_alloc | apply Kd.S_drewN | apply Kd.S_drew)); exact HO171.out) hb); have n4_ := Aside0.mk (Kd.R_below (by (with_reducible repeat (first | apply Kd.R_alloc | apply Kd.R_drewN | apply Kd.R_drew)); exact HO174.out) hb); have n5_ := Aside0.mk (blk_below (g := gb168) (o := .cells #[.slice Ao29 t161.length co29, .slice Ao31 t164.length co31] 25 (0, 0)) (by (with_reducible repeat (first | refine blk_drewN ?_ _ | refine blk_drew ?_ | refine blk_alloc ?_ _)); exact BK168.out) hb); have n6_ := Aside0.mk (below_step (by repeat (first | (with_reducible first | exact HB.out | apply below_alloc | apply pw_below_drewN | apply below_drew1 | refine below_set ?_ GE168.out) | exact HB.out)) hb); have n7_ := Aside0.mk (hbox); have n8_ := Aside0.mk ((by rw [hg]; exact (below_size (by repeat (first | (with_reducible first | exact HB.out | apply below_alloc | apply pw_below_drewN | apply below_drew1 | refine below_set ?_ GE168.out) | exact HB.out))) : w.heap.size ≤ gb176)); have n9_ := Aside0.mk ((by rw [hg]; exact (below_size (by repeat (first | (with_reducible first | exact HB.out | apply below_alloc | apply pw_below_drewN | apply below_drew1 | refine below_set ?_ GE168.out) | exact HB.out))) : w.heap.size ≤ gb176)); have n10_ := Aside0.mk ((by rw [hg]; exact Nat.ne_of_lt (blk_lt (g := gb168) (o := .cells #[.slice Ao29 t161.length co29, .slice Ao31 t164.length co31] 25 (0, 0)) (by (with_reducible repeat (first | refine blk_drewN ?_ _ | refine blk_drew ?_ | refine blk_alloc ?_ _)); exact BK168.out)) : gb168 ≠ gb176)); have n11_ := Aside0.mk ((by rw [hg]; exact Nat.ne_of_gt (blk_lt (g := gb168) (o := .cells #[.slice Ao29 t161.length co29, .slice Ao31 t164.length co31] 25 (0, 0)) (by (with_reducible repeat (first | refine blk_drewN ?_ _ | refine blk_drew ?_ | refine blk_alloc ?_ _)); exact BK168.out)) : gb176 ≠ gb168)); clear HO_4; clear HO163; clear HO166; clear HO171; clear HO174; clear BK168; clear HB; have HO_4 := n0_; have HO163 := n1_; have HO166 := n2_; have HO171 := n3_; have HO174 := n4_; have BK168 := n5_; have HB := n6_; have BK176 := n7_; have GW176 := n8_; have GE176 := n9_; have NB168_176 := n10_; have NB176_168 := n11_; clear n0_ n1_ n2_ n3_ n4_ n5_ n6_ n7_ n8_ n9_ n10_ n11_; clear hb hbox hg; obtain ⟨Ao34, co34, eo34⟩ := Kd.S_slice HO171.out; subst eo34; have hnb35 := NB176_168.out; have hnc35 := NB168_176.out; have hcz36_0 : w33.cell? ⟨gb176, 0, none⟩ = some (.slice none 0 0) := (blk_cell BK176.out 0).trans rfl; have hcz36_1 : w33.cell? ⟨gb176, 1, none⟩ = some (.slice none 0 0) := (blk_cell BK176.out 1).trans rfl; have hfz36_0 := blk_frozen BK176.out 0; have hfz36_1 := blk_frozen BK176.out 1; obtain ⟨Ao37, co37, eo37⟩ := Kd.R_slice HO174.out; subst eo37; have hcz38_0 : w33.cell? ⟨gb168, 0, none⟩ = some (.slice Ao29 t161.length co29) := (blk_cell BK168.out 0).trans rfl; have hcz38_1 : w33.cell? ⟨gb168, 1, none⟩ = some (.slice Ao31 t164.length co31) := (blk_cell BK168.out 1).trans rfl; have hfz38_0 := blk_frozen BK168.out 0; have hfz38_1 := blk_frozen BK168.out 1) | (go_at_call 13; (with_reducible refine (fescueref06_Same.calls k2 _ _ t161 _ _ t164 _ _ t169 _ _ t172 t177 _ ?side1 ?side2 ?side3 ?side4 ?side5 ?side6 ?side7 ?side8 A25.out).mono ?_); (case side1 => refine (Kd.S_reads' (e := 41) (base := w.heap.size) (ok := fun k_ => (True ∧ some k_ ≠ (.slice Ao34 t169.length co34 : Value).ownBlock)) (n := t161.length) (c := co29) ?_).2.2; exact (by (with_reducible repeat (first | apply Kd.S_alloc | apply Kd.S_drewN | apply Kd.S_drew)); exact (Kd.S_mono (Kd.S_far (p := ⟨gb176, 1, none⟩) (Kd.S_far (p := ⟨gb176, 0, none⟩) (Kd.S_types HO163.out BK176.out (by decide)) (fun _ hk => hk.2) (.slice Ao34 t169.length co34)) (fun _ hk => hk.2) (.slice Ao37 t172.length co37)) (fun _ h_ => h_.1)))); (case side2 => exact (Kd.S_reads' HO163.out).2.1); (case side3 => refine (Kd.R_reads' (e := 31) (base := w.heap.size) (ok := fun k_ => (True ∧ some k_ ≠ (.slice Ao37 t172.length co37 : Value).ownBlock)) (n := t164.length) (c := co31) ?_).2.2; exact (by (with_reducible repeat (first | apply Kd.R_alloc | apply Kd.R_drewN | apply Kd.R_drew)); exact (Kd.R_mono (Kd.R_far (p := ⟨gb176, 1, none⟩) (Kd.R_far (p := ⟨gb176, 0, none⟩) (Kd.R_types HO166.out BK176.out (by decide)) (fun _ hk => hk.2) (.slice Ao34 t169.length co34)) (fun _ hk => hk.2) (.slice Ao37 t172.length co37)) (fun _ h_ => h_.1)))); (case side4 => exact (Kd.R_reads' HO166.out).2.1); (case side5 => refine (Kd.S_reads' (e := 41) (base := w.heap.size) (ok := fun k_ => (True ∧ some k_ ≠ (.slice Ao29 t161.length co29 : Value).ownBlock)) (n := t169.length) (c := co34) ?_).2.2; exact (by (with_reducible repeat (first | apply Kd.S_alloc | apply Kd.S_drewN | apply Kd.S_drew)); exact (Kd.S_mono (Kd.S_far (p := ⟨gb176, 1, none⟩) (Kd.S_far (p := ⟨gb176, 0, none⟩) (Kd.S_types HO171.out BK176.out (by decide)) (fun _ hk => hk.2) (.slice Ao34 t169.length co34)) (fun _ hk => hk.2) (.slice Ao37 t172.length co37)) (fun _ h_ => h_.1)))); (case side6 => exact (Kd.S_reads' HO171.out).2.1); (case side7 => refine (Kd.R_reads' (e := 31) (base := w.heap.size) (ok := fun k_ => (True ∧ some k_ ≠ (.slice Ao31 t164.length co31 : Value).ownBlock)) (n := t172.length) (c := co37) ?_).2.2; exact (by (with_reducible repeat (first | apply Kd.R_alloc | apply Kd.R_drewN | apply Kd.R_drew)); exact (Kd.R_mono (Kd.R_far (p := ⟨gb176, 1, none⟩) (Kd.R_far (p := ⟨gb176, 0, none⟩) (Kd.R_types HO174.out BK176.out (by decide)) (fun _ hk => hk.2) (.slice Ao34 t169.length co34)) (fun _ hk => hk.2) (.slice Ao37 t172.length co37)) (fun _ h_ => h_.1)))); (case side8 => exact (Kd.R_reads' HO174.out).2.1); rintro e w39 ⟨rfl, hb⟩; have n0_ := Aside0.mk (Kd.S_below (by (with_reducible repeat (first | apply Kd.S_alloc | apply Kd.S_drewN | apply Kd.S_drew)); exact (Kd.S_mono (Kd.S_far (p := ⟨gb176, 1, none⟩) (Kd.S_far (p := ⟨gb176, 0, none⟩) (Kd.S_types HO_4.out BK176.out (by decide)) (fun _ hk => hk.2) (.slice Ao34 t169.length co34)) (fun _ hk => hk.2) (.slice Ao37 t172.length co37)) (fun _ h_ => h_.1))) hb); have n1_ := Aside0.mk (Kd.S_below (by (with_reducible repeat (first | apply Kd.S_alloc | apply Kd.S_drewN | apply Kd.S_drew)); exact (Kd.S_mono (Kd.S_far (p := ⟨gb176, 1, none⟩) (Kd.S_far (p := ⟨gb176, 0, none⟩) (Kd.S_types HO163.out BK176.out (by decide)) (fun _ hk => hk.2) (.slice Ao34 t169.length co34)) (fun _ hk => hk.2) (.slice Ao37 t172.length co37)) (fun _ h_ => h_.1))) hb); have n2_ := Aside0.mk (Kd.R_below (by (with_reducible repeat (first | apply Kd.R_alloc | apply Kd.R_drewN | apply Kd.R_drew)); exact (Kd.R_mono (Kd.R_far (p := ⟨gb176, 1, none⟩) (Kd.R_far (p := ⟨gb176, 0, none⟩) (Kd.R_types HO166.out BK176.out (by decide)) (fun _ hk => hk.2) (.slice Ao34 t169.length co34)) (fun _ hk => hk.2) (.slice Ao37 t172.length co37)) (fun _ h_ => h_.1))) hb); have n3_ := Aside0.mk (Kd.S_below (by (with_reducible repeat (first | apply Kd.S_alloc | apply Kd.S_drewN | apply Kd.S_drew)); exact (Kd.S_mono (Kd.S_far (p := ⟨gb176, 1, none⟩) (Kd.S_far (p := ⟨gb176, 0, none⟩) (Kd.S_types HO171.out BK176.out (by decide)) (fun _ hk => hk.2) (.slice Ao34 t169.length co34)) (fun _ hk => hk.2) (.slice Ao37 t172.length co37)) (fun _ h_ => h_.1))) hb); have n4_ := Aside0.mk (Kd.R_below (by (with_reducible repeat (first | apply Kd.R_alloc | apply Kd.R_drewN | apply Kd.R_drew)); exact (Kd.R_mono (Kd.R_far (p := ⟨gb176, 1, none⟩) (Kd.R_far (p := ⟨gb176, 0, none⟩) (Kd.R_types HO174.out BK176.out (by decide)) (fun _ hk => hk.2) (.slice Ao34 t169.length co34)) (fun _ hk => hk.2) (.slice Ao37 t172.length co37)) (fun _ h_ => h_.1))) hb); have n5_ := Aside0.mk (blk_below (g := gb168) (o := .cells #[.slice Ao29 t161.length co29, .slice Ao31 t164.length co31] 25 (0, 0)) (by (with_reducible repeat (first | refine blk_drewN ?_ _ | refine blk_drew ?_ | refine blk_alloc ?_ _)); refine blk_far ?_ NB168_176.out _; (with_reducible repeat (first | refine blk_drewN ?_ _ | refine blk_drew ?_ | refine blk_alloc ?_ _)); refine blk_far ?_ NB168_176.out _; (with_reducible repeat (first | refine blk_drewN ?_ _ | refine blk_drew ?_ | refine blk_alloc ?_ _)); exact BK168.out) hb); have n6_ := Aside0.mk (blk_below (g := gb176) (o := .cells #[.slice Ao34 t169.length co34, .slice Ao37 t172.length co37] 25 (0, 0)) (by (with_reducible repeat (first | refine blk_drewN ?_ _ | refine blk_drew ?_ | refine blk_alloc ?_ _)); refine blk_put (cs := #[.slice Ao34 t169.length co34, .slice none 0 0]) ?_ 1 _ rfl; (with_reducible repeat (first | refine blk_drewN ?_ _ | refine blk_drew ?_ | refine blk_alloc ?_ _)); refine blk_put (cs := #[.slice none 0 0, .slice none 0 0]) ?_ 0 _ rfl; (with_reducible repeat (first | refine blk_drewN ?_ _ | refine blk_drew ?_ | refine blk_alloc ?_ _)); exact BK176.out) hb); have n7_ := Aside0.mk (below_step (by repeat (first | (with_reducible first | exact HB.out | apply below_alloc | apply pw_below_drewN | apply below_drew1 | refine below_set ?_ GE168.out | refine below_set ?_ GE176.out) | exact HB.out)) hb); clear HO_4; clear HO163; clear HO166; clear HO171; clear HO174; clear BK168; clear BK176; clear HB; have HO_4 := n0_; have HO163 := n1_; have HO166 := n2_; have HO171 := n3_; have HO174 := n4_; have BK168 := n5_; have BK176 := n6_; have HB := n7_; clear n0_ n1_ n2_ n3_ n4_ n5_ n6_ n7_; (try clear hb); (try clear hb2); (try clear hk); (try clear hi)))
                      go_ret
                      exact ⟨by first | rfl | (simp [errW_none, errW_some] <;> rfl) | (simp [*, errW_none, errW_some] <;> rfl), by repeat (first | (with_reducible first | exact HB.out | apply below_alloc | apply pw_below_drewN | apply below_drew1 | refine below_set ?_ GE168.out | refine below_set ?_ GE176.out) | exact HB.out)⟩
                    · rw [if_neg c24] at H
                      have c24b0 : (t167 == t175) = false := beq_eq_false_iff_ne.mpr c24
                      have c24b1 : (t167 != t175) = true := bne_iff_ne.mpr c24
                      obtain rfl := Option.some.inj H
                      obtain ⟨Ao40, co40, eo40⟩ := Kd.S_slice HO_4.out
                      subst eo40
                      go_wp2_with (first | ((with_reducible refine gate_callee (f := 7) rfl ?_); refine goesL_ (some 68) rfl rfl Tryd.func7 (by kernel_rfl) rfl #[.string a0] rfl (by (try simp only [List.map_toArray, List.map_cons, List.map_nil]); first | done | rfl | (simp only [List.length_drop, List.length_take]; rfl)) ?_; (with_reducible refine (read_Read.calls a0 t161 t164 t167 _ A21.out (ShTab.below HTS.out (by repeat (first | (with_reducible first | exact HB.out | apply below_alloc | apply pw_below_drewN | apply below_drew1 | refine below_set ?_ GE168.out | refine below_set ?_ GE176.out) | exact HB.out)))).mono ?_); rintro e w41 ⟨v162, v165, rfl, ho0, ho1, hb⟩; refine ⟨_, rfl, ?_⟩; have n0_ := Aside0.mk (Kd.S_below (by (with_reducible repeat (first | apply Kd.S_alloc | apply Kd.S_drewN | apply Kd.S_drew)); exact HO_4.out) hb); have n1_ := Aside0.mk (Kd.S_lower ho0 (below_size (by repeat (first | (with_reducible first | exact HB.out | apply below_alloc | apply pw_below_drewN | apply below_drew1) | exact HB.out)))); have n2_ := Aside0.mk (Kd.R_lower ho1 (below_size (by repeat (first | (with_reducible first | exact HB.out | apply below_alloc | apply pw_below_drewN | apply below_drew1) | exact HB.out)))); have n3_ := Aside0.mk (below_step (by repeat (first | (with_reducible first | exact HB.out | apply below_alloc | apply pw_below_drewN | apply below_drew1) | exact HB.out)) hb); clear HO_4; clear HB; have HO_4 := n0_; have HO163 := n1_; have HO166 := n2_; have HB := n3_; clear n0_ n1_ n2_ n3_; (try clear hb); (try clear hb2); (try clear hk); (try clear hi); (try clear ho0); (try clear ho1)) | ((with_reducible refine gate_dst (N := 9) rfl ?_); refine box_event ?hg (N := 9) ?hd (cs := #[.slice none 0 0, .slice none 0 0]) (t := 25) ?hr ?_; (case hd => rfl); (case hg => rfl); (case hr => first | (go_simp; done) | (go_simp; rfl)); intro gb168 hg w42 hbox hb; have n0_ := Aside0.mk (Kd.S_below (by (with_reducible repeat (first | apply Kd.S_alloc | apply Kd.S_drewN | apply Kd.S_drew)); exact HO_4.out) hb); have n1_ := Aside0.mk (Kd.S_below (by (with_reducible repeat (first | apply Kd.S_alloc | apply Kd.S_drewN | apply Kd.S_drew)); exact HO163.out) hb); have n2_ := Aside0.mk (Kd.R_below (by (with_reducible repeat (first | apply Kd.R_alloc | apply Kd.R_drewN | apply Kd.R_drew)); exact HO166.out) hb); have n3_ := Aside0.mk (below_step (by repeat (first | (with_reducible first | exact HB.out | apply below_alloc | apply pw_below_drewN | apply below_drew1) | exact HB.out)) hb); have n4_ := Aside0.mk (hbox); have n5_ := Aside0.mk ((by rw [hg]; exact (below_size (by repeat (first | (with_reducible first | exact HB.out | apply below_alloc | apply pw_below_drewN | apply below_drew1) | exact HB.out))) : w.heap.size ≤ gb168)); have n6_ := Aside0.mk ((by rw [hg]; exact (below_size (by repeat (first | (with_reducible first | exact HB.out | apply below_alloc | apply pw_below_drewN | apply below_drew1) | exact HB.out))) : w.heap.size ≤ gb168)); clear HO_4; clear HO163; clear HO166; clear HB; have HO_4 := n0_; have HO163 := n1_; have HO166 := n2_; have HB := n3_; have BK168 := n4_; have GW168 := n5_; have GE168 := n6_; clear n0_ n1_ n2_ n3_ n4_ n5_ n6_; clear hb hbox hg; obtain ⟨Ao43, co43, eo43⟩ := Kd.S_slice HO163.out; subst eo43; have hcz44_0 : w42.cell? ⟨gb168, 0, none⟩ = some (.slice none 0 0) := (blk_cell BK168.out 0).trans rfl; have hcz44_1 : w42.cell? ⟨gb168, 1, none⟩ = some (.slice none 0 0) := (blk_cell BK168.out 1).trans rfl; have hfz44_0 := blk_frozen BK168.out 0; have hfz44_1 := blk_frozen BK168.out 1; obtain ⟨Ao45, co45, eo45⟩ := Kd.R_slice HO166.out; subst eo45) | ((with_reducible refine gate_callee (f := 7) rfl ?_); refine goesL_ (some 73) rfl rfl Tryd.func7 (by kernel_rfl) rfl #[.string x6_2] rfl (by (try simp only [List.map_toArray, List.map_cons, List.map_nil]); first | done | rfl | (simp only [List.length_drop, List.length_take]; rfl)) ?_; (with_reducible refine (read_Read.calls x6_2 t169 t172 t175 _ A22.out (ShTab.below HTS.out (by repeat (first | (with_reducible first | exact HB.out | apply below_alloc | apply pw_below_drewN | apply below_drew1 | refine below_set ?_ GE168.out | refine below_set ?_ GE176.out) | exact HB.out)))).mono ?_); rintro e w46 ⟨v170, v173, rfl, ho0, ho1, hb⟩; refine ⟨_, rfl, ?_⟩; have n0_ := Aside0.mk (Kd.S_below (by (with_reducible repeat (first | apply Kd.S_alloc | apply Kd.S_drewN | apply Kd.S_drew)); exact (Kd.S_mono (Kd.S_far (p := ⟨gb168, 1, none⟩) (Kd.S_far (p := ⟨gb168, 0, none⟩) (Kd.S_types HO_4.out BK168.out (by decide)) (fun _ hk => hk.2) (.slice Ao43 t161.length co43)) (fun _ hk => hk.2) (.slice Ao45 t164.length co45)) (fun _ h_ => h_.1))) hb); have n1_ := Aside0.mk (Kd.S_elder' (by (with_reducible repeat (first | apply Kd.S_alloc | apply Kd.S_drewN | apply Kd.S_drew)); exact (Kd.S_mono (Kd.S_far (p := ⟨gb168, 1, none⟩) (Kd.S_far (p := ⟨gb168, 0, none⟩) (Kd.S_types HO163.out BK168.out (by decide)) (fun _ hk => hk.2) (.slice Ao43 t161.length co43)) (fun _ hk => hk.2) (.slice Ao45 t164.length co45)) (fun _ h_ => h_.1))) (Kd.S_base ho0) hb); have n2_ := Aside0.mk (Kd.R_elder' (by (with_reducible repeat (first | apply Kd.R_alloc | apply Kd.R_drewN | apply Kd.R_drew)); exact (Kd.R_mono (Kd.R_far (p := ⟨gb168, 1, none⟩) (Kd.R_far (p := ⟨gb168, 0, none⟩) (Kd.R_types HO166.out BK168.out (by decide)) (fun _ hk => hk.2) (.slice Ao43 t161.length co43)) (fun _ hk => hk.2) (.slice Ao45 t164.length co45)) (fun _ h_ => h_.1))) (Kd.R_base ho1) hb); have n3_ := Aside0.mk (Kd.S_lower (Kd.S_new' ho0 (Kd.S_lt (by (with_reducible repeat (first | apply Kd.S_alloc | apply Kd.S_drewN | apply Kd.S_drew)); exact (Kd.S_mono (Kd.S_far (p := ⟨gb168, 1, none⟩) (Kd.S_far (p := ⟨gb168, 0, none⟩) (Kd.S_types HO163.out BK168.out (by decide)) (fun _ hk => hk.2) (.slice Ao43 t161.length co43)) (fun _ hk => hk.2) (.slice Ao45 t164.length co45)) (fun _ h_ => h_.1))))) (below_size (by repeat (first | (with_reducible first | exact HB.out | apply below_alloc | apply pw_below_drewN | apply below_drew1 | refine below_set ?_ GE168.out) | exact HB.out)))); have n4_ := Aside0.mk (Kd.R_lower (Kd.R_new' ho1 (Kd.R_lt (by (with_reducible repeat (first | apply Kd.R_alloc | apply Kd.R_drewN | apply Kd.R_drew)); exact (Kd.R_mono (Kd.R_far (p := ⟨gb168, 1, none⟩) (Kd.R_far (p := ⟨gb168, 0, none⟩) (Kd.R_types HO166.out BK168.out (by decide)) (fun _ hk => hk.2) (.slice Ao43 t161.length co43)) (fun _ hk => hk.2) (.slice Ao45 t164.length co45)) (fun _ h_ => h_.1))))) (below_size (by repeat (first | (with_reducible first | exact HB.out | apply below_alloc | apply pw_below_drewN | apply below_drew1 | refine below_set ?_ GE168.out) | exact HB.out)))); have n5_ := Aside0.mk (blk_below (g := gb168) (o := .cells #[.slice Ao43 t161.length co43, .slice Ao45 t164.length co45] 25 (0, 0)) (by (with_reducible repeat (first | refine blk_drewN ?_ _ | refine blk_drew ?_ | refine blk_alloc ?_ _)); refine blk_put (cs := #[.slice Ao43 t161.length co43, .slice none 0 0]) ?_ 1 _ rfl; (with_reducible repeat (first | refine blk_drewN ?_ _ | refine blk_drew ?_ | refine blk_alloc ?_ _)); refine blk_put (cs := #[.slice none 0 0, .slice none 0 0]) ?_ 0 _ rfl; (with_reducible repeat (first | refine blk_drewN ?_ _ | refine blk_drew ?_ | refine blk_alloc ?_ _)); exact BK168.out) hb); have n6_ := Aside0.mk (below_step (by repeat (first | (with_reducible first | exact HB.out | apply below_alloc | apply pw_below_drewN | apply below_drew1 | refine below_set ?_ GE168.out) | exact HB.out)) hb); clear HO_4; clear HO163; clear HO166; clear BK168; clear HB; have HO_4 := n0_; have HO163 := n1_; have HO166 := n2_; have HO171 := n3_; have HO174 := n4_; have BK168 := n5_; have HB := n6_; clear n0_ n1_ n2_ n3_ n4_ n5_ n6_; (try clear hb); (try clear hb2); (try clear hk); (try clear hi); (try clear ho0); (try clear ho1)) | ((with_reducible refine gate_dst (N := 11) rfl ?_); refine box_event ?hg (N := 11) ?hd (cs := #[.slice none 0 0, .slice none 0 0]) (t := 25) ?hr ?_; (case hd => rfl); (case hg => rfl); (case hr => first | (go_simp; done) | (go_simp; rfl)); intro gb176 hg w47 hbox hb; have n0_ := Aside0.mk (Kd.S_below (by (with_reducible repeat (first | apply Kd.S_alloc | apply Kd.S_drewN | apply Kd.S_drew)); exact HO_4.out) hb); have n1_ := Aside0.mk (Kd.S_below (by (with_reducible repeat (first | apply Kd.S_alloc | apply Kd.S_drewN | apply Kd.S_drew)); exact HO163.out) hb); have n2_ := Aside0.mk (Kd.R_below (by (with_reducible repeat (first | apply Kd.R_alloc | apply Kd.R_drewN | apply Kd.R_drew)); exact HO166.out) hb); have n3_ := Aside0.mk (Kd.S_below (by (with_reducible repeat (first | apply Kd.S_alloc | apply Kd.S_drewN | apply Kd.S_drew)); exact HO171.out) hb); have n4_ := Aside0.mk (Kd.R_below (by (with_reducible repeat (first | apply Kd.R_alloc | apply Kd.R_drewN | apply Kd.R_drew)); exact HO174.out) hb); have n5_ := Aside0.mk (blk_below (g := gb168) (o := .cells #[.slice Ao43 t161.length co43, .slice Ao45 t164.length co45] 25 (0, 0)) (by (with_reducible repeat (first | refine blk_drewN ?_ _ | refine blk_drew ?_ | refine blk_alloc ?_ _)); exact BK168.out) hb); have n6_ := Aside0.mk (below_step (by repeat (first | (with_reducible first | exact HB.out | apply below_alloc | apply pw_below_drewN | apply below_drew1 | refine below_set ?_ GE168.out) | exact HB.out)) hb); have n7_ := Aside0.mk (hbox); have n8_ := Aside0.mk ((by rw [hg]; exact (below_size (by repeat (first | (with_reducible first | exact HB.out | apply below_alloc | apply pw_below_drewN | apply below_drew1 | refine below_set ?_ GE168.out) | exact HB.out))) : w.heap.size ≤ gb176)); have n9_ := Aside0.mk ((by rw [hg]; exact (below_size (by repeat (first | (with_reducible first | exact HB.out | apply below_alloc | apply pw_below_drewN | apply below_drew1 | refine below_set ?_ GE168.out) | exact HB.out))) : w.heap.size ≤ gb176)); have n10_ := Aside0.mk ((by rw [hg]; exact Nat.ne_of_lt (blk_lt (g := gb168) (o := .cells #[.slice Ao43 t161.length co43, .slice Ao45 t164.length co45] 25 (0, 0)) (by (with_reducible repeat (first | refine blk_drewN ?_ _ | refine blk_drew ?_ | refine blk_alloc ?_ _)); exact BK168.out)) : gb168 ≠ gb176)); have n11_ := Aside0.mk ((by rw [hg]; exact Nat.ne_of_gt (blk_lt (g := gb168) (o := .cells #[.slice Ao43 t161.length co43, .slice Ao45 t164.length co45] 25 (0, 0)) (by (with_reducible repeat (first | refine blk_drewN ?_ _ | refine blk_drew ?_ | refine blk_alloc ?_ _)); exact BK168.out)) : gb176 ≠ gb168)); clear HO_4; clear HO163; clear HO166; clear HO171; clear HO174; clear BK168; clear HB; have HO_4 := n0_; have HO163 := n1_; have HO166 := n2_; have HO171 := n3_; have HO174 := n4_; have BK168 := n5_; have HB := n6_; have BK176 := n7_; have GW176 := n8_; have GE176 := n9_; have NB168_176 := n10_; have NB176_168 := n11_; clear n0_ n1_ n2_ n3_ n4_ n5_ n6_ n7_ n8_ n9_ n10_ n11_; clear hb hbox hg; obtain ⟨Ao48, co48, eo48⟩ := Kd.S_slice HO171.out; subst eo48; have hnb49 := NB176_168.out; have hnc49 := NB168_176.out; have hcz50_0 : w47.cell? ⟨gb176, 0, none⟩ = some (.slice none 0 0) := (blk_cell BK176.out 0).trans rfl; have hcz50_1 : w47.cell? ⟨gb176, 1, none⟩ = some (.slice none 0 0) := (blk_cell BK176.out 1).trans rfl; have hfz50_0 := blk_frozen BK176.out 0; have hfz50_1 := blk_frozen BK176.out 1; obtain ⟨Ao51, co51, eo51⟩ := Kd.R_slice HO174.out; subst eo51))
                      go_ret
                      exact ⟨by first | rfl | (simp [errW_none, errW_some] <;> rfl) | (simp [*, errW_none, errW_some] <;> rfl), by repeat (first | (with_reducible first | exact HB.out | apply below_alloc | apply pw_below_drewN | apply below_drew1 | refine below_set ?_ GE168.out | refine below_set ?_ GE176.out) | exact HB.out)⟩
                  · replace c23 := Bool.eq_false_iff.mpr c23
                    subst c23
                    have H1 : (some false) = some r := by rw [if_neg (show ¬ (false = true) by decide)] at H; exact H
                    clear H
                    have H := H1
                    clear H1
                    obtain rfl := Option.some.inj H
                    obtain ⟨Ao52, co52, eo52⟩ := Kd.S_slice HO_4.out
                    subst eo52
                    go_wp2_with (first | ((with_reducible refine gate_callee (f := 7) rfl ?_); refine goesL_ (some 68) rfl rfl Tryd.func7 (by kernel_rfl) rfl #[.string a0] rfl (by (try simp only [List.map_toArray, List.map_cons, List.map_nil]); first | done | rfl | (simp only [List.length_drop, List.length_take]; rfl)) ?_; (with_reducible refine (read_Read.calls a0 t161 t164 t167 _ A21.out (ShTab.below HTS.out (by repeat (first | (with_reducible first | exact HB.out | apply below_alloc | apply pw_below_drewN | apply below_drew1 | refine below_set ?_ GE168.out | refine below_set ?_ GE176.out) | exact HB.out)))).mono ?_); rintro e w53 ⟨v162, v165, rfl, ho0, ho1, hb⟩; refine ⟨_, rfl, ?_⟩; have n0_ := Aside0.mk (Kd.S_below (by (with_reducible repeat (first | apply Kd.S_alloc | apply Kd.S_drewN | apply Kd.S_drew)); exact HO_4.out) hb); have n1_ := Aside0.mk (Kd.S_lower ho0 (below_size (by repeat (first | (with_reducible first | exact HB.out | apply below_alloc | apply pw_below_drewN | apply below_drew1) | exact HB.out)))); have n2_ := Aside0.mk (Kd.R_lower ho1 (below_size (by repeat (first | (with_reducible first | exact HB.out | apply below_alloc | apply pw_below_drewN | apply below_drew1) | exact HB.out)))); have n3_ := Aside0.mk (below_step (by repeat (first | (with_reducible first | exact HB.out | apply below_alloc | apply pw_below_drewN | apply below_drew1) | exact HB.out)) hb); clear HO_4; clear HB; have HO_4 := n0_; have HO163 := n1_; have HO166 := n2_; have HB := n3_; clear n0_ n1_ n2_ n3_; (try clear hb); (try clear hb2); (try clear hk); (try clear hi); (try clear ho0); (try clear ho1)) | ((with_reducible refine gate_dst (N := 9) rfl ?_); refine box_event ?hg (N := 9) ?hd (cs := #[.slice none 0 0, .slice none 0 0]) (t := 25) ?hr ?_; (case hd => rfl); (case hg => rfl); (case hr => first | (go_simp; done) | (go_simp; rfl)); intro gb168 hg w54 hbox hb; have n0_ := Aside0.mk (Kd.S_below (by (with_reducible repeat (first | apply Kd.S_alloc | apply Kd.S_drewN | apply Kd.S_drew)); exact HO_4.out) hb); have n1_ := Aside0.mk (Kd.S_below (by (with_reducible repeat (first | apply Kd.S_alloc | apply Kd.S_drewN | apply Kd.S_drew)); exact HO163.out) hb); have n2_ := Aside0.mk (Kd.R_below (by (with_reducible repeat (first | apply Kd.R_alloc | apply Kd.R_drewN | apply Kd.R_drew)); exact HO166.out) hb); have n3_ := Aside0.mk (below_step (by repeat (first | (with_reducible first | exact HB.out | apply below_alloc | apply pw_below_drewN | apply below_drew1) | exact HB.out)) hb); have n4_ := Aside0.mk (hbox); have n5_ := Aside0.mk ((by rw [hg]; exact (below_size (by repeat (first | (with_reducible first | exact HB.out | apply below_alloc | apply pw_below_drewN | apply below_drew1) | exact HB.out))) : w.heap.size ≤ gb168)); have n6_ := Aside0.mk ((by rw [hg]; exact (below_size (by repeat (first | (with_reducible first | exact HB.out | apply below_alloc | apply pw_below_drewN | apply below_drew1) | exact HB.out))) : w.heap.size ≤ gb168)); clear HO_4; clear HO163; clear HO166; clear HB; have HO_4 := n0_; have HO163 := n1_; have HO166 := n2_; have HB := n3_; have BK168 := n4_; have GW168 := n5_; have GE168 := n6_; clear n0_ n1_ n2_ n3_ n4_ n5_ n6_; clear hb hbox hg; obtain ⟨Ao55, co55, eo55⟩ := Kd.S_slice HO163.out; subst eo55; have hcz56_0 : w54.cell? ⟨gb168, 0, none⟩ = some (.slice none 0 0) := (blk_cell BK168.out 0).trans rfl; have hcz56_1 : w54.cell? ⟨gb168, 1, none⟩ = some (.slice none 0 0) := (blk_cell BK168.out 1).trans rfl; have hfz56_0 := blk_frozen BK168.out 0; have hfz56_1 := blk_frozen BK168.out 1; obtain ⟨Ao57, co57, eo57⟩ := Kd.R_slice HO166.out; subst eo57) | ((with_reducible refine gate_callee (f := 7) rfl ?_); refine goesL_ (some 73) rfl rfl Tryd.func7 (by kernel_rfl) rfl #[.string x6_2] rfl (by (try simp only [List.map_toArray, List.map_cons, List.map_nil]); first | done | rfl | (simp only [List.length_drop, List.length_take]; rfl)) ?_; (with_reducible refine (read_Read.calls x6_2 t169 t172 t175 _ A22.out (ShTab.below HTS.out (by repeat (first | (with_reducible first | exact HB.out | apply below_alloc | apply pw_below_drewN | apply below_drew1 | refine below_set ?_ GE168.out | refine below_set ?_ GE176.out) | exact HB.out)))).mono ?_); rintro e w58 ⟨v170, v173, rfl, ho0, ho1, hb⟩; refine ⟨_, rfl, ?_⟩; have n0_ := Aside0.mk (Kd.S_below (by (with_reducible repeat (first | apply Kd.S_alloc | apply Kd.S_drewN | apply Kd.S_drew)); exact (Kd.S_mono (Kd.S_far (p := ⟨gb168, 1, none⟩) (Kd.S_far (p := ⟨gb168, 0, none⟩) (Kd.S_types HO_4.out BK168.out (by decide)) (fun _ hk => hk.2) (.slice Ao55 t161.length co55)) (fun _ hk => hk.2) (.slice Ao57 t164.length co57)) (fun _ h_ => h_.1))) hb); have n1_ := Aside0.mk (Kd.S_elder' (by (with_reducible repeat (first | apply Kd.S_alloc | apply Kd.S_drewN | apply Kd.S_drew)); exact (Kd.S_mono (Kd.S_far (p := ⟨gb168, 1, none⟩) (Kd.S_far (p := ⟨gb168, 0, none⟩) (Kd.S_types HO163.out BK168.out (by decide)) (fun _ hk => hk.2) (.slice Ao55 t161.length co55)) (fun _ hk => hk.2) (.slice Ao57 t164.length co57)) (fun _ h_ => h_.1))) (Kd.S_base ho0) hb); have n2_ := Aside0.mk (Kd.R_elder' (by (with_reducible repeat (first | apply Kd.R_alloc | apply Kd.R_drewN | apply Kd.R_drew)); exact (Kd.R_mono (Kd.R_far (p := ⟨gb168, 1, none⟩) (Kd.R_far (p := ⟨gb168, 0, none⟩) (Kd.R_types HO166.out BK168.out (by decide)) (fun _ hk => hk.2) (.slice Ao55 t161.length co55)) (fun _ hk => hk.2) (.slice Ao57 t164.length co57)) (fun _ h_ => h_.1))) (Kd.R_base ho1) hb); have n3_ := Aside0.mk (Kd.S_lower (Kd.S_new' ho0 (Kd.S_lt (by (with_reducible repeat (first | apply Kd.S_alloc | apply Kd.S_drewN | apply Kd.S_drew)); exact (Kd.S_mono (Kd.S_far (p := ⟨gb168, 1, none⟩) (Kd.S_far (p := ⟨gb168, 0, none⟩) (Kd.S_types HO163.out BK168.out (by decide)) (fun _ hk => hk.2) (.slice Ao55 t161.length co55)) (fun _ hk => hk.2) (.slice Ao57 t164.length co57)) (fun _ h_ => h_.1))))) (below_size (by repeat (first | (with_reducible first | exact HB.out | apply below_alloc | apply pw_below_drewN | apply below_drew1 | refine below_set ?_ GE168.out) | exact HB.out)))); have n4_ := Aside0.mk (Kd.R_lower (Kd.R_new' ho1 (Kd.R_lt (by (with_reducible repeat (first | apply Kd.R_alloc | apply Kd.R_drewN | apply Kd.R_drew)); exact (Kd.R_mono (Kd.R_far (p := ⟨gb168, 1, none⟩) (Kd.R_far (p := ⟨gb168, 0, none⟩) (Kd.R_types HO166.out BK168.out (by decide)) (fun _ hk => hk.2) (.slice Ao55 t161.length co55)) (fun _ hk => hk.2) (.slice Ao57 t164.length co57)) (fun _ h_ => h_.1))))) (below_size (by repeat (first | (with_reducible first | exact HB.out | apply below_alloc | apply pw_below_drewN | apply below_drew1 | refine below_set ?_ GE168.out) | exact HB.out)))); have n5_ := Aside0.mk (blk_below (g := gb168) (o := .cells #[.slice Ao55 t161.length co55, .slice Ao57 t164.length co57] 25 (0, 0)) (by (with_reducible repeat (first | refine blk_drewN ?_ _ | refine blk_drew ?_ | refine blk_alloc ?_ _)); refine blk_put (cs := #[.slice Ao55 t161.length co55, .slice none 0 0]) ?_ 1 _ rfl; (with_reducible repeat (first | refine blk_drewN ?_ _ | refine blk_drew ?_ | refine blk_alloc ?_ _)); refine blk_put (cs := #[.slice none 0 0, .slice none 0 0]) ?_ 0 _ rfl; (with_reducible repeat (first | refine blk_drewN ?_ _ | refine blk_drew ?_ | refine blk_alloc ?_ _)); exact BK168.out) hb); have n6_ := Aside0.mk (below_step (by repeat (first | (with_reducible first | exact HB.out | apply below_alloc | apply pw_below_drewN | apply below_drew1 | refine below_set ?_ GE168.out) | exact HB.out)) hb); clear HO_4; clear HO163; clear HO166; clear BK168; clear HB; have HO_4 := n0_; have HO163 := n1_; have HO166 := n2_; have HO171 := n3_; have HO174 := n4_; have BK168 := n5_; have HB := n6_; clear n0_ n1_ n2_ n3_ n4_ n5_ n6_; (try clear hb); (try clear hb2); (try clear hk); (try clear hi); (try clear ho0); (try clear ho1)) | ((with_reducible refine gate_dst (N := 11) rfl ?_); refine box_event ?hg (N := 11) ?hd (cs := #[.slice none 0 0, .slice none 0 0]) (t := 25) ?hr ?_; (case hd => rfl); (case hg => rfl); (case hr => first | (go_simp; done) | (go_simp; rfl)); intro gb176 hg w59 hbox hb; have n0_ := Aside0.mk (Kd.S_below (by (with_reducible repeat (first | apply Kd.S_alloc | apply Kd.S_drewN | apply Kd.S_drew)); exact HO_4.out) hb); have n1_ := Aside0.mk (Kd.S_below (by (with_reducible repeat (first | apply Kd.S_alloc | apply Kd.S_drewN | apply Kd.S_drew)); exact HO163.out) hb); have n2_ := Aside0.mk (Kd.R_below (by (with_reducible repeat (first | apply Kd.R_alloc | apply Kd.R_drewN | apply Kd.R_drew)); exact HO166.out) hb); have n3_ := Aside0.mk (Kd.S_below (by (with_reducible repeat (first | apply Kd.S_alloc | apply Kd.S_drewN | apply Kd.S_drew)); exact HO171.out) hb); have n4_ := Aside0.mk (Kd.R_below (by (with_reducible repeat (first | apply Kd.R_alloc | apply Kd.R_drewN | apply Kd.R_drew)); exact HO174.out) hb); have n5_ := Aside0.mk (blk_below (g := gb168) (o := .cells #[.slice Ao55 t161.length co55, .slice Ao57 t164.length co57] 25 (0, 0)) (by (with_reducible repeat (first | refine blk_drewN ?_ _ | refine blk_drew ?_ | refine blk_alloc ?_ _)); exact BK168.out) hb); have n6_ := Aside0.mk (below_step (by repeat (first | (with_reducible first | exact HB.out | apply below_alloc | apply pw_below_drewN | apply below_drew1 | refine below_set ?_ GE168.out) | exact HB.out)) hb); have n7_ := Aside0.mk (hbox); have n8_ := Aside0.mk ((by rw [hg]; exact (below_size (by repeat (first | (with_reducible first | exact HB.out | apply below_alloc | apply pw_below_drewN | apply below_drew1 | refine below_set ?_ GE168.out) | exact HB.out))) : w.heap.size ≤ gb176)); have n9_ := Aside0.mk ((by rw [hg]; exact (below_size (by repeat (first | (with_reducible first | exact HB.out | apply below_alloc | apply pw_below_drewN | apply below_drew1 | refine below_set ?_ GE168.out) | exact HB.out))) : w.heap.size ≤ gb176)); have n10_ := Aside0.mk ((by rw [hg]; exact Nat.ne_of_lt (blk_lt (g := gb168) (o := .cells #[.slice Ao55 t161.length co55, .slice Ao57 t164.length co57] 25 (0, 0)) (by (with_reducible repeat (first | refine blk_drewN ?_ _ | refine blk_drew ?_ | refine blk_alloc ?_ _)); exact BK168.out)) : gb168 ≠ gb176)); have n11_ := Aside0.mk ((by rw [hg]; exact Nat.ne_of_gt (blk_lt (g := gb168) (o := .cells #[.slice Ao55 t161.length co55, .slice Ao57 t164.length co57] 25 (0, 0)) (by (with_reducible repeat (first | refine blk_drewN ?_ _ | refine blk_drew ?_ | refine blk_alloc ?_ _)); exact BK168.out)) : gb176 ≠ gb168)); clear HO_4; clear HO163; clear HO166; clear HO171; clear HO174; clear BK168; clear HB; have HO_4 := n0_; have HO163 := n1_; have HO166 := n2_; have HO171 := n3_; have HO174 := n4_; have BK168 := n5_; have HB := n6_; have BK176 := n7_; have GW176 := n8_; have GE176 := n9_; have NB168_176 := n10_; have NB176_168 := n11_; clear n0_ n1_ n2_ n3_ n4_ n5_ n6_ n7_ n8_ n9_ n10_ n11_; clear hb hbox hg; obtain ⟨Ao60, co60, eo60⟩ := Kd.S_slice HO171.out; subst eo60; have hnb61 := NB176_168.out; have hnc61 := NB168_176.out; have hcz62_0 : w59.cell? ⟨gb176, 0, none⟩ = some (.slice none 0 0) := (blk_cell BK176.out 0).trans rfl; have hcz62_1 : w59.cell? ⟨gb176, 1, none⟩ = some (.slice none 0 0) := (blk_cell BK176.out 1).trans rfl; have hfz62_0 := blk_frozen BK176.out 0; have hfz62_1 := blk_frozen BK176.out 1; obtain ⟨Ao63, co63, eo63⟩ := Kd.R_slice HO174.out; subst eo63))
                    go_ret
                    exact ⟨by first | rfl | (simp [errW_none, errW_some] <;> rfl) | (simp [*, errW_none, errW_some] <;> rfl), by repeat (first | (with_reducible first | exact HB.out | apply below_alloc | apply pw_below_drewN | apply below_drew1 | refine below_set ?_ GE168.out | refine below_set ?_ GE176.out) | exact HB.out)⟩
        · rw [if_neg c8] at H
          have c8b0 : (t154 == 0) = false := beq_eq_false_iff_ne.mpr c8
          have c8b1 : (t154 != 0) = true := bne_iff_ne.mpr c8
          by_cases c64 : t152 = true
          · subst c64
            have H1 : ((fescuelaw07_odd.f a0 t154).bind fun t157 => (some t157)) = some r := by rw [if_pos rfl] at H; exact H
            clear H
            have H := H1
            clear H1
            replace H := Option.bind_eq_some_iff.mp H
            obtain ⟨t157, A650, H⟩ := H
            replace H : (some t157) = some r := H
            have A65 := Aside0.mk A650
            clear A650
            obtain rfl := Option.some.inj H
            go_wp2_with (first | ((with_reducible refine gate_callee (f := 11) rfl ?_); refine goesL_ (some 24) rfl rfl Tryd.func11 (by kernel_rfl) rfl #[.string a0] rfl (by (try simp only [List.map_toArray, List.map_cons, List.map_nil]); first | done | rfl | (simp only [List.length_drop, List.length_take]; rfl)) ?_; (with_reducible refine (lex_Lines.calls a0 t153 t154 _ A7.out).mono ?_); rintro e w66 ⟨v155, rfl, ho0, hb⟩; refine ⟨_, rfl, ?_⟩; have n0_ := Aside0.mk (Kd.S_lower ho0 (below_size (by repeat (first | (with_reducible first | exact HB.out | apply below_alloc | apply pw_below_drewN | apply below_drew1) | exact HB.out)))); have n1_ := Aside0.mk (below_step (by repeat (first | (with_reducible first | exact HB.out | apply below_alloc | apply pw_below_drewN | apply below_drew1) | exact HB.out)) hb); clear HB; have HO156 := n0_; have HB := n1_; clear n0_ n1_; (try clear hb); (try clear hb2); (try clear hk); (try clear hi); (try clear ho0)) | (go_at_call 8; (with_reducible refine (fescuelaw07_odd.calls a0 t154 t157 _ A65.out (ShTab.below HTS.out (by repeat (first | (with_reducible first | exact HB.out | apply below_alloc | apply pw_below_drewN | apply below_drew1 | refine below_set ?_ GE168.out | refine below_set ?_ GE176.out) | exact HB.out)))).mono ?_); rintro e w67 ⟨rfl, hb⟩; have n0_ := Aside0.mk (Kd.S_below (by (with_reducible repeat (first | apply Kd.S_alloc | apply Kd.S_drewN | apply Kd.S_drew)); exact HO156.out) hb); have n1_ := Aside0.mk (below_step (by repeat (first | (with_reducible first | exact HB.out | apply below_alloc | apply pw_below_drewN | apply below_drew1) | exact HB.out)) hb); clear HO156; clear HB; have HO156 := n0_; have HB := n1_; clear n0_ n1_; (try clear hb); (try clear hb2); (try clear hk); (try clear hi)))
            go_ret
            exact ⟨by first | rfl | (simp [errW_none, errW_some] <;> rfl) | (simp [*, errW_none, errW_some] <;> rfl), by repeat (first | (with_reducible first | exact HB.out | apply below_alloc | apply pw_below_drewN | apply below_drew1) | exact HB.out)⟩
          · replace c64 := Bool.eq_false_iff.mpr c64
            subst c64
            have H1 : (some false) = some r := by rw [if_neg (show ¬ (false = true) by decide)] at H; exact H
            clear H
            have H := H1
            clear H1
            obtain rfl := Option.some.inj H
            go_wp2_with (first | ((with_reducible refine gate_callee (f := 11) rfl ?_); refine goesL_ (some 24) rfl rfl Tryd.func11 (by kernel_rfl) rfl #[.string a0] rfl (by (try simp only [List.map_toArray, List.map_cons, List.map_nil]); first | done | rfl | (simp only [List.length_drop, List.length_take]; rfl)) ?_; (with_reducible refine (lex_Lines.calls a0 t153 t154 _ A7.out).mono ?_); rintro e w68 ⟨v155, rfl, ho0, hb⟩; refine ⟨_, rfl, ?_⟩; have n0_ := Aside0.mk (Kd.S_lower ho0 (below_size (by repeat (first | (with_reducible first | exact HB.out | apply below_alloc | apply pw_below_drewN | apply below_drew1) | exact HB.out)))); have n1_ := Aside0.mk (below_step (by repeat (first | (with_reducible first | exact HB.out | apply below_alloc | apply pw_below_drewN | apply below_drew1) | exact HB.out)) hb); clear HB; have HO156 := n0_; have HB := n1_; clear n0_ n1_; (try clear hb); (try clear hb2); (try clear hk); (try clear hi); (try clear ho0)))
            go_ret
            exact ⟨by first | rfl | (simp [errW_none, errW_some] <;> rfl) | (simp [*, errW_none, errW_some] <;> rfl), by repeat (first | (with_reducible first | exact HB.out | apply below_alloc | apply pw_below_drewN | apply below_drew1) | exact HB.out)⟩
def fescuelaw07_ReadNoise.Pure : Prop := ∀ (a0 : ByteArray), a0.size ≤ 140737488351232 → ∃ k, fescuelaw07_ReadNoise.f k a0 = some true
theorem fescuelaw07_ReadNoise.walk (P : fescuelaw07_ReadNoise.Pure) (a0 : ByteArray) (w : World) (w0 : a0.size ≤ 140737488351232) (HTS0 : ShTab w) :
    Calls Tryd.prog 5 #[.string a0] w fun e w' => e = .returned (.bool true) ∧ Below w.heap.size w w' := by
  have HTS := Aside0.mk HTS0
  clear HTS0
  obtain ⟨k, h⟩ := P a0 w0
  refine (fescuelaw07_ReadNoise.calls k a0 true w h HTS.out).mono ?_
  rintro e w' ⟨rfl, hd⟩
  exact ⟨rfl, hd⟩
end Go.Proofs.YtlghkomipboflaaDoor.X
end
section
namespace Go.Proofs.YtlghkomipboflaaDoor.Pure
open Go.RowKit Go.Proofs.YtlghkomipboflaaDoor Go.Proofs.YtlghkomipboflaaDoor.X Go.Proofs.YtlghkomipboflaaDoor.Rd Go.Proofs.YtlghkomipboflaaDoor.Sh Go.Proofs.YtlghkomipboflaaDoorW.PrintWords Go.Proofs.YtlghkomipboflaaDoorW.PrintLast
set_option linter.unusedVariables false
set_option linter.unusedSimpArgs false
def Wd (N : Nat) (x : ByteArray) : Prop := x.data.toList ≠ [] ∧ (∀ c ∈ x.data.toList, isPlain c = true) ∧ x.size ≤ N
theorem lexF_wd (N : Nat) : ∀ (n : Nat) (l : List UInt8) (ws : List ByteArray) (ls r : List (List ByteArray)), l.length = n → n ≤ N → (∀ q ∈ ls, ∀ x ∈ q, Wd N x) → (∀ x ∈ ws, Wd N x) → lexF l ws ls = some r → ∀ q ∈ r, ∀ x ∈ q, Wd N x := by
  intro n
  induction n using Nat.strongRecOn with
  | _ n ih =>
    intro l ws ls r hn hN h1 h2 h
    have hend : ∀ q ∈ endL ls ws, ∀ x ∈ q, Wd N x := by
      intro q hq
      unfold endL at hq
      split at hq
      · exact h1 q hq
      · rcases List.mem_append.1 hq with hq | hq
        · exact h1 q hq
        · rw [List.mem_singleton.1 hq]; exact h2
    cases l with
    | nil =>
      rw [lexF_nil] at h
      split at h
      · cases h; exact hend
      · cases h
    | cons c t =>
      rw [lexF] at h
      subst hn
      simp only [List.length_cons] at hN
      split at h
      · exact ih t.length (by simp) t ws ls r rfl (by omega) h1 h2 h
      · split at h
        · split at h
          · exact ih t.length (by simp) t [] (endL ls ws) r rfl (by omega) hend (fun _ h => by cases h) h
          · cases h
        · split at h
          · have hd := dropWhile_le noFeed t
            exact ih (t.dropWhile noFeed).length (by simp; omega) _ ws ls r rfl (by omega) h1 h2 h
          · rename_i k1 k2 k3
            have k0 : kb c = 0 := by rcases kb_cases c with h | h | h | h <;> first | exact h | contradiction
            have hd := dropWhile_le isPlain t
            have ht : (t.takeWhile isPlain).length ≤ t.length := (List.takeWhile_sublist _).length_le
            refine ih (t.dropWhile isPlain).length (by simp; omega) _ _ ls r rfl (by omega) h1 (by
              intro x hx
              rcases List.mem_append.1 hx with hx | hx
              · exact h2 x hx
              · rw [List.mem_singleton.1 hx]
                refine ⟨by simp, ?_, ?_⟩
                · intro y hy
                  have hy : y ∈ c :: t.takeWhile isPlain := by simpa using hy
                  rcases List.mem_cons.1 hy with rfl | hy
                  · rw [isPlain, k0]; rfl
                  · exact takeWhile_all isPlain t y hy
                · show (c :: t.takeWhile isPlain).toArray.size ≤ N
                  simp; omega) h
theorem linesP_wd (s : ByteArray) : ∀ q ∈ (linesP s).1, ∀ x ∈ q, Wd 16384 x := by
  unfold linesP
  split
  · exact fun q hq => (by cases hq)
  · rename_i hs
    cases h : lexF s.data.toList [] [] with
    | none => exact fun q hq => (by cases hq)
    | some r => exact lexF_wd 16384 _ s.data.toList [] [] r rfl (by simp; omega) (fun _ h => by cases h) (fun _ h => by cases h) h
def noiseW (ws : List ByteArray) : List UInt8 := ws.flatMap fun w => 32 :: 9 :: w.data.toList
theorem noiseW_cons (w : ByteArray) (ws : List ByteArray) : noiseW (w :: ws) = 32 :: 9 :: (w.data.toList ++ noiseW ws) := by simp [noiseW]
theorem noiseW_snoc (ws : List ByteArray) (w : ByteArray) : noiseW (ws ++ [w]) = noiseW ws ++ 32 :: 9 :: w.data.toList := by simp [noiseW]
theorem plain_no (c : UInt8) : isPlain c = true → c ≠ 10 := fun h => (plain_ne c h).1
theorem noiseW_no (N : Nat) : ∀ (ws : List ByteArray), (∀ x ∈ ws, Wd N x) → ∀ c ∈ noiseW ws, c ≠ 10
  | [], _, c, hc => by cases hc
  | w :: ws, h, c, hc => by
    rw [noiseW_cons] at hc
    rcases List.mem_cons.1 hc with rfl | hc
    · decide
    rcases List.mem_cons.1 hc with rfl | hc
    · decide
    rcases List.mem_append.1 hc with hc | hc
    · exact plain_no c ((h w List.mem_cons_self).2.1 c hc)
    · exact noiseW_no N ws (fun x hx => h x (List.mem_cons_of_mem _ hx)) c hc
theorem words_noise (N : Nat) (z : List UInt8) : ∀ (ws : List ByteArray), (∀ x ∈ ws, Wd N x) → wordsL (noiseW ws ++ 35 :: z) = ws
  | [], _ => wordsL_hash z
  | w :: ws, h => by
    obtain ⟨h1, h2, h3⟩ := h w List.mem_cons_self
    rw [noiseW_cons, List.cons_append, List.cons_append, wordsL_blank 32 _ (by decide +kernel), wordsL_blank 9 _ (by decide +kernel), List.append_assoc, wordsL_word _ _ h1 h2 ?_, words_noise N z ws (fun x hx => h x (List.mem_cons_of_mem _ hx))]
    · congr 1
    · intro c t e
      cases ws with
      | nil => have e : (35 : UInt8) :: z = c :: t := e
               injection e with e _; subst e; decide +kernel
      | cons a b =>
        rw [noiseW_cons] at e
        injection e with e _; subst e; decide +kernel
theorem splitL_none (c : UInt8) : ∀ (l : List UInt8), (∀ x ∈ l, x ≠ c) → splitL c l = [l]
  | [], _ => by simp [splitL]
  | x :: t, h => by
    rw [splitL_cons _ _ _ (h x List.mem_cons_self), splitL_none c t (fun y hy => h y (List.mem_cons_of_mem _ hy))]
    rfl
def noiseL (ws : List ByteArray) : List UInt8 := noiseW ws ++ [35, 32, 114, 48, 13, 10, 10]
theorem G_noise (ws : List ByteArray) (hne : ws ≠ []) (hlen : ws.length ≤ 64) (h : ∀ x ∈ ws, Wd 16384 x) (rest : List UInt8) (out) : G (noiseL ws ++ rest) out = G rest (out ++ [ws]) := by
  have e : noiseL ws ++ rest = (noiseW ws ++ [35, 32, 114, 48, 13]) ++ 10 :: ([] ++ 10 :: rest) := by simp [noiseL]
  have hw := words_noise 16384 [32, 114, 48, 13] ws h
  have hg : G (noiseW ws ++ [35, 32, 114, 48, 13]) out = some (out ++ [ws]) := by
    unfold G
    rw [splitL_none 10 _ (by
      intro x hx
      rcases List.mem_append.1 hx with hx | hx
      · exact noiseW_no _ ws h x hx
      · exact (by decide : ∀ x ∈ ([35, 32, 114, 48, 13] : List UInt8), x ≠ 10) x hx)]
    simp only [goL, hw]
    rw [if_pos hlen, endL, if_neg hne]
  rw [e, G_feed, hg, Option.bind_some, G_feed, G_nil, Option.bind_some]
def noiseLs (ls : List (List ByteArray)) : List UInt8 := ls.flatMap noiseL
theorem noiseLs_snoc (ls : List (List ByteArray)) (w) : noiseLs (ls ++ [w]) = noiseLs ls ++ noiseL w := by simp [noiseLs]
theorem G_noiseLs : ∀ (ls : List (List ByteArray)) (out), (∀ q ∈ ls, q ≠ [] ∧ q.length ≤ 64 ∧ ∀ x ∈ q, Wd 16384 x) → G (noiseLs ls) out = some (out ++ ls)
  | [], out, _ => by rw [List.append_nil]; exact G_nil out
  | q :: ls, out, h => by
    obtain ⟨h1, h2, h3⟩ := h q List.mem_cons_self
    have e : noiseLs (q :: ls) = noiseL q ++ noiseLs ls := by simp [noiseLs]
    rw [e, G_noise q h1 h2 h3, G_noiseLs ls _ (fun x hx => h x (List.mem_cons_of_mem _ hx)), List.append_assoc]
    rfl
theorem lines_noise (n : ByteArray) (ls : List (List ByteArray)) (hn : n.size ≤ 16384) (he : n.data.toList = [35, 32, 10] ++ noiseLs ls) (h : ∀ q ∈ ls, q ≠ [] ∧ q.length ≤ 64 ∧ ∀ x ∈ q, Wd 16384 x) : linesP n = (ls, 0) := by
  rw [linesP_G n hn, he]
  have e : ([35, 32, 10] ++ noiseLs ls : List UInt8) = [35, 32] ++ 10 :: noiseLs ls := rfl
  have g0 : G [35, 32] [] = some [] := by decide +kernel
  rw [e, G_feed, g0, Option.bind_some, G_noiseLs ls [] h]
  rfl
theorem data_app (a b : ByteArray) : (a ++ b).data.toList = a.data.toList ++ b.data.toList := by simp
theorem size_app (a b : ByteArray) : (a ++ b).size = a.size + b.size := by simp
def same3c (ts : List Tp) : Prop := ts.length ≤ 1000000 ∧ ∀ t ∈ ts, t.f3.length ≤ 1000000
theorem bne_self_f (a : Int) : (a != a) = false := by simp
theorem same3_l1 (ts : List Tp) (i : Nat) (hi : i < ts.length) (hm : (rd_T41 ts (i : Int)).f3.length ≤ 1000000) (r : Bool) (hn : Ev (fun k => fescueref03_Same.l0 k ts ts (wrap64 ((i : Int) + 1))) r) : ∀ (d j : Nat), j + d = (rd_T41 ts (i : Int)).f3.length → Ev (fun k => fescueref03_Same.l1 k ts ts (i : Int) (j : Int)) r := by
  intro d
  induction d with
  | zero =>
    intro j hj
    refine Ev.step (f := fun k => fescueref03_Same.l0 k ts ts (wrap64 ((i : Int) + 1))) (fun k => ?_) hn
    simp only [fescueref03_Same.l1]
    rw [if_pos (by omega), if_pos (by omega), if_neg (by omega)]
  | succ d ih =>
    intro j hj
    refine Ev.step (f := fun k => fescueref03_Same.l1 k ts ts (i : Int) ((j + 1 : Nat) : Int)) (fun k => ?_) (ih (j + 1) (by omega))
    simp only [fescueref03_Same.l1]
    rw [if_pos (by omega), if_pos (by omega), if_pos (by omega), if_pos (by omega), if_pos (by omega), if_pos (by omega), if_pos trivial, show wrap64 ((j : Int) + 1) = ((j + 1 : Nat) : Int) by unfold wrap64; omega]
theorem same3_l0 (ts : List Tp) (h : same3c ts) : ∀ (d i : Nat), i + d = ts.length → Ev (fun k => fescueref03_Same.l0 k ts ts (i : Int)) true := by
  intro d
  have hl := h.1
  induction d with
  | zero =>
    intro i hi
    refine Ev.step (f := fun _ => some true) (fun k => ?_) (Ev.now _)
    simp only [fescueref03_Same.l0]
    rw [if_neg (by omega)]
  | succ d ih =>
    intro i hi
    have hlt : i < ts.length := by omega
    have hm : (rd_T41 ts (i : Int)).f3.length ≤ 1000000 := by
      unfold rd_T41
      rw [List.getD_eq_getElem?_getD, Int.toNat_natCast, List.getElem?_eq_getElem hlt]
      exact h.2 _ (List.getElem_mem _)
    have hw : wrap64 ((i : Int) + 1) = ((i + 1 : Nat) : Int) := by unfold wrap64; omega
    refine Ev.step (f := fun k => fescueref03_Same.j1 k ts ts (i : Int) false) (fun k => ?_) ?_
    · simp only [fescueref03_Same.l0]
      rw [if_pos (by omega), if_pos (by omega), if_pos (by omega), if_pos trivial, if_pos trivial, if_pos trivial, bne_self_f]
    · refine Ev.step (f := fun k => fescueref03_Same.l1 k ts ts (i : Int) ((0 : Nat) : Int)) (fun k => ?_) (same3_l1 ts i hlt hm true (by rw [hw]; exact ih (i + 1) (by omega)) _ 0 (Nat.zero_add _))
      simp only [fescueref03_Same.j1]
      rfl
theorem same3 (ts : List Tp) (h : same3c ts) : Ev (fun k => fescueref03_Same.f k ts ts) true := by
  refine Ev.congr (f := fun k => fescueref03_Same.l0 k ts ts ((0 : Nat) : Int)) (fun k => ?_) (same3_l0 ts h _ 0 (Nat.zero_add _))
  unfold fescueref03_Same.f
  rw [if_pos rfl]; rfl
theorem sameB_l0 (bs : List Bk) (h : bs.length ≤ 1000000) : ∀ (d i : Nat), i + d = bs.length → Ev (fun k => fescueref06_sameBlocks.l0 k bs bs (i : Int)) true := by
  intro d
  induction d with
  | zero =>
    intro i hi
    refine Ev.step (f := fun _ => some true) (fun k => ?_) (Ev.now _)
    simp only [fescueref06_sameBlocks.l0]
    rw [if_neg (by omega)]
  | succ d ih =>
    intro i hi
    have hw : wrap64 ((i : Int) + 1) = ((i + 1 : Nat) : Int) := by unfold wrap64; omega
    refine Ev.step (f := fun k => fescueref06_sameBlocks.l0 k bs bs ((i + 1 : Nat) : Int)) (fun k => ?_) (ih (i + 1) (by omega))
    simp only [fescueref06_sameBlocks.l0]
    rw [if_pos (by omega), if_pos (by omega), if_pos (by omega), if_neg (by simp)]
    unfold fescueref06_sameIns.f
    rw [insL_refl, if_pos rfl, Option.bind_some, if_pos rfl, hw]
theorem sameB (bs : List Bk) (h : bs.length ≤ 1000000) : Ev (fun k => fescueref06_sameBlocks.f k bs bs) true := by
  refine Ev.congr (f := fun k => fescueref06_sameBlocks.l0 k bs bs ((0 : Nat) : Int)) (fun k => ?_) (sameB_l0 bs h _ 0 (Nat.zero_add _))
  unfold fescueref06_sameBlocks.f
  rw [if_pos rfl]; rfl
theorem same6_l0 (ts : List Tp) (fs : List Rd.Fn) (h : fs.length ≤ 1000000) (hb : ∀ f ∈ fs, f.f1.length ≤ 1000000) : ∀ (d i : Nat), i + d = fs.length → Ev (fun k => fescueref06_Same.l0 k (i : Int) ts fs ts fs) true := by
  intro d
  induction d with
  | zero =>
    intro i hi
    refine Ev.step (f := fun _ => some true) (fun k => ?_) (Ev.now _)
    simp only [fescueref06_Same.l0]
    rw [if_neg (by omega)]
  | succ d ih =>
    intro i hi
    have hlt : i < fs.length := by omega
    have hw : wrap64 ((i : Int) + 1) = ((i + 1 : Nat) : Int) := by unfold wrap64; omega
    have hm : (rd_T31 fs (i : Int)).f1.length ≤ 1000000 := by
      unfold rd_T31
      rw [List.getD_eq_getElem?_getD, Int.toNat_natCast, List.getElem?_eq_getElem hlt]
      exact hb _ (List.getElem_mem _)
    refine Ev.step (f := fun k => (fescueref06_sameBlocks.f k (rd_T31 fs (i : Int)).f1 (rd_T31 fs (i : Int)).f1).bind fun t => if t = true then fescueref06_Same.l0 k ((i + 1 : Nat) : Int) ts fs ts fs else some false) (fun k => ?_) ?_
    · simp only [fescueref06_Same.l0]
      rw [if_pos (by omega), if_pos (by omega), if_pos (by omega), if_pos trivial, hw]
    · exact Ev.bind (sameB _ hm) (Ev.congr (fun k => by rw [if_pos rfl]) (ih (i + 1) (by omega)))
theorem same6 (ts : List Tp) (fs : List Rd.Fn) (ht : same3c ts) (h : fs.length ≤ 1000000) (hb : ∀ f ∈ fs, f.f1.length ≤ 1000000) : Ev (fun k => fescueref06_Same.f k ts fs ts fs) true := by
  refine Ev.congr (f := fun k => (fescueref03_Same.f k ts ts).bind fun t => fescueref06_Same.j0 k (!t) ts fs ts fs) (fun k => ?_) ?_
  · unfold fescueref06_Same.f
    rw [if_pos rfl]
  · refine Ev.bind (same3 ts ht) ?_
    refine Ev.step (f := fun k => fescueref06_Same.l0 k ((0 : Nat) : Int) ts fs ts fs) (fun k => ?_) (same6_l0 ts fs h hb _ 0 (Nat.zero_add _))
    simp only [fescueref06_Same.j0]
    rfl
theorem len_cnt' (bs : List Bk) : bs.length ≤ cntB bs := by
  induction bs with
  | nil => simp
  | cons b bs ih => simp [cntB] at ih ⊢; omega
theorem len_cntF' : ∀ (fs : List Rd.Fn), fs.length ≤ cntF fs ∧ ∀ f ∈ fs, f.f1.length ≤ cntF fs
  | [] => ⟨by simp, fun _ h => by cases h⟩
  | a :: fs => by
    obtain ⟨h1, h2⟩ := len_cntF' fs
    have hc : cntF (a :: fs) = cntB a.f1 + 1 + cntF fs := by simp [cntF]
    rw [hc]
    refine ⟨by simp; omega, fun f hf => ?_⟩
    rcases List.mem_cons.1 hf with rfl | hf
    · have := len_cnt' f.f1; omega
    · have := h2 f hf; omega
theorem read_sane (s : ByteArray) : ∃ ts fs e, read_Read.f s = some (ts, fs, e) ∧ same3c ts ∧ fs.length ≤ 1000000 ∧ (∀ f ∈ fs, f.f1.length ≤ 1000000) := by
  have hnil : same3c [] := ⟨by simp, fun _ h => by cases h⟩
  rcases read_cases s with ⟨e, he, hr⟩ | ⟨ts, fs, hr, hl, hc, hk⟩
  · exact ⟨_, _, _, hr, hnil, by simp, fun _ h => by cases h⟩
  · have hg := (linesP_good s).2
    have hF := len_cntF' fs
    have hp : progF (linesP s).1 = some (ts, fs) := by
      unfold read_Read.f at hr
      rw [if_pos hl] at hr
      cases hq : progF (linesP s).1 with
      | none => rw [hq] at hr; cases hr
      | some p =>
        obtain ⟨t1, f1⟩ := p
        rw [hq] at hr
        obtain ⟨e, h1, h2⟩ := Option.bind_eq_some_iff.1 hr
        split at h2
        · cases h2; rfl
        · rename_i hne
          cases h2
          exact absurd rfl hne
    refine ⟨_, _, _, hr, ⟨by omega, (progF_cnt (linesP_fine s) hp).2.2⟩, by omega, fun f hf => by have := hF.2 f hf; omega⟩
theorem read_bad (s : ByteArray) (h : (linesP s).2 ≠ 0) : read_Read.f s = some ([], [], (linesP s).2) := by
  unfold read_Read.f
  rw [if_neg h]
theorem read_like (s n : ByteArray) (h : linesP n = linesP s) : read_Read.f n = read_Read.f s := by
  unfold read_Read.f
  rw [h]
theorem end_l0 (s n : ByteArray) (ls : List (List ByteArray)) (hs : linesP s = (ls, 0)) (hg : ∀ q ∈ ls, q ≠ [] ∧ q.length ≤ 64 ∧ ∀ x ∈ q, Wd 16384 x) (hn : n.data.toList = [35, 32, 10] ++ noiseLs ls) : Ev (fun k => fescuelaw07_ReadNoise.l0 k s true ls n (ls.length : Int)) true := by
  by_cases h : (n.size : Int) > 16384
  · refine Ev.step (f := fun _ => some true) (fun k => ?_) (Ev.now _)
    simp only [fescuelaw07_ReadNoise.l0]
    rw [if_neg (by omega), if_pos h]
  · obtain ⟨ts, fs, e, hr, h3, h4, h5⟩ := read_sane s
    have hr2 : read_Read.f n = some (ts, fs, e) := by rw [read_like s n (by rw [lines_noise n ls (by omega) hn hg, hs]), hr]
    refine Ev.step (f := fun k => (fescueref06_Same.f k ts fs ts fs).bind fun t => some t) (fun k => ?_) (Ev.bind (same6 ts fs h3 h4 h5) (Ev.now _))
    simp only [fescuelaw07_ReadNoise.l0]
    rw [if_neg (by omega), if_neg h, hr, hr2]
    simp only [Option.bind_some, if_true]
theorem noise_go (s : ByteArray) (ls : List (List ByteArray)) (hs : linesP s = (ls, 0)) (hL : ls.length ≤ 16385) (hg : ∀ q ∈ ls, q ≠ [] ∧ q.length ≤ 64 ∧ ∀ x ∈ q, Wd 16384 x) :
    ∀ (d i : Nat), i + d = ls.length → ∀ (n : ByteArray), n.data.toList = [35, 32, 10] ++ noiseLs (ls.take i) → n.size ≤ 3 + 2000000 * i → Ev (fun k => fescuelaw07_ReadNoise.l0 k s true ls n (i : Int)) true := by
  intro d
  induction d with
  | zero =>
    intro i hi n hn hz
    have : i = ls.length := by omega
    subst this
    rw [List.take_of_length_le (Nat.le_refl _)] at hn
    exact end_l0 s n ls hs hg hn
  | succ d ih =>
    intro i hi n hn hz
    have hlt : i < ls.length := by omega
    obtain ⟨q1, q2, q3⟩ := hg _ (List.getElem_mem hlt)
    have hrd : rd_L14 ls (i : Int) = ls[i] := by unfold rd_L14; simp [hlt]
    have hw : wrap64 ((i : Int) + 1) = ((i + 1 : Nat) : Int) := by unfold wrap64; omega
    have inner : ∀ (d2 j : Nat), j + d2 = ls[i].length → ∀ (m : ByteArray), m.data.toList = [35, 32, 10] ++ noiseLs (ls.take i) ++ noiseW (ls[i].take j) → m.size ≤ 3 + 2000000 * i + 20000 * j → Ev (fun k => fescuelaw07_ReadNoise.l1 k s true ls m (i : Int) (j : Int)) true := by
      intro d2
      induction d2 with
      | zero =>
        intro j hj m hm hy
        have : j = ls[i].length := by omega
        subst this
        rw [List.take_of_length_le (Nat.le_refl _)] at hm
        have hst : noiseLs (ls.take (i + 1)) = noiseLs (ls.take i) ++ noiseL ls[i] := by rw [List.take_succ_eq_append_getElem hlt, noiseLs_snoc]
        have s7 : (⟨#[35, 32, 114, 48, 13, 10, 10]⟩ : ByteArray).size = 7 := rfl
        refine Ev.step (f := fun k => fescuelaw07_ReadNoise.l0 k s true ls (m ++ (⟨#[35, 32, 114, 48, 13, 10, 10]⟩ : ByteArray)) ((i + 1 : Nat) : Int)) (fun k => ?_) (ih (i + 1) (by omega) (m ++ (⟨#[35, 32, 114, 48, 13, 10, 10]⟩ : ByteArray)) (by rw [data_app, hm, hst]; simp [noiseL]) (by rw [size_app, s7]; omega))
        simp only [fescuelaw07_ReadNoise.l1]
        rw [if_pos (by omega), if_pos (by omega), hrd, if_neg (by omega), if_pos (by omega), hw]
      | succ d2 ih2 =>
        intro j hj m hm hy
        have hlj : j < ls[i].length := by omega
        obtain ⟨x1, x2, x3⟩ := q3 _ (List.getElem_mem hlj)
        have hrw : rdOf ByteArray.empty ls[i] (j : Int) = ls[i][j] := by unfold rdOf; simp [hlj]
        have s2 : (⟨#[32, 9]⟩ : ByteArray).size = 2 := rfl
        have hst : noiseW (ls[i].take (j + 1)) = noiseW (ls[i].take j) ++ 32 :: 9 :: ls[i][j].data.toList := by rw [List.take_succ_eq_append_getElem hlj, noiseW_snoc]
        refine Ev.step (f := fun k => fescuelaw07_ReadNoise.l1 k s true ls ((m ++ (⟨#[32, 9]⟩ : ByteArray)) ++ ls[i][j]) (i : Int) ((j + 1 : Nat) : Int)) (fun k => ?_) (ih2 (j + 1) (by omega) ((m ++ (⟨#[32, 9]⟩ : ByteArray)) ++ ls[i][j]) (by rw [data_app, data_app, hm, hst]; simp only [List.append_assoc]; rfl) (by rw [size_app, size_app, s2]; omega))
        simp only [fescuelaw07_ReadNoise.l1]
        rw [if_pos (by omega), if_pos (by omega), hrd, if_pos (by omega), if_pos (by omega), if_pos (by omega), hrw, if_pos (by rw [size_app, s2]; omega), show wrap64 ((j : Int) + 1) = ((j + 1 : Nat) : Int) by unfold wrap64; omega]
    refine Ev.step (f := fun k => fescuelaw07_ReadNoise.l1 k s true ls n (i : Int) ((0 : Nat) : Int)) (fun k => ?_) (inner _ 0 (Nat.zero_add _) n (by rw [hn]; simp [noiseW]) (by omega))
    simp only [fescuelaw07_ReadNoise.l0]
    rw [if_pos (by omega)]
    rfl
theorem ReadNoise : fescuelaw07_ReadNoise.Pure := by
  intro s hsz
  apply Ev.rounds (r := true)
  unfold fescuelaw07_ReadNoise.f fescuelaw07_alive.f
  simp only [Option.bind_some]
  by_cases h3 : (s.size : Int) > 3000
  · refine Ev.congr (f := fun k => fescuelaw07_ReadNoise.j0 k s true true) (fun k => by rw [if_pos h3]) ?_
    exact Ev.step (f := fun _ => some true) (fun k => by simp only [fescuelaw07_ReadNoise.j0]; rfl) (Ev.now _)
  · refine Ev.congr (f := fun k => fescuelaw07_ReadNoise.j0 k s true false) (fun k => by rw [if_neg h3]; rfl) ?_
    by_cases h0 : (linesP s).2 = 0
    · have hs : linesP s = ((linesP s).1, 0) := by rw [← h0]
      have hg := linesP_good s
      have hwd := linesP_wd s
      have s3 : (⟨#[35, 32, 10]⟩ : ByteArray).size = 3 := rfl
      refine Ev.step (f := fun k => fescuelaw07_ReadNoise.l0 k s true (linesP s).1 (⟨#[35, 32, 10]⟩ : ByteArray) ((0 : Nat) : Int)) (fun k => ?_) (noise_go s _ hs hg.2 (fun q hq => ⟨(hg.1 q hq).2.1, (hg.1 q hq).1, hwd q hq⟩) _ 0 (Nat.zero_add _) _ (by simp [noiseLs]) (by omega))
      simp only [fescuelaw07_ReadNoise.j0]
      unfold lex_Lines.f
      rw [if_neg (by decide), Option.bind_some, if_pos h0]
      rfl
    · refine Ev.step (f := fun _ => some true) (fun k => ?_) (Ev.now _)
      simp only [fescuelaw07_ReadNoise.j0]
      unfold lex_Lines.f fescuelaw07_odd.f
      rw [if_neg (by decide), Option.bind_some, if_neg h0, if_pos trivial, read_bad s h0]
      simp
end Go.Proofs.YtlghkomipboflaaDoor.Pure
end
section
namespace Go.Proofs.YtlghkomipboflaaDoor.readNoise
open Go.ChangeShapes Go.WideShapes Go.ChangeAt Go.RowKit
open Go.ChangeMaps (open_string shut_string)
set_option linter.unusedVariables false
theorem reads (os : Os) {H : Type} (enc : TypeId × Value → H) : ∃ places, DataW.whole enc Tryd.prog ((laidWorld1 os).forCall (fun _ _ => 0) ⟨#[], #[.string ByteArray.empty], []⟩).memory Tryd.f5.params.toList Rows.readNoiseSpec.vars false (#[.string ByteArray.empty] : Array Value).toList 8 = some ([.lit (.string [])], [], places) :=
  ⟨[], by kernel_rfl⟩
set_option maxRecDepth 100000 in
theorem lifted (os : Os) (started : os.Started) (H : Type) (enc : TypeId × Value → H) (F : Stop.Interp) :
    ReturnsInHanded {} Tryd.checked os 5 .any ((OpenSpec.ofChange Rows.readNoiseSpec).preRow enc Tryd.prog Tryd.f5 Rows.readNoiseRow.domain false Rows.readNoiseRow.laid) (((OpenSpec.ofChange Rows.readNoiseSpec).at F).post enc Tryd.prog Tryd.f5 false true false false) := by
  obtain ⟨places, hx⟩ := reads os enc
  refine returnsInHanded_of_row (C := Tryd.checked) (s := OpenSpec.ofChange Rows.readNoiseSpec) own started (by kernel_rfl) Tryd.func5
    (witness_row_at (enc := enc) (C := Tryd.checked) false (laidWorld1 os) #[.string ByteArray.empty] rfl (by kernel_rfl) (by kernel_rfl) (by kernel_rfl)
      (OpenSpec.preRow_of_cond 8 hx (by kernel_rfl) (fun k hk => by cases hk) (by kernel_rfl) (laid_met1 os _))) ?_
  intro W base args ds gs before hval0 hW _ hcnd hsz0 hL _ _
  have hT : ShTab W := tableS hL
  have hsz : (DataW.weightsEach Tryd.prog (Tryd.f5.params.toList ++ (OpenSpec.ofChange Rows.readNoiseSpec).bare.plain.varTypes Tryd.prog) (ds ++ gs)).all (· ≤ reachBytes) = true := hsz0
  have hval : ∀ (j : Nat) t v, Tryd.f5.params[j]? = some t → args[j]? = some v → Value.okWide Tryd.prog W .any base t v := hval0
  have hW' := hW
  obtain ⟨p, q, hA0, hV, rfl, hfz, hnd⟩ := hW
  have hA : DataW.TrodAll enc Tryd.prog W 0 (fun _ => true) true Tryd.f5.params.toList args.toList ds p := hA0
  rw [Tryd.params5] at hA hval hsz
  obtain ⟨v0, vs0, d0, ds0, p0, q0, hargs, rfl, rfl, h0, r0⟩ := trodAll_cons hA
  obtain ⟨rfl, rfl, rfl⟩ := trodAll_nil r0
  obtain rfl : args = #[v0] := by cases args; simp_all
  obtain ⟨rfl, rfl⟩ := trodVars_none hV
  obtain ⟨a0, rfl, rfl, rfl, y0⟩ := open_string Tryd.underlying9 (hval 0 9 v0 rfl rfl) h0
  have w0 : a0.size ≤ 140737488351232 := by
    have z := sized_string hsz (j := 0) (t := 9) rfl rfl
    rw [Array.length_toList] at z
    exact z
  clear hA0 hval0 hsz0 hsz
  refine (X.fescuelaw07_ReadNoise.walk Pure.ReadNoise a0 W w0 hT).mono fun e W' ⟨he, bel⟩ => ?_
  subst he
  exact ⟨_, rfl, _, _, _, [], _, [], hW', trodAll_mk1 (shut_bool Tryd.underlying4 _), (trodAll_cons_mk (shut_string Tryd.underlying9 y0) trodAll_mk0), rfl, bel.frame _, fun h => by cases h⟩
theorem over : Rows.ReadNoiseSaid :=
  OpenClaim.holds_of_cond 5 Tryd.f5 rfl rfl rfl rfl rfl rfl rfl ⟨rfl, rfl, rfl, rfl, rfl⟩ rfl rfl rfl rfl rfl (by kernel_rfl) Tryd.func5 (by kernel_rfl)
    (of_decide_eq_true (by kernel_rfl)) (by unfold Func.isWrapper; first | (rw [if_pos (by decide +kernel)]; kernel_rfl) | (rw [if_neg (by decide +kernel)]; exact ⟨rfl, rfl⟩))
    (fun os started H enc _ F => by rw [OpenClaim.pre_eq_preRow]; exact lifted os started H enc F)
theorem plain (f : FuncId) (fn : Func) (hf : Tryd.pinned.checked.prog.funcNamed Rows.readNoiseRow.func = some f) (hfn : Tryd.pinned.checked.prog.funcs[f]? = some fn) :
    true = Tryd.pinned.checked.prog.looks [] ∧ ∀ (j : Nat) t, fn.params[j]? = some t → Tryd.pinned.checked.prog.wantsStandIn t = false := by
  obtain rfl : f = 5 := Option.some.inj ((show Tryd.prog.funcNamed Rows.readNoiseRow.func = some 5 by kernel_rfl).symm.trans hf) |>.symm
  obtain rfl : fn = Tryd.f5 := (Option.some.inj (Tryd.func5.symm.trans hfn)).symm
  refine ⟨by kernel_rfl, fun j t ht => ?_⟩
  have hall : Tryd.f5.params.toList.all (fun t => Tryd.prog.wantsStandIn t == false) = true := by kernel_rfl
  have hm : t ∈ Tryd.f5.params.toList := by
    rw [Array.mem_toList_iff]
    exact Array.mem_of_getElem? ht
  exact eq_of_beq (List.all_eq_true.1 hall t hm)
theorem proved : Rows.ReadNoiseCardSaid :=
  Claim7.holds_tied_plain_at .later [] _ _ _ _ over (fun _ h => by cases h) (by kernel_rfl) (fun _ h => by cases h) readNoise_row_tie rfl ⟨rfl, rfl⟩ (by kernel_rfl) rfl plain (by kernel_rfl)
#print axioms proved
end Go.Proofs.YtlghkomipboflaaDoor.readNoise
namespace Go.Proofs.YtlghkomipboflaaDoor
theorem readNoise_holds : Rows.ReadNoiseCardSaid := readNoise.proved
end Go.Proofs.YtlghkomipboflaaDoor
end
