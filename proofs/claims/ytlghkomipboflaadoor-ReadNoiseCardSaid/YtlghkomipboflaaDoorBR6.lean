/- Texts of this claim, merged (part 6 of 13): SlF, Xx1, TyTh, TyMay, Xx13. -/
import Derived.WalkKit
import Derived.WalkSpells
import Derived.Lib.Hide
import Derived.Deep.LoopGhost
import Derived.OwnWalk
import Derived.Deep.QuietTactic
import Derived.BigQuiet
import Derived.BigRegion
import Derived.Shelf.Abstract
import Derived.Test.YtlghkomipboflaaDoorBR1
import Derived.Test.YtlghkomipboflaaDoorBR2
set_option linter.unusedVariables false
set_option linter.unusedSimpArgs false
section
namespace Go.Proofs.YtlghkomipboflaaDoor.Sh
open Go.RowKit Go.Proofs.YtlghkomipboflaaDoor Go.Proofs.YtlghkomipboflaaDoor.X Go.Proofs.YtlghkomipboflaaDoorW.PrintWords Go.Proofs.YtlghkomipboflaaDoorW.PrintLast Go.Proofs.YtlghkomipboflaaDoorW.PrintMore
set_option linter.unusedVariables false
set_option linter.unusedSimpArgs false
def idxB {α : Type} (p : α → Bool) : List α → Int → Int
  | [], _ => -1
  | x :: l, i => if p x then i else idxB p l (i + 1)
theorem any_idx {α : Type} (p : α → Bool) : ∀ (l : List α) (i : Int), 0 ≤ i → l.any p = decide (0 ≤ idxB p l i)
  | [], _, _ => rfl
  | x :: l, i, h => by
    unfold idxB
    cases hq : p x with
    | true => simp [hq, h]
    | false => simp [hq, any_idx p l (i + 1) (by omega)]
theorem at_idx {α : Type} (xs : List α) (i : Int) (h0 : 0 ≤ i) (h1 : i < (xs.length : Int)) : ∃ x, xs.drop i.toNat = x :: xs.drop (i.toNat + 1) ∧ x ∈ xs ∧ ∀ z, x = xs.getD i.toNat z :=
  ⟨xs[i.toNat]'(by omega), List.drop_eq_getElem_cons (by omega), List.getElem_mem _, fun z => by rw [List.getD_eq_getElem?_getD, List.getElem?_eq_getElem (by omega)]; rfl⟩
set_option maxHeartbeats 2000000 in
theorem idx_int (g : Nat) (lb : Array Value) (eg : ∀ args w, (callFunc g args).run Tryd.prog w = .ok (.enter g args) w) (A : Option Addr) (c : Nat) (xs : List Int) (p : Int → Bool) (w : World) (hC : (Kd.int .i64).C w A xs.length xs) (hc : xs.length ≤ c)
    (hp : ∀ (W : World) (x : Int), x ∈ xs → Below w.heap.size w W → Calls Tryd.prog g (#[.int .i64 x] ++ lb) W fun e w' => e = .returned (.bool (p x)) ∧ Below w.heap.size w w') :
    Calls Tryd.prog 79 #[.slice A xs.length c, .func (.func g) #[] lb] w fun e w' => e = .returned (.int .i64 (idxB p xs 0)) ∧ Below w.heap.size w w' := by
  have HC := Lib.hid hC
  have HP := Lib.hid hp
  have hmax := Kd.C_max hC
  obtain ⟨r, hr⟩ : ∃ r, r = idxB p xs 0 := ⟨_, rfl⟩
  rw [← hr]
  have HR := Lib.hid hr
  clear hC hp hr
  go_enter Tryd.func79, Tryd.ntmps79
  go_wp2
  go_loopg [5, 8] xs.length (fun gg _ s8 wr => ∃ (x8 : Int), 0 ≤ x8 ∧ x8 ≤ (xs.length : Int) ∧ (xs.length : Int) - x8 ≤ gg ∧ s8 = .int .i64 x8 ∧ Hid (Below w.heap.size w wr) ∧ Hid (r = idxB p (xs.drop x8.toNat) x8))
  case atStart => exact ⟨0, by omega, by omega, by omega, rfl, Below.refl _ w, HR.out⟩
  case round =>
    obtain ⟨x8, h0, hle, hg, rfl, HB, HI⟩ := hrel
    by_cases hlt : x8 < (xs.length : Int)
    · obtain ⟨x, hx, hmem, hrd⟩ := at_idx xs x8 h0 hlt
      have hrd := hrd 0
      obtain ⟨ad, rfl, hx0⟩ := Kd.at_int (Kd.C_below HC.out HB.out) x8 h0 hlt
      rw [show rd xs x8 = x from (hrd).symm] at hx0
      have hcall := HP.out _ x hmem HB.out
      have hi := HI.out
      rw [hx] at hi
      have hw : IntKind.i64.wrap (x8 + 1) = x8 + 1 := by rw [IntKind.wrap_i64]; omega
      have q0 := eq_true h0
      have q1 := eq_true hlt
      have HX := Lib.hid hx
      clear hx
      cases hq : p x with
      | true =>
        have hi2 : r = x8 := by rw [hi]; simp [idxB, hq]
        have HI2 := Lib.hid hi2
        rw [hq] at hcall
        clear hi hi2 hrd
        have HCALL := Lib.hid hcall
        clear hcall
        go_wp2_with (fail)
        refine HCALL.out.mono ?_
        rintro e w' ⟨rfl, hb'⟩
        go_wp2_with (fail)
        go_ret
        exact ⟨by rw [HI2.out]; rfl, hb'⟩
      | false =>
        have hi2 : r = idxB p (xs.drop (x8 + 1).toNat) (x8 + 1) := by
          rw [hi, show (x8 + 1).toNat = x8.toNat + 1 by omega]
          conv => lhs; unfold idxB
          rw [hq]; rfl
        have HI2 := Lib.hid hi2
        rw [hq] at hcall
        clear hi hi2 hrd
        have HCALL := Lib.hid hcall
        clear hcall
        go_wp2_with (fail)
        refine HCALL.out.mono ?_
        rintro e w' ⟨rfl, hb'⟩
        go_wp2_with (fail)
        go_roundg (gk - 1)
        case measure => omega
        case rel => exact ⟨x8 + 1, by omega, by omega, by omega, by first | rfl | (simp; done), hb', HI2.out⟩
    · have hi : r = -1 := by
        rw [HI.out, List.drop_eq_nil_of_le (by omega)]; rfl
      have HI2 := Lib.hid hi
      clear hi
      go_wp2
      go_ret
      exact ⟨by rw [HI2.out]; rfl, HB.out⟩
set_option maxHeartbeats 400000 in
theorem has_int (g : Nat) (lb : Array Value) (eg : ∀ args w, (callFunc g args).run Tryd.prog w = .ok (.enter g args) w) (A : Option Addr) (c : Nat) (xs : List Int) (p : Int → Bool) (w : World) (hC : (Kd.int .i64).C w A xs.length xs) (hc : xs.length ≤ c)
    (hp : ∀ (W : World) (x : Int), x ∈ xs → Below w.heap.size w W → Calls Tryd.prog g (#[.int .i64 x] ++ lb) W fun e w' => e = .returned (.bool (p x)) ∧ Below w.heap.size w w') :
    Calls Tryd.prog 58 #[.slice A xs.length c, .func (.func g) #[] lb] w fun e w' => e = .returned (.bool (xs.any p)) ∧ Below w.heap.size w w' := by
  have HI := Lib.hid (idx_int g lb eg A c xs p w hC hc hp)
  rw [any_idx p xs 0 (by omega)]
  generalize idxB p xs 0 = r at HI ⊢
  clear hC hc hp
  go_enter Tryd.func58, Tryd.ntmps58
  go_wp2_with (go_at_call 79; refine HI.out.mono ?_; rintro e w' ⟨rfl, hb⟩)
  go_ret
  exact ⟨rfl, hb⟩
set_option maxHeartbeats 2000000 in
theorem idx_Func (g : Nat) (lb : Array Value) (eg : ∀ args w, (callFunc g args).run Tryd.prog w = .ok (.enter g args) w) (A : Option Addr) (c : Nat) (xs : List S31) (p : S31 → Bool) (w : World) (hC : k31.C w A xs.length xs) (hc : xs.length ≤ c)
    (hp : ∀ (W : World) (x : S31) (A1 : Option Addr) (c1 : Nat), x ∈ xs → Below w.heap.size w W → x.f1.length ≤ c1 → k36.C W A1 x.f1.length x.f1 → Calls Tryd.prog g (#[.agg #[.int .i64 x.f0, .slice A1 x.f1.length c1]] ++ lb) W fun e w' => e = .returned (.bool (p x)) ∧ Below w.heap.size w w') :
    Calls Tryd.prog 41 #[.slice A xs.length c, .func (.func g) #[] lb] w fun e w' => e = .returned (.int .i64 (idxB p xs 0)) ∧ Below w.heap.size w w' := by
  have HC := Lib.hid hC
  have HP := Lib.hid hp
  have hmax := Kd.C_max hC
  obtain ⟨r, hr⟩ : ∃ r, r = idxB p xs 0 := ⟨_, rfl⟩
  rw [← hr]
  have HR := Lib.hid hr
  clear hC hp hr
  go_enter Tryd.func41, Tryd.ntmps41
  go_wp2
  go_loopg [5, 8] xs.length (fun gg _ s8 wr => ∃ (x8 : Int), 0 ≤ x8 ∧ x8 ≤ (xs.length : Int) ∧ (xs.length : Int) - x8 ≤ gg ∧ s8 = .int .i64 x8 ∧ Hid (Below w.heap.size w wr) ∧ Hid (r = idxB p (xs.drop x8.toNat) x8))
  case atStart => exact ⟨0, by omega, by omega, by omega, rfl, Below.refl _ w, HR.out⟩
  case round =>
    obtain ⟨x8, h0, hle, hg, rfl, HB, HI⟩ := hrel
    by_cases hlt : x8 < (xs.length : Int)
    · obtain ⟨x, hx, hmem, hrd⟩ := at_idx xs x8 h0 hlt
      have hrd := hrd z31
      obtain ⟨ad, A1, c1, rfl, hx0, hx1, l1, g1⟩ := at_T31 (Kd.C_below HC.out HB.out) x8 h0 hlt
      rw [show rd_T31 xs x8 = x from hrd.symm] at hx0 hx1 l1 g1
      have hcall := HP.out _ x A1 c1 hmem HB.out l1 g1
      have hi := HI.out
      rw [hx] at hi
      have hw : IntKind.i64.wrap (x8 + 1) = x8 + 1 := by rw [IntKind.wrap_i64]; omega
      have q0 := eq_true h0
      have q1 := eq_true hlt
      have HX := Lib.hid hx
      clear hx
      cases hq : p x with
      | true =>
        have hi2 : r = x8 := by rw [hi]; simp [idxB, hq]
        have HI2 := Lib.hid hi2
        rw [hq] at hcall
        clear hi hi2 hrd
        have HCALL := Lib.hid hcall
        clear hcall
        go_wp2_with (fail)
        refine HCALL.out.mono ?_
        rintro e w' ⟨rfl, hb'⟩
        go_wp2_with (fail)
        go_ret
        exact ⟨by rw [HI2.out]; rfl, hb'⟩
      | false =>
        have hi2 : r = idxB p (xs.drop (x8 + 1).toNat) (x8 + 1) := by
          rw [hi, show (x8 + 1).toNat = x8.toNat + 1 by omega]
          conv => lhs; unfold idxB
          rw [hq]; rfl
        have HI2 := Lib.hid hi2
        rw [hq] at hcall
        clear hi hi2 hrd
        have HCALL := Lib.hid hcall
        clear hcall
        go_wp2_with (fail)
        refine HCALL.out.mono ?_
        rintro e w' ⟨rfl, hb'⟩
        go_wp2_with (fail)
        go_roundg (gk - 1)
        case measure => omega
        case rel => exact ⟨x8 + 1, by omega, by omega, by omega, by first | rfl | (simp; done), hb', HI2.out⟩
    · have hi : r = -1 := by
        rw [HI.out, List.drop_eq_nil_of_le (by omega)]; rfl
      have HI2 := Lib.hid hi
      clear hi
      go_wp2
      go_ret
      exact ⟨by rw [HI2.out]; rfl, HB.out⟩
set_option maxHeartbeats 400000 in
theorem has_Func (g : Nat) (lb : Array Value) (eg : ∀ args w, (callFunc g args).run Tryd.prog w = .ok (.enter g args) w) (A : Option Addr) (c : Nat) (xs : List S31) (p : S31 → Bool) (w : World) (hC : k31.C w A xs.length xs) (hc : xs.length ≤ c)
    (hp : ∀ (W : World) (x : S31) (A1 : Option Addr) (c1 : Nat), x ∈ xs → Below w.heap.size w W → x.f1.length ≤ c1 → k36.C W A1 x.f1.length x.f1 → Calls Tryd.prog g (#[.agg #[.int .i64 x.f0, .slice A1 x.f1.length c1]] ++ lb) W fun e w' => e = .returned (.bool (p x)) ∧ Below w.heap.size w w') :
    Calls Tryd.prog 23 #[.slice A xs.length c, .func (.func g) #[] lb] w fun e w' => e = .returned (.bool (xs.any p)) ∧ Below w.heap.size w w' := by
  have HI := Lib.hid (idx_Func g lb eg A c xs p w hC hc hp)
  rw [any_idx p xs 0 (by omega)]
  generalize idxB p xs 0 = r at HI ⊢
  clear hC hc hp
  go_enter Tryd.func23, Tryd.ntmps23
  go_wp2_with (go_at_call 41; refine HI.out.mono ?_; rintro e w' ⟨rfl, hb⟩)
  go_ret
  exact ⟨rfl, hb⟩
set_option maxHeartbeats 2000000 in
theorem idx_Block (g : Nat) (lb : Array Value) (eg : ∀ args w, (callFunc g args).run Tryd.prog w = .ok (.enter g args) w) (A : Option Addr) (c : Nat) (xs : List S36) (p : S36 → Bool) (w : World) (hC : k36.C w A xs.length xs) (hc : xs.length ≤ c)
    (hp : ∀ (W : World) (x : S36) (A0 : Option Addr) (c0 : Nat), x ∈ xs → Below w.heap.size w W → x.f0.length ≤ c0 → k39.C W A0 x.f0.length x.f0 → Calls Tryd.prog g (#[.agg #[.slice A0 x.f0.length c0, .int .u8 x.f1.f0, .int .i64 x.f1.f1, .int .i64 x.f1.f2, .int .i64 x.f1.f3]] ++ lb) W fun e w' => e = .returned (.bool (p x)) ∧ Below w.heap.size w w') :
    Calls Tryd.prog 65 #[.slice A xs.length c, .func (.func g) #[] lb] w fun e w' => e = .returned (.int .i64 (idxB p xs 0)) ∧ Below w.heap.size w w' := by
  have HC := Lib.hid hC
  have HP := Lib.hid hp
  have hmax := Kd.C_max hC
  obtain ⟨r, hr⟩ : ∃ r, r = idxB p xs 0 := ⟨_, rfl⟩
  rw [← hr]
  have HR := Lib.hid hr
  clear hC hp hr
  go_enter Tryd.func65, Tryd.ntmps65
  go_wp2
  go_loopg [5, 8] xs.length (fun gg _ s8 wr => ∃ (x8 : Int), 0 ≤ x8 ∧ x8 ≤ (xs.length : Int) ∧ (xs.length : Int) - x8 ≤ gg ∧ s8 = .int .i64 x8 ∧ Hid (Below w.heap.size w wr) ∧ Hid (r = idxB p (xs.drop x8.toNat) x8))
  case atStart => exact ⟨0, by omega, by omega, by omega, rfl, Below.refl _ w, HR.out⟩
  case round =>
    obtain ⟨x8, h0, hle, hg, rfl, HB, HI⟩ := hrel
    by_cases hlt : x8 < (xs.length : Int)
    · obtain ⟨x, hx, hmem, hrd⟩ := at_idx xs x8 h0 hlt
      have hrd := hrd z36
      obtain ⟨ad, A0, c0, rfl, hx0, hx1, hx2, hx3, hx4, l0, g0⟩ := at_T36 (Kd.C_below HC.out HB.out) x8 h0 hlt
      rw [show rd_T36 xs x8 = x from hrd.symm] at hx0 hx1 hx2 hx3 hx4 l0 g0
      have hcall := HP.out _ x A0 c0 hmem HB.out l0 g0
      have hi := HI.out
      rw [hx] at hi
      have hw : IntKind.i64.wrap (x8 + 1) = x8 + 1 := by rw [IntKind.wrap_i64]; omega
      have q0 := eq_true h0
      have q1 := eq_true hlt
      have HX := Lib.hid hx
      clear hx
      cases hq : p x with
      | true =>
        have hi2 : r = x8 := by rw [hi]; simp [idxB, hq]
        have HI2 := Lib.hid hi2
        rw [hq] at hcall
        clear hi hi2 hrd
        have HCALL := Lib.hid hcall
        clear hcall
        go_wp2_with (fail)
        refine HCALL.out.mono ?_
        rintro e w' ⟨rfl, hb'⟩
        go_wp2_with (fail)
        go_ret
        exact ⟨by rw [HI2.out]; rfl, hb'⟩
      | false =>
        have hi2 : r = idxB p (xs.drop (x8 + 1).toNat) (x8 + 1) := by
          rw [hi, show (x8 + 1).toNat = x8.toNat + 1 by omega]
          conv => lhs; unfold idxB
          rw [hq]; rfl
        have HI2 := Lib.hid hi2
        rw [hq] at hcall
        clear hi hi2 hrd
        have HCALL := Lib.hid hcall
        clear hcall
        go_wp2_with (fail)
        refine HCALL.out.mono ?_
        rintro e w' ⟨rfl, hb'⟩
        go_wp2_with (fail)
        go_roundg (gk - 1)
        case measure => omega
        case rel => exact ⟨x8 + 1, by omega, by omega, by omega, by first | rfl | (simp; done), hb', HI2.out⟩
    · have hi : r = -1 := by
        rw [HI.out, List.drop_eq_nil_of_le (by omega)]; rfl
      have HI2 := Lib.hid hi
      clear hi
      go_wp2
      go_ret
      exact ⟨by rw [HI2.out]; rfl, HB.out⟩
set_option maxHeartbeats 400000 in
theorem has_Block (g : Nat) (lb : Array Value) (eg : ∀ args w, (callFunc g args).run Tryd.prog w = .ok (.enter g args) w) (A : Option Addr) (c : Nat) (xs : List S36) (p : S36 → Bool) (w : World) (hC : k36.C w A xs.length xs) (hc : xs.length ≤ c)
    (hp : ∀ (W : World) (x : S36) (A0 : Option Addr) (c0 : Nat), x ∈ xs → Below w.heap.size w W → x.f0.length ≤ c0 → k39.C W A0 x.f0.length x.f0 → Calls Tryd.prog g (#[.agg #[.slice A0 x.f0.length c0, .int .u8 x.f1.f0, .int .i64 x.f1.f1, .int .i64 x.f1.f2, .int .i64 x.f1.f3]] ++ lb) W fun e w' => e = .returned (.bool (p x)) ∧ Below w.heap.size w w') :
    Calls Tryd.prog 45 #[.slice A xs.length c, .func (.func g) #[] lb] w fun e w' => e = .returned (.bool (xs.any p)) ∧ Below w.heap.size w w' := by
  have HI := Lib.hid (idx_Block g lb eg A c xs p w hC hc hp)
  rw [any_idx p xs 0 (by omega)]
  generalize idxB p xs 0 = r at HI ⊢
  clear hC hc hp
  go_enter Tryd.func45, Tryd.ntmps45
  go_wp2_with (go_at_call 65; refine HI.out.mono ?_; rintro e w' ⟨rfl, hb⟩)
  go_ret
  exact ⟨rfl, hb⟩
set_option maxHeartbeats 2000000 in
theorem idx_Ins (g : Nat) (lb : Array Value) (eg : ∀ args w, (callFunc g args).run Tryd.prog w = .ok (.enter g args) w) (A : Option Addr) (c : Nat) (xs : List S39) (p : S39 → Bool) (w : World) (hC : k39.C w A xs.length xs) (hc : xs.length ≤ c)
    (hp : ∀ (W : World) (x : S39) (A5 : Option Addr) (c5 : Nat) (A6 : Option Addr) (c6 : Nat), x ∈ xs → Below w.heap.size w W → x.f5.length ≤ c5 → (Kd.int .i64).C W A5 x.f5.length x.f5 → x.f6.length ≤ c6 → (Kd.int .i64).C W A6 x.f6.length x.f6 → Calls Tryd.prog g (#[.agg #[.int .u8 x.f0, .int .i64 x.f1, .int .i64 x.f2, .int .i64 x.f3, .int .i64 x.f4, .slice A5 x.f5.length c5, .slice A6 x.f6.length c6]] ++ lb) W fun e w' => e = .returned (.bool (p x)) ∧ Below w.heap.size w w') :
    Calls Tryd.prog 66 #[.slice A xs.length c, .func (.func g) #[] lb] w fun e w' => e = .returned (.int .i64 (idxB p xs 0)) ∧ Below w.heap.size w w' := by
  have HC := Lib.hid hC
  have HP := Lib.hid hp
  have hmax := Kd.C_max hC
  obtain ⟨r, hr⟩ : ∃ r, r = idxB p xs 0 := ⟨_, rfl⟩
  rw [← hr]
  have HR := Lib.hid hr
  clear hC hp hr
  go_enter Tryd.func66, Tryd.ntmps66
  go_wp2
  go_loopg [5, 8] xs.length (fun gg _ s8 wr => ∃ (x8 : Int), 0 ≤ x8 ∧ x8 ≤ (xs.length : Int) ∧ (xs.length : Int) - x8 ≤ gg ∧ s8 = .int .i64 x8 ∧ Hid (Below w.heap.size w wr) ∧ Hid (r = idxB p (xs.drop x8.toNat) x8))
  case atStart => exact ⟨0, by omega, by omega, by omega, rfl, Below.refl _ w, HR.out⟩
  case round =>
    obtain ⟨x8, h0, hle, hg, rfl, HB, HI⟩ := hrel
    by_cases hlt : x8 < (xs.length : Int)
    · obtain ⟨x, hx, hmem, hrd⟩ := at_idx xs x8 h0 hlt
      have hrd := hrd z39
      obtain ⟨ad, A5, c5, A6, c6, rfl, hx0, hx1, hx2, hx3, hx4, hx5, hx6, l5, g5, l6, g6⟩ := at_T39 (Kd.C_below HC.out HB.out) x8 h0 hlt
      rw [show rd_T39 xs x8 = x from hrd.symm] at hx0 hx1 hx2 hx3 hx4 hx5 hx6 l5 g5 l6 g6
      have hcall := HP.out _ x A5 c5 A6 c6 hmem HB.out l5 g5 l6 g6
      have hi := HI.out
      rw [hx] at hi
      have hw : IntKind.i64.wrap (x8 + 1) = x8 + 1 := by rw [IntKind.wrap_i64]; omega
      have q0 := eq_true h0
      have q1 := eq_true hlt
      have HX := Lib.hid hx
      clear hx
      cases hq : p x with
      | true =>
        have hi2 : r = x8 := by rw [hi]; simp [idxB, hq]
        have HI2 := Lib.hid hi2
        rw [hq] at hcall
        clear hi hi2 hrd
        have HCALL := Lib.hid hcall
        clear hcall
        go_wp2_with (fail)
        refine HCALL.out.mono ?_
        rintro e w' ⟨rfl, hb'⟩
        go_wp2_with (fail)
        go_ret
        exact ⟨by rw [HI2.out]; rfl, hb'⟩
      | false =>
        have hi2 : r = idxB p (xs.drop (x8 + 1).toNat) (x8 + 1) := by
          rw [hi, show (x8 + 1).toNat = x8.toNat + 1 by omega]
          conv => lhs; unfold idxB
          rw [hq]; rfl
        have HI2 := Lib.hid hi2
        rw [hq] at hcall
        clear hi hi2 hrd
        have HCALL := Lib.hid hcall
        clear hcall
        go_wp2_with (fail)
        refine HCALL.out.mono ?_
        rintro e w' ⟨rfl, hb'⟩
        go_wp2_with (fail)
        go_roundg (gk - 1)
        case measure => omega
        case rel => exact ⟨x8 + 1, by omega, by omega, by omega, by first | rfl | (simp; done), hb', HI2.out⟩
    · have hi : r = -1 := by
        rw [HI.out, List.drop_eq_nil_of_le (by omega)]; rfl
      have HI2 := Lib.hid hi
      clear hi
      go_wp2
      go_ret
      exact ⟨by rw [HI2.out]; rfl, HB.out⟩
set_option maxHeartbeats 400000 in
theorem has_Ins (g : Nat) (lb : Array Value) (eg : ∀ args w, (callFunc g args).run Tryd.prog w = .ok (.enter g args) w) (A : Option Addr) (c : Nat) (xs : List S39) (p : S39 → Bool) (w : World) (hC : k39.C w A xs.length xs) (hc : xs.length ≤ c)
    (hp : ∀ (W : World) (x : S39) (A5 : Option Addr) (c5 : Nat) (A6 : Option Addr) (c6 : Nat), x ∈ xs → Below w.heap.size w W → x.f5.length ≤ c5 → (Kd.int .i64).C W A5 x.f5.length x.f5 → x.f6.length ≤ c6 → (Kd.int .i64).C W A6 x.f6.length x.f6 → Calls Tryd.prog g (#[.agg #[.int .u8 x.f0, .int .i64 x.f1, .int .i64 x.f2, .int .i64 x.f3, .int .i64 x.f4, .slice A5 x.f5.length c5, .slice A6 x.f6.length c6]] ++ lb) W fun e w' => e = .returned (.bool (p x)) ∧ Below w.heap.size w w') :
    Calls Tryd.prog 47 #[.slice A xs.length c, .func (.func g) #[] lb] w fun e w' => e = .returned (.bool (xs.any p)) ∧ Below w.heap.size w w' := by
  have HI := Lib.hid (idx_Ins g lb eg A c xs p w hC hc hp)
  rw [any_idx p xs 0 (by omega)]
  generalize idxB p xs 0 = r at HI ⊢
  clear hC hc hp
  go_enter Tryd.func47, Tryd.ntmps47
  go_wp2_with (go_at_call 66; refine HI.out.mono ?_; rintro e w' ⟨rfl, hb⟩)
  go_ret
  exact ⟨rfl, hb⟩
end Go.Proofs.YtlghkomipboflaaDoor.Sh
end
section
namespace Go.Proofs.YtlghkomipboflaaDoor.X
open Go.RowKit Go.Proofs.YtlghkomipboflaaDoorW.PrintWords Go.Proofs.YtlghkomipboflaaDoorW.PrintLast Go.Proofs.YtlghkomipboflaaDoorW.PrintMore
attribute [local go_sem] max2_int min2_int max_two min_two max_three min_three max_four min_four
set_option linter.unusedVariables false
set_option linter.unusedSimpArgs false
theorem eqA34 (d : Nat) (w : World) (x0 y0 : Int) (x1 y1 : Int) (x2 y2 : Int) (x3 y3 : Int) :
    (Op.equalIn (d + 2) 34 (.agg #[.int .u8 x0, .int .i64 x1, .int .i64 x2, .int .i64 x3]) (.agg #[.int .u8 y0, .int .i64 y1, .int .i64 y2, .int .i64 y3])).run Tryd.prog w = .ok (x0 == y0 && (x1 == y1 && (x2 == y2 && (x3 == y3)))) w := by
  refine eqA_of Tryd.underlying34 (by kernel_rfl) ?_
  refine eqf_cons (by rfl) (by go_simp; rfl) (by go_simp; rfl) (by go_simp) ?_
  refine eqf_cons (by rfl) (by go_simp; rfl) (by go_simp; rfl) (by go_simp) ?_
  refine eqf_cons (by rfl) (by go_simp; rfl) (by go_simp; rfl) (by go_simp) ?_
  exact eqf_last (by rfl) (by go_simp; rfl) (by go_simp; rfl) (by go_simp)
end Go.Proofs.YtlghkomipboflaaDoor.X
end
section
namespace Go.Proofs.YtlghkomipboflaaDoor.Sh
open Go.RowKit Go.Proofs.YtlghkomipboflaaDoor Go.Proofs.YtlghkomipboflaaDoor.X Go.Proofs.YtlghkomipboflaaDoorW.PrintWords Go.Proofs.YtlghkomipboflaaDoorW.PrintLast Go.Proofs.YtlghkomipboflaaDoorW.PrintMore
set_option linter.unusedVariables false
set_option linter.unusedSimpArgs false
def outB (most n : Int) : Bool := decide (n < 0) || decide (most ≤ n)
def thereB (most : Int) (l : List Int) : Bool := !l.any (outB most)
theorem there1 (most n : Int) (B : Nat) (W : World) (hc : W.cell? ⟨B, 0, none⟩ = some (.int .i64 most)) :
    Calls Tryd.prog 78 #[.int .i64 n, .pointer (some ⟨B, 0, none⟩)] W fun e w' => e = .returned (.bool (outB most n)) ∧ w' = W := by
  unfold outB
  by_cases h0 : n < 0
  · have d0 : decide (n < 0) = true := decide_eq_true h0
    rw [d0]
    go_enter Tryd.func78, Tryd.ntmps78
    go_wp2
    go_ret
    exact ⟨rfl, rfl⟩
  · have d0 : decide (n < 0) = false := decide_eq_false h0
    rw [d0, Bool.false_or]
    clear h0
    by_cases h1 : most ≤ n
    · have d1 : decide (most ≤ n) = true := decide_eq_true h1
      rw [d1]
      go_enter Tryd.func78, Tryd.ntmps78
      go_wp2
      go_ret
      exact ⟨rfl, rfl⟩
    · have d1 : decide (most ≤ n) = false := decide_eq_false h1
      rw [d1]
      go_enter Tryd.func78, Tryd.ntmps78
      go_wp2
      go_ret
      exact ⟨rfl, rfl⟩
theorem there_call (most : Int) (A : Option Addr) (c : Nat) (l : List Int) (w : World) (hC : (Kd.int .i64).C w A l.length l) (hc : l.length ≤ c) :
    Calls Tryd.prog 57 #[.int .i64 most, .slice A l.length c] w fun e w' => e = .returned (.bool (thereB most l)) ∧ Below w.heap.size w w' := by
  have eg : ∀ args w, (callFunc 78 args).run Tryd.prog w = .ok (.enter 78 args) w := enters_of Tryd.func78 (by kernel_rfl) rfl
  have hmf : ∀ (fn : Fn) (first cap : Array Value) (w : World), (Instr.makeFunc fn first cap).run Tryd.prog w = .ok (.func fn first cap) w := fun _ _ _ _ => rfl
  have hcon := Lib.hid (has_int 78 #[.pointer (some ⟨w.heap.size, 0, none⟩)] eg A c l (outB most) (w.alloc (.cells #[.int .i64 most] 3)) (Kd.C_alloc hC _) hc
    (fun W x hx hb => (there1 most x w.heap.size W ((hb.cell (p := ⟨w.heap.size, 0, none⟩) (by simp)).trans (by simp))).mono fun e w' ⟨he, hw⟩ => ⟨he, by rw [hw]; exact hb⟩))
  unfold thereB
  generalize l.any (outB most) = r at hcon ⊢
  clear eg hC hc
  go_enter Tryd.func57, Tryd.ntmps57
  go_wp2_with (go_at_call 58; refine hcon.out.mono ?_; rintro e w' ⟨rfl, hb⟩)
  go_ret
  exact ⟨rfl, (below_alloc (Below.refl _ w) _).trans (hb.mono (by simp))⟩
end Go.Proofs.YtlghkomipboflaaDoor.Sh
end
section
namespace Go.Proofs.YtlghkomipboflaaDoor.Sh
open Go.RowKit Go.Proofs.YtlghkomipboflaaDoor Go.Proofs.YtlghkomipboflaaDoor.X Go.Proofs.YtlghkomipboflaaDoorW.PrintWords Go.Proofs.YtlghkomipboflaaDoorW.PrintLast Go.Proofs.YtlghkomipboflaaDoorW.PrintMore
set_option linter.unusedVariables false
set_option linter.unusedSimpArgs false
def plainB (f0 f1 f2 : Int) (f3 : List Int) : Bool :=
  if f0 = 1 then f1 == 0 && f2 == 0 && f3.isEmpty else if f0 = 2 then f2 == 0 && f3.isEmpty else if f0 = 4 then f1 == 0 && f2 == 0 else if f0 = 3 then f2 == 0 else if f0 = 5 then f3.isEmpty else true
theorem isE (l : List Int) : ((l.length : Int) == 0) = l.isEmpty := by
  cases l with
  | nil => rfl
  | cons x l => rw [beq_eq_false_iff_ne.2 (by simp; omega)]; rfl
theorem plain_f (f0 f1 f2 : Int) (f3 : List Int) : types_plain.f f0 f1 f2 f3 = some (plainB f0 f1 f2 f3) := by
  unfold types_plain.f plainB
  rw [isE]
  repeat' split
  all_goals simp_all
theorem plain_call (f0 f1 f2 : Int) (A3 : Option Addr) (c3 : Nat) (f3 : List Int) (w W : World) (l3 : f3.length ≤ c3) (g3 : (Kd.int .i64).C w A3 f3.length f3) (hb : Below w.heap.size w W) :
    Calls Tryd.prog 56 #[.agg #[.int .u8 f0, .int .i64 f1, .int .i64 f2, .slice A3 f3.length c3]] W fun e w' => e = .returned (.bool (plainB f0 f1 f2 f3)) ∧ Below W.heap.size W w' :=
  types_plain.calls f0 f1 f2 A3 c3 f3 _ W (Kd.C_below g3 hb) l3 (plain_f f0 f1 f2 f3)
structure MB (w : World) (v c0 c1 c2 c3 : Value) (W : World) : Prop where
  below : Below w.heap.size w W
  b0 : W.heap[w.heap.size]? = some (.cells #[v] 22 (0, 0))
  b1 : W.heap[w.heap.size + 1]? = some (.cells #[c0, c1, c2, c3] 41 (0, 0))
theorem MB.start (w : World) (v c0 c1 c2 c3 : Value) : MB w v c0 c1 c2 c3 ((w.alloc (.cells #[v] 22)).alloc (.cells #[c0, c1, c2, c3] 41)) :=
  ⟨below_alloc (below_alloc (Below.refl _ _) _) _, by
    rw [(below_alloc (Below.refl _ (w.alloc (.cells #[v] 22))) _).block _ (by simp)]; exact heap_alloc_new w _, by
    have := heap_alloc_new (w.alloc (.cells #[v] 22)) (.cells #[c0, c1, c2, c3] 41)
    simpa using this⟩
theorem MB.later {w : World} {v c0 c1 c2 c3 : Value} {W W1 : World} (h : MB w v c0 c1 c2 c3 W) (hb : Below W.heap.size W W1) : MB w v c0 c1 c2 c3 W1 :=
  ⟨h.below.trans (hb.mono h.below.size), by rw [hb.block _ (blk_lt h.b0)]; exact h.b0, by rw [hb.block _ (blk_lt h.b1)]; exact h.b1⟩
theorem MB.c0 {w : World} {v c0 c1 c2 c3 : Value} {W : World} (h : MB w v c0 c1 c2 c3 W) : W.cell? ⟨w.heap.size, 0, none⟩ = some v := by simp [World.cell?, h.b0]
theorem MB.d0 {w : World} {v c0 c1 c2 c3 : Value} {W : World} (h : MB w v c0 c1 c2 c3 W) : W.cell? ⟨w.heap.size + 1, 0, none⟩ = some c0 := by simp [World.cell?, h.b1]
theorem MB.d1 {w : World} {v c0 c1 c2 c3 : Value} {W : World} (h : MB w v c0 c1 c2 c3 W) : W.cell? ⟨w.heap.size + 1, 1, none⟩ = some c1 := by simp [World.cell?, h.b1]
theorem MB.d2 {w : World} {v c0 c1 c2 c3 : Value} {W : World} (h : MB w v c0 c1 c2 c3 W) : W.cell? ⟨w.heap.size + 1, 2, none⟩ = some c2 := by simp [World.cell?, h.b1]
theorem MB.d3 {w : World} {v c0 c1 c2 c3 : Value} {W : World} (h : MB w v c0 c1 c2 c3 W) : W.cell? ⟨w.heap.size + 1, 3, none⟩ = some c3 := by simp [World.cell?, h.b1]
def MayEnd (w : World) (r : Int × Bool) (e : Ending) (w' : World) : Prop := e = .returned (.tuple #[.int .i64 r.1, .bool r.2]) ∧ Below w.heap.size w w'
set_option maxHeartbeats 1600000 in
set_option maxRecDepth 100000 in
theorem may_int (t : List S41) (ad : Addr) (c : Nat) (k : Int) (As : Option Addr) (cs : Nat) (sizes : List Int) (f1 f2 : Int) (f3 : List Int) (A3 : Option Addr) (c3 : Nat) (w : World)
    (hCt : k41.C w (some ad) t.length t) (hc : t.length ≤ c) (hCs : (Kd.int .i64).C w As sizes.length sizes) (hcs : sizes.length ≤ cs) (h0 : 0 ≤ k) (h1 : k < (t.length : Int))
    (x0 : w.cell? (ad.add (k.toNat * 4)) = some (.int .u8 1)) (x1 : w.cell? ⟨(ad.add (k.toNat * 4)).block, (ad.add (k.toNat * 4)).off + 1, none⟩ = some (.int .i64 f1)) (x2 : w.cell? ⟨(ad.add (k.toNat * 4)).block, (ad.add (k.toNat * 4)).off + 2, none⟩ = some (.int .i64 f2)) (x3 : w.cell? ⟨(ad.add (k.toNat * 4)).block, (ad.add (k.toNat * 4)).off + 3, none⟩ = some (.slice A3 f3.length c3))
    (l3 : f3.length ≤ c3) (g3 : (Kd.int .i64).C w A3 f3.length f3) :
    Calls Tryd.prog 40 #[.slice (some ad) t.length c, .int .i64 k, .slice As sizes.length cs] w (MayEnd w (1, plainB 1 f1 f2 f3)) := by
  have y0 := Lib.cell?_alloc_some (.cells #[.slice (some ad) t.length c] 22) x0
  have y1 := Lib.cell?_alloc_some (.cells #[.slice (some ad) t.length c] 22) x1
  have y2 := Lib.cell?_alloc_some (.cells #[.slice (some ad) t.length c] 22) x2
  have y3 := Lib.cell?_alloc_some (.cells #[.slice (some ad) t.length c] 22) x3
  have HPL := Lib.hid (fun W hb => plain_call 1 f1 f2 A3 c3 f3 w W l3 g3 hb)
  have HT := Lib.hid hCt
  have HS := Lib.hid hCs
  have G3 := Lib.hid g3
  have HL3 := Lib.hid l3
  have p0 := eq_true h0
  have p1 := eq_true h1
  clear x0 x1 x2 x3 hCt hCs g3 l3
  generalize hpl : plainB 1 f1 f2 f3 = pl at HPL ⊢
  clear hpl
  cases pl
  · go_enter Tryd.func40, Tryd.ntmps40
    go_wp2_with (go_at_call 56; refine (HPL.out _ (MB.start _ _ _ _ _ _).below).mono ?_; rintro e w2 ⟨rfl, hb⟩; have hm := (MB.start w _ _ _ _ _).later hb; have HM := Lib.hid hm; have m0 := hm.c0; have m1 := hm.d0; have m2 := hm.d1; have m3 := hm.d2; have m4 := hm.d3; have hz := blk_lt hm.b1; clear hm hb y0 y1 y2 y3)
    go_ret2
    exact ⟨rfl, HM.out.below⟩
  · go_enter Tryd.func40, Tryd.ntmps40
    go_wp2_with (go_at_call 56; refine (HPL.out _ (MB.start _ _ _ _ _ _).below).mono ?_; rintro e w2 ⟨rfl, hb⟩; have hm := (MB.start w _ _ _ _ _).later hb; have HM := Lib.hid hm; have m0 := hm.c0; have m1 := hm.d0; have m2 := hm.d1; have m3 := hm.d2; have m4 := hm.d3; have hz := blk_lt hm.b1; clear hm hb y0 y1 y2 y3)
    go_ret2
    exact ⟨rfl, HM.out.below⟩
theorem one_R (w : World) (base : Nat) (hb : base ≤ w.heap.size) (f : Int) : (Kd.int .i64).R 3 (w.alloc (.cells #[.int .i64 f] 3)) base (fun _ => True) (.slice (some ⟨w.heap.size, 0, none⟩) 1 1) [f] := by
  have h := World.ownsRow_lit (base := base) (e := 3) (size := 1) w #[.int .i64 f] 1 hb (by decide) (by simp)
  exact Kd.R_of_own (enc := Value.int .i64) (by simpa [encs] using h) (fun _ _ => trivial)
theorem there_one (most f : Int) (W : World) :
    Calls Tryd.prog 57 #[.int .i64 most, .slice (some ⟨W.heap.size, 0, none⟩) 1 1] (W.alloc (.cells #[.int .i64 f] 3)) fun e w' => e = .returned (.bool (thereB most [f])) ∧ Below W.heap.size W w' :=
  (there_call most _ 1 [f] _ (Kd.R_reads' (one_R W W.heap.size (Nat.le_refl _) f)).2.2 (Nat.le_refl _)).mono fun e w' ⟨he, hb⟩ => ⟨he, (below_alloc (Below.refl _ W) _).trans (hb.mono (by simp))⟩
set_option maxHeartbeats 1600000 in
set_option maxRecDepth 100000 in
theorem may_other (t : List S41) (ad : Addr) (c : Nat) (k : Int) (As : Option Addr) (cs : Nat) (sizes : List Int) (f0 f1 f2 : Int) (f3 : List Int) (A3 : Option Addr) (c3 : Nat) (w : World)
    (hCt : k41.C w (some ad) t.length t) (hc : t.length ≤ c) (hCs : (Kd.int .i64).C w As sizes.length sizes) (hcs : sizes.length ≤ cs) (h0 : 0 ≤ k) (h1 : k < (t.length : Int))
    (x0 : w.cell? (ad.add (k.toNat * 4)) = some (.int .u8 f0)) (x1 : w.cell? ⟨(ad.add (k.toNat * 4)).block, (ad.add (k.toNat * 4)).off + 1, none⟩ = some (.int .i64 f1)) (x2 : w.cell? ⟨(ad.add (k.toNat * 4)).block, (ad.add (k.toNat * 4)).off + 2, none⟩ = some (.int .i64 f2)) (x3 : w.cell? ⟨(ad.add (k.toNat * 4)).block, (ad.add (k.toNat * 4)).off + 3, none⟩ = some (.slice A3 f3.length c3))
    (l3 : f3.length ≤ c3) (g3 : (Kd.int .i64).C w A3 f3.length f3) (n1 : (f0 == 1) = false) (n2 : (f0 == 2) = false) (n3 : (f0 == 3) = false) (n4 : (f0 == 4) = false) (n5 : (f0 == 5) = false) :
    Calls Tryd.prog 40 #[.slice (some ad) t.length c, .int .i64 k, .slice As sizes.length cs] w (MayEnd w (1, false)) := by
  have y0 := Lib.cell?_alloc_some (.cells #[.slice (some ad) t.length c] 22) x0
  have y1 := Lib.cell?_alloc_some (.cells #[.slice (some ad) t.length c] 22) x1
  have y2 := Lib.cell?_alloc_some (.cells #[.slice (some ad) t.length c] 22) x2
  have y3 := Lib.cell?_alloc_some (.cells #[.slice (some ad) t.length c] 22) x3
  have HPL := Lib.hid (fun W hb => plain_call f0 f1 f2 A3 c3 f3 w W l3 g3 hb)
  have HT := Lib.hid hCt
  have HS := Lib.hid hCs
  have G3 := Lib.hid g3
  have HL3 := Lib.hid l3
  have p0 := eq_true h0
  have p1 := eq_true h1
  clear x0 x1 x2 x3 hCt hCs g3 l3
  generalize plainB f0 f1 f2 f3 = pl at HPL ⊢
  go_enter Tryd.func40, Tryd.ntmps40
  go_wp2_with (go_at_call 56; refine (HPL.out _ (MB.start _ _ _ _ _ _).below).mono ?_; rintro e w2 ⟨rfl, hb⟩; have hm := (MB.start w _ _ _ _ _).later hb; have HM := Lib.hid hm; have m0 := hm.c0; have m1 := hm.d0; have m2 := hm.d1; have m3 := hm.d2; have m4 := hm.d3; have hz := blk_lt hm.b1; clear hm hb y0 y1 y2 y3)
  go_ret2
  exact ⟨rfl, HM.out.below⟩
set_option maxHeartbeats 1600000 in
set_option maxRecDepth 100000 in
theorem may_ptr (t : List S41) (ad : Addr) (c : Nat) (k : Int) (As : Option Addr) (cs : Nat) (sizes : List Int) (f1 f2 : Int) (f3 : List Int) (A3 : Option Addr) (c3 : Nat) (w : World)
    (hCt : k41.C w (some ad) t.length t) (hc : t.length ≤ c) (hCs : (Kd.int .i64).C w As sizes.length sizes) (hcs : sizes.length ≤ cs) (h0 : 0 ≤ k) (h1 : k < (t.length : Int))
    (x0 : w.cell? (ad.add (k.toNat * 4)) = some (.int .u8 2)) (x1 : w.cell? ⟨(ad.add (k.toNat * 4)).block, (ad.add (k.toNat * 4)).off + 1, none⟩ = some (.int .i64 f1)) (x2 : w.cell? ⟨(ad.add (k.toNat * 4)).block, (ad.add (k.toNat * 4)).off + 2, none⟩ = some (.int .i64 f2)) (x3 : w.cell? ⟨(ad.add (k.toNat * 4)).block, (ad.add (k.toNat * 4)).off + 3, none⟩ = some (.slice A3 f3.length c3))
    (l3 : f3.length ≤ c3) (g3 : (Kd.int .i64).C w A3 f3.length f3) :
    Calls Tryd.prog 40 #[.slice (some ad) t.length c, .int .i64 k, .slice As sizes.length cs] w (MayEnd w (1, plainB 2 f1 f2 f3 && thereB t.length [f1])) := by
  have y0 := Lib.cell?_alloc_some (.cells #[.slice (some ad) t.length c] 22) x0
  have y1 := Lib.cell?_alloc_some (.cells #[.slice (some ad) t.length c] 22) x1
  have y2 := Lib.cell?_alloc_some (.cells #[.slice (some ad) t.length c] 22) x2
  have y3 := Lib.cell?_alloc_some (.cells #[.slice (some ad) t.length c] 22) x3
  have HPL := Lib.hid (fun W hb => plain_call 2 f1 f2 A3 c3 f3 w W l3 g3 hb)
  have HT := Lib.hid hCt
  have HS := Lib.hid hCs
  have G3 := Lib.hid g3
  have HL3 := Lib.hid l3
  have p0 := eq_true h0
  have p1 := eq_true h1
  clear x0 x1 x2 x3 hCt hCs g3 l3
  have HTH := Lib.hid (fun W => there_one t.length f1 W)
  generalize plainB 2 f1 f2 f3 = pl at HPL ⊢
  generalize thereB t.length [f1] = th at HTH ⊢
  cases pl
  · go_enter Tryd.func40, Tryd.ntmps40
    go_wp2_with (first | (go_at_call 56; refine (HPL.out _ (MB.start _ _ _ _ _ _).below).mono ?_; rintro e w2 ⟨rfl, hb⟩; have hm := (MB.start w _ _ _ _ _).later hb; have HM := Lib.hid hm; have m0 := hm.c0; have m1 := hm.d0; have m2 := hm.d1; have m3 := hm.d2; have m4 := hm.d3; have hz := blk_lt hm.b1; clear hm hb y0 y1 y2 y3))
    go_ret2
    exact ⟨rfl, HM.out.below⟩
  · cases th
    · go_enter Tryd.func40, Tryd.ntmps40
      go_wp2_with (first | (go_at_call 56; refine (HPL.out _ (MB.start _ _ _ _ _ _).below).mono ?_; rintro e w2 ⟨rfl, hb⟩; have hm := (MB.start w _ _ _ _ _).later hb; have HM := Lib.hid hm; have m0 := hm.c0; have m1 := hm.d0; have m2 := hm.d1; have m3 := hm.d2; have m4 := hm.d3; have hz := blk_lt hm.b1; clear hm hb y0 y1 y2 y3) | (go_at_call 57; refine (HTH.out w2).mono ?_; rintro e w3 ⟨rfl, hb⟩; have hm := HM.out.later hb; clear m0 m1 m2 m3 m4 HM hz; have HM := Lib.hid hm; have m0 := hm.c0; have m1 := hm.d0; have m2 := hm.d1; have m3 := hm.d2; have m4 := hm.d3; have hz := blk_lt hm.b1; clear hm hb))
      go_ret2
      exact ⟨rfl, HM.out.below⟩
    · go_enter Tryd.func40, Tryd.ntmps40
      go_wp2_with (first | (go_at_call 56; refine (HPL.out _ (MB.start _ _ _ _ _ _).below).mono ?_; rintro e w2 ⟨rfl, hb⟩; have hm := (MB.start w _ _ _ _ _).later hb; have HM := Lib.hid hm; have m0 := hm.c0; have m1 := hm.d0; have m2 := hm.d1; have m3 := hm.d2; have m4 := hm.d3; have hz := blk_lt hm.b1; clear hm hb y0 y1 y2 y3) | (go_at_call 57; refine (HTH.out w2).mono ?_; rintro e w3 ⟨rfl, hb⟩; have hm := HM.out.later hb; clear m0 m1 m2 m3 m4 HM hz; have HM := Lib.hid hm; have m0 := hm.c0; have m1 := hm.d0; have m2 := hm.d1; have m3 := hm.d2; have m4 := hm.d3; have hz := blk_lt hm.b1; clear hm hb))
      go_ret2
      exact ⟨rfl, HM.out.below⟩
theorem there_in {most f : Int} (h : thereB most [f] = true) : 0 ≤ f ∧ f < most := by
  simp [thereB, outB] at h
  omega
theorem there_mem {most : Int} {l : List Int} (h : thereB most l = true) : ∀ f ∈ l, 0 ≤ f ∧ f < most := by
  intro f hf
  simp [thereB, outB] at h
  have := h f hf
  omega
set_option maxHeartbeats 1600000 in
set_option maxRecDepth 100000 in
theorem may_array (t : List S41) (ad : Addr) (c : Nat) (k : Int) (As : Option Addr) (cs : Nat) (sizes : List Int) (f1 f2 : Int) (f3 : List Int) (A3 : Option Addr) (c3 : Nat) (w : World)
    (hCt : k41.C w (some ad) t.length t) (hc : t.length ≤ c) (hCs : (Kd.int .i64).C w As sizes.length sizes) (hcs : sizes.length ≤ cs) (h0 : 0 ≤ k) (h1 : k < (t.length : Int))
    (x0 : w.cell? (ad.add (k.toNat * 4)) = some (.int .u8 5)) (x1 : w.cell? ⟨(ad.add (k.toNat * 4)).block, (ad.add (k.toNat * 4)).off + 1, none⟩ = some (.int .i64 f1)) (x2 : w.cell? ⟨(ad.add (k.toNat * 4)).block, (ad.add (k.toNat * 4)).off + 2, none⟩ = some (.int .i64 f2)) (x3 : w.cell? ⟨(ad.add (k.toNat * 4)).block, (ad.add (k.toNat * 4)).off + 3, none⟩ = some (.slice A3 f3.length c3))
    (l3 : f3.length ≤ c3) (g3 : (Kd.int .i64).C w A3 f3.length f3) (hk : k ≤ (sizes.length : Int)) :
    Calls Tryd.prog 40 #[.slice (some ad) t.length c, .int .i64 k, .slice As sizes.length cs] w (MayEnd w (if plainB 5 f1 f2 f3 && thereB k [f1] && decide (1 ≤ f2) && decide (f2 ≤ 16) then (wrap64 (f2 * rd sizes f1), decide (wrap64 (f2 * rd sizes f1) ≤ 32)) else (0, false))) := by
  have y0 := Lib.cell?_alloc_some (.cells #[.slice (some ad) t.length c] 22) x0
  have y1 := Lib.cell?_alloc_some (.cells #[.slice (some ad) t.length c] 22) x1
  have y2 := Lib.cell?_alloc_some (.cells #[.slice (some ad) t.length c] 22) x2
  have y3 := Lib.cell?_alloc_some (.cells #[.slice (some ad) t.length c] 22) x3
  have HPL := Lib.hid (fun W hb => plain_call 5 f1 f2 A3 c3 f3 w W l3 g3 hb)
  have HT := Lib.hid hCt
  have HS := Lib.hid hCs
  have G3 := Lib.hid g3
  have HL3 := Lib.hid l3
  have p0 := eq_true h0
  have p1 := eq_true h1
  clear x0 x1 x2 x3 hCt hCs g3 l3
  have HTH := Lib.hid (fun W => there_one k f1 W)
  generalize hpl : plainB 5 f1 f2 f3 = pl at HPL ⊢
  clear hpl
  cases pl
  · go_enter Tryd.func40, Tryd.ntmps40
    go_wp2_with (first | (go_at_call 56; refine (HPL.out _ (MB.start _ _ _ _ _ _).below).mono ?_; rintro e w2 ⟨rfl, hb⟩; have hm := (MB.start w _ _ _ _ _).later hb; have HM := Lib.hid hm; have m0 := hm.c0; have m1 := hm.d0; have m2 := hm.d1; have m3 := hm.d2; have m4 := hm.d3; have hz := blk_lt hm.b1; clear hm hb y0 y1 y2 y3))
    go_ret2
    exact ⟨rfl, HM.out.below⟩
  · generalize hth : thereB k [f1] = th at HTH ⊢
    have HTB := Lib.hid hth
    clear hth
    cases th
    · go_enter Tryd.func40, Tryd.ntmps40
      go_wp2_with (first | (go_at_call 56; refine (HPL.out _ (MB.start _ _ _ _ _ _).below).mono ?_; rintro e w2 ⟨rfl, hb⟩; have hm := (MB.start w _ _ _ _ _).later hb; have HM := Lib.hid hm; have m0 := hm.c0; have m1 := hm.d0; have m2 := hm.d1; have m3 := hm.d2; have m4 := hm.d3; have hz := blk_lt hm.b1; clear hm hb y0 y1 y2 y3) | (go_at_call 57; refine (HTH.out w2).mono ?_; rintro e w3 ⟨rfl, hb⟩; have hm := HM.out.later hb; clear m0 m1 m2 m3 m4 HM hz; have HM := Lib.hid hm; have m0 := hm.c0; have m1 := hm.d0; have m2 := hm.d1; have m3 := hm.d2; have m4 := hm.d3; have hz := blk_lt hm.b1; clear hm hb))
      go_ret2
      exact ⟨rfl, HM.out.below⟩
    · by_cases e1 : 1 ≤ f2
      · have d1 : decide (1 ≤ f2) = true := decide_eq_true e1
        by_cases e2 : f2 ≤ 16
        · have d2 : decide (f2 ≤ 16) = true := decide_eq_true e2
          obtain ⟨q0, q1⟩ := there_in HTB.out
          obtain ⟨sa, rfl, hs⟩ := Kd.at_int HS.out f1 q0 (by omega)
          have q2 : f1 < (sizes.length : Int) := by omega
          generalize rd sizes f1 = s at hs ⊢
          have hsl := World.block_lt_of_cell? w _ hs
          have r0 := eq_true q0
          have r2 := eq_true q2
          rw [d1, d2]
          obtain ⟨z, hz⟩ : ∃ z, z = wrap64 (f2 * s) := ⟨_, rfl⟩
          rw [← hz]
          have HZ := Lib.hid hz
          clear hz
          go_enter Tryd.func40, Tryd.ntmps40
          go_wp2_with (first | (go_at_call 56; refine (HPL.out _ (MB.start _ _ _ _ _ _).below).mono ?_; rintro e w2 ⟨rfl, hb⟩; have hm := (MB.start w _ _ _ _ _).later hb; have HM := Lib.hid hm; have m0 := hm.c0; have m1 := hm.d0; have m2 := hm.d1; have m3 := hm.d2; have m4 := hm.d3; have hz := blk_lt hm.b1; clear hm hb y0 y1 y2 y3) | (go_at_call 57; refine (HTH.out w2).mono ?_; rintro e w3 ⟨rfl, hb⟩; have hm := HM.out.later hb; clear m0 m1 m2 m3 m4 HM hz; have HM := Lib.hid hm; have m0 := hm.c0; have m1 := hm.d0; have m2 := hm.d1; have m3 := hm.d2; have m4 := hm.d3; have hz := blk_lt hm.b1; clear hm hb))
          have hs3 := (HM.out.below.cell hsl).trans hs
          go_quiet (fail)
          rw [← HZ.out]
          by_cases e3 : z ≤ 32
          · have d3 : decide (z ≤ 32) = true := decide_eq_true e3
            rw [d3]
            go_wp2
            go_ret2
            exact ⟨rfl, pw_below_drewN HM.out.below nq⟩
          · have d3 : decide (z ≤ 32) = false := decide_eq_false e3
            rw [d3]
            go_wp2
            go_ret2
            exact ⟨rfl, pw_below_drewN HM.out.below nq⟩
        · have d2 : decide (f2 ≤ 16) = false := decide_eq_false e2
          rw [d1, d2]
          · go_enter Tryd.func40, Tryd.ntmps40
            go_wp2_with (first | (go_at_call 56; refine (HPL.out _ (MB.start _ _ _ _ _ _).below).mono ?_; rintro e w2 ⟨rfl, hb⟩; have hm := (MB.start w _ _ _ _ _).later hb; have HM := Lib.hid hm; have m0 := hm.c0; have m1 := hm.d0; have m2 := hm.d1; have m3 := hm.d2; have m4 := hm.d3; have hz := blk_lt hm.b1; clear hm hb y0 y1 y2 y3) | (go_at_call 57; refine (HTH.out w2).mono ?_; rintro e w3 ⟨rfl, hb⟩; have hm := HM.out.later hb; clear m0 m1 m2 m3 m4 HM hz; have HM := Lib.hid hm; have m0 := hm.c0; have m1 := hm.d0; have m2 := hm.d1; have m3 := hm.d2; have m4 := hm.d3; have hz := blk_lt hm.b1; clear hm hb))
            go_ret2
            exact ⟨rfl, HM.out.below⟩
      · have d1 : decide (1 ≤ f2) = false := decide_eq_false e1
        rw [d1]
        · go_enter Tryd.func40, Tryd.ntmps40
          go_wp2_with (first | (go_at_call 56; refine (HPL.out _ (MB.start _ _ _ _ _ _).below).mono ?_; rintro e w2 ⟨rfl, hb⟩; have hm := (MB.start w _ _ _ _ _).later hb; have HM := Lib.hid hm; have m0 := hm.c0; have m1 := hm.d0; have m2 := hm.d1; have m3 := hm.d2; have m4 := hm.d3; have hz := blk_lt hm.b1; clear hm hb y0 y1 y2 y3) | (go_at_call 57; refine (HTH.out w2).mono ?_; rintro e w3 ⟨rfl, hb⟩; have hm := HM.out.later hb; clear m0 m1 m2 m3 m4 HM hz; have HM := Lib.hid hm; have m0 := hm.c0; have m1 := hm.d0; have m2 := hm.d1; have m3 := hm.d2; have m4 := hm.d3; have hz := blk_lt hm.b1; clear hm hb))
          go_ret2
          exact ⟨rfl, HM.out.below⟩
def sumW (l : List Int) : Int := l.foldl (fun a b => wrap64 (a + b)) 0
theorem sum_l0 (l : List Int) (hl : l.length ≤ 9223372036854775807) : ∀ (d k : Nat) (acc i : Int), 0 ≤ i → (l.length : Int) - i = d → d < k → types_sum.l0 k acc l (l.length : Int) i = some ((l.drop i.toNat).foldl (fun a b => wrap64 (a + b)) acc) := by
  intro d
  induction d with
  | zero =>
    intro k acc i h0 hd hk
    obtain ⟨k, rfl⟩ : ∃ m, k = m + 1 := ⟨k - 1, by omega⟩
    simp only [types_sum.l0]
    rw [if_neg (by omega), List.drop_eq_nil_of_le (by omega)]
    rfl
  | succ d ih =>
    intro k acc i h0 hd hk
    obtain ⟨k, rfl⟩ : ∃ m, k = m + 1 := ⟨k - 1, by omega⟩
    simp only [types_sum.l0]
    rw [if_pos (by omega), if_pos h0, if_pos (by omega), show wrap64 (i + 1) = i + 1 by unfold wrap64; omega, ih k _ (i + 1) (by omega) (by omega) (by omega)]
    have hlt : i.toNat < l.length := by omega
    rw [List.drop_eq_getElem_cons hlt, List.foldl_cons, show (i + 1).toNat = i.toNat + 1 by omega]
    congr 2
    unfold rd
    rw [List.getD_eq_getElem?_getD, List.getElem?_eq_getElem hlt]
    rfl
theorem sum_f (l : List Int) (hl : l.length ≤ 9223372036854775807) : types_sum.f (l.length + 1) l = some (sumW l) := by
  have := sum_l0 l hl l.length (l.length + 1) 0 0 (by omega) (by omega) (by omega)
  unfold types_sum.f
  rw [this]; rfl
theorem sum_call (A : Option Addr) (c : Nat) (l : List Int) (w : World) (hC : (Kd.int .i64).C w A l.length l) (hc : l.length ≤ c) :
    Calls Tryd.prog 61 #[.slice A l.length c] w fun e w' => e = .returned (.int .i64 (sumW l)) ∧ Below w.heap.size w w' :=
  (types_sum.calls _ A c l _ w hC hc (sum_f l (Kd.C_max hC))).mono fun e w' ⟨he, hb⟩ => ⟨he, hb.below⟩
theorem info3' : (Tryd.prog.info? 3).map (fun i => (i.zero, i.size, i.bytes)) = some (some (.int .i64 0), 1, 8) := by kernel_rfl
theorem take_map (l sizes : List Int) (i : Int) (h0 : 0 ≤ i) (h1 : i < (l.length : Int)) : (l.take (i + 1).toNat).map (rd sizes) = (l.take i.toNat).map (rd sizes) ++ [rd sizes (rd l i)] := by
  have hlt : i.toNat < l.length := by omega
  rw [show (i + 1).toNat = i.toNat + 1 by omega, List.take_succ_eq_append_getElem hlt, List.map_append]
  congr 1
  unfold rd
  simp [List.getD_eq_getElem?_getD, List.getElem?_eq_getElem hlt]
theorem rd_mem (l : List Int) (i : Int) (h0 : 0 ≤ i) (h1 : i < (l.length : Int)) : rd l i ∈ l := by
  have hlt : i.toNat < l.length := by omega
  unfold rd
  rw [List.getD_eq_getElem?_getD, List.getElem?_eq_getElem hlt]
  exact List.getElem_mem hlt
set_option maxHeartbeats 1600000 in
set_option maxRecDepth 100000 in
theorem may_struct (t : List S41) (ad : Addr) (c : Nat) (k : Int) (As : Option Addr) (cs : Nat) (sizes : List Int) (f1 f2 : Int) (f3 : List Int) (A3 : Option Addr) (c3 : Nat) (w : World)
    (hCt : k41.C w (some ad) t.length t) (hc : t.length ≤ c) (hCs : (Kd.int .i64).C w As sizes.length sizes) (hcs : sizes.length ≤ cs) (h0 : 0 ≤ k) (h1 : k < (t.length : Int))
    (x0 : w.cell? (ad.add (k.toNat * 4)) = some (.int .u8 4)) (x1 : w.cell? ⟨(ad.add (k.toNat * 4)).block, (ad.add (k.toNat * 4)).off + 1, none⟩ = some (.int .i64 f1)) (x2 : w.cell? ⟨(ad.add (k.toNat * 4)).block, (ad.add (k.toNat * 4)).off + 2, none⟩ = some (.int .i64 f2)) (x3 : w.cell? ⟨(ad.add (k.toNat * 4)).block, (ad.add (k.toNat * 4)).off + 3, none⟩ = some (.slice A3 f3.length c3))
    (l3 : f3.length ≤ c3) (g3 : (Kd.int .i64).C w A3 f3.length f3) (hk : k ≤ (sizes.length : Int)) (hm : f3.length ≤ 1000000) :
    Calls Tryd.prog 40 #[.slice (some ad) t.length c, .int .i64 k, .slice As sizes.length cs] w (MayEnd w (if plainB 4 f1 f2 f3 && thereB k f3 then (sumW (f3.map (rd sizes)), decide (0 < (f3.map (rd sizes)).length) && decide ((f3.map (rd sizes)).length ≤ 8) && decide (sumW (f3.map (rd sizes)) ≤ 32)) else (0, false))) := by
  have y0 := Lib.cell?_alloc_some (.cells #[.slice (some ad) t.length c] 22) x0
  have y1 := Lib.cell?_alloc_some (.cells #[.slice (some ad) t.length c] 22) x1
  have y2 := Lib.cell?_alloc_some (.cells #[.slice (some ad) t.length c] 22) x2
  have y3 := Lib.cell?_alloc_some (.cells #[.slice (some ad) t.length c] 22) x3
  have HPL := Lib.hid (fun W hb => plain_call 4 f1 f2 A3 c3 f3 w W l3 g3 hb)
  have HT := Lib.hid hCt
  have HS := Lib.hid hCs
  have G3 := Lib.hid g3
  have HL3 := Lib.hid l3
  have p0 := eq_true h0
  have p1 := eq_true h1
  clear x0 x1 x2 x3 hCt hCs g3 l3
  have HTH := Lib.hid (fun W hb => there_call k A3 c3 f3 W (Kd.C_below G3.out hb) HL3.out)
  generalize hpl : plainB 4 f1 f2 f3 = pl at HPL ⊢
  clear hpl
  have hf3 : f3.length ≤ 9223372036854775807 := Kd.C_max G3.out
  cases pl
  · go_enter Tryd.func40, Tryd.ntmps40
    go_wp2_with (first | (go_at_call 56; refine (HPL.out _ (MB.start _ _ _ _ _ _).below).mono ?_; rintro e w2 ⟨rfl, hb⟩; have hm := (MB.start w _ _ _ _ _).later hb; have HM := Lib.hid hm; have m0 := hm.c0; have m1 := hm.d0; have m2 := hm.d1; have m3 := hm.d2; have m4 := hm.d3; have hz := blk_lt hm.b1; clear hm hb y0 y1 y2 y3))
    go_ret2
    exact ⟨rfl, HM.out.below⟩
  · generalize hth : thereB k f3 = th at HTH ⊢
    have HTB := Lib.hid hth
    clear hth
    cases th
    · go_enter Tryd.func40, Tryd.ntmps40
      go_wp2_with (first | (go_at_call 56; refine (HPL.out _ (MB.start _ _ _ _ _ _).below).mono ?_; rintro e w2 ⟨rfl, hb⟩; have hm := (MB.start w _ _ _ _ _).later hb; have HM := Lib.hid hm; have m0 := hm.c0; have m1 := hm.d0; have m2 := hm.d1; have m3 := hm.d2; have m4 := hm.d3; have hz := blk_lt hm.b1; clear hm hb y0 y1 y2 y3) | (go_at_call 57; refine (HTH.out _ HM.out.below).mono ?_; rintro e w3 ⟨rfl, hb⟩; have hm := HM.out.later hb; clear m0 m1 m2 m3 m4 HM hz; have HM := Lib.hid hm; have m0 := hm.c0; have m1 := hm.d0; have m2 := hm.d1; have m3 := hm.d2; have m4 := hm.d3; have hz := blk_lt hm.b1; clear hm hb))
      go_ret2
      exact ⟨rfl, HM.out.below⟩
    · rw [Bool.true_and, if_pos rfl]
      have hL : (f3.map (rd sizes)).length ≤ 9223372036854775807 := by simpa using hf3
      obtain ⟨L, hLe⟩ : ∃ L, L = f3.map (rd sizes) := ⟨_, rfl⟩
      rw [← hLe] at hL ⊢
      obtain ⟨z, hz⟩ : ∃ z, z = sumW L := ⟨_, rfl⟩
      rw [← hz]
      have HSUM : Hid (∀ (A : Option Addr) (c : Nat) (W : World), (Kd.int .i64).C W A L.length L → L.length ≤ c → Calls Tryd.prog 61 #[.slice A L.length c] W fun e w' => e = .returned (.int .i64 z) ∧ Below W.heap.size W w') := Lib.hid (fun A c W h1 h2 => by rw [hz]; exact sum_call A c L W h1 h2)
      have HLE := Lib.hid hLe
      clear hLe hz
      go_enter Tryd.func40, Tryd.ntmps40
      go_wp2_with (first | (go_at_call 56; refine (HPL.out _ (MB.start _ _ _ _ _ _).below).mono ?_; rintro e w2 ⟨rfl, hb⟩; have hm := (MB.start w _ _ _ _ _).later hb; have HM := Lib.hid hm; have m0 := hm.c0; have m1 := hm.d0; have m2 := hm.d1; have m3 := hm.d2; have m4 := hm.d3; have hz := blk_lt hm.b1; clear hm hb y0 y1 y2 y3) | (go_at_call 57; refine (HTH.out _ HM.out.below).mono ?_; rintro e w3 ⟨rfl, hb⟩; have hm := HM.out.later hb; clear m0 m1 m2 m3 m4 HM hz; have HM := Lib.hid hm; have m0 := hm.c0; have m1 := hm.d0; have m2 := hm.d1; have m3 := hm.d2; have m4 := hm.d3; have hz := blk_lt hm.b1; clear hm hb))
      go_loopg [12, 77] f3.length (fun gg v12 v77 Wr => ∃ (i : Int), 0 ≤ i ∧ i ≤ (f3.length : Int) ∧ (f3.length : Int) - i ≤ gg ∧ v77 = .int .i64 i ∧ Hid (Below w3.heap.size w3 Wr) ∧ Hid ((Kd.int .i64).R 3 Wr w3.heap.size (fun _ => True) v12 ((f3.take i.toNat).map (rd sizes))))
      case atStart => exact ⟨0, by omega, by omega, by omega, rfl, Below.refl _ _, Kd.R_nil _ _ _ _ _⟩
      case round =>
        obtain ⟨i, i0, i1, hg, rfl, HBr, HV⟩ := hrel
        clear m0 m1 m2 m3 m4
        by_cases hlt : i < (f3.length : Int)
        · obtain ⟨pa, rfl, hpc⟩ := Kd.at_int (Kd.C_below G3.out HM.out.below) i i0 hlt
          have hp3 := (HBr.out.cell (World.block_lt_of_cell? _ _ hpc)).trans hpc
          obtain ⟨n0, n1⟩ := there_mem HTB.out (rd f3 i) (rd_mem f3 i i0 hlt)
          obtain ⟨sa, rfl, hsc⟩ := Kd.at_int (Kd.C_below HS.out HM.out.below) (rd f3 i) n0 (by omega)
          have hs3 := (HBr.out.cell (World.block_lt_of_cell? _ _ hsc)).trans hsc
          have htm := take_map f3 sizes i i0 hlt
          have n2 : rd f3 i < (sizes.length : Int) := by omega
          generalize rd f3 i = n at hp3 n0 n1 n2 hs3 htm
          generalize rd sizes n = s at hs3 htm
          have HTM := Lib.hid htm
          have z0 := eq_true i0
          have z1 := eq_true hlt
          have z2 := eq_true n0
          have z3 := eq_true n2
          have hlen : ((f3.take i.toNat).map (rd sizes)).length ≤ 1000000 := by simp; omega
          have hw : IntKind.i64.wrap (i + 1) = i + 1 := by rw [IntKind.wrap_i64]; omega
          clear hpc hsc htm
          go_wp2_with (at_builtin; refine Kd.R_append (Kd.int .i64) (w0 := w3) w3.heap.size rfl (.tmp 81) (.tmp 86) 37 3 (.int .i64 0) 8 rfl Tryd.underlying37 info3' rfl (by decide) (by omega) _ ((f3.take i.toNat).map (rd sizes)) s [.int .i64 s] (fun _ => True) (fun _ => False) rfl rfl ?aP (fun _ hk => hk.elim) ?aF ?aO ?aB ?aS ?aL ?_; (case aP => exact rfl); (case aF => exact (fun _ _ => trivial)); (case aO => exact HV.out); (case aB => exact HBr.out); (case aS => exact HBr.out.size); (case aL => omega); intro v1 w4 ho hb hg2 hat; have HO := Lib.hid ho; have HB4 := Lib.hid hb; clear ho hb hg2 hat)
          go_roundg (gk - 1)
          case measure => omega
          case rel => exact ⟨i + 1, by omega, by omega, by omega, by first | rfl | (simp; done), HB4.out, (show _ from by rw [HTM.out]; exact HO.out)⟩
        · have hfull : (f3.take i.toNat).map (rd sizes) = f3.map (rd sizes) := by rw [List.take_of_length_le (by omega)]
          rw [hfull, ← HLE.out] at HV
          clear hfull
          obtain ⟨Al, cl, rfl⟩ := Kd.R_slice HV.out
          by_cases b0 : 0 < L.length
          · have d0 : decide (0 < L.length) = true := decide_eq_true b0
            by_cases b8 : L.length ≤ 8
            · have d8 : decide (L.length ≤ 8) = true := decide_eq_true b8
              rw [d0, d8]
              by_cases e3 : z ≤ 32
              · have d3 : decide (z ≤ 32) = true := decide_eq_true e3
                rw [d3]
                go_wp2_with (go_at_call 61; refine (HSUM.out _ _ _ (Kd.R_reads' HV.out).2.2 (Kd.R_reads' HV.out).2.1).mono ?_; rintro e w5 ⟨rfl, hb⟩; have HB5 := Lib.hid (HBr.out.trans (hb.mono HBr.out.size)); clear hb)
                go_ret2
                exact ⟨by (try rw [d0]); (try rw [d8]); (try rw [d3]); rfl, HM.out.below.trans (HB5.out.mono HM.out.below.size)⟩
              · have d3 : decide (z ≤ 32) = false := decide_eq_false e3
                rw [d3]
                go_wp2_with (go_at_call 61; refine (HSUM.out _ _ _ (Kd.R_reads' HV.out).2.2 (Kd.R_reads' HV.out).2.1).mono ?_; rintro e w5 ⟨rfl, hb⟩; have HB5 := Lib.hid (HBr.out.trans (hb.mono HBr.out.size)); clear hb)
                go_ret2
                exact ⟨by (try rw [d0]); (try rw [d8]); (try rw [d3]); rfl, HM.out.below.trans (HB5.out.mono HM.out.below.size)⟩
            · have d8 : decide (L.length ≤ 8) = false := decide_eq_false b8
              rw [d0, d8]
              go_wp2_with (go_at_call 61; refine (HSUM.out _ _ _ (Kd.R_reads' HV.out).2.2 (Kd.R_reads' HV.out).2.1).mono ?_; rintro e w5 ⟨rfl, hb⟩; have HB5 := Lib.hid (HBr.out.trans (hb.mono HBr.out.size)); clear hb)
              go_ret2
              exact ⟨by (try rw [d0]); (try rw [d8]); (try rw [d3]); rfl, HM.out.below.trans (HB5.out.mono HM.out.below.size)⟩
          · have d0 : decide (0 < L.length) = false := decide_eq_false b0
            rw [d0]
            go_wp2_with (go_at_call 61; refine (HSUM.out _ _ _ (Kd.R_reads' HV.out).2.2 (Kd.R_reads' HV.out).2.1).mono ?_; rintro e w5 ⟨rfl, hb⟩; have HB5 := Lib.hid (HBr.out.trans (hb.mono HBr.out.size)); clear hb)
            go_ret2
            exact ⟨by (try rw [d0]); (try rw [d8]); (try rw [d3]); rfl, HM.out.below.trans (HB5.out.mono HM.out.below.size)⟩
def scalarB (f0 : Int) : Bool := decide (1 ≤ f0) && decide (f0 ≤ 3)
theorem scalar_f (f0 f1 f2 : Int) (f3 : List Int) : types_scalar.f f0 f1 f2 f3 = some (scalarB f0) := by
  unfold types_scalar.f scalarB
  split
  · rename_i h; rw [show decide (1 ≤ f0) = true from decide_eq_true h]; rfl
  · rename_i h; rw [show decide (1 ≤ f0) = false from decide_eq_false (by omega)]; rfl
set_option maxHeartbeats 800000 in
theorem may1 (t : List S41) (ad : Addr) (c : Nat) (n : Int) (B : Nat) (W : World) (hC : k41.C W (some ad) t.length t) (h0 : 0 ≤ n) (h1 : n < (t.length : Int)) (hcell : W.cell? ⟨B, 0, none⟩ = some (.slice (some ad) t.length c)) :
    Calls Tryd.prog 59 #[.int .i64 n, .pointer (some ⟨B, 0, none⟩)] W fun e w' => e = .returned (.bool (!scalarB (rd_T41 t n).f0)) ∧ Below W.heap.size W w' := by
  obtain ⟨ad', A3, c3, he, x0, x1, x2, x3, l3, g3⟩ := at_T41 hC n h0 h1
  cases he
  have HSC := Lib.hid (types_scalar.calls _ _ _ A3 c3 _ _ W g3 l3 (scalar_f (rd_T41 t n).f0 (rd_T41 t n).f1 (rd_T41 t n).f2 (rd_T41 t n).f3))
  generalize scalarB (rd_T41 t n).f0 = sc at HSC ⊢
  generalize rd_T41 t n = x at *
  have p0 := eq_true h0
  have p1 := eq_true h1
  clear hC g3 l3
  go_enter Tryd.func59, Tryd.ntmps59
  go_wp2_with (go_at_call 60; refine HSC.out.mono ?_; rintro e w' ⟨rfl, hb⟩)
  go_ret
  exact ⟨rfl, hb⟩
set_option maxHeartbeats 1600000 in
set_option maxRecDepth 100000 in
theorem may_fn (t : List S41) (ad : Addr) (c : Nat) (k : Int) (As : Option Addr) (cs : Nat) (sizes : List Int) (f1 f2 : Int) (f3 : List Int) (A3 : Option Addr) (c3 : Nat) (w : World)
    (hCt : k41.C w (some ad) t.length t) (hc : t.length ≤ c) (hCs : (Kd.int .i64).C w As sizes.length sizes) (hcs : sizes.length ≤ cs) (h0 : 0 ≤ k) (h1 : k < (t.length : Int))
    (x0 : w.cell? (ad.add (k.toNat * 4)) = some (.int .u8 3)) (x1 : w.cell? ⟨(ad.add (k.toNat * 4)).block, (ad.add (k.toNat * 4)).off + 1, none⟩ = some (.int .i64 f1)) (x2 : w.cell? ⟨(ad.add (k.toNat * 4)).block, (ad.add (k.toNat * 4)).off + 2, none⟩ = some (.int .i64 f2)) (x3 : w.cell? ⟨(ad.add (k.toNat * 4)).block, (ad.add (k.toNat * 4)).off + 3, none⟩ = some (.slice A3 f3.length c3))
    (l3 : f3.length ≤ c3) (g3 : (Kd.int .i64).C w A3 f3.length f3) (hm : f3.length ≤ 1000000) :
    Calls Tryd.prog 40 #[.slice (some ad) t.length c, .int .i64 k, .slice As sizes.length cs] w (MayEnd w (1, plainB 3 f1 f2 f3 && decide (f3.length ≤ 4) && thereB t.length (f1 :: f3) && !(f1 :: f3).any (fun n => !scalarB (rd_T41 t n).f0))) := by
  have y0 := Lib.cell?_alloc_some (.cells #[.slice (some ad) t.length c] 22) x0
  have y1 := Lib.cell?_alloc_some (.cells #[.slice (some ad) t.length c] 22) x1
  have y2 := Lib.cell?_alloc_some (.cells #[.slice (some ad) t.length c] 22) x2
  have y3 := Lib.cell?_alloc_some (.cells #[.slice (some ad) t.length c] 22) x3
  have HPL := Lib.hid (fun W hb => plain_call 3 f1 f2 A3 c3 f3 w W l3 g3 hb)
  have HT := Lib.hid hCt
  have HS := Lib.hid hCs
  have G3 := Lib.hid g3
  have HL3 := Lib.hid l3
  have p0 := eq_true h0
  have p1 := eq_true h1
  clear x0 x1 x2 x3 hCt hCs g3 l3
  have HTH : Hid (∀ (A : Option Addr) (c : Nat) (W : World), (Kd.int .i64).C W A (f1 :: f3).length (f1 :: f3) → (f1 :: f3).length ≤ c → Calls Tryd.prog 57 #[.int .i64 (t.length : Int), .slice A (f1 :: f3).length c] W fun e w' => e = .returned (.bool (thereB t.length (f1 :: f3))) ∧ Below W.heap.size W w') := Lib.hid (fun A c W h1 h2 => there_call t.length A c (f1 :: f3) W h1 h2)
  generalize hpl : plainB 3 f1 f2 f3 = pl at HPL ⊢
  clear hpl
  have hmf : ∀ (fn : Fn) (first cap : Array Value) (w : World), (Instr.makeFunc fn first cap).run Tryd.prog w = .ok (.func fn first cap) w := fun _ _ _ _ => rfl
  cases pl
  · go_enter Tryd.func40, Tryd.ntmps40
    go_wp2_with (first | (go_at_call 56; refine (HPL.out _ (MB.start _ _ _ _ _ _).below).mono ?_; rintro e w2 ⟨rfl, hb⟩; have hm := (MB.start w _ _ _ _ _).later hb; have HM := Lib.hid hm; have m0 := hm.c0; have m1 := hm.d0; have m2 := hm.d1; have m3 := hm.d2; have m4 := hm.d3; have hz := blk_lt hm.b1; clear hm hb y0 y1 y2 y3) | (at_builtin; refine Kd.R_append_rows (Kd.int .i64) (w0 := w2) w2.heap.size rfl (.tmp 40) (.tmp 42) 37 3 (.int .i64 0) 8 rfl Tryd.underlying37 info3' rfl (by decide) (by omega) (.slice (some ⟨w2.heap.size, 0, none⟩) 1 1) [f1] f3 A3 f3.length c3 (fun _ => True) (fun _ => False) rfl rfl ?aO ?aR (fun _ _ h => h) (fun _ h => h.elim) ?aF ?aB ?aS ?aL ?_; (case aO => exact one_R w2 w2.heap.size (Nat.le_refl _) f1); (case aR => exact Kd.C_alloc (Kd.C_below G3.out HM.out.below) _); (case aF => exact (fun _ _ => trivial)); (case aB => exact below_alloc (Below.refl _ _) _); (case aS => simp); (case aL => simp; omega); intro v9 w3 ho hb hg hat; obtain ⟨A9, c9, rfl⟩ := Kd.R_slice ho; have HO := Lib.hid (Kd.R_reads' ho).2.2; have HC9 := Lib.hid (Kd.R_reads' ho).2.1; clear ho hg hat; have hm := HM.out.later hb; clear m0 m1 m2 m3 m4 HM hz; have HM := Lib.hid hm; have m0 := hm.c0; have m1 := hm.d0; have m2 := hm.d1; have m3 := hm.d2; have m4 := hm.d3; have hz := blk_lt hm.b1; clear hm hb))
    go_ret2
    exact ⟨rfl, HM.out.below⟩
  · by_cases e4 : f3.length ≤ 4
    · have d4 : decide (f3.length ≤ 4) = true := decide_eq_true e4
      rw [d4]
      generalize hth : thereB t.length (f1 :: f3) = th at HTH ⊢
      have HTB := Lib.hid hth
      clear hth
      cases th
      · go_enter Tryd.func40, Tryd.ntmps40
        go_wp2_with (first | (go_at_call 56; refine (HPL.out _ (MB.start _ _ _ _ _ _).below).mono ?_; rintro e w2 ⟨rfl, hb⟩; have hm := (MB.start w _ _ _ _ _).later hb; have HM := Lib.hid hm; have m0 := hm.c0; have m1 := hm.d0; have m2 := hm.d1; have m3 := hm.d2; have m4 := hm.d3; have hz := blk_lt hm.b1; clear hm hb y0 y1 y2 y3) | (at_builtin; refine Kd.R_append_rows (Kd.int .i64) (w0 := w2) w2.heap.size rfl (.tmp 40) (.tmp 42) 37 3 (.int .i64 0) 8 rfl Tryd.underlying37 info3' rfl (by decide) (by omega) (.slice (some ⟨w2.heap.size, 0, none⟩) 1 1) [f1] f3 A3 f3.length c3 (fun _ => True) (fun _ => False) rfl rfl ?aO ?aR (fun _ _ h => h) (fun _ h => h.elim) ?aF ?aB ?aS ?aL ?_; (case aO => exact one_R w2 w2.heap.size (Nat.le_refl _) f1); (case aR => exact Kd.C_alloc (Kd.C_below G3.out HM.out.below) _); (case aF => exact (fun _ _ => trivial)); (case aB => exact below_alloc (Below.refl _ _) _); (case aS => simp); (case aL => simp; omega); intro v9 w3 ho hb hg hat; obtain ⟨A9, c9, rfl⟩ := Kd.R_slice ho; have HO := Lib.hid (Kd.R_reads' ho).2.2; have HC9 := Lib.hid (Kd.R_reads' ho).2.1; clear ho hg hat; have hm := HM.out.later hb; clear m0 m1 m2 m3 m4 HM hz; have HM := Lib.hid hm; have m0 := hm.c0; have m1 := hm.d0; have m2 := hm.d1; have m3 := hm.d2; have m4 := hm.d3; have hz := blk_lt hm.b1; clear hm hb) | (go_at_call 57; refine (HTH.out A9 c9 w3 HO.out HC9.out).mono ?_; rintro e w4 ⟨rfl, hb⟩; have HO4 := Lib.hid (Kd.C_below HO.out hb); have hm := HM.out.later hb; clear m0 m1 m2 m3 m4 HM hz; have HM := Lib.hid hm; have m0 := hm.c0; have m1 := hm.d0; have m2 := hm.d1; have m3 := hm.d2; have m4 := hm.d3; have hz := blk_lt hm.b1; clear hm hb))
        go_ret2
        exact ⟨rfl, HM.out.below⟩
      · have eg : ∀ args w, (callFunc 59 args).run Tryd.prog w = .ok (.enter 59 args) w := enters_of Tryd.func59 (by kernel_rfl) rfl
        have HNY : Hid (∀ (A : Option Addr) (c' : Nat) (W : World), (Kd.int .i64).C W A (f1 :: f3).length (f1 :: f3) → (f1 :: f3).length ≤ c' → Below w.heap.size w W → W.cell? ⟨w.heap.size, 0, none⟩ = some (.slice (some ad) t.length c) → Calls Tryd.prog 58 #[.slice A (f1 :: f3).length c', .func (.func 59) #[] #[.pointer (some ⟨w.heap.size, 0, none⟩)]] W fun e w' => e = .returned (.bool ((f1 :: f3).any (fun n => !scalarB (rd_T41 t n).f0))) ∧ Below W.heap.size W w') := Lib.hid (fun A c' W h1 h2 hbw hcl =>
          has_int 59 #[.pointer (some ⟨w.heap.size, 0, none⟩)] eg A c' (f1 :: f3) (fun n => !scalarB (rd_T41 t n).f0) W h1 h2 (fun W' x hx hb => (may1 t ad c x w.heap.size W' (Kd.C_below HT.out (hbw.trans (hb.mono hbw.size))) (there_mem HTB.out x hx).1 (there_mem HTB.out x hx).2 ((hb.cell (World.block_lt_of_cell? _ _ hcl)).trans hcl)).mono fun e w' ⟨he, h3⟩ => ⟨he, hb.trans (h3.mono hb.size)⟩))
        generalize (f1 :: f3).any (fun n => !scalarB (rd_T41 t n).f0) = nb at HNY ⊢
        clear eg
        cases nb
        · go_enter Tryd.func40, Tryd.ntmps40
          go_wp2_with (first | (go_at_call 56; refine (HPL.out _ (MB.start _ _ _ _ _ _).below).mono ?_; rintro e w2 ⟨rfl, hb⟩; have hm := (MB.start w _ _ _ _ _).later hb; have HM := Lib.hid hm; have m0 := hm.c0; have m1 := hm.d0; have m2 := hm.d1; have m3 := hm.d2; have m4 := hm.d3; have hz := blk_lt hm.b1; clear hm hb y0 y1 y2 y3) | (at_builtin; refine Kd.R_append_rows (Kd.int .i64) (w0 := w2) w2.heap.size rfl (.tmp 40) (.tmp 42) 37 3 (.int .i64 0) 8 rfl Tryd.underlying37 info3' rfl (by decide) (by omega) (.slice (some ⟨w2.heap.size, 0, none⟩) 1 1) [f1] f3 A3 f3.length c3 (fun _ => True) (fun _ => False) rfl rfl ?aO ?aR (fun _ _ h => h) (fun _ h => h.elim) ?aF ?aB ?aS ?aL ?_; (case aO => exact one_R w2 w2.heap.size (Nat.le_refl _) f1); (case aR => exact Kd.C_alloc (Kd.C_below G3.out HM.out.below) _); (case aF => exact (fun _ _ => trivial)); (case aB => exact below_alloc (Below.refl _ _) _); (case aS => simp); (case aL => simp; omega); intro v9 w3 ho hb hg hat; obtain ⟨A9, c9, rfl⟩ := Kd.R_slice ho; have HO := Lib.hid (Kd.R_reads' ho).2.2; have HC9 := Lib.hid (Kd.R_reads' ho).2.1; clear ho hg hat; have hm := HM.out.later hb; clear m0 m1 m2 m3 m4 HM hz; have HM := Lib.hid hm; have m0 := hm.c0; have m1 := hm.d0; have m2 := hm.d1; have m3 := hm.d2; have m4 := hm.d3; have hz := blk_lt hm.b1; clear hm hb) | (go_at_call 57; refine (HTH.out A9 c9 w3 HO.out HC9.out).mono ?_; rintro e w4 ⟨rfl, hb⟩; have HO4 := Lib.hid (Kd.C_below HO.out hb); have hm := HM.out.later hb; clear m0 m1 m2 m3 m4 HM hz; have HM := Lib.hid hm; have m0 := hm.c0; have m1 := hm.d0; have m2 := hm.d1; have m3 := hm.d2; have m4 := hm.d3; have hz := blk_lt hm.b1; clear hm hb) | (go_at_call 58; refine (HNY.out A9 c9 w4 HO4.out HC9.out HM.out.below HM.out.c0).mono ?_; rintro e w5 ⟨rfl, hb⟩; have hm := HM.out.later hb; clear m0 m1 m2 m3 m4 HM hz; have HM := Lib.hid hm; have m0 := hm.c0; have m1 := hm.d0; have m2 := hm.d1; have m3 := hm.d2; have m4 := hm.d3; have hz := blk_lt hm.b1; clear hm hb))
          go_ret2
          exact ⟨rfl, HM.out.below⟩
        · go_enter Tryd.func40, Tryd.ntmps40
          go_wp2_with (first | (go_at_call 56; refine (HPL.out _ (MB.start _ _ _ _ _ _).below).mono ?_; rintro e w2 ⟨rfl, hb⟩; have hm := (MB.start w _ _ _ _ _).later hb; have HM := Lib.hid hm; have m0 := hm.c0; have m1 := hm.d0; have m2 := hm.d1; have m3 := hm.d2; have m4 := hm.d3; have hz := blk_lt hm.b1; clear hm hb y0 y1 y2 y3) | (at_builtin; refine Kd.R_append_rows (Kd.int .i64) (w0 := w2) w2.heap.size rfl (.tmp 40) (.tmp 42) 37 3 (.int .i64 0) 8 rfl Tryd.underlying37 info3' rfl (by decide) (by omega) (.slice (some ⟨w2.heap.size, 0, none⟩) 1 1) [f1] f3 A3 f3.length c3 (fun _ => True) (fun _ => False) rfl rfl ?aO ?aR (fun _ _ h => h) (fun _ h => h.elim) ?aF ?aB ?aS ?aL ?_; (case aO => exact one_R w2 w2.heap.size (Nat.le_refl _) f1); (case aR => exact Kd.C_alloc (Kd.C_below G3.out HM.out.below) _); (case aF => exact (fun _ _ => trivial)); (case aB => exact below_alloc (Below.refl _ _) _); (case aS => simp); (case aL => simp; omega); intro v9 w3 ho hb hg hat; obtain ⟨A9, c9, rfl⟩ := Kd.R_slice ho; have HO := Lib.hid (Kd.R_reads' ho).2.2; have HC9 := Lib.hid (Kd.R_reads' ho).2.1; clear ho hg hat; have hm := HM.out.later hb; clear m0 m1 m2 m3 m4 HM hz; have HM := Lib.hid hm; have m0 := hm.c0; have m1 := hm.d0; have m2 := hm.d1; have m3 := hm.d2; have m4 := hm.d3; have hz := blk_lt hm.b1; clear hm hb) | (go_at_call 57; refine (HTH.out A9 c9 w3 HO.out HC9.out).mono ?_; rintro e w4 ⟨rfl, hb⟩; have HO4 := Lib.hid (Kd.C_below HO.out hb); have hm := HM.out.later hb; clear m0 m1 m2 m3 m4 HM hz; have HM := Lib.hid hm; have m0 := hm.c0; have m1 := hm.d0; have m2 := hm.d1; have m3 := hm.d2; have m4 := hm.d3; have hz := blk_lt hm.b1; clear hm hb) | (go_at_call 58; refine (HNY.out A9 c9 w4 HO4.out HC9.out HM.out.below HM.out.c0).mono ?_; rintro e w5 ⟨rfl, hb⟩; have hm := HM.out.later hb; clear m0 m1 m2 m3 m4 HM hz; have HM := Lib.hid hm; have m0 := hm.c0; have m1 := hm.d0; have m2 := hm.d1; have m3 := hm.d2; have m4 := hm.d3; have hz := blk_lt hm.b1; clear hm hb))
          go_ret2
          exact ⟨rfl, HM.out.below⟩
    · have d4 : decide (f3.length ≤ 4) = false := decide_eq_false e4
      rw [d4]
      · go_enter Tryd.func40, Tryd.ntmps40
        go_wp2_with (first | (go_at_call 56; refine (HPL.out _ (MB.start _ _ _ _ _ _).below).mono ?_; rintro e w2 ⟨rfl, hb⟩; have hm := (MB.start w _ _ _ _ _).later hb; have HM := Lib.hid hm; have m0 := hm.c0; have m1 := hm.d0; have m2 := hm.d1; have m3 := hm.d2; have m4 := hm.d3; have hz := blk_lt hm.b1; clear hm hb y0 y1 y2 y3) | (at_builtin; refine Kd.R_append_rows (Kd.int .i64) (w0 := w2) w2.heap.size rfl (.tmp 40) (.tmp 42) 37 3 (.int .i64 0) 8 rfl Tryd.underlying37 info3' rfl (by decide) (by omega) (.slice (some ⟨w2.heap.size, 0, none⟩) 1 1) [f1] f3 A3 f3.length c3 (fun _ => True) (fun _ => False) rfl rfl ?aO ?aR (fun _ _ h => h) (fun _ h => h.elim) ?aF ?aB ?aS ?aL ?_; (case aO => exact one_R w2 w2.heap.size (Nat.le_refl _) f1); (case aR => exact Kd.C_alloc (Kd.C_below G3.out HM.out.below) _); (case aF => exact (fun _ _ => trivial)); (case aB => exact below_alloc (Below.refl _ _) _); (case aS => simp); (case aL => simp; omega); intro v9 w3 ho hb hg hat; obtain ⟨A9, c9, rfl⟩ := Kd.R_slice ho; have HO := Lib.hid (Kd.R_reads' ho).2.2; have HC9 := Lib.hid (Kd.R_reads' ho).2.1; clear ho hg hat; have hm := HM.out.later hb; clear m0 m1 m2 m3 m4 HM hz; have HM := Lib.hid hm; have m0 := hm.c0; have m1 := hm.d0; have m2 := hm.d1; have m3 := hm.d2; have m4 := hm.d3; have hz := blk_lt hm.b1; clear hm hb))
        go_ret2
        exact ⟨rfl, HM.out.below⟩
def mayF (t : List S41) (k : Int) (sizes : List Int) : Int × Bool :=
  let x := rd_T41 t k
  if x.f0 = 1 then (1, plainB 1 x.f1 x.f2 x.f3)
  else if x.f0 = 2 then (1, plainB 2 x.f1 x.f2 x.f3 && thereB t.length [x.f1])
  else if x.f0 = 3 then (1, plainB 3 x.f1 x.f2 x.f3 && decide (x.f3.length ≤ 4) && thereB t.length (x.f1 :: x.f3) && !(x.f1 :: x.f3).any (fun n => !scalarB (rd_T41 t n).f0))
  else if x.f0 = 4 then (if plainB 4 x.f1 x.f2 x.f3 && thereB k x.f3 then (sumW (x.f3.map (rd sizes)), decide (0 < (x.f3.map (rd sizes)).length) && decide ((x.f3.map (rd sizes)).length ≤ 8) && decide (sumW (x.f3.map (rd sizes)) ≤ 32)) else (0, false))
  else if x.f0 = 5 then (if plainB 5 x.f1 x.f2 x.f3 && thereB k [x.f1] && decide (1 ≤ x.f2) && decide (x.f2 ≤ 16) then (wrap64 (x.f2 * rd sizes x.f1), decide (wrap64 (x.f2 * rd sizes x.f1) ≤ 32)) else (0, false))
  else (1, false)
end Go.Proofs.YtlghkomipboflaaDoor.Sh
namespace Go.Proofs.YtlghkomipboflaaDoor.X
open Go.RowKit Go.Proofs.YtlghkomipboflaaDoor Go.Proofs.YtlghkomipboflaaDoor.Sh Go.Proofs.YtlghkomipboflaaDoorW.PrintWords Go.Proofs.YtlghkomipboflaaDoorW.PrintLast Go.Proofs.YtlghkomipboflaaDoorW.PrintMore
def types_may.f (t : List S41) (k : Int) (sizes : List Int) : Option (Int × Bool) :=
  if 0 ≤ k ∧ k < (t.length : Int) ∧ k ≤ (sizes.length : Int) ∧ (rd_T41 t k).f3.length ≤ 1000000 then some (mayF t k sizes) else none
theorem types_may.calls (A0 : Option Addr) (c0 : Nat) (t : List S41) (k : Int) (A1 : Option Addr) (c1 : Nat) (sizes : List Int) (r1 : Int) (r2 : Bool) (w : World) (hr0 : k41.C w A0 t.length t) (hc0 : t.length ≤ c0) (hr1 : (Kd.int .i64).C w A1 sizes.length sizes) (hc1 : sizes.length ≤ c1) (h : types_may.f t k sizes = some (r1, r2)) :
    Calls Tryd.prog 40 #[.slice A0 t.length c0, .int .i64 k, .slice A1 sizes.length c1] w fun e w' => e = .returned (.tuple #[.int .i64 r1, .bool r2]) ∧ Below w.heap.size w w' := by
  unfold types_may.f at h
  by_cases hh : 0 ≤ k ∧ k < (t.length : Int) ∧ k ≤ (sizes.length : Int) ∧ (rd_T41 t k).f3.length ≤ 1000000
  rotate_left
  · rw [if_neg hh] at h; cases h
  rw [if_pos hh] at h
  obtain ⟨h0, h1, hk, hm⟩ := hh
  have hq := Option.some.inj h
  clear h
  obtain ⟨ad, A3, c3, rfl, x0, x1, x2, x3, l3, g3⟩ := at_T41 hr0 k h0 h1
  have e1 : r1 = (mayF t k sizes).1 := by rw [hq]
  have e2 : r2 = (mayF t k sizes).2 := by rw [hq]
  rw [e1, e2]
  change Calls _ _ _ _ (MayEnd w (mayF t k sizes))
  unfold mayF
  clear hq e1 e2
  generalize rd_T41 t k = x at x0 x1 x2 x3 l3 g3 hm ⊢
  obtain ⟨f0, f1, f2, f3⟩ := x
  dsimp only at *
  by_cases n1 : f0 = 1
  · subst n1; rw [if_pos rfl]; exact may_int t ad c0 k A1 c1 sizes f1 f2 f3 A3 c3 w hr0 hc0 hr1 hc1 h0 h1 x0 x1 x2 x3 l3 g3
  rw [if_neg n1]
  by_cases n2 : f0 = 2
  · subst n2; rw [if_pos rfl]; exact may_ptr t ad c0 k A1 c1 sizes f1 f2 f3 A3 c3 w hr0 hc0 hr1 hc1 h0 h1 x0 x1 x2 x3 l3 g3
  rw [if_neg n2]
  by_cases n3 : f0 = 3
  · subst n3; rw [if_pos rfl]; exact may_fn t ad c0 k A1 c1 sizes f1 f2 f3 A3 c3 w hr0 hc0 hr1 hc1 h0 h1 x0 x1 x2 x3 l3 g3 hm
  rw [if_neg n3]
  by_cases n4 : f0 = 4
  · subst n4; rw [if_pos rfl]; exact may_struct t ad c0 k A1 c1 sizes f1 f2 f3 A3 c3 w hr0 hc0 hr1 hc1 h0 h1 x0 x1 x2 x3 l3 g3 hk hm
  rw [if_neg n4]
  by_cases n5 : f0 = 5
  · subst n5; rw [if_pos rfl]; exact may_array t ad c0 k A1 c1 sizes f1 f2 f3 A3 c3 w hr0 hc0 hr1 hc1 h0 h1 x0 x1 x2 x3 l3 g3 hk
  rw [if_neg n5]
  exact may_other t ad c0 k A1 c1 sizes f0 f1 f2 f3 A3 c3 w hr0 hc0 hr1 hc1 h0 h1 x0 x1 x2 x3 l3 g3 (beq_eq_false_iff_ne.2 n1) (beq_eq_false_iff_ne.2 n2) (beq_eq_false_iff_ne.2 n3) (beq_eq_false_iff_ne.2 n4) (beq_eq_false_iff_ne.2 n5)
end Go.Proofs.YtlghkomipboflaaDoor.X
end
section
namespace Go.Proofs.YtlghkomipboflaaDoor.X
open Go.RowKit Go.Proofs.YtlghkomipboflaaDoorW.PrintWords Go.Proofs.YtlghkomipboflaaDoorW.PrintLast Go.Proofs.YtlghkomipboflaaDoorW.PrintMore
attribute [local go_sem] max2_int min2_int max_two min_two max_three min_three max_four min_four
set_option linter.unusedVariables false
set_option linter.unusedSimpArgs false
attribute [local go_sem high] eqA34
def types_Check.l0 : Nat → List (S41) → List Int → Int → Int → Option (Int)
  | 0, _, _, _, _ => none
  | k + 1, x0, x3, x11, x12 => if x12 < x11 then ((types_may.f x0 x12 x3).bind fun bt255 => (if bt255.2 = true then (if x3.length < 17592186044416 then (types_Check.l0 k x0 (x3 ++ [bt255.1]) x11 (wrap64 (x12 + 1))) else (none)) else (some 30))) else (some 0)
def types_Check.f (k : Nat) (l0 : List (S41)) : Option (Int) := if (l0.length : Int) > 16 then (some 4) else (types_Check.l0 k l0 ([] : List Int) (l0.length : Int) 0)
set_option maxHeartbeats 8000000 in
set_option maxRecDepth 100000 in
theorem types_Check.calls (k : Nat) (A0 : Option Addr) (c0 : Nat) (l0 : List (S41)) (r : Int) (w : World) (hr0 : Kd.C k41 w A0 l0.length l0) (hc0 : l0.length ≤ c0) (h : types_Check.f k l0 = some r) :
    Calls Tryd.prog 21 #[.slice A0 l0.length c0] w fun e w' => e = .returned (.int .i64 r) ∧ Below w.heap.size w w' := by
  have HR0 := Aside0.mk hr0
  have HC0 := Aside0.mk hc0
  clear hr0 hc0
  have HB := Aside0.mk (Below.refl w.heap.size w)
  have H : (if (l0.length : Int) > 16 then (some 4) else (types_Check.l0 k l0 ([] : List Int) (l0.length : Int) 0)) = some r := h
  clear h
  by_cases c2 : (l0.length : Int) > 16
  · rw [if_pos c2] at H
    have c2b0 : decide (16 < (l0.length : Int)) = true := decide_eq_true c2
    have c2b1 : decide (16 < l0.length) = true := decide_eq_true (by omega)
    clear c2
    obtain rfl := Option.some.inj H
    go_enter Tryd.func21, Tryd.ntmps21
    go_wp2
    go_ret
    exact ⟨by first | rfl | (simp [errW_none, errW_some] <;> rfl) | (simp [*, errW_none, errW_some] <;> rfl), by repeat (first | (with_reducible first | exact HB.out | apply below_alloc | apply pw_below_drewN | apply below_drew1) | exact HB.out)⟩
  · rw [if_neg c2] at H
    have c2b0 : decide (16 < (l0.length : Int)) = false := decide_eq_false c2
    have c2b1 : decide (16 < l0.length) = false := decide_eq_false (by omega)
    clear c2
    have H' := Aside0.mk H
    clear H
    go_enter Tryd.func21, Tryd.ntmps21
    go_wp2
    go_loopg [3, 12] k (fun kq v3 v12 w' => ∃ (x3_1 : List Int) (x12_1 : Int), v12 = .int .i64 x12_1 ∧ Aside0 (types_Check.l0 kq l0 x3_1 (l0.length : Int) x12_1 = some r) ∧ Aside0 (kq ≤ k) ∧ Aside0 (Kd.R (Kd.int .i64) 3 w' w.heap.size (fun _ => True) v3 x3_1) ∧ Aside0 (Below w.heap.size w w'))
    case atStart => exact ⟨(([] : List Int)), (0), (by first | rfl | (simp; done) | (simp [*]; done)), H', ⟨Nat.le_refl _⟩, ⟨by first | exact Kd.R_nil _ _ _ _ _ | exact Kd.N_nil _ _ _ _ _ | exact Kd.V_nil _ _ _ _ _ | exact Kd.Q_nil _ _ _ _ _ | exact Kd.S_nil _ _ _ _ _⟩, ⟨by repeat (first | (with_reducible first | exact HB.out | apply below_alloc | apply pw_below_drewN | apply below_drew1) | exact HB.out)⟩⟩
    case round =>
      clear H'
      try clear c2
      try clear c2b0
      try clear c2b1
      try clear p2
      obtain ⟨x3_1, x12_1, rfl, HA, HK1, HO_3, HB⟩ := hrel
      cases gk with
      | zero => exact absurd HA.out (by simp [types_Check.l0])
      | succ k1 =>
        have H := HA.out
        clear HA
        simp only [types_Check.l0] at H
        by_cases c3 : x12_1 < (l0.length : Int)
        · rw [if_pos c3] at H
          have c3b0 : decide (x12_1 < (l0.length : Int)) = true := decide_eq_true c3
          clear c3
          replace H := Option.bind_eq_some_iff.mp H
          obtain ⟨⟨t255, t256⟩, A40, H⟩ := H
          replace H : (if t256 = true then (if x3_1.length < 17592186044416 then (types_Check.l0 k1 l0 (x3_1 ++ [t255]) (l0.length : Int) (wrap64 (x12_1 + 1))) else (none)) else (some 30)) = some r := H
          have A4 := Aside0.mk A40
          clear A40
          by_cases c5 : t256 = true
          · subst c5
            have H1 : (if x3_1.length < 17592186044416 then (types_Check.l0 k1 l0 (x3_1 ++ [t255]) (l0.length : Int) (wrap64 (x12_1 + 1))) else (none)) = some r := by rw [if_pos rfl] at H; exact H
            clear H
            have H := H1
            clear H1
            by_cases c6 : x3_1.length < 17592186044416
            · rw [if_pos c6] at H
              have LMc6 := Aside0.mk c6
              clear c6
              obtain ⟨y257, hy257⟩ : ∃ y_ : List Int, y_ = (x3_1 ++ [t255]) := ⟨_, rfl⟩
              replace H : (types_Check.l0 k1 l0 y257 (l0.length : Int) (wrap64 (x12_1 + 1))) = some r := by first | (rw [hy257]; with_reducible exact H) | (have H2_ := (Option.bind_some _ _).symm.trans H; rw [hy257]; with_reducible exact H2_) | (have H2_ := (Option.bind_some _ _).symm.trans H; with_reducible exact H2_) | with_reducible exact H | (rw [hy257]; exact H) | exact H
              have Ny257 := Aside0.mk hy257
              clear hy257
              have H' := Aside0.mk H
              clear H
              obtain ⟨Ao7, co7, eo7⟩ := Kd.R_slice HO_3.out
              subst eo7
              go_wp2_with (first | ((with_reducible refine gate_callee (f := 40) rfl ?_); refine goesL_ (some 19) rfl rfl Tryd.func40 (by kernel_rfl) rfl #[.slice A0 l0.length c0, .int .i64 x12_1, .slice Ao7 x3_1.length co7] rfl (by (try simp only [List.map_toArray, List.map_cons, List.map_nil]); first | done | rfl | (simp only [List.length_drop, List.length_take]; rfl)) ?_; (with_reducible refine (types_may.calls _ _ l0 x12_1 _ _ x3_1 t255 true _ ?side1 ?side2 ?side3 ?side4 A4.out).mono ?_); (case side1 => repeat (first | exact (Kd.C_below HR0.out HB.out) | (with_reducible refine Kd.C_alloc ?_ _) | (with_reducible refine Kd.C_drewN ?_ _) | (with_reducible refine Kd.C_drew ?_))); (case side2 => exact HC0.out); (case side3 => repeat (first | exact (Kd.R_reads' HO_3.out).2.2 | (with_reducible refine Kd.C_alloc ?_ _) | (with_reducible refine Kd.C_drewN ?_ _) | (with_reducible refine Kd.C_drew ?_))); (case side4 => exact (Kd.R_reads' HO_3.out).2.1); rintro e w8 ⟨rfl, hb⟩; refine ⟨_, rfl, ?_⟩; have n0_ := Aside0.mk (Kd.R_below (by (with_reducible repeat (first | apply Kd.R_alloc | apply Kd.R_drewN | apply Kd.R_drew)); exact HO_3.out) hb); have n1_ := Aside0.mk (below_step (by repeat (first | (with_reducible first | exact HB.out | apply below_alloc | apply pw_below_drewN | apply below_drew1) | exact HB.out)) hb); clear HO_3; clear HB; have HO_3 := n0_; have HB := n1_; clear n0_ n1_; (try clear hb); (try clear hb2); (try clear hk); (try clear hi)) | ((with_reducible refine gate_builtin (b := .append) (xs := #[.tmp 24, .tmp 26]) rfl ?_); at_builtin; refine Kd.R_append (Kd.int .i64) (w0 := w) w.heap.size rfl (.tmp 24) (.tmp 26) 37 3 (.int .i64 0) 8 rfl Tryd.underlying37 info3 rfl (by decide) (by omega) (.slice Ao7 x3_1.length co7) x3_1 t255 [.int .i64 t255] (fun _ => True) (fun _ => False) rfl rfl ?aP (fun _ hk => hk.elim) ?aF ?aO ?aB ?aS ?aL ?_; (case aP => exact rfl); (case aB => exact (by repeat (first | (with_reducible first | exact HB.out | apply below_alloc | apply pw_below_drewN | apply below_drew1) | exact HB.out))); (case aF => exact (fun _ _ => trivial)); (case aO => exact (by (with_reducible repeat (first | apply Kd.R_alloc | apply Kd.R_drewN | apply Kd.R_drew)); exact HO_3.out)); (case aS => exact (below_size (by repeat (first | (with_reducible first | exact HB.out | apply below_alloc | apply pw_below_drewN | apply below_drew1) | exact HB.out)))); (case aL => have := LMc6.out; omega); intro v258 w9 ho hb hg hat; rw [← Ny257.out] at ho; have n0_ := Aside0.mk (hb); have n1_ := Aside0.mk (ho); clear HB; clear HO_3; have HB := n0_; have HO259 := n1_; clear n0_ n1_; clear ho hb hg hat))
              go_roundg k1
              case measure => have := HK1.out; omega
              case rel => exact ⟨(y257), (wrap64 (x12_1 + 1)), (by first | rfl | (simp; done) | (simp [*]; done)), H', ⟨by have := HK1.out; omega⟩, ⟨by (with_reducible repeat (first | apply Kd.R_alloc | apply Kd.R_drewN | apply Kd.R_drew)); exact HO259.out⟩, ⟨by repeat (first | (with_reducible first | exact HB.out | apply below_alloc | apply pw_below_drewN | apply below_drew1) | exact HB.out)⟩⟩
            · rw [if_neg c6] at H
              exact absurd H (by simp)
          · replace c5 := Bool.eq_false_iff.mpr c5
            subst c5
            have H1 : (some 30) = some r := by rw [if_neg (show ¬ (false = true) by decide)] at H; exact H
            clear H
            have H := H1
            clear H1
            obtain rfl := Option.some.inj H
            obtain ⟨Ao10, co10, eo10⟩ := Kd.R_slice HO_3.out
            subst eo10
            go_wp2_with (first | ((with_reducible refine gate_callee (f := 40) rfl ?_); refine goesL_ (some 19) rfl rfl Tryd.func40 (by kernel_rfl) rfl #[.slice A0 l0.length c0, .int .i64 x12_1, .slice Ao10 x3_1.length co10] rfl (by (try simp only [List.map_toArray, List.map_cons, List.map_nil]); first | done | rfl | (simp only [List.length_drop, List.length_take]; rfl)) ?_; (with_reducible refine (types_may.calls _ _ l0 x12_1 _ _ x3_1 t255 false _ ?side1 ?side2 ?side3 ?side4 A4.out).mono ?_); (case side1 => repeat (first | exact (Kd.C_below HR0.out HB.out) | (with_reducible refine Kd.C_alloc ?_ _) | (with_reducible refine Kd.C_drewN ?_ _) | (with_reducible refine Kd.C_drew ?_))); (case side2 => exact HC0.out); (case side3 => repeat (first | exact (Kd.R_reads' HO_3.out).2.2 | (with_reducible refine Kd.C_alloc ?_ _) | (with_reducible refine Kd.C_drewN ?_ _) | (with_reducible refine Kd.C_drew ?_))); (case side4 => exact (Kd.R_reads' HO_3.out).2.1); rintro e w11 ⟨rfl, hb⟩; refine ⟨_, rfl, ?_⟩; have n0_ := Aside0.mk (Kd.R_below (by (with_reducible repeat (first | apply Kd.R_alloc | apply Kd.R_drewN | apply Kd.R_drew)); exact HO_3.out) hb); have n1_ := Aside0.mk (below_step (by repeat (first | (with_reducible first | exact HB.out | apply below_alloc | apply pw_below_drewN | apply below_drew1) | exact HB.out)) hb); clear HO_3; clear HB; have HO_3 := n0_; have HB := n1_; clear n0_ n1_; (try clear hb); (try clear hb2); (try clear hk); (try clear hi)))
            go_ret
            exact ⟨by first | rfl | (simp [errW_none, errW_some] <;> rfl) | (simp [*, errW_none, errW_some] <;> rfl), by repeat (first | (with_reducible first | exact HB.out | apply below_alloc | apply pw_below_drewN | apply below_drew1) | exact HB.out)⟩
        · rw [if_neg c3] at H
          have c3b0 : decide (x12_1 < (l0.length : Int)) = false := decide_eq_false c3
          clear c3
          obtain rfl := Option.some.inj H
          go_wp2
          go_ret
          exact ⟨by first | rfl | (simp [errW_none, errW_some] <;> rfl) | (simp [*, errW_none, errW_some] <;> rfl), by repeat (first | (with_reducible first | exact HB.out | apply below_alloc | apply pw_below_drewN | apply below_drew1) | exact HB.out)⟩
def shape_below.f (a0 : Int) (a1 : Int) : Option (Bool) := if a0 ≥ 0 then (some (decide (a0 < a1))) else (some false)
set_option maxHeartbeats 8000000 in
set_option maxRecDepth 100000 in
theorem shape_below.calls (a0 : Int) (a1 : Int) (r : Bool) (w : World) (h : shape_below.f a0 a1 = some r) :
    Calls Tryd.prog 22 #[.int .i64 a0, .int .i64 a1] w fun e w' => e = .returned (.bool r) ∧ Drawn0 w w' := by
  have H : (if a0 ≥ 0 then (some (decide (a0 < a1))) else (some false)) = some r := h
  clear h
  by_cases c3 : a0 ≥ 0
  · rw [if_pos c3] at H
    have c3b0 : decide (0 ≤ a0) = true := decide_eq_true c3
    clear c3
    obtain rfl := Option.some.inj H
    go_enter Tryd.func22, Tryd.ntmps22
    go_wp2
    go_ret
    exact ⟨by first | rfl | (simp; done) | (simp [*]; done), by repeat (first | exact Drawn0.refl _ | apply Drawn0.step)⟩
  · rw [if_neg c3] at H
    have c3b0 : decide (0 ≤ a0) = false := decide_eq_false c3
    clear c3
    obtain rfl := Option.some.inj H
    go_enter Tryd.func22, Tryd.ntmps22
    go_wp2
    go_ret
    exact ⟨by first | rfl | (simp; done) | (simp [*]; done), by repeat (first | exact Drawn0.refl _ | apply Drawn0.step)⟩
def shape_number.j0 : Nat → Int → Bool → Int → Int → Int → Int → Int → List Int → List Int → Int → Int → Int → Int → Option (Bool)
  | 0, _, _, _, _, _, _, _, _, _, _, _, _, _ => none
  | k + 1, x6, x7, x261000, x261001, x261002, x261003, x261004, x261005, x261006, x262000, x262001, x262002, x262003 => if x7 = true then (if x261004 ≥ 0 then (some (decide (x261004 < x262001))) else (some false)) else (if x6 = 14 then (if x261004 ≥ 0 then (some (decide (x261004 < 8))) else (some false)) else (some true))
def shape_number.f (k : Nat) (a0_0 : Int) (a0_1 : Int) (a0_2 : Int) (a0_3 : Int) (a0_4 : Int) (l0_5 : List Int) (l0_6 : List Int) (a1_0 : Int) (a1_1 : Int) (a1_2 : Int) (a1_3 : Int) : Option (Bool) := if a0_0 = 3 then (shape_number.j0 k a0_0 (a0_0 == 3) a0_0 a0_1 a0_2 a0_3 a0_4 l0_5 l0_6 a1_0 a1_1 a1_2 a1_3) else (shape_number.j0 k a0_0 (a0_0 == 18) a0_0 a0_1 a0_2 a0_3 a0_4 l0_5 l0_6 a1_0 a1_1 a1_2 a1_3)
set_option maxHeartbeats 8000000 in
set_option maxRecDepth 100000 in
theorem shape_number.calls (k : Nat) (a0_0 : Int) (a0_1 : Int) (a0_2 : Int) (a0_3 : Int) (a0_4 : Int) (A0_5 : Option Addr) (c0_5 : Nat) (l0_5 : List Int) (A0_6 : Option Addr) (c0_6 : Nat) (l0_6 : List Int) (a1_0 : Int) (a1_1 : Int) (a1_2 : Int) (a1_3 : Int) (r : Bool) (w : World) (hr0_5 : Kd.C (Kd.int .i64) w A0_5 l0_5.length l0_5) (hc0_5 : l0_5.length ≤ c0_5) (hr0_6 : Kd.C (Kd.int .i64) w A0_6 l0_6.length l0_6) (hc0_6 : l0_6.length ≤ c0_6) (h : shape_number.f k a0_0 a0_1 a0_2 a0_3 a0_4 l0_5 l0_6 a1_0 a1_1 a1_2 a1_3 = some r) :
    Calls Tryd.prog 64 #[.agg #[.int .u8 a0_0, .int .i64 a0_1, .int .i64 a0_2, .int .i64 a0_3, .int .i64 a0_4, .slice A0_5 l0_5.length c0_5, .slice A0_6 l0_6.length c0_6], .agg #[.int .i64 a1_0, .int .i64 a1_1, .int .i64 a1_2, .int .i64 a1_3]] w fun e w' => e = .returned (.bool r) ∧ Below w.heap.size w w' := by
  have hu39 := Tryd.underlying39
  have hu93 := Tryd.underlying93
  have HR0_5 := Aside0.mk hr0_5
  have HC0_5 := Aside0.mk hc0_5
  clear hr0_5 hc0_5
  have HR0_6 := Aside0.mk hr0_6
  have HC0_6 := Aside0.mk hc0_6
  clear hr0_6 hc0_6
  have HB := Aside0.mk (Below.refl w.heap.size w)
  have H : (if a0_0 = 3 then (shape_number.j0 k a0_0 (a0_0 == 3) a0_0 a0_1 a0_2 a0_3 a0_4 l0_5 l0_6 a1_0 a1_1 a1_2 a1_3) else (shape_number.j0 k a0_0 (a0_0 == 18) a0_0 a0_1 a0_2 a0_3 a0_4 l0_5 l0_6 a1_0 a1_1 a1_2 a1_3)) = some r := h
  clear h
  have HC3 := Aside0.mk H
  clear H
  go_enter Tryd.func64, Tryd.ntmps64
  go_upto_if 7 with (first | ((with_reducible refine gate_dst (N := 2) rfl ?_); refine box_event ?hg (N := 2) ?hd (cs := #[.int .u8 a0_0, .int .i64 a0_1, .int .i64 a0_2, .int .i64 a0_3, .int .i64 a0_4, .slice A0_5 l0_5.length c0_5, .slice A0_6 l0_6.length c0_6]) (t := 39) ?hr ?_; (case hd => rfl); (case hg => rfl); (case hr => first | (go_simp; done) | (go_simp; rfl)); intro gb260 hg w4 hbox hb; have n0_ := Aside0.mk (below_step (by repeat (first | (with_reducible first | exact HB.out | apply below_alloc | apply pw_below_drewN | apply below_drew1) | exact HB.out)) hb); have n1_ := Aside0.mk (hbox); have n2_ := Aside0.mk ((by rw [hg]; exact (below_size (by repeat (first | (with_reducible first | exact HB.out | apply below_alloc | apply pw_below_drewN | apply below_drew1) | exact HB.out))) : w.heap.size ≤ gb260)); have n3_ := Aside0.mk ((by rw [hg]; exact (below_size (by repeat (first | (with_reducible first | exact HB.out | apply below_alloc | apply pw_below_drewN | apply below_drew1) | exact HB.out))) : w.heap.size ≤ gb260)); clear HB; have HB := n0_; have BK260 := n1_; have GW260 := n2_; have GE260 := n3_; clear n0_ n1_ n2_ n3_; clear hb hbox hg) | ((with_reducible refine gate_dst (N := 3) rfl ?_); refine box_event ?hg (N := 3) ?hd (cs := #[.int .i64 a1_0, .int .i64 a1_1, .int .i64 a1_2, .int .i64 a1_3]) (t := 93) ?hr ?_; (case hd => rfl); (case hg => rfl); (case hr => first | (go_simp; done) | (go_simp; rfl)); intro gb261 hg w5 hbox hb; have n0_ := Aside0.mk (blk_below (g := gb260) (o := .cells #[.int .u8 a0_0, .int .i64 a0_1, .int .i64 a0_2, .int .i64 a0_3, .int .i64 a0_4, .slice A0_5 l0_5.length c0_5, .slice A0_6 l0_6.length c0_6] 39 (0, 0)) (by (with_reducible repeat (first | refine blk_drewN ?_ _ | refine blk_drew ?_ | refine blk_alloc ?_ _)); exact BK260.out) hb); have n1_ := Aside0.mk (below_step (by repeat (first | (with_reducible first | exact HB.out | apply below_alloc | apply pw_below_drewN | apply below_drew1 | refine below_set ?_ GE260.out) | exact HB.out)) hb); have n2_ := Aside0.mk (hbox); have n3_ := Aside0.mk ((by rw [hg]; exact (below_size (by repeat (first | (with_reducible first | exact HB.out | apply below_alloc | apply pw_below_drewN | apply below_drew1 | refine below_set ?_ GE260.out) | exact HB.out))) : w.heap.size ≤ gb261)); have n4_ := Aside0.mk ((by rw [hg]; exact (below_size (by repeat (first | (with_reducible first | exact HB.out | apply below_alloc | apply pw_below_drewN | apply below_drew1 | refine below_set ?_ GE260.out) | exact HB.out))) : w.heap.size ≤ gb261)); have n5_ := Aside0.mk ((by rw [hg]; exact Nat.ne_of_lt (blk_lt (g := gb260) (o := .cells #[.int .u8 a0_0, .int .i64 a0_1, .int .i64 a0_2, .int .i64 a0_3, .int .i64 a0_4, .slice A0_5 l0_5.length c0_5, .slice A0_6 l0_6.length c0_6] 39 (0, 0)) (by (with_reducible repeat (first | refine blk_drewN ?_ _ | refine blk_drew ?_ | refine blk_alloc ?_ _)); exact BK260.out)) : gb260 ≠ gb261)); have n6_ := Aside0.mk ((by rw [hg]; exact Nat.ne_of_gt (blk_lt (g := gb260) (o := .cells #[.int .u8 a0_0, .int .i64 a0_1, .int .i64 a0_2, .int .i64 a0_3, .int .i64 a0_4, .slice A0_5 l0_5.length c0_5, .slice A0_6 l0_6.length c0_6] 39 (0, 0)) (by (with_reducible repeat (first | refine blk_drewN ?_ _ | refine blk_drew ?_ | refine blk_alloc ?_ _)); exact BK260.out)) : gb261 ≠ gb260)); clear BK260; clear HB; have BK260 := n0_; have HB := n1_; have BK261 := n2_; have GW261 := n3_; have GE261 := n4_; have NB260_261 := n5_; have NB261_260 := n6_; clear n0_ n1_ n2_ n3_ n4_ n5_ n6_; clear hb hbox hg; have hnb6 := NB260_261.out; have hnc6 := NB261_260.out; have hcz7_0 : w5.cell? ⟨gb260, 0, none⟩ = some (.int .u8 a0_0) := (blk_cell BK260.out 0).trans rfl; have hcz7_1 : w5.cell? ⟨gb260, 1, none⟩ = some (.int .i64 a0_1) := (blk_cell BK260.out 1).trans rfl; have hcz7_2 : w5.cell? ⟨gb260, 2, none⟩ = some (.int .i64 a0_2) := (blk_cell BK260.out 2).trans rfl; have hcz7_3 : w5.cell? ⟨gb260, 3, none⟩ = some (.int .i64 a0_3) := (blk_cell BK260.out 3).trans rfl; have hcz7_4 : w5.cell? ⟨gb260, 4, none⟩ = some (.int .i64 a0_4) := (blk_cell BK260.out 4).trans rfl; have hcz7_5 : w5.cell? ⟨gb260, 5, none⟩ = some (.slice A0_5 l0_5.length c0_5) := (blk_cell BK260.out 5).trans rfl; have hcz7_6 : w5.cell? ⟨gb260, 6, none⟩ = some (.slice A0_6 l0_6.length c0_6) := (blk_cell BK260.out 6).trans rfl; have hfz7_0 := blk_frozen BK260.out 0; have hfz7_1 := blk_frozen BK260.out 1; have hfz7_2 := blk_frozen BK260.out 2; have hfz7_3 := blk_frozen BK260.out 3; have hfz7_4 := blk_frozen BK260.out 4; have hfz7_5 := blk_frozen BK260.out 5; have hfz7_6 := blk_frozen BK260.out 6))
  (try simp only [Act.put, List.setIfInBounds_toArray, List.set_cons_zero, List.set_cons_succ])
  go_cut [7] (fun v7 wc => ∃ (kq : Nat) (x7_2 : Bool), v7 = .bool x7_2 ∧ Aside0 (shape_number.j0 kq a0_0 x7_2 a0_0 a0_1 a0_2 a0_3 a0_4 l0_5 l0_6 a1_0 a1_1 a1_2 a1_3 = some r) ∧ Aside0 (kq ≤ k) ∧ Aside0 (wc.heap[gb260]? = some (.cells #[.int .u8 a0_0, .int .i64 a0_1, .int .i64 a0_2, .int .i64 a0_3, .int .i64 a0_4, (.slice A0_5 l0_5.length c0_5), (.slice A0_6 l0_6.length c0_6)] 39 (0, 0))) ∧ Aside0 (wc.heap[gb261]? = some (.cells #[.int .i64 a1_0, .int .i64 a1_1, .int .i64 a1_2, .int .i64 a1_3] 93 (0, 0))) ∧ Aside0 (Below w.heap.size w wc))
  case first =>
    have H := HC3.out
    clear HC3
    by_cases c8 : a0_0 = 3
    · rw [if_pos c8] at H
      have c8b0 : (a0_0 == 3) = true := beq_iff_eq.mpr c8
      have c8b1 : (a0_0 != 3) = false := bne_eq_false_iff_eq.mpr c8
      clear c8
      (first | rw [c8b0] | (simp only [i64_w, i32_w]; rw [c8b0]) | skip)
      have H' := Aside0.mk H
      clear H
      go_wp2
      go_meet
      case rel => exact ⟨_, ((a0_0 == 3)), (by first | rfl | (simp; done) | (simp [*]; done)), H', ⟨by first | omega | exact Nat.le_refl _⟩, ⟨by (with_reducible repeat (first | refine blk_drewN ?_ _ | refine blk_drew ?_ | refine blk_alloc ?_ _)); exact BK260.out⟩, ⟨by (with_reducible repeat (first | refine blk_drewN ?_ _ | refine blk_drew ?_ | refine blk_alloc ?_ _)); exact BK261.out⟩, ⟨by repeat (first | (with_reducible first | exact HB.out | apply below_alloc | apply pw_below_drewN | apply below_drew1 | refine below_set ?_ GE260.out | refine below_set ?_ GE261.out) | exact HB.out)⟩⟩
    · rw [if_neg c8] at H
      have c8b0 : (a0_0 == 3) = false := beq_eq_false_iff_ne.mpr c8
      have c8b1 : (a0_0 != 3) = true := bne_iff_ne.mpr c8
      (first | rw [c8b0] | (simp only [i64_w, i32_w]; rw [c8b0]) | skip)
      have H' := Aside0.mk H
      clear H
      go_wp2
      go_meet
      case rel => exact ⟨_, ((a0_0 == 18)), (by first | rfl | (simp; done) | (simp [*]; done)), H', ⟨by first | omega | exact Nat.le_refl _⟩, ⟨by (with_reducible repeat (first | refine blk_drewN ?_ _ | refine blk_drew ?_ | refine blk_alloc ?_ _)); exact BK260.out⟩, ⟨by (with_reducible repeat (first | refine blk_drewN ?_ _ | refine blk_drew ?_ | refine blk_alloc ?_ _)); exact BK261.out⟩, ⟨by repeat (first | (with_reducible first | exact HB.out | apply below_alloc | apply pw_below_drewN | apply below_drew1 | refine below_set ?_ GE260.out | refine below_set ?_ GE261.out) | exact HB.out)⟩⟩
  case rest =>
    clear HC3
    try clear p2
    try clear c6
    try clear c8
    try clear c8b0
    try clear c8b1
    try clear hcz7_0
    try clear hcz7_1
    try clear hcz7_2
    try clear hcz7_3
    try clear hcz7_4
    try clear hcz7_5
    try clear hcz7_6
    try clear hfz7_0
    try clear hfz7_1
    try clear hfz7_2
    try clear hfz7_3
    try clear hfz7_4
    try clear hfz7_5
    try clear hfz7_6
    obtain ⟨kq, x7_2, rfl, HA, HJ2, BK260, BK261, HB⟩ := hcut
    cases kq with
    | zero => exact absurd HA.out (by simp [shape_number.j0])
    | succ kj2 =>
      have H := HA.out
      clear HA
      simp only [shape_number.j0] at H
      by_cases c9 : x7_2 = true
      · subst c9
        have H1 : (if a0_4 ≥ 0 then (some (decide (a0_4 < a1_1))) else (some false)) = some r := by rw [if_pos rfl] at H; exact H
        clear H
        have H := H1
        clear H1
        by_cases c10 : a0_4 ≥ 0
        · rw [if_pos c10] at H
          have c10b0 : decide (0 ≤ a0_4) = true := decide_eq_true c10
          clear c10
          obtain rfl := Option.some.inj H
          have hnb11 := NB260_261.out
          have hnc11 := NB261_260.out
          have hcz12_0 : wc.cell? ⟨gb260, 0, none⟩ = some (.int .u8 a0_0) := (blk_cell BK260.out 0).trans rfl
          have hcz12_1 : wc.cell? ⟨gb260, 1, none⟩ = some (.int .i64 a0_1) := (blk_cell BK260.out 1).trans rfl
          have hcz12_2 : wc.cell? ⟨gb260, 2, none⟩ = some (.int .i64 a0_2) := (blk_cell BK260.out 2).trans rfl
          have hcz12_3 : wc.cell? ⟨gb260, 3, none⟩ = some (.int .i64 a0_3) := (blk_cell BK260.out 3).trans rfl
          have hcz12_4 : wc.cell? ⟨gb260, 4, none⟩ = some (.int .i64 a0_4) := (blk_cell BK260.out 4).trans rfl
          have hcz12_5 : wc.cell? ⟨gb260, 5, none⟩ = some (.slice A0_5 l0_5.length c0_5) := (blk_cell BK260.out 5).trans rfl
          have hcz12_6 : wc.cell? ⟨gb260, 6, none⟩ = some (.slice A0_6 l0_6.length c0_6) := (blk_cell BK260.out 6).trans rfl
          have hfz12_0 := blk_frozen BK260.out 0
          have hfz12_1 := blk_frozen BK260.out 1
          have hfz12_2 := blk_frozen BK260.out 2
          have hfz12_3 := blk_frozen BK260.out 3
          have hfz12_4 := blk_frozen BK260.out 4
          have hfz12_5 := blk_frozen BK260.out 5
          have hfz12_6 := blk_frozen BK260.out 6
          have hcz13_0 : wc.cell? ⟨gb261, 0, none⟩ = some (.int .i64 a1_0) := (blk_cell BK261.out 0).trans rfl
          have hcz13_1 : wc.cell? ⟨gb261, 1, none⟩ = some (.int .i64 a1_1) := (blk_cell BK261.out 1).trans rfl
          have hcz13_2 : wc.cell? ⟨gb261, 2, none⟩ = some (.int .i64 a1_2) := (blk_cell BK261.out 2).trans rfl
          have hcz13_3 : wc.cell? ⟨gb261, 3, none⟩ = some (.int .i64 a1_3) := (blk_cell BK261.out 3).trans rfl
          have hfz13_0 := blk_frozen BK261.out 0
          have hfz13_1 := blk_frozen BK261.out 1
          have hfz13_2 := blk_frozen BK261.out 2
          have hfz13_3 := blk_frozen BK261.out 3
          go_wp2
          go_ret
          exact ⟨by first | rfl | (simp [errW_none, errW_some] <;> rfl) | (simp [*, errW_none, errW_some] <;> rfl), by repeat (first | (with_reducible first | exact HB.out | apply below_alloc | apply pw_below_drewN | apply below_drew1 | refine below_set ?_ GE260.out | refine below_set ?_ GE261.out) | exact HB.out)⟩
        · rw [if_neg c10] at H
          have c10b0 : decide (0 ≤ a0_4) = false := decide_eq_false c10
          clear c10
          obtain rfl := Option.some.inj H
          have hnb14 := NB260_261.out
          have hnc14 := NB261_260.out
          have hcz15_0 : wc.cell? ⟨gb260, 0, none⟩ = some (.int .u8 a0_0) := (blk_cell BK260.out 0).trans rfl
          have hcz15_1 : wc.cell? ⟨gb260, 1, none⟩ = some (.int .i64 a0_1) := (blk_cell BK260.out 1).trans rfl
          have hcz15_2 : wc.cell? ⟨gb260, 2, none⟩ = some (.int .i64 a0_2) := (blk_cell BK260.out 2).trans rfl
          have hcz15_3 : wc.cell? ⟨gb260, 3, none⟩ = some (.int .i64 a0_3) := (blk_cell BK260.out 3).trans rfl
          have hcz15_4 : wc.cell? ⟨gb260, 4, none⟩ = some (.int .i64 a0_4) := (blk_cell BK260.out 4).trans rfl
          have hcz15_5 : wc.cell? ⟨gb260, 5, none⟩ = some (.slice A0_5 l0_5.length c0_5) := (blk_cell BK260.out 5).trans rfl
          have hcz15_6 : wc.cell? ⟨gb260, 6, none⟩ = some (.slice A0_6 l0_6.length c0_6) := (blk_cell BK260.out 6).trans rfl
          have hfz15_0 := blk_frozen BK260.out 0
          have hfz15_1 := blk_frozen BK260.out 1
          have hfz15_2 := blk_frozen BK260.out 2
          have hfz15_3 := blk_frozen BK260.out 3
          have hfz15_4 := blk_frozen BK260.out 4
          have hfz15_5 := blk_frozen BK260.out 5
          have hfz15_6 := blk_frozen BK260.out 6
          go_wp2
          go_ret
          exact ⟨by first | rfl | (simp [errW_none, errW_some] <;> rfl) | (simp [*, errW_none, errW_some] <;> rfl), by repeat (first | (with_reducible first | exact HB.out | apply below_alloc | apply pw_below_drewN | apply below_drew1 | refine below_set ?_ GE260.out | refine below_set ?_ GE261.out) | exact HB.out)⟩
      · replace c9 := Bool.eq_false_iff.mpr c9
        subst c9
        have H1 : (if a0_0 = 14 then (if a0_4 ≥ 0 then (some (decide (a0_4 < 8))) else (some false)) else (some true)) = some r := by rw [if_neg (show ¬ (false = true) by decide)] at H; exact H
        clear H
        have H := H1
        clear H1
        by_cases c16 : a0_0 = 14
        · rw [if_pos c16] at H
          have c16b0 : (a0_0 == 14) = true := beq_iff_eq.mpr c16
          have c16b1 : (a0_0 != 14) = false := bne_eq_false_iff_eq.mpr c16
          clear c16
          by_cases c17 : a0_4 ≥ 0
          · rw [if_pos c17] at H
            have c17b0 : decide (0 ≤ a0_4) = true := decide_eq_true c17
            clear c17
            obtain rfl := Option.some.inj H
            have hnb18 := NB260_261.out
            have hnc18 := NB261_260.out
            have hcz19_0 : wc.cell? ⟨gb260, 0, none⟩ = some (.int .u8 a0_0) := (blk_cell BK260.out 0).trans rfl
            have hcz19_1 : wc.cell? ⟨gb260, 1, none⟩ = some (.int .i64 a0_1) := (blk_cell BK260.out 1).trans rfl
            have hcz19_2 : wc.cell? ⟨gb260, 2, none⟩ = some (.int .i64 a0_2) := (blk_cell BK260.out 2).trans rfl
            have hcz19_3 : wc.cell? ⟨gb260, 3, none⟩ = some (.int .i64 a0_3) := (blk_cell BK260.out 3).trans rfl
            have hcz19_4 : wc.cell? ⟨gb260, 4, none⟩ = some (.int .i64 a0_4) := (blk_cell BK260.out 4).trans rfl
            have hcz19_5 : wc.cell? ⟨gb260, 5, none⟩ = some (.slice A0_5 l0_5.length c0_5) := (blk_cell BK260.out 5).trans rfl
            have hcz19_6 : wc.cell? ⟨gb260, 6, none⟩ = some (.slice A0_6 l0_6.length c0_6) := (blk_cell BK260.out 6).trans rfl
            have hfz19_0 := blk_frozen BK260.out 0
            have hfz19_1 := blk_frozen BK260.out 1
            have hfz19_2 := blk_frozen BK260.out 2
            have hfz19_3 := blk_frozen BK260.out 3
            have hfz19_4 := blk_frozen BK260.out 4
            have hfz19_5 := blk_frozen BK260.out 5
            have hfz19_6 := blk_frozen BK260.out 6
            go_wp2
            go_ret
            exact ⟨by first | rfl | (simp [errW_none, errW_some] <;> rfl) | (simp [*, errW_none, errW_some] <;> rfl), by repeat (first | (with_reducible first | exact HB.out | apply below_alloc | apply pw_below_drewN | apply below_drew1 | refine below_set ?_ GE260.out | refine below_set ?_ GE261.out) | exact HB.out)⟩
          · rw [if_neg c17] at H
            have c17b0 : decide (0 ≤ a0_4) = false := decide_eq_false c17
            clear c17
            obtain rfl := Option.some.inj H
            have hnb20 := NB260_261.out
            have hnc20 := NB261_260.out
            have hcz21_0 : wc.cell? ⟨gb260, 0, none⟩ = some (.int .u8 a0_0) := (blk_cell BK260.out 0).trans rfl
            have hcz21_1 : wc.cell? ⟨gb260, 1, none⟩ = some (.int .i64 a0_1) := (blk_cell BK260.out 1).trans rfl
            have hcz21_2 : wc.cell? ⟨gb260, 2, none⟩ = some (.int .i64 a0_2) := (blk_cell BK260.out 2).trans rfl
            have hcz21_3 : wc.cell? ⟨gb260, 3, none⟩ = some (.int .i64 a0_3) := (blk_cell BK260.out 3).trans rfl
            have hcz21_4 : wc.cell? ⟨gb260, 4, none⟩ = some (.int .i64 a0_4) := (blk_cell BK260.out 4).trans rfl
            have hcz21_5 : wc.cell? ⟨gb260, 5, none⟩ = some (.slice A0_5 l0_5.length c0_5) := (blk_cell BK260.out 5).trans rfl
            have hcz21_6 : wc.cell? ⟨gb260, 6, none⟩ = some (.slice A0_6 l0_6.length c0_6) := (blk_cell BK260.out 6).trans rfl
            have hfz21_0 := blk_frozen BK260.out 0
            have hfz21_1 := blk_frozen BK260.out 1
            have hfz21_2 := blk_frozen BK260.out 2
            have hfz21_3 := blk_frozen BK260.out 3
            have hfz21_4 := blk_frozen BK260.out 4
            have hfz21_5 := blk_frozen BK260.out 5
            have hfz21_6 := blk_frozen BK260.out 6
            go_wp2
            go_ret
            exact ⟨by first | rfl | (simp [errW_none, errW_some] <;> rfl) | (simp [*, errW_none, errW_some] <;> rfl), by repeat (first | (with_reducible first | exact HB.out | apply below_alloc | apply pw_below_drewN | apply below_drew1 | refine below_set ?_ GE260.out | refine below_set ?_ GE261.out) | exact HB.out)⟩
        · rw [if_neg c16] at H
          have c16b0 : (a0_0 == 14) = false := beq_eq_false_iff_ne.mpr c16
          have c16b1 : (a0_0 != 14) = true := bne_iff_ne.mpr c16
          obtain rfl := Option.some.inj H
          go_wp2
          go_ret
          exact ⟨by first | rfl | (simp [errW_none, errW_some] <;> rfl) | (simp [*, errW_none, errW_some] <;> rfl), by repeat (first | (with_reducible first | exact HB.out | apply below_alloc | apply pw_below_drewN | apply below_drew1 | refine below_set ?_ GE260.out | refine below_set ?_ GE261.out) | exact HB.out)⟩
def shape_end.f (a0_0 : Int) (a0_1 : Int) (a0_2 : Int) (a0_3 : Int) (a1_0 : Int) (a1_1 : Int) (a1_2 : Int) (a1_3 : Int) : Option (Bool) := if a0_0 = 1 then (if (a0_1 == 0 && (a0_3 == 0)) = true then ((shape_below.f a0_2 a1_3).bind fun t264 => (some t264)) else (some false)) else (if a0_0 = 2 then ((shape_below.f a0_1 a1_2).bind fun t265 => (if t265 = true then ((shape_below.f a0_2 a1_3).bind fun t266 => (if t266 = true then ((shape_below.f a0_3 a1_3).bind fun t267 => (some t267)) else (some false))) else (some false))) else (if a0_0 = 3 then (if (a0_2 == 0 && (a0_3 == 0)) = true then ((shape_below.f a0_1 a1_2).bind fun t268 => (some t268)) else (some false)) else (some false)))
set_option maxHeartbeats 8000000 in
set_option maxRecDepth 100000 in
theorem shape_end.calls (a0_0 : Int) (a0_1 : Int) (a0_2 : Int) (a0_3 : Int) (a1_0 : Int) (a1_1 : Int) (a1_2 : Int) (a1_3 : Int) (r : Bool) (w : World) (h : shape_end.f a0_0 a0_1 a0_2 a0_3 a1_0 a1_1 a1_2 a1_3 = some r) :
    Calls Tryd.prog 48 #[.agg #[.int .u8 a0_0, .int .i64 a0_1, .int .i64 a0_2, .int .i64 a0_3], .agg #[.int .i64 a1_0, .int .i64 a1_1, .int .i64 a1_2, .int .i64 a1_3]] w fun e w' => e = .returned (.bool r) ∧ Below w.heap.size w w' := by
  have hu34 := Tryd.underlying34
  have hu93 := Tryd.underlying93
  have HB := Aside0.mk (Below.refl w.heap.size w)
  have H : (if a0_0 = 1 then (if (a0_1 == 0 && (a0_3 == 0)) = true then ((shape_below.f a0_2 a1_3).bind fun t264 => (some t264)) else (some false)) else (if a0_0 = 2 then ((shape_below.f a0_1 a1_2).bind fun t265 => (if t265 = true then ((shape_below.f a0_2 a1_3).bind fun t266 => (if t266 = true then ((shape_below.f a0_3 a1_3).bind fun t267 => (some t267)) else (some false))) else (some false))) else (if a0_0 = 3 then (if (a0_2 == 0 && (a0_3 == 0)) = true then ((shape_below.f a0_1 a1_2).bind fun t268 => (some t268)) else (some false)) else (some false)))) = some r := h
  clear h
  by_cases c3 : a0_0 = 1
  · rw [if_pos c3] at H
    have c3b0 : (a0_0 == 1) = true := beq_iff_eq.mpr c3
    have c3b1 : (a0_0 != 1) = false := bne_eq_false_iff_eq.mpr c3
    clear c3
    by_cases c4 : (a0_1 == 0 && (a0_3 == 0)) = true
    · rw [if_pos c4] at H
      have c4b0 : (a0_1 == 0 && (a0_3 == 0)) = true := c4
      (try (have c4b1 : decide (a0_1 = 0 && (a0_3 == 0)) = true := by simpa using c4))
      (try (have c4b2 : (a0_1 == 0 && (a0_3 == 0)) = true := by simpa using c4))
      clear c4
      replace H := Option.bind_eq_some_iff.mp H
      obtain ⟨t264, A50, H⟩ := H
      replace H : (some t264) = some r := H
      have A5 := Aside0.mk A50
      clear A50
      obtain rfl := Option.some.inj H
      go_enter Tryd.func48, Tryd.ntmps48
      go_wp2_with (first | ((with_reducible refine gate_dst (N := 2) rfl ?_); refine box_event ?hg (N := 2) ?hd (cs := #[.int .u8 a0_0, .int .i64 a0_1, .int .i64 a0_2, .int .i64 a0_3]) (t := 34) ?hr ?_; (case hd => rfl); (case hg => rfl); (case hr => first | (go_simp; done) | (go_simp; rfl)); intro gb262 hg w6 hbox hb; have n0_ := Aside0.mk (below_step (by repeat (first | (with_reducible first | exact HB.out | apply below_alloc | apply pw_below_drewN | apply below_drew1) | exact HB.out)) hb); have n1_ := Aside0.mk (hbox); have n2_ := Aside0.mk ((by rw [hg]; exact (below_size (by repeat (first | (with_reducible first | exact HB.out | apply below_alloc | apply pw_below_drewN | apply below_drew1) | exact HB.out))) : w.heap.size ≤ gb262)); have n3_ := Aside0.mk ((by rw [hg]; exact (below_size (by repeat (first | (with_reducible first | exact HB.out | apply below_alloc | apply pw_below_drewN | apply below_drew1) | exact HB.out))) : w.heap.size ≤ gb262)); clear HB; have HB := n0_; have BK262 := n1_; have GW262 := n2_; have GE262 := n3_; clear n0_ n1_ n2_ n3_; clear hb hbox hg) | ((with_reducible refine gate_dst (N := 3) rfl ?_); refine box_event ?hg (N := 3) ?hd (cs := #[.int .i64 a1_0, .int .i64 a1_1, .int .i64 a1_2, .int .i64 a1_3]) (t := 93) ?hr ?_; (case hd => rfl); (case hg => rfl); (case hr => first | (go_simp; done) | (go_simp; rfl)); intro gb263 hg w7 hbox hb; have n0_ := Aside0.mk (blk_below (g := gb262) (o := .cells #[.int .u8 a0_0, .int .i64 a0_1, .int .i64 a0_2, .int .i64 a0_3] 34 (0, 0)) (by (with_reducible repeat (first | refine blk_drewN ?_ _ | refine blk_drew ?_ | refine blk_alloc ?_ _)); exact BK262.out) hb); have n1_ := Aside0.mk (below_step (by repeat (first | (with_reducible first | exact HB.out | apply below_alloc | apply pw_below_drewN | apply below_drew1 | refine below_set ?_ GE262.out) | exact HB.out)) hb); have n2_ := Aside0.mk (hbox); have n3_ := Aside0.mk ((by rw [hg]; exact (below_size (by repeat (first | (with_reducible first | exact HB.out | apply below_alloc | apply pw_below_drewN | apply below_drew1 | refine below_set ?_ GE262.out) | exact HB.out))) : w.heap.size ≤ gb263)); have n4_ := Aside0.mk ((by rw [hg]; exact (below_size (by repeat (first | (with_reducible first | exact HB.out | apply below_alloc | apply pw_below_drewN | apply below_drew1 | refine below_set ?_ GE262.out) | exact HB.out))) : w.heap.size ≤ gb263)); have n5_ := Aside0.mk ((by rw [hg]; exact Nat.ne_of_lt (blk_lt (g := gb262) (o := .cells #[.int .u8 a0_0, .int .i64 a0_1, .int .i64 a0_2, .int .i64 a0_3] 34 (0, 0)) (by (with_reducible repeat (first | refine blk_drewN ?_ _ | refine blk_drew ?_ | refine blk_alloc ?_ _)); exact BK262.out)) : gb262 ≠ gb263)); have n6_ := Aside0.mk ((by rw [hg]; exact Nat.ne_of_gt (blk_lt (g := gb262) (o := .cells #[.int .u8 a0_0, .int .i64 a0_1, .int .i64 a0_2, .int .i64 a0_3] 34 (0, 0)) (by (with_reducible repeat (first | refine blk_drewN ?_ _ | refine blk_drew ?_ | refine blk_alloc ?_ _)); exact BK262.out)) : gb263 ≠ gb262)); clear BK262; clear HB; have BK262 := n0_; have HB := n1_; have BK263 := n2_; have GW263 := n3_; have GE263 := n4_; have NB262_263 := n5_; have NB263_262 := n6_; clear n0_ n1_ n2_ n3_ n4_ n5_ n6_; clear hb hbox hg; have hnb8 := NB262_263.out; have hnc8 := NB263_262.out; have hcz9_0 : w7.cell? ⟨gb262, 0, none⟩ = some (.int .u8 a0_0) := (blk_cell BK262.out 0).trans rfl; have hcz9_1 : w7.cell? ⟨gb262, 1, none⟩ = some (.int .i64 a0_1) := (blk_cell BK262.out 1).trans rfl; have hcz9_2 : w7.cell? ⟨gb262, 2, none⟩ = some (.int .i64 a0_2) := (blk_cell BK262.out 2).trans rfl; have hcz9_3 : w7.cell? ⟨gb262, 3, none⟩ = some (.int .i64 a0_3) := (blk_cell BK262.out 3).trans rfl; have hfz9_0 := blk_frozen BK262.out 0; have hfz9_1 := blk_frozen BK262.out 1; have hfz9_2 := blk_frozen BK262.out 2; have hfz9_3 := blk_frozen BK262.out 3; have hcz10_0 : w7.cell? ⟨gb263, 0, none⟩ = some (.int .i64 a1_0) := (blk_cell BK263.out 0).trans rfl; have hcz10_1 : w7.cell? ⟨gb263, 1, none⟩ = some (.int .i64 a1_1) := (blk_cell BK263.out 1).trans rfl; have hcz10_2 : w7.cell? ⟨gb263, 2, none⟩ = some (.int .i64 a1_2) := (blk_cell BK263.out 2).trans rfl; have hcz10_3 : w7.cell? ⟨gb263, 3, none⟩ = some (.int .i64 a1_3) := (blk_cell BK263.out 3).trans rfl; have hfz10_0 := blk_frozen BK263.out 0; have hfz10_1 := blk_frozen BK263.out 1; have hfz10_2 := blk_frozen BK263.out 2; have hfz10_3 := blk_frozen BK263.out 3) | (go_at_call 22; (with_reducible refine (shape_below.calls a0_2 a1_3 t264 _ A5.out).mono ?_); rintro e w' ⟨rfl, ⟨nd, rfl⟩⟩))
      go_ret
      exact ⟨by first | rfl | (simp [errW_none, errW_some] <;> rfl) | (simp [*, errW_none, errW_some] <;> rfl), by repeat (first | (with_reducible first | exact HB.out | apply below_alloc | apply pw_below_drewN | apply below_drew1 | refine below_set ?_ GE262.out | refine below_set ?_ GE263.out) | exact HB.out)⟩
    · rw [if_neg c4] at H
      have c4b0 : (a0_1 == 0 && (a0_3 == 0)) = false := by simpa using c4
      (try (have c4b1 : decide (a0_1 = 0 && (a0_3 == 0)) = false := by simpa using c4))
      (try (have c4b2 : (a0_1 == 0 && (a0_3 == 0)) = false := by simpa using c4))
      (try (have c4b3 : ¬ (a0_1 = 0 && (a0_3 == 0)) := by simpa using c4))
      clear c4
      obtain rfl := Option.some.inj H
      go_enter Tryd.func48, Tryd.ntmps48
      go_wp2_with (first | ((with_reducible refine gate_dst (N := 2) rfl ?_); refine box_event ?hg (N := 2) ?hd (cs := #[.int .u8 a0_0, .int .i64 a0_1, .int .i64 a0_2, .int .i64 a0_3]) (t := 34) ?hr ?_; (case hd => rfl); (case hg => rfl); (case hr => first | (go_simp; done) | (go_simp; rfl)); intro gb262 hg w11 hbox hb; have n0_ := Aside0.mk (below_step (by repeat (first | (with_reducible first | exact HB.out | apply below_alloc | apply pw_below_drewN | apply below_drew1) | exact HB.out)) hb); have n1_ := Aside0.mk (hbox); have n2_ := Aside0.mk ((by rw [hg]; exact (below_size (by repeat (first | (with_reducible first | exact HB.out | apply below_alloc | apply pw_below_drewN | apply below_drew1) | exact HB.out))) : w.heap.size ≤ gb262)); have n3_ := Aside0.mk ((by rw [hg]; exact (below_size (by repeat (first | (with_reducible first | exact HB.out | apply below_alloc | apply pw_below_drewN | apply below_drew1) | exact HB.out))) : w.heap.size ≤ gb262)); clear HB; have HB := n0_; have BK262 := n1_; have GW262 := n2_; have GE262 := n3_; clear n0_ n1_ n2_ n3_; clear hb hbox hg) | ((with_reducible refine gate_dst (N := 3) rfl ?_); refine box_event ?hg (N := 3) ?hd (cs := #[.int .i64 a1_0, .int .i64 a1_1, .int .i64 a1_2, .int .i64 a1_3]) (t := 93) ?hr ?_; (case hd => rfl); (case hg => rfl); (case hr => first | (go_simp; done) | (go_simp; rfl)); intro gb263 hg w12 hbox hb; have n0_ := Aside0.mk (blk_below (g := gb262) (o := .cells #[.int .u8 a0_0, .int .i64 a0_1, .int .i64 a0_2, .int .i64 a0_3] 34 (0, 0)) (by (with_reducible repeat (first | refine blk_drewN ?_ _ | refine blk_drew ?_ | refine blk_alloc ?_ _)); exact BK262.out) hb); have n1_ := Aside0.mk (below_step (by repeat (first | (with_reducible first | exact HB.out | apply below_alloc | apply pw_below_drewN | apply below_drew1 | refine below_set ?_ GE262.out) | exact HB.out)) hb); have n2_ := Aside0.mk (hbox); have n3_ := Aside0.mk ((by rw [hg]; exact (below_size (by repeat (first | (with_reducible first | exact HB.out | apply below_alloc | apply pw_below_drewN | apply below_drew1 | refine below_set ?_ GE262.out) | exact HB.out))) : w.heap.size ≤ gb263)); have n4_ := Aside0.mk ((by rw [hg]; exact (below_size (by repeat (first | (with_reducible first | exact HB.out | apply below_alloc | apply pw_below_drewN | apply below_drew1 | refine below_set ?_ GE262.out) | exact HB.out))) : w.heap.size ≤ gb263)); have n5_ := Aside0.mk ((by rw [hg]; exact Nat.ne_of_lt (blk_lt (g := gb262) (o := .cells #[.int .u8 a0_0, .int .i64 a0_1, .int .i64 a0_2, .int .i64 a0_3] 34 (0, 0)) (by (with_reducible repeat (first | refine blk_drewN ?_ _ | refine blk_drew ?_ | refine blk_alloc ?_ _)); exact BK262.out)) : gb262 ≠ gb263)); have n6_ := Aside0.mk ((by rw [hg]; exact Nat.ne_of_gt (blk_lt (g := gb262) (o := .cells #[.int .u8 a0_0, .int .i64 a0_1, .int .i64 a0_2, .int .i64 a0_3] 34 (0, 0)) (by (with_reducible repeat (first | refine blk_drewN ?_ _ | refine blk_drew ?_ | refine blk_alloc ?_ _)); exact BK262.out)) : gb263 ≠ gb262)); clear BK262; clear HB; have BK262 := n0_; have HB := n1_; have BK263 := n2_; have GW263 := n3_; have GE263 := n4_; have NB262_263 := n5_; have NB263_262 := n6_; clear n0_ n1_ n2_ n3_ n4_ n5_ n6_; clear hb hbox hg; have hnb13 := NB262_263.out; have hnc13 := NB263_262.out; have hcz14_0 : w12.cell? ⟨gb262, 0, none⟩ = some (.int .u8 a0_0) := (blk_cell BK262.out 0).trans rfl; have hcz14_1 : w12.cell? ⟨gb262, 1, none⟩ = some (.int .i64 a0_1) := (blk_cell BK262.out 1).trans rfl; have hcz14_2 : w12.cell? ⟨gb262, 2, none⟩ = some (.int .i64 a0_2) := (blk_cell BK262.out 2).trans rfl; have hcz14_3 : w12.cell? ⟨gb262, 3, none⟩ = some (.int .i64 a0_3) := (blk_cell BK262.out 3).trans rfl; have hfz14_0 := blk_frozen BK262.out 0; have hfz14_1 := blk_frozen BK262.out 1; have hfz14_2 := blk_frozen BK262.out 2; have hfz14_3 := blk_frozen BK262.out 3))
      go_ret
      exact ⟨by first | rfl | (simp [errW_none, errW_some] <;> rfl) | (simp [*, errW_none, errW_some] <;> rfl), by repeat (first | (with_reducible first | exact HB.out | apply below_alloc | apply pw_below_drewN | apply below_drew1 | refine below_set ?_ GE262.out | refine below_set ?_ GE263.out) | exact HB.out)⟩
  · rw [if_neg c3] at H
    have c3b0 : (a0_0 == 1) = false := beq_eq_false_iff_ne.mpr c3
    have c3b1 : (a0_0 != 1) = true := bne_iff_ne.mpr c3
    by_cases c15 : a0_0 = 2
    · rw [if_pos c15] at H
      have c15b0 : (a0_0 == 2) = true := beq_iff_eq.mpr c15
      have c15b1 : (a0_0 != 2) = false := bne_eq_false_iff_eq.mpr c15
      clear c15
      replace H := Option.bind_eq_some_iff.mp H
      obtain ⟨t265, A160, H⟩ := H
      replace H : (if t265 = true then ((shape_below.f a0_2 a1_3).bind fun t266 => (if t266 = true then ((shape_below.f a0_3 a1_3).bind fun t267 => (some t267)) else (some false))) else (some false)) = some r := H
      have A16 := Aside0.mk A160
      clear A160
      by_cases c17 : t265 = true
      · subst c17
        have H1 : ((shape_below.f a0_2 a1_3).bind fun t266 => (if t266 = true then ((shape_below.f a0_3 a1_3).bind fun t267 => (some t267)) else (some false))) = some r := by rw [if_pos rfl] at H; exact H
        clear H
        have H := H1
        clear H1
        replace H := Option.bind_eq_some_iff.mp H
        obtain ⟨t266, A180, H⟩ := H
        replace H : (if t266 = true then ((shape_below.f a0_3 a1_3).bind fun t267 => (some t267)) else (some false)) = some r := H
        have A18 := Aside0.mk A180
        clear A180
        by_cases c19 : t266 = true
        · subst c19
          have H1 : ((shape_below.f a0_3 a1_3).bind fun t267 => (some t267)) = some r := by rw [if_pos rfl] at H; exact H
          clear H
          have H := H1
          clear H1
          replace H := Option.bind_eq_some_iff.mp H
          obtain ⟨t267, A200, H⟩ := H
          replace H : (some t267) = some r := H
          have A20 := Aside0.mk A200
          clear A200
          obtain rfl := Option.some.inj H
          go_enter Tryd.func48, Tryd.ntmps48
          go_wp2_with (first | ((with_reducible refine gate_dst (N := 2) rfl ?_); refine box_event ?hg (N := 2) ?hd (cs := #[.int .u8 a0_0, .int .i64 a0_1, .int .i64 a0_2, .int .i64 a0_3]) (t := 34) ?hr ?_; (case hd => rfl); (case hg => rfl); (case hr => first | (go_simp; done) | (go_simp; rfl)); intro gb262 hg w21 hbox hb; have n0_ := Aside0.mk (below_step (by repeat (first | (with_reducible first | exact HB.out | apply below_alloc | apply pw_below_drewN | apply below_drew1) | exact HB.out)) hb); have n1_ := Aside0.mk (hbox); have n2_ := Aside0.mk ((by rw [hg]; exact (below_size (by repeat (first | (with_reducible first | exact HB.out | apply below_alloc | apply pw_below_drewN | apply below_drew1) | exact HB.out))) : w.heap.size ≤ gb262)); have n3_ := Aside0.mk ((by rw [hg]; exact (below_size (by repeat (first | (with_reducible first | exact HB.out | apply below_alloc | apply pw_below_drewN | apply below_drew1) | exact HB.out))) : w.heap.size ≤ gb262)); clear HB; have HB := n0_; have BK262 := n1_; have GW262 := n2_; have GE262 := n3_; clear n0_ n1_ n2_ n3_; clear hb hbox hg) | ((with_reducible refine gate_dst (N := 3) rfl ?_); refine box_event ?hg (N := 3) ?hd (cs := #[.int .i64 a1_0, .int .i64 a1_1, .int .i64 a1_2, .int .i64 a1_3]) (t := 93) ?hr ?_; (case hd => rfl); (case hg => rfl); (case hr => first | (go_simp; done) | (go_simp; rfl)); intro gb263 hg w22 hbox hb; have n0_ := Aside0.mk (blk_below (g := gb262) (o := .cells #[.int .u8 a0_0, .int .i64 a0_1, .int .i64 a0_2, .int .i64 a0_3] 34 (0, 0)) (by (with_reducible repeat (first | refine blk_drewN ?_ _ | refine blk_drew ?_ | refine blk_alloc ?_ _)); exact BK262.out) hb); have n1_ := Aside0.mk (below_step (by repeat (first | (with_reducible first | exact HB.out | apply below_alloc | apply pw_below_drewN | apply below_drew1 | refine below_set ?_ GE262.out) | exact HB.out)) hb); have n2_ := Aside0.mk (hbox); have n3_ := Aside0.mk ((by rw [hg]; exact (below_size (by repeat (first | (with_reducible first | exact HB.out | apply below_alloc | apply pw_below_drewN | apply below_drew1 | refine below_set ?_ GE262.out) | exact HB.out))) : w.heap.size ≤ gb263)); have n4_ := Aside0.mk ((by rw [hg]; exact (below_size (by repeat (first | (with_reducible first | exact HB.out | apply below_alloc | apply pw_below_drewN | apply below_drew1 | refine below_set ?_ GE262.out) | exact HB.out))) : w.heap.size ≤ gb263)); have n5_ := Aside0.mk ((by rw [hg]; exact Nat.ne_of_lt (blk_lt (g := gb262) (o := .cells #[.int .u8 a0_0, .int .i64 a0_1, .int .i64 a0_2, .int .i64 a0_3] 34 (0, 0)) (by (with_reducible repeat (first | refine blk_drewN ?_ _ | refine blk_drew ?_ | refine blk_alloc ?_ _)); exact BK262.out)) : gb262 ≠ gb263)); have n6_ := Aside0.mk ((by rw [hg]; exact Nat.ne_of_gt (blk_lt (g := gb262) (o := .cells #[.int .u8 a0_0, .int .i64 a0_1, .int .i64 a0_2, .int .i64 a0_3] 34 (0, 0)) (by (with_reducible repeat (first | refine blk_drewN ?_ _ | refine blk_drew ?_ | refine blk_alloc ?_ _)); exact BK262.out)) : gb263 ≠ gb262)); clear BK262; clear HB; have BK262 := n0_; have HB := n1_; have BK263 := n2_; have GW263 := n3_; have GE263 := n4_; have NB262_263 := n5_; have NB263_262 := n6_; clear n0_ n1_ n2_ n3_ n4_ n5_ n6_; clear hb hbox hg; have hnb23 := NB262_263.out; have hnc23 := NB263_262.out; have hcz24_0 : w22.cell? ⟨gb262, 0, none⟩ = some (.int .u8 a0_0) := (blk_cell BK262.out 0).trans rfl; have hcz24_1 : w22.cell? ⟨gb262, 1, none⟩ = some (.int .i64 a0_1) := (blk_cell BK262.out 1).trans rfl; have hcz24_2 : w22.cell? ⟨gb262, 2, none⟩ = some (.int .i64 a0_2) := (blk_cell BK262.out 2).trans rfl; have hcz24_3 : w22.cell? ⟨gb262, 3, none⟩ = some (.int .i64 a0_3) := (blk_cell BK262.out 3).trans rfl; have hfz24_0 := blk_frozen BK262.out 0; have hfz24_1 := blk_frozen BK262.out 1; have hfz24_2 := blk_frozen BK262.out 2; have hfz24_3 := blk_frozen BK262.out 3; have hcz25_0 : w22.cell? ⟨gb263, 0, none⟩ = some (.int .i64 a1_0) := (blk_cell BK263.out 0).trans rfl; have hcz25_1 : w22.cell? ⟨gb263, 1, none⟩ = some (.int .i64 a1_1) := (blk_cell BK263.out 1).trans rfl; have hcz25_2 : w22.cell? ⟨gb263, 2, none⟩ = some (.int .i64 a1_2) := (blk_cell BK263.out 2).trans rfl; have hcz25_3 : w22.cell? ⟨gb263, 3, none⟩ = some (.int .i64 a1_3) := (blk_cell BK263.out 3).trans rfl; have hfz25_0 := blk_frozen BK263.out 0; have hfz25_1 := blk_frozen BK263.out 1; have hfz25_2 := blk_frozen BK263.out 2; have hfz25_3 := blk_frozen BK263.out 3) | ((with_reducible refine gate_callee (f := 22) rfl ?_); refine goesL_ (some 29) rfl rfl Tryd.func22 (by kernel_rfl) rfl #[.int .i64 a0_1, .int .i64 a1_2] rfl (by (try simp only [List.map_toArray, List.map_cons, List.map_nil]); first | done | rfl | (simp only [List.length_drop, List.length_take]; rfl)) ?_; (with_reducible refine (shape_below.calls a0_1 a1_2 true _ A16.out).mono ?_); rintro e w' ⟨rfl, ⟨nd, rfl⟩⟩; refine ⟨_, rfl, ?_⟩) | (go_at_call 22; (with_reducible refine (shape_below.calls a0_2 a1_3 true _ A18.out).mono ?_); rintro e w' ⟨rfl, ⟨nd, rfl⟩⟩) | (go_at_call 22; (with_reducible refine (shape_below.calls a0_3 a1_3 t267 _ A20.out).mono ?_); rintro e w' ⟨rfl, ⟨nd, rfl⟩⟩))
          go_ret
          exact ⟨by first | rfl | (simp [errW_none, errW_some] <;> rfl) | (simp [*, errW_none, errW_some] <;> rfl), by repeat (first | (with_reducible first | exact HB.out | apply below_alloc | apply pw_below_drewN | apply below_drew1 | refine below_set ?_ GE262.out | refine below_set ?_ GE263.out) | exact HB.out)⟩
        · replace c19 := Bool.eq_false_iff.mpr c19
          subst c19
          have H1 : (some false) = some r := by rw [if_neg (show ¬ (false = true) by decide)] at H; exact H
          clear H
          have H := H1
          clear H1
          obtain rfl := Option.some.inj H
          go_enter Tryd.func48, Tryd.ntmps48
          go_wp2_with (first | ((with_reducible refine gate_dst (N := 2) rfl ?_); refine box_event ?hg (N := 2) ?hd (cs := #[.int .u8 a0_0, .int .i64 a0_1, .int .i64 a0_2, .int .i64 a0_3]) (t := 34) ?hr ?_; (case hd => rfl); (case hg => rfl); (case hr => first | (go_simp; done) | (go_simp; rfl)); intro gb262 hg w26 hbox hb; have n0_ := Aside0.mk (below_step (by repeat (first | (with_reducible first | exact HB.out | apply below_alloc | apply pw_below_drewN | apply below_drew1) | exact HB.out)) hb); have n1_ := Aside0.mk (hbox); have n2_ := Aside0.mk ((by rw [hg]; exact (below_size (by repeat (first | (with_reducible first | exact HB.out | apply below_alloc | apply pw_below_drewN | apply below_drew1) | exact HB.out))) : w.heap.size ≤ gb262)); have n3_ := Aside0.mk ((by rw [hg]; exact (below_size (by repeat (first | (with_reducible first | exact HB.out | apply below_alloc | apply pw_below_drewN | apply below_drew1) | exact HB.out))) : w.heap.size ≤ gb262)); clear HB; have HB := n0_; have BK262 := n1_; have GW262 := n2_; have GE262 := n3_; clear n0_ n1_ n2_ n3_; clear hb hbox hg) | ((with_reducible refine gate_dst (N := 3) rfl ?_); refine box_event ?hg (N := 3) ?hd (cs := #[.int .i64 a1_0, .int .i64 a1_1, .int .i64 a1_2, .int .i64 a1_3]) (t := 93) ?hr ?_; (case hd => rfl); (case hg => rfl); (case hr => first | (go_simp; done) | (go_simp; rfl)); intro gb263 hg w27 hbox hb; have n0_ := Aside0.mk (blk_below (g := gb262) (o := .cells #[.int .u8 a0_0, .int .i64 a0_1, .int .i64 a0_2, .int .i64 a0_3] 34 (0, 0)) (by (with_reducible repeat (first | refine blk_drewN ?_ _ | refine blk_drew ?_ | refine blk_alloc ?_ _)); exact BK262.out) hb); have n1_ := Aside0.mk (below_step (by repeat (first | (with_reducible first | exact HB.out | apply below_alloc | apply pw_below_drewN | apply below_drew1 | refine below_set ?_ GE262.out) | exact HB.out)) hb); have n2_ := Aside0.mk (hbox); have n3_ := Aside0.mk ((by rw [hg]; exact (below_size (by repeat (first | (with_reducible first | exact HB.out | apply below_alloc | apply pw_below_drewN | apply below_drew1 | refine below_set ?_ GE262.out) | exact HB.out))) : w.heap.size ≤ gb263)); have n4_ := Aside0.mk ((by rw [hg]; exact (below_size (by repeat (first | (with_reducible first | exact HB.out | apply below_alloc | apply pw_below_drewN | apply below_drew1 | refine below_set ?_ GE262.out) | exact HB.out))) : w.heap.size ≤ gb263)); have n5_ := Aside0.mk ((by rw [hg]; exact Nat.ne_of_lt (blk_lt (g := gb262) (o := .cells #[.int .u8 a0_0, .int .i64 a0_1, .int .i64 a0_2, .int .i64 a0_3] 34 (0, 0)) (by (with_reducible repeat (first | refine blk_drewN ?_ _ | refine blk_drew ?_ | refine blk_alloc ?_ _)); exact BK262.out)) : gb262 ≠ gb263)); have n6_ := Aside0.mk ((by rw [hg]; exact Nat.ne_of_gt (blk_lt (g := gb262) (o := .cells #[.int .u8 a0_0, .int .i64 a0_1, .int .i64 a0_2, .int .i64 a0_3] 34 (0, 0)) (by (with_reducible repeat (first | refine blk_drewN ?_ _ | refine blk_drew ?_ | refine blk_alloc ?_ _)); exact BK262.out)) : gb263 ≠ gb262)); clear BK262; clear HB; have BK262 := n0_; have HB := n1_; have BK263 := n2_; have GW263 := n3_; have GE263 := n4_; have NB262_263 := n5_; have NB263_262 := n6_; clear n0_ n1_ n2_ n3_ n4_ n5_ n6_; clear hb hbox hg; have hnb28 := NB262_263.out; have hnc28 := NB263_262.out; have hcz29_0 : w27.cell? ⟨gb262, 0, none⟩ = some (.int .u8 a0_0) := (blk_cell BK262.out 0).trans rfl; have hcz29_1 : w27.cell? ⟨gb262, 1, none⟩ = some (.int .i64 a0_1) := (blk_cell BK262.out 1).trans rfl; have hcz29_2 : w27.cell? ⟨gb262, 2, none⟩ = some (.int .i64 a0_2) := (blk_cell BK262.out 2).trans rfl; have hcz29_3 : w27.cell? ⟨gb262, 3, none⟩ = some (.int .i64 a0_3) := (blk_cell BK262.out 3).trans rfl; have hfz29_0 := blk_frozen BK262.out 0; have hfz29_1 := blk_frozen BK262.out 1; have hfz29_2 := blk_frozen BK262.out 2; have hfz29_3 := blk_frozen BK262.out 3; have hcz30_0 : w27.cell? ⟨gb263, 0, none⟩ = some (.int .i64 a1_0) := (blk_cell BK263.out 0).trans rfl; have hcz30_1 : w27.cell? ⟨gb263, 1, none⟩ = some (.int .i64 a1_1) := (blk_cell BK263.out 1).trans rfl; have hcz30_2 : w27.cell? ⟨gb263, 2, none⟩ = some (.int .i64 a1_2) := (blk_cell BK263.out 2).trans rfl; have hcz30_3 : w27.cell? ⟨gb263, 3, none⟩ = some (.int .i64 a1_3) := (blk_cell BK263.out 3).trans rfl; have hfz30_0 := blk_frozen BK263.out 0; have hfz30_1 := blk_frozen BK263.out 1; have hfz30_2 := blk_frozen BK263.out 2; have hfz30_3 := blk_frozen BK263.out 3) | ((with_reducible refine gate_callee (f := 22) rfl ?_); refine goesL_ (some 29) rfl rfl Tryd.func22 (by kernel_rfl) rfl #[.int .i64 a0_1, .int .i64 a1_2] rfl (by (try simp only [List.map_toArray, List.map_cons, List.map_nil]); first | done | rfl | (simp only [List.length_drop, List.length_take]; rfl)) ?_; (with_reducible refine (shape_below.calls a0_1 a1_2 true _ A16.out).mono ?_); rintro e w' ⟨rfl, ⟨nd, rfl⟩⟩; refine ⟨_, rfl, ?_⟩) | (go_at_call 22; (with_reducible refine (shape_below.calls a0_2 a1_3 false _ A18.out).mono ?_); rintro e w' ⟨rfl, ⟨nd, rfl⟩⟩))
          go_ret
          exact ⟨by first | rfl | (simp [errW_none, errW_some] <;> rfl) | (simp [*, errW_none, errW_some] <;> rfl), by repeat (first | (with_reducible first | exact HB.out | apply below_alloc | apply pw_below_drewN | apply below_drew1 | refine below_set ?_ GE262.out | refine below_set ?_ GE263.out) | exact HB.out)⟩
      · replace c17 := Bool.eq_false_iff.mpr c17
        subst c17
        have H1 : (some false) = some r := by rw [if_neg (show ¬ (false = true) by decide)] at H; exact H
        clear H
        have H := H1
        clear H1
        obtain rfl := Option.some.inj H
        go_enter Tryd.func48, Tryd.ntmps48
        go_wp2_with (first | ((with_reducible refine gate_dst (N := 2) rfl ?_); refine box_event ?hg (N := 2) ?hd (cs := #[.int .u8 a0_0, .int .i64 a0_1, .int .i64 a0_2, .int .i64 a0_3]) (t := 34) ?hr ?_; (case hd => rfl); (case hg => rfl); (case hr => first | (go_simp; done) | (go_simp; rfl)); intro gb262 hg w31 hbox hb; have n0_ := Aside0.mk (below_step (by repeat (first | (with_reducible first | exact HB.out | apply below_alloc | apply pw_below_drewN | apply below_drew1) | exact HB.out)) hb); have n1_ := Aside0.mk (hbox); have n2_ := Aside0.mk ((by rw [hg]; exact (below_size (by repeat (first | (with_reducible first | exact HB.out | apply below_alloc | apply pw_below_drewN | apply below_drew1) | exact HB.out))) : w.heap.size ≤ gb262)); have n3_ := Aside0.mk ((by rw [hg]; exact (below_size (by repeat (first | (with_reducible first | exact HB.out | apply below_alloc | apply pw_below_drewN | apply below_drew1) | exact HB.out))) : w.heap.size ≤ gb262)); clear HB; have HB := n0_; have BK262 := n1_; have GW262 := n2_; have GE262 := n3_; clear n0_ n1_ n2_ n3_; clear hb hbox hg) | ((with_reducible refine gate_dst (N := 3) rfl ?_); refine box_event ?hg (N := 3) ?hd (cs := #[.int .i64 a1_0, .int .i64 a1_1, .int .i64 a1_2, .int .i64 a1_3]) (t := 93) ?hr ?_; (case hd => rfl); (case hg => rfl); (case hr => first | (go_simp; done) | (go_simp; rfl)); intro gb263 hg w32 hbox hb; have n0_ := Aside0.mk (blk_below (g := gb262) (o := .cells #[.int .u8 a0_0, .int .i64 a0_1, .int .i64 a0_2, .int .i64 a0_3] 34 (0, 0)) (by (with_reducible repeat (first | refine blk_drewN ?_ _ | refine blk_drew ?_ | refine blk_alloc ?_ _)); exact BK262.out) hb); have n1_ := Aside0.mk (below_step (by repeat (first | (with_reducible first | exact HB.out | apply below_alloc | apply pw_below_drewN | apply below_drew1 | refine below_set ?_ GE262.out) | exact HB.out)) hb); have n2_ := Aside0.mk (hbox); have n3_ := Aside0.mk ((by rw [hg]; exact (below_size (by repeat (first | (with_reducible first | exact HB.out | apply below_alloc | apply pw_below_drewN | apply below_drew1 | refine below_set ?_ GE262.out) | exact HB.out))) : w.heap.size ≤ gb263)); have n4_ := Aside0.mk ((by rw [hg]; exact (below_size (by repeat (first | (with_reducible first | exact HB.out | apply below_alloc | apply pw_below_drewN | apply below_drew1 | refine below_set ?_ GE262.out) | exact HB.out))) : w.heap.size ≤ gb263)); have n5_ := Aside0.mk ((by rw [hg]; exact Nat.ne_of_lt (blk_lt (g := gb262) (o := .cells #[.int .u8 a0_0, .int .i64 a0_1, .int .i64 a0_2, .int .i64 a0_3] 34 (0, 0)) (by (with_reducible repeat (first | refine blk_drewN ?_ _ | refine blk_drew ?_ | refine blk_alloc ?_ _)); exact BK262.out)) : gb262 ≠ gb263)); have n6_ := Aside0.mk ((by rw [hg]; exact Nat.ne_of_gt (blk_lt (g := gb262) (o := .cells #[.int .u8 a0_0, .int .i64 a0_1, .int .i64 a0_2, .int .i64 a0_3] 34 (0, 0)) (by (with_reducible repeat (first | refine blk_drewN ?_ _ | refine blk_drew ?_ | refine blk_alloc ?_ _)); exact BK262.out)) : gb263 ≠ gb262)); clear BK262; clear HB; have BK262 := n0_; have HB := n1_; have BK263 := n2_; have GW263 := n3_; have GE263 := n4_; have NB262_263 := n5_; have NB263_262 := n6_; clear n0_ n1_ n2_ n3_ n4_ n5_ n6_; clear hb hbox hg; have hnb33 := NB262_263.out; have hnc33 := NB263_262.out; have hcz34_0 : w32.cell? ⟨gb262, 0, none⟩ = some (.int .u8 a0_0) := (blk_cell BK262.out 0).trans rfl; have hcz34_1 : w32.cell? ⟨gb262, 1, none⟩ = some (.int .i64 a0_1) := (blk_cell BK262.out 1).trans rfl; have hcz34_2 : w32.cell? ⟨gb262, 2, none⟩ = some (.int .i64 a0_2) := (blk_cell BK262.out 2).trans rfl; have hcz34_3 : w32.cell? ⟨gb262, 3, none⟩ = some (.int .i64 a0_3) := (blk_cell BK262.out 3).trans rfl; have hfz34_0 := blk_frozen BK262.out 0; have hfz34_1 := blk_frozen BK262.out 1; have hfz34_2 := blk_frozen BK262.out 2; have hfz34_3 := blk_frozen BK262.out 3; have hcz35_0 : w32.cell? ⟨gb263, 0, none⟩ = some (.int .i64 a1_0) := (blk_cell BK263.out 0).trans rfl; have hcz35_1 : w32.cell? ⟨gb263, 1, none⟩ = some (.int .i64 a1_1) := (blk_cell BK263.out 1).trans rfl; have hcz35_2 : w32.cell? ⟨gb263, 2, none⟩ = some (.int .i64 a1_2) := (blk_cell BK263.out 2).trans rfl; have hcz35_3 : w32.cell? ⟨gb263, 3, none⟩ = some (.int .i64 a1_3) := (blk_cell BK263.out 3).trans rfl; have hfz35_0 := blk_frozen BK263.out 0; have hfz35_1 := blk_frozen BK263.out 1; have hfz35_2 := blk_frozen BK263.out 2; have hfz35_3 := blk_frozen BK263.out 3) | ((with_reducible refine gate_callee (f := 22) rfl ?_); refine goesL_ (some 29) rfl rfl Tryd.func22 (by kernel_rfl) rfl #[.int .i64 a0_1, .int .i64 a1_2] rfl (by (try simp only [List.map_toArray, List.map_cons, List.map_nil]); first | done | rfl | (simp only [List.length_drop, List.length_take]; rfl)) ?_; (with_reducible refine (shape_below.calls a0_1 a1_2 false _ A16.out).mono ?_); rintro e w' ⟨rfl, ⟨nd, rfl⟩⟩; refine ⟨_, rfl, ?_⟩))
        go_ret
        exact ⟨by first | rfl | (simp [errW_none, errW_some] <;> rfl) | (simp [*, errW_none, errW_some] <;> rfl), by repeat (first | (with_reducible first | exact HB.out | apply below_alloc | apply pw_below_drewN | apply below_drew1 | refine below_set ?_ GE262.out | refine below_set ?_ GE263.out) | exact HB.out)⟩
    · rw [if_neg c15] at H
      have c15b0 : (a0_0 == 2) = false := beq_eq_false_iff_ne.mpr c15
      have c15b1 : (a0_0 != 2) = true := bne_iff_ne.mpr c15
      by_cases c36 : a0_0 = 3
      · rw [if_pos c36] at H
        have c36b0 : (a0_0 == 3) = true := beq_iff_eq.mpr c36
        have c36b1 : (a0_0 != 3) = false := bne_eq_false_iff_eq.mpr c36
        clear c36
        by_cases c37 : (a0_2 == 0 && (a0_3 == 0)) = true
        · rw [if_pos c37] at H
          have c37b0 : (a0_2 == 0 && (a0_3 == 0)) = true := c37
          (try (have c37b1 : decide (a0_2 = 0 && (a0_3 == 0)) = true := by simpa using c37))
          (try (have c37b2 : (a0_2 == 0 && (a0_3 == 0)) = true := by simpa using c37))
          clear c37
          replace H := Option.bind_eq_some_iff.mp H
          obtain ⟨t268, A380, H⟩ := H
          replace H : (some t268) = some r := H
          have A38 := Aside0.mk A380
          clear A380
          obtain rfl := Option.some.inj H
          go_enter Tryd.func48, Tryd.ntmps48
          go_wp2_with (first | ((with_reducible refine gate_dst (N := 2) rfl ?_); refine box_event ?hg (N := 2) ?hd (cs := #[.int .u8 a0_0, .int .i64 a0_1, .int .i64 a0_2, .int .i64 a0_3]) (t := 34) ?hr ?_; (case hd => rfl); (case hg => rfl); (case hr => first | (go_simp; done) | (go_simp; rfl)); intro gb262 hg w39 hbox hb; have n0_ := Aside0.mk (below_step (by repeat (first | (with_reducible first | exact HB.out | apply below_alloc | apply pw_below_drewN | apply below_drew1) | exact HB.out)) hb); have n1_ := Aside0.mk (hbox); have n2_ := Aside0.mk ((by rw [hg]; exact (below_size (by repeat (first | (with_reducible first | exact HB.out | apply below_alloc | apply pw_below_drewN | apply below_drew1) | exact HB.out))) : w.heap.size ≤ gb262)); have n3_ := Aside0.mk ((by rw [hg]; exact (below_size (by repeat (first | (with_reducible first | exact HB.out | apply below_alloc | apply pw_below_drewN | apply below_drew1) | exact HB.out))) : w.heap.size ≤ gb262)); clear HB; have HB := n0_; have BK262 := n1_; have GW262 := n2_; have GE262 := n3_; clear n0_ n1_ n2_ n3_; clear hb hbox hg) | ((with_reducible refine gate_dst (N := 3) rfl ?_); refine box_event ?hg (N := 3) ?hd (cs := #[.int .i64 a1_0, .int .i64 a1_1, .int .i64 a1_2, .int .i64 a1_3]) (t := 93) ?hr ?_; (case hd => rfl); (case hg => rfl); (case hr => first | (go_simp; done) | (go_simp; rfl)); intro gb263 hg w40 hbox hb; have n0_ := Aside0.mk (blk_below (g := gb262) (o := .cells #[.int .u8 a0_0, .int .i64 a0_1, .int .i64 a0_2, .int .i64 a0_3] 34 (0, 0)) (by (with_reducible repeat (first | refine blk_drewN ?_ _ | refine blk_drew ?_ | refine blk_alloc ?_ _)); exact BK262.out) hb); have n1_ := Aside0.mk (below_step (by repeat (first | (with_reducible first | exact HB.out | apply below_alloc | apply pw_below_drewN | apply below_drew1 | refine below_set ?_ GE262.out) | exact HB.out)) hb); have n2_ := Aside0.mk (hbox); have n3_ := Aside0.mk ((by rw [hg]; exact (below_size (by repeat (first | (with_reducible first | exact HB.out | apply below_alloc | apply pw_below_drewN | apply below_drew1 | refine below_set ?_ GE262.out) | exact HB.out))) : w.heap.size ≤ gb263)); have n4_ := Aside0.mk ((by rw [hg]; exact (below_size (by repeat (first | (with_reducible first | exact HB.out | apply below_alloc | apply pw_below_drewN | apply below_drew1 | refine below_set ?_ GE262.out) | exact HB.out))) : w.heap.size ≤ gb263)); have n5_ := Aside0.mk ((by rw [hg]; exact Nat.ne_of_lt (blk_lt (g := gb262) (o := .cells #[.int .u8 a0_0, .int .i64 a0_1, .int .i64 a0_2, .int .i64 a0_3] 34 (0, 0)) (by (with_reducible repeat (first | refine blk_drewN ?_ _ | refine blk_drew ?_ | refine blk_alloc ?_ _)); exact BK262.out)) : gb262 ≠ gb263)); have n6_ := Aside0.mk ((by rw [hg]; exact Nat.ne_of_gt (blk_lt (g := gb262) (o := .cells #[.int .u8 a0_0, .int .i64 a0_1, .int .i64 a0_2, .int .i64 a0_3] 34 (0, 0)) (by (with_reducible repeat (first | refine blk_drewN ?_ _ | refine blk_drew ?_ | refine blk_alloc ?_ _)); exact BK262.out)) : gb263 ≠ gb262)); clear BK262; clear HB; have BK262 := n0_; have HB := n1_; have BK263 := n2_; have GW263 := n3_; have GE263 := n4_; have NB262_263 := n5_; have NB263_262 := n6_; clear n0_ n1_ n2_ n3_ n4_ n5_ n6_; clear hb hbox hg; have hnb41 := NB262_263.out; have hnc41 := NB263_262.out; have hcz42_0 : w40.cell? ⟨gb262, 0, none⟩ = some (.int .u8 a0_0) := (blk_cell BK262.out 0).trans rfl; have hcz42_1 : w40.cell? ⟨gb262, 1, none⟩ = some (.int .i64 a0_1) := (blk_cell BK262.out 1).trans rfl; have hcz42_2 : w40.cell? ⟨gb262, 2, none⟩ = some (.int .i64 a0_2) := (blk_cell BK262.out 2).trans rfl; have hcz42_3 : w40.cell? ⟨gb262, 3, none⟩ = some (.int .i64 a0_3) := (blk_cell BK262.out 3).trans rfl; have hfz42_0 := blk_frozen BK262.out 0; have hfz42_1 := blk_frozen BK262.out 1; have hfz42_2 := blk_frozen BK262.out 2; have hfz42_3 := blk_frozen BK262.out 3; have hcz43_0 : w40.cell? ⟨gb263, 0, none⟩ = some (.int .i64 a1_0) := (blk_cell BK263.out 0).trans rfl; have hcz43_1 : w40.cell? ⟨gb263, 1, none⟩ = some (.int .i64 a1_1) := (blk_cell BK263.out 1).trans rfl; have hcz43_2 : w40.cell? ⟨gb263, 2, none⟩ = some (.int .i64 a1_2) := (blk_cell BK263.out 2).trans rfl; have hcz43_3 : w40.cell? ⟨gb263, 3, none⟩ = some (.int .i64 a1_3) := (blk_cell BK263.out 3).trans rfl; have hfz43_0 := blk_frozen BK263.out 0; have hfz43_1 := blk_frozen BK263.out 1; have hfz43_2 := blk_frozen BK263.out 2; have hfz43_3 := blk_frozen BK263.out 3) | (go_at_call 22; (with_reducible refine (shape_below.calls a0_1 a1_2 t268 _ A38.out).mono ?_); rintro e w' ⟨rfl, ⟨nd, rfl⟩⟩))
          go_ret
          exact ⟨by first | rfl | (simp [errW_none, errW_some] <;> rfl) | (simp [*, errW_none, errW_some] <;> rfl), by repeat (first | (with_reducible first | exact HB.out | apply below_alloc | apply pw_below_drewN | apply below_drew1 | refine below_set ?_ GE262.out | refine below_set ?_ GE263.out) | exact HB.out)⟩
        · rw [if_neg c37] at H
          have c37b0 : (a0_2 == 0 && (a0_3 == 0)) = false := by simpa using c37
          (try (have c37b1 : decide (a0_2 = 0 && (a0_3 == 0)) = false := by simpa using c37))
          (try (have c37b2 : (a0_2 == 0 && (a0_3 == 0)) = false := by simpa using c37))
          (try (have c37b3 : ¬ (a0_2 = 0 && (a0_3 == 0)) := by simpa using c37))
          clear c37
          obtain rfl := Option.some.inj H
          go_enter Tryd.func48, Tryd.ntmps48
          go_wp2_with (first | ((with_reducible refine gate_dst (N := 2) rfl ?_); refine box_event ?hg (N := 2) ?hd (cs := #[.int .u8 a0_0, .int .i64 a0_1, .int .i64 a0_2, .int .i64 a0_3]) (t := 34) ?hr ?_; (case hd => rfl); (case hg => rfl); (case hr => first | (go_simp; done) | (go_simp; rfl)); intro gb262 hg w44 hbox hb; have n0_ := Aside0.mk (below_step (by repeat (first | (with_reducible first | exact HB.out | apply below_alloc | apply pw_below_drewN | apply below_drew1) | exact HB.out)) hb); have n1_ := Aside0.mk (hbox); have n2_ := Aside0.mk ((by rw [hg]; exact (below_size (by repeat (first | (with_reducible first | exact HB.out | apply below_alloc | apply pw_below_drewN | apply below_drew1) | exact HB.out))) : w.heap.size ≤ gb262)); have n3_ := Aside0.mk ((by rw [hg]; exact (below_size (by repeat (first | (with_reducible first | exact HB.out | apply below_alloc | apply pw_below_drewN | apply below_drew1) | exact HB.out))) : w.heap.size ≤ gb262)); clear HB; have HB := n0_; have BK262 := n1_; have GW262 := n2_; have GE262 := n3_; clear n0_ n1_ n2_ n3_; clear hb hbox hg) | ((with_reducible refine gate_dst (N := 3) rfl ?_); refine box_event ?hg (N := 3) ?hd (cs := #[.int .i64 a1_0, .int .i64 a1_1, .int .i64 a1_2, .int .i64 a1_3]) (t := 93) ?hr ?_; (case hd => rfl); (case hg => rfl); (case hr => first | (go_simp; done) | (go_simp; rfl)); intro gb263 hg w45 hbox hb; have n0_ := Aside0.mk (blk_below (g := gb262) (o := .cells #[.int .u8 a0_0, .int .i64 a0_1, .int .i64 a0_2, .int .i64 a0_3] 34 (0, 0)) (by (with_reducible repeat (first | refine blk_drewN ?_ _ | refine blk_drew ?_ | refine blk_alloc ?_ _)); exact BK262.out) hb); have n1_ := Aside0.mk (below_step (by repeat (first | (with_reducible first | exact HB.out | apply below_alloc | apply pw_below_drewN | apply below_drew1 | refine below_set ?_ GE262.out) | exact HB.out)) hb); have n2_ := Aside0.mk (hbox); have n3_ := Aside0.mk ((by rw [hg]; exact (below_size (by repeat (first | (with_reducible first | exact HB.out | apply below_alloc | apply pw_below_drewN | apply below_drew1 | refine below_set ?_ GE262.out) | exact HB.out))) : w.heap.size ≤ gb263)); have n4_ := Aside0.mk ((by rw [hg]; exact (below_size (by repeat (first | (with_reducible first | exact HB.out | apply below_alloc | apply pw_below_drewN | apply below_drew1 | refine below_set ?_ GE262.out) | exact HB.out))) : w.heap.size ≤ gb263)); have n5_ := Aside0.mk ((by rw [hg]; exact Nat.ne_of_lt (blk_lt (g := gb262) (o := .cells #[.int .u8 a0_0, .int .i64 a0_1, .int .i64 a0_2, .int .i64 a0_3] 34 (0, 0)) (by (with_reducible repeat (first | refine blk_drewN ?_ _ | refine blk_drew ?_ | refine blk_alloc ?_ _)); exact BK262.out)) : gb262 ≠ gb263)); have n6_ := Aside0.mk ((by rw [hg]; exact Nat.ne_of_gt (blk_lt (g := gb262) (o := .cells #[.int .u8 a0_0, .int .i64 a0_1, .int .i64 a0_2, .int .i64 a0_3] 34 (0, 0)) (by (with_reducible repeat (first | refine blk_drewN ?_ _ | refine blk_drew ?_ | refine blk_alloc ?_ _)); exact BK262.out)) : gb263 ≠ gb262)); clear BK262; clear HB; have BK262 := n0_; have HB := n1_; have BK263 := n2_; have GW263 := n3_; have GE263 := n4_; have NB262_263 := n5_; have NB263_262 := n6_; clear n0_ n1_ n2_ n3_ n4_ n5_ n6_; clear hb hbox hg; have hnb46 := NB262_263.out; have hnc46 := NB263_262.out; have hcz47_0 : w45.cell? ⟨gb262, 0, none⟩ = some (.int .u8 a0_0) := (blk_cell BK262.out 0).trans rfl; have hcz47_1 : w45.cell? ⟨gb262, 1, none⟩ = some (.int .i64 a0_1) := (blk_cell BK262.out 1).trans rfl; have hcz47_2 : w45.cell? ⟨gb262, 2, none⟩ = some (.int .i64 a0_2) := (blk_cell BK262.out 2).trans rfl; have hcz47_3 : w45.cell? ⟨gb262, 3, none⟩ = some (.int .i64 a0_3) := (blk_cell BK262.out 3).trans rfl; have hfz47_0 := blk_frozen BK262.out 0; have hfz47_1 := blk_frozen BK262.out 1; have hfz47_2 := blk_frozen BK262.out 2; have hfz47_3 := blk_frozen BK262.out 3))
          go_ret
          exact ⟨by first | rfl | (simp [errW_none, errW_some] <;> rfl) | (simp [*, errW_none, errW_some] <;> rfl), by repeat (first | (with_reducible first | exact HB.out | apply below_alloc | apply pw_below_drewN | apply below_drew1 | refine below_set ?_ GE262.out | refine below_set ?_ GE263.out) | exact HB.out)⟩
      · rw [if_neg c36] at H
        have c36b0 : (a0_0 == 3) = false := beq_eq_false_iff_ne.mpr c36
        have c36b1 : (a0_0 != 3) = true := bne_iff_ne.mpr c36
        obtain rfl := Option.some.inj H
        go_enter Tryd.func48, Tryd.ntmps48
        go_wp2_with (first | ((with_reducible refine gate_dst (N := 2) rfl ?_); refine box_event ?hg (N := 2) ?hd (cs := #[.int .u8 a0_0, .int .i64 a0_1, .int .i64 a0_2, .int .i64 a0_3]) (t := 34) ?hr ?_; (case hd => rfl); (case hg => rfl); (case hr => first | (go_simp; done) | (go_simp; rfl)); intro gb262 hg w48 hbox hb; have n0_ := Aside0.mk (below_step (by repeat (first | (with_reducible first | exact HB.out | apply below_alloc | apply pw_below_drewN | apply below_drew1) | exact HB.out)) hb); have n1_ := Aside0.mk (hbox); have n2_ := Aside0.mk ((by rw [hg]; exact (below_size (by repeat (first | (with_reducible first | exact HB.out | apply below_alloc | apply pw_below_drewN | apply below_drew1) | exact HB.out))) : w.heap.size ≤ gb262)); have n3_ := Aside0.mk ((by rw [hg]; exact (below_size (by repeat (first | (with_reducible first | exact HB.out | apply below_alloc | apply pw_below_drewN | apply below_drew1) | exact HB.out))) : w.heap.size ≤ gb262)); clear HB; have HB := n0_; have BK262 := n1_; have GW262 := n2_; have GE262 := n3_; clear n0_ n1_ n2_ n3_; clear hb hbox hg) | ((with_reducible refine gate_dst (N := 3) rfl ?_); refine box_event ?hg (N := 3) ?hd (cs := #[.int .i64 a1_0, .int .i64 a1_1, .int .i64 a1_2, .int .i64 a1_3]) (t := 93) ?hr ?_; (case hd => rfl); (case hg => rfl); (case hr => first | (go_simp; done) | (go_simp; rfl)); intro gb263 hg w49 hbox hb; have n0_ := Aside0.mk (blk_below (g := gb262) (o := .cells #[.int .u8 a0_0, .int .i64 a0_1, .int .i64 a0_2, .int .i64 a0_3] 34 (0, 0)) (by (with_reducible repeat (first | refine blk_drewN ?_ _ | refine blk_drew ?_ | refine blk_alloc ?_ _)); exact BK262.out) hb); have n1_ := Aside0.mk (below_step (by repeat (first | (with_reducible first | exact HB.out | apply below_alloc | apply pw_below_drewN | apply below_drew1 | refine below_set ?_ GE262.out) | exact HB.out)) hb); have n2_ := Aside0.mk (hbox); have n3_ := Aside0.mk ((by rw [hg]; exact (below_size (by repeat (first | (with_reducible first | exact HB.out | apply below_alloc | apply pw_below_drewN | apply below_drew1 | refine below_set ?_ GE262.out) | exact HB.out))) : w.heap.size ≤ gb263)); have n4_ := Aside0.mk ((by rw [hg]; exact (below_size (by repeat (first | (with_reducible first | exact HB.out | apply below_alloc | apply pw_below_drewN | apply below_drew1 | refine below_set ?_ GE262.out) | exact HB.out))) : w.heap.size ≤ gb263)); have n5_ := Aside0.mk ((by rw [hg]; exact Nat.ne_of_lt (blk_lt (g := gb262) (o := .cells #[.int .u8 a0_0, .int .i64 a0_1, .int .i64 a0_2, .int .i64 a0_3] 34 (0, 0)) (by (with_reducible repeat (first | refine blk_drewN ?_ _ | refine blk_drew ?_ | refine blk_alloc ?_ _)); exact BK262.out)) : gb262 ≠ gb263)); have n6_ := Aside0.mk ((by rw [hg]; exact Nat.ne_of_gt (blk_lt (g := gb262) (o := .cells #[.int .u8 a0_0, .int .i64 a0_1, .int .i64 a0_2, .int .i64 a0_3] 34 (0, 0)) (by (with_reducible repeat (first | refine blk_drewN ?_ _ | refine blk_drew ?_ | refine blk_alloc ?_ _)); exact BK262.out)) : gb263 ≠ gb262)); clear BK262; clear HB; have BK262 := n0_; have HB := n1_; have BK263 := n2_; have GW263 := n3_; have GE263 := n4_; have NB262_263 := n5_; have NB263_262 := n6_; clear n0_ n1_ n2_ n3_ n4_ n5_ n6_; clear hb hbox hg; have hnb50 := NB262_263.out; have hnc50 := NB263_262.out; have hcz51_0 : w49.cell? ⟨gb262, 0, none⟩ = some (.int .u8 a0_0) := (blk_cell BK262.out 0).trans rfl; have hcz51_1 : w49.cell? ⟨gb262, 1, none⟩ = some (.int .i64 a0_1) := (blk_cell BK262.out 1).trans rfl; have hcz51_2 : w49.cell? ⟨gb262, 2, none⟩ = some (.int .i64 a0_2) := (blk_cell BK262.out 2).trans rfl; have hcz51_3 : w49.cell? ⟨gb262, 3, none⟩ = some (.int .i64 a0_3) := (blk_cell BK262.out 3).trans rfl; have hfz51_0 := blk_frozen BK262.out 0; have hfz51_1 := blk_frozen BK262.out 1; have hfz51_2 := blk_frozen BK262.out 2; have hfz51_3 := blk_frozen BK262.out 3))
        go_ret
        exact ⟨by first | rfl | (simp [errW_none, errW_some] <;> rfl) | (simp [*, errW_none, errW_some] <;> rfl), by repeat (first | (with_reducible first | exact HB.out | apply below_alloc | apply pw_below_drewN | apply below_drew1 | refine below_set ?_ GE262.out | refine below_set ?_ GE263.out) | exact HB.out)⟩
def shape_many.l0 : Nat → Int → List (S36) → Int → Int → Option (Int)
  | 0, _, _, _, _ => none
  | k + 1, x2, x6, x7, x8 => if x8 < x7 then (if 0 ≤ x8 then (if x8 < (x6.length : Int) then (shape_many.l0 k (wrap64 (x2 + (((rd_T36 x6 x8).f0).length : Int))) x6 x7 (wrap64 (x8 + 1))) else (none)) else (none)) else (some x2)
def shape_many.f (k : Nat) (a0_0 : Int) (l0_1 : List (S36)) : Option (Int) := shape_many.l0 k 0 l0_1 (l0_1.length : Int) 0
set_option maxHeartbeats 8000000 in
set_option maxRecDepth 100000 in
theorem shape_many.calls (k : Nat) (a0_0 : Int) (A0_1 : Option Addr) (c0_1 : Nat) (l0_1 : List (S36)) (r : Int) (w : World) (hr0_1 : Kd.C k36 w A0_1 l0_1.length l0_1) (hc0_1 : l0_1.length ≤ c0_1) (h : shape_many.f k a0_0 l0_1 = some r) :
    Calls Tryd.prog 42 #[.agg #[.int .i64 a0_0, .slice A0_1 l0_1.length c0_1]] w fun e w' => e = .returned (.int .i64 r) ∧ Below w.heap.size w w' := by
  have hu31 := Tryd.underlying31
  have hu36 := Tryd.underlying36
  have HR0_1 := Aside0.mk hr0_1
  have HC0_1 := Aside0.mk hc0_1
  clear hr0_1 hc0_1
  have HB := Aside0.mk (Below.refl w.heap.size w)
  have H : (shape_many.l0 k 0 l0_1 (l0_1.length : Int) 0) = some r := h
  clear h
  have H' := Aside0.mk H
  clear H
  go_enter Tryd.func42, Tryd.ntmps42
  go_wp2_with (first | ((with_reducible refine gate_dst (N := 1) rfl ?_); refine box_event ?hg (N := 1) ?hd (cs := #[.int .i64 a0_0, .slice A0_1 l0_1.length c0_1]) (t := 31) ?hr ?_; (case hd => rfl); (case hg => rfl); (case hr => first | (go_simp; done) | (go_simp; rfl)); intro gb269 hg w2 hbox hb; have n0_ := Aside0.mk (below_step (by repeat (first | (with_reducible first | exact HB.out | apply below_alloc | apply pw_below_drewN | apply below_drew1) | exact HB.out)) hb); have n1_ := Aside0.mk (hbox); have n2_ := Aside0.mk ((by rw [hg]; exact (below_size (by repeat (first | (with_reducible first | exact HB.out | apply below_alloc | apply pw_below_drewN | apply below_drew1) | exact HB.out))) : w.heap.size ≤ gb269)); have n3_ := Aside0.mk ((by rw [hg]; exact (below_size (by repeat (first | (with_reducible first | exact HB.out | apply below_alloc | apply pw_below_drewN | apply below_drew1) | exact HB.out))) : w.heap.size ≤ gb269)); clear HB; have HB := n0_; have BK269 := n1_; have GW269 := n2_; have GE269 := n3_; clear n0_ n1_ n2_ n3_; clear hb hbox hg; have hcz3_0 : w2.cell? ⟨gb269, 0, none⟩ = some (.int .i64 a0_0) := (blk_cell BK269.out 0).trans rfl; have hcz3_1 : w2.cell? ⟨gb269, 1, none⟩ = some (.slice A0_1 l0_1.length c0_1) := (blk_cell BK269.out 1).trans rfl; have hfz3_0 := blk_frozen BK269.out 0; have hfz3_1 := blk_frozen BK269.out 1))
  go_loopg [2, 8] k (fun kq v2 v8 w' => ∃ (x2_1 : Int) (x8_1 : Int), v2 = .int .i64 x2_1 ∧ v8 = .int .i64 x8_1 ∧ Aside0 (shape_many.l0 kq x2_1 l0_1 (l0_1.length : Int) x8_1 = some r) ∧ Aside0 (kq ≤ k) ∧ Aside0 (w'.heap[gb269]? = some (.cells #[.int .i64 a0_0, (.slice A0_1 l0_1.length c0_1)] 31 (0, 0))) ∧ Aside0 (Below w.heap.size w w'))
  case atStart => exact ⟨(0), (0), (by first | rfl | (simp; done) | (simp [*]; done)), (by first | rfl | (simp; done) | (simp [*]; done)), H', ⟨Nat.le_refl _⟩, ⟨by (with_reducible repeat (first | refine blk_drewN ?_ _ | refine blk_drew ?_ | refine blk_alloc ?_ _)); exact BK269.out⟩, ⟨by repeat (first | (with_reducible first | exact HB.out | apply below_alloc | apply pw_below_drewN | apply below_drew1 | refine below_set ?_ GE269.out) | exact HB.out)⟩⟩
  case round =>
    clear H'
    try clear p2
    try clear hcz3_0
    try clear hcz3_1
    try clear hfz3_0
    try clear hfz3_1
    obtain ⟨x2_1, x8_1, rfl, rfl, HA, HK1, BK269, HB⟩ := hrel
    cases gk with
    | zero => exact absurd HA.out (by simp [shape_many.l0])
    | succ k1 =>
      have H := HA.out
      clear HA
      simp only [shape_many.l0] at H
      by_cases c4 : x8_1 < (l0_1.length : Int)
      · rw [if_pos c4] at H
        have c4b0 : decide (x8_1 < (l0_1.length : Int)) = true := decide_eq_true c4
        clear c4
        by_cases c5 : 0 ≤ x8_1
        · rw [if_pos c5] at H
          have c5b0 : decide (0 ≤ x8_1) = true := decide_eq_true c5
          clear c5
          by_cases c6 : x8_1 < (l0_1.length : Int)
          · rw [if_pos c6] at H
            have c6b0 : decide (x8_1 < (l0_1.length : Int)) = true := decide_eq_true c6
            clear c6
            have H' := Aside0.mk H
            clear H
            have p270 : 0 ≤ (x8_1 : Int) := of_decide_eq_true (by first | (with_reducible assumption) | assumption)
            have q270 : x8_1 < (l0_1.length : Int) := of_decide_eq_true (by first | (with_reducible assumption) | assumption)
            obtain ⟨ad270, A270_0, c270_0, e270, hx270_0, hx270_1, hx270_2, hx270_3, hx270_4, hl270_0, hi270_0⟩ := at_T36 HR0_1.out x8_1 p270 q270
            cases e270
            replace hx270_0 := (HB.out.cell (World.block_lt_of_cell? w _ hx270_0)).trans hx270_0
            replace hx270_1 := (HB.out.cell (World.block_lt_of_cell? w _ hx270_1)).trans hx270_1
            replace hx270_2 := (HB.out.cell (World.block_lt_of_cell? w _ hx270_2)).trans hx270_2
            replace hx270_3 := (HB.out.cell (World.block_lt_of_cell? w _ hx270_3)).trans hx270_3
            replace hx270_4 := (HB.out.cell (World.block_lt_of_cell? w _ hx270_4)).trans hx270_4
            have HR270_0 := Aside0.mk hi270_0
            have HC270_0 := Aside0.mk hl270_0
            clear hi270_0 hl270_0
            replace p270 := eq_true p270
            replace q270 := eq_true q270
            go_wp2_with (first | ((with_reducible refine gate_dst (N := 4) rfl ?_); refine box_event ?hg (N := 4) ?hd (cs := #[.slice none 0 0, .int .u8 0, .int .i64 0, .int .i64 0, .int .i64 0]) (t := 36) ?hr ?_; (case hd => rfl); (case hg => rfl); (case hr => first | (go_simp; done) | (go_simp; rfl)); intro gb271 hg w7 hbox hb; have n0_ := Aside0.mk (blk_below (g := gb269) (o := .cells #[.int .i64 a0_0, .slice (some ad270) l0_1.length c0_1] 31 (0, 0)) (by (with_reducible repeat (first | refine blk_drewN ?_ _ | refine blk_drew ?_ | refine blk_alloc ?_ _)); exact BK269.out) hb); have n1_ := Aside0.mk (below_step (by repeat (first | (with_reducible first | exact HB.out | apply below_alloc | apply pw_below_drewN | apply below_drew1 | refine below_set ?_ GE269.out) | exact HB.out)) hb); have n2_ := Aside0.mk (hbox); have n3_ := Aside0.mk ((by rw [hg]; exact (below_size (by repeat (first | (with_reducible first | exact HB.out | apply below_alloc | apply pw_below_drewN | apply below_drew1 | refine below_set ?_ GE269.out) | exact HB.out))) : w.heap.size ≤ gb271)); have n4_ := Aside0.mk ((by rw [hg]; exact (below_size (by repeat (first | (with_reducible first | exact HB.out | apply below_alloc | apply pw_below_drewN | apply below_drew1 | refine below_set ?_ GE269.out) | exact HB.out))) : w.heap.size ≤ gb271)); have n5_ := Aside0.mk ((by rw [hg]; exact Nat.ne_of_lt (blk_lt (g := gb269) (o := .cells #[.int .i64 a0_0, .slice (some ad270) l0_1.length c0_1] 31 (0, 0)) (by (with_reducible repeat (first | refine blk_drewN ?_ _ | refine blk_drew ?_ | refine blk_alloc ?_ _)); exact BK269.out)) : gb269 ≠ gb271)); have n6_ := Aside0.mk ((by rw [hg]; exact Nat.ne_of_gt (blk_lt (g := gb269) (o := .cells #[.int .i64 a0_0, .slice (some ad270) l0_1.length c0_1] 31 (0, 0)) (by (with_reducible repeat (first | refine blk_drewN ?_ _ | refine blk_drew ?_ | refine blk_alloc ?_ _)); exact BK269.out)) : gb271 ≠ gb269)); clear BK269; clear HB; have BK269 := n0_; have HB := n1_; have BK271 := n2_; have GW271 := n3_; have GE271 := n4_; have NB269_271 := n5_; have NB271_269 := n6_; clear n0_ n1_ n2_ n3_ n4_ n5_ n6_; clear hb hbox hg; have hnb8 := NB271_269.out; have hnc8 := NB269_271.out; have hcz9_0 : w7.cell? ⟨gb271, 0, none⟩ = some (.slice none 0 0) := (blk_cell BK271.out 0).trans rfl; have hcz9_1 : w7.cell? ⟨gb271, 1, none⟩ = some (.int .u8 0) := (blk_cell BK271.out 1).trans rfl; have hcz9_2 : w7.cell? ⟨gb271, 2, none⟩ = some (.int .i64 0) := (blk_cell BK271.out 2).trans rfl; have hcz9_3 : w7.cell? ⟨gb271, 3, none⟩ = some (.int .i64 0) := (blk_cell BK271.out 3).trans rfl; have hcz9_4 : w7.cell? ⟨gb271, 4, none⟩ = some (.int .i64 0) := (blk_cell BK271.out 4).trans rfl; have hfz9_0 := blk_frozen BK271.out 0; have hfz9_1 := blk_frozen BK271.out 1; have hfz9_2 := blk_frozen BK271.out 2; have hfz9_3 := blk_frozen BK271.out 3; have hfz9_4 := blk_frozen BK271.out 4))
            go_roundg k1
            case measure => have := HK1.out; omega
            case rel => exact ⟨(wrap64 (x2_1 + (((rd_T36 l0_1 x8_1).f0).length : Int))), (wrap64 (x8_1 + 1)), (by first | rfl | (simp; done) | (simp [*]; done)), (by first | rfl | (simp; done) | (simp [*]; done)), H', ⟨by have := HK1.out; omega⟩, ⟨by (with_reducible repeat (first | refine blk_drewN ?_ _ | refine blk_drew ?_ | refine blk_alloc ?_ _)); refine blk_far ?_ NB269_271.out _; (with_reducible repeat (first | refine blk_drewN ?_ _ | refine blk_drew ?_ | refine blk_alloc ?_ _)); refine blk_far ?_ NB269_271.out _; (with_reducible repeat (first | refine blk_drewN ?_ _ | refine blk_drew ?_ | refine blk_alloc ?_ _)); refine blk_far ?_ NB269_271.out _; (with_reducible repeat (first | refine blk_drewN ?_ _ | refine blk_drew ?_ | refine blk_alloc ?_ _)); refine blk_far ?_ NB269_271.out _; (with_reducible repeat (first | refine blk_drewN ?_ _ | refine blk_drew ?_ | refine blk_alloc ?_ _)); refine blk_far ?_ NB269_271.out _; (with_reducible repeat (first | refine blk_drewN ?_ _ | refine blk_drew ?_ | refine blk_alloc ?_ _)); exact BK269.out⟩, ⟨by repeat (first | (with_reducible first | exact HB.out | apply below_alloc | apply pw_below_drewN | apply below_drew1 | refine below_set ?_ GE269.out | refine below_set ?_ GE271.out) | exact HB.out)⟩⟩
          · rw [if_neg c6] at H
            exact absurd H (by simp)
        · rw [if_neg c5] at H
          exact absurd H (by simp)
      · rw [if_neg c4] at H
        have c4b0 : decide (x8_1 < (l0_1.length : Int)) = false := decide_eq_false c4
        clear c4
        obtain rfl := Option.some.inj H
        go_wp2
        go_ret
        exact ⟨by first | rfl | (simp [errW_none, errW_some] <;> rfl) | (simp [*, errW_none, errW_some] <;> rfl), by repeat (first | (with_reducible first | exact HB.out | apply below_alloc | apply pw_below_drewN | apply below_drew1 | refine below_set ?_ GE269.out) | exact HB.out)⟩
end Go.Proofs.YtlghkomipboflaaDoor.X
end
