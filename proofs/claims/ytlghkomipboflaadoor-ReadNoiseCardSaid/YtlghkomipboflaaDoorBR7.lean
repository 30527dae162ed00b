/- Texts of this claim, merged (part 7 of 13): ShIns. -/
import Derived.Shelf.Abstract
import Derived.Test.YtlghkomipboflaaDoorBR2
import Derived.Test.YtlghkomipboflaaDoorBR3
import Derived.Test.YtlghkomipboflaaDoorBR6
set_option linter.unusedVariables false
set_option linter.unusedSimpArgs false
section
namespace Go.Proofs.YtlghkomipboflaaDoor.Sh
open Go.RowKit Go.Proofs.YtlghkomipboflaaDoor Go.Proofs.YtlghkomipboflaaDoor.X Go.Proofs.YtlghkomipboflaaDoor.Rd Go.Proofs.YtlghkomipboflaaDoorW.PrintWords Go.Proofs.YtlghkomipboflaaDoorW.PrintLast Go.Proofs.YtlghkomipboflaaDoorW.PrintMore
set_option linter.unusedVariables false
set_option linter.unusedSimpArgs false
def belowB (n most : Int) : Bool := decide (0 ≤ n) && decide (n < most)
theorem below_f (n most : Int) : shape_below.f n most = some (belowB n most) := by
  unfold shape_below.f belowB
  split
  · rename_i h; rw [show decide (0 ≤ n) = true from decide_eq_true h]; rfl
  · rename_i h; rw [show decide (0 ≤ n) = false from decide_eq_false (by omega)]; rfl
theorem below_any (n most : Int) (W : World) : Calls Tryd.prog 22 #[.int .i64 n, .int .i64 most] W fun e w' => e = .returned (.bool (belowB n most)) ∧ Below W.heap.size W w' :=
  (shape_below.calls n most _ W (below_f n most)).mono fun e w' ⟨he, hb⟩ => ⟨he, hb.below⟩
def allB (l : List Int) (most : Int) : Bool := !l.any (fun n => !belowB n most)
theorem all1 (most n : Int) (B : Nat) (W : World) (hc : W.cell? ⟨B, 0, none⟩ = some (.int .i64 most)) :
    Calls Tryd.prog 80 #[.int .i64 n, .pointer (some ⟨B, 0, none⟩)] W fun e w' => e = .returned (.bool (!belowB n most)) ∧ Below W.heap.size W w' := by
  have HB := Lib.hid (below_any n most W)
  generalize belowB n most = r at HB ⊢
  go_enter Tryd.func80, Tryd.ntmps80
  go_wp2_with (go_at_call 22; refine HB.out.mono ?_; rintro e w' ⟨rfl, hb⟩)
  go_ret
  exact ⟨rfl, hb⟩
theorem all_call (most : Int) (A : Option Addr) (c : Nat) (l : List Int) (w : World) (hC : (Kd.int .i64).C w A l.length l) (hc : l.length ≤ c) :
    Calls Tryd.prog 63 #[.slice A l.length c, .int .i64 most] w fun e w' => e = .returned (.bool (allB l most)) ∧ Below w.heap.size w w' := by
  have eg : ∀ args w, (callFunc 80 args).run Tryd.prog w = .ok (.enter 80 args) w := enters_of Tryd.func80 (by kernel_rfl) rfl
  have hmf : ∀ (fn : Fn) (first cap : Array Value) (w : World), (Instr.makeFunc fn first cap).run Tryd.prog w = .ok (.func fn first cap) w := fun _ _ _ _ => rfl
  have hcon := Lib.hid (has_int 80 #[.pointer (some ⟨w.heap.size, 0, none⟩)] eg A c l (fun n => !belowB n most) (w.alloc (.cells #[.int .i64 most] 3)) (Kd.C_alloc hC _) hc
    (fun W x hx hb => (all1 most x w.heap.size W ((hb.cell (p := ⟨w.heap.size, 0, none⟩) (by simp)).trans (by simp))).mono fun e w' ⟨he, h3⟩ => ⟨he, hb.trans (h3.mono hb.size)⟩))
  unfold allB
  generalize l.any (fun n => !belowB n most) = r at hcon ⊢
  clear eg hC hc
  go_enter Tryd.func63, Tryd.ntmps63
  go_wp2_with (go_at_call 58; refine hcon.out.mono ?_; rintro e w' ⟨rfl, hb⟩)
  go_ret
  exact ⟨rfl, (below_alloc (Below.refl _ w) _).trans (hb.mono (by simp))⟩
def numB (op n s1 : Int) : Bool := if op = 3 ∨ op = 18 then decide (0 ≤ n) && decide (n < s1) else if op = 14 then decide (0 ≤ n) && decide (n < 8) else true
theorem num_f (x : S39) (s0 s1 s2 s3 : Int) : shape_number.f 1 x.f0 x.f1 x.f2 x.f3 x.f4 x.f5 x.f6 s0 s1 s2 s3 = some (numB x.f0 x.f4 s1) := by
  have e : ∀ (n m : Int), (if n ≥ 0 then some (decide (n < m)) else some false) = some (decide (0 ≤ n) && decide (n < m)) := by
    intro n m
    split
    · rename_i h; rw [show decide (0 ≤ n) = true from decide_eq_true h]; rfl
    · rename_i h; rw [show decide (0 ≤ n) = false from decide_eq_false (by omega)]; rfl
  unfold shape_number.f numB
  simp only [shape_number.j0, e]
  by_cases h3 : x.f0 = 3
  · simp [h3]
  · by_cases h18 : x.f0 = 18
    · simp [h18]
    · by_cases h14 : x.f0 = 14
      · simp [h14]
      · simp [h3, h18, h14]
structure SB (x : S39) (A5 : Option Addr) (c5 : Nat) (A6 : Option Addr) (c6 : Nat) (s0 s1 s2 s3 : Int) (w : World) (qa qb qn qg qf qr : Bool) (b5 : Nat) (W : World) : Prop where
  below : Below w.heap.size w W
  b0 : W.heap[w.heap.size]? = some (.cells #[.int .u8 x.f0, .int .i64 x.f1, .int .i64 x.f2, .int .i64 x.f3, .int .i64 x.f4, .slice A5 x.f5.length c5, .slice A6 x.f6.length c6] 39 (0, 0))
  b1 : W.heap[w.heap.size + 1]? = some (.cells #[.int .i64 s0, .int .i64 s1, .int .i64 s2, .int .i64 s3] 93 (0, 0))
  b2 : W.heap[b5]? = some (.cells #[.bool qa, .bool qb, .bool qn, .bool qg, .bool qf, .bool qr] 111 (0, 0))
section
variable {x : S39} {A5 : Option Addr} {c5 : Nat} {A6 : Option Addr} {c6 : Nat} {s0 s1 s2 s3 : Int} {w : World} {qa qb qn qg qf qr : Bool} {b5 : Nat} {W W1 : World}
theorem SB.later (h : SB x A5 c5 A6 c6 s0 s1 s2 s3 w qa qb qn qg qf qr b5 W) (hb : Below W.heap.size W W1) : SB x A5 c5 A6 c6 s0 s1 s2 s3 w qa qb qn qg qf qr b5 W1 :=
  ⟨h.below.trans (hb.mono h.below.size), by rw [hb.block _ (blk_lt h.b0)]; exact h.b0, by rw [hb.block _ (blk_lt h.b1)]; exact h.b1, by rw [hb.block _ (blk_lt h.b2)]; exact h.b2⟩
theorem SB.cells (h : SB x A5 c5 A6 c6 s0 s1 s2 s3 w qa qb qn qg qf qr b5 W) : W.cell? ⟨w.heap.size, 0, none⟩ = some (.int .u8 x.f0) ∧ W.cell? ⟨w.heap.size, 1, none⟩ = some (.int .i64 x.f1) ∧ W.cell? ⟨w.heap.size, 2, none⟩ = some (.int .i64 x.f2) ∧ W.cell? ⟨w.heap.size, 3, none⟩ = some (.int .i64 x.f3) ∧ W.cell? ⟨w.heap.size, 4, none⟩ = some (.int .i64 x.f4) ∧ W.cell? ⟨w.heap.size, 5, none⟩ = some (.slice A5 x.f5.length c5) ∧ W.cell? ⟨w.heap.size, 6, none⟩ = some (.slice A6 x.f6.length c6) ∧ W.cell? ⟨w.heap.size + 1, 0, none⟩ = some (.int .i64 s0) ∧ W.cell? ⟨w.heap.size + 1, 1, none⟩ = some (.int .i64 s1) ∧ W.cell? ⟨w.heap.size + 1, 2, none⟩ = some (.int .i64 s2) ∧ W.cell? ⟨w.heap.size + 1, 3, none⟩ = some (.int .i64 s3) ∧ W.cell? ⟨b5, 0, none⟩ = some (.bool qa) ∧ W.cell? ⟨b5, 1, none⟩ = some (.bool qb) ∧ W.cell? ⟨b5, 2, none⟩ = some (.bool qn) ∧ W.cell? ⟨b5, 3, none⟩ = some (.bool qg) ∧ W.cell? ⟨b5, 4, none⟩ = some (.bool qf) ∧ W.cell? ⟨b5, 5, none⟩ = some (.bool qr) := by
  refine ⟨?_, ?_, ?_, ?_, ?_, ?_, ?_, ?_, ?_, ?_, ?_, ?_, ?_, ?_, ?_, ?_, ?_⟩
  · simp [World.cell?, h.b0]
  · simp [World.cell?, h.b0]
  · simp [World.cell?, h.b0]
  · simp [World.cell?, h.b0]
  · simp [World.cell?, h.b0]
  · simp [World.cell?, h.b0]
  · simp [World.cell?, h.b0]
  · simp [World.cell?, h.b1]
  · simp [World.cell?, h.b1]
  · simp [World.cell?, h.b1]
  · simp [World.cell?, h.b1]
  · simp [World.cell?, h.b2]
  · simp [World.cell?, h.b2]
  · simp [World.cell?, h.b2]
  · simp [World.cell?, h.b2]
  · simp [World.cell?, h.b2]
  · simp [World.cell?, h.b2]
end
noncomputable def c44 : Code := Tryd.f44.body.getD .skip
set_option maxRecDepth 100000 in
theorem c44_cut : c44 = cutAt 2 c44 (rights 2 c44) := by kernel_rfl
theorem c44_cut2 : rights 2 c44 = cutAt 1 (rights 2 c44) (rights 3 c44) := by kernel_rfl
theorem c44_cut3 : rights 3 c44 = cutAt 1 (rights 3 c44) (rights 4 c44) := by kernel_rfl
theorem c44_cut4 : rights 4 c44 = cutAt 1 (rights 4 c44) (rights 5 c44) := by kernel_rfl
def InsEnd (w : World) (r : Bool) (e : Ending) (w' : World) : Prop := e = .returned (.bool r) ∧ Below w.heap.size w w'
set_option maxRecDepth 100000 in
theorem enter44 (x : S39) (A5 : Option Addr) (c5 : Nat) (A6 : Option Addr) (c6 : Nat) (s0 s1 s2 s3 : Int) (w : World) (R : Ending → World → Prop) (h : Code.wp Tryd.prog c44 (bodyPost Tryd.prog Tryd.f44 R) { tmps := #[.agg #[.int .u8 x.f0, .int .i64 x.f1, .int .i64 x.f2, .int .i64 x.f3, .int .i64 x.f4, .slice A5 x.f5.length c5, .slice A6 x.f6.length c6], .agg #[.int .i64 s0, .int .i64 s1, .int .i64 s2, .int .i64 s3], undef, undef, undef, undef, undef, undef, undef, undef, undef, undef, undef, undef, undef, undef, undef, undef, undef, undef, undef, undef, undef, undef, undef, undef, undef, undef, undef, undef, undef, undef, undef, undef, undef, undef, undef, undef, undef, undef, undef, undef, undef, undef, undef, undef, undef, undef, undef, undef, undef, undef, undef, undef, undef, undef, undef, undef, undef, undef, undef, undef, undef, undef, undef, undef, undef, undef, undef, undef, undef, undef, undef, undef, undef, undef, undef, undef, undef, undef, undef, undef, undef, undef, undef, undef, undef, undef, undef, undef, undef, undef, undef, undef, undef, undef, undef, undef, undef, undef, undef, undef, undef, undef, undef, undef, undef, undef, undef, undef, undef, undef, undef, undef, undef, undef, undef, undef, undef, undef, undef, undef, undef, undef, undef, undef, undef, undef, undef, undef, undef, undef, undef, undef, undef, undef, undef, undef, undef, undef, undef, undef, undef, undef, undef, undef, undef, undef, undef, undef, undef, undef, undef, undef, undef, undef, undef, undef, undef, undef, undef, undef, undef, undef, undef, undef, undef], defers := [] } w) : Calls Tryd.prog 44 #[.agg #[.int .u8 x.f0, .int .i64 x.f1, .int .i64 x.f2, .int .i64 x.f3, .int .i64 x.f4, .slice A5 x.f5.length c5, .slice A6 x.f6.length c6], .agg #[.int .i64 s0, .int .i64 s1, .int .i64 s2, .int .i64 s3]] w R := by
  go_enter Tryd.func44, Tryd.ntmps44
  exact h
set_option maxRecDepth 100000 in
theorem open167 (a : Act) (hs : a.tmps.size = 167) (hd : a.defers = []) : ∃ us : Nat → Value, (∀ i, us i = a.tmps.toList.getD i undef) ∧ a = { tmps := #[us 0, us 1, us 2, us 3, us 4, us 5, us 6, us 7, us 8, us 9, us 10, us 11, us 12, us 13, us 14, us 15, us 16, us 17, us 18, us 19, us 20, us 21, us 22, us 23, us 24, us 25, us 26, us 27, us 28, us 29, us 30, us 31, us 32, us 33, us 34, us 35, us 36, us 37, us 38, us 39, us 40, us 41, us 42, us 43, us 44, us 45, us 46, us 47, us 48, us 49, us 50, us 51, us 52, us 53, us 54, us 55, us 56, us 57, us 58, us 59, us 60, us 61, us 62, us 63, us 64, us 65, us 66, us 67, us 68, us 69, us 70, us 71, us 72, us 73, us 74, us 75, us 76, us 77, us 78, us 79, us 80, us 81, us 82, us 83, us 84, us 85, us 86, us 87, us 88, us 89, us 90, us 91, us 92, us 93, us 94, us 95, us 96, us 97, us 98, us 99, us 100, us 101, us 102, us 103, us 104, us 105, us 106, us 107, us 108, us 109, us 110, us 111, us 112, us 113, us 114, us 115, us 116, us 117, us 118, us 119, us 120, us 121, us 122, us 123, us 124, us 125, us 126, us 127, us 128, us 129, us 130, us 131, us 132, us 133, us 134, us 135, us 136, us 137, us 138, us 139, us 140, us 141, us 142, us 143, us 144, us 145, us 146, us 147, us 148, us 149, us 150, us 151, us 152, us 153, us 154, us 155, us 156, us 157, us 158, us 159, us 160, us 161, us 162, us 163, us 164, us 165, us 166], defers := [] } := by
  refine ⟨fun i => a.tmps.toList.getD i undef, fun _ => rfl, ?_⟩
  cases a with
  | mk tmps defers =>
    simp only at hs hd
    subst hd
    have hl : tmps.toList.length = 167 := by simpa using hs
    have e := list_all' tmps.toList
    rw [hl] at e
    generalize hll : tmps.toList = l at e
    have e2 : (List.range 167).map (fun i => l.getD i undef) = [l.getD 0 undef, l.getD 1 undef, l.getD 2 undef, l.getD 3 undef, l.getD 4 undef, l.getD 5 undef, l.getD 6 undef, l.getD 7 undef, l.getD 8 undef, l.getD 9 undef, l.getD 10 undef, l.getD 11 undef, l.getD 12 undef, l.getD 13 undef, l.getD 14 undef, l.getD 15 undef, l.getD 16 undef, l.getD 17 undef, l.getD 18 undef, l.getD 19 undef, l.getD 20 undef, l.getD 21 undef, l.getD 22 undef, l.getD 23 undef, l.getD 24 undef, l.getD 25 undef, l.getD 26 undef, l.getD 27 undef, l.getD 28 undef, l.getD 29 undef, l.getD 30 undef, l.getD 31 undef, l.getD 32 undef, l.getD 33 undef, l.getD 34 undef, l.getD 35 undef, l.getD 36 undef, l.getD 37 undef, l.getD 38 undef, l.getD 39 undef, l.getD 40 undef, l.getD 41 undef, l.getD 42 undef, l.getD 43 undef, l.getD 44 undef, l.getD 45 undef, l.getD 46 undef, l.getD 47 undef, l.getD 48 undef, l.getD 49 undef, l.getD 50 undef, l.getD 51 undef, l.getD 52 undef, l.getD 53 undef, l.getD 54 undef, l.getD 55 undef, l.getD 56 undef, l.getD 57 undef, l.getD 58 undef, l.getD 59 undef, l.getD 60 undef, l.getD 61 undef, l.getD 62 undef, l.getD 63 undef, l.getD 64 undef, l.getD 65 undef, l.getD 66 undef, l.getD 67 undef, l.getD 68 undef, l.getD 69 undef, l.getD 70 undef, l.getD 71 undef, l.getD 72 undef, l.getD 73 undef, l.getD 74 undef, l.getD 75 undef, l.getD 76 undef, l.getD 77 undef, l.getD 78 undef, l.getD 79 undef, l.getD 80 undef, l.getD 81 undef, l.getD 82 undef, l.getD 83 undef, l.getD 84 undef, l.getD 85 undef, l.getD 86 undef, l.getD 87 undef, l.getD 88 undef, l.getD 89 undef, l.getD 90 undef, l.getD 91 undef, l.getD 92 undef, l.getD 93 undef, l.getD 94 undef, l.getD 95 undef, l.getD 96 undef, l.getD 97 undef, l.getD 98 undef, l.getD 99 undef, l.getD 100 undef, l.getD 101 undef, l.getD 102 undef, l.getD 103 undef, l.getD 104 undef, l.getD 105 undef, l.getD 106 undef, l.getD 107 undef, l.getD 108 undef, l.getD 109 undef, l.getD 110 undef, l.getD 111 undef, l.getD 112 undef, l.getD 113 undef, l.getD 114 undef, l.getD 115 undef, l.getD 116 undef, l.getD 117 undef, l.getD 118 undef, l.getD 119 undef, l.getD 120 undef, l.getD 121 undef, l.getD 122 undef, l.getD 123 undef, l.getD 124 undef, l.getD 125 undef, l.getD 126 undef, l.getD 127 undef, l.getD 128 undef, l.getD 129 undef, l.getD 130 undef, l.getD 131 undef, l.getD 132 undef, l.getD 133 undef, l.getD 134 undef, l.getD 135 undef, l.getD 136 undef, l.getD 137 undef, l.getD 138 undef, l.getD 139 undef, l.getD 140 undef, l.getD 141 undef, l.getD 142 undef, l.getD 143 undef, l.getD 144 undef, l.getD 145 undef, l.getD 146 undef, l.getD 147 undef, l.getD 148 undef, l.getD 149 undef, l.getD 150 undef, l.getD 151 undef, l.getD 152 undef, l.getD 153 undef, l.getD 154 undef, l.getD 155 undef, l.getD 156 undef, l.getD 157 undef, l.getD 158 undef, l.getD 159 undef, l.getD 160 undef, l.getD 161 undef, l.getD 162 undef, l.getD 163 undef, l.getD 164 undef, l.getD 165 undef, l.getD 166 undef] := rfl
    rw [e2] at e
    congr 1
    have e3 : tmps = tmps.toList.toArray := by simp
    rw [e3, hll]
    conv => lhs; rw [e]
set_option maxHeartbeats 1600000 in
set_option maxRecDepth 100000 in
theorem ins_head (x : S39) (A5 : Option Addr) (c5 : Nat) (A6 : Option Addr) (c6 : Nat) (s0 s1 s2 s3 : Int) (w : World) (hop : 0 ≤ x.f0 ∧ x.f0 ≤ 255) (hsh : ShTab w) (r : Bool) (T : Code)
    (hT : ∀ b5 a W, Fr 167 [(2, .pointer (some ⟨w.heap.size, 0, none⟩)), (3, .pointer (some ⟨w.heap.size + 1, 0, none⟩)), (5, .pointer (some ⟨b5, 0, none⟩))] a → SB x A5 c5 A6 c6 s0 s1 s2 s3 w (hA x.f0) (hB x.f0) (hN x.f0) (hG x.f0) (hF x.f0) (hR x.f0) b5 W → Code.wp Tryd.prog T (bodyPost Tryd.prog Tryd.f44 (InsEnd w r)) a W) :
    Code.wp Tryd.prog (cutAt 2 c44 T) (bodyPost Tryd.prog Tryd.f44 (InsEnd w r)) { tmps := #[.agg #[.int .u8 x.f0, .int .i64 x.f1, .int .i64 x.f2, .int .i64 x.f3, .int .i64 x.f4, .slice A5 x.f5.length c5, .slice A6 x.f6.length c6], .agg #[.int .i64 s0, .int .i64 s1, .int .i64 s2, .int .i64 s3], undef, undef, undef, undef, undef, undef, undef, undef, undef, undef, undef, undef, undef, undef, undef, undef, undef, undef, undef, undef, undef, undef, undef, undef, undef, undef, undef, undef, undef, undef, undef, undef, undef, undef, undef, undef, undef, undef, undef, undef, undef, undef, undef, undef, undef, undef, undef, undef, undef, undef, undef, undef, undef, undef, undef, undef, undef, undef, undef, undef, undef, undef, undef, undef, undef, undef, undef, undef, undef, undef, undef, undef, undef, undef, undef, undef, undef, undef, undef, undef, undef, undef, undef, undef, undef, undef, undef, undef, undef, undef, undef, undef, undef, undef, undef, undef, undef, undef, undef, undef, undef, undef, undef, undef, undef, undef, undef, undef, undef, undef, undef, undef, undef, undef, undef, undef, undef, undef, undef, undef, undef, undef, undef, undef, undef, undef, undef, undef, undef, undef, undef, undef, undef, undef, undef, undef, undef, undef, undef, undef, undef, undef, undef, undef, undef, undef, undef, undef, undef, undef, undef, undef, undef, undef, undef, undef, undef, undef, undef, undef, undef, undef, undef, undef, undef], defers := [] } w := by
  have HT := Lib.hid hT
  have HOF : Hid (∀ W, Below w.heap.size w W → Calls Tryd.prog 62 #[.int .u8 x.f0] W fun e w' => e = .returned (.agg #[.bool (hA x.f0), .bool (hB x.f0), .bool (hN x.f0), .bool (hG x.f0), .bool (hF x.f0), .bool (hR x.f0)]) ∧ Below W.heap.size W w') := Lib.hid (fun W hb => shape_of.calls x.f0 _ _ _ _ _ _ W (by unfold shape_of.f; rw [if_pos hop]) (hsh.below hb))
  generalize hA x.f0 = qa at *
  generalize hB x.f0 = qb at *
  generalize hN x.f0 = qn at *
  generalize hG x.f0 = qg at *
  generalize hF x.f0 = qf at *
  generalize hR x.f0 = qr at *
  clear hT hop hsh
  conv => arg 2; whnf; arg 2; whnf
  go_wp2_with (go_at_call 62; refine (HOF.out _ (below_alloc (below_alloc (Below.refl _ _) _) _)).mono ?_; rintro e w2 ⟨rfl, hb2⟩)
  refine HT.out w2.heap.size _ _ ⟨rfl, by intro p hp; simp only [List.mem_cons, List.not_mem_nil, or_false] at hp; rcases hp with rfl | rfl | rfl <;> rfl, rfl⟩ ⟨below_alloc ((below_alloc (below_alloc (Below.refl _ w) _) _).trans (hb2.mono (by simp; omega))) _, ?_, ?_, heap_alloc_new w2 _⟩
  · rw [(below_alloc (Below.refl _ w2) _).block _ (by have := hb2.size; simp at this; omega), hb2.block _ (by simp; omega), (below_alloc (Below.refl _ (w.alloc (.cells #[.int .u8 x.f0, .int .i64 x.f1, .int .i64 x.f2, .int .i64 x.f3, .int .i64 x.f4, .slice A5 x.f5.length c5, .slice A6 x.f6.length c6] 39))) _).block _ (by simp)]
    exact heap_alloc_new w _
  · rw [(below_alloc (Below.refl _ w2) _).block _ (by have := hb2.size; simp at this; omega), hb2.block _ (by simp)]
    have := heap_alloc_new (w.alloc (.cells #[.int .u8 x.f0, .int .i64 x.f1, .int .i64 x.f2, .int .i64 x.f3, .int .i64 x.f4, .slice A5 x.f5.length c5, .slice A6 x.f6.length c6] 39)) (.cells #[.int .i64 s0, .int .i64 s1, .int .i64 s2, .int .i64 s3] 93)
    simpa using this
def badB (e0 qa qb : Bool) (pa pb al nu : Bool) : Bool := e0 || (qa && !pa) || (qb && !pb) || !al || !nu
theorem eqHas (d : Nat) (W : World) (x0 x1 x2 x3 x4 x5 y0 y1 y2 y3 y4 y5 : Bool) : (Op.equalIn (d + 2) 111 (.agg #[.bool x0, .bool x1, .bool x2, .bool x3, .bool x4, .bool x5]) (.agg #[.bool y0, .bool y1, .bool y2, .bool y3, .bool y4, .bool y5])).run Tryd.prog W = .ok (x0 == y0 && (x1 == y1 && (x2 == y2 && (x3 == y3 && (x4 == y4 && (x5 == y5)))))) W := by
  refine eqA_of Tryd.underlying111 (by kernel_rfl) ?_
  refine eqf_cons (by rfl) (by go_simp; rfl) (by go_simp; rfl) (by go_simp) ?_
  refine eqf_cons (by rfl) (by go_simp; rfl) (by go_simp; rfl) (by go_simp) ?_
  refine eqf_cons (by rfl) (by go_simp; rfl) (by go_simp; rfl) (by go_simp) ?_
  refine eqf_cons (by rfl) (by go_simp; rfl) (by go_simp; rfl) (by go_simp) ?_
  refine eqf_cons (by rfl) (by go_simp; rfl) (by go_simp; rfl) (by go_simp) ?_
  exact eqf_last (by rfl) (by go_simp; rfl) (by go_simp; rfl) (by go_simp)
def noneH (qa qb qn qg qf qr : Bool) : Bool := !(qa || qb || qn || qg || qf || qr)
theorem eqHas0 (d : Nat) (W : World) (qa qb qn qg qf qr : Bool) : (Op.equalIn (d + 2) 111 (.agg #[.bool qa, .bool qb, .bool qn, .bool qg, .bool qf, .bool qr]) (.agg #[.bool false, .bool false, .bool false, .bool false, .bool false, .bool false])).run Tryd.prog W = .ok (noneH qa qb qn qg qf qr) W := by
  rw [eqHas]
  cases qa <;> cases qb <;> cases qn <;> cases qg <;> cases qf <;> cases qr <;> rfl
set_option maxHeartbeats 3200000 in
set_option maxRecDepth 100000 in
theorem ins_bad (x : S39) (A5 : Option Addr) (c5 : Nat) (A6 : Option Addr) (c6 : Nat) (s0 s1 s2 s3 : Int) (w : World) (hC5 : (Kd.int .i64).C w A5 x.f5.length x.f5) (hl5 : x.f5.length ≤ c5) (hC6 : (Kd.int .i64).C w A6 x.f6.length x.f6) (hl6 : x.f6.length ≤ c6) (qa qb qn qg qf qr : Bool) (b5 : Nat) (r : Bool) (T : Code) (a : Act) (W : World) (hfr : Fr 167 [(2, .pointer (some ⟨w.heap.size, 0, none⟩)), (3, .pointer (some ⟨w.heap.size + 1, 0, none⟩)), (5, .pointer (some ⟨b5, 0, none⟩))] a) (h : SB x A5 c5 A6 c6 s0 s1 s2 s3 w qa qb qn qg qf qr b5 W)
    (hr0 : badB (noneH qa qb qn qg qf qr) qa qb (belowB x.f2 s2) (belowB x.f3 s2) (allB x.f5 s2) (numB x.f0 x.f4 s1) = true → r = false)
    (hT : badB (noneH qa qb qn qg qf qr) qa qb (belowB x.f2 s2) (belowB x.f3 s2) (allB x.f5 s2) (numB x.f0 x.f4 s1) = false → ∀ a W, Fr 167 [(2, .pointer (some ⟨w.heap.size, 0, none⟩)), (3, .pointer (some ⟨w.heap.size + 1, 0, none⟩)), (5, .pointer (some ⟨b5, 0, none⟩))] a → SB x A5 c5 A6 c6 s0 s1 s2 s3 w qa qb qn qg qf qr b5 W → Code.wp Tryd.prog T (bodyPost Tryd.prog Tryd.f44 (InsEnd w r)) a W) :
    Code.wp Tryd.prog (cutAt 1 (rights 2 c44) T) (bodyPost Tryd.prog Tryd.f44 (InsEnd w r)) a W := by
  obtain ⟨us, hus, rfl⟩ := open167 a hfr.size hfr.no
  have e2 := hfr.val hus 2 _ (List.mem_cons_self)
  have e3 := hfr.val hus 3 _ (List.mem_cons_of_mem _ (List.mem_cons_self))
  have e5 := hfr.val hus 5 _ (List.mem_cons_of_mem _ (List.mem_cons_of_mem _ (List.mem_cons_self)))
  rw [e2, e3, e5]
  clear e2 e3 e5 hfr hus
  have hm := h
  have HM := Lib.hid h
  obtain ⟨m20, m21, m22, m23, m24, m25, m26, m30, m31, m32, m33, m50, m51, m52, m53, m54, m55⟩ := hm.cells
  clear hm h
  have he0 : ∀ (d : Nat) (W : World), (Op.equalIn (d + 2) 111 (.agg #[.bool qa, .bool qb, .bool qn, .bool qg, .bool qf, .bool qr]) (.agg #[.bool false, .bool false, .bool false, .bool false, .bool false, .bool false])).run Tryd.prog W = .ok (noneH qa qb qn qg qf qr) W := fun d W => eqHas0 d W qa qb qn qg qf qr
  have HPA := Lib.hid (fun W => below_any x.f2 s2 W)
  have HPB := Lib.hid (fun W => below_any x.f3 s2 W)
  have HAL : Hid (∀ W, Below w.heap.size w W → Calls Tryd.prog 63 #[.slice A5 x.f5.length c5, .int .i64 s2] W fun e w' => e = .returned (.bool (allB x.f5 s2)) ∧ Below W.heap.size W w') := Lib.hid (fun W hb => all_call s2 A5 c5 x.f5 W (Kd.C_below hC5 hb) hl5)
  have HNU : Hid (∀ W, Below w.heap.size w W → Calls Tryd.prog 64 #[.agg #[.int .u8 x.f0, .int .i64 x.f1, .int .i64 x.f2, .int .i64 x.f3, .int .i64 x.f4, .slice A5 x.f5.length c5, .slice A6 x.f6.length c6], .agg #[.int .i64 s0, .int .i64 s1, .int .i64 s2, .int .i64 s3]] W fun e w' => e = .returned (.bool (numB x.f0 x.f4 s1)) ∧ Below W.heap.size W w') := Lib.hid (fun W hb => shape_number.calls 1 x.f0 x.f1 x.f2 x.f3 x.f4 A5 c5 x.f5 A6 c6 x.f6 s0 s1 s2 s3 _ W (Kd.C_below hC5 hb) hl5 (Kd.C_below hC6 hb) hl6 (num_f x s0 s1 s2 s3))
  generalize noneH qa qb qn qg qf qr = e0 at he0 hr0 hT
  generalize belowB x.f2 s2 = pa at HPA hr0 hT
  generalize belowB x.f3 s2 = pb at HPB hr0 hT
  generalize allB x.f5 s2 = al at HAL hr0 hT
  generalize numB x.f0 x.f4 s1 = nu at HNU hr0 hT
  have HR0 := Lib.hid hr0
  have HT := Lib.hid hT
  clear hr0 hT hC5 hC6 hl5 hl6
  conv => arg 2; whnf
  go_wp2_with (first
    | (go_at_call 22; (with_reducible refine (HPA.out _).mono ?_); rintro e W1 ⟨rfl, hb⟩; have hm := HM.out.later hb; clear m20 m21 m22 m23 m24 m25 m26 m30 m31 m32 m33 m50 m51 m52 m53 m54 m55 HM; have HM := Lib.hid hm; obtain ⟨m20, m21, m22, m23, m24, m25, m26, m30, m31, m32, m33, m50, m51, m52, m53, m54, m55⟩ := hm.cells; clear hm hb)
    | (go_at_call 22; (with_reducible refine (HPB.out _).mono ?_); rintro e W1 ⟨rfl, hb⟩; have hm := HM.out.later hb; clear m20 m21 m22 m23 m24 m25 m26 m30 m31 m32 m33 m50 m51 m52 m53 m54 m55 HM; have HM := Lib.hid hm; obtain ⟨m20, m21, m22, m23, m24, m25, m26, m30, m31, m32, m33, m50, m51, m52, m53, m54, m55⟩ := hm.cells; clear hm hb)
    | (go_at_call 63; (with_reducible refine (HAL.out _ HM.out.below).mono ?_); rintro e W1 ⟨rfl, hb⟩; have hm := HM.out.later hb; clear m20 m21 m22 m23 m24 m25 m26 m30 m31 m32 m33 m50 m51 m52 m53 m54 m55 HM; have HM := Lib.hid hm; obtain ⟨m20, m21, m22, m23, m24, m25, m26, m30, m31, m32, m33, m50, m51, m52, m53, m54, m55⟩ := hm.cells; clear hm hb)
    | (go_at_call 64; (with_reducible refine (HNU.out _ HM.out.below).mono ?_); rintro e W1 ⟨rfl, hb⟩; have hm := HM.out.later hb; clear m20 m21 m22 m23 m24 m25 m26 m30 m31 m32 m33 m50 m51 m52 m53 m54 m55 HM; have HM := Lib.hid hm; obtain ⟨m20, m21, m22, m23, m24, m25, m26, m30, m31, m32, m33, m50, m51, m52, m53, m54, m55⟩ := hm.cells; clear hm hb))
  all_goals first
    | (go_ret; exact ⟨by rw [HR0.out (by simp_all [badB])]; rfl, HM.out.below⟩)
    | exact HT.out (by simp_all [badB]) _ _ ⟨rfl, by intro p hp; simp only [List.mem_cons, List.not_mem_nil, or_false] at hp; rcases hp with rfl | rfl | rfl <;> rfl, rfl⟩ HM.out
def noneB (x : S39) (qa qb qn qg qf : Bool) : Bool := (!qa && x.f2 != 0) || (!qb && x.f3 != 0) || (!qn && x.f4 != 0) || (!qg && decide (0 < x.f5.length)) || (!qf && decide (0 < x.f6.length))
set_option maxHeartbeats 6400000 in
set_option maxRecDepth 100000 in
theorem ins_none (x : S39) (A5 : Option Addr) (c5 : Nat) (A6 : Option Addr) (c6 : Nat) (s0 s1 s2 s3 : Int) (w : World) (qa qb qn qg qf qr : Bool) (b5 : Nat) (r : Bool) (T : Code) (a : Act) (W : World) (hfr : Fr 167 [(2, .pointer (some ⟨w.heap.size, 0, none⟩)), (3, .pointer (some ⟨w.heap.size + 1, 0, none⟩)), (5, .pointer (some ⟨b5, 0, none⟩))] a) (h : SB x A5 c5 A6 c6 s0 s1 s2 s3 w qa qb qn qg qf qr b5 W)
    (hT : ∀ nb, nb = noneB x qa qb qn qg qf → ∀ a W, Fr 167 [(2, .pointer (some ⟨w.heap.size, 0, none⟩)), (3, .pointer (some ⟨w.heap.size + 1, 0, none⟩)), (5, .pointer (some ⟨b5, 0, none⟩)), (6, .bool nb)] a → SB x A5 c5 A6 c6 s0 s1 s2 s3 w qa qb qn qg qf qr b5 W → Code.wp Tryd.prog T (bodyPost Tryd.prog Tryd.f44 (InsEnd w r)) a W) :
    Code.wp Tryd.prog (cutAt 1 (rights 3 c44) T) (bodyPost Tryd.prog Tryd.f44 (InsEnd w r)) a W := by
  obtain ⟨us, hus, rfl⟩ := open167 a hfr.size hfr.no
  have e2 := hfr.val hus 2 _ (List.mem_cons_self)
  have e3 := hfr.val hus 3 _ (List.mem_cons_of_mem _ (List.mem_cons_self))
  have e5 := hfr.val hus 5 _ (List.mem_cons_of_mem _ (List.mem_cons_of_mem _ (List.mem_cons_self)))
  rw [e2, e3, e5]
  clear e2 e3 e5 hfr hus
  have hm := h
  have HM := Lib.hid h
  obtain ⟨m20, m21, m22, m23, m24, m25, m26, m30, m31, m32, m33, m50, m51, m52, m53, m54, m55⟩ := hm.cells
  clear hm h
  unfold noneB at hT
  obtain ⟨z2, w2⟩ : ∃ z, (x.f2 != 0) = z := ⟨_, rfl⟩
  obtain ⟨z3, w3⟩ : ∃ z, (x.f3 != 0) = z := ⟨_, rfl⟩
  obtain ⟨z4, w4⟩ : ∃ z, (x.f4 != 0) = z := ⟨_, rfl⟩
  obtain ⟨z5, w5⟩ : ∃ z, decide (0 < x.f5.length) = z := ⟨_, rfl⟩
  obtain ⟨z6, w6⟩ : ∃ z, decide (0 < x.f6.length) = z := ⟨_, rfl⟩
  rw [w2, w3, w4, w5, w6] at hT
  have HT := Lib.hid hT
  clear hT
  conv => arg 2; whnf
  go_wp2
  all_goals first
    | (refine HT.out (true) ?_ _ _ ⟨rfl, ?_, rfl⟩ HM.out; (focus (simp_all [noneB]; done)); (intro p hp; simp only [List.mem_cons, List.not_mem_nil, or_false] at hp; rcases hp with rfl | rfl | rfl | rfl <;> rfl))
    | (refine HT.out (false) ?_ _ _ ⟨rfl, ?_, rfl⟩ HM.out; (focus (simp_all [noneB]; done)); (intro p hp; simp only [List.mem_cons, List.not_mem_nil, or_false] at hp; rcases hp with rfl | rfl | rfl | rfl <;> rfl))
    | (refine HT.out (z6) ?_ _ _ ⟨rfl, ?_, rfl⟩ HM.out; (focus (simp_all [noneB]; done)); (intro p hp; simp only [List.mem_cons, List.not_mem_nil, or_false] at hp; rcases hp with rfl | rfl | rfl | rfl <;> rfl))
def kindB (qr pb z : Bool) : Bool := (qr && pb) || (!qr && z)
set_option maxHeartbeats 1600000 in
set_option maxRecDepth 100000 in
theorem ins_kind (x : S39) (A5 : Option Addr) (c5 : Nat) (A6 : Option Addr) (c6 : Nat) (s0 s1 s2 s3 : Int) (w : World) (qa qb qn qg qf qr : Bool) (b5 : Nat) (nb : Bool) (r : Bool) (T : Code) (a : Act) (W : World) (hfr : Fr 167 [(2, .pointer (some ⟨w.heap.size, 0, none⟩)), (3, .pointer (some ⟨w.heap.size + 1, 0, none⟩)), (5, .pointer (some ⟨b5, 0, none⟩)), (6, .bool nb)] a) (h : SB x A5 c5 A6 c6 s0 s1 s2 s3 w qa qb qn qg qf qr b5 W)
    (hT : ∀ kd, kd = kindB qr (belowB x.f1 s0) (x.f1 == 0) → ∀ a W, Fr 167 [(2, .pointer (some ⟨w.heap.size, 0, none⟩)), (3, .pointer (some ⟨w.heap.size + 1, 0, none⟩)), (5, .pointer (some ⟨b5, 0, none⟩)), (6, .bool nb), (7, .bool kd)] a → SB x A5 c5 A6 c6 s0 s1 s2 s3 w qa qb qn qg qf qr b5 W → Code.wp Tryd.prog T (bodyPost Tryd.prog Tryd.f44 (InsEnd w r)) a W) :
    Code.wp Tryd.prog (cutAt 1 (rights 4 c44) T) (bodyPost Tryd.prog Tryd.f44 (InsEnd w r)) a W := by
  obtain ⟨us, hus, rfl⟩ := open167 a hfr.size hfr.no
  have e2 := hfr.val hus 2 _ (List.mem_cons_self)
  have e3 := hfr.val hus 3 _ (List.mem_cons_of_mem _ (List.mem_cons_self))
  have e5 := hfr.val hus 5 _ (List.mem_cons_of_mem _ (List.mem_cons_of_mem _ (List.mem_cons_self)))
  have e6 := hfr.val hus 6 _ (List.mem_cons_of_mem _ (List.mem_cons_of_mem _ (List.mem_cons_of_mem _ (List.mem_cons_self))))
  rw [e2, e3, e5, e6]
  clear e2 e3 e5 e6 hfr hus
  have hm := h
  have HM := Lib.hid h
  obtain ⟨m20, m21, m22, m23, m24, m25, m26, m30, m31, m32, m33, m50, m51, m52, m53, m54, m55⟩ := hm.cells
  clear hm h
  have HPA := Lib.hid (fun W => below_any x.f1 s0 W)
  generalize belowB x.f1 s0 = pa at HPA hT
  have HT := Lib.hid hT
  clear hT
  conv => arg 2; whnf
  go_wp2_with (go_at_call 22; (with_reducible refine (HPA.out _).mono ?_); rintro e W1 ⟨rfl, hb⟩; have hm := HM.out.later hb; clear m20 m21 m22 m23 m24 m25 m26 m30 m31 m32 m33 m50 m51 m52 m53 m54 m55 HM; have HM := Lib.hid hm; obtain ⟨m20, m21, m22, m23, m24, m25, m26, m30, m31, m32, m33, m50, m51, m52, m53, m54, m55⟩ := hm.cells; clear hm hb)
  all_goals first
    | (refine HT.out (true) ?_ _ _ ⟨rfl, ?_, rfl⟩ HM.out; (focus (simp_all [kindB]; done)); (intro p hp; simp only [List.mem_cons, List.not_mem_nil, or_false] at hp; rcases hp with rfl | rfl | rfl | rfl | rfl <;> rfl))
    | (refine HT.out (false) ?_ _ _ ⟨rfl, ?_, rfl⟩ HM.out; (focus (simp_all [kindB]; done)); (intro p hp; simp only [List.mem_cons, List.not_mem_nil, or_false] at hp; rcases hp with rfl | rfl | rfl | rfl | rfl <;> rfl))
    | (refine HT.out (x.f1 == 0) ?_ _ _ ⟨rfl, ?_, rfl⟩ HM.out; (focus (simp_all [kindB]; done)); (intro p hp; simp only [List.mem_cons, List.not_mem_nil, or_false] at hp; rcases hp with rfl | rfl | rfl | rfl | rfl <;> rfl))
    | (refine HT.out (decide (x.f1 = 0)) ?_ _ _ ⟨rfl, ?_, rfl⟩ HM.out; (focus (simp_all [kindB]; done)); (intro p hp; simp only [List.mem_cons, List.not_mem_nil, or_false] at hp; rcases hp with rfl | rfl | rfl | rfl | rfl <;> rfl))
def lastB (qf nb kd al : Bool) (l5 l6 : Nat) : Bool := if qf then !nb && kd && al && decide (l6 = l5) && decide (1 ≤ l6) && decide (l6 ≤ 16) else !nb && kd && decide (l5 ≤ 4)
set_option maxHeartbeats 3200000 in
set_option maxRecDepth 100000 in
theorem ins_last (x : S39) (A5 : Option Addr) (c5 : Nat) (A6 : Option Addr) (c6 : Nat) (s0 s1 s2 s3 : Int) (w : World) (hC5 : (Kd.int .i64).C w A5 x.f5.length x.f5) (hl5 : x.f5.length ≤ c5) (hC6 : (Kd.int .i64).C w A6 x.f6.length x.f6) (hl6 : x.f6.length ≤ c6) (qa qb qn qg qf qr : Bool) (b5 : Nat) (nb kd : Bool) (a : Act) (W : World) (hfr : Fr 167 [(2, .pointer (some ⟨w.heap.size, 0, none⟩)), (3, .pointer (some ⟨w.heap.size + 1, 0, none⟩)), (5, .pointer (some ⟨b5, 0, none⟩)), (6, .bool nb), (7, .bool kd)] a) (h : SB x A5 c5 A6 c6 s0 s1 s2 s3 w qa qb qn qg qf qr b5 W) :
    Code.wp Tryd.prog (rights 5 c44) (bodyPost Tryd.prog Tryd.f44 (InsEnd w (lastB qf nb kd (allB x.f6 s3) x.f5.length x.f6.length))) a W := by
  obtain ⟨us, hus, rfl⟩ := open167 a hfr.size hfr.no
  have e2 := hfr.val hus 2 _ (List.mem_cons_self)
  have e3 := hfr.val hus 3 _ (List.mem_cons_of_mem _ (List.mem_cons_self))
  have e5 := hfr.val hus 5 _ (List.mem_cons_of_mem _ (List.mem_cons_of_mem _ (List.mem_cons_self)))
  have e6 := hfr.val hus 6 _ (List.mem_cons_of_mem _ (List.mem_cons_of_mem _ (List.mem_cons_of_mem _ (List.mem_cons_self))))
  have e7 := hfr.val hus 7 _ (List.mem_cons_of_mem _ (List.mem_cons_of_mem _ (List.mem_cons_of_mem _ (List.mem_cons_of_mem _ (List.mem_cons_self)))))
  rw [e2, e3, e5, e6, e7]
  clear e2 e3 e5 e6 e7 hfr hus
  have hm := h
  have HM := Lib.hid h
  obtain ⟨m20, m21, m22, m23, m24, m25, m26, m30, m31, m32, m33, m50, m51, m52, m53, m54, m55⟩ := hm.cells
  clear hm h
  have HAL : Hid (∀ W, Below w.heap.size w W → Calls Tryd.prog 63 #[.slice A6 x.f6.length c6, .int .i64 s3] W fun e w' => e = .returned (.bool (allB x.f6 s3)) ∧ Below W.heap.size W w') := Lib.hid (fun W hb => all_call s3 A6 c6 x.f6 W (Kd.C_below hC6 hb) hl6)
  obtain ⟨r, hr⟩ : ∃ r, r = lastB qf nb kd (allB x.f6 s3) x.f5.length x.f6.length := ⟨_, rfl⟩
  rw [← hr]
  generalize allB x.f6 s3 = al at HAL hr
  unfold lastB at hr
  obtain ⟨z1, w1⟩ : ∃ z, ((x.f6.length : Int) == (x.f5.length : Int)) = z := ⟨_, rfl⟩
  obtain ⟨z2, w2⟩ : ∃ z, decide (1 ≤ (x.f6.length : Int)) = z := ⟨_, rfl⟩
  obtain ⟨z3, w3⟩ : ∃ z, decide ((x.f6.length : Int) ≤ 16) = z := ⟨_, rfl⟩
  obtain ⟨z4, w4⟩ : ∃ z, decide ((x.f5.length : Int) ≤ 4) = z := ⟨_, rfl⟩
  rw [show decide (x.f6.length = x.f5.length) = z1 by rw [← w1, Bool.eq_iff_iff, beq_iff_eq, decide_eq_true_iff]; omega,
    show decide (1 ≤ x.f6.length) = z2 by rw [← w2, Bool.eq_iff_iff, decide_eq_true_iff, decide_eq_true_iff]; omega,
    show decide (x.f6.length ≤ 16) = z3 by rw [← w3, Bool.eq_iff_iff, decide_eq_true_iff, decide_eq_true_iff]; omega,
    show decide (x.f5.length ≤ 4) = z4 by rw [← w4, Bool.eq_iff_iff, decide_eq_true_iff, decide_eq_true_iff]; omega] at hr
  have HRR := Lib.hid hr
  clear hr hC5 hC6 hl5 hl6
  conv => arg 2; whnf
  go_wp2_with (go_at_call 63; (with_reducible refine (HAL.out _ HM.out.below).mono ?_); rintro e W1 ⟨rfl, hb⟩; have hm := HM.out.later hb; clear m20 m21 m22 m23 m24 m25 m26 m30 m31 m32 m33 m50 m51 m52 m53 m54 m55 HM; have HM := Lib.hid hm; obtain ⟨m20, m21, m22, m23, m24, m25, m26, m30, m31, m32, m33, m50, m51, m52, m53, m54, m55⟩ := hm.cells; clear hm hb)
  all_goals
    have hrr := HRR.out
    have HMB := HM.out.below
    clear HRR HM HAL w1 w2 w3 w4 m20 m21 m22 m23 m24 m25 m26 m30 m31 m32 m33 m50 m51 m52 m53 m54 m55
    go_ret
    refine ⟨?_, HMB⟩
    clear HMB
    rw [hrr]
    clear hrr
    simp_all
def insB (x : S39) (s0 s1 s2 s3 : Int) : Bool :=
  if badB (noneH (hA x.f0) (hB x.f0) (hN x.f0) (hG x.f0) (hF x.f0) (hR x.f0)) (hA x.f0) (hB x.f0) (belowB x.f2 s2) (belowB x.f3 s2) (allB x.f5 s2) (numB x.f0 x.f4 s1) then false
  else lastB (hF x.f0) (noneB x (hA x.f0) (hB x.f0) (hN x.f0) (hG x.f0) (hF x.f0)) (kindB (hR x.f0) (belowB x.f1 s0) (x.f1 == 0)) (allB x.f6 s3) x.f5.length x.f6.length
theorem ins_call (x : S39) (A5 : Option Addr) (c5 : Nat) (A6 : Option Addr) (c6 : Nat) (s0 s1 s2 s3 : Int) (w : World) (hC5 : (Kd.int .i64).C w A5 x.f5.length x.f5) (hl5 : x.f5.length ≤ c5) (hC6 : (Kd.int .i64).C w A6 x.f6.length x.f6) (hl6 : x.f6.length ≤ c6) (hop : 0 ≤ x.f0 ∧ x.f0 ≤ 255) (hsh : ShTab w) :
    Calls Tryd.prog 44 #[.agg #[.int .u8 x.f0, .int .i64 x.f1, .int .i64 x.f2, .int .i64 x.f3, .int .i64 x.f4, .slice A5 x.f5.length c5, .slice A6 x.f6.length c6], .agg #[.int .i64 s0, .int .i64 s1, .int .i64 s2, .int .i64 s3]] w (InsEnd w (insB x s0 s1 s2 s3)) := by
  refine enter44 x A5 c5 A6 c6 s0 s1 s2 s3 w _ ?_
  rw [c44_cut]
  refine ins_head x A5 c5 A6 c6 s0 s1 s2 s3 w hop hsh _ _ (fun b5 a W hfr hW => ?_)
  rw [c44_cut2]
  refine ins_bad x A5 c5 A6 c6 s0 s1 s2 s3 w hC5 hl5 hC6 hl6 _ _ _ _ _ _ b5 _ _ a W hfr hW (fun hb => by unfold insB; rw [if_pos hb]) (fun hb a W hfr hW => ?_)
  rw [c44_cut3]
  refine ins_none x A5 c5 A6 c6 s0 s1 s2 s3 w _ _ _ _ _ _ b5 _ _ a W hfr hW (fun nb hnb a W hfr hW => ?_)
  rw [c44_cut4]
  refine ins_kind x A5 c5 A6 c6 s0 s1 s2 s3 w _ _ _ _ _ _ b5 nb _ _ a W hfr hW (fun kd hkd a W hfr hW => ?_)
  have e : insB x s0 s1 s2 s3 = lastB (hF x.f0) nb kd (allB x.f6 s3) x.f5.length x.f6.length := by unfold insB; rw [if_neg (by rw [hb]; decide), hnb, hkd]
  rw [e]
  exact ins_last x A5 c5 A6 c6 s0 s1 s2 s3 w hC5 hl5 hC6 hl6 _ _ _ _ _ _ b5 nb kd a W hfr hW
end Go.Proofs.YtlghkomipboflaaDoor.Sh
end
