/- The walks of package num: digits, Read. -/
import Derived.Test.YtcildbgckgodhabProg
import Derived.Test.YtcildbgckgodhabMath
import Derived.Test.YtcildbgckgodhabMem
import Derived.WalkKit
import Derived.WalkSpells
import Derived.WalkLawsBesides
import Derived.Laws.RangeAny
import Derived.Lib.IndexBytes
import Derived.Defers
import Derived.Recover
import Derived.Lib.Hide
import Derived.PlainAid
import Derived.Deep.DeepCutAuto
import Derived.Deep.CutRange
namespace Go.Proofs.Ytcildbgckgodhab
open Go.RowKit
set_option linter.unusedVariables false
def DigPost (s : ByteArray) (w : World) (e : Ending) (w' : World) : Prop :=
  ∃ n : Int, ∃ b : Bool, e = .returned (.tuple #[.int .u64 n, .bool b]) ∧ Below w.heap.size w w' ∧ b = s.data.toList.all isDig ∧ (b = true → n = (decVal s.data.toList % 18446744073709551616 : Nat))
def DigRel (s : ByteArray) (pos : Nat) (n : Int) : Prop := pos ≤ s.size ∧ (s.data.toList.take pos).all isDig = true ∧ n = (decVal (s.data.toList.take pos) % 18446744073709551616 : Nat)
theorem digRel_step {s : ByteArray} {pos : Nat} {n : Int} (h : DigRel s pos n) (hp : pos < s.size) (h1 : 48 ≤ s[pos].toNat) (h2 : s[pos].toNat ≤ 57) :
    DigRel s (pos + 1) (IntKind.u64.wrap (IntKind.u64.wrap (10 * n) + ((s[pos].toNat : Int) - 48))) := by
  obtain ⟨_, ha, rfl⟩ := h
  refine ⟨by omega, ?_, ?_⟩
  · rw [take_snoc s pos hp, List.all_append, ha]; simp [isDig, h1, h2]
  · rw [take_snoc s pos hp, decVal_snoc]
    generalize decVal (List.take pos s.data.toList) = d
    generalize s[pos].toNat = c at *
    have e : ∀ z : Int, IntKind.u64.wrap z = z % 18446744073709551616 := fun z => by simp [IntKind.wrap, IntKind.signed, IntKind.bits]
    rw [e, e]
    omega
theorem digRel_end {s : ByteArray} {pos : Nat} {n : Int} (h : DigRel s pos n) (hp : ¬ pos < s.size) : s.data.toList.all isDig = true ∧ n = (decVal s.data.toList % 18446744073709551616 : Nat) := by
  obtain ⟨h0, ha, hn⟩ := h
  have : s.data.toList.take pos = s.data.toList := List.take_of_length_le (by simp; omega)
  rw [this] at ha hn
  exact ⟨ha, hn⟩
theorem digRel_no {s : ByteArray} {pos : Nat} (hp : pos < s.size) (h : ¬ (48 ≤ s[pos].toNat ∧ s[pos].toNat ≤ 57)) : s.data.toList.all isDig = false := by
  rw [List.all_eq_false]
  refine ⟨s[pos], ?_, by simp [isDig]; omega⟩
  show s.data[pos] ∈ s.data.toList
  simp
theorem below_iter {w : World} {s : ByteArray} {pos : Nat} : Below w.heap.size w (w.iter s pos) := by
  unfold World.iter; exact (Below.refl _ _).alloc (Nat.le_refl _) _
set_option maxHeartbeats 400000 in
theorem digits_any (s : ByteArray) (w : World) :
    Calls Try.prog 39 #[.string s] w (DigPost s w) := by
  go_enter Try.func39, Try.ntmps39
  go_wp2
  go_step3
  go_wp2
  go_step3
  go_wp2
  go_loopw [2, 3] (fun n b w' => ∃ (pos : Nat) (nn : Int), w' = w.iter s pos ∧ b = .bool true ∧ n = .int .u64 nn ∧ DigRel s pos nn) (fun _ _ w' => s.size - w'.iterPos w.heap.size)
  case atStart => exact ⟨0, 0, rfl, rfl, rfl, Nat.zero_le _, rfl, rfl⟩
  case round =>
    obtain ⟨pos, nn, rfl, rfl, rfl, hr⟩ := hrel
    have HR := Lib.hid hr
    clear hr
    by_cases hp : pos < s.size
    · by_cases ha : s[pos].toNat < 128
      · have hnx : ∀ ty, (Instr.next (.pointer (some ⟨w.heap.size, 0, none⟩)) true ty).run Try.prog (w.iter s pos) = _ := fun ty => run_next_ascii w s pos ty hp ha
        by_cases h1 : s[pos].toNat < 48
        · go_wp2
          try simp only [Exit.noGoto_ret]
          go_ret2
          exact ⟨_, _, rfl, below_iter, (digRel_no hp (by omega)).symm, fun h => by cases h⟩
        · by_cases h2 : 57 < s[pos].toNat
          · go_wp2
            try simp only [Exit.noGoto_ret]
            go_ret2
            exact ⟨_, _, rfl, below_iter, (digRel_no hp (by omega)).symm, fun h => by cases h⟩
          · go_wp2
            go_roundw
            case rel => exact ⟨pos + 1, _, rfl, rfl, rfl, digRel_step HR.out hp (by omega) (by omega)⟩
            case measure => simp; omega
      · have hnx : ∀ ty, (Instr.next (.pointer (some ⟨w.heap.size, 0, none⟩)) true ty).run Try.prog (w.iter s pos) = _ := fun ty => run_next_any w s pos ty hp
        have hh := (decode_high s pos hp (by omega)).1
        go_wp2
        try simp only [Exit.noGoto_ret]
        go_ret2
        exact ⟨_, _, rfl, below_iter, (digRel_no hp (by omega)).symm, fun h => by cases h⟩
    · have hnx : ∀ ty, (Instr.next (.pointer (some ⟨w.heap.size, 0, none⟩)) true ty).run Try.prog (w.iter s pos) = _ := fun ty => run_next_end w s pos ty hp
      have he := Lib.hid (digRel_end HR.out hp)
      go_wp2
      try simp only [Exit.noGoto_ret]
      go_ret2
      exact ⟨_, _, rfl, below_iter, he.out.1.symm, fun _ => he.out.2⟩

/-- strings.CutPrefix by one byte. -/
def cutL (s : ByteArray) (c : UInt8) : ByteArray × Bool := if s.data.toList.head? = some c then (s.extract 1 s.size, true) else (s, false)
theorem head_get {s : ByteArray} (h : 0 < s.size) : s.data.toList.head? = some (s[0]'h) := by
  have : s.data.toList = s[0]'h :: s.data.toList.tail := by
    have h' : 0 < s.data.toList.length := by simpa using h
    cases e : s.data.toList with
    | nil => rw [e] at h'; simp at h'
    | cons x t =>
      have : s.data.toList[0]'h' = x := by simp [e]
      rw [← this]; rfl
  rw [this]; rfl
theorem hasPrefix_any (s : ByteArray) (c : UInt8) (w : World) :
    Calls Try.prog 37 #[.string s, .string ⟨#[c]⟩] w fun e w' => e = .returned (.bool (decide (s.data.toList.head? = some c))) ∧ w = w' := by
  have hsz : (⟨#[c]⟩ : ByteArray).size = 1 := rfl
  by_cases h : 1 ≤ s.size
  · have hl : ((s.extract 0 1).toList == [c]) = decide (s.data.toList.head? = some c) := by
      rw [ByteArray.toList_eq, head_get h]
      have e : (s.extract 0 1).data.toList = [s[0]'h] := by
        have := take_snoc s 0 h
        simp at this
        simp [this]
      rw [e]
      rw [Bool.eq_iff_iff]; simp
    have HL := Lib.hid hl
    clear hl
    go_enter Try.func37, Try.ntmps37
    go_wp2
    go_ret
    exact ⟨by rw [← HL.out]; rfl, rfl⟩
  · have h0 : s.data.toList.head? = none := by
      have hz : s.data.toList.length = s.size := by simp
      have : s.data.toList = [] := List.eq_nil_of_length_eq_zero (by omega)
      rw [this]; rfl
    have H0 := Lib.hid h0
    clear h0
    go_enter Try.func37, Try.ntmps37
    go_wp2
    go_ret
    exact ⟨by rw [H0.out]; rfl, rfl⟩
theorem slCut_any (s : ByteArray) (c : UInt8) (w : World) :
    Calls Try.prog 31 #[.string s, .string ⟨#[c]⟩] w fun e w' => e = .returned (.tuple #[.string (cutL s c).1, .bool (cutL s c).2]) ∧ w = w' := by
  have hsz : (⟨#[c]⟩ : ByteArray).size = 1 := rfl
  by_cases h : s.data.toList.head? = some c
  · have hc : cutL s c = (s.extract 1 s.size, true) := if_pos h
    have HC := Lib.hid hc
    have h1 : 1 ≤ s.size := by
      rcases Nat.eq_zero_or_pos s.size with hz | hz
      · have hl : s.data.toList.length = s.size := by simp
        have : s.data.toList = [] := List.eq_nil_of_length_eq_zero (by omega)
        rw [this] at h; cases h
      · exact hz
    have hd : decide (s.data.toList.head? = some c) = true := decide_eq_true h
    have HD := Lib.hid hd
    clear hc h hd
    go_enter Try.func31, Try.ntmps31
    go_wp2_with (go_at_call 37; refine (hasPrefix_any s c _).mono ?_; rw [HD.out]; rintro e w' ⟨rfl, rfl⟩)
    go_ret2
    exact ⟨by rw [HC.out]; rfl, rfl⟩
  · have hc : cutL s c = (s, false) := if_neg h
    have HC := Lib.hid hc
    have hd : decide (s.data.toList.head? = some c) = false := decide_eq_false h
    have HD := Lib.hid hd
    clear hc h hd
    go_enter Try.func31, Try.ntmps31
    go_wp2_with (go_at_call 37; refine (hasPrefix_any s c _).mono ?_; rw [HD.out]; rintro e w' ⟨rfl, rfl⟩)
    go_ret2
    exact ⟨by rw [HC.out]; rfl, rfl⟩
theorem cut_any (s : ByteArray) (c : UInt8) (w : World) :
    Calls Try.prog 24 #[.string s, .string ⟨#[c]⟩] w fun e w' => e = .returned (.tuple #[.string (cutL s c).1, .bool (cutL s c).2]) ∧ w = w' := by
  have H := Lib.hid (slCut_any s c)
  generalize cutL s c = p at *
  obtain ⟨r, b⟩ := p
  go_enter Try.func24, Try.ntmps24
  go_wp2_with (go_at_call 31; refine (H.out _).mono ?_; rintro e w' ⟨rfl, rfl⟩)
  go_ret2
  exact ⟨rfl, rfl⟩

theorem zero_any (pe pn : Addr) (ev nv : Int) (w : World) (he : w.cell? pe = some (.int .i64 ev)) (hn : w.cell? pn = some (.int .i64 nv)) (hz : w.frozen? pn = false) :
    CallsD Try.prog 38 #[.pointer (some pe), .pointer (some pn)] .returning w fun e u' w' =>
      u' = .returning ∧ (e = .returned (.tuple #[]) ∧ w' = if ev = 0 then w else w.setCell pn (.int .i64 0)) := by
  by_cases h : ev = 0
  · have hb : (ev != 0) = false := by simp [h]
    have HH := Lib.hid h
    clear h
    go_enter_d Try.func38, Try.ntmps38
    go_wp2
    go_end0
    first | exact ⟨rfl, by rw [if_pos HH.out]⟩ | exact ⟨rfl, rfl⟩
  · have hb : (ev != 0) = true := by simp [h]
    have HH := Lib.hid h
    clear h
    go_enter_d Try.func38, Try.ntmps38
    go_wp2
    go_end0
    first | exact ⟨rfl, by rw [if_neg HH.out]⟩ | exact ⟨rfl, rfl⟩
theorem two_cells {w w1 : World} {a b : Value} {ta tb : Nat} (h : Below ((w.alloc (.cells #[a] ta)).alloc (.cells #[b] tb)).heap.size ((w.alloc (.cells #[a] ta)).alloc (.cells #[b] tb)) w1) :
    w1.cell? ⟨w.heap.size, 0, none⟩ = some a ∧ w1.cell? ⟨w.heap.size + 1, 0, none⟩ = some b ∧ w1.frozen? ⟨w.heap.size, 0, none⟩ = false ∧ w1.frozen? ⟨w.heap.size + 1, 0, none⟩ = false ∧ Below w.heap.size w w1 := by
  have hs : ((w.alloc (.cells #[a] ta)).alloc (.cells #[b] tb)).heap.size = w.heap.size + 2 := by simp
  rw [hs] at h
  have e0 := h.cell (p := ⟨w.heap.size, 0, none⟩) (by show w.heap.size < w.heap.size + 2; omega)
  have e1 := h.cell (p := ⟨w.heap.size + 1, 0, none⟩) (by show w.heap.size + 1 < w.heap.size + 2; omega)
  have g0 := h.frozen (p := ⟨w.heap.size, 0, none⟩) (by show w.heap.size < w.heap.size + 2; omega)
  have g1 := h.frozen (p := ⟨w.heap.size + 1, 0, none⟩) (by show w.heap.size + 1 < w.heap.size + 2; omega)
  refine ⟨e0.trans (by go_simp), e1.trans (by go_simp), g0.trans (by go_simp), g1.trans (by go_simp), ?_⟩
  exact (((Below.refl _ _).alloc (Nat.le_refl _) _).alloc (by simp) _).trans (h.mono (by omega))
def Facts (w : World) (ev nv : Int) (W : World) : Prop :=
  W.cell? ⟨w.heap.size, 0, none⟩ = some (.int .i64 nv) ∧ W.cell? ⟨w.heap.size + 1, 0, none⟩ = some (.int .i64 ev) ∧ W.frozen? ⟨w.heap.size, 0, none⟩ = false ∧ W.frozen? ⟨w.heap.size + 1, 0, none⟩ = false ∧ Below w.heap.size w W
def ReadEnd (s : ByteArray) (w : World) (e : Ending) (w' : World) : Prop :=
  e = .returned (.tuple #[.int .i64 (readL s.data.toList).1, .int .i64 (readL s.data.toList).2]) ∧ Below w.heap.size w w'
theorem read_door (s : ByteArray) (w W : World) (ev nv : Int) (tmps : Array Value) (h2 : tmps[2]? = some (.pointer (some ⟨w.heap.size, 0, none⟩))) (h3 : tmps[3]? = some (.pointer (some ⟨w.heap.size + 1, 0, none⟩)))
    (hF : Facts w ev nv W) (hE : readL s.data.toList = (if ev = 0 then nv else 0, ev)) :
    bodyPostD Try.prog Try.f32 (ReadEnd s w) Exit.ret { tmps := tmps, defers := [{ target := Target.fn (Fn.func 38) #[.pointer (some ⟨w.heap.size + 1, 0, none⟩), .pointer (some ⟨w.heap.size, 0, none⟩)], args := #[] }] } W := by
  obtain ⟨d0, d1, g0, g1, hb⟩ := hF
  refine leaves_cons (f := 38) (args := #[.pointer (some ⟨w.heap.size + 1, 0, none⟩), .pointer (some ⟨w.heap.size, 0, none⟩)]) (by simp) (by simp [go_sem]) ?_
  refine (zero_any _ _ ev nv _ d1 d0 g0).mono ?_
  rintro e u' w'' ⟨rfl, rfl, rfl⟩
  by_cases h : ev = 0
  · rw [if_pos h] at hE ⊢
    simp [Leaves, settle, results, Try.results32, go_sem, h2, h3, d0, d1, ReadEnd, hE, hb]
  · rw [if_neg h] at hE ⊢
    have e0 : (W.setCell ⟨w.heap.size, 0, none⟩ (.int .i64 0)).cell? ⟨w.heap.size, 0, none⟩ = some (.int .i64 0) := by simp [cell_set, d0]
    have e1 : (W.setCell ⟨w.heap.size, 0, none⟩ (.int .i64 0)).cell? ⟨w.heap.size + 1, 0, none⟩ = some (.int .i64 ev) := by simp [cell_set, d1]
    have eb : Below w.heap.size w (W.setCell ⟨w.heap.size, 0, none⟩ (.int .i64 0)) := hb.setCell (by simp) _
    simp [Leaves, settle, results, Try.results32, go_sem, h2, h3, e0, e1, ReadEnd, hE, eb]
def Pass (l r : List UInt8) (minus : Bool) : Prop :=
  readL l = if r.all isDig = false then (0, 10) else if (if minus then 9223372036854775808 else 9223372036854775807) < decVal r then (0, 10) else (if minus then -(decVal r : Int) else (decVal r : Int), 0)
theorem pass_bad {l r : List UInt8} {minus : Bool} (h : Pass l r minus) (hb : false = r.all isDig) : readL l = (0, 10) := by
  rw [h, if_pos hb.symm]
theorem pass_big {l r : List UInt8} {minus : Bool} (h : Pass l r minus) (hb : true = r.all isDig) (n : Int) (hn : n = (decVal r % 18446744073709551616 : Nat)) (hr : r.length ≤ 19) (hg : (if minus then 9223372036854775808 else 9223372036854775807) < n) : readL l = (0, 10) := by
  have h1 := decVal_lt r hb.symm
  have h2 : 10 ^ r.length ≤ 10 ^ 19 := Nat.pow_le_pow_right (by omega) hr
  rw [h, if_neg (by rw [← hb]; simp)]
  cases minus
  · rw [if_pos]; simp at hg ⊢; omega
  · rw [if_pos]; simp at hg ⊢; omega
theorem pass_ok {l r : List UInt8} {minus : Bool} (h : Pass l r minus) (hb : true = r.all isDig) (n : Int) (hn : n = (decVal r % 18446744073709551616 : Nat)) (hr : r.length ≤ 19) (hg : ¬ (if minus then 9223372036854775808 else 9223372036854775807) < n) :
    readL l = (if minus then wrap64 (-wrap64 n) else wrap64 n, 0) := by
  have h1 := decVal_lt r hb.symm
  have h2 : 10 ^ r.length ≤ 10 ^ 19 := Nat.pow_le_pow_right (by omega) hr
  rw [h, if_neg (by rw [← hb]; simp)]
  cases minus
  · rw [if_neg (by simp at hg ⊢; omega)]
    simp at hg ⊢
    unfold wrap64
    omega
  · rw [if_neg (by simp at hg ⊢; omega)]
    simp at hg ⊢
    unfold wrap64
    omega
theorem nat_mod_lt (a : Nat) : 0 ≤ ((a % 18446744073709551616 : Nat) : Int) := by omega
set_option maxHeartbeats 1600000 in
theorem read_pass (s : ByteArray) (w : World) (rest : ByteArray) (minus : Bool) (hcut : cutL s 45 = (rest, minus)) (h0 : rest.toList.isEmpty = false) (h0' : ¬ rest.toList = []) (hp : 0 < rest.size) (h1 : rest.size ≤ 19)
    (hz : (rest[0]'hp).toNat = 48 → (!s.toList == [48]) = false) (hP : Pass s.data.toList rest.data.toList minus) :
    Calls Try.prog 32 #[.string s] w (ReadEnd s w) := by
  have hmf : ∀ (fn : Fn) (first cap : Array Value) (w : World), (Instr.makeFunc fn first cap).run Try.prog w = .ok (.func fn first cap) w := fun _ _ _ _ => rfl
  have hlen : rest.data.toList.length ≤ 19 := by simpa using h1
  have HLEN := Lib.hid hlen
  have HP := Lib.hid hP
  have HC := Lib.hid (cut_any s 45)
  rw [hcut] at HC
  clear hcut hP hlen
  by_cases h2 : (rest[0]'hp).toNat = 48
  all_goals
    first | have hz' := hz h2 | skip
    clear hz
    cases minus
    · go_enter_defers Try.func32, Try.ntmps32
      go_wp2_with (go_at_call 24; refine (HC.out _).mono ?_; rintro e w' ⟨rfl, rfl⟩)
      refine (digits_any rest _).mono ?_
      rintro e w1 ⟨n, b, rfl, hb, hb1, hb2⟩
      have HB1 := Lib.hid hb1
      have HB2 := Lib.hid hb2
      clear hb1 hb2
      obtain ⟨c0, c1, f0, f1, hB⟩ := two_cells hb
      clear hb
      cases b
      · go_wp2
        refine wp_at (Facts w 10 _) (by refine ⟨by simp [cell_set, c0]; rfl, by simp [cell_set, c1], by simp [f0], by simp [f1], ?_⟩; first | exact ((hB.setCell (by simp) _).setCell (by simp) _).setCell (by simp) _ | exact (hB.setCell (by simp) _).setCell (by simp) _) ?_
        rintro W ⟨d0, d1, g0, g1, hb⟩
        go_region
        all_goals go_wp2
        all_goals refine read_door s w _ 10 _ _ rfl rfl (by refine ⟨by simp [cell_set, d0]; rfl, by simp [cell_set, d1], by simp [g0], by simp [g1], ?_⟩; exact ((hb.setCell (by simp) _).setCell (by simp) _).drew) ?_
        all_goals exact pass_bad HP.out HB1.out
      · by_cases hg : (if (false : Bool) then (9223372036854775808 : Int) else 9223372036854775807) < n
        · have HG := Lib.hid hg
          simp at hg
          go_wp2
          refine wp_at (Facts w 10 _) (by refine ⟨by simp [cell_set, c0]; rfl, by simp [cell_set, c1], by simp [f0], by simp [f1], ?_⟩; first | exact ((hB.setCell (by simp) _).setCell (by simp) _).setCell (by simp) _ | exact (hB.setCell (by simp) _).setCell (by simp) _) ?_
          rintro W ⟨d0, d1, g0, g1, hb⟩
          go_region
          all_goals go_wp2
          all_goals refine read_door s w _ 10 _ _ rfl rfl (by refine ⟨by simp [cell_set, d0]; rfl, by simp [cell_set, d1], by simp [g0], by simp [g1], ?_⟩; exact ((hb.setCell (by simp) _).setCell (by simp) _).drew) ?_
          all_goals exact pass_big HP.out HB1.out n (HB2.out (by trivial)) HLEN.out HG.out
        · have HG := Lib.hid hg
          simp at hg
          go_wp2
          refine wp_at (Facts w 0 _) (by refine ⟨by simp [cell_set, c0]; rfl, by simp [cell_set, c1], by simp [f0], by simp [f1], ?_⟩; first | exact (hB.setCell (by simp) _).setCell (by simp) _ | exact hB.setCell (by simp) _) ?_
          rintro W ⟨d0, d1, g0, g1, hb⟩
          go_region
          all_goals go_wp2
          all_goals refine read_door s w _ 0 _ _ rfl rfl (by refine ⟨by simp [cell_set, d0]; rfl, by simp [cell_set, d1], by simp [g0], by simp [g1], ?_⟩; exact ((hb.setCell (by simp) _).setCell (by simp) _).drew) ?_
          all_goals exact pass_ok HP.out HB1.out n (HB2.out (by trivial)) HLEN.out (fun h => by have h1 := HG.out; simp at h h1; omega)
    · go_enter_defers Try.func32, Try.ntmps32
      go_wp2_with (go_at_call 24; refine (HC.out _).mono ?_; rintro e w' ⟨rfl, rfl⟩)
      refine (digits_any rest _).mono ?_
      rintro e w1 ⟨n, b, rfl, hb, hb1, hb2⟩
      have HB1 := Lib.hid hb1
      have HB2 := Lib.hid hb2
      clear hb1 hb2
      obtain ⟨c0, c1, f0, f1, hB⟩ := two_cells hb
      clear hb
      cases b
      · go_wp2
        refine wp_at (Facts w 10 _) (by refine ⟨by simp [cell_set, c0]; rfl, by simp [cell_set, c1], by simp [f0], by simp [f1], ?_⟩; first | exact ((hB.setCell (by simp) _).setCell (by simp) _).setCell (by simp) _ | exact (hB.setCell (by simp) _).setCell (by simp) _) ?_
        rintro W ⟨d0, d1, g0, g1, hb⟩
        go_region
        all_goals go_wp2
        all_goals refine read_door s w _ 10 _ _ rfl rfl (by refine ⟨by simp [cell_set, d0]; rfl, by simp [cell_set, d1], by simp [g0], by simp [g1], ?_⟩; exact ((hb.setCell (by simp) _).setCell (by simp) _).drew) ?_
        all_goals exact pass_bad HP.out HB1.out
      · by_cases hg : (if (true : Bool) then (9223372036854775808 : Int) else 9223372036854775807) < n
        · have HG := Lib.hid hg
          simp at hg
          go_wp2
          refine wp_at (Facts w 10 _) (by refine ⟨by simp [cell_set, c0]; rfl, by simp [cell_set, c1], by simp [f0], by simp [f1], ?_⟩; first | exact ((hB.setCell (by simp) _).setCell (by simp) _).setCell (by simp) _ | exact (hB.setCell (by simp) _).setCell (by simp) _) ?_
          rintro W ⟨d0, d1, g0, g1, hb⟩
          go_region
          all_goals go_wp2
          all_goals refine read_door s w _ 10 _ _ rfl rfl (by refine ⟨by simp [cell_set, d0]; rfl, by simp [cell_set, d1], by simp [g0], by simp [g1], ?_⟩; exact ((hb.setCell (by simp) _).setCell (by simp) _).drew) ?_
          all_goals exact pass_big HP.out HB1.out n (HB2.out (by trivial)) HLEN.out HG.out
        · have HG := Lib.hid hg
          simp at hg
          go_wp2
          refine wp_at (Facts w 0 _) (by refine ⟨by simp [cell_set, c0]; rfl, by simp [cell_set, c1], by simp [f0], by simp [f1], ?_⟩; first | exact (hB.setCell (by simp) _).setCell (by simp) _ | exact hB.setCell (by simp) _) ?_
          rintro W ⟨d0, d1, g0, g1, hb⟩
          go_region
          all_goals go_wp2
          all_goals refine read_door s w _ 0 _ _ rfl rfl (by refine ⟨by simp [cell_set, d0]; rfl, by simp [cell_set, d1], by simp [g0], by simp [g1], ?_⟩; exact ((hb.setCell (by simp) _).setCell (by simp) _).drew) ?_
          all_goals exact pass_ok HP.out HB1.out n (HB2.out (by trivial)) HLEN.out (fun h => by have h1 := HG.out; simp at h h1; omega)

theorem early_end (s : ByteArray) (w : World) (tmps : Array Value) (h2 : tmps[2]? = some (.pointer (some ⟨w.heap.size, 0, none⟩))) (h3 : tmps[3]? = some (.pointer (some ⟨w.heap.size + 1, 0, none⟩))) (hE : readL s.data.toList = (0, 10)) {ta tb : Nat} :
    bodyPostD Try.prog Try.f32 (ReadEnd s w) Exit.ret { tmps := tmps, defers := [{ target := Target.fn (Fn.func 38) #[.pointer (some ⟨w.heap.size + 1, 0, none⟩), .pointer (some ⟨w.heap.size, 0, none⟩)], args := #[] }] } ((w.alloc (.cells #[.int .i64 0] ta)).alloc (.cells #[.int .i64 10] tb)) := by
  obtain ⟨c0, c1, f0, f1, hB⟩ := two_cells (w := w) (ta := ta) (tb := tb) (a := .int .i64 0) (b := .int .i64 10) (Below.refl _ _)
  exact read_door s w _ 10 0 tmps h2 h3 ⟨c0, c1, f0, f1, hB⟩ (by rw [hE]; rfl)
set_option maxHeartbeats 800000 in
theorem read_empty (s : ByteArray) (w : World) (rest : ByteArray) (minus : Bool) (hcut : cutL s 45 = (rest, minus)) (h0 : rest.toList.isEmpty = true) (h0' : rest.toList = []) (hE : readL s.data.toList = (0, 10)) :
    Calls Try.prog 32 #[.string s] w (ReadEnd s w) := by
  have hmf : ∀ (fn : Fn) (first cap : Array Value) (w : World), (Instr.makeFunc fn first cap).run Try.prog w = .ok (.func fn first cap) w := fun _ _ _ _ => rfl
  have HE := Lib.hid hE
  have HC := Lib.hid (cut_any s 45)
  rw [hcut] at HC
  clear hcut hE
  go_enter_defers Try.func32, Try.ntmps32
  go_wp2_with (go_at_call 24; refine (HC.out _).mono ?_; rintro e w' ⟨rfl, rfl⟩)
  exact early_end s w _ rfl rfl HE.out
set_option maxHeartbeats 800000 in
theorem read_long (s : ByteArray) (w : World) (rest : ByteArray) (minus : Bool) (hcut : cutL s 45 = (rest, minus)) (h0 : rest.toList.isEmpty = false) (h0' : ¬ rest.toList = []) (h1 : ¬ rest.size ≤ 19) (hE : readL s.data.toList = (0, 10)) :
    Calls Try.prog 32 #[.string s] w (ReadEnd s w) := by
  have hmf : ∀ (fn : Fn) (first cap : Array Value) (w : World), (Instr.makeFunc fn first cap).run Try.prog w = .ok (.func fn first cap) w := fun _ _ _ _ => rfl
  have HE := Lib.hid hE
  have HC := Lib.hid (cut_any s 45)
  rw [hcut] at HC
  clear hcut hE
  have h2 : 19 < rest.size := by omega
  clear h1
  go_enter_defers Try.func32, Try.ntmps32
  go_wp2_with (go_at_call 24; refine (HC.out _).mono ?_; rintro e w' ⟨rfl, rfl⟩)
  exact early_end s w _ rfl rfl HE.out
set_option maxHeartbeats 800000 in
theorem read_zero (s : ByteArray) (w : World) (rest : ByteArray) (minus : Bool) (hcut : cutL s 45 = (rest, minus)) (h0 : rest.toList.isEmpty = false) (h0' : ¬ rest.toList = []) (hp : 0 < rest.size) (h1 : rest.size ≤ 19)
    (h2 : (rest[0]'hp).toNat = 48) (hz : (!s.toList == [48]) = true) (hE : readL s.data.toList = (0, 10)) :
    Calls Try.prog 32 #[.string s] w (ReadEnd s w) := by
  have hmf : ∀ (fn : Fn) (first cap : Array Value) (w : World), (Instr.makeFunc fn first cap).run Try.prog w = .ok (.func fn first cap) w := fun _ _ _ _ => rfl
  have HE := Lib.hid hE
  have HC := Lib.hid (cut_any s 45)
  rw [hcut] at HC
  clear hcut hE
  go_enter_defers Try.func32, Try.ntmps32
  go_wp2_with (go_at_call 24; refine (HC.out _).mono ?_; rintro e w' ⟨rfl, rfl⟩)
  exact early_end s w _ rfl rfl HE.out
theorem cutL_fst (s : ByteArray) (c : UInt8) : (cutL s c).1.data.toList = if s.data.toList.head? = some c then s.data.toList.tail else s.data.toList := by
  unfold cutL
  split
  · rw [Lib.extract_to_end]; cases s.data.toList <;> rfl
  · rfl
theorem cutL_snd (s : ByteArray) (c : UInt8) : (cutL s c).2 = (s.data.toList.head? == some c) := by
  unfold cutL
  split
  · rename_i h; rw [h]; simp
  · rename_i h; symm; rw [beq_eq_false_iff_ne]; exact h
theorem read_any (s : ByteArray) (w : World) : Calls Try.prog 32 #[.string s] w (ReadEnd s w) := by
  obtain ⟨rest, minus, hcut⟩ : ∃ r m, cutL s 45 = (r, m) := ⟨_, _, rfl⟩
  have hf := cutL_fst s 45
  have hs := cutL_snd s 45
  rw [hcut] at hf hs
  simp only at hf hs
  have hr : (if minus then s.data.toList.tail else s.data.toList) = rest.data.toList := by
    rw [hs, hf]
    by_cases h : s.data.toList.head? = some 45
    · rw [if_pos h, if_pos (by rw [h]; rfl)]
    · rw [if_neg h, if_neg (by rw [beq_iff_eq]; exact h)]
  have hread : readL s.data.toList = if rest.data.toList = [] ∨ 19 < rest.data.toList.length ∨ (rest.data.toList.head? = some 48 ∧ s.data.toList ≠ [48]) then (0, 10)
      else if rest.data.toList.all isDig = false then (0, 10)
      else if (if minus then 9223372036854775808 else 9223372036854775807) < decVal rest.data.toList then (0, 10)
      else (if minus then -(decVal rest.data.toList : Int) else (decVal rest.data.toList : Int), 0) := by
    unfold readL
    simp only [← hs, hr]
  have hl : rest.data.toList.length = rest.size := by simp
  by_cases h0 : rest.data.toList = []
  · exact read_empty s w rest minus hcut (by rw [ByteArray.toList_eq, h0]; rfl) (by rw [ByteArray.toList_eq, h0]) (by rw [hread, if_pos (.inl h0)])
  have e0 : rest.toList.isEmpty = false := by rw [ByteArray.toList_eq]; cases h : rest.data.toList with | nil => exact absurd h h0 | cons => rfl
  have e1 : ¬ rest.toList = [] := by rw [ByteArray.toList_eq]; exact h0
  have hp : 0 < rest.size := by rw [← hl]; exact List.length_pos_iff.2 h0
  by_cases h1 : rest.size ≤ 19
  · have hh := head_get hp
    by_cases h2 : rest.data.toList.head? = some 48 ∧ s.data.toList ≠ [48]
    · have h3 : rest[0]'hp = 48 := by have := h2.1; rw [hh] at this; exact Option.some.inj this
      exact read_zero s w rest minus hcut e0 e1 hp h1 (by rw [h3]; rfl) (by rw [ByteArray.toList_eq]; simp [h2.2]) (by rw [hread, if_pos (.inr (.inr h2))])
    · refine read_pass s w rest minus hcut e0 e1 hp h1 (fun h3 => ?_) (by rw [Pass, hread, if_neg]; intro h; rcases h with h | h | h; exact h0 h; omega; exact h2 h)
      have h4 : rest[0]'hp = 48 := UInt8.toNat_inj.1 h3
      have h5 : rest.data.toList.head? = some 48 := by rw [hh, h4]
      have h6 : s.data.toList = [48] := Classical.byContradiction fun h => h2 ⟨h5, h⟩
      rw [ByteArray.toList_eq, h6]; rfl
  · exact read_long s w rest minus hcut e0 e1 h1 (by rw [hread, if_pos (.inr (.inl (by omega)))])
/- The contract in the print's form. -/
def num_Read.f (a0 : ByteArray) : Option (Int × Int) := some (readL a0.data.toList)
theorem num_Read.calls (a0 : ByteArray) (r1 : Int) (r2 : Int) (w : World) (h : num_Read.f a0 = some (r1, r2)) :
    Calls Try.prog 32 #[.string a0] w fun e w' => e = .returned (.tuple #[.int .i64 r1, .int .i64 r2]) ∧ Below w.heap.size w w' := by
  have h' : readL a0.data.toList = (r1, r2) := Option.some.inj h
  refine (read_any a0 w).mono ?_
  rintro e w' ⟨rfl, hb⟩
  rw [h']
  exact ⟨rfl, hb⟩
end Go.Proofs.Ytcildbgckgodhab
