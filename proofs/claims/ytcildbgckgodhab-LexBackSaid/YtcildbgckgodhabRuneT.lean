/- strings.IndexRune at the set " \t\r\n#" and a rune of 128 or more: -1. -/
import Derived.Laws.RangeAny
import Derived.Lib.OthersKept
import Derived.Lib.IndexAny
import Derived.Test.YtcildbgckgodhabBld
import Derived.WalkKit
import Derived.WalkSpells
import Derived.WalkLawsBesides
import Derived.Lib.Hide
import Derived.Deep.QuietTactic
import Derived.BigQuiet
import Derived.Shelf.Small.Strs
import Derived.Test.YtcildbgckgodhabWMore
import Derived.Below
import Derived.Deep.LoopGhost
import Derived.Laws.RangeString
namespace Go.Proofs.Ytcildbgckgodhab
open Go
set_option linter.unusedVariables false
set_option linter.unusedSimpArgs false
def Covers (s : ByteArray) (pos n : Nat) : Prop := 1 ≤ n ∧ pos + n ≤ s.size ∧ ∀ j, j < n → ∀ h : pos + j < s.size, 128 ≤ (s[pos + j]'h).toNat
theorem get_k (s : ByteArray) (i : Nat) (h : i < s.size) : s.get! i = s[i]'h := by
  simp [ByteArray.get!, getElem!_pos, h]
  rfl
theorem Covers.one (s : ByteArray) (pos : Nat) (h : pos < s.size) (ha : 128 ≤ (s[pos]'h).toNat) : Covers s pos 1 :=
  ⟨Nat.le_refl _, by omega, fun j hj h' => by obtain rfl : j = 0 := by omega
                                              exact ha⟩
theorem Covers.more {s : ByteArray} {pos n : Nat} (hc : Covers s pos n) (h : (decide (pos + n < s.size) && (s.get! (pos + n)).toNat / 64 == 2) = true) : Covers s pos (n + 1) := by
  rw [Bool.and_eq_true] at h
  have h1 : pos + n < s.size := of_decide_eq_true h.1
  have h2 : (s.get! (pos + n)).toNat / 64 = 2 := by simpa using h.2
  rw [get_k s _ h1] at h2
  refine ⟨by omega, by omega, fun j hj h' => ?_⟩
  by_cases e : j = n
  · subst e; omega
  · exact hc.2.2 j (by omega) h'
theorem decode_covers (s : ByteArray) (pos : Nat) (h : pos < s.size) (ha : 128 ≤ (s[pos]'h).toNat) : Covers s pos (Utf8.decode s pos).2 := by
  have hn : ¬ (s[pos]'h).toNat < 128 := by omega
  have p1 := Covers.one s pos h ha
  simp only [Utf8.decode, get_at s pos h, hn, if_false]
  repeat' split
  all_goals first
    | exact p1
    | (rename_i h1 _; simp only [Bool.and_eq_true] at h1; exact p1.more (by simp only [Bool.and_eq_true]; exact h1.2))
    | (rename_i h1 _; simp only [Bool.and_eq_true] at h1; exact (p1.more (by simp only [Bool.and_eq_true]; exact h1.1.2)).more (by simp only [Bool.and_eq_true]; exact h1.2))
    | (rename_i h1 _; simp only [Bool.and_eq_true] at h1; exact ((p1.more (by simp only [Bool.and_eq_true]; exact h1.1.1.2)).more (by simp only [Bool.and_eq_true]; exact h1.1.2)).more (by simp only [Bool.and_eq_true]; exact h1.2))
theorem noAny_covers {s : ByteArray} {chars : List UInt8} {pos n : Nat} (hch : ∀ b ∈ chars, b.toNat < 128) (hn : Lib.NoAny s.data.toList chars pos) (hc : Covers s pos n) : Lib.NoAny s.data.toList chars (pos + n) := by
  intro j b hj hb
  by_cases h : j < pos
  · exact hn j b h hb
  · obtain ⟨h1, h2, h3⟩ := hc
    have hlt : j < s.size := by omega
    have hg := h3 (j - pos) (by omega) (by omega)
    have he : pos + (j - pos) = j := by omega
    simp only [he] at hg
    have hb2 : s[j]'hlt = b := by
      have := hb
      rw [List.getElem?_eq_getElem (by simpa using hlt)] at this
      have h5 := Option.some.inj this
      simp only [Array.getElem_toList] at h5
      exact h5
    rw [hb2] at hg
    cases hcon : chars.contains b with
    | false => rfl
    | true => have := hch b (by simpa using hcon); omega
end Go.Proofs.Ytcildbgckgodhab
namespace Go.Proofs.Ytcildbgckgodhab
open Go.RowKit Go.Shelf Go.Proofs.YtcildbgckgodhabW.PrintWords Go.Proofs.YtcildbgckgodhabW.PrintLast
set_option linter.unusedVariables false
set_option linter.unusedSimpArgs false
shelf_lay Lays.n137 Nm 137 at Try as Try.lays137
theorem valid_is (r : Int) (h0 : 128 ≤ r) (hv : r < 55296 ∨ (57343 < r ∧ r ≤ 1114111)) (w : World) :
    Calls Try.prog 34 #[.int .i32 r] w fun e w' => e = .returned (.bool true) ∧ w' = w := by
  have a1 : decide ((0 : Int) ≤ r) = true := decide_eq_true (by omega)
  by_cases h : r < 55296
  · have a2 : decide (r < 55296) = true := decide_eq_true h
    go_enter Try.func34, Try.ntmps34
    go_wp2
    go_ret
    exact ⟨rfl, rfl⟩
  · have a2 : decide (r < 55296) = false := decide_eq_false h
    have a3 : decide ((57343 : Int) < r) = true := decide_eq_true (by omega)
    have a4 : decide (r ≤ 1114111) = true := decide_eq_true (by omega)
    go_enter Try.func34, Try.ntmps34
    go_wp2
    go_ret
    exact ⟨rfl, rfl⟩
theorem valid_not (r : Int) (h0 : 128 ≤ r) (hv : (55296 ≤ r ∧ r ≤ 57343) ∨ 1114111 < r) (w : World) :
    Calls Try.prog 34 #[.int .i32 r] w fun e w' => e = .returned (.bool false) ∧ w' = w := by
  have a1 : decide ((0 : Int) ≤ r) = true := decide_eq_true (by omega)
  have a2 : decide (r < 55296) = false := decide_eq_false (by omega)
  by_cases h : 57343 < r
  · have a3 : decide ((57343 : Int) < r) = true := decide_eq_true (by omega)
    have a4 : decide (r ≤ 1114111) = false := decide_eq_false (by omega)
    go_enter Try.func34, Try.ntmps34
    go_wp2
    go_ret
    exact ⟨rfl, rfl⟩
  · have a3 : decide ((57343 : Int) < r) = false := decide_eq_false (by omega)
    go_enter Try.func34, Try.ntmps34
    go_wp2
    go_ret
    exact ⟨rfl, rfl⟩
set_option maxRecDepth 100000 in
theorem rune_bad (r : Int) (h0 : 128 ≤ r) (hv : (55296 ≤ r ∧ r ≤ 57343) ∨ 1114111 < r) (w : World) :
    Calls Try.prog 26 #[.string ⟨#[32, 9, 13, 10, 35]⟩, .int .i32 r] w fun e w' => e = .returned (.int .i64 (-1)) ∧ w' = w := by
  have a1 : decide ((0 : Int) ≤ r) = true := decide_eq_true (by omega)
  have a2 : decide (r < 128) = false := decide_eq_false (by omega)
  have he1 : (r == 65533) = false := beq_eq_false_iff_ne.2 (by omega)
  go_enter Try.func26, Try.ntmps26
  go_wp2_with (go_at_call 34; refine (valid_not r h0 hv _).mono ?_; rintro e w' ⟨rfl, rfl⟩)
  go_ret
  exact ⟨rfl, rfl⟩
theorem cv (W : World) (r : Int) : Sem.run Try.prog (convert 21 9 (.int .i32 r)) W = Result.ok (.string (Utf8.encode r)) W := by
  simp [convert, run_underlying Try.underlying21, run_underlying Try.underlying9, Conv.intToString]
theorem enc_shape (r : Int) (h0 : 128 ≤ r) (hv : r < 55296 ∨ (57343 < r ∧ r ≤ 1114111)) :
    (∃ a b : UInt8, Utf8.encode r = ⟨#[a, b]⟩ ∧ 128 ≤ b.toNat) ∨ (∃ a b c : UInt8, Utf8.encode r = ⟨#[a, b, c]⟩ ∧ 128 ≤ c.toNat) ∨ (∃ a b c d : UInt8, Utf8.encode r = ⟨#[a, b, c, d]⟩ ∧ 128 ≤ d.toNat) := by
  have hval : Utf8.valid r = true := by unfold Utf8.valid; simp; omega
  have hb : ∀ m : Nat, 128 ≤ (UInt8.ofNat (0x80 + m % 64)).toNat := fun m => by simp; omega
  unfold Utf8.encode
  simp only [hval, if_true]
  by_cases c1 : r.toNat < 0x80
  · omega
  · rw [if_neg c1]
    by_cases c2 : r.toNat < 0x800
    · rw [if_pos c2]
      exact .inl ⟨_, _, rfl, hb _⟩
    · rw [if_neg c2]
      by_cases c3 : r.toNat < 0x10000
      · rw [if_pos c3]
        exact .inr (.inl ⟨_, _, _, rfl, hb _⟩)
      · rw [if_neg c3]
        exact .inr (.inr ⟨_, _, _, _, rfl, hb _⟩)
theorem ib_none : ∀ (l : List UInt8) (x : UInt8), (∀ b ∈ l, b ≠ x) → Lib.indexByte l x = -1
  | [], _, _ => rfl
  | b :: l, x, h => by
    have ih := ib_none l x (fun c hc => h c (List.mem_cons_of_mem _ hc))
    have hb : (b == x) = false := by simpa using h b List.mem_cons_self
    rw [Lib.indexByte, hb, ih]
    rfl
theorem ib_neg (s : ByteArray) (c : Int) (w : World) (h : Lib.indexByte s.data.toList c.toNat.toUInt8 = -1) :
    Calls Try.prog 33 #[.string s, .int .u8 c] w fun e w' => e = .returned (.int .i64 (-1)) ∧ w' = w := by
  refine (Any.strings_IndexByte Try.lays137 s c w).mono ?_
  rintro e w' ⟨rfl, rfl⟩
  rw [h]
  exact ⟨rfl, rfl⟩
set_option maxRecDepth 100000 in
theorem rune_good2 (r : Int) (h0 : 128 ≤ r) (he : r ≠ 65533) (hv : r < 55296 ∨ (57343 < r ∧ r ≤ 1114111)) (a b : UInt8) (hrs : Utf8.encode r = ⟨#[a, b]⟩) (hlast : 128 ≤ b.toNat) (w : World) :
    Calls Try.prog 26 #[.string ⟨#[32, 9, 13, 10, 35]⟩, .int .i32 r] w fun e w' => e = .returned (.int .i64 (-1)) ∧ Below w.heap.size w w' := by
  have a1 : decide ((0 : Int) ≤ r) = true := decide_eq_true (by omega)
  have a2 : decide (r < 128) = false := decide_eq_false (by omega)
  have he1 : (r == 65533) = false := beq_eq_false_iff_ne.2 he
  have hcv := fun W => cv W r
  have hcv2 : ∀ W, Sem.run Try.prog (Conv.intToString r) W = Result.ok (.string (Utf8.encode r)) W := fun W => by simp [Conv.intToString]
  rw [hrs] at hcv
  simp only [hrs] at hcv2
  have n1 : ((((⟨#[32, 9, 13, 10, 35]⟩ : ByteArray)[1]'(by decide)).toNat : Int) != (((⟨#[a, b]⟩ : ByteArray)[1]'(by show 1 < 2; decide)).toNat : Int)) = true := by show ((9 : Int) != (b.toNat : Int)) = true; rw [bne_iff_ne]; omega
  have hw2 : IntKind.i64.wrap (2 : Int) = 2 := by decide
  have HN := Lib.hid (show ∀ x ∈ ((⟨#[32, 9, 13, 10, 35]⟩ : ByteArray).extract 2 5).data.toList, x ≠ ((b.toNat : Int)).toNat.toUInt8 from fun x hx e => by rw [show ((b.toNat : Int)).toNat.toUInt8 = b by simp] at e; subst e; revert hlast; revert hx; exact (show ∀ x ∈ ([13, 10, 35] : List UInt8), 128 ≤ x.toNat → False by decide) x)
  clear hlast
  clear hrs
  go_enter Try.func26, Try.ntmps26
  go_wp2_with (go_at_call 34; refine (valid_is r h0 hv _).mono ?_; rintro e w' ⟨rfl, rfl⟩)
  go_step3
  go_wp2
  go_loopw [9] (fun v9 W => v9 = .int .i64 1 ∧ W = w') (fun _ _ => 0)
  case atStart => exact ⟨rfl, rfl⟩
  case round =>
    obtain ⟨rfl, rfl⟩ := hrel
    go_wp2
    go_step3
    go_wp2
    go_quiet (fail)
    go_wp2_with fail
    go_quiet ((go_at_call 33; exact (ib_neg _ _ _ (ib_none _ _ HN.out)).mono (fun _ _ h => ⟨h.1, _, h.2⟩)))
    go_wp2
    simp +zetaDelta only [Exit.noGoto_ret, Exit.inBlock, Exit.then]
    go_ret
    exact ⟨rfl, pw_below_drewN (Below.refl _ _) _⟩
set_option maxRecDepth 100000 in
theorem rune_good3 (r : Int) (h0 : 128 ≤ r) (he : r ≠ 65533) (hv : r < 55296 ∨ (57343 < r ∧ r ≤ 1114111)) (a b c : UInt8) (hrs : Utf8.encode r = ⟨#[a, b, c]⟩) (hlast : 128 ≤ c.toNat) (w : World) :
    Calls Try.prog 26 #[.string ⟨#[32, 9, 13, 10, 35]⟩, .int .i32 r] w fun e w' => e = .returned (.int .i64 (-1)) ∧ Below w.heap.size w w' := by
  have a1 : decide ((0 : Int) ≤ r) = true := decide_eq_true (by omega)
  have a2 : decide (r < 128) = false := decide_eq_false (by omega)
  have he1 : (r == 65533) = false := beq_eq_false_iff_ne.2 he
  have hcv := fun W => cv W r
  have hcv2 : ∀ W, Sem.run Try.prog (Conv.intToString r) W = Result.ok (.string (Utf8.encode r)) W := fun W => by simp [Conv.intToString]
  rw [hrs] at hcv
  simp only [hrs] at hcv2
  have n1 : ((((⟨#[32, 9, 13, 10, 35]⟩ : ByteArray)[2]'(by decide)).toNat : Int) != (((⟨#[a, b, c]⟩ : ByteArray)[2]'(by show 2 < 3; decide)).toNat : Int)) = true := by show ((13 : Int) != (c.toNat : Int)) = true; rw [bne_iff_ne]; omega
  have hw2 : IntKind.i64.wrap (3 : Int) = 3 := by decide
  have HN := Lib.hid (show ∀ x ∈ ((⟨#[32, 9, 13, 10, 35]⟩ : ByteArray).extract 3 5).data.toList, x ≠ ((c.toNat : Int)).toNat.toUInt8 from fun x hx e => by rw [show ((c.toNat : Int)).toNat.toUInt8 = c by simp] at e; subst e; revert hlast; revert hx; exact (show ∀ x ∈ ([10, 35] : List UInt8), 128 ≤ x.toNat → False by decide) x)
  clear hlast
  clear hrs
  go_enter Try.func26, Try.ntmps26
  go_wp2_with (go_at_call 34; refine (valid_is r h0 hv _).mono ?_; rintro e w' ⟨rfl, rfl⟩)
  go_step3
  go_wp2
  go_loopw [9] (fun v9 W => v9 = .int .i64 2 ∧ W = w') (fun _ _ => 0)
  case atStart => exact ⟨rfl, rfl⟩
  case round =>
    obtain ⟨rfl, rfl⟩ := hrel
    go_wp2
    go_step3
    go_wp2
    go_quiet (fail)
    go_wp2_with fail
    go_quiet ((go_at_call 33; exact (ib_neg _ _ _ (ib_none _ _ HN.out)).mono (fun _ _ h => ⟨h.1, _, h.2⟩)))
    go_wp2
    simp +zetaDelta only [Exit.noGoto_ret, Exit.inBlock, Exit.then]
    go_ret
    exact ⟨rfl, pw_below_drewN (Below.refl _ _) _⟩
set_option maxRecDepth 100000 in
theorem rune_good4 (r : Int) (h0 : 128 ≤ r) (he : r ≠ 65533) (hv : r < 55296 ∨ (57343 < r ∧ r ≤ 1114111)) (a b c d : UInt8) (hrs : Utf8.encode r = ⟨#[a, b, c, d]⟩) (hlast : 128 ≤ d.toNat) (w : World) :
    Calls Try.prog 26 #[.string ⟨#[32, 9, 13, 10, 35]⟩, .int .i32 r] w fun e w' => e = .returned (.int .i64 (-1)) ∧ Below w.heap.size w w' := by
  have a1 : decide ((0 : Int) ≤ r) = true := decide_eq_true (by omega)
  have a2 : decide (r < 128) = false := decide_eq_false (by omega)
  have he1 : (r == 65533) = false := beq_eq_false_iff_ne.2 he
  have hcv := fun W => cv W r
  have hcv2 : ∀ W, Sem.run Try.prog (Conv.intToString r) W = Result.ok (.string (Utf8.encode r)) W := fun W => by simp [Conv.intToString]
  rw [hrs] at hcv
  simp only [hrs] at hcv2
  have n1 : ((((⟨#[32, 9, 13, 10, 35]⟩ : ByteArray)[3]'(by decide)).toNat : Int) != (((⟨#[a, b, c, d]⟩ : ByteArray)[3]'(by show 3 < 4; decide)).toNat : Int)) = true := by show ((10 : Int) != (d.toNat : Int)) = true; rw [bne_iff_ne]; omega
  have hw2 : IntKind.i64.wrap (4 : Int) = 4 := by decide
  have HN := Lib.hid (show ∀ x ∈ ((⟨#[32, 9, 13, 10, 35]⟩ : ByteArray).extract 4 5).data.toList, x ≠ ((d.toNat : Int)).toNat.toUInt8 from fun x hx e => by rw [show ((d.toNat : Int)).toNat.toUInt8 = d by simp] at e; subst e; revert hlast; revert hx; exact (show ∀ x ∈ ([35] : List UInt8), 128 ≤ x.toNat → False by decide) x)
  clear hlast
  clear hrs
  go_enter Try.func26, Try.ntmps26
  go_wp2_with (go_at_call 34; refine (valid_is r h0 hv _).mono ?_; rintro e w' ⟨rfl, rfl⟩)
  go_step3
  go_wp2
  go_loopw [9] (fun v9 W => v9 = .int .i64 3 ∧ W = w') (fun _ _ => 0)
  case atStart => exact ⟨rfl, rfl⟩
  case round =>
    obtain ⟨rfl, rfl⟩ := hrel
    go_wp2
    go_step3
    go_wp2
    go_quiet (fail)
    go_wp2_with fail
    go_quiet ((go_at_call 33; exact (ib_neg _ _ _ (ib_none _ _ HN.out)).mono (fun _ _ h => ⟨h.1, _, h.2⟩)))
    go_wp2
    simp +zetaDelta only [Exit.noGoto_ret, Exit.inBlock, Exit.then]
    go_ret
    exact ⟨rfl, pw_below_drewN (Below.refl _ _) _⟩
set_option maxRecDepth 100000 in
theorem rune_err (c : ByteArray) (hc : ∀ i (h : i < c.size), (c[i]'h).toNat < 128) (w : World) :
    Calls Try.prog 26 #[.string c, .int .i32 65533] w fun e w' => e = .returned (.int .i64 (-1)) ∧ Below w.heap.size w w' := by
  have HC := Lib.hid hc
  clear hc
  go_enter Try.func26, Try.ntmps26
  go_wp2
  go_loopg [4] c.size (fun g _ wx => ∃ i : Nat, i + g = c.size ∧ wx = w.iter c i)
  case atStart => exact ⟨0, by omega, rfl⟩
  case round =>
    obtain ⟨i, hig, rfl⟩ := hrel
    cases gk with
    | zero =>
      obtain rfl : i = c.size := by omega
      have hnx := run_next_end (P := Try.prog) w c c.size
      go_wp2
      go_ret
      exact ⟨rfl, below_alloc (Below.refl _ _) _⟩
    | succ g =>
      have hi : i < c.size := by omega
      have hlt := HC.out i hi
      have hnx := fun ty => run_next_ascii (P := Try.prog) w c i ty hi hlt
      have hne : (((c[i]'hi).toNat : Int) == 65533) = false := by rw [beq_eq_false_iff_ne]; omega
      go_wp2
      go_roundg g
      case measure => omega
      case rel => exact ⟨i + 1, by omega, rfl⟩
theorem set_ascii : ∀ i (h : i < (⟨#[32, 9, 13, 10, 35]⟩ : ByteArray).size), ((⟨#[32, 9, 13, 10, 35]⟩ : ByteArray)[i]'h).toNat < 128 := by decide
theorem rune_high (r : Int) (h0 : 128 ≤ r) (w : World) :
    Calls Try.prog 26 #[.string ⟨#[32, 9, 13, 10, 35]⟩, .int .i32 r] w fun e w' => e = .returned (.int .i64 (-1)) ∧ Below w.heap.size w w' := by
  by_cases he : r = 65533
  · subst he; exact rune_err _ set_ascii w
  · by_cases hv : r < 55296 ∨ (57343 < r ∧ r ≤ 1114111)
    · rcases enc_shape r h0 hv with ⟨a, b, h, hl⟩ | ⟨a, b, c, h, hl⟩ | ⟨a, b, c, d, h, hl⟩
      · exact rune_good2 r h0 he hv a b h hl w
      · exact rune_good3 r h0 he hv a b c h hl w
      · exact rune_good4 r h0 he hv a b c d h hl w
    · refine (rune_bad r h0 (by omega) w).mono ?_
      rintro e w' ⟨rfl, rfl⟩
      exact ⟨rfl, Below.refl _ _⟩
theorem rune_low (x : Nat) (h : x < 128) (w : World) :
    Calls Try.prog 26 #[.string setB, .int .i32 x] w fun e w' => e = .returned (.int .i64 (Lib.indexByte setB.data.toList x.toUInt8)) ∧ w' = w := by
  have := Any.strings_IndexRune_ascii (ρ := Try.lays150_ren) { Try.lays150 with } setB (x : Int) w (by omega) (by omega)
  rw [Int.toNat_natCast] at this
  exact this
end Go.Proofs.Ytcildbgckgodhab
