/- strings.ContainsAny of any bytes at the set " \\t\\r\\n#". -/
import Derived.Test.YtcildbgckgodhabJoin
import Derived.Test.YtcildbgckgodhabRuneT
import Derived.Lib.OthersKept
import Derived.Deep.LoopGhost
namespace Go.Proofs.Ytcildbgckgodhab
open Go.RowKit Go.Shelf Go.Proofs.YtcildbgckgodhabW.PrintWords Go.Proofs.YtcildbgckgodhabW.PrintLast
set_option linter.unusedVariables false
set_option linter.unusedSimpArgs false
theorem set_small : ∀ b ∈ setB.data.toList, b.toNat < 128 := by decide
theorem should_any (n : Int) (b : Bool) (h : decide (8 < n) = b) (w : World) : Calls Try.prog 27 #[.int .i64 n] w fun e w' => e = .returned (.bool b) ∧ w' = w :=
  h ▸ Any.strings_shouldUseASCIISet (ρ := Try.lays150_ren) { Try.lays150 with } n w
theorem high_not (x : UInt8) (h : 128 ≤ x.toNat) : setB.data.toList.contains x = false := by
  cases hc : setB.data.toList.contains x with
  | false => rfl
  | true => have := set_small x (by simpa using hc); omega
theorem rune_high' (r : Int) (h0 : 128 ≤ r) (w : World) :
    Calls Try.prog 26 #[.string setB, .int .i32 r] w fun e w' => e = .returned (.int .i64 (-1)) ∧ Below w.heap.size w w' := rune_high r h0 w
set_option maxRecDepth 1000000 in
set_option maxHeartbeats 1000000 in
theorem index_short (s : ByteArray) (w : World) (h8 : s.size ≤ 8) :
    Calls Try.prog 20 #[.string s, .string setB] w fun e w' => e = .returned (.int .i64 (Lib.indexAny s.data.toList setB.data.toList)) ∧ Below w.heap.size w w' := by
  have hemp : setB.toList.isEmpty = false := by rw [ByteArray.toList_eq]; rfl
  have h8z := should_any s.size false (decide_eq_false (by omega))
  have hn1 : ((setB.size : Int) == 1) = false := rfl
  obtain ⟨c, hcs⟩ : ∃ c, c = setB := ⟨_, rfl⟩
  rw [← hcs] at hemp hn1 ⊢
  have HCS := Lib.hid hcs
  clear hcs
  go_enter Try.func20, Try.ntmps20
  go_wp2_with (go_at_call 27; refine (h8z _).mono ?_; rintro e w' ⟨rfl, hw⟩; rw [hw])
  have HSM := Lib.hid set_small
  go_loopg [9, 10] s.size (fun g _ _ wx => ∃ i : Nat, i + g = s.size ∧ Hid (wx.heap[w.heap.size]? = some (.stringIter s i)) ∧ Below w.heap.size w wx ∧ Hid (Lib.NoAny s.data.toList setB.data.toList i))
  case atStart => exact ⟨0, by omega, World.iter_heap _ _ _, below_alloc (Below.refl _ _) _, Lib.NoAny.zero _ _⟩
  case round =>
    obtain ⟨i, hig, HIT, hbw, HNO⟩ := hrel
    by_cases hi : i < s.size
    · by_cases hx : (s[i]'hi).toNat < 128
      · have hnx := fun ty => Lib.run_next_ascii_at (P := Try.prog) wr w.heap.size s i ty HIT.out hi hx
        obtain ⟨x, hxx⟩ : ∃ x, x = s[i]'hi := ⟨_, rfl⟩
        rw [← hxx] at hnx hx
        have HX := Lib.hid (show s.data.toList[i]? = some x from by rw [hxx]; exact Lib.data_getElem? s i hi)
        have HB := Lib.hid (Lib.below_iterAt hbw (Nat.le_refl _) s (i + 1))
        have HI2 := Lib.hid (Lib.iterAt_heap wr w.heap.size s i (i + 1) HIT.out)
        have HRL := Lib.hid (fun W => HCS.out ▸ rune_low x.toNat hx W)
        have hback : x.toNat.toUInt8 = x := by simp
        rw [hback] at HRL
        have hcon := Lib.contains_iff_indexByte c.data.toList x
        clear hxx hback
        have hsz : w.heap.size < (wr.iterAt w.heap.size s (i + 1)).heap.size := by rw [Lib.iterAt_size]; exact (Array.getElem?_eq_some_iff.1 HIT.out).1
        cases hin : c.data.toList.contains x
        · rw [hin] at hcon
          have hlt : ¬ ((0 : Int) ≤ Lib.indexByte c.data.toList x) := of_decide_eq_false hcon.symm
          rw [HCS.out] at hin
          have HIN := Lib.hid hin
          clear hcon hin
          go_wp2_with (go_at_call 26; refine (HRL.out _).mono ?_; rintro e w' ⟨rfl, hw⟩; rw [hw])
          go_roundg (s.size - (i + 1))
          case measure => omega
          case rel => exact ⟨i + 1, by omega, HI2.out, HB.out, HNO.out.succ HX.out HIN.out⟩
        · rw [hin] at hcon
          have hge : (0 : Int) ≤ Lib.indexByte c.data.toList x := of_decide_eq_true hcon.symm
          rw [HCS.out] at hin
          have HIN := Lib.hid hin
          clear hcon hin
          go_wp2_with (go_at_call 26; refine (HRL.out _).mono ?_; rintro e w' ⟨rfl, hw⟩; rw [hw])
          go_ret
          exact ⟨by rw [HCS.out, Lib.indexAny_hit HNO.out HX.out HIN.out]; rfl, HB.out⟩
      · have hnx := fun ty => Lib.run_next_any_at (P := Try.prog) wr w.heap.size s i ty HIT.out hi
        have hdh := (decode_high s i hi (by omega)).1
        have hcv := Lib.hid (decode_covers s i hi (by omega))
        obtain ⟨r, hr⟩ : ∃ r, r = Utf8.decode s i := ⟨_, rfl⟩
        rw [← hr] at hnx hdh hcv
        have HB := Lib.hid (Lib.below_iterAt hbw (Nat.le_refl _) s (i + r.2))
        have HI2 := Lib.hid (Lib.iterAt_heap wr w.heap.size s i (i + r.2) HIT.out)
        have hsz : w.heap.size < (wr.iterAt w.heap.size s (i + r.2)).heap.size := by rw [Lib.iterAt_size]; exact (Array.getElem?_eq_some_iff.1 HIT.out).1
        clear hr
        have HRH := Lib.hid (fun W => HCS.out ▸ rune_high' (r.1 : Int) (by omega) W)
        have HSZ := Lib.hid hsz
        clear hsz
        go_wp2_with (go_at_call 26; refine (HRH.out _).mono ?_; rintro e w' ⟨rfl, hb'⟩; have HB' := Lib.hid hb'; clear hb')
        go_roundg (s.size - (i + r.2))
        case measure => have := hcv.out.1; have := hcv.out.2.1; omega
        case rel => exact ⟨i + r.2, by have := hcv.out.2.1; omega, (HB'.out.block _ HSZ.out).trans HI2.out, HB.out.trans (HB'.out.mono HB.out.size), noAny_covers HSM.out HNO.out hcv.out⟩
    · obtain rfl : i = s.size := by omega
      have hnx := Lib.run_next_end_at (P := Try.prog) wr w.heap.size s s.size
      have hnx := fun ty => hnx ty HIT.out (by omega)
      go_wp2
      go_ret
      exact ⟨by rw [HCS.out, Lib.indexAny_none (by rw [← Lib.size_eq]; exact HNO.out)]; rfl, hbw⟩
theorem index_any (s : ByteArray) (w : World) (hs : s.size < 4294967281) :
    Calls Try.prog 20 #[.string s, .string setB] w fun e w' => e = .returned (.int .i64 (Lib.indexAny s.data.toList setB.data.toList)) ∧ Below w.heap.size w w' := by
  by_cases h8 : s.size ≤ 8
  · exact index_short s w h8
  · have hz := zero_of_info set150
    refine (Any.strings_IndexAny_long (ρ := Try.lays150_ren) { Try.lays150 with } hz.1 hz.2 s setB w (by decide) (by omega) hs (by decide) (fun j b hj => set_small b (List.mem_of_getElem? hj))).mono ?_
    rintro e w' ⟨h1, h2⟩
    refine ⟨h1, ?_⟩
    rw [h2]
    exact ((Below.refl _ _).alloc (Nat.le_refl _) _).alloc (by simp) _
theorem contains_any (s : ByteArray) (hs : s.size < 4294967281) : GoodCall s := by
  intro w
  have c := Lib.hid (fun w => index_any s w hs)
  unfold badW Lib.containsAny
  have hset : (⟨#[32, 9, 13, 10, 35]⟩ : ByteArray) = setB := rfl
  rw [hset]
  go_enter Try.func11, Try.ntmps11
  go_wp2_with (go_at_call 20; refine (c.out _).mono ?_; rintro e w' ⟨rfl, hw⟩)
  go_ret
  exact ⟨rfl, hw⟩
end Go.Proofs.Ytcildbgckgodhab
namespace Go.Proofs.Ytcildbgckgodhab
open Go.RowKit Go.Proofs.YtcildbgckgodhabW.PrintWords Go.Proofs.YtcildbgckgodhabW.PrintLast
set_option linter.unusedVariables false
set_option linter.unusedSimpArgs false
theorem any_cons (b : UInt8) (l c : List UInt8) : Lib.containsAny (b :: l) c = (c.contains b || Lib.containsAny l c) := by
  unfold Lib.containsAny
  rw [Lib.indexAny]
  have h := Lib.indexAny_ge c l
  cases c.contains b with
  | true => simp
  | false =>
    simp only [Bool.false_eq_true, if_false, Bool.false_or]
    by_cases e : Lib.indexAny l c = -1
    · rw [e]; rfl
    · rw [if_neg (by simpa using e)]
      exact decide_eq_decide.2 (by omega)
theorem in_set (b : UInt8) : setB.data.toList.contains b = true ↔ (b = 32 ∨ b = 9 ∨ b = 13 ∨ b = 10 ∨ b = 35) := by
  have e : setB.data.toList = [32, 9, 13, 10, 35] := rfl
  rw [e]; simp
end Go.Proofs.Ytcildbgckgodhab
