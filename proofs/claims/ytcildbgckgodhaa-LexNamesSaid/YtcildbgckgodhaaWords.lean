/- The walk of the reference's words of a line. -/
import Derived.Test.YtcildbgckgodhaaProg
import Derived.Test.YtcildbgckgodhaaCut
import Derived.Test.YtcildbgckgodhaaMem
import Derived.Test.YtcildbgckgodhaaWMore
import Derived.WalkKit
import Derived.WalkSpells
import Derived.WalkLawsBesides
import Derived.Lib.Hide
import Derived.Lib.ConvBytes
import Derived.PlainAid
import Derived.Deep.QuietTactic
import Derived.BigQuiet
import Derived.Laws.BytesArg
import Derived.Lib.SlBytesRow
namespace Go.Proofs.Ytcildbgckgodhaa
open Go.RowKit Go.Proofs.Ytcildbgckgodhaa.X Go.Proofs.YtcildbgckgodhaaW.PrintWords Go.Proofs.YtcildbgckgodhaaW.PrintLast Go.Proofs.YtcildbgckgodhaaW.PrintMore
set_option linter.unusedVariables false
set_option linter.unusedSimpArgs false
def blankTo (c : UInt8) : UInt8 := if c = 9 ∨ c = 13 then 32 else c
/-- The words of a line. -/
def wordsL (l : List UInt8) : List ByteArray := ((splitL 32 (((splitL 35 l).headD []).map blankTo)).map mkB).filter (fun x => x.toList != [])
theorem cut_is (s : ByteArray) (c : UInt8) (n : Int) (hn : n = c.toNat) (hs : s.size ≤ 1000000) (w : World) :
    Calls Try.prog 26 #[.string s, .int .u8 n] w fun e w' => ∃ v : Value, e = .returned v ∧ Kd.R Kd.string 9 w' w.heap.size (fun _ => True) v ((splitL c s.data.toList).map mkB) ∧ Below w.heap.size w w' := by
  subst hn
  obtain ⟨k, hk⟩ := (refCut s c hs).rounds
  exact fescueref05_cut.calls k s _ _ w hk
/-- A block whose first cells are bytes. -/
def BR (g : Nat) (ys : List UInt8) (W : World) : Prop :=
  ∃ (rest : List Value) (lo hi : Nat), ys.length ≤ lo ∧ W.heap[g]? = some (.cells ((ys.map fun b => Value.int .u8 b.toNat) ++ rest).toArray 5 (lo, hi))
theorem BR.cell {g ys W} (h : BR g ys W) (j : Nat) (hj : j < ys.length) : W.cell? ⟨g, j, none⟩ = some (.int .u8 (ys[j].toNat)) := by
  obtain ⟨rest, lo, hi, _, hb⟩ := h
  simp [World.cell?, hb, List.getElem?_append_left, hj]
theorem BR.fz {g ys W} (h : BR g ys W) (j : Nat) (hj : j < ys.length) : W.frozen? ⟨g, j, none⟩ = false := by
  obtain ⟨rest, lo, hi, hlo, hb⟩ := h
  simp [World.frozen?, hb]
  omega
theorem BR.set {g ys W} (h : BR g ys W) (j : Nat) (hj : j < ys.length) (c : UInt8) : BR g (ys.set j c) (W.setCell ⟨g, j, none⟩ (.int .u8 c.toNat)) := by
  obtain ⟨rest, lo, hi, hlo, hb⟩ := h
  refine ⟨rest, lo, hi, by simpa using hlo, ?_⟩
  simp only [World.setCell, Array.getElem?_modify, if_true, hb, Option.map_some]
  simp only [Option.isSome_none, Bool.false_eq_true, if_false]
  congr 2
  rw [List.setIfInBounds_toArray, List.set_append_left _ _ (by simpa using hj)]
  simp [List.map_set]
theorem BR.of_block {g ys W W1} (h : BR g ys W) (hb : W1.heap[g]? = W.heap[g]?) : BR g ys W1 := by
  obtain ⟨rest, lo, hi, h1, h2⟩ := h
  exact ⟨rest, lo, hi, h1, hb.trans h2⟩
theorem BR.of_conv (w : World) (s : ByteArray) : BR w.heap.size s.data.toList (Lib.bytesWorld w 5 s) := by
  refine ⟨List.replicate (grownCap w s.size 0 5 - s.size) (.int .u8 0), (Lib.bytesCells w 5 s).size, (Lib.bytesCells w 5 s).size + 1, ?_, ?_⟩
  · simp [Lib.bytesCells]
  · rw [Lib.bytesWorld_at_new]
    congr 2
    unfold Lib.bytesCells
    apply Array.ext'
    simp
theorem below_conv (w : World) (s : ByteArray) : Below w.heap.size w (Lib.bytesWorld w 5 s) :=
  ⟨rfl, rfl, rfl, by rw [Lib.bytesWorld_size]; omega, fun k hk => Lib.bytesWorld_at_old w _ s k hk⟩
/-- The bytes when i of them are done. -/
def doneTo (xs : List UInt8) (i : Nat) : List UInt8 := (xs.take i).map blankTo ++ xs.drop i
theorem doneTo_len (xs : List UInt8) (i : Nat) : (doneTo xs i).length = xs.length := by
  simp [doneTo]; omega
theorem doneTo_at? (xs : List UInt8) (i : Nat) (h : i < xs.length) : (doneTo xs i)[i]? = some xs[i] := by
  unfold doneTo
  rw [List.getElem?_append_right (by simp; omega)]
  simp
  have e : i + (i - min i xs.length) = i := by omega
  rw [e, List.getElem?_eq_getElem h]
theorem doneTo_at (xs : List UInt8) (i : Nat) (h : i < xs.length) (h' : i < (doneTo xs i).length) : (doneTo xs i)[i]'h' = xs[i] := by
  have := doneTo_at? xs i h
  rw [List.getElem?_eq_getElem h'] at this
  exact Option.some.inj this
theorem doneTo_next (xs : List UInt8) (i : Nat) (h : i < xs.length) : doneTo xs (i + 1) = (doneTo xs i).set i (blankTo xs[i]) := by
  unfold doneTo
  rw [List.set_append_right _ _ (by simp; omega)]
  have e : i - ((xs.take i).map blankTo).length = 0 := by simp; omega
  rw [e, List.take_succ_eq_append_getElem h, List.map_append, List.append_assoc]
  conv => rhs; rw [List.drop_eq_getElem_cons h]
  rfl
theorem doneTo_same (xs : List UInt8) (i : Nat) (h : i < xs.length) (hb : blankTo xs[i] = xs[i]) : doneTo xs (i + 1) = doneTo xs i := by
  rw [doneTo_next xs i h, hb]
  apply List.ext_getElem?
  intro j
  rw [List.getElem?_set]
  split
  · rename_i hj
    subst hj
    rw [if_pos (by rw [doneTo_len]; exact h), List.getElem?_eq_getElem (by rw [doneTo_len]; exact h), doneTo_at xs i h]
  · rfl
theorem doneTo_all (xs : List UInt8) : doneTo xs xs.length = xs.map blankTo := by simp [doneTo]
theorem doneTo_none (xs : List UInt8) : doneTo xs 0 = xs := by simp [doneTo]
theorem strOf_mk (l : List UInt8) : strOfNums (l.map fun b => (b.toNat : Int)) = mkB l := by
  unfold strOfNums mkB
  congr 1
  rw [List.map_map]
  congr 1
  conv => rhs; rw [← List.map_id l]
  apply List.map_congr_left
  intro b _
  simp
theorem filter_take_next {l : List ByteArray} {i : Nat} (h : i < l.length) (p : ByteArray → Bool) : (l.take (i + 1)).filter p = (l.take i).filter p ++ (if p l[i] then [l[i]] else []) := by
  rw [List.take_succ_eq_append_getElem h, List.filter_append]
  congr 1
  by_cases hp : p l[i] <;> simp [hp]
theorem Try.info9w : (Try.prog.info? 9).map (fun i => (i.zero, i.size, i.bytes)) = some (some (.string ⟨#[]⟩), 1, 16) := by kernel_rfl
theorem splitL_head_len (c : UInt8) (l : List UInt8) : ((splitL c l).headD []).length ≤ l.length := by
  induction l with
  | nil => simp [splitL]
  | cons x t ih =>
    by_cases h : x = c
    · subst h; rw [splitL_hit]; simp
    · rw [splitL_cons _ _ _ h]
      cases hs : splitL c t with
      | nil => simp [joinHead]
      | cons a b => rw [hs] at ih; simp [joinHead] at ih ⊢; omega
theorem mkB_size (l : List UInt8) : (mkB l).size = l.length := by simp [mkB, ByteArray.size]
theorem blankTo_yes (c : UInt8) (h : (c.toNat : Int) = 9 ∨ (c.toNat : Int) = 13) : blankTo c = 32 := by
  unfold blankTo
  rw [if_pos]
  rcases h with h | h
  · exact .inl (UInt8.toNat_inj.1 (by have : (9 : UInt8).toNat = 9 := rfl; omega))
  · exact .inr (UInt8.toNat_inj.1 (by have : (13 : UInt8).toNat = 13 := rfl; omega))
theorem blankTo_no (c : UInt8) (h : ¬ (c.toNat : Int) = 9) (h' : ¬ (c.toNat : Int) = 13) : blankTo c = c := by
  unfold blankTo
  rw [if_neg]
  intro e
  rcases e with e | e
  · apply h; rw [e]; rfl
  · apply h'; rw [e]; rfl
set_option maxHeartbeats 3200000 in
set_option maxRecDepth 100000 in
theorem wordsOf_any (s : ByteArray) (hs : s.size ≤ 1000000) (w : World) :
    Calls Try.prog 27 #[.string s] w fun e w' => ∃ v : Value, e = .returned v ∧ Kd.R Kd.string 9 w' w.heap.size (fun _ => True) v (wordsL s.data.toList) ∧ Below w.heap.size w w' := by
  have hcv : ∀ (W : World) (t : ByteArray), (convert 9 38 (.string t)).run Try.prog W = _ := fun W t => Lib.run_convert_string_bytes W 9 38 5 t Try.underlying9 Try.underlying38 Try.underlying5
  go_enter Try.func27, Try.ntmps27
  go_wp2_with fail
  refine (cut_is s 35 35 rfl hs _).mono ?_
  rintro e w1 ⟨v0, rfl, hr1, hb1⟩
  obtain ⟨A1, c1, rfl, hl1, hC1⟩ := Kd.R_reads hr1
  have hne : 0 < ((splitL 35 s.data.toList).map mkB).length := by rw [List.length_map]; exact List.length_pos_iff.2 (splitL_ne 35 _)
  obtain ⟨ad, hA, hc0⟩ := Kd.at_string hC1 0 (Int.le_refl _) (by omega)
  subst hA
  have hx : rdOf ByteArray.empty ((splitL 35 s.data.toList).map mkB) 0 = mkB ((splitL 35 s.data.toList).headD []) := by
    unfold rdOf
    cases h : splitL 35 s.data.toList with
    | nil => exact absurd h (splitL_ne 35 _)
    | cons a t => simp
  rw [hx] at hc0
  have hxl : (mkB ((splitL 35 s.data.toList).headD [])).size ≤ 1000000 := by
    rw [mkB_size]
    have h1 := splitL_head_len 35 s.data.toList
    have h2 : s.data.toList.length = s.size := by simp
    omega
  obtain ⟨x, hxe⟩ : ∃ x, x = (splitL 35 s.data.toList).headD [] := ⟨_, rfl⟩
  rw [← hxe] at hc0 hxl
  generalize hL : (splitL 35 s.data.toList).map mkB = L at *
  have HX := Lib.hid hxe
  clear hL hr1 hC1 hx hxe
  have hne' : (0 : Int) < (L.length : Int) := by omega
  have hadd : ad.add (Int.toNat 0) = ad := by simp [Addr.add]
  rw [hadd] at hc0
  clear hadd
  go_wp2_with fail
  have hbr := BR.of_conv w1 (mkB x)
  have hbb := below_conv w1 (mkB x)
  rw [mkB_data] at hbr
  have hsz := mkB_size x
  rw [hsz] at hxl ⊢
  obtain ⟨cp, hcp⟩ : ∃ cp, cp = grownCap w1 x.length 0 5 := ⟨_, rfl⟩
  rw [← hcp]
  clear hcp hsz
  refine wp_at (fun W => BR w1.heap.size x W ∧ Below w1.heap.size w1 W ∧ w1.heap.size < W.heap.size) ⟨hbr, hbb, by rw [Lib.bytesWorld_size]; omega⟩ ?_
  rintro W ⟨hbr, hbb, hgs⟩
  have HBR := Lib.hid hbr
  obtain ⟨g, hg⟩ : ∃ g, g = w1.heap.size := ⟨_, rfl⟩
  rw [← hg] at HBR hgs ⊢
  have hgB : w.heap.size ≤ g := by rw [hg]; exact hb1.size
  have hBW : Below w.heap.size w W := hb1.trans (hbb.mono hb1.size)
  clear hbr hbb hb1 hc0 hg
  go_loopw [4] (fun v4 w' => ∃ i : Nat, i ≤ x.length ∧ v4 = .int .i64 i ∧ BR g (doneTo x i) w' ∧ Below w.heap.size w w' ∧ g < w'.heap.size) (fun v4 _ => x.length - (intOf v4).toNat)
  case atStart => exact ⟨0, Nat.zero_le _, rfl, by rw [doneTo_none]; exact HBR.out, hBW, hgs⟩
  case round =>
    obtain ⟨i, hi, rfl, hr, hb, hgl⟩ := hrel
    by_cases hlt : i < x.length
    · have hc := hr.cell i (by rw [doneTo_len]; exact hlt)
      have hz := hr.fz i (by rw [doneTo_len]; exact hlt)
      rw [doneTo_at x i hlt] at hc
      have HR := Lib.hid hr
      have i1 : (i : Int) < (x.length : Int) := by omega
      have i0 : (0 : Int) ≤ (i : Int) := by omega
      clear hr
      by_cases h9 : (x[i].toNat : Int) = 9
      · have hb9 : ((x[i].toNat : Int) == 9) = true := beq_iff_eq.2 h9
        have H9 := Lib.hid h9
        clear h9
        go_wp2
        go_roundw
        case rel => exact ⟨i + 1, by omega, by go_num, by rw [doneTo_next x i hlt, blankTo_yes _ (.inl H9.out)]; exact HR.out.set i (by rw [doneTo_len]; exact hlt) 32, hb.setCell hgB _, by simpa using hgl⟩
        case measure => simp [intOf]; omega
      · have hb9 : ((x[i].toNat : Int) == 9) = false := beq_eq_false_iff_ne.2 h9
        by_cases h13 : (x[i].toNat : Int) = 13
        · have hb13 : ((x[i].toNat : Int) == 13) = true := beq_iff_eq.2 h13
          have H13 := Lib.hid h13
          clear h13 h9
          go_wp2
          go_roundw
          case rel => exact ⟨i + 1, by omega, by go_num, by rw [doneTo_next x i hlt, blankTo_yes _ (.inr H13.out)]; exact HR.out.set i (by rw [doneTo_len]; exact hlt) 32, hb.setCell hgB _, by simpa using hgl⟩
          case measure => simp [intOf]; omega
        · have hb13 : ((x[i].toNat : Int) == 13) = false := beq_eq_false_iff_ne.2 h13
          have H13 := Lib.hid h13
          have H9 := Lib.hid h9
          clear h13 h9
          go_wp2
          go_roundw
          case rel => exact ⟨i + 1, by omega, by go_num, by rw [doneTo_same x i hlt (blankTo_no _ H9.out H13.out)]; exact HR.out, hb, hgl⟩
          case measure => simp [intOf]; omega
    · have hie : i = x.length := by omega
      subst hie
      have hbs : (convert 38 9 (.slice (some ⟨g, 0, none⟩) x.length cp)).run Try.prog wr = .ok (.string (mkB (x.map blankTo))) wr := by
        have hd : doneTo x x.length = x.map blankTo := doneTo_all x
        rw [hd] at hr
        have := run_convert_bytes_arg (P := Try.prog) (w := wr) 38 5 Try.underlying38 Try.underlying5 g 0 x.length cp ((x.map blankTo).map fun b => (b.toNat : Int)) (by simp) (fun i hi => by
          have hi' : i < (x.map blankTo).length := by simpa using hi
          rw [Nat.zero_add, hr.cell i hi']
          simp [List.getD_eq_getElem?_getD, List.getElem?_eq_getElem (by simpa using hi : i < x.length)])
        rw [this _ Try.underlying9, strOf_mk]
      have hyl : (mkB (x.map blankTo)).size ≤ 1000000 := by rw [mkB_size]; simpa using hxl
      have hwl : wordsL s.data.toList = ((splitL 32 (x.map blankTo)).map mkB).filter (fun y => y.toList != []) := by rw [wordsL, ← HX.out]
      have HWL := Lib.hid hwl
      clear hwl hr
      obtain ⟨y, hy⟩ : ∃ y, y = mkB (x.map blankTo) := ⟨_, rfl⟩
      rw [← hy] at hbs hyl
      have HY := Lib.hid hy
      clear hy
      go_wp2_with fail
      refine (cut_is y 32 32 rfl hyl _).mono ?_
      rintro e w2 ⟨v6, rfl, hr2, hb2⟩
      have e2 : (splitL 32 y.data.toList).map mkB = (splitL 32 (x.map blankTo)).map mkB := by rw [HY.out, mkB_data]
      rw [e2] at hr2
      have hll : ((splitL 32 (x.map blankTo)).map mkB).length ≤ 1000001 := by
        rw [List.length_map]
        have := splitL_len 32 (x.map blankTo)
        simp at this
        omega
      clear e2
      obtain ⟨M, hM⟩ : ∃ M, M = (splitL 32 (x.map blankTo)).map mkB := ⟨_, rfl⟩
      rw [← hM] at hr2 hll HWL
      clear hM
      obtain ⟨A6, c6, rfl, hl6, hC6⟩ := Kd.R_reads hr2
      have HC6 := Lib.hid hC6
      have hB2 : Below w.heap.size w w2 := hb.trans (hb2.mono hb.size)
      have hsz2 : w.heap.size ≤ w2.heap.size := hB2.size
      clear hr2 hC6 hbs
      go_wp2_with fail
      go_loopw [5, 7] (fun v5 v7 w' => ∃ i : Nat, i ≤ M.length ∧ v7 = .int .i64 i ∧ Kd.string.R 9 w' w2.heap.size (fun _ => True) v5 ((M.take i).filter (fun y => y.toList != [])) ∧ Below w2.heap.size w2 w') (fun _ v7 _ => M.length - (intOf v7).toNat)
      case atStart => exact ⟨0, Nat.zero_le _, rfl, Kd.R_nil _ _ _ _ _, Below.refl _ _⟩
      case round =>
        obtain ⟨i, hi, rfl, hr, hbw⟩ := hrel
        have HR := Lib.hid hr
        clear hr
        by_cases hlt2 : i < M.length
        · have hCw := Kd.C_below HC6.out hbw
          obtain ⟨ad6, hA6, hc6⟩ := Kd.at_string hCw (i : Int) (by omega) (by omega)
          subst hA6
          have hx6 : rdOf ByteArray.empty M (i : Int) = M[i] := by unfold rdOf; simp [hlt2]
          rw [hx6] at hc6
          simp only [Int.toNat_natCast] at hc6
          have HN := Lib.hid (filter_take_next hlt2 (fun y => y.toList != []))
          obtain ⟨z, hz⟩ : ∃ z, z = M[i] := ⟨_, rfl⟩
          rw [← hz] at hc6 HN
          have i1 : (i : Int) < (M.length : Int) := by omega
          have i0 : (0 : Int) ≤ (i : Int) := by omega
          have HCW := Lib.hid hCw
          clear hCw hx6 hz
          by_cases hze : z.toList = []
          · have hze1 : (z.toList != []) = false := by simp [hze]
            have hze2 : z.toList.isEmpty = true := by simp [hze]
            have HZ := Lib.hid hze1
            clear hze1
            go_wp2
            go_roundw
            case rel => exact ⟨i + 1, by omega, by go_num, by rw [HN.out, HZ.out]; simpa using HR.out, hbw⟩
            case measure => simp [intOf]; omega
          · have hze1 : (z.toList != []) = true := by simp [hze]
            have hze2 : z.toList.isEmpty = false := by cases h : z.toList with | nil => exact absurd h hze | cons => rfl
            have HZ := Lib.hid hze1
            have hfl : ((M.take i).filter (fun y => y.toList != [])).length ≤ M.length := Nat.le_trans (List.length_filter_le _ _) (by rw [List.length_take]; omega)
            have HFL := Lib.hid hfl
            clear hze1 hfl
            go_wp2_with ((with_reducible refine gate_builtin (b := .append) (xs := #[.tmp 48, .tmp 53]) rfl ?_); at_builtin; refine Kd.R_append Kd.string (w0 := w2) w2.heap.size rfl (.tmp 48) (.tmp 53) 42 9 (.string ⟨#[]⟩) 16 rfl Try.underlying42 Try.info9w rfl (by decide) (by decide) u5 ((M.take i).filter (fun y => y.toList != [])) z [.string z] (fun _ => True) (fun _ => False) rfl rfl ?aP (fun _ hk => hk.elim) ?aF ?aO ?aB ?aS ?aL ?_; (case aP => exact rfl); (case aB => exact hbw); (case aF => exact (fun _ _ => trivial)); (case aO => exact HR.out); (case aS => exact hbw.size); (case aL => have := HFL.out; omega); intro v1 w3 ho hb3 hgr hat; have HO := Lib.hid ho; clear ho hgr hat)
            go_roundw
            case rel => exact ⟨i + 1, by omega, by go_num, by rw [HN.out, HZ.out]; exact HO.out, hb3⟩
            case measure => simp [intOf]; omega
        · have hie2 : i = M.length := by omega
          subst hie2
          have hfin : Kd.string.R 9 wr w2.heap.size (fun _ => True) u5 (M.filter (fun y => y.toList != [])) := by have := HR.out; rwa [List.take_length] at this
          have HFIN := Lib.hid hfin
          clear hfin
          go_wp2
          go_ret
          exact ⟨u5, rfl, by rw [HWL.out]; exact Kd.R_lower HFIN.out hsz2, hB2.trans (hbw.mono hsz2)⟩
/- The contract in the print's form. -/
def fescueref05_wordsOf.f (a0 : ByteArray) : Option (List ByteArray) := if a0.size ≤ 1000000 then some (wordsL a0.data.toList) else none
theorem fescueref05_wordsOf.calls (a0 : ByteArray) (r : List ByteArray) (w : World) (h : fescueref05_wordsOf.f a0 = some r) :
    Calls Try.prog 27 #[.string a0] w fun e w' => ∃ v0_ : Value, e = .returned (v0_) ∧ Kd.R Kd.string 9 w' w.heap.size (fun _ => True) v0_ r ∧ Below w.heap.size w w' := by
  unfold fescueref05_wordsOf.f at h
  by_cases hs : a0.size ≤ 1000000
  · rw [if_pos hs] at h
    injection h with h
    subst h
    exact wordsOf_any a0 hs w
  · rw [if_neg hs] at h; cases h
end Go.Proofs.Ytcildbgckgodhaa
