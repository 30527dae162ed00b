/- The walk of lex.Join, at words whose ContainsAny has a contract. -/
import Derived.Test.YtcildbgckgodhabXx0
import Derived.Test.YtcildbgckgodhabBld
import Derived.Test.YtcildbgckgodhabWMore
import Derived.WalkKit
import Derived.WalkSpells
import Derived.WalkLawsBesides
import Derived.Lib.Hide
import Derived.PlainAid
import Derived.BigQuiet
namespace Go.Proofs.Ytcildbgckgodhab
open Go.RowKit Go.Lib Go.Proofs.Ytcildbgckgodhab.X Go.Proofs.YtcildbgckgodhabW.PrintWords Go.Proofs.YtcildbgckgodhabW.PrintLast Go.Proofs.YtcildbgckgodhabW.PrintMore
set_option linter.unusedVariables false
set_option linter.unusedSimpArgs false
def badW (x : ByteArray) : Bool := Lib.containsAny x.data.toList setB.data.toList
def okWord (x : ByteArray) : Bool := !x.toList.isEmpty && !badW x
def okRow (ws : List ByteArray) : Bool := !ws.isEmpty && ws.all okWord
/-- A line's first j words, a blank between. -/
def lineTo (ws : List ByteArray) : Nat → List UInt8
  | 0 => []
  | j + 1 => lineTo ws j ++ (if 0 < j then [32] else []) ++ (ws.getD j ByteArray.empty).data.toList
def outL : List (List ByteArray) → List UInt8 → Option (List UInt8)
  | [], o => some o
  | ws :: r, o => if 64 < ws.length ∨ 16384 < (o ++ lineTo ws ws.length ++ [10]).length then none else outL r (o ++ lineTo ws ws.length ++ [10])
def joinP (l : List (List ByteArray)) : ByteArray × Int :=
  if l.all okRow then (match outL l [] with
    | some o => (⟨o.toArray⟩, 0)
    | none => (⟨#[]⟩, 4)) else (⟨#[]⟩, 2)
def GoodCall (x : ByteArray) : Prop := ∀ w, Calls Try.prog 11 #[.string x, .string ⟨#[32, 9, 13, 10, 35]⟩] w fun e w' => e = .returned (.bool (badW x)) ∧ Below w.heap.size w w'
theorem good_is (x : ByteArray) (b : Bool) (hb : badW x = b) (h : GoodCall x) (w : World) : Calls Try.prog 11 #[.string x, .string ⟨#[32, 9, 13, 10, 35]⟩] w fun e w' => e = .returned (.bool b) ∧ Below w.heap.size w w' := hb ▸ h w
theorem b_sp (B b : Nat) (l : List UInt8) (w : World) (h : IsB B b l w) (hlen : l.length + 1 ≤ 140737488355328) (hBw : B ≤ w.heap.size) :
    Calls Try.prog 12 #[.pointer (some ⟨b, 0, none⟩), .int .u8 32] w fun e w' => e = .returned .nilIface ∧ IsB B b (l ++ [32]) w' ∧ Below B w w' := b_byte B b l 32 w h hlen hBw
theorem b_nl (B b : Nat) (l : List UInt8) (w : World) (h : IsB B b l w) (hlen : l.length + 1 ≤ 140737488355328) (hBw : B ≤ w.heap.size) :
    Calls Try.prog 12 #[.pointer (some ⟨b, 0, none⟩), .int .u8 10] w fun e w' => e = .returned .nilIface ∧ IsB B b (l ++ [10]) w' ∧ Below B w w' := b_byte B b l 10 w h hlen hBw
theorem lineTo_len (ws : List ByteArray) (hx : ∀ x ∈ ws, x.size ≤ 100000) (j : Nat) (hj : j ≤ ws.length) : (lineTo ws j).length ≤ j * 100001 := by
  induction j with
  | zero => simp [lineTo]
  | succ j ih =>
    have h1 := ih (by omega)
    have hm : (ws.getD j ByteArray.empty).size ≤ 100000 := by
      rw [List.getD_eq_getElem?_getD, List.getElem?_eq_getElem (by omega : j < ws.length)]
      exact hx _ (List.getElem_mem _)
    have h2 : (ws.getD j ByteArray.empty).data.toList.length = (ws.getD j ByteArray.empty).size := by simp
    simp only [lineTo, List.length_append]
    split <;> simp only [List.length_cons, List.length_nil] <;> omega
theorem all_drop {α : Type} (p : α → Bool) (l : List α) (i : Nat) (h : i < l.length) : (l.drop i).all p = (p l[i] && (l.drop (i + 1)).all p) := by
  rw [List.drop_eq_getElem_cons h, List.all_cons]
structure Few (l : List (List ByteArray)) : Prop where
  rows : l.length ≤ 100000
  words : ∀ ws ∈ l, ws.length ≤ 100000
  size : ∀ ws ∈ l, ∀ x ∈ ws, x.size ≤ 100000
  good : ∀ ws ∈ l, ∀ x ∈ ws, GoodCall x
set_option maxRecDepth 100000 in
theorem join_any (A : Option Addr) (c : Nat) (l : List (List ByteArray)) (w : World) (hC : Kd.C (Kd.slice 9 Kd.string) w A l.length l) (hlc : l.length ≤ c) (hf : Few l) :
    Calls Try.prog 6 #[.slice A l.length c] w fun e w' => e = .returned (.tuple #[.string (joinP l).1, .int .i64 (joinP l).2]) ∧ Below w.heap.size w w' := by
  have HC := Lib.hid hC
  have HF := Lib.hid hf
  have hrows := hf.rows
  clear hC hf
  have HP2 := Lib.hid (show l.all okRow = false → joinP l = (⟨#[]⟩, 2) from fun h => by unfold joinP; rw [h]; rfl)
  have HP0 := Lib.hid (show ∀ o, l.all okRow = true → outL l [] = some o → joinP l = (⟨o.toArray⟩, 0) from fun o h h2 => by unfold joinP; rw [h, h2]; rfl)
  have HP4 := Lib.hid (show l.all okRow = true → outL l [] = none → joinP l = (⟨#[]⟩, 4) from fun h h2 => by unfold joinP; rw [h, h2]; rfl)
  go_enter Try.func6, Try.ntmps6
  go_wp2
  go_loopw [15] (fun v15 w' => ∃ i : Nat, i ≤ l.length ∧ v15 = .int .i64 i ∧ Hid (l.all okRow = (l.drop i).all okRow) ∧ Below w.heap.size w w') (fun v15 _ => l.length - (Lib.intOf v15).toNat)
  case atStart => exact ⟨0, Nat.zero_le _, rfl, (by rw [List.drop_zero]; exact (rfl : _ = _)), Below.refl _ _⟩
  case round =>
    obtain ⟨i, hi, rfl, HA, hbw⟩ := hrel
    by_cases hlt : i < l.length
    · obtain ⟨ad, A0, c0, hA, hcell, hlc0, hC0⟩ := at_L1 (Kd.C_below HC.out hbw) (i : Int) (by omega) (by omega)
      subst hA
      have hrow : rd_L1 l (i : Int) = l[i] := by unfold rd_L1; simp [hlt]
      rw [hrow] at hcell hlc0 hC0
      have hm := List.getElem_mem hlt
      have hwl := HF.out.words _ hm
      have HG := Lib.hid (HF.out.good _ hm)
      have HD := Lib.hid (all_drop okRow l i hlt)
      obtain ⟨ws, hws⟩ : ∃ ws, ws = l[i] := ⟨_, rfl⟩
      rw [← hws] at hcell hlc0 hC0 hwl HG HD
      simp only [Int.toNat_natCast] at hcell
      have HC0 := Lib.hid hC0
      clear hC0 hrow hm hws
      have i1 : (i : Int) < (l.length : Int) := by omega
      have i0 : (0 : Int) ≤ (i : Int) := by omega
      by_cases hne : ws.length = 0
      · have HR := HP2.out (by rw [HA.out, HD.out]; simp [okRow, List.eq_nil_of_length_eq_zero hne])
        have hne1 : ((ws.length : Int) == 0) = true := by simp [hne]
        go_wp2
        go_ret2
        rw [HR]
        exact ⟨rfl, hbw⟩
      · have hne1 : ((ws.length : Int) == 0) = false := by rw [beq_eq_false_iff_ne]; omega
        have HNE := Lib.hid hne
        clear hne
        go_wp2
        go_loopw [24] (fun v24 w' => ∃ j : Nat, j ≤ ws.length ∧ v24 = .int .i64 j ∧ Hid (ws.all okWord = (ws.drop j).all okWord) ∧ Below w.heap.size w w' ∧ Below wr.heap.size wr w') (fun v24 _ => ws.length - (Lib.intOf v24).toNat)
        case atStart => exact ⟨0, Nat.zero_le _, rfl, (by rw [List.drop_zero]; exact (rfl : _ = _)), hbw, Below.refl _ _⟩
        case round =>
          obtain ⟨j, hj, rfl, HB, hbw2, hbx⟩ := hrel
          by_cases hlt2 : j < ws.length
          · obtain ⟨ad2, hA2, hc2⟩ := Kd.at_string (Kd.C_below HC0.out hbx) (j : Int) (by omega) (by omega)
            subst hA2
            have hrd : rdOf ByteArray.empty ws (j : Int) = ws[j] := by unfold rdOf; simp [hlt2]
            rw [hrd] at hc2
            have HG2 := Lib.hid (HG.out _ (List.getElem_mem hlt2))
            have HD2 := Lib.hid (all_drop okWord ws j hlt2)
            obtain ⟨z, hz⟩ : ∃ z, z = ws[j] := ⟨_, rfl⟩
            rw [← hz] at hc2 HG2 HD2
            simp only [Int.toNat_natCast] at hc2
            clear hrd hz
            have j1 : (j : Int) < (ws.length : Int) := by omega
            have j0 : (0 : Int) ≤ (j : Int) := by omega
            have hfail : okWord z = false → joinP l = (⟨#[]⟩, 2) := fun h => HP2.out (by rw [HA.out, HD.out]; unfold okRow; rw [HB.out, HD2.out, h]; simp)
            have HFAIL := Lib.hid hfail
            clear hfail
            by_cases hze : z.toList = []
            · have hze2 : z.toList.isEmpty = true := by simp [hze]
              have hr := HFAIL.out (by simp [okWord, hze])
              go_wp2
              go_ret2
              rw [hr]
              exact ⟨rfl, hbw2⟩
            · have hze2 : z.toList.isEmpty = false := by cases h : z.toList with | nil => exact absurd h hze | cons => rfl
              have HZE := Lib.hid hze
              clear hze
              cases hbz : badW z with
              | true =>
                have hr := HFAIL.out (by simp [okWord, hbz])
                have HGB := Lib.hid (good_is z true hbz HG2.out)
                clear hbz
                go_wp2_with (go_at_call 11; refine (HGB.out _).mono ?_; rintro e w3 ⟨rfl, hb3⟩)
                go_ret2
                rw [hr]
                exact ⟨rfl, hbw2.trans (hb3.mono hbw2.size)⟩
              | false =>
                have hok : okWord z = true := by simp [okWord, hbz, hze2]
                have HOK := Lib.hid hok
                have HGB := Lib.hid (good_is z false hbz HG2.out)
                clear hbz hok
                go_wp2_with (go_at_call 11; refine (HGB.out _).mono ?_; rintro e w3 ⟨rfl, hb3⟩)
                go_roundw
                case rel => exact ⟨j + 1, by omega, by go_num, (by rw [HB.out, HD2.out, HOK.out]; exact (rfl : _ = _)), hbw2.trans (hb3.mono hbw2.size), hbx.trans (hb3.mono hbx.size)⟩
                case measure => simp [Lib.intOf]; omega
          · have hje : j = ws.length := by omega
            subst hje
            have hokr : okRow ws = true := by
              unfold okRow
              rw [HB.out, List.drop_length]
              cases hw : ws with
              | nil => exact absurd (by rw [hw]; rfl) HNE.out
              | cons => rfl
            have HOKR := Lib.hid hokr
            clear hokr
            go_wp2
            go_roundw
            case rel => exact ⟨i + 1, by omega, by go_num, (by rw [HA.out, HD.out, HOKR.out]; exact (rfl : _ = _)), hbw2⟩
            case measure => simp [Lib.intOf]; omega
    · have hie : i = l.length := by omega
      subst hie
      have hall : l.all okRow = true := by rw [HA.out, List.drop_length]; rfl
      have HALL := Lib.hid hall
      clear hall
      obtain ⟨W, hW⟩ : ∃ W, W = wr := ⟨wr, rfl⟩
      subst hW
      have hnew := b_new W
      have HNEW := Lib.hid hnew
      have hWw : w.heap.size ≤ W.heap.size := hbw.size
      clear hnew hlt hi HA
      go_wp2
      go_loopw [38] (fun v38 w' => ∃ (i : Nat) (o : List UInt8), i ≤ l.length ∧ v38 = .int .i64 i ∧ Hid (outL (l.drop i) o = outL l []) ∧ o.length ≤ 16384 ∧ Hid (IsB W.heap.size W.heap.size o w') ∧ W.heap.size ≤ w'.heap.size ∧ Below w.heap.size w w') (fun v38 _ => l.length - (Lib.intOf v38).toNat)
      case atStart => exact ⟨0, [], Nat.zero_le _, rfl, (by rw [List.drop_zero]; exact (rfl : _ = _)), (by simp), HNEW.out, ((Below.refl W.heap.size W).alloc (Nat.le_refl _) _).size, hbw.alloc hbw.size _⟩
      case round =>
        obtain ⟨i, o, hi, rfl, HO, hol, HI, hsz, hbr⟩ := hrel
        by_cases hlt : i < l.length
        · obtain ⟨ad, A0, c0, hA, hcell, hlc0, hC0⟩ := at_L1 HC.out (i : Int) (by omega) (by omega)
          subst hA
          have hrow : rd_L1 l (i : Int) = l[i] := by unfold rd_L1; simp [hlt]
          rw [hrow] at hcell hlc0 hC0
          have hm := List.getElem_mem hlt
          have hwl := HF.out.words _ hm
          have HS := Lib.hid (HF.out.size _ hm)
          have HDR := Lib.hid (List.drop_eq_getElem_cons hlt)
          obtain ⟨ws, hws⟩ : ∃ ws, ws = l[i] := ⟨_, rfl⟩
          rw [← hws] at hcell hlc0 hC0 hwl HS HDR
          simp only [Int.toNat_natCast] at hcell
          have HC0 := Lib.hid hC0
          have hcell' := (hbr.cell (World.block_lt_of_cell? w _ hcell)).trans hcell
          clear hC0 hrow hm hws hcell
          have i1 : (i : Int) < (l.length : Int) := by omega
          have i0 : (0 : Int) ≤ (i : Int) := by omega
          have HLL := Lib.hid (lineTo_len ws HS.out)
          go_wp2
          go_loopw [44] (fun v44 w' => ∃ j : Nat, j ≤ ws.length ∧ v44 = .int .i64 j ∧ Hid (IsB W.heap.size W.heap.size (o ++ lineTo ws j) w') ∧ W.heap.size ≤ w'.heap.size ∧ Below w.heap.size w w') (fun v44 _ => ws.length - (Lib.intOf v44).toNat)
          case atStart => exact ⟨0, Nat.zero_le _, rfl, (show IsB W.heap.size W.heap.size (o ++ lineTo ws 0) wr from by rw [show lineTo ws 0 = [] from rfl, List.append_nil]; exact HI.out), hsz, hbr⟩
          case round =>
            obtain ⟨j, hj, rfl, HI2, hsz2, hbr2⟩ := hrel
            by_cases hlt2 : j < ws.length
            · obtain ⟨ad2, hA2, hc2⟩ := Kd.at_string (Kd.C_below HC0.out hbr2) (j : Int) (by omega) (by omega)
              subst hA2
              have hrd : rdOf ByteArray.empty ws (j : Int) = ws[j] := by unfold rdOf; simp [hlt2]
              rw [hrd] at hc2
              have hzs := HS.out _ (List.getElem_mem hlt2)
              have hgd : ws.getD j ByteArray.empty = ws[j] := by simp [hlt2]
              have hstep : lineTo ws (j + 1) = lineTo ws j ++ (if 0 < j then [32] else []) ++ (ws[j]).data.toList := by rw [lineTo, hgd]
              obtain ⟨z, hz⟩ : ∃ z, z = ws[j] := ⟨_, rfl⟩
              rw [← hz] at hc2 hzs hstep
              simp only [Int.toNat_natCast] at hc2
              have HST := Lib.hid hstep
              clear hrd hz hgd hstep
              have j1 : (j : Int) < (ws.length : Int) := by omega
              have j0 : (0 : Int) ≤ (j : Int) := by omega
              have hlen := HLL.out j hj
              have hol2 : (o ++ lineTo ws j).length ≤ 16384 + j * 100001 := by rw [List.length_append]; omega
              by_cases hj0 : 0 < j
              · have j2 : (0 : Int) < (j : Int) := by omega
                have HE := Lib.hid (show (o ++ lineTo ws j ++ [32]) ++ z.data.toList = o ++ lineTo ws (j + 1) from by rw [HST.out, if_pos hj0]; simp)
                go_wp2_with (first
                  | (go_at_call 12; refine (b_sp W.heap.size W.heap.size _ _ HI2.out (by omega) hsz2).mono ?_; rintro e w3 ⟨rfl, hI3, hb3⟩; have HI3 := Lib.hid hI3; have hsz3 : W.heap.size ≤ w3.heap.size := Nat.le_trans hsz2 hb3.size; clear hI3)
                  | (go_at_call 13; refine (b_string W.heap.size W.heap.size _ z _ HI3.out (by rw [List.length_append]; simp only [List.length_singleton]; omega) hsz3).mono ?_; rintro e w4 ⟨rfl, hI4, hb4⟩; have HI4 := Lib.hid hI4; clear hI4))
                go_roundw
                case rel => exact ⟨j + 1, by omega, by go_num, (by rw [← HE.out]; exact HI4.out), Nat.le_trans hsz3 hb4.size, (hbr2.trans (hb3.mono hWw)).trans (hb4.mono hWw)⟩
                case measure => simp [Lib.intOf]; omega
              · have j2 : ¬ (0 : Int) < (j : Int) := by omega
                have HE := Lib.hid (show (o ++ lineTo ws j) ++ z.data.toList = o ++ lineTo ws (j + 1) from by rw [HST.out, if_neg hj0]; simp)
                go_wp2_with (go_at_call 13; refine (b_string W.heap.size W.heap.size _ z _ HI2.out (by omega) hsz2).mono ?_; rintro e w4 ⟨rfl, hI4, hb4⟩; have HI4 := Lib.hid hI4; clear hI4)
                go_roundw
                case rel => exact ⟨j + 1, by omega, by go_num, (by rw [← HE.out]; exact HI4.out), Nat.le_trans hsz2 hb4.size, hbr2.trans (hb4.mono hWw)⟩
                case measure => simp [Lib.intOf]; omega
            · have hje : j = ws.length := by omega
              subst hje
              have hlen := HLL.out ws.length (Nat.le_refl _)
              have hol2 : (o ++ lineTo ws ws.length).length ≤ 16384 + ws.length * 100001 := by rw [List.length_append]; omega
              have HN := Lib.hid (show outL (l.drop i) o = if 64 < ws.length ∨ 16384 < (o ++ lineTo ws ws.length ++ [10]).length then none else outL (l.drop (i + 1)) (o ++ lineTo ws ws.length ++ [10]) from by rw [HDR.out, outL])
              obtain ⟨o2, ho2⟩ : ∃ o2, o2 = o ++ lineTo ws ws.length ++ [10] := ⟨_, rfl⟩
              rw [← ho2] at HN
              have HO2 := Lib.hid ho2
              clear ho2
              by_cases hw64 : 64 < ws.length
              · have w1 : (64 : Int) < (ws.length : Int) := by omega
                have hr := HP4.out HALL.out (by rw [← HO.out, HN.out, if_pos (.inl hw64)])
                go_wp2_with (first
                  | (go_at_call 12; refine (b_nl W.heap.size W.heap.size _ _ HI2.out (by omega) hsz2).mono ?_; rintro e w3 ⟨rfl, hI3, hb3⟩; have HI3 := Lib.hid hI3; clear hI3))
                go_ret2
                rw [hr]
                exact ⟨rfl, hbr2.trans (hb3.mono hWw)⟩
              · have w1 : ¬ (64 : Int) < (ws.length : Int) := by omega
                by_cases ho64 : 16384 < o2.length
                · have w2 : (16384 : Int) < (o2.length : Int) := by omega
                  have hr := HP4.out HALL.out (by rw [← HO.out, HN.out, if_pos (.inr ho64)])
                  go_wp2_with (first
                    | (go_at_call 12; refine (b_nl W.heap.size W.heap.size _ _ HI2.out (by omega) hsz2).mono ?_; rintro e w3 ⟨rfl, hI3, hb3⟩; rw [← HO2.out] at hI3; have HI3 := Lib.hid hI3; clear hI3)
                    | (go_at_call 14; refine (b_len W.heap.size W.heap.size _ _ HI3.out).mono ?_; rintro e w4 ⟨rfl, rfl⟩))
                  go_ret2
                  rw [hr]
                  exact ⟨rfl, hbr2.trans (hb3.mono hWw)⟩
                · have w2 : ¬ (16384 : Int) < (o2.length : Int) := by omega
                  have HNX := Lib.hid (show outL (l.drop (i + 1)) o2 = outL l [] from by rw [← HO.out, HN.out, if_neg (by omega)])
                  go_wp2_with (first
                    | (go_at_call 12; refine (b_nl W.heap.size W.heap.size _ _ HI2.out (by omega) hsz2).mono ?_; rintro e w3 ⟨rfl, hI3, hb3⟩; rw [← HO2.out] at hI3; have HI3 := Lib.hid hI3; clear hI3)
                    | (go_at_call 14; refine (b_len W.heap.size W.heap.size _ _ HI3.out).mono ?_; rintro e w4 ⟨rfl, rfl⟩))
                  go_roundw
                  case rel => exact ⟨i + 1, o2, by omega, by go_num, HNX.out, by omega, HI3.out, Nat.le_trans hsz2 hb3.size, hbr2.trans (hb3.mono hWw)⟩
                  case measure => simp [Lib.intOf]; omega
        · have hie : i = l.length := by omega
          subst hie
          have hr := HP0.out o HALL.out (by rw [← HO.out, List.drop_length]; rfl)
          go_wp2_with (go_at_call 15; refine (b_text W.heap.size W.heap.size o _ HI.out hsz).mono ?_; rintro e w3 ⟨rfl, hb3⟩)
          go_ret2
          rw [hr]
          exact ⟨rfl, hbr.trans (hb3.mono hWw)⟩
end Go.Proofs.Ytcildbgckgodhab
