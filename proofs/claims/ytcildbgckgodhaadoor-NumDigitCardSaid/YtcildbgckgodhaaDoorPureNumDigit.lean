/- With a digit behind its text a number is ten times as much, and that digit; 0 takes none. No condition. -/
import Derived.Test.YtcildbgckgodhaaDoorXx3
import Derived.Test.YtcildbgckgodhaaDoorNumKit
namespace Go.Proofs.YtcildbgckgodhaaDoor.Pure
open Go.RowKit Go.Proofs.YtcildbgckgodhaaDoor Go.Proofs.YtcildbgckgodhaaDoor.X Go.Proofs.YtcildbgckgodhaaDoorW.PrintWords Go.Proofs.YtcildbgckgodhaaDoorW.PrintLast
theorem digit_str (d : Nat) (h : d < 10) : strOfNums [(48 + (d : Int)) % 256] = (⟨#[dg d]⟩ : ByteArray) := by
  have : ∀ d : Fin 10, strOfNums [(48 + ((d.val : Nat) : Int)) % 256] = (⟨#[dg d.val]⟩ : ByteArray) := by decide +kernel
  exact this ⟨d, h⟩
theorem app_list (a b : List UInt8) : (⟨a.toArray⟩ ++ ⟨b.toArray⟩ : ByteArray).data.toList = a ++ b := by simp
theorem itoa_snoc_pos (n : Int) (d : Nat) (hn : 0 < n) (hd : d < 10) : itoaL n ++ [dg d] = itoaL (10 * n + d) := by
  rw [itoaL_pos n hn, itoaL_pos _ (by omega), ds_pos (10 * n + d).natAbs (by omega)]
  have e1 : (10 * n + (d : Int)).natAbs / 10 = n.natAbs := by omega
  have e2 : (10 * n + (d : Int)).natAbs % 10 = d := by omega
  rw [e1, e2]
theorem itoa_snoc_neg (n : Int) (d : Nat) (hn : n < 0) (hd : d < 10) : itoaL n ++ [dg d] = itoaL (10 * n - d) := by
  rw [itoaL_neg n hn, itoaL_neg _ (by omega), ds_pos (10 * n - d).natAbs (by omega)]
  have e1 : (10 * n - (d : Int)).natAbs / 10 = n.natAbs := by omega
  have e2 : (10 * n - (d : Int)).natAbs % 10 = d := by omega
  rw [e1, e2]
  rfl
theorem zero_snoc (d : Nat) (hd : d < 10) : readL (itoaL 0 ++ [dg d]) = (0, 10) := by
  have : ∀ d : Fin 10, readL ([48] ++ [dg d.val]) = (0, 10) := by decide +kernel
  rw [itoaL_zero]
  exact this ⟨d, hd⟩
theorem itoa_len (n : Int) (h0 : -9223372036854775808 ≤ n) (h1 : n ≤ 9223372036854775807) : (itoaL n).length ≤ 21 := by
  have hl := ds_len n.natAbs 20 (by omega)
  unfold itoaL
  split
  · simp
  · split
    · simp; omega
    · omega
theorem numDigit_j0 (n : Int) (d : Nat) (hd : d < 10) (h0 : -922337203685477570 ≤ n) (h1 : n ≤ 922337203685477570) : Ev (fun k => fescuelaw01_NumDigit.j0 k n (d : Int) true false) true := by
  refine Ev.step (f := fun _ => some true) (fun k => ?_) (Ev.now _)
  have hlen := itoa_len n (by omega) (by omega)
  have hsz : (⟨(itoaL n).toArray⟩ : ByteArray).size + (⟨#[dg d]⟩ : ByteArray).size ≤ 9223372036854775807 := by
    have e1 : (⟨(itoaL n).toArray⟩ : ByteArray).size = (itoaL n).length := by rw [← ba_size, ba_list]
    have e2 : (⟨#[dg d]⟩ : ByteArray).size = 1 := rfl
    omega
  simp only [fescuelaw01_NumDigit.j0]
  rw [if_neg Bool.false_ne_true, write_ok n (by omega) (by omega), Option.bind_some, Option.bind_some, digit_str d hd, if_pos hsz]
  simp only [if_true]
  have hl : ((⟨(itoaL n).toArray⟩ : ByteArray) ++ (⟨#[dg d]⟩ : ByteArray)).data.toList = itoaL n ++ [dg d] := app_list _ [dg d]
  by_cases hz : n = 0
  · subst hz
    rw [if_pos rfl, none_ok _ (by rw [hl]; exact zero_snoc d hd)]; rfl
  · rw [if_neg hz]
    by_cases hn : n < 0
    · have hw : wrap64 (wrap64 (10 * n) - wrap64 (d : Int)) = 10 * n - d := by unfold wrap64; omega
      rw [if_pos hn, hw, is_ok _ _ (by rw [hl, itoa_snoc_neg n d hn hd]; exact readL_itoa _ (by omega) (by omega))]; rfl
    · have hw : wrap64 (wrap64 (10 * n) + wrap64 (d : Int)) = 10 * n + d := by unfold wrap64; omega
      rw [if_neg hn, hw, is_ok _ _ (by rw [hl, itoa_snoc_pos n d (by omega) hd]; exact readL_itoa _ (by omega) (by omega))]; rfl
theorem numDigit_stop (n d : Int) : Ev (fun k => fescuelaw01_NumDigit.j0 k n d true true) true :=
  Ev.step (f := fun _ => some true) (fun k => by simp only [fescuelaw01_NumDigit.j0]; simp) (Ev.now _)
theorem NumDigit : fescuelaw01_NumDigit.Pure := by
  intro n d hn hd
  obtain ⟨h0, h1⟩ := i64_of n hn
  obtain ⟨hd0, hd1⟩ := u8_bounds d hd
  apply Ev.rounds (r := true)
  by_cases c1 : d > 9
  · exact Ev.congr (fun k => by simp only [fescuelaw01_NumDigit.f]; rw [alive_ok, Option.bind_some, if_pos c1]) (numDigit_stop n d)
  · by_cases c2 : n > 922337203685477570
    · exact Ev.congr (fun k => by simp only [fescuelaw01_NumDigit.f]; rw [alive_ok, Option.bind_some, if_neg c1, if_pos c2]) (numDigit_stop n d)
    · by_cases c3 : n < -922337203685477570
      · exact Ev.congr (fun k => by simp only [fescuelaw01_NumDigit.f]; rw [alive_ok, Option.bind_some, if_neg c1, if_neg c2, if_pos c3]) (numDigit_stop n d)
      · obtain ⟨m, rfl⟩ : ∃ m : Nat, d = m := ⟨d.toNat, by omega⟩
        exact Ev.congr (f := fun k => fescuelaw01_NumDigit.j0 k n m true false) (fun k => by simp only [fescuelaw01_NumDigit.f]; rw [alive_ok, Option.bind_some, if_neg c1, if_neg c2, if_neg c3]; rfl) (numDigit_j0 n m (by omega) (by omega) (by omega))
end Go.Proofs.YtcildbgckgodhaaDoor.Pure
