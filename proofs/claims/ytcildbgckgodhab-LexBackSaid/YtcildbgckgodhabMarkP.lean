/- The program's mark, as the printed functions say it. -/
import Derived.Test.YtcildbgckgodhabXx2
import Derived.Test.YtcildbgckgodhabSmall
import Derived.Test.YtcildbgckgodhabLines
import Derived.Test.YtcildbgckgodhabAid
namespace Go.Proofs.Ytcildbgckgodhab
open Go.RowKit Go.Proofs.Ytcildbgckgodhab.X Go.Proofs.YtcildbgckgodhabW.PrintWords Go.Proofs.YtcildbgckgodhabW.PrintLast
set_option linter.unusedVariables false
set_option linter.unusedSimpArgs false
/-- A letter and a number behind it. -/
def markL (l : List UInt8) (c : Int) : Int × Int := match l with
  | [] => (0, 10)
  | x :: t => if (x.toNat : Int) = c then smallL t 999 else (0, 10)
theorem small_two (l : List UInt8) : ((smallL l 999).2 = 0 ∨ smallL l 999 = (0, 10)) := by
  unfold smallL
  rw [if_neg (by omega)]
  split
  · exact .inl rfl
  · exact .inr rfl
theorem ext_one (s : ByteArray) (x t) (h : s.data.toList = x :: t) : (s.extract 1 s.size).data.toList = t := by
  have hs : s.size = t.length + 1 := by have : s.data.toList.length = s.size := by simp
                                        rw [h] at this; simpa using this.symm
  rw [ext_mk, mkB_data, h, hs]; simp
theorem one_byte (x : UInt8) : (strOfNums [(x.toNat : Int)]) = mkB [x] := by
  revert x
  exact u8_all (by decide +kernel)
theorem hasP_one (s : ByteArray) (x : UInt8) : stringslite_HasPrefix.f s (mkB [x]) = some (decide (s.data.toList.head? = some x)) := by
  have hsz : s.data.toList.length = s.size := by simp
  unfold stringslite_HasPrefix.f
  rw [mkB_size]
  cases h : s.data.toList with
  | nil => rw [h] at hsz; rw [if_neg (by simp at hsz ⊢; omega)]; simp
  | cons a t =>
    have hs : s.size = t.length + 1 := by rw [h] at hsz; simpa using hsz.symm
    rw [if_pos (by simp; omega), if_pos (by simp), if_pos (by simp; omega)]
    have e : (s.extract 0 (((([x] : List UInt8).length : Nat) : Int) : Int).toNat).toList = [a] := by
      rw [ByteArray.toList_eq, ext_mk, mkB_data, h]; simp
    rw [e, mkB_list]
    congr 1
    simp [Bool.beq_eq_decide_eq]
theorem cutP_one (s : ByteArray) (x : UInt8) : strings_CutPrefix.f s (mkB [x]) = some (if s.data.toList.head? = some x then (s.extract 1 s.size, true) else (s, false)) := by
  unfold strings_CutPrefix.f stringslite_CutPrefix.f
  rw [hasP_one, Option.bind_some, mkB_size]
  by_cases h : s.data.toList.head? = some x
  · have hs : 1 ≤ s.size := by
      have hsz : s.data.toList.length = s.size := by simp
      cases hl : s.data.toList with
      | nil => rw [hl] at h; cases h
      | cons a t => rw [hl] at hsz; simp at hsz; omega
    rw [if_pos (by simpa using h), if_pos (by simp), if_pos (by simp; omega), if_pos h]
    rfl
  · rw [if_neg (by simpa using h), if_neg h]
    rfl
theorem progMark (s : ByteArray) (c : UInt8) : Ev (fun k => lex_Mark.f k s (c.toNat : Int)) (markL s.data.toList (c.toNat : Int)) := by
  by_cases h : s.data.toList.head? = some c
  · refine Ev.congr (f := fun k => (num_Small.f k (s.extract 1 s.size) 999).bind fun b => some (b.1, b.2)) (fun k => by simp only [lex_Mark.f]; rw [one_byte, cutP_one, if_pos h, Option.bind_some, if_pos rfl]) ?_
    cases hl : s.data.toList with
    | nil => rw [hl] at h; cases h
    | cons x t =>
      rw [hl] at h
      have hx : x = c := by simpa using h
      subst hx
      have := progSmall (s.extract 1 s.size) 999
      rw [ext_one s x t hl] at this
      refine Ev.bind this (Ev.congr (f := fun _ => some _) (fun k => ?_) (Ev.now _))
      simp [markL]
  · refine Ev.congr (f := fun _ => some (0, 10)) (fun k => by simp only [lex_Mark.f]; rw [one_byte, cutP_one, if_neg h, Option.bind_some, if_neg (by simp)]) (Ev.congr (f := fun _ => some _) (fun k => ?_) (Ev.now _))
    cases hl : s.data.toList with
    | nil => rfl
    | cons x t =>
      rw [hl] at h
      have hx : ¬ (x.toNat : Int) = (c.toNat : Int) := fun e => h (by have : x = c := UInt8.toNat_inj.1 (by omega)
                                                                      rw [this]; rfl)
      simp only [markL]; rw [if_neg hx]
theorem u8_of (a1 : Int) (h : (Lit.int .u8 a1).wf = true) : ∃ c : UInt8, a1 = (c.toNat : Int) := by
  have h2 : 0 ≤ a1 ∧ a1 ≤ 255 := by
    simp [Lit.wf, IntKind.min, IntKind.max, IntKind.signed, IntKind.bits] at h
    omega
  refine ⟨UInt8.ofNat a1.toNat, ?_⟩
  simp
  omega


end Go.Proofs.Ytcildbgckgodhab
