/- Plain: a list's pieces between a byte. -/
import Derived.Test.YtcildbgckgodhabLexF
import Derived.Test.YtcildbgckgodhabAid
namespace Go.Proofs.Ytcildbgckgodhab
open Go.RowKit Go.Proofs.YtcildbgckgodhabW.PrintWords Go.Proofs.YtcildbgckgodhabW.PrintLast
set_option linter.unusedVariables false
set_option linter.unusedSimpArgs false
/-- A list's pieces between a byte: never none. -/
def splitL (c : UInt8) : List UInt8 → List (List UInt8)
  | [] => [[]]
  | x :: t => if x = c then [] :: splitL c t else match splitL c t with
    | [] => [[x]]
    | h :: r => (x :: h) :: r
def joinHead (p : List UInt8) (l : List (List UInt8)) : List (List UInt8) := match l with
  | [] => [p]
  | h :: r => (p ++ h) :: r
theorem splitL_ne (c : UInt8) (l : List UInt8) : splitL c l ≠ [] := by
  cases l with
  | nil => simp [splitL]
  | cons x t => unfold splitL; split; exact (by simp); split <;> simp
theorem splitL_cons (c x : UInt8) (t : List UInt8) (h : x ≠ c) : splitL c (x :: t) = joinHead [x] (splitL c t) := by
  rw [splitL, if_neg h]
  cases splitL c t <;> simp [joinHead]
theorem splitL_hit (c : UInt8) (t : List UInt8) : splitL c (c :: t) = [] :: splitL c t := by rw [splitL, if_pos rfl]
theorem joinHead_nil (c : UInt8) (l : List UInt8) : joinHead [] (splitL c l) = splitL c l := by
  have := splitL_ne c l
  cases h : splitL c l with
  | nil => exact absurd h this
  | cons x t => simp [joinHead]
theorem joinHead_snoc (p : List UInt8) (x : UInt8) (l : List (List UInt8)) (h : l ≠ []) : joinHead (p ++ [x]) l = joinHead p (joinHead [x] l) := by
  cases l with
  | nil => exact absurd rfl h
  | cons a t => simp [joinHead]
theorem splitL_len (c : UInt8) (l : List UInt8) : (splitL c l).length ≤ l.length + 1 := by
  induction l with
  | nil => simp [splitL]
  | cons x t ih =>
    by_cases h : x = c
    · subst h; rw [splitL_hit]; simp; omega
    · rw [splitL_cons _ _ _ h]
      have := splitL_ne c t
      cases hs : splitL c t with
      | nil => exact absurd hs this
      | cons a b => rw [hs] at ih; simp [joinHead] at ih ⊢; omega
end Go.Proofs.Ytcildbgckgodhab
namespace Go.Proofs.Ytcildbgckgodhab
open Go.RowKit Go.Proofs.YtcildbgckgodhabW.PrintWords Go.Proofs.YtcildbgckgodhabW.PrintLast
set_option linter.unusedVariables false
set_option linter.unusedSimpArgs false
def blankTo (c : UInt8) : UInt8 := if c = 9 ∨ c = 13 then 32 else c
/-- The words of a line. -/
def wordsL (l : List UInt8) : List ByteArray := ((splitL 32 (((splitL 35 l).headD []).map blankTo)).map mkB).filter (fun x => x.toList != [])
theorem splitL_head_len (c : UInt8) (l : List UInt8) : ((splitL c l).headD []).length ≤ l.length := by
  induction l with
  | nil => simp [splitL]
  | cons x t ih =>
    by_cases h : x = c
    · subst h; rw [splitL_hit]; simp
    · rw [splitL_cons _ _ _ h]
      cases hs : splitL c t with
      | nil => simp [joinHead]
      | cons a b => rw [hs] at ih; simp [joinHead] at ih ⊢; omega
theorem mkB_size (l : List UInt8) : (mkB l).size = l.length := by simp [mkB, ByteArray.size]
theorem blankTo_yes (c : UInt8) (h : (c.toNat : Int) = 9 ∨ (c.toNat : Int) = 13) : blankTo c = 32 := by
  unfold blankTo
  rw [if_pos]
  rcases h with h | h
  · exact .inl (UInt8.toNat_inj.1 (by have : (9 : UInt8).toNat = 9 := rfl; omega))
  · exact .inr (UInt8.toNat_inj.1 (by have : (13 : UInt8).toNat = 13 := rfl; omega))
theorem blankTo_no (c : UInt8) (h : ¬ (c.toNat : Int) = 9) (h' : ¬ (c.toNat : Int) = 13) : blankTo c = c := by
  unfold blankTo
  rw [if_neg]
  intro e
  rcases e with e | e
  · apply h; rw [e]; rfl
  · apply h'; rw [e]; rfl
end Go.Proofs.Ytcildbgckgodhab
