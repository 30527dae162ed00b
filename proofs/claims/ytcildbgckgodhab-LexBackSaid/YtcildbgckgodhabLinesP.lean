/- Plain: the lines of a text, as an answer. -/
import Derived.Test.YtcildbgckgodhabLines
import Derived.Test.YtcildbgckgodhabLexL
namespace Go.Proofs.Ytcildbgckgodhab
open Go.RowKit Go.Proofs.YtcildbgckgodhabW.PrintWords Go.Proofs.YtcildbgckgodhabW.PrintLast
set_option linter.unusedVariables false
set_option linter.unusedSimpArgs false
def ansL (o : Option (List (List ByteArray))) : List (List ByteArray) × Int := match o with
  | some r => (r, 0)
  | none => ([], 4)
theorem splitL_mem (c : UInt8) (l : List UInt8) : ∀ p ∈ splitL c l, p.length ≤ l.length := by
  induction l with
  | nil => simp [splitL]
  | cons x t ih =>
    intro p hp
    by_cases h : x = c
    · subst h
      rw [splitL_hit] at hp
      rcases List.mem_cons.1 hp with rfl | hp
      · simp
      · have := ih p hp; simp; omega
    · rw [splitL_cons _ _ _ h] at hp
      have hne := splitL_ne c t
      cases hs : splitL c t with
      | nil => exact absurd hs hne
      | cons a b =>
        rw [hs] at hp ih
        simp only [joinHead] at hp
        rcases List.mem_cons.1 hp with rfl | hp
        · have := ih a (by simp); simp; omega
        · have := ih p (by simp [hp]); simp; omega
theorem linesP_ans (s : ByteArray) (h : s.size ≤ 16384) : linesP s = ansL (goL (splitL 10 s.data.toList) []) := by
  unfold linesP ansL
  rw [if_neg (by omega), lexF_goL]
  rfl
end Go.Proofs.Ytcildbgckgodhab
