/- Plain definitions on bytes and numbers: no program in sight. -/
import Derived.WalkKit
namespace Go.Proofs.Ytcildbgckgodhab
open Go.RowKit
def isDig (c : UInt8) : Bool := decide (48 ≤ c.toNat) && decide (c.toNat ≤ 57)
def decVal (l : List UInt8) : Nat := l.foldl (fun a c => 10 * a + (c.toNat - 48)) 0
theorem decVal_snoc (l : List UInt8) (c : UInt8) : decVal (l ++ [c]) = 10 * decVal l + (c.toNat - 48) := by simp [decVal]
theorem take_snoc (s : ByteArray) (k : Nat) (h : k < s.size) : s.data.toList.take (k + 1) = s.data.toList.take k ++ [s[k]] := by
  rw [List.take_succ_eq_append_getElem (by simpa using h)]; rfl
theorem decVal_lt (l : List UInt8) (h : l.all isDig = true) : decVal l < 10 ^ l.length := by
  have key : ∀ n, n ≤ l.length → decVal (l.take n) < 10 ^ n := by
    intro n
    induction n with
    | zero => intro _; simp [decVal]
    | succ n ih =>
      intro hn
      have h1 := ih (by omega)
      rw [List.take_succ_eq_append_getElem (by omega), decVal_snoc]
      have h2 : isDig l[n] = true := List.all_eq_true.1 h _ (List.getElem_mem _)
      simp [isDig] at h2
      rw [Nat.pow_succ]
      omega
  have := key l.length (Nat.le_refl _)
  rwa [List.take_length] at this
/-- What a text tells, as the program reads it: the number, and the error's number. -/
def readL (l : List UInt8) : Int × Int :=
  let minus := l.head? == some 45
  let r := if minus then l.tail else l
  if r = [] ∨ 19 < r.length ∨ (r.head? = some 48 ∧ l ≠ [48]) then (0, 10)
  else if r.all isDig = false then (0, 10)
  else if (if minus then 9223372036854775808 else 9223372036854775807) < decVal r then (0, 10)
  else (if minus then -(decVal r : Int) else (decVal r : Int), 0)
end Go.Proofs.Ytcildbgckgodhab
