/- What a decoded rune covers: bytes of 128 or more, within the string. -/
import Derived.Laws.RangeAny
import Derived.Lib.OthersKept
import Derived.Lib.IndexAny
namespace Go.Proofs.Ytcildbgckgodhaa
open Go
set_option linter.unusedVariables false
set_option linter.unusedSimpArgs false
def Covers (s : ByteArray) (pos n : Nat) : Prop := 1 ≤ n ∧ pos + n ≤ s.size ∧ ∀ j, j < n → ∀ h : pos + j < s.size, 128 ≤ (s[pos + j]'h).toNat
theorem get_k (s : ByteArray) (i : Nat) (h : i < s.size) : s.get! i = s[i]'h := by
  simp [ByteArray.get!, getElem!_pos, h]
  rfl
theorem Covers.one (s : ByteArray) (pos : Nat) (h : pos < s.size) (ha : 128 ≤ (s[pos]'h).toNat) : Covers s pos 1 :=
  ⟨Nat.le_refl _, by omega, fun j hj h' => by obtain rfl : j = 0 := by omega
                                              exact ha⟩
theorem Covers.more {s : ByteArray} {pos n : Nat} (hc : Covers s pos n) (h : (decide (pos + n < s.size) && (s.get! (pos + n)).toNat / 64 == 2) = true) : Covers s pos (n + 1) := by
  rw [Bool.and_eq_true] at h
  have h1 : pos + n < s.size := of_decide_eq_true h.1
  have h2 : (s.get! (pos + n)).toNat / 64 = 2 := by simpa using h.2
  rw [get_k s _ h1] at h2
  refine ⟨by omega, by omega, fun j hj h' => ?_⟩
  by_cases e : j = n
  · subst e; omega
  · exact hc.2.2 j (by omega) h'
theorem decode_covers (s : ByteArray) (pos : Nat) (h : pos < s.size) (ha : 128 ≤ (s[pos]'h).toNat) : Covers s pos (Utf8.decode s pos).2 := by
  have hn : ¬ (s[pos]'h).toNat < 128 := by omega
  have p1 := Covers.one s pos h ha
  simp only [Utf8.decode, get_at s pos h, hn, if_false]
  repeat' split
  all_goals first
    | exact p1
    | (rename_i h1 _; simp only [Bool.and_eq_true] at h1; exact p1.more (by simp only [Bool.and_eq_true]; exact h1.2))
    | (rename_i h1 _; simp only [Bool.and_eq_true] at h1; exact (p1.more (by simp only [Bool.and_eq_true]; exact h1.1.2)).more (by simp only [Bool.and_eq_true]; exact h1.2))
    | (rename_i h1 _; simp only [Bool.and_eq_true] at h1; exact ((p1.more (by simp only [Bool.and_eq_true]; exact h1.1.1.2)).more (by simp only [Bool.and_eq_true]; exact h1.1.2)).more (by simp only [Bool.and_eq_true]; exact h1.2))
theorem noAny_covers {s : ByteArray} {chars : List UInt8} {pos n : Nat} (hch : ∀ b ∈ chars, b.toNat < 128) (hn : Lib.NoAny s.data.toList chars pos) (hc : Covers s pos n) : Lib.NoAny s.data.toList chars (pos + n) := by
  intro j b hj hb
  by_cases h : j < pos
  · exact hn j b h hb
  · obtain ⟨h1, h2, h3⟩ := hc
    have hlt : j < s.size := by omega
    have hg := h3 (j - pos) (by omega) (by omega)
    have he : pos + (j - pos) = j := by omega
    simp only [he] at hg
    have hb2 : s[j]'hlt = b := by
      have := hb
      rw [List.getElem?_eq_getElem (by simpa using hlt)] at this
      have h5 := Option.some.inj this
      simp only [Array.getElem_toList] at h5
      exact h5
    rw [hb2] at hg
    cases hcon : chars.contains b with
    | false => rfl
    | true => have := hch b (by simpa using hcon); omega
end Go.Proofs.Ytcildbgckgodhaa
