/- An argument of rows of strings, as it is read. -/
import Derived.Test.YtcildbgckgodhabWMore
import Derived.Deep.Slices
import Derived.SliceStrings
import Derived.WideShapes
namespace Go.Proofs.Ytcildbgckgodhab
open Go.RowKit Go.ChangeShapes Go.WideShapes Go.Deep Go.Proofs.YtcildbgckgodhabW.PrintWords Go.Proofs.YtcildbgckgodhabW.PrintLast
set_option linter.unusedVariables false
set_option linter.unusedSimpArgs false
theorem open_string_row {H : Type} {enc : TypeId × Value → H} {P : Program} {W : World} {base : Nat} {held : Bool} {e q : TypeId} {fuel : Nat} {v : Value} {x : DataW H × List MemPlace}
    (he : P.underlying e = some (.slice q)) (hq : P.underlying q = some .string) (cq : P.cellsOf q = 1) (h : DataW.trod enc P W base (fun _ => true) held fuel e [v] = some x) :
    ∃ row, (Kd.slice q Kd.string).K W row [v] := by
  rcases open_strings he hq cq h with ⟨hcs, _⟩ | ⟨a, len, cap, ss, hcs, _, hl, hm, hz, _, hcell, _⟩
  · exact ⟨[], none, 0, by simpa using hcs, Nat.le_refl _, Kd.C_nil _ _⟩
  · simp only [if_true] at hz
    have ht : (ss.take len).length = len := by rw [List.length_take]; omega
    refine ⟨ss.take len, some a, cap, by rw [ht]; exact hcs, by omega, rfl, by rw [ht]; unfold maxLen at hm; omega, fun _ => ⟨a, rfl, fun j p hp => ⟨[.string p], rfl, rfl, fun i u hu => ?_⟩⟩⟩
    have hi : i = 0 := by
      have := (List.getElem?_eq_some_iff.1 hu).1
      simpa using this
    subst hi
    have hu' : Value.string p = u := by simpa using hu
    subst hu'
    have hj := (List.getElem?_eq_some_iff.1 hp).1
    rw [ht] at hj
    have hg := hcell j (by omega)
    have hp2 : ss.getD j ByteArray.empty = p := by
      rw [List.getElem?_take_of_lt hj] at hp
      rw [List.getD_eq_getElem?_getD, hp]; rfl
    rw [hp2] at hg
    rw [show Kd.string.sz = 1 from rfl, Nat.mul_one, Nat.add_zero]
    exact hg
theorem open_rows {H : Type} {enc : TypeId × Value → H} {P : Program} {W : World} {base : Nat} {held : Bool} {t e q : TypeId} {A : Option Addr} {len cap : Nat} {d : DataW H} {ps : List MemPlace}
    (ht : P.underlying t = some (.slice e)) (he : P.underlying e = some (.slice q)) (hq : P.underlying q = some .string) (ce : P.cellsOf e = 1) (cq : P.cellsOf q = 1)
    (h : DataW.Trod enc P W base (fun _ => true) held t (.slice A len cap) d ps) : ∃ l, l.length = len ∧ Kd.C (Kd.slice q Kd.string) W A l.length l ∧ l.length ≤ cap := by
  obtain ⟨fuel, hf⟩ := h
  rcases open_slice1 ht ce hf with ⟨hcs, _⟩ | ⟨a, len', cap', m, n, V, D, Pl, hcs, _, hl, hm, hmm, _, hel⟩
  · simp [Value.cells] at hcs
    obtain ⟨rfl, rfl, rfl⟩ := hcs
    exact ⟨[], rfl, Kd.C_nil _ _, Nat.le_refl _⟩
  · simp [Value.cells] at hcs
    obtain ⟨rfl, rfl, rfl⟩ := hcs
    simp only [if_true] at hmm
    have each : ∀ i, ∃ row, i < len → (Kd.slice q Kd.string).K W row [V i] := fun i => by
      by_cases hi : i < len
      · obtain ⟨row, hr⟩ := open_string_row he hq cq (hel i (by omega)).2
        exact ⟨row, fun _ => hr⟩
      · exact ⟨[], fun h => absurd h hi⟩
    let f := fun i => Classical.choose (each i)
    have hf2 : ∀ i, i < len → (Kd.slice q Kd.string).K W (f i) [V i] := fun i => Classical.choose_spec (each i)
    have hlen : ((List.range len).map f).length = len := by simp
    refine ⟨(List.range len).map f, hlen, ?_, by omega⟩
    rw [hlen]
    refine ⟨hlen, by unfold maxLen at hm; omega, fun _ => ⟨a, rfl, fun j p hp => ?_⟩⟩
    have hj := (List.getElem?_eq_some_iff.1 hp).1
    rw [hlen] at hj
    have hp2 : p = f j := by
      have := hp
      simp [hj] at this
      exact this.symm
    subst hp2
    refine ⟨[V j], rfl, hf2 j hj, fun i u hu => ?_⟩
    have hi : i = 0 := by
      have := (List.getElem?_eq_some_iff.1 hu).1
      simpa using this
    subst hi
    have hu' : V j = u := by simpa using hu
    subst hu'
    rw [show (Kd.slice q Kd.string).sz = 1 from rfl, Nat.mul_one, Nat.add_zero]
    exact (hel j (by omega)).1
end Go.Proofs.Ytcildbgckgodhab
