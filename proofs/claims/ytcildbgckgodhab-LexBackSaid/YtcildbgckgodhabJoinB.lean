/- lex.Join's contract in the print's form: any words. -/
import Derived.Test.YtcildbgckgodhabAnyT
namespace Go.Proofs.Ytcildbgckgodhab
open Go.RowKit Go.Proofs.Ytcildbgckgodhab.X Go.Proofs.YtcildbgckgodhabW.PrintWords Go.Proofs.YtcildbgckgodhabW.PrintLast
set_option linter.unusedVariables false
def fewB (l : List (List ByteArray)) : Bool := decide (l.length ≤ 100000) && l.all fun ws => decide (ws.length ≤ 100000) && ws.all fun x => decide (x.size ≤ 100000)
theorem few_of (l : List (List ByteArray)) (h : fewB l = true) : Few l := by
  unfold fewB at h
  rw [Bool.and_eq_true] at h
  have hr := h.2
  rw [List.all_eq_true] at hr
  have hx : ∀ ws ∈ l, ∀ x ∈ ws, x.size ≤ 100000 := fun ws hw x hx => by
    have := hr ws hw
    rw [Bool.and_eq_true] at this
    exact of_decide_eq_true (List.all_eq_true.1 this.2 x hx)
  refine ⟨of_decide_eq_true h.1, fun ws hw => ?_, hx, fun ws hw x hxx => contains_any x (by have := hx ws hw x hxx; omega)⟩
  have := hr ws hw
  rw [Bool.and_eq_true] at this
  exact of_decide_eq_true this.1
def lex_Join.f (l0 : List (List ByteArray)) : Option (ByteArray × Int) := if fewB l0 = true then some (joinP l0) else none
theorem lex_Join.calls (A0 : Option Addr) (c0 : Nat) (l0 : List (List ByteArray)) (r1 : ByteArray) (r2 : Int) (w : World) (hr0 : Kd.C (Kd.slice 9 Kd.string) w A0 l0.length l0) (hc0 : l0.length ≤ c0) (h : lex_Join.f l0 = some (r1, r2)) :
    Calls Try.prog 6 #[.slice A0 l0.length c0] w fun e w' => e = .returned (.tuple #[.string r1, .int .i64 r2]) ∧ Below w.heap.size w w' := by
  unfold lex_Join.f at h
  by_cases hf : fewB l0 = true
  · rw [if_pos hf] at h
    have h' : joinP l0 = (r1, r2) := Option.some.inj h
    have := join_any A0 c0 l0 w hr0 hc0 (few_of l0 hf)
    rw [h'] at this
    exact this
  · rw [if_neg hf] at h; cases h
end Go.Proofs.Ytcildbgckgodhab
