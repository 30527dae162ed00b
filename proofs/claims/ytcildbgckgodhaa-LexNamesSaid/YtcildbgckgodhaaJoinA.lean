/- lex.Join's contract in the print's form, at ASCII words. -/
import Derived.Test.YtcildbgckgodhaaJoin
namespace Go.Proofs.Ytcildbgckgodhaa
open Go.RowKit Go.Proofs.Ytcildbgckgodhaa.X Go.Proofs.YtcildbgckgodhaaW.PrintWords Go.Proofs.YtcildbgckgodhaaW.PrintLast
set_option linter.unusedVariables false
def asciiB (x : ByteArray) : Bool := x.data.toList.all fun b => decide (b.toNat < 128)
def fewB (l : List (List ByteArray)) : Bool := decide (l.length ≤ 100000) && l.all fun ws => decide (ws.length ≤ 100000) && ws.all fun x => decide (x.size ≤ 100000) && asciiB x
theorem good_ascii (x : ByteArray) (hs : x.size ≤ 100000) (ha : asciiB x = true) : GoodCall x := by
  intro w
  refine any_ascii x w (by omega) (fun j b hj => ?_)
  have := List.all_eq_true.1 ha b (List.mem_of_getElem? hj)
  exact of_decide_eq_true this
theorem few_of (l : List (List ByteArray)) (h : fewB l = true) : Few l := by
  unfold fewB at h
  rw [Bool.and_eq_true] at h
  have hr := h.2
  rw [List.all_eq_true] at hr
  refine ⟨of_decide_eq_true h.1, fun ws hw => ?_, fun ws hw x hx => ?_, fun ws hw x hx => ?_⟩
  · have := hr ws hw
    rw [Bool.and_eq_true] at this
    exact of_decide_eq_true this.1
  · have := hr ws hw
    rw [Bool.and_eq_true] at this
    have := List.all_eq_true.1 this.2 x hx
    rw [Bool.and_eq_true] at this
    exact of_decide_eq_true this.1
  · have := hr ws hw
    rw [Bool.and_eq_true] at this
    have := List.all_eq_true.1 this.2 x hx
    rw [Bool.and_eq_true] at this
    exact good_ascii x (of_decide_eq_true this.1) this.2
def lex_Join.f (l0 : List (List ByteArray)) : Option (ByteArray × Int) := if fewB l0 = true then some (joinP l0) else none
theorem lex_Join.calls (A0 : Option Addr) (c0 : Nat) (l0 : List (List ByteArray)) (r1 : ByteArray) (r2 : Int) (w : World) (hr0 : Kd.C (Kd.slice 9 Kd.string) w A0 l0.length l0) (hc0 : l0.length ≤ c0) (h : lex_Join.f l0 = some (r1, r2)) :
    Calls Try.prog 18 #[.slice A0 l0.length c0] w fun e w' => e = .returned (.tuple #[.string r1, .int .i64 r2]) ∧ Below w.heap.size w w' := by
  unfold lex_Join.f at h
  by_cases hf : fewB l0 = true
  · rw [if_pos hf] at h
    have h' : joinP l0 = (r1, r2) := Option.some.inj h
    have := join_any A0 c0 l0 w hr0 hc0 (few_of l0 hf)
    rw [h'] at this
    exact this
  · rw [if_neg hf] at h; cases h
end Go.Proofs.Ytcildbgckgodhaa
