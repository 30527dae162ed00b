/- The walk of package lex: Lines. -/
import Derived.Test.YtcildbgckgodhabProg
import Derived.Test.YtcildbgckgodhabLexR
import Derived.Test.YtcildbgckgodhabLexK
import Derived.WalkKit
import Derived.WalkSpells
import Derived.WalkLawsBesides
import Derived.Laws.RangeAny
import Derived.Laws.Rows
import Derived.Great.BuildSlice
import Derived.Lib.OthersKept
import Derived.Lib.Hide
import Derived.PlainAid
namespace Go.Proofs.Ytcildbgckgodhab
open Go.RowKit Go.Proofs.YtcildbgckgodhabW.PrintWords Go.Proofs.YtcildbgckgodhabW.PrintLast Go.Proofs.YtcildbgckgodhabW.PrintMore
set_option linter.unusedVariables false
set_option linter.unusedSimpArgs false
def BuiltAt (P : Program) (t : Nat) (l : List (Nat × Value)) (cells : Array Value) : Prop := ∀ l', l' = l → P.built t l' = some cells
def LinesEnd (s : ByteArray) (w : World) (e : Ending) (w' : World) : Prop :=
  ∃ v, e = .returned (.tuple #[v, .int .i64 (linesP s).2]) ∧ Kd.S KL 32 w' w.heap.size (fun _ => True) v (linesP s).1 ∧ Below w.heap.size w w'
theorem lines_long (s : ByteArray) (w : World) (h : 16384 < s.size) : Calls Try.prog 8 #[.string s] w (LinesEnd s w) := by
  have hp : linesP s = ([], 4) := by unfold linesP; rw [if_pos h]
  have HP := Lib.hid hp
  clear hp
  go_enter Try.func8, Try.ntmps8
  go_wp2
  go_ret2
  exact ⟨.slice none 0 0, by rw [HP.out]; rfl, by rw [HP.out]; exact Kd.S_nil _ _ _ _ _, Below.refl _ _⟩
set_option maxHeartbeats 1600000 in
set_option maxRecDepth 100000 in
theorem lines_short (s : ByteArray) (w : World) (h : s.size ≤ 16384) : Calls Try.prog 8 #[.string s] w (LinesEnd s w) := by
  have hp : linesP s = match lexF s.data.toList [] [] with | some l => (l, 0) | none => ([], 4) := by unfold linesP; rw [if_neg (by omega)]; rfl
  have HP := Lib.hid hp
  clear hp
  have HBU : BuiltAt Try.prog 52 [(0, Value.string s), (2, Value.agg kindCells.toArray)] ([Value.string s, Value.int .i64 0] ++ kindCells ++ [Value.slice none 0 0, Value.slice none 0 0]).toArray := by
    rintro l rfl
    as_aux_lemma => kernel_rfl
  go_enter Try.func8, Try.ntmps8
  go_wp2_with fail
  refine (kinds_any _).mono ?_
  rintro e w1 ⟨rfl, hb1⟩
  go_wp2_with (refine wpList_buildTo rfl 52 #[(0, .tmp 8), (2, .tmp 9)] rfl _ rfl ([Value.string s, Value.int .i64 0] ++ kindCells ++ [Value.slice none 0 0, Value.slice none 0 0]).toArray (by refine HBU _ ?_; simp [Act.eval]) ?_)
  have hrd : RD w1.heap.size s 0 (.slice none 0 0) (.slice none 0 0) (w1.alloc (.cells (Value.string s :: Value.int .i64 0 :: (kindCells ++ [Value.slice none 0 0, Value.slice none 0 0])).toArray 52)) := heap_alloc_new w1 _
  refine (run_any w1.heap.size w.heap.size s h _ hb1.size (by simp; have := hb1.size; omega) hrd).mono ?_
  rintro e w2 ⟨rfl, hb2, hfin⟩
  have hb : Below w.heap.size w w2 := (hb1.alloc hb1.size _).trans hb2
  have HFIN := Lib.hid hfin
  clear hfin hrd
  cases hR : lexF s.data.toList [] [] with
  | none =>
    rw [hR] at HP HFIN
    clear hR
    go_wp2
    go_ret2
    exact ⟨.slice none 0 0, by rw [HP.out]; rfl, by rw [HP.out]; exact Kd.S_nil _ _ _ _ _, hb⟩
  | some l =>
    rw [hR] at HP HFIN
    obtain ⟨at_, vw, vl, h1, h2⟩ := HFIN.out l rfl
    clear hR
    have c67 := h1.c67
    go_wp2
    go_ret2
    exact ⟨vl, by rw [HP.out]; rfl, by rw [HP.out]; exact Kd.S_mono h2 (fun _ _ => trivial), hb⟩
theorem lines_any (s : ByteArray) (w : World) : Calls Try.prog 8 #[.string s] w (LinesEnd s w) := by
  rcases Nat.lt_or_ge 16384 s.size with h | h
  · exact lines_long s w h
  · exact lines_short s w h
/- The contract in the print's form. -/
def lex_Lines.f (a0 : ByteArray) : Option (List (List ByteArray) × Int) := some (linesP a0)
theorem lex_Lines.calls (a0 : ByteArray) (r1 : List (List ByteArray)) (r2 : Int) (w : World) (h : lex_Lines.f a0 = some (r1, r2)) :
    Calls Try.prog 8 #[.string a0] w fun e w' => ∃ v0_ : Value, e = .returned (.tuple #[v0_, .int .i64 r2]) ∧ Kd.S (Kd.slice 9 Kd.string) 32 w' w.heap.size (fun _ => True) v0_ r1 ∧ Below w.heap.size w w' := by
  have h' : linesP a0 = (r1, r2) := Option.some.inj h
  refine (lines_any a0 w).mono ?_
  rintro e w' ⟨v, rfl, hr, hb⟩
  rw [h'] at hr ⊢
  exact ⟨v, rfl, hr, hb⟩
end Go.Proofs.Ytcildbgckgodhab
