/- The chapter's examples hold. -/
import Derived.Test.YtcildbgckgodhabSameLs
import Derived.Test.YtcildbgckgodhabXx2
import Derived.Test.YtcildbgckgodhabParts
import Derived.Test.YtcildbgckgodhabMarkP
import Derived.Test.YtcildbgckgodhabSameL
namespace Go.Proofs.Ytcildbgckgodhab
open Go.RowKit Go.Proofs.Ytcildbgckgodhab.X Go.Proofs.YtcildbgckgodhabW.PrintWords Go.Proofs.YtcildbgckgodhabW.PrintLast
set_option linter.unusedVariables false
set_option linter.unusedSimpArgs false
theorem are_ok (s : ByteArray) (l : List (List ByteArray)) (h : linesP s = (l, 0)) : Ev (fun k => fescuelaw05_are.f k s l) true := by
  refine Ev.congr (f := fun k => (fescueref05_Same.f k l l).bind fun t => some t) (fun k => by simp only [fescuelaw05_are.f, lex_Lines.f, Option.bind_some, h]; rw [if_pos trivial]) ?_
  have := same_lines s
  rw [h] at this
  exact Ev.bind this (Ev.now _)
theorem alive_ok : Ev (fun k => fescuelaw05_alive.f k) true := by
  have h1 : linesP (⟨#[97, 32, 32, 98, 32, 35, 32, 99, 10, 35, 10, 9, 100]⟩ : ByteArray) = ([[⟨#[97]⟩, ⟨#[98]⟩], [⟨#[100]⟩]], 0) := by
    rw [linesP_ans _ (by decide)]; decide +kernel
  have m1 : markL (⟨#[114, 49, 50]⟩ : ByteArray).data.toList ((114 : UInt8).toNat : Int) = (12, 0) := by decide +kernel
  have m2 : markL (⟨#[114, 48, 49, 50]⟩ : ByteArray).data.toList ((114 : UInt8).toNat : Int) = (0, 10) := by decide +kernel
  have p1 := progMark (⟨#[114, 49, 50]⟩ : ByteArray) 114
  have p2 := progMark (⟨#[114, 48, 49, 50]⟩ : ByteArray) 114
  rw [m1] at p1
  rw [m2] at p2
  refine Ev.bind (are_ok _ _ h1) ?_
  refine Ev.congr (f := fun k => (fescuelaw05_mark.f k (⟨#[114, 49, 50]⟩ : ByteArray) 12).bind fun t184 => (if t184 = true then ((fescuelaw05_none.f k (⟨#[114, 48, 49, 50]⟩ : ByteArray)).bind fun t185 => (some t185)) else (some false))) (fun k => by rw [if_pos rfl]) ?_
  have q1 : Ev (fun k => fescuelaw05_mark.f k (⟨#[114, 49, 50]⟩ : ByteArray) 12) true := Ev.bind p1 (Ev.congr (f := fun _ => some true) (fun k => by rfl) (Ev.now _))
  have q2 : Ev (fun k => fescuelaw05_none.f k (⟨#[114, 48, 49, 50]⟩ : ByteArray)) true := Ev.bind p2 (Ev.congr (f := fun _ => some true) (fun k => by rfl) (Ev.now _))
  refine Ev.bind q1 (Ev.congr (fun k => by rw [if_pos rfl]) (Ev.bind q2 (Ev.now _)))

end Go.Proofs.Ytcildbgckgodhab
