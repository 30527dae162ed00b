/- The lines and the marks, by the program and by the document's answer, are the same: at any text and letter. No condition. -/
import Derived.Test.YtcildbgckgodhaaXx5
import Derived.Test.YtcildbgckgodhaaRefL
namespace Go.Proofs.Ytcildbgckgodhaa.Pure
open Go.RowKit Go.Proofs.Ytcildbgckgodhaa Go.Proofs.Ytcildbgckgodhaa.X Go.Proofs.YtcildbgckgodhaaW.PrintWords Go.Proofs.YtcildbgckgodhaaW.PrintLast
theorem lexTells_j0 (s : ByteArray) (c : UInt8) (b : Bool) : Ev (fun k => fescuelaw05_LexTells.j0 k s (c.toNat : Int) b) true := by
  cases b with
  | true => exact Ev.step (f := fun _ => some true) (fun k => by simp only [fescuelaw05_LexTells.j0]; rw [if_pos trivial]) (Ev.now _)
  | false =>
    refine Ev.step (f := fun k => (fescueref05_Lines.f k s).bind fun bt156 => ((lex_Mark.f k s (c.toNat : Int)).bind fun bt160 => ((fescueref05_Mark.f k s (c.toNat : Int)).bind fun bt162 => ((fescueref05_Same.f k (linesP s).1 bt156.1).bind fun t164 => (if t164 = true then (if (linesP s).2 = bt156.2 then (if bt160.1 = bt162.1 then (some (bt160.2 == bt162.2)) else (some false)) else (some false)) else (some false)))))) (fun k => by simp only [fescuelaw05_LexTells.j0, lex_Lines.f]; rw [if_neg (by simp)]; rfl) ?_
    refine Ev.bind (refLines s) (Ev.bind (progMark s c) (Ev.bind (refMark s _) (Ev.bind (same_lines s) ?_)))
    exact Ev.congr (f := fun _ => some true) (fun k => by simp) (Ev.now _)
theorem LexTells : fescuelaw05_LexTells.Pure := by
  intro s a1 _ ha
  obtain ⟨c, rfl⟩ := u8_of a1 ha
  apply Ev.rounds (r := true)
  by_cases h : (s.size : Int) > 2000
  · by_cases h2 : (s.size : Int) ≤ 16384
    · exact Ev.congr (fun k => by simp only [fescuelaw05_LexTells.f]; rw [if_pos h, if_pos h2]) (lexTells_j0 s c true)
    · exact Ev.congr (fun k => by simp only [fescuelaw05_LexTells.f]; rw [if_pos h, if_neg h2]) (lexTells_j0 s c _)
  · exact Ev.congr (fun k => by simp only [fescuelaw05_LexTells.f]; rw [if_neg h]) (lexTells_j0 s c _)
end Go.Proofs.Ytcildbgckgodhaa.Pure
