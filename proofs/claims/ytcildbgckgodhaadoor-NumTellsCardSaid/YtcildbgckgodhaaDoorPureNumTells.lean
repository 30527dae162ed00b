/- A text's number and a number's text, by the program and by the document's answer, are the same. No condition. -/
import Derived.Test.YtcildbgckgodhaaDoorXx2
import Derived.Test.YtcildbgckgodhaaDoorNumKit
namespace Go.Proofs.YtcildbgckgodhaaDoor.Pure
open Go.RowKit Go.Proofs.YtcildbgckgodhaaDoor Go.Proofs.YtcildbgckgodhaaDoor.X Go.Proofs.YtcildbgckgodhaaDoorW.PrintWords Go.Proofs.YtcildbgckgodhaaDoorW.PrintLast
theorem NumTells : fescuelaw01_NumTells.Pure := by
  intro s n _ hn
  obtain ⟨h0, h1⟩ := i64_of n hn
  apply Ev.rounds (r := true)
  by_cases h : (s.size : Int) > 1000
  · exact Ev.congr (f := fun _ => some true) (fun k => by simp only [fescuelaw01_NumTells.f]; rw [if_pos h]) (Ev.now _)
  · refine Ev.congr (f := fun k => (fescueref01_Read.f k s).bind fun bt111 => (if (readL s.data.toList).1 = bt111.1 then (if (readL s.data.toList).2 = bt111.2 then ((num_Write.f n).bind fun t113 => ((fescueref01_Write.f k n).bind fun t114 => (some (t113.toList == t114.toList)))) else (some false)) else (some false))) (fun k => by simp only [fescuelaw01_NumTells.f]; rw [if_neg h]; rfl) ?_
    refine Ev.bind (refRead s) ?_
    refine Ev.congr (f := fun k => (fescueref01_Write.f k n).bind fun t114 => (some ((⟨(itoaL n).toArray⟩ : ByteArray).toList == t114.toList))) (fun k => by rw [if_pos rfl, if_pos rfl, write_ok n h0 h1]; rfl) ?_
    exact Ev.bind (refWrite n h0 h1) (Ev.congr (f := fun _ => some true) (fun k => by simp) (Ev.now _))
end Go.Proofs.YtcildbgckgodhaaDoor.Pure
