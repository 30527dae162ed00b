/- For this seat's cards: what the rows' list gives (the table that num.Write reads), and a world that holds the three tables. No condition. -/
import Derived.Test.YtcildbgckgodhaaDoorCards
import Derived.Test.YtcildbgckgodhaaDoorTie
import Derived.Test.YtcildbgckgodhaaDoorNumF
import Derived.WalkKit
import Derived.ProofKit
import Derived.OpenShut
import Derived.LaidLaws
import Derived.Deep.DeepHandedRow
import Derived.Lib.LaidTab
namespace Go.Proofs.YtcildbgckgodhaaDoor
open Go.ChangeShapes Go.WideShapes Go.ChangeAt Go.RowKit
set_option linter.unusedVariables false
theorem gTab : Tryd.prog.globalNamed "internal/strconv.uint64pow10" = some 0 := by kernel_rfl
theorem gTabType : (Tryd.prog.globals[0]?).map (·.type) = some 52 := by kernel_rfl
theorem cellsTab : Tryd.prog.cellsOf 52 = 20 := by kernel_rfl
theorem cellsOne : Tryd.prog.cellsOf 39 = 1 := by kernel_rfl
theorem laidMet_tail {P : Program} {n : String} {d : DataW Unit} {l : List (String × DataW Unit)} {W : World} (h : laidMet P ((n, d) :: l) W) : laidMet P l W := by
  obtain ⟨ps, ⟨g, t, cs, fuel, p, q, h1, h2, h3, h4, h5, rfl⟩, hnd, hall⟩ := h
  refine ⟨q, h5, ?_, fun b off hm => hall b off (List.mem_append_right _ hm)⟩
  exact (List.nodup_append.1 hnd).2.1
abbrev threeTabs : List (String × DataW Unit) := [("math/bits.deBruijn32tab", Rows.laid_math_bits_deBruijn32tab), ("math/bits.deBruijn64tab", Rows.laid_math_bits_deBruijn64tab), ("internal/strconv.uint64pow10", Rows.laid_internal_strconv_uint64pow10)]
theorem table {W : World} (h : laidMetH Tryd.prog threeTabs W) : PowTab W :=
  Lib.tabIs_of_head (rest := []) gTab gTabType Tryd.underlying52 Tryd.underlying39 cellsOne cellsTab (laidMet_tail (laidMet_tail (show laidMet Tryd.prog threeTabs W from h)))
def valsOf : DataW Unit → List Value
  | .agg l => l.map fun
    | .lit (.int k n) => .int k n
    | _ => .bool false
  | _ => []
def fillBy (d : DataW Unit) : Obj → Obj
  | .cells _ t frozen => .cells (valsOf d).toArray t frozen
  | o => o
/-- A world for the witness: the settled one, the three tables holding what their initialisers lay. -/
noncomputable def laidWorld (os : Os) : World :=
  { World.holding Tryd.prog os ⟨#[], #[], []⟩ with heap := (((World.holding Tryd.prog os ⟨#[], #[], []⟩).heap.modify 0 (fillBy Rows.laid_internal_strconv_uint64pow10)).modify 1 (fillBy Rows.laid_math_bits_deBruijn32tab)).modify 2 (fillBy Rows.laid_math_bits_deBruijn64tab) }
theorem laid_met (os : Os) (args : Array Value) : laidMet Tryd.prog threeTabs ((laidWorld os).forCall (fun _ _ => 0) ⟨#[], args, []⟩).memory :=
  laidMet_of_run' 8 (by kernel_rfl) (by kernel_rfl)
theorem own : ownKnob Tryd.prog.godebug = none := by kernel_rfl
end Go.Proofs.YtcildbgckgodhaaDoor
