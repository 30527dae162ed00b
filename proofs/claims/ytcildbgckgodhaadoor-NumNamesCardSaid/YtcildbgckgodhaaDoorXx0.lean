-- Written by a program of this session (the print, turned: some contracts by hand). Not trusted: Lean checks it.
import Derived.Test.YtcildbgckgodhaaDoorProg
import Derived.Below
import Derived.Deep.Draws
import Derived.Deep.AppendLies
import Derived.Maps.AppendAt
import Derived.OwnWalk
import Derived.Laws.BytesArg
import Derived.Laws.MakeOwn
import Derived.Laws.OwnMore
import Derived.Deep.OwnRows
import Derived.Tactics
import Derived.Lib.ConvBytes
import Derived.Laws.Slices
import Derived.WalkKit
import Derived.KernelRfl
import Derived.RowKit3
import Derived.Deep.LoopGhost
import Derived.Deep.QuietTactic
import Derived.BigQuiet
import Derived.WideLaws
import Derived.Deep.DeepCutAuto
import Derived.Deep.CutBlock
import Derived.Deep.RegionHeld3
import Derived.Laws.Rows
import Derived.Lib.AppendStr
import Derived.ArgAppend
import Derived.Laws.IdiomCopy
import Derived.OrdersHeld
import Derived.Laws.BitsLemmas
import Derived.RowKit
import Derived.Test.YtcildbgckgodhaaDoorWWords
import Derived.Test.YtcildbgckgodhaaDoorWLast
import Derived.Test.YtcildbgckgodhaaDoorWTab
import Derived.Test.YtcildbgckgodhaaDoorWFour
import Derived.Test.YtcildbgckgodhaaDoorWQPut
import Derived.Test.YtcildbgckgodhaaDoorWApart
import Derived.Test.YtcildbgckgodhaaDoorWArr
import Derived.Test.YtcildbgckgodhaaDoorWZeros
import Derived.Test.YtcildbgckgodhaaDoorWFoot
import Derived.Test.YtcildbgckgodhaaDoorWKept
import Derived.Test.YtcildbgckgodhaaDoorWShare
import Derived.Test.YtcildbgckgodhaaDoorWN
import Derived.Test.YtcildbgckgodhaaDoorWFootNe
import Derived.Test.YtcildbgckgodhaaDoorWAt
import Derived.Test.YtcildbgckgodhaaDoorWEqStruct
import Derived.Test.YtcildbgckgodhaaDoorWRepsOne
import Derived.Test.YtcildbgckgodhaaDoorWInv
import Derived.Test.YtcildbgckgodhaaDoorWInvWords
import Derived.Test.YtcildbgckgodhaaDoorWGuard
import Derived.Test.YtcildbgckgodhaaDoorWNEv
import Derived.Test.YtcildbgckgodhaaDoorWMore
namespace Go.Proofs.YtcildbgckgodhaaDoor.X
open Go.RowKit Go.Proofs.YtcildbgckgodhaaDoorW.PrintWords Go.Proofs.YtcildbgckgodhaaDoorW.PrintLast Go.Proofs.YtcildbgckgodhaaDoorW.PrintMore
attribute [local go_sem] max2_int min2_int max_two min_two max_three min_three max_four min_four   -- for this text's walks alone
set_option linter.unusedVariables false
set_option linter.unusedSimpArgs false



def errW : Option Int → Value
  | none => .nilIface
  | some c => .iface 0 (.int .i64 c)
theorem errW_none : errW none = .nilIface := rfl
theorem errW_some (c : Int) : errW (some c) = .iface 0 (.int .i64 c) := rfl

theorem info5 : (Tryd.prog.info? 5).map (fun i => (i.zero, i.size, i.bytes)) = some (some (.int .u8 0), 1, 1) := by kernel_rfl
-- the values' own types

end Go.Proofs.YtcildbgckgodhaaDoor.X
