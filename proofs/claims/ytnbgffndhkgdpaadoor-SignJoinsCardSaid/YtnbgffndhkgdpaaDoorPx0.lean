-- Printed by wip/tools/extprint.py (the kit's print.py run with hand-written externals)
import Derived.Test.YtnbgffndhkgdpaaDoorProg
import Derived.Below
import Derived.Deep.Draws
import Derived.Deep.AppendLies
import Derived.Maps.AppendAt
import Derived.OwnWalk
import Derived.Laws.BytesArg
import Derived.Laws.MakeOwn
import Derived.Laws.OwnMore
import Derived.Deep.OwnRows
import Derived.Tactics
import Derived.Lib.ConvBytes
import Derived.Laws.Slices
import Derived.WalkKit
import Derived.KernelRfl
import Derived.RowKit3
import Derived.Deep.LoopGhost
import Derived.Deep.QuietTactic
import Derived.BigQuiet
import Derived.WideLaws
import Derived.Deep.DeepCutAuto
import Derived.Deep.CutBlock
import Derived.Deep.RegionHeld3
import Derived.Laws.Rows
import Derived.Lib.AppendStr
import Derived.ArgAppend
import Derived.Laws.IdiomCopy
import Derived.OrdersHeld
import Derived.Laws.BitsLemmas
import Derived.RowKit
import Derived.Lib.Hide
import Derived.Lib.SlTrimSet
import Derived.Test.YtnbgffndhkgdpaaDoorShelf
import Derived.Test.YtnbgffndhkgdpaaDoorHelp
import Derived.Test.YtnbgffndhkgdpaaDoorWWords
import Derived.Test.YtnbgffndhkgdpaaDoorWLast
import Derived.Test.YtnbgffndhkgdpaaDoorWTab
import Derived.Test.YtnbgffndhkgdpaaDoorWFour
import Derived.Test.YtnbgffndhkgdpaaDoorWQPut
import Derived.Test.YtnbgffndhkgdpaaDoorWApart
import Derived.Test.YtnbgffndhkgdpaaDoorWArr
import Derived.Test.YtnbgffndhkgdpaaDoorWZeros
import Derived.Test.YtnbgffndhkgdpaaDoorWFoot
import Derived.Test.YtnbgffndhkgdpaaDoorWKept
import Derived.Test.YtnbgffndhkgdpaaDoorWShare
import Derived.Test.YtnbgffndhkgdpaaDoorWN
import Derived.Test.YtnbgffndhkgdpaaDoorWFootNe
import Derived.Test.YtnbgffndhkgdpaaDoorWAt
import Derived.Test.YtnbgffndhkgdpaaDoorWEqStruct
import Derived.Test.YtnbgffndhkgdpaaDoorWRepsOne
import Derived.Test.YtnbgffndhkgdpaaDoorWInv
import Derived.Test.YtnbgffndhkgdpaaDoorWInvWords
import Derived.Test.YtnbgffndhkgdpaaDoorWGuard
import Derived.Test.YtnbgffndhkgdpaaDoorWNEv
import Derived.Test.YtnbgffndhkgdpaaDoorWMore
namespace Go.Proofs.YtnbgffndhkgdpaaDoor.P
open Go.RowKit Go.Proofs.YtnbgffndhkgdpaaDoorW.PrintWords Go.Proofs.YtnbgffndhkgdpaaDoorW.PrintLast Go.Proofs.YtnbgffndhkgdpaaDoorW.PrintMore
attribute [local go_sem] max2_int min2_int max_two min_two max_three min_three max_four min_four   -- for this text's walks alone
set_option linter.unusedVariables false
set_option linter.unusedSimpArgs false



def errW : Option Int → Value
  | none => .nilIface
  | some c => .iface 0 (.int .i64 c)
theorem errW_none : errW none = .nilIface := rfl
theorem errW_some (c : Int) : errW (some c) = .iface 0 (.int .i64 c) := rfl

theorem info4 : (Tryd.prog.info? 4).map (fun i => (i.zero, i.size, i.bytes)) = some (some (.bool false), 1, 1) := by kernel_rfl
theorem info5 : (Tryd.prog.info? 5).map (fun i => (i.zero, i.size, i.bytes)) = some (some (.int .u8 0), 1, 1) := by kernel_rfl
theorem info9 : (Tryd.prog.info? 9).map (fun i => (i.zero, i.size, i.bytes)) = some (some (.string ⟨#[]⟩), 1, 16) := by kernel_rfl
-- the values' own types

end Go.Proofs.YtnbgffndhkgdpaaDoor.P
