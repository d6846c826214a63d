import Derived.Test.YtgkgljendffhlaaDoorProg
import Derived.Below
import Derived.Deep.Draws
import Derived.Deep.AppendLies
import Derived.Maps.AppendAt
import Derived.OwnWalk
import Derived.Laws.BytesArg
import Derived.Laws.MakeOwn
import Derived.Laws.OwnMore
import Derived.Deep.OwnRows
import Derived.Tactics
import Derived.Lib.ConvBytes
import Derived.Laws.Slices
import Derived.WalkKit
import Derived.KernelRfl
import Derived.RowKit3
import Derived.Deep.LoopGhost
import Derived.Deep.QuietTactic
import Derived.BigQuiet
import Derived.WideLaws
import Derived.Deep.DeepCutAuto
import Derived.Deep.CutBlock
import Derived.Deep.RegionHeld3
import Derived.Laws.Rows
import Derived.Lib.AppendStr
import Derived.ArgAppend
import Derived.Laws.IdiomCopy
import Derived.OrdersHeld
import Derived.Laws.BitsLemmas
import Derived.RowKit
import Derived.WalkSpells
import Derived.Outline
import Derived.Lib.SlBytesConst
import Derived.Lib.Hide
import Derived.Lib.SlTrimSet
import Derived.Test.YtgkgljendffhlaaDoorZPlaceEscapesShelf
import Derived.Test.YtgkgljendffhlaaDoorZPlaceEscapesHelp
import Derived.Test.YtgkgljendffhlaaDoorZPlaceEscapesGW
import Derived.Test.YtgkgljendffhlaaDoorWWords
import Derived.Test.YtgkgljendffhlaaDoorWLast
import Derived.Test.YtgkgljendffhlaaDoorWMore
import Derived.Laws.RangeAny
import Derived.Laws.Runes
import Derived.Shelf.Strings.IndexAny
import Derived.WalkMore
import Derived.Lib.OthersKept
import Derived.Deep.WholeRow
import Derived.Test.YtgkgljendffhlaaDoorWTab
import Derived.Test.YtgkgljendffhlaaDoorWApart
import Derived.Test.YtgkgljendffhlaaDoorWFoot
import Derived.Test.YtgkgljendffhlaaDoorWKept
import Derived.Test.YtgkgljendffhlaaDoorWShare
import Derived.Test.YtgkgljendffhlaaDoorWN
import Derived.Test.YtgkgljendffhlaaDoorWEqStruct
import Derived.Test.YtgkgljendffhlaaDoorWRepsOne
import Derived.Test.YtgkgljendffhlaaDoorWGuard
namespace Go.Proofs.YtgkgljendffhlaaDoor.P
open Go.RowKit Go.Proofs.YtgkgljendffhlaaDoorW.PrintWords Go.Proofs.YtgkgljendffhlaaDoorW.PrintLast Go.Proofs.YtgkgljendffhlaaDoorW.PrintMore
attribute [local go_sem] max2_int min2_int max_two min_two max_three min_three max_four min_four u8_div16 u8_mod16
set_option linter.unusedVariables false
set_option linter.unusedSimpArgs false
def errW : Option Int → Value
 | none => .nilIface
 | some c => .iface 0 (.int .i64 c)
theorem errW_none : errW none = .nilIface := rfl
theorem errW_some (c : Int) : errW (some c) = .iface 0 (.int .i64 c) := rfl
theorem info5 : (Tryd.prog.info? 5).map (fun i => (i.zero, i.size, i.bytes)) = some (some (.int .u8 0), 1, 1) := by kernel_rfl
theorem info9 : (Tryd.prog.info? 9).map (fun i => (i.zero, i.size, i.bytes)) = some (some (.string ⟨#[]⟩), 1, 16) := by kernel_rfl
end Go.Proofs.YtgkgljendffhlaaDoor.P
