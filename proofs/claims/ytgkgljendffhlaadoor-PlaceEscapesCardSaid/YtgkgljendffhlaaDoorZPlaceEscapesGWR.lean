import Derived.Test.YtgkgljendffhlaaDoorZPlaceEscapesGW
import Derived.Test.YtgkgljendffhlaaDoorRows
import Derived.Lib.LaidTab
import Derived.Shelf.Vars
namespace Go.Proofs.YtgkgljendffhlaaDoor.P
open Go.RowKit
set_option linter.unusedVariables false
theorem gwf_of {W : World} (hsh : W.ShapedOpen Tryd.prog)
    : GWF W where
  idle := trivial
  maxlen := cell_of_shapedOpen_int (g := 0) (zero := #[.int .i64 0]) (t := 3) hsh (of_decide_eq_true (by kernel_rfl)) (by kernel_rfl) rfl (by kernel_rfl) (by kernel_rfl) Tryd.underlying3
end Go.Proofs.YtgkgljendffhlaaDoor.P
