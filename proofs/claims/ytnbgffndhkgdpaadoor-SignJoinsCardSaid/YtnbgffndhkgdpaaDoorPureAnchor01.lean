import Derived.Test.YtnbgffndhkgdpaaDoorPureBase
import Derived.Test.YtnbgffndhkgdpaaDoorPx2
namespace Go.Proofs.YtnbgffndhkgdpaaDoor.Pure
open Go.RowKit Go.Proofs.YtnbgffndhkgdpaaDoor.P Go.Proofs.YtnbgffndhkgdpaaDoorW.PrintWords Go.Proofs.YtnbgffndhkgdpaaDoorW.PrintLast Go.Proofs.YtnbgffndhkgdpaaDoorW.PrintMore
set_option linter.unusedVariables false
set_option linter.unusedSimpArgs false
theorem anchor_at : pantrylaw01_anchor.f 60 = some true := by decide +kernel
theorem anchor_ev : Ev (fun k => pantrylaw01_anchor.f k) true := Ev.of (fun k => pantrylaw01_anchor.mono k) anchor_at
end Go.Proofs.YtnbgffndhkgdpaaDoor.Pure
