import Derived.Test.YtllnleokjcimhaaDoorZEntrySameWWords
import Derived.Test.YtllnleokjcimhaaDoorZEntrySameWLast
import Derived.Test.YtllnleokjcimhaaDoorZEntrySameWMore
namespace Go.Proofs.YtllnleokjcimhaaDoor.P
open Go.RowKit Go.Proofs.YtllnleokjcimhaaDoorW.PrintWords Go.Proofs.YtllnleokjcimhaaDoorW.PrintLast Go.Proofs.YtllnleokjcimhaaDoorW.PrintMore
set_option linter.unusedVariables false
set_option linter.unusedSimpArgs false
/-- What contracts ask of the library's variables. -/
structure GWF (w : World) : Prop where
  idle : True
  maxlen : ∃ n : Int, w.cell? ⟨0, 0, none⟩ = some (.int .i64 n)
/-- It was so at some world, of which all stands. -/
def GW (W : World) : Prop := ∃ W0 : World, GWF W0 ∧ Below W0.heap.size W0 W
theorem GWF.on {w W : World} (h : GWF w) (hb : Below w.heap.size w W) : GWF W where
  idle := trivial
  maxlen := by obtain ⟨n, hn⟩ := h.maxlen; exact ⟨n, pw_cell_below hb hn⟩
end Go.Proofs.YtllnleokjcimhaaDoor.P
