import Derived.Test.YtgkgljendffhlaaDoorWWords
import Derived.Test.YtgkgljendffhlaaDoorWLast
import Derived.Test.YtgkgljendffhlaaDoorWMore
namespace Go.Proofs.YtgkgljendffhlaaDoor.P
open Go.RowKit Go.Proofs.YtgkgljendffhlaaDoorW.PrintWords Go.Proofs.YtgkgljendffhlaaDoorW.PrintLast Go.Proofs.YtgkgljendffhlaaDoorW.PrintMore
set_option linter.unusedVariables false
set_option linter.unusedSimpArgs false
/-- What contracts ask of the library's variables. -/
structure GWF (w : World) : Prop where
  idle : True
  maxlen : ∃ n : Int, w.cell? ⟨0, 0, none⟩ = some (.int .i64 n)
/-- It was so at some world, of which all stands. -/
def GW (W : World) : Prop := ∃ W0 : World, GWF W0 ∧ Below W0.heap.size W0 W
theorem GW.start {W : World} (h : GWF W) : GW W := ⟨W, h, Below.refl _ _⟩
theorem GW.via {w W : World} (h : Aside0 (GW w)) (hb : Below w.heap.size w W) : GW W := by
  obtain ⟨W0, h0, h1⟩ := h.out
  exact ⟨W0, h0, below_then h1 h1.size hb⟩
theorem GWF.on {w W : World} (h : GWF w) (hb : Below w.heap.size w W) : GWF W where
  idle := trivial
  maxlen := by obtain ⟨n, hn⟩ := h.maxlen; exact ⟨n, pw_cell_below hb hn⟩
theorem GW.now {W : World} (h : GW W) : GWF W := by
  obtain ⟨W0, h0, h1⟩ := h
  exact h0.on h1
end Go.Proofs.YtgkgljendffhlaaDoor.P
