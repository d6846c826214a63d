import Derived.Test.YtodfjcmjoogcgaaDoorWWords
import Derived.Test.YtodfjcmjoogcgaaDoorWLast
import Derived.Test.YtodfjcmjoogcgaaDoorWMore
import Derived.Shelf.Spec.TrailingZeros
namespace Go.Proofs.YtodfjcmjoogcgaaDoor.P
open Go.RowKit Go.Proofs.YtodfjcmjoogcgaaDoorW.PrintWords Go.Proofs.YtodfjcmjoogcgaaDoorW.PrintLast Go.Proofs.YtodfjcmjoogcgaaDoorW.PrintMore
set_option linter.unusedVariables false
set_option linter.unusedSimpArgs false
/-- What contracts ask of the library's variables. -/
structure GWF (w : World) : Prop where
  idle : True
  maxlen : ∃ n : Int, w.cell? ⟨1, 0, none⟩ = some (.int .i64 n)
  db64 : TabAt 3 Lib.deBruijn64tab w
/-- It was so at some world, of which all stands. -/
def GW (W : World) : Prop := ∃ W0 : World, GWF W0 ∧ Below W0.heap.size W0 W
theorem GW.start {W : World} (h : GWF W) : GW W := ⟨W, h, Below.refl _ _⟩
theorem GW.via {w W : World} (h : Aside0 (GW w)) (hb : Below w.heap.size w W) : GW W := by
  obtain ⟨W0, h0, h1⟩ := h.out
  exact ⟨W0, h0, below_then h1 h1.size hb⟩
theorem GWF.on {w W : World} (h : GWF w) (hb : Below w.heap.size w W) : GWF W where
  idle := trivial
  maxlen := by obtain ⟨n, hn⟩ := h.maxlen; exact ⟨n, pw_cell_below hb hn⟩
  db64 := fun j hj => pw_cell_below hb (h.db64 j hj)
theorem GW.now {W : World} (h : GW W) : GWF W := by
  obtain ⟨W0, h0, h1⟩ := h
  exact h0.on h1
end Go.Proofs.YtodfjcmjoogcgaaDoor.P
