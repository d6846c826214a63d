import Derived.Test.YtodfjcmjoogcgaaDoorZBodyFramesGW
import Derived.Test.YtodfjcmjoogcgaaDoorRows
import Derived.Lib.LaidTab
import Derived.Shelf.Vars
import Derived.Lib.LaidU8
namespace Go.Proofs.YtodfjcmjoogcgaaDoor.P
open Go.RowKit
set_option linter.unusedVariables false
theorem tabat_of_reads {W : World} {g : Nat} {t e : TypeId} {n : Nat} {name : String} {tab : List Nat} (hg : Tryd.prog.globalNamed name = some g) (hty : (Tryd.prog.globals[g]?).map (·.type) = some t) (ht : Tryd.prog.underlying t = some (.array n e)) (he : Tryd.prog.underlying e = some (.int .u8)) (hce : Tryd.prog.cellsOf e = 1) (hct : Tryd.prog.cellsOf t = n)
    (h : Lib.VarReads Tryd.prog W name (Lib.tabData .u8 (tab.map fun (x : Nat) => (x : Int)))) : TabAt g tab W := by
  intro j hj
  obtain ⟨g', t', cs, fuel, p, hg', hty', hvar, hd⟩ := h
  obtain rfl := Option.some.inj (hg.symm.trans hg')
  obtain rfl := Option.some.inj (hty.symm.trans hty')
  have hcs := Lib.cells_of_tab ht he hce hct hd
  rw [World.var?_cell hg hvar j, ← Array.getElem?_toList, hcs]
  simp [List.getD, hj]
theorem gwf_of {W : World} (hsh : W.ShapedOpen Tryd.prog)
    (h : Lib.VarReads Tryd.prog W "math/bits.deBruijn64tab" Rows.laid_math_bits_deBruijn64tab)
    : GWF W where
  idle := trivial
  maxlen := cell_of_shapedOpen_int (g := 1) (zero := #[.int .i64 0]) (t := 3) hsh (of_decide_eq_true (by kernel_rfl)) (by kernel_rfl) rfl (by kernel_rfl) (by kernel_rfl) Tryd.underlying3
  db64 := tabat_of_reads (t := 139) (e := 5) (n := 64) (name := "math/bits.deBruijn64tab") (by kernel_rfl) (by kernel_rfl) (by kernel_rfl) (by kernel_rfl) (by kernel_rfl) (by kernel_rfl) (by
    have e : (Rows.laid_math_bits_deBruijn64tab : DataW Unit) = Lib.tabData .u8 (Lib.deBruijn64tab.map fun (x : Nat) => (x : Int)) := by rfl
    rw [← e]; exact h)
end Go.Proofs.YtodfjcmjoogcgaaDoor.P
