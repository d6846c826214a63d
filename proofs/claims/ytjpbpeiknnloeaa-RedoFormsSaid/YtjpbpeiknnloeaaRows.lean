/-
  No cell of these rows narrows 'for every input' (looked for: loops, veiled, ifaces, maps, wideKeys, modest, calm, conditions, laid).
  DERIVED. THE GIVEN ROWS OF THIS SEAT. 5 by the template 'for every input the law returns true; each argument reads behind the call as it read before'; 0 by the template 'total and deterministic' (their statements: YtjpbpeiknnloeaaTotals.lean).
  GIVEN WITH THE SEED: the statements are not yours to turn. If you find one false, say at which input.
  Laid BY PROGRAM, IN A SANDBOX (cutbox-rows.mjs): the forced cells as the released guide's own fill.sh prints them over the translation bf5fe59ca8beb82c… (all of the seat's roots in one cut). By AI agents, Wed Nov 11 2026. No macro, syntax, notation, axiom, sorry.
-/
import Derived.Test.YtjpbpeiknnloeaaChecked
import GoSem.Claim
import GoSem.ClaimJoined
import GoSem.ClaimMapViews
import Derived.JoinedTies
import Derived.KernelRfl
namespace Go.Proofs.Ytjpbpeiknnloeaa
/- THE CELL 'sum', in the pinned program and in every row, IS THE sha256 OF THE DUMP (.gsa) THAT YtjpbpeiknnloeaaProg.lean LOADS. Nothing in Lean hashes anything: it is a label: what it is worth is what the hold of that sum in a sandbox is worth. -/
noncomputable def Try.pinned : Pinned := { name := "ytjpbpeiknnloeaa", sum := "bf5fe59ca8beb82cc9df647ebc68ac52fac9e7f8c9c23a9ebe132725c35ce4d8", checked := Try.checked }
namespace Rows
def none {H : Type} : Left H := { results := [], args := [] }

/-- 'pantrylaw16.RedoAtomic': WHATEVER THE INPUT: true; the input reads as it did. -/
def redoAtomicSpec : ChangeSpec := { name := "redoAtomic", fn := fun _ => fun
  | [d1, d2, d3, d4, d5] => { results := [.lit (.bool true)], args := [d1, d2, d3, d4, d5] }
  | _ => none }
def redoAtomicRow : OpenClaim := { program := "ytjpbpeiknnloeaa", sum := "bf5fe59ca8beb82cc9df647ebc68ac52fac9e7f8c9c23a9ebe132725c35ce4d8", func := "pantry/pantrylaw16.RedoAtomic", spec := "redoAtomic", unfollowed := true, recurses := true, apart := false }
def RedoAtomicSaid : Prop := redoAtomicRow.holds Try.pinned (OpenSpec.ofChange redoAtomicSpec)

/-- ITS FALSE NEIGHBOUR: 'it returns false'. Refute it at one input. -/
def redoAtomicWrong : ChangeSpec := { name := "redoAtomic", fn := fun _ => fun
  | [d1, d2, d3, d4, d5] => { results := [.lit (.bool false)], args := [d1, d2, d3, d4, d5] }
  | _ => none }
def RedoAtomicWrongFalsely : Prop := redoAtomicRow.holds Try.pinned (OpenSpec.ofChange redoAtomicWrong)

/-- 'pantrylaw16.RedoRow': WHATEVER THE INPUT: true; the input reads as it did. -/
def redoRowSpec : ChangeSpec := { name := "redoRow", fn := fun _ => fun
  | [d] => { results := [.lit (.bool true)], args := [d] }
  | _ => none }
def redoRowRow : OpenClaim := { program := "ytjpbpeiknnloeaa", sum := "bf5fe59ca8beb82cc9df647ebc68ac52fac9e7f8c9c23a9ebe132725c35ce4d8", func := "pantry/pantrylaw16.RedoRow", spec := "redoRow", unfollowed := true, recurses := true, apart := false }
def RedoRowSaid : Prop := redoRowRow.holds Try.pinned (OpenSpec.ofChange redoRowSpec)

/-- ITS FALSE NEIGHBOUR: 'it returns false'. Refute it at one input. -/
def redoRowWrong : ChangeSpec := { name := "redoRow", fn := fun _ => fun
  | [d] => { results := [.lit (.bool false)], args := [d] }
  | _ => none }
def RedoRowWrongFalsely : Prop := redoRowRow.holds Try.pinned (OpenSpec.ofChange redoRowWrong)

/-- 'pantrylaw16.RedoApart': WHATEVER THE INPUT: true; the input reads as it did. -/
def redoApartSpec : ChangeSpec := { name := "redoApart", fn := fun _ => fun
  | [d1, d2, d3, d4] => { results := [.lit (.bool true)], args := [d1, d2, d3, d4] }
  | _ => none }
def redoApartRow : OpenClaim := { program := "ytjpbpeiknnloeaa", sum := "bf5fe59ca8beb82cc9df647ebc68ac52fac9e7f8c9c23a9ebe132725c35ce4d8", func := "pantry/pantrylaw16.RedoApart", spec := "redoApart", unfollowed := true, recurses := true, apart := false }
def RedoApartSaid : Prop := redoApartRow.holds Try.pinned (OpenSpec.ofChange redoApartSpec)

/-- ITS FALSE NEIGHBOUR: 'it returns false'. Refute it at one input. -/
def redoApartWrong : ChangeSpec := { name := "redoApart", fn := fun _ => fun
  | [d1, d2, d3, d4] => { results := [.lit (.bool false)], args := [d1, d2, d3, d4] }
  | _ => none }
def RedoApartWrongFalsely : Prop := redoApartRow.holds Try.pinned (OpenSpec.ofChange redoApartWrong)

/-- 'pantrylaw16.RedoForms': WHATEVER THE INPUT: true; the input reads as it did. -/
def redoFormsSpec : ChangeSpec := { name := "redoForms", fn := fun _ => fun
  | [d1, d2] => { results := [.lit (.bool true)], args := [d1, d2] }
  | _ => none }
def redoFormsRow : OpenClaim := { program := "ytjpbpeiknnloeaa", sum := "bf5fe59ca8beb82cc9df647ebc68ac52fac9e7f8c9c23a9ebe132725c35ce4d8", func := "pantry/pantrylaw16.RedoForms", spec := "redoForms", unfollowed := true, recurses := true, apart := false }
def RedoFormsSaid : Prop := redoFormsRow.holds Try.pinned (OpenSpec.ofChange redoFormsSpec)

/-- ITS FALSE NEIGHBOUR: 'it returns false'. Refute it at one input. -/
def redoFormsWrong : ChangeSpec := { name := "redoForms", fn := fun _ => fun
  | [d1, d2] => { results := [.lit (.bool false)], args := [d1, d2] }
  | _ => none }
def RedoFormsWrongFalsely : Prop := redoFormsRow.holds Try.pinned (OpenSpec.ofChange redoFormsWrong)

/-- 'pantrylaw16.RedoOnce': WHATEVER THE INPUT: true; the input reads as it did. -/
def redoOnceSpec : ChangeSpec := { name := "redoOnce", fn := fun _ => fun
  | [d1, d2] => { results := [.lit (.bool true)], args := [d1, d2] }
  | _ => none }
def redoOnceRow : OpenClaim := { program := "ytjpbpeiknnloeaa", sum := "bf5fe59ca8beb82cc9df647ebc68ac52fac9e7f8c9c23a9ebe132725c35ce4d8", func := "pantry/pantrylaw16.RedoOnce", spec := "redoOnce", unfollowed := true, recurses := true, apart := false }
def RedoOnceSaid : Prop := redoOnceRow.holds Try.pinned (OpenSpec.ofChange redoOnceSpec)

/-- ITS FALSE NEIGHBOUR: 'it returns false'. Refute it at one input. -/
def redoOnceWrong : ChangeSpec := { name := "redoOnce", fn := fun _ => fun
  | [d1, d2] => { results := [.lit (.bool false)], args := [d1, d2] }
  | _ => none }
def RedoOnceWrongFalsely : Prop := redoOnceRow.holds Try.pinned (OpenSpec.ofChange redoOnceWrong)

/- THE SECOND FORM. 'bulk': how many values and letters a reading holds, each counted each time it is reached (what is shared counts as often as it is met; a slice's spare places count too). A statement '..UptoSaid' is the law's where the arguments, and the package variables that the reading takes, are together of bulk at most 1048576: NARROWER than '..Said'. Prove '..Said' where nothing that the law and all that it calls make is longer than what came in: it says more and counts as full. Else prove '..UptoSaid'. A law counts once. -/
mutual
def uptoBulk {H : Type} : DataW H → Nat
  | .lit (.string bytes) => bytes.length + 1
  | .lit _ => 1
  | .nil => 1
  | .ptr d => uptoBulk d + 1
  | .slice elems spare => uptoBulkAll elems + uptoBulkAll spare + 1
  | .agg parts => uptoBulkAll parts + 1
  | .iface _ d => uptoBulk d + 1
  | .map entries => uptoBulkEntries entries + 1
  | .held _ => 1
def uptoBulkAll {H : Type} : List (DataW H) → Nat
  | [] => 0
  | d :: r => uptoBulk d + uptoBulkAll r
def uptoBulkEntries {H : Type} : List (Lit × DataW H) → Nat
  | [] => 0
  | x :: r => uptoBulkEntry x + uptoBulkEntries r
def uptoBulkEntry {H : Type} : Lit × DataW H → Nat
  | (.string bytes, d) => bytes.length + uptoBulk d + 1
  | (_, d) => uptoBulk d + 1
 end
def uptoSmall : (H : Type) → List (DataW H) → Bool := fun _ ds => decide (uptoBulkAll ds ≤ 1048576)
def OpenSpec.upto (s : _root_.Go.ChangeSpec) : _root_.Go.OpenSpec := { _root_.Go.OpenSpec.ofChange s with cond := some uptoSmall }

/-- 'pantrylaw16.RedoAtomic', WHERE WHAT IT READS IS OF BULK AT MOST 1048576: true; the input reads as it did. -/
def redoAtomicUptoRow : OpenClaim := { program := "ytjpbpeiknnloeaa", sum := "bf5fe59ca8beb82cc9df647ebc68ac52fac9e7f8c9c23a9ebe132725c35ce4d8", func := "pantry/pantrylaw16.RedoAtomic", spec := "redoAtomic", unfollowed := true, recurses := true, apart := false, narrowed := true }
def RedoAtomicUptoSaid : Prop := redoAtomicUptoRow.holds Try.pinned (OpenSpec.upto redoAtomicSpec)

/-- 'pantrylaw16.RedoRow', WHERE WHAT IT READS IS OF BULK AT MOST 1048576: true; the input reads as it did. -/
def redoRowUptoRow : OpenClaim := { program := "ytjpbpeiknnloeaa", sum := "bf5fe59ca8beb82cc9df647ebc68ac52fac9e7f8c9c23a9ebe132725c35ce4d8", func := "pantry/pantrylaw16.RedoRow", spec := "redoRow", unfollowed := true, recurses := true, apart := false, narrowed := true }
def RedoRowUptoSaid : Prop := redoRowUptoRow.holds Try.pinned (OpenSpec.upto redoRowSpec)

/-- 'pantrylaw16.RedoApart', WHERE WHAT IT READS IS OF BULK AT MOST 1048576: true; the input reads as it did. -/
def redoApartUptoRow : OpenClaim := { program := "ytjpbpeiknnloeaa", sum := "bf5fe59ca8beb82cc9df647ebc68ac52fac9e7f8c9c23a9ebe132725c35ce4d8", func := "pantry/pantrylaw16.RedoApart", spec := "redoApart", unfollowed := true, recurses := true, apart := false, narrowed := true }
def RedoApartUptoSaid : Prop := redoApartUptoRow.holds Try.pinned (OpenSpec.upto redoApartSpec)

/-- 'pantrylaw16.RedoForms', WHERE WHAT IT READS IS OF BULK AT MOST 1048576: true; the input reads as it did. -/
def redoFormsUptoRow : OpenClaim := { program := "ytjpbpeiknnloeaa", sum := "bf5fe59ca8beb82cc9df647ebc68ac52fac9e7f8c9c23a9ebe132725c35ce4d8", func := "pantry/pantrylaw16.RedoForms", spec := "redoForms", unfollowed := true, recurses := true, apart := false, narrowed := true }
def RedoFormsUptoSaid : Prop := redoFormsUptoRow.holds Try.pinned (OpenSpec.upto redoFormsSpec)

/-- 'pantrylaw16.RedoOnce', WHERE WHAT IT READS IS OF BULK AT MOST 1048576: true; the input reads as it did. -/
def redoOnceUptoRow : OpenClaim := { program := "ytjpbpeiknnloeaa", sum := "bf5fe59ca8beb82cc9df647ebc68ac52fac9e7f8c9c23a9ebe132725c35ce4d8", func := "pantry/pantrylaw16.RedoOnce", spec := "redoOnce", unfollowed := true, recurses := true, apart := false, narrowed := true }
def RedoOnceUptoSaid : Prop := redoOnceUptoRow.holds Try.pinned (OpenSpec.upto redoOnceSpec)

end Rows
end Go.Proofs.Ytjpbpeiknnloeaa
