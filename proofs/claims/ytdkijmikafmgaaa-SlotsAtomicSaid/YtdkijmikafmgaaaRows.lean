/-
  No cell of these rows narrows 'for every input' (looked for: loops, veiled, ifaces, maps, wideKeys, modest, calm, conditions, laid).
  DERIVED. THE GIVEN ROWS OF THIS SEAT. 5 by the template 'for every input the law returns true; each argument reads behind the call as it read before'; 0 by the template 'total and deterministic' (their statements: YtdkijmikafmgaaaTotals.lean).
  GIVEN WITH THE SEED: the statements are not yours to turn. If you find one false, say at which input.
  Laid BY PROGRAM, IN A SANDBOX (cutbox-rows.mjs): the forced cells as the released guide's own fill.sh prints them over the translation 4298473d6bb9dda7… (all of the seat's roots in one cut). By AI agents, Wed Nov 11 2026. No macro, syntax, notation, axiom, sorry.
-/
import Derived.Test.YtdkijmikafmgaaaChecked
import GoSem.Claim
import GoSem.ClaimJoined
import GoSem.ClaimMapViews
import Derived.JoinedTies
import Derived.KernelRfl
namespace Go.Proofs.Ytdkijmikafmgaaa
/- THE CELL 'sum', in the pinned program and in every row, IS THE sha256 OF THE DUMP (.gsa) THAT YtdkijmikafmgaaaProg.lean LOADS. Nothing in Lean hashes anything: it is a label: what it is worth is what the hold of that sum in a sandbox is worth. -/
noncomputable def Try.pinned : Pinned := { name := "ytdkijmikafmgaaa", sum := "4298473d6bb9dda7421916c38b169f50164e02167c157a65029874ee61380c5e", checked := Try.checked }
namespace Rows
def none {H : Type} : Left H := { results := [], args := [] }

/-- 'pantrylaw17.SlotsHold': WHATEVER THE INPUT: true; the input reads as it did. -/
def slotsHoldSpec : ChangeSpec := { name := "slotsHold", fn := fun _ => fun
  | [d] => { results := [.lit (.bool true)], args := [d] }
  | _ => none }
def slotsHoldRow : OpenClaim := { program := "ytdkijmikafmgaaa", sum := "4298473d6bb9dda7421916c38b169f50164e02167c157a65029874ee61380c5e", func := "pantry/pantrylaw17.SlotsHold", spec := "slotsHold", unfollowed := true, recurses := true, apart := false }
def SlotsHoldSaid : Prop := slotsHoldRow.holds Try.pinned (OpenSpec.ofChange slotsHoldSpec)

/-- ITS FALSE NEIGHBOUR: 'it returns false'. Refute it at one input. -/
def slotsHoldWrong : ChangeSpec := { name := "slotsHold", fn := fun _ => fun
  | [d] => { results := [.lit (.bool false)], args := [d] }
  | _ => none }
def SlotsHoldWrongFalsely : Prop := slotsHoldRow.holds Try.pinned (OpenSpec.ofChange slotsHoldWrong)

/-- 'pantrylaw17.SlotsSizes': WHATEVER THE INPUT: true; the input reads as it did. -/
def slotsSizesSpec : ChangeSpec := { name := "slotsSizes", fn := fun _ => fun
  | [d1, d2] => { results := [.lit (.bool true)], args := [d1, d2] }
  | _ => none }
def slotsSizesRow : OpenClaim := { program := "ytdkijmikafmgaaa", sum := "4298473d6bb9dda7421916c38b169f50164e02167c157a65029874ee61380c5e", func := "pantry/pantrylaw17.SlotsSizes", spec := "slotsSizes", unfollowed := true, recurses := true, apart := false }
def SlotsSizesSaid : Prop := slotsSizesRow.holds Try.pinned (OpenSpec.ofChange slotsSizesSpec)

/-- ITS FALSE NEIGHBOUR: 'it returns false'. Refute it at one input. -/
def slotsSizesWrong : ChangeSpec := { name := "slotsSizes", fn := fun _ => fun
  | [d1, d2] => { results := [.lit (.bool false)], args := [d1, d2] }
  | _ => none }
def SlotsSizesWrongFalsely : Prop := slotsSizesRow.holds Try.pinned (OpenSpec.ofChange slotsSizesWrong)

/-- 'pantrylaw17.SlotsOwn': WHATEVER THE INPUT: true; the input reads as it did. -/
def slotsOwnSpec : ChangeSpec := { name := "slotsOwn", fn := fun _ => fun
  | [d] => { results := [.lit (.bool true)], args := [d] }
  | _ => none }
def slotsOwnRow : OpenClaim := { program := "ytdkijmikafmgaaa", sum := "4298473d6bb9dda7421916c38b169f50164e02167c157a65029874ee61380c5e", func := "pantry/pantrylaw17.SlotsOwn", spec := "slotsOwn", unfollowed := true, recurses := true, apart := false }
def SlotsOwnSaid : Prop := slotsOwnRow.holds Try.pinned (OpenSpec.ofChange slotsOwnSpec)

/-- ITS FALSE NEIGHBOUR: 'it returns false'. Refute it at one input. -/
def slotsOwnWrong : ChangeSpec := { name := "slotsOwn", fn := fun _ => fun
  | [d] => { results := [.lit (.bool false)], args := [d] }
  | _ => none }
def SlotsOwnWrongFalsely : Prop := slotsOwnRow.holds Try.pinned (OpenSpec.ofChange slotsOwnWrong)

/-- 'pantrylaw17.SlotsAtomic': WHATEVER THE INPUT: true; the input reads as it did. -/
def slotsAtomicSpec : ChangeSpec := { name := "slotsAtomic", fn := fun _ => fun
  | [d1, d2, d3, d4] => { results := [.lit (.bool true)], args := [d1, d2, d3, d4] }
  | _ => none }
def slotsAtomicRow : OpenClaim := { program := "ytdkijmikafmgaaa", sum := "4298473d6bb9dda7421916c38b169f50164e02167c157a65029874ee61380c5e", func := "pantry/pantrylaw17.SlotsAtomic", spec := "slotsAtomic", unfollowed := true, recurses := true, apart := false }
def SlotsAtomicSaid : Prop := slotsAtomicRow.holds Try.pinned (OpenSpec.ofChange slotsAtomicSpec)

/-- ITS FALSE NEIGHBOUR: 'it returns false'. Refute it at one input. -/
def slotsAtomicWrong : ChangeSpec := { name := "slotsAtomic", fn := fun _ => fun
  | [d1, d2, d3, d4] => { results := [.lit (.bool false)], args := [d1, d2, d3, d4] }
  | _ => none }
def SlotsAtomicWrongFalsely : Prop := slotsAtomicRow.holds Try.pinned (OpenSpec.ofChange slotsAtomicWrong)

/-- 'pantrylaw17.SlotsPlays': WHATEVER THE INPUT: true; the input reads as it did. -/
def slotsPlaysSpec : ChangeSpec := { name := "slotsPlays", fn := fun _ => fun
  | [d1, d2] => { results := [.lit (.bool true)], args := [d1, d2] }
  | _ => none }
def slotsPlaysRow : OpenClaim := { program := "ytdkijmikafmgaaa", sum := "4298473d6bb9dda7421916c38b169f50164e02167c157a65029874ee61380c5e", func := "pantry/pantrylaw17.SlotsPlays", spec := "slotsPlays", unfollowed := true, recurses := true, apart := false }
def SlotsPlaysSaid : Prop := slotsPlaysRow.holds Try.pinned (OpenSpec.ofChange slotsPlaysSpec)

/-- ITS FALSE NEIGHBOUR: 'it returns false'. Refute it at one input. -/
def slotsPlaysWrong : ChangeSpec := { name := "slotsPlays", fn := fun _ => fun
  | [d1, d2] => { results := [.lit (.bool false)], args := [d1, d2] }
  | _ => none }
def SlotsPlaysWrongFalsely : Prop := slotsPlaysRow.holds Try.pinned (OpenSpec.ofChange slotsPlaysWrong)

/- THE SECOND FORM. 'bulk': how many values and letters a reading holds, each counted each time it is reached (what is shared counts as often as it is met; a slice's spare places count too). A statement '..UptoSaid' is the law's where the arguments, and the package variables that the reading takes, are together of bulk at most 1048576: NARROWER than '..Said'. Prove '..Said' where nothing that the law and all that it calls make is longer than what came in: it says more and counts as full. Else prove '..UptoSaid'. A law counts once. -/
mutual
def uptoBulk {H : Type} : DataW H → Nat
  | .lit (.string bytes) => bytes.length + 1
  | .lit _ => 1
  | .nil => 1
  | .ptr d => uptoBulk d + 1
  | .slice elems spare => uptoBulkAll elems + uptoBulkAll spare + 1
  | .agg parts => uptoBulkAll parts + 1
  | .iface _ d => uptoBulk d + 1
  | .map entries => uptoBulkEntries entries + 1
  | .held _ => 1
def uptoBulkAll {H : Type} : List (DataW H) → Nat
  | [] => 0
  | d :: r => uptoBulk d + uptoBulkAll r
def uptoBulkEntries {H : Type} : List (Lit × DataW H) → Nat
  | [] => 0
  | x :: r => uptoBulkEntry x + uptoBulkEntries r
def uptoBulkEntry {H : Type} : Lit × DataW H → Nat
  | (.string bytes, d) => bytes.length + uptoBulk d + 1
  | (_, d) => uptoBulk d + 1
 end
def uptoSmall : (H : Type) → List (DataW H) → Bool := fun _ ds => decide (uptoBulkAll ds ≤ 1048576)
def OpenSpec.upto (s : _root_.Go.ChangeSpec) : _root_.Go.OpenSpec := { _root_.Go.OpenSpec.ofChange s with cond := some uptoSmall }

/-- 'pantrylaw17.SlotsHold', WHERE WHAT IT READS IS OF BULK AT MOST 1048576: true; the input reads as it did. -/
def slotsHoldUptoRow : OpenClaim := { program := "ytdkijmikafmgaaa", sum := "4298473d6bb9dda7421916c38b169f50164e02167c157a65029874ee61380c5e", func := "pantry/pantrylaw17.SlotsHold", spec := "slotsHold", unfollowed := true, recurses := true, apart := false, narrowed := true }
def SlotsHoldUptoSaid : Prop := slotsHoldUptoRow.holds Try.pinned (OpenSpec.upto slotsHoldSpec)

/-- 'pantrylaw17.SlotsSizes', WHERE WHAT IT READS IS OF BULK AT MOST 1048576: true; the input reads as it did. -/
def slotsSizesUptoRow : OpenClaim := { program := "ytdkijmikafmgaaa", sum := "4298473d6bb9dda7421916c38b169f50164e02167c157a65029874ee61380c5e", func := "pantry/pantrylaw17.SlotsSizes", spec := "slotsSizes", unfollowed := true, recurses := true, apart := false, narrowed := true }
def SlotsSizesUptoSaid : Prop := slotsSizesUptoRow.holds Try.pinned (OpenSpec.upto slotsSizesSpec)

/-- 'pantrylaw17.SlotsOwn', WHERE WHAT IT READS IS OF BULK AT MOST 1048576: true; the input reads as it did. -/
def slotsOwnUptoRow : OpenClaim := { program := "ytdkijmikafmgaaa", sum := "4298473d6bb9dda7421916c38b169f50164e02167c157a65029874ee61380c5e", func := "pantry/pantrylaw17.SlotsOwn", spec := "slotsOwn", unfollowed := true, recurses := true, apart := false, narrowed := true }
def SlotsOwnUptoSaid : Prop := slotsOwnUptoRow.holds Try.pinned (OpenSpec.upto slotsOwnSpec)

/-- 'pantrylaw17.SlotsAtomic', WHERE WHAT IT READS IS OF BULK AT MOST 1048576: true; the input reads as it did. -/
def slotsAtomicUptoRow : OpenClaim := { program := "ytdkijmikafmgaaa", sum := "4298473d6bb9dda7421916c38b169f50164e02167c157a65029874ee61380c5e", func := "pantry/pantrylaw17.SlotsAtomic", spec := "slotsAtomic", unfollowed := true, recurses := true, apart := false, narrowed := true }
def SlotsAtomicUptoSaid : Prop := slotsAtomicUptoRow.holds Try.pinned (OpenSpec.upto slotsAtomicSpec)

/-- 'pantrylaw17.SlotsPlays', WHERE WHAT IT READS IS OF BULK AT MOST 1048576: true; the input reads as it did. -/
def slotsPlaysUptoRow : OpenClaim := { program := "ytdkijmikafmgaaa", sum := "4298473d6bb9dda7421916c38b169f50164e02167c157a65029874ee61380c5e", func := "pantry/pantrylaw17.SlotsPlays", spec := "slotsPlays", unfollowed := true, recurses := true, apart := false, narrowed := true }
def SlotsPlaysUptoSaid : Prop := slotsPlaysUptoRow.holds Try.pinned (OpenSpec.upto slotsPlaysSpec)

end Rows
end Go.Proofs.Ytdkijmikafmgaaa
