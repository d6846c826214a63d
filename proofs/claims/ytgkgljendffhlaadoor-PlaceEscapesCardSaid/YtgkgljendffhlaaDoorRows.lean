/-
  NARROWER THAN 'FOR EVERY INPUT', by the rows' own cells (each row's printed sentence says how): PlaceReads: laid · PlaceDots: laid · PlaceEscapes: laid · PlacePorts: laid · PlacePlain: laid · PlaceHosts: laid · PlaceBack: laid.
  DERIVED. THE GIVEN ROWS OF THIS SEAT. 7 by the template 'for every input the law returns true; each argument reads behind the call as it read before'; 0 by the template 'total and deterministic' (their statements: YtgkgljendffhlaaDoorTotals.lean).
  GIVEN WITH THE SEED: the statements are not yours to turn. If you find one false, say at which input.
  Laid BY PROGRAM, IN A SANDBOX (cutbox-rows.mjs): the forced cells as the released guide's own fill.sh prints them over the translation cf44eb9734e1611b… (all of the seat's roots in one cut). By AI agents, Wed Nov 11 2026. No macro, syntax, notation, axiom, sorry.
-/
import Derived.Test.YtgkgljendffhlaaDoorChecked
import GoSem.PinnedTables
import GoSem.Claim
import GoSem.ClaimJoined
import GoSem.ClaimMapViews
import Derived.JoinedTies
import Derived.KernelRfl
namespace Go.Proofs.YtgkgljendffhlaaDoor
/- THE CELL 'sum', in the pinned program and in every row, IS THE sha256 OF THE DUMP (.gsa) THAT YtgkgljendffhlaaDoorProg.lean LOADS. Nothing in Lean hashes anything: it is a label: what it is worth is what the hold of that sum in a sandbox is worth. -/
noncomputable def Tryd.pinned : Pinned := { name := "ytgkgljendffhlaadoor", sum := "cf44eb9734e1611be8cb11dfeab72cc513574bb9e150fb2bc63e143579b5529e", checked := Tryd.checked }
namespace Rows
def none {H : Type} : Left H := { results := [], args := [] }

/- WHAT THE LISTED PACKAGE-LEVEL VARIABLES READ AS WHEN THE CALL BEGINS. Each datum BY PROGRAM (the guide's laid-datum.mjs) off the statement by which the dump's own 'gosem.cut.vars' lays the variable. In a bare row this is a premise. The card (YtgkgljendffhlaaDoorCards.lean) ties it to the program's text. -/
def laid_unicode_utf8_acceptRanges {H : Type} : DataW H := .agg [.agg [.lit (.int .u8 128), .lit (.int .u8 191)], .agg [.lit (.int .u8 160), .lit (.int .u8 191)], .agg [.lit (.int .u8 128), .lit (.int .u8 159)], .agg [.lit (.int .u8 144), .lit (.int .u8 191)], .agg [.lit (.int .u8 128), .lit (.int .u8 143)], .agg [.lit (.int .u8 0), .lit (.int .u8 0)], .agg [.lit (.int .u8 0), .lit (.int .u8 0)], .agg [.lit (.int .u8 0), .lit (.int .u8 0)], .agg [.lit (.int .u8 0), .lit (.int .u8 0)], .agg [.lit (.int .u8 0), .lit (.int .u8 0)], .agg [.lit (.int .u8 0), .lit (.int .u8 0)], .agg [.lit (.int .u8 0), .lit (.int .u8 0)], .agg [.lit (.int .u8 0), .lit (.int .u8 0)], .agg [.lit (.int .u8 0), .lit (.int .u8 0)], .agg [.lit (.int .u8 0), .lit (.int .u8 0)], .agg [.lit (.int .u8 0), .lit (.int .u8 0)]]
/-- One of Go's own tables, pinned by name: the form's constant. -/
def laid_unicode_utf8_first : DataW Unit := Go.Pinned.utf8First

/-- 'pantrylaw08.PlaceReads': WHATEVER THE INPUT: true; the input reads as it did. -/
def placeReadsSpec : ChangeSpec := { name := "placeReads", fn := fun _ => fun
  | [d1, d2] => { results := [.lit (.bool true)], args := [d1, d2] }
  | _ => none }
def placeReadsRow : OpenClaim := { program := "ytgkgljendffhlaadoor", sum := "cf44eb9734e1611be8cb11dfeab72cc513574bb9e150fb2bc63e143579b5529e", func := "pantry/pantrylaw08.PlaceReads", spec := "placeReads", inPlace := ["internal/bytealg.IndexByteString", "internal/bytealg.IndexString", "internal/bytealg.CountString", "internal/abi.NoEscape", "internal/bytealg.MakeNoZero"], recurses := true, named := ["internal/bytealg.MaxLen", "unicode/utf8.first", "unicode/utf8.acceptRanges"], apart := false, laid := [("unicode/utf8.acceptRanges", laid_unicode_utf8_acceptRanges), ("unicode/utf8.first", laid_unicode_utf8_first)] }
def PlaceReadsSaid : Prop := placeReadsRow.holds Tryd.pinned (OpenSpec.ofChange placeReadsSpec)

/-- ITS FALSE NEIGHBOUR: 'it returns false'. Refute it at one input. -/
def placeReadsWrong : ChangeSpec := { name := "placeReads", fn := fun _ => fun
  | [d1, d2] => { results := [.lit (.bool false)], args := [d1, d2] }
  | _ => none }
def PlaceReadsWrongFalsely : Prop := placeReadsRow.holds Tryd.pinned (OpenSpec.ofChange placeReadsWrong)

/-- 'pantrylaw08.PlaceDots': WHATEVER THE INPUT: true; the input reads as it did. -/
def placeDotsSpec : ChangeSpec := { name := "placeDots", fn := fun _ => fun
  | [d1, d2] => { results := [.lit (.bool true)], args := [d1, d2] }
  | _ => none }
def placeDotsRow : OpenClaim := { program := "ytgkgljendffhlaadoor", sum := "cf44eb9734e1611be8cb11dfeab72cc513574bb9e150fb2bc63e143579b5529e", func := "pantry/pantrylaw08.PlaceDots", spec := "placeDots", inPlace := ["internal/bytealg.IndexByteString", "internal/bytealg.IndexString", "internal/bytealg.CountString", "internal/abi.NoEscape", "internal/bytealg.MakeNoZero"], named := ["internal/bytealg.MaxLen", "unicode/utf8.first", "unicode/utf8.acceptRanges"], apart := false, laid := [("unicode/utf8.acceptRanges", laid_unicode_utf8_acceptRanges), ("unicode/utf8.first", laid_unicode_utf8_first)] }
def PlaceDotsSaid : Prop := placeDotsRow.holds Tryd.pinned (OpenSpec.ofChange placeDotsSpec)

/-- ITS FALSE NEIGHBOUR: 'it returns false'. Refute it at one input. -/
def placeDotsWrong : ChangeSpec := { name := "placeDots", fn := fun _ => fun
  | [d1, d2] => { results := [.lit (.bool false)], args := [d1, d2] }
  | _ => none }
def PlaceDotsWrongFalsely : Prop := placeDotsRow.holds Tryd.pinned (OpenSpec.ofChange placeDotsWrong)

/-- 'pantrylaw08.PlaceEscapes': WHATEVER THE INPUT: true; the input reads as it did. -/
def placeEscapesSpec : ChangeSpec := { name := "placeEscapes", fn := fun _ => fun
  | [d1, d2] => { results := [.lit (.bool true)], args := [d1, d2] }
  | _ => none }
def placeEscapesRow : OpenClaim := { program := "ytgkgljendffhlaadoor", sum := "cf44eb9734e1611be8cb11dfeab72cc513574bb9e150fb2bc63e143579b5529e", func := "pantry/pantrylaw08.PlaceEscapes", spec := "placeEscapes", inPlace := ["internal/bytealg.IndexByteString", "internal/bytealg.IndexString", "internal/bytealg.CountString", "internal/abi.NoEscape", "internal/bytealg.MakeNoZero"], named := ["internal/bytealg.MaxLen", "unicode/utf8.first", "unicode/utf8.acceptRanges"], apart := false, laid := [("unicode/utf8.acceptRanges", laid_unicode_utf8_acceptRanges), ("unicode/utf8.first", laid_unicode_utf8_first)] }
def PlaceEscapesSaid : Prop := placeEscapesRow.holds Tryd.pinned (OpenSpec.ofChange placeEscapesSpec)

/-- ITS FALSE NEIGHBOUR: 'it returns false'. Refute it at one input. -/
def placeEscapesWrong : ChangeSpec := { name := "placeEscapes", fn := fun _ => fun
  | [d1, d2] => { results := [.lit (.bool false)], args := [d1, d2] }
  | _ => none }
def PlaceEscapesWrongFalsely : Prop := placeEscapesRow.holds Tryd.pinned (OpenSpec.ofChange placeEscapesWrong)

/-- 'pantrylaw08.PlacePorts': WHATEVER THE INPUT: true; the input reads as it did. -/
def placePortsSpec : ChangeSpec := { name := "placePorts", fn := fun _ => fun
  | [d1, d2, d3] => { results := [.lit (.bool true)], args := [d1, d2, d3] }
  | _ => none }
def placePortsRow : OpenClaim := { program := "ytgkgljendffhlaadoor", sum := "cf44eb9734e1611be8cb11dfeab72cc513574bb9e150fb2bc63e143579b5529e", func := "pantry/pantrylaw08.PlacePorts", spec := "placePorts", inPlace := ["internal/bytealg.IndexByteString", "internal/bytealg.IndexString", "internal/bytealg.CountString", "internal/abi.NoEscape", "internal/bytealg.MakeNoZero"], recurses := true, named := ["internal/bytealg.MaxLen", "unicode/utf8.first", "unicode/utf8.acceptRanges"], apart := false, laid := [("unicode/utf8.acceptRanges", laid_unicode_utf8_acceptRanges), ("unicode/utf8.first", laid_unicode_utf8_first)] }
def PlacePortsSaid : Prop := placePortsRow.holds Tryd.pinned (OpenSpec.ofChange placePortsSpec)

/-- ITS FALSE NEIGHBOUR: 'it returns false'. Refute it at one input. -/
def placePortsWrong : ChangeSpec := { name := "placePorts", fn := fun _ => fun
  | [d1, d2, d3] => { results := [.lit (.bool false)], args := [d1, d2, d3] }
  | _ => none }
def PlacePortsWrongFalsely : Prop := placePortsRow.holds Tryd.pinned (OpenSpec.ofChange placePortsWrong)

/-- 'pantrylaw08.PlacePlain': WHATEVER THE INPUT: true; the input reads as it did. -/
def placePlainSpec : ChangeSpec := { name := "placePlain", fn := fun _ => fun
  | [d] => { results := [.lit (.bool true)], args := [d] }
  | _ => none }
def placePlainRow : OpenClaim := { program := "ytgkgljendffhlaadoor", sum := "cf44eb9734e1611be8cb11dfeab72cc513574bb9e150fb2bc63e143579b5529e", func := "pantry/pantrylaw08.PlacePlain", spec := "placePlain", inPlace := ["internal/bytealg.IndexByteString", "internal/bytealg.IndexString", "internal/bytealg.CountString", "internal/abi.NoEscape", "internal/bytealg.MakeNoZero"], named := ["internal/bytealg.MaxLen", "unicode/utf8.first", "unicode/utf8.acceptRanges"], apart := false, laid := [("unicode/utf8.acceptRanges", laid_unicode_utf8_acceptRanges), ("unicode/utf8.first", laid_unicode_utf8_first)] }
def PlacePlainSaid : Prop := placePlainRow.holds Tryd.pinned (OpenSpec.ofChange placePlainSpec)

/-- ITS FALSE NEIGHBOUR: 'it returns false'. Refute it at one input. -/
def placePlainWrong : ChangeSpec := { name := "placePlain", fn := fun _ => fun
  | [d] => { results := [.lit (.bool false)], args := [d] }
  | _ => none }
def PlacePlainWrongFalsely : Prop := placePlainRow.holds Tryd.pinned (OpenSpec.ofChange placePlainWrong)

/-- 'pantrylaw08.PlaceHosts': WHATEVER THE INPUT: true; the input reads as it did. -/
def placeHostsSpec : ChangeSpec := { name := "placeHosts", fn := fun _ => fun
  | [d1, d2, d3] => { results := [.lit (.bool true)], args := [d1, d2, d3] }
  | _ => none }
def placeHostsRow : OpenClaim := { program := "ytgkgljendffhlaadoor", sum := "cf44eb9734e1611be8cb11dfeab72cc513574bb9e150fb2bc63e143579b5529e", func := "pantry/pantrylaw08.PlaceHosts", spec := "placeHosts", inPlace := ["internal/bytealg.IndexByteString", "internal/bytealg.IndexString", "internal/bytealg.CountString", "internal/abi.NoEscape", "internal/bytealg.MakeNoZero"], named := ["internal/bytealg.MaxLen", "unicode/utf8.first", "unicode/utf8.acceptRanges"], apart := false, laid := [("unicode/utf8.acceptRanges", laid_unicode_utf8_acceptRanges), ("unicode/utf8.first", laid_unicode_utf8_first)] }
def PlaceHostsSaid : Prop := placeHostsRow.holds Tryd.pinned (OpenSpec.ofChange placeHostsSpec)

/-- ITS FALSE NEIGHBOUR: 'it returns false'. Refute it at one input. -/
def placeHostsWrong : ChangeSpec := { name := "placeHosts", fn := fun _ => fun
  | [d1, d2, d3] => { results := [.lit (.bool false)], args := [d1, d2, d3] }
  | _ => none }
def PlaceHostsWrongFalsely : Prop := placeHostsRow.holds Tryd.pinned (OpenSpec.ofChange placeHostsWrong)

/-- 'pantrylaw08.PlaceBack': WHATEVER THE INPUT: true; the input reads as it did. -/
def placeBackSpec : ChangeSpec := { name := "placeBack", fn := fun _ => fun
  | [d1, d2] => { results := [.lit (.bool true)], args := [d1, d2] }
  | _ => none }
def placeBackRow : OpenClaim := { program := "ytgkgljendffhlaadoor", sum := "cf44eb9734e1611be8cb11dfeab72cc513574bb9e150fb2bc63e143579b5529e", func := "pantry/pantrylaw08.PlaceBack", spec := "placeBack", inPlace := ["internal/bytealg.IndexByteString", "internal/bytealg.IndexString", "internal/bytealg.CountString", "internal/abi.NoEscape", "internal/bytealg.MakeNoZero"], named := ["internal/bytealg.MaxLen", "unicode/utf8.first", "unicode/utf8.acceptRanges"], apart := false, laid := [("unicode/utf8.acceptRanges", laid_unicode_utf8_acceptRanges), ("unicode/utf8.first", laid_unicode_utf8_first)] }
def PlaceBackSaid : Prop := placeBackRow.holds Tryd.pinned (OpenSpec.ofChange placeBackSpec)

/-- ITS FALSE NEIGHBOUR: 'it returns false'. Refute it at one input. -/
def placeBackWrong : ChangeSpec := { name := "placeBack", fn := fun _ => fun
  | [d1, d2] => { results := [.lit (.bool false)], args := [d1, d2] }
  | _ => none }
def PlaceBackWrongFalsely : Prop := placeBackRow.holds Tryd.pinned (OpenSpec.ofChange placeBackWrong)

/- THE SECOND FORM. 'bulk': how many values and letters a reading holds, each counted each time it is reached (what is shared counts as often as it is met; a slice's spare places count too). A statement '..UptoSaid' is the law's where the arguments, and the package variables that the reading takes, are together of bulk at most 1048576: NARROWER than '..Said'. Prove '..Said' where nothing that the law and all that it calls make is longer than what came in: it says more and counts as full. Else prove '..UptoSaid'. A law counts once. -/
mutual
def uptoBulk {H : Type} : DataW H → Nat
  | .lit (.string bytes) => bytes.length + 1
  | .lit _ => 1
  | .nil => 1
  | .ptr d => uptoBulk d + 1
  | .slice elems spare => uptoBulkAll elems + uptoBulkAll spare + 1
  | .agg parts => uptoBulkAll parts + 1
  | .iface _ d => uptoBulk d + 1
  | .map entries => uptoBulkEntries entries + 1
  | .held _ => 1
def uptoBulkAll {H : Type} : List (DataW H) → Nat
  | [] => 0
  | d :: r => uptoBulk d + uptoBulkAll r
def uptoBulkEntries {H : Type} : List (Lit × DataW H) → Nat
  | [] => 0
  | x :: r => uptoBulkEntry x + uptoBulkEntries r
def uptoBulkEntry {H : Type} : Lit × DataW H → Nat
  | (.string bytes, d) => bytes.length + uptoBulk d + 1
  | (_, d) => uptoBulk d + 1
 end
def uptoSmall : (H : Type) → List (DataW H) → Bool := fun _ ds => decide (uptoBulkAll ds ≤ 1048576)
def OpenSpec.upto (s : _root_.Go.ChangeSpec) : _root_.Go.OpenSpec := { _root_.Go.OpenSpec.ofChange s with cond := some uptoSmall }

/-- 'pantrylaw08.PlaceReads', WHERE WHAT IT READS IS OF BULK AT MOST 1048576: true; the input reads as it did. -/
def placeReadsUptoRow : OpenClaim := { program := "ytgkgljendffhlaadoor", sum := "cf44eb9734e1611be8cb11dfeab72cc513574bb9e150fb2bc63e143579b5529e", func := "pantry/pantrylaw08.PlaceReads", spec := "placeReads", inPlace := ["internal/bytealg.IndexByteString", "internal/bytealg.IndexString", "internal/bytealg.CountString", "internal/abi.NoEscape", "internal/bytealg.MakeNoZero"], recurses := true, named := ["internal/bytealg.MaxLen", "unicode/utf8.first", "unicode/utf8.acceptRanges"], apart := false, laid := [("unicode/utf8.acceptRanges", laid_unicode_utf8_acceptRanges), ("unicode/utf8.first", laid_unicode_utf8_first)], narrowed := true }
def PlaceReadsUptoSaid : Prop := placeReadsUptoRow.holds Tryd.pinned (OpenSpec.upto placeReadsSpec)

/-- 'pantrylaw08.PlaceDots', WHERE WHAT IT READS IS OF BULK AT MOST 1048576: true; the input reads as it did. -/
def placeDotsUptoRow : OpenClaim := { program := "ytgkgljendffhlaadoor", sum := "cf44eb9734e1611be8cb11dfeab72cc513574bb9e150fb2bc63e143579b5529e", func := "pantry/pantrylaw08.PlaceDots", spec := "placeDots", inPlace := ["internal/bytealg.IndexByteString", "internal/bytealg.IndexString", "internal/bytealg.CountString", "internal/abi.NoEscape", "internal/bytealg.MakeNoZero"], named := ["internal/bytealg.MaxLen", "unicode/utf8.first", "unicode/utf8.acceptRanges"], apart := false, laid := [("unicode/utf8.acceptRanges", laid_unicode_utf8_acceptRanges), ("unicode/utf8.first", laid_unicode_utf8_first)], narrowed := true }
def PlaceDotsUptoSaid : Prop := placeDotsUptoRow.holds Tryd.pinned (OpenSpec.upto placeDotsSpec)

/-- 'pantrylaw08.PlaceEscapes', WHERE WHAT IT READS IS OF BULK AT MOST 1048576: true; the input reads as it did. -/
def placeEscapesUptoRow : OpenClaim := { program := "ytgkgljendffhlaadoor", sum := "cf44eb9734e1611be8cb11dfeab72cc513574bb9e150fb2bc63e143579b5529e", func := "pantry/pantrylaw08.PlaceEscapes", spec := "placeEscapes", inPlace := ["internal/bytealg.IndexByteString", "internal/bytealg.IndexString", "internal/bytealg.CountString", "internal/abi.NoEscape", "internal/bytealg.MakeNoZero"], named := ["internal/bytealg.MaxLen", "unicode/utf8.first", "unicode/utf8.acceptRanges"], apart := false, laid := [("unicode/utf8.acceptRanges", laid_unicode_utf8_acceptRanges), ("unicode/utf8.first", laid_unicode_utf8_first)], narrowed := true }
def PlaceEscapesUptoSaid : Prop := placeEscapesUptoRow.holds Tryd.pinned (OpenSpec.upto placeEscapesSpec)

/-- 'pantrylaw08.PlacePorts', WHERE WHAT IT READS IS OF BULK AT MOST 1048576: true; the input reads as it did. -/
def placePortsUptoRow : OpenClaim := { program := "ytgkgljendffhlaadoor", sum := "cf44eb9734e1611be8cb11dfeab72cc513574bb9e150fb2bc63e143579b5529e", func := "pantry/pantrylaw08.PlacePorts", spec := "placePorts", inPlace := ["internal/bytealg.IndexByteString", "internal/bytealg.IndexString", "internal/bytealg.CountString", "internal/abi.NoEscape", "internal/bytealg.MakeNoZero"], recurses := true, named := ["internal/bytealg.MaxLen", "unicode/utf8.first", "unicode/utf8.acceptRanges"], apart := false, laid := [("unicode/utf8.acceptRanges", laid_unicode_utf8_acceptRanges), ("unicode/utf8.first", laid_unicode_utf8_first)], narrowed := true }
def PlacePortsUptoSaid : Prop := placePortsUptoRow.holds Tryd.pinned (OpenSpec.upto placePortsSpec)

/-- 'pantrylaw08.PlacePlain', WHERE WHAT IT READS IS OF BULK AT MOST 1048576: true; the input reads as it did. -/
def placePlainUptoRow : OpenClaim := { program := "ytgkgljendffhlaadoor", sum := "cf44eb9734e1611be8cb11dfeab72cc513574bb9e150fb2bc63e143579b5529e", func := "pantry/pantrylaw08.PlacePlain", spec := "placePlain", inPlace := ["internal/bytealg.IndexByteString", "internal/bytealg.IndexString", "internal/bytealg.CountString", "internal/abi.NoEscape", "internal/bytealg.MakeNoZero"], named := ["internal/bytealg.MaxLen", "unicode/utf8.first", "unicode/utf8.acceptRanges"], apart := false, laid := [("unicode/utf8.acceptRanges", laid_unicode_utf8_acceptRanges), ("unicode/utf8.first", laid_unicode_utf8_first)], narrowed := true }
def PlacePlainUptoSaid : Prop := placePlainUptoRow.holds Tryd.pinned (OpenSpec.upto placePlainSpec)

/-- 'pantrylaw08.PlaceHosts', WHERE WHAT IT READS IS OF BULK AT MOST 1048576: true; the input reads as it did. -/
def placeHostsUptoRow : OpenClaim := { program := "ytgkgljendffhlaadoor", sum := "cf44eb9734e1611be8cb11dfeab72cc513574bb9e150fb2bc63e143579b5529e", func := "pantry/pantrylaw08.PlaceHosts", spec := "placeHosts", inPlace := ["internal/bytealg.IndexByteString", "internal/bytealg.IndexString", "internal/bytealg.CountString", "internal/abi.NoEscape", "internal/bytealg.MakeNoZero"], named := ["internal/bytealg.MaxLen", "unicode/utf8.first", "unicode/utf8.acceptRanges"], apart := false, laid := [("unicode/utf8.acceptRanges", laid_unicode_utf8_acceptRanges), ("unicode/utf8.first", laid_unicode_utf8_first)], narrowed := true }
def PlaceHostsUptoSaid : Prop := placeHostsUptoRow.holds Tryd.pinned (OpenSpec.upto placeHostsSpec)

/-- 'pantrylaw08.PlaceBack', WHERE WHAT IT READS IS OF BULK AT MOST 1048576: true; the input reads as it did. -/
def placeBackUptoRow : OpenClaim := { program := "ytgkgljendffhlaadoor", sum := "cf44eb9734e1611be8cb11dfeab72cc513574bb9e150fb2bc63e143579b5529e", func := "pantry/pantrylaw08.PlaceBack", spec := "placeBack", inPlace := ["internal/bytealg.IndexByteString", "internal/bytealg.IndexString", "internal/bytealg.CountString", "internal/abi.NoEscape", "internal/bytealg.MakeNoZero"], named := ["internal/bytealg.MaxLen", "unicode/utf8.first", "unicode/utf8.acceptRanges"], apart := false, laid := [("unicode/utf8.acceptRanges", laid_unicode_utf8_acceptRanges), ("unicode/utf8.first", laid_unicode_utf8_first)], narrowed := true }
def PlaceBackUptoSaid : Prop := placeBackUptoRow.holds Tryd.pinned (OpenSpec.upto placeBackSpec)

end Rows
end Go.Proofs.YtgkgljendffhlaaDoor
