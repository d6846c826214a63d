/-
  NARROWER THAN 'FOR EVERY INPUT', by the rows' own cells (each row's printed sentence says how): SignLists: laid · SignJoins: laid · SignQuotes: laid · SignNumbers: laid · SignDigits: laid · SignTwo: laid · SignLower: laid · SignWords: laid.
  DERIVED. THE GIVEN ROWS OF THIS SEAT. 8 by the template 'for every input the law returns true; each argument reads behind the call as it read before'; 0 by the template 'total and deterministic' (their statements: YtnbgffndhkgdpaaDoorTotals.lean).
  GIVEN WITH THE SEED: the statements are not yours to turn. If you find one false, say at which input.
  Laid BY PROGRAM, IN A SANDBOX (cutbox-rows.mjs): the forced cells as the released guide's own fill.sh prints them over the translation a1d98f184fb77224… (all of the seat's roots in one cut). By AI agents, Wed Nov 11 2026. No macro, syntax, notation, axiom, sorry.
-/
import Derived.Test.YtnbgffndhkgdpaaDoorChecked
import GoSem.PinnedTables
import GoSem.Claim
import GoSem.ClaimJoined
import GoSem.ClaimMapViews
import Derived.JoinedTies
import Derived.KernelRfl
namespace Go.Proofs.YtnbgffndhkgdpaaDoor
/- THE CELL 'sum', in the pinned program and in every row, IS THE sha256 OF THE DUMP (.gsa) THAT YtnbgffndhkgdpaaDoorProg.lean LOADS. Nothing in Lean hashes anything: it is a label: what it is worth is what the hold of that sum in a sandbox is worth. -/
noncomputable def Tryd.pinned : Pinned := { name := "ytnbgffndhkgdpaadoor", sum := "a1d98f184fb772247b21a85339ed6a7f1c530a1cbdcd93bb8fed25d1f4430156", checked := Tryd.checked }
namespace Rows
def none {H : Type} : Left H := { results := [], args := [] }

/- WHAT THE LISTED PACKAGE-LEVEL VARIABLES READ AS WHEN THE CALL BEGINS. Each datum BY PROGRAM (the guide's laid-datum.mjs) off the statement by which the dump's own 'gosem.cut.vars' lays the variable. In a bare row this is a premise. The card (YtnbgffndhkgdpaaDoorCards.lean) ties it to the program's text. -/
def laid_unicode_utf8_acceptRanges {H : Type} : DataW H := .agg [.agg [.lit (.int .u8 128), .lit (.int .u8 191)], .agg [.lit (.int .u8 160), .lit (.int .u8 191)], .agg [.lit (.int .u8 128), .lit (.int .u8 159)], .agg [.lit (.int .u8 144), .lit (.int .u8 191)], .agg [.lit (.int .u8 128), .lit (.int .u8 143)], .agg [.lit (.int .u8 0), .lit (.int .u8 0)], .agg [.lit (.int .u8 0), .lit (.int .u8 0)], .agg [.lit (.int .u8 0), .lit (.int .u8 0)], .agg [.lit (.int .u8 0), .lit (.int .u8 0)], .agg [.lit (.int .u8 0), .lit (.int .u8 0)], .agg [.lit (.int .u8 0), .lit (.int .u8 0)], .agg [.lit (.int .u8 0), .lit (.int .u8 0)], .agg [.lit (.int .u8 0), .lit (.int .u8 0)], .agg [.lit (.int .u8 0), .lit (.int .u8 0)], .agg [.lit (.int .u8 0), .lit (.int .u8 0)], .agg [.lit (.int .u8 0), .lit (.int .u8 0)]]
/-- One of Go's own tables, pinned by name: the form's constant. -/
def laid_unicode_utf8_first : DataW Unit := Go.Pinned.utf8First

/-- 'pantrylaw01.SignLists': WHATEVER THE INPUT: true; the input reads as it did. -/
def signListsSpec : ChangeSpec := { name := "signLists", fn := fun _ => fun
  | [d] => { results := [.lit (.bool true)], args := [d] }
  | _ => none }
def signListsRow : OpenClaim := { program := "ytnbgffndhkgdpaadoor", sum := "a1d98f184fb772247b21a85339ed6a7f1c530a1cbdcd93bb8fed25d1f4430156", func := "pantry/pantrylaw01.SignLists", spec := "signLists", inPlace := ["internal/bytealg.IndexByteString", "internal/bytealg.IndexString"], named := ["unicode/utf8.first", "unicode/utf8.acceptRanges", "internal/bytealg.MaxLen"], apart := false, laid := [("unicode/utf8.acceptRanges", laid_unicode_utf8_acceptRanges), ("unicode/utf8.first", laid_unicode_utf8_first)] }
def SignListsSaid : Prop := signListsRow.holds Tryd.pinned (OpenSpec.ofChange signListsSpec)

/-- ITS FALSE NEIGHBOUR: 'it returns false'. Refute it at one input. -/
def signListsWrong : ChangeSpec := { name := "signLists", fn := fun _ => fun
  | [d] => { results := [.lit (.bool false)], args := [d] }
  | _ => none }
def SignListsWrongFalsely : Prop := signListsRow.holds Tryd.pinned (OpenSpec.ofChange signListsWrong)

/-- 'pantrylaw01.SignJoins': WHATEVER THE INPUT: true; the input reads as it did. -/
def signJoinsSpec : ChangeSpec := { name := "signJoins", fn := fun _ => fun
  | [d1, d2] => { results := [.lit (.bool true)], args := [d1, d2] }
  | _ => none }
def signJoinsRow : OpenClaim := { program := "ytnbgffndhkgdpaadoor", sum := "a1d98f184fb772247b21a85339ed6a7f1c530a1cbdcd93bb8fed25d1f4430156", func := "pantry/pantrylaw01.SignJoins", spec := "signJoins", inPlace := ["internal/bytealg.IndexByteString", "internal/bytealg.IndexString"], named := ["unicode/utf8.first", "unicode/utf8.acceptRanges", "internal/bytealg.MaxLen"], apart := false, laid := [("unicode/utf8.acceptRanges", laid_unicode_utf8_acceptRanges), ("unicode/utf8.first", laid_unicode_utf8_first)] }
def SignJoinsSaid : Prop := signJoinsRow.holds Tryd.pinned (OpenSpec.ofChange signJoinsSpec)

/-- ITS FALSE NEIGHBOUR: 'it returns false'. Refute it at one input. -/
def signJoinsWrong : ChangeSpec := { name := "signJoins", fn := fun _ => fun
  | [d1, d2] => { results := [.lit (.bool false)], args := [d1, d2] }
  | _ => none }
def SignJoinsWrongFalsely : Prop := signJoinsRow.holds Tryd.pinned (OpenSpec.ofChange signJoinsWrong)

/-- 'pantrylaw01.SignQuotes': WHATEVER THE INPUT: true; the input reads as it did. -/
def signQuotesSpec : ChangeSpec := { name := "signQuotes", fn := fun _ => fun
  | [d] => { results := [.lit (.bool true)], args := [d] }
  | _ => none }
def signQuotesRow : OpenClaim := { program := "ytnbgffndhkgdpaadoor", sum := "a1d98f184fb772247b21a85339ed6a7f1c530a1cbdcd93bb8fed25d1f4430156", func := "pantry/pantrylaw01.SignQuotes", spec := "signQuotes", inPlace := ["internal/bytealg.IndexByteString", "internal/bytealg.IndexString"], named := ["unicode/utf8.first", "unicode/utf8.acceptRanges", "internal/bytealg.MaxLen"], apart := false, laid := [("unicode/utf8.acceptRanges", laid_unicode_utf8_acceptRanges), ("unicode/utf8.first", laid_unicode_utf8_first)] }
def SignQuotesSaid : Prop := signQuotesRow.holds Tryd.pinned (OpenSpec.ofChange signQuotesSpec)

/-- ITS FALSE NEIGHBOUR: 'it returns false'. Refute it at one input. -/
def signQuotesWrong : ChangeSpec := { name := "signQuotes", fn := fun _ => fun
  | [d] => { results := [.lit (.bool false)], args := [d] }
  | _ => none }
def SignQuotesWrongFalsely : Prop := signQuotesRow.holds Tryd.pinned (OpenSpec.ofChange signQuotesWrong)

/-- 'pantrylaw01.SignNumbers': WHATEVER THE INPUT: true; the input reads as it did. -/
def signNumbersSpec : ChangeSpec := { name := "signNumbers", fn := fun _ => fun
  | [d] => { results := [.lit (.bool true)], args := [d] }
  | _ => none }
def signNumbersRow : OpenClaim := { program := "ytnbgffndhkgdpaadoor", sum := "a1d98f184fb772247b21a85339ed6a7f1c530a1cbdcd93bb8fed25d1f4430156", func := "pantry/pantrylaw01.SignNumbers", spec := "signNumbers", inPlace := ["internal/bytealg.IndexByteString", "internal/bytealg.IndexString"], named := ["unicode/utf8.first", "unicode/utf8.acceptRanges", "internal/bytealg.MaxLen"], apart := false, laid := [("unicode/utf8.acceptRanges", laid_unicode_utf8_acceptRanges), ("unicode/utf8.first", laid_unicode_utf8_first)] }
def SignNumbersSaid : Prop := signNumbersRow.holds Tryd.pinned (OpenSpec.ofChange signNumbersSpec)

/-- ITS FALSE NEIGHBOUR: 'it returns false'. Refute it at one input. -/
def signNumbersWrong : ChangeSpec := { name := "signNumbers", fn := fun _ => fun
  | [d] => { results := [.lit (.bool false)], args := [d] }
  | _ => none }
def SignNumbersWrongFalsely : Prop := signNumbersRow.holds Tryd.pinned (OpenSpec.ofChange signNumbersWrong)

/-- 'pantrylaw01.SignDigits': WHATEVER THE INPUT: true; the input reads as it did. -/
def signDigitsSpec : ChangeSpec := { name := "signDigits", fn := fun _ => fun
  | [d1, d2, d3] => { results := [.lit (.bool true)], args := [d1, d2, d3] }
  | _ => none }
def signDigitsRow : OpenClaim := { program := "ytnbgffndhkgdpaadoor", sum := "a1d98f184fb772247b21a85339ed6a7f1c530a1cbdcd93bb8fed25d1f4430156", func := "pantry/pantrylaw01.SignDigits", spec := "signDigits", inPlace := ["internal/bytealg.IndexByteString", "internal/bytealg.IndexString"], recurses := true, named := ["unicode/utf8.first", "unicode/utf8.acceptRanges", "internal/bytealg.MaxLen"], apart := false, laid := [("unicode/utf8.acceptRanges", laid_unicode_utf8_acceptRanges), ("unicode/utf8.first", laid_unicode_utf8_first)] }
def SignDigitsSaid : Prop := signDigitsRow.holds Tryd.pinned (OpenSpec.ofChange signDigitsSpec)

/-- ITS FALSE NEIGHBOUR: 'it returns false'. Refute it at one input. -/
def signDigitsWrong : ChangeSpec := { name := "signDigits", fn := fun _ => fun
  | [d1, d2, d3] => { results := [.lit (.bool false)], args := [d1, d2, d3] }
  | _ => none }
def SignDigitsWrongFalsely : Prop := signDigitsRow.holds Tryd.pinned (OpenSpec.ofChange signDigitsWrong)

/-- 'pantrylaw01.SignTwo': WHATEVER THE INPUT: true; the input reads as it did. -/
def signTwoSpec : ChangeSpec := { name := "signTwo", fn := fun _ => fun
  | [d1, d2] => { results := [.lit (.bool true)], args := [d1, d2] }
  | _ => none }
def signTwoRow : OpenClaim := { program := "ytnbgffndhkgdpaadoor", sum := "a1d98f184fb772247b21a85339ed6a7f1c530a1cbdcd93bb8fed25d1f4430156", func := "pantry/pantrylaw01.SignTwo", spec := "signTwo", inPlace := ["internal/bytealg.IndexByteString", "internal/bytealg.IndexString"], named := ["unicode/utf8.first", "unicode/utf8.acceptRanges", "internal/bytealg.MaxLen"], apart := false, laid := [("unicode/utf8.acceptRanges", laid_unicode_utf8_acceptRanges), ("unicode/utf8.first", laid_unicode_utf8_first)] }
def SignTwoSaid : Prop := signTwoRow.holds Tryd.pinned (OpenSpec.ofChange signTwoSpec)

/-- ITS FALSE NEIGHBOUR: 'it returns false'. Refute it at one input. -/
def signTwoWrong : ChangeSpec := { name := "signTwo", fn := fun _ => fun
  | [d1, d2] => { results := [.lit (.bool false)], args := [d1, d2] }
  | _ => none }
def SignTwoWrongFalsely : Prop := signTwoRow.holds Tryd.pinned (OpenSpec.ofChange signTwoWrong)

/-- 'pantrylaw01.SignLower': WHATEVER THE INPUT: true; the input reads as it did. -/
def signLowerSpec : ChangeSpec := { name := "signLower", fn := fun _ => fun
  | [d] => { results := [.lit (.bool true)], args := [d] }
  | _ => none }
def signLowerRow : OpenClaim := { program := "ytnbgffndhkgdpaadoor", sum := "a1d98f184fb772247b21a85339ed6a7f1c530a1cbdcd93bb8fed25d1f4430156", func := "pantry/pantrylaw01.SignLower", spec := "signLower", inPlace := ["internal/bytealg.IndexByteString", "internal/bytealg.IndexString"], named := ["unicode/utf8.first", "unicode/utf8.acceptRanges", "internal/bytealg.MaxLen"], apart := false, laid := [("unicode/utf8.acceptRanges", laid_unicode_utf8_acceptRanges), ("unicode/utf8.first", laid_unicode_utf8_first)] }
def SignLowerSaid : Prop := signLowerRow.holds Tryd.pinned (OpenSpec.ofChange signLowerSpec)

/-- ITS FALSE NEIGHBOUR: 'it returns false'. Refute it at one input. -/
def signLowerWrong : ChangeSpec := { name := "signLower", fn := fun _ => fun
  | [d] => { results := [.lit (.bool false)], args := [d] }
  | _ => none }
def SignLowerWrongFalsely : Prop := signLowerRow.holds Tryd.pinned (OpenSpec.ofChange signLowerWrong)

/-- 'pantrylaw01.SignWords': WHATEVER THE INPUT: true; the input reads as it did. -/
def signWordsSpec : ChangeSpec := { name := "signWords", fn := fun _ => fun
  | [d1, d2] => { results := [.lit (.bool true)], args := [d1, d2] }
  | _ => none }
def signWordsRow : OpenClaim := { program := "ytnbgffndhkgdpaadoor", sum := "a1d98f184fb772247b21a85339ed6a7f1c530a1cbdcd93bb8fed25d1f4430156", func := "pantry/pantrylaw01.SignWords", spec := "signWords", inPlace := ["internal/bytealg.IndexByteString", "internal/bytealg.IndexString"], named := ["unicode/utf8.first", "unicode/utf8.acceptRanges", "internal/bytealg.MaxLen"], apart := false, laid := [("unicode/utf8.acceptRanges", laid_unicode_utf8_acceptRanges), ("unicode/utf8.first", laid_unicode_utf8_first)] }
def SignWordsSaid : Prop := signWordsRow.holds Tryd.pinned (OpenSpec.ofChange signWordsSpec)

/-- ITS FALSE NEIGHBOUR: 'it returns false'. Refute it at one input. -/
def signWordsWrong : ChangeSpec := { name := "signWords", fn := fun _ => fun
  | [d1, d2] => { results := [.lit (.bool false)], args := [d1, d2] }
  | _ => none }
def SignWordsWrongFalsely : Prop := signWordsRow.holds Tryd.pinned (OpenSpec.ofChange signWordsWrong)

/- THE SECOND FORM. 'bulk': how many values and letters a reading holds, each counted each time it is reached (what is shared counts as often as it is met; a slice's spare places count too). A statement '..UptoSaid' is the law's where the arguments, and the package variables that the reading takes, are together of bulk at most 1048576: NARROWER than '..Said'. Prove '..Said' where nothing that the law and all that it calls make is longer than what came in: it says more and counts as full. Else prove '..UptoSaid'. A law counts once. -/
mutual
def uptoBulk {H : Type} : DataW H → Nat
  | .lit (.string bytes) => bytes.length + 1
  | .lit _ => 1
  | .nil => 1
  | .ptr d => uptoBulk d + 1
  | .slice elems spare => uptoBulkAll elems + uptoBulkAll spare + 1
  | .agg parts => uptoBulkAll parts + 1
  | .iface _ d => uptoBulk d + 1
  | .map entries => uptoBulkEntries entries + 1
  | .held _ => 1
def uptoBulkAll {H : Type} : List (DataW H) → Nat
  | [] => 0
  | d :: r => uptoBulk d + uptoBulkAll r
def uptoBulkEntries {H : Type} : List (Lit × DataW H) → Nat
  | [] => 0
  | x :: r => uptoBulkEntry x + uptoBulkEntries r
def uptoBulkEntry {H : Type} : Lit × DataW H → Nat
  | (.string bytes, d) => bytes.length + uptoBulk d + 1
  | (_, d) => uptoBulk d + 1
 end
def uptoSmall : (H : Type) → List (DataW H) → Bool := fun _ ds => decide (uptoBulkAll ds ≤ 1048576)
def OpenSpec.upto (s : _root_.Go.ChangeSpec) : _root_.Go.OpenSpec := { _root_.Go.OpenSpec.ofChange s with cond := some uptoSmall }

/-- 'pantrylaw01.SignLists', WHERE WHAT IT READS IS OF BULK AT MOST 1048576: true; the input reads as it did. -/
def signListsUptoRow : OpenClaim := { program := "ytnbgffndhkgdpaadoor", sum := "a1d98f184fb772247b21a85339ed6a7f1c530a1cbdcd93bb8fed25d1f4430156", func := "pantry/pantrylaw01.SignLists", spec := "signLists", inPlace := ["internal/bytealg.IndexByteString", "internal/bytealg.IndexString"], named := ["unicode/utf8.first", "unicode/utf8.acceptRanges", "internal/bytealg.MaxLen"], apart := false, laid := [("unicode/utf8.acceptRanges", laid_unicode_utf8_acceptRanges), ("unicode/utf8.first", laid_unicode_utf8_first)], narrowed := true }
def SignListsUptoSaid : Prop := signListsUptoRow.holds Tryd.pinned (OpenSpec.upto signListsSpec)

/-- 'pantrylaw01.SignJoins', WHERE WHAT IT READS IS OF BULK AT MOST 1048576: true; the input reads as it did. -/
def signJoinsUptoRow : OpenClaim := { program := "ytnbgffndhkgdpaadoor", sum := "a1d98f184fb772247b21a85339ed6a7f1c530a1cbdcd93bb8fed25d1f4430156", func := "pantry/pantrylaw01.SignJoins", spec := "signJoins", inPlace := ["internal/bytealg.IndexByteString", "internal/bytealg.IndexString"], named := ["unicode/utf8.first", "unicode/utf8.acceptRanges", "internal/bytealg.MaxLen"], apart := false, laid := [("unicode/utf8.acceptRanges", laid_unicode_utf8_acceptRanges), ("unicode/utf8.first", laid_unicode_utf8_first)], narrowed := true }
def SignJoinsUptoSaid : Prop := signJoinsUptoRow.holds Tryd.pinned (OpenSpec.upto signJoinsSpec)

/-- 'pantrylaw01.SignQuotes', WHERE WHAT IT READS IS OF BULK AT MOST 1048576: true; the input reads as it did. -/
def signQuotesUptoRow : OpenClaim := { program := "ytnbgffndhkgdpaadoor", sum := "a1d98f184fb772247b21a85339ed6a7f1c530a1cbdcd93bb8fed25d1f4430156", func := "pantry/pantrylaw01.SignQuotes", spec := "signQuotes", inPlace := ["internal/bytealg.IndexByteString", "internal/bytealg.IndexString"], named := ["unicode/utf8.first", "unicode/utf8.acceptRanges", "internal/bytealg.MaxLen"], apart := false, laid := [("unicode/utf8.acceptRanges", laid_unicode_utf8_acceptRanges), ("unicode/utf8.first", laid_unicode_utf8_first)], narrowed := true }
def SignQuotesUptoSaid : Prop := signQuotesUptoRow.holds Tryd.pinned (OpenSpec.upto signQuotesSpec)

/-- 'pantrylaw01.SignNumbers', WHERE WHAT IT READS IS OF BULK AT MOST 1048576: true; the input reads as it did. -/
def signNumbersUptoRow : OpenClaim := { program := "ytnbgffndhkgdpaadoor", sum := "a1d98f184fb772247b21a85339ed6a7f1c530a1cbdcd93bb8fed25d1f4430156", func := "pantry/pantrylaw01.SignNumbers", spec := "signNumbers", inPlace := ["internal/bytealg.IndexByteString", "internal/bytealg.IndexString"], named := ["unicode/utf8.first", "unicode/utf8.acceptRanges", "internal/bytealg.MaxLen"], apart := false, laid := [("unicode/utf8.acceptRanges", laid_unicode_utf8_acceptRanges), ("unicode/utf8.first", laid_unicode_utf8_first)], narrowed := true }
def SignNumbersUptoSaid : Prop := signNumbersUptoRow.holds Tryd.pinned (OpenSpec.upto signNumbersSpec)

/-- 'pantrylaw01.SignDigits', WHERE WHAT IT READS IS OF BULK AT MOST 1048576: true; the input reads as it did. -/
def signDigitsUptoRow : OpenClaim := { program := "ytnbgffndhkgdpaadoor", sum := "a1d98f184fb772247b21a85339ed6a7f1c530a1cbdcd93bb8fed25d1f4430156", func := "pantry/pantrylaw01.SignDigits", spec := "signDigits", inPlace := ["internal/bytealg.IndexByteString", "internal/bytealg.IndexString"], recurses := true, named := ["unicode/utf8.first", "unicode/utf8.acceptRanges", "internal/bytealg.MaxLen"], apart := false, laid := [("unicode/utf8.acceptRanges", laid_unicode_utf8_acceptRanges), ("unicode/utf8.first", laid_unicode_utf8_first)], narrowed := true }
def SignDigitsUptoSaid : Prop := signDigitsUptoRow.holds Tryd.pinned (OpenSpec.upto signDigitsSpec)

/-- 'pantrylaw01.SignTwo', WHERE WHAT IT READS IS OF BULK AT MOST 1048576: true; the input reads as it did. -/
def signTwoUptoRow : OpenClaim := { program := "ytnbgffndhkgdpaadoor", sum := "a1d98f184fb772247b21a85339ed6a7f1c530a1cbdcd93bb8fed25d1f4430156", func := "pantry/pantrylaw01.SignTwo", spec := "signTwo", inPlace := ["internal/bytealg.IndexByteString", "internal/bytealg.IndexString"], named := ["unicode/utf8.first", "unicode/utf8.acceptRanges", "internal/bytealg.MaxLen"], apart := false, laid := [("unicode/utf8.acceptRanges", laid_unicode_utf8_acceptRanges), ("unicode/utf8.first", laid_unicode_utf8_first)], narrowed := true }
def SignTwoUptoSaid : Prop := signTwoUptoRow.holds Tryd.pinned (OpenSpec.upto signTwoSpec)

/-- 'pantrylaw01.SignLower', WHERE WHAT IT READS IS OF BULK AT MOST 1048576: true; the input reads as it did. -/
def signLowerUptoRow : OpenClaim := { program := "ytnbgffndhkgdpaadoor", sum := "a1d98f184fb772247b21a85339ed6a7f1c530a1cbdcd93bb8fed25d1f4430156", func := "pantry/pantrylaw01.SignLower", spec := "signLower", inPlace := ["internal/bytealg.IndexByteString", "internal/bytealg.IndexString"], named := ["unicode/utf8.first", "unicode/utf8.acceptRanges", "internal/bytealg.MaxLen"], apart := false, laid := [("unicode/utf8.acceptRanges", laid_unicode_utf8_acceptRanges), ("unicode/utf8.first", laid_unicode_utf8_first)], narrowed := true }
def SignLowerUptoSaid : Prop := signLowerUptoRow.holds Tryd.pinned (OpenSpec.upto signLowerSpec)

/-- 'pantrylaw01.SignWords', WHERE WHAT IT READS IS OF BULK AT MOST 1048576: true; the input reads as it did. -/
def signWordsUptoRow : OpenClaim := { program := "ytnbgffndhkgdpaadoor", sum := "a1d98f184fb772247b21a85339ed6a7f1c530a1cbdcd93bb8fed25d1f4430156", func := "pantry/pantrylaw01.SignWords", spec := "signWords", inPlace := ["internal/bytealg.IndexByteString", "internal/bytealg.IndexString"], named := ["unicode/utf8.first", "unicode/utf8.acceptRanges", "internal/bytealg.MaxLen"], apart := false, laid := [("unicode/utf8.acceptRanges", laid_unicode_utf8_acceptRanges), ("unicode/utf8.first", laid_unicode_utf8_first)], narrowed := true }
def SignWordsUptoSaid : Prop := signWordsUptoRow.holds Tryd.pinned (OpenSpec.upto signWordsSpec)

end Rows
end Go.Proofs.YtnbgffndhkgdpaaDoor
