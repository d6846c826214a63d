/-
  DERIVED. GIVEN WITH THE SEED: THE CARDS: each row of YtllnleokjcimhaaDoorRows.lean that lists a variable, with what it lists TIED to the program's text (the seventh form; the later family's looks); each row that meets fmt, with fmt's text TOLD by the authors' own Lean function (tested against real Go, not proved from fmt's source: count such statements apart). THE CARD IS WHAT COUNTS. Prove the row's statement (the work); the ties are given (YtllnleokjcimhaaDoorTie.lean); close each card by the builder's one call (the guide's Derived/Test/ToyasCard.lean, 'card_holds'). Laid BY PROGRAM, IN A SANDBOX (cutbox-door.mjs). By AI agents, Wed Nov 11 2026. No macro, syntax, notation, axiom, sorry.
-/
import Derived.Test.YtllnleokjcimhaaDoorRows
import GoSem.ClaimSeven
namespace Go.Proofs.YtllnleokjcimhaaDoor
namespace Rows

/-- THE TIED CARD OF 'pantrylaw14.EntryEncodes'. -/
def entryEncodesCard : Claim7 := { stood := { row := entryEncodesRow, standIns := [], harness := (true, "7790190368fe615a3fe88083e48575c86edb30b887043a8e38a42a3a3bb453fe"), looks := false }, kinds := [], alts := [], laidByText := true, laidKinds := [.data, .pinned], laidTests := true, laidLooks := .later }
def EntryEncodesCardSaid : Prop := Claim7.holds Tryd.pinned (.plain (OpenSpec.ofChange entryEncodesSpec)) entryEncodesCard

/-- THE TIED CARD OF 'pantrylaw14.EntryDecodes'. -/
def entryDecodesCard : Claim7 := { stood := { row := entryDecodesRow, standIns := [], harness := (true, "7790190368fe615a3fe88083e48575c86edb30b887043a8e38a42a3a3bb453fe"), looks := false }, kinds := [], alts := [], laidByText := true, laidKinds := [.data, .pinned], laidTests := true, laidLooks := .later }
def EntryDecodesCardSaid : Prop := Claim7.holds Tryd.pinned (.plain (OpenSpec.ofChange entryDecodesSpec)) entryDecodesCard

/-- THE TIED CARD OF 'pantrylaw14.EntrySame'. -/
def entrySameCard : Claim7 := { stood := { row := entrySameRow, standIns := [], harness := (true, "7790190368fe615a3fe88083e48575c86edb30b887043a8e38a42a3a3bb453fe"), looks := false }, kinds := [], alts := [], laidByText := true, laidKinds := [.data, .pinned], laidTests := true, laidLooks := .later }
def EntrySameCardSaid : Prop := Claim7.holds Tryd.pinned (.plain (OpenSpec.ofChange entrySameSpec)) entrySameCard

/-- THE TIED CARD OF 'pantrylaw14.EntryTurned'. -/
def entryTurnedCard : Claim7 := { stood := { row := entryTurnedRow, standIns := [], harness := (true, "7790190368fe615a3fe88083e48575c86edb30b887043a8e38a42a3a3bb453fe"), looks := false }, kinds := [], alts := [], laidByText := true, laidKinds := [.data, .pinned], laidTests := true, laidLooks := .later }
def EntryTurnedCardSaid : Prop := Claim7.holds Tryd.pinned (.plain (OpenSpec.ofChange entryTurnedSpec)) entryTurnedCard

/-- THE TIED CARD OF 'pantrylaw14.EntryCuts'. -/
def entryCutsCard : Claim7 := { stood := { row := entryCutsRow, standIns := [], harness := (true, "7790190368fe615a3fe88083e48575c86edb30b887043a8e38a42a3a3bb453fe"), looks := false }, kinds := [], alts := [], laidByText := true, laidKinds := [.data, .pinned], laidTests := true, laidLooks := .later }
def EntryCutsCardSaid : Prop := Claim7.holds Tryd.pinned (.plain (OpenSpec.ofChange entryCutsSpec)) entryCutsCard

/-- THE TIED CARD OF 'pantrylaw14.EntryTurns'. -/
def entryTurnsCard : Claim7 := { stood := { row := entryTurnsRow, standIns := [], harness := (true, "7790190368fe615a3fe88083e48575c86edb30b887043a8e38a42a3a3bb453fe"), looks := false }, kinds := [], alts := [], laidByText := true, laidKinds := [.data, .pinned], laidTests := true, laidLooks := .later }
def EntryTurnsCardSaid : Prop := Claim7.holds Tryd.pinned (.plain (OpenSpec.ofChange entryTurnsSpec)) entryTurnsCard

/-- THE TIED CARD OF 'pantrylaw14.EntryFits'. -/
def entryFitsCard : Claim7 := { stood := { row := entryFitsRow, standIns := [], harness := (true, "7790190368fe615a3fe88083e48575c86edb30b887043a8e38a42a3a3bb453fe"), looks := false }, kinds := [], alts := [], laidByText := true, laidKinds := [.data, .pinned], laidTests := true, laidLooks := .later }
def EntryFitsCardSaid : Prop := Claim7.holds Tryd.pinned (.plain (OpenSpec.ofChange entryFitsSpec)) entryFitsCard

/-- THE SECOND FORM's CARD OF 'pantrylaw14.EntryEncodes'. -/
def entryEncodesUptoCard : Claim7 := { stood := { row := entryEncodesUptoRow, standIns := [], harness := (true, "7790190368fe615a3fe88083e48575c86edb30b887043a8e38a42a3a3bb453fe"), looks := false }, kinds := [], alts := [], laidByText := true, laidKinds := [.data, .pinned], laidTests := true, laidLooks := .later }
def EntryEncodesUptoCardSaid : Prop := Claim7.holds Tryd.pinned (.plain (OpenSpec.upto entryEncodesSpec)) entryEncodesUptoCard

/-- THE SECOND FORM's CARD OF 'pantrylaw14.EntryDecodes'. -/
def entryDecodesUptoCard : Claim7 := { stood := { row := entryDecodesUptoRow, standIns := [], harness := (true, "7790190368fe615a3fe88083e48575c86edb30b887043a8e38a42a3a3bb453fe"), looks := false }, kinds := [], alts := [], laidByText := true, laidKinds := [.data, .pinned], laidTests := true, laidLooks := .later }
def EntryDecodesUptoCardSaid : Prop := Claim7.holds Tryd.pinned (.plain (OpenSpec.upto entryDecodesSpec)) entryDecodesUptoCard

/-- THE SECOND FORM's CARD OF 'pantrylaw14.EntrySame'. -/
def entrySameUptoCard : Claim7 := { stood := { row := entrySameUptoRow, standIns := [], harness := (true, "7790190368fe615a3fe88083e48575c86edb30b887043a8e38a42a3a3bb453fe"), looks := false }, kinds := [], alts := [], laidByText := true, laidKinds := [.data, .pinned], laidTests := true, laidLooks := .later }
def EntrySameUptoCardSaid : Prop := Claim7.holds Tryd.pinned (.plain (OpenSpec.upto entrySameSpec)) entrySameUptoCard

/-- THE SECOND FORM's CARD OF 'pantrylaw14.EntryTurned'. -/
def entryTurnedUptoCard : Claim7 := { stood := { row := entryTurnedUptoRow, standIns := [], harness := (true, "7790190368fe615a3fe88083e48575c86edb30b887043a8e38a42a3a3bb453fe"), looks := false }, kinds := [], alts := [], laidByText := true, laidKinds := [.data, .pinned], laidTests := true, laidLooks := .later }
def EntryTurnedUptoCardSaid : Prop := Claim7.holds Tryd.pinned (.plain (OpenSpec.upto entryTurnedSpec)) entryTurnedUptoCard

/-- THE SECOND FORM's CARD OF 'pantrylaw14.EntryCuts'. -/
def entryCutsUptoCard : Claim7 := { stood := { row := entryCutsUptoRow, standIns := [], harness := (true, "7790190368fe615a3fe88083e48575c86edb30b887043a8e38a42a3a3bb453fe"), looks := false }, kinds := [], alts := [], laidByText := true, laidKinds := [.data, .pinned], laidTests := true, laidLooks := .later }
def EntryCutsUptoCardSaid : Prop := Claim7.holds Tryd.pinned (.plain (OpenSpec.upto entryCutsSpec)) entryCutsUptoCard

/-- THE SECOND FORM's CARD OF 'pantrylaw14.EntryTurns'. -/
def entryTurnsUptoCard : Claim7 := { stood := { row := entryTurnsUptoRow, standIns := [], harness := (true, "7790190368fe615a3fe88083e48575c86edb30b887043a8e38a42a3a3bb453fe"), looks := false }, kinds := [], alts := [], laidByText := true, laidKinds := [.data, .pinned], laidTests := true, laidLooks := .later }
def EntryTurnsUptoCardSaid : Prop := Claim7.holds Tryd.pinned (.plain (OpenSpec.upto entryTurnsSpec)) entryTurnsUptoCard

/-- THE SECOND FORM's CARD OF 'pantrylaw14.EntryFits'. -/
def entryFitsUptoCard : Claim7 := { stood := { row := entryFitsUptoRow, standIns := [], harness := (true, "7790190368fe615a3fe88083e48575c86edb30b887043a8e38a42a3a3bb453fe"), looks := false }, kinds := [], alts := [], laidByText := true, laidKinds := [.data, .pinned], laidTests := true, laidLooks := .later }
def EntryFitsUptoCardSaid : Prop := Claim7.holds Tryd.pinned (.plain (OpenSpec.upto entryFitsSpec)) entryFitsUptoCard
end Rows
end Go.Proofs.YtllnleokjcimhaaDoor
