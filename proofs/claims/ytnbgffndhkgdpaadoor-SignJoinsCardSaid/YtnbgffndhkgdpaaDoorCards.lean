/-
  DERIVED. GIVEN WITH THE SEED: THE CARDS: each row of YtnbgffndhkgdpaaDoorRows.lean that lists a variable, with what it lists TIED to the program's text (the seventh form; the later family's looks); each row that meets fmt, with fmt's text TOLD by the authors' own Lean function (tested against real Go, not proved from fmt's source: count such statements apart). THE CARD IS WHAT COUNTS. Prove the row's statement (the work); the ties are given (YtnbgffndhkgdpaaDoorTie.lean); close each card by the builder's one call (the guide's Derived/Test/ToyasCard.lean, 'card_holds'). Laid BY PROGRAM, IN A SANDBOX (cutbox-door.mjs). By AI agents, Wed Nov 11 2026. No macro, syntax, notation, axiom, sorry.
-/
import Derived.Test.YtnbgffndhkgdpaaDoorRows
import GoSem.ClaimSeven
namespace Go.Proofs.YtnbgffndhkgdpaaDoor
namespace Rows

/-- THE TIED CARD OF 'pantrylaw01.SignLists'. -/
def signListsCard : Claim7 := { stood := { row := signListsRow, standIns := [], harness := (true, "45dc19618b52ee795d1378ba8b63a470d6cafda1cdc5038d02fc7b74d88860f5"), looks := false }, kinds := [], alts := [], laidByText := true, laidKinds := [.data, .pinned], laidTests := true, laidLooks := .later }
def SignListsCardSaid : Prop := Claim7.holds Tryd.pinned (.plain (OpenSpec.ofChange signListsSpec)) signListsCard

/-- THE TIED CARD OF 'pantrylaw01.SignJoins'. -/
def signJoinsCard : Claim7 := { stood := { row := signJoinsRow, standIns := [], harness := (true, "45dc19618b52ee795d1378ba8b63a470d6cafda1cdc5038d02fc7b74d88860f5"), looks := false }, kinds := [], alts := [], laidByText := true, laidKinds := [.data, .pinned], laidTests := true, laidLooks := .later }
def SignJoinsCardSaid : Prop := Claim7.holds Tryd.pinned (.plain (OpenSpec.ofChange signJoinsSpec)) signJoinsCard

/-- THE TIED CARD OF 'pantrylaw01.SignQuotes'. -/
def signQuotesCard : Claim7 := { stood := { row := signQuotesRow, standIns := [], harness := (true, "45dc19618b52ee795d1378ba8b63a470d6cafda1cdc5038d02fc7b74d88860f5"), looks := false }, kinds := [], alts := [], laidByText := true, laidKinds := [.data, .pinned], laidTests := true, laidLooks := .later }
def SignQuotesCardSaid : Prop := Claim7.holds Tryd.pinned (.plain (OpenSpec.ofChange signQuotesSpec)) signQuotesCard

/-- THE TIED CARD OF 'pantrylaw01.SignNumbers'. -/
def signNumbersCard : Claim7 := { stood := { row := signNumbersRow, standIns := [], harness := (true, "45dc19618b52ee795d1378ba8b63a470d6cafda1cdc5038d02fc7b74d88860f5"), looks := false }, kinds := [], alts := [], laidByText := true, laidKinds := [.data, .pinned], laidTests := true, laidLooks := .later }
def SignNumbersCardSaid : Prop := Claim7.holds Tryd.pinned (.plain (OpenSpec.ofChange signNumbersSpec)) signNumbersCard

/-- THE TIED CARD OF 'pantrylaw01.SignDigits'. -/
def signDigitsCard : Claim7 := { stood := { row := signDigitsRow, standIns := [], harness := (true, "45dc19618b52ee795d1378ba8b63a470d6cafda1cdc5038d02fc7b74d88860f5"), looks := false }, kinds := [], alts := [], laidByText := true, laidKinds := [.data, .pinned], laidTests := true, laidLooks := .later }
def SignDigitsCardSaid : Prop := Claim7.holds Tryd.pinned (.plain (OpenSpec.ofChange signDigitsSpec)) signDigitsCard

/-- THE TIED CARD OF 'pantrylaw01.SignTwo'. -/
def signTwoCard : Claim7 := { stood := { row := signTwoRow, standIns := [], harness := (true, "45dc19618b52ee795d1378ba8b63a470d6cafda1cdc5038d02fc7b74d88860f5"), looks := false }, kinds := [], alts := [], laidByText := true, laidKinds := [.data, .pinned], laidTests := true, laidLooks := .later }
def SignTwoCardSaid : Prop := Claim7.holds Tryd.pinned (.plain (OpenSpec.ofChange signTwoSpec)) signTwoCard

/-- THE TIED CARD OF 'pantrylaw01.SignLower'. -/
def signLowerCard : Claim7 := { stood := { row := signLowerRow, standIns := [], harness := (true, "45dc19618b52ee795d1378ba8b63a470d6cafda1cdc5038d02fc7b74d88860f5"), looks := false }, kinds := [], alts := [], laidByText := true, laidKinds := [.data, .pinned], laidTests := true, laidLooks := .later }
def SignLowerCardSaid : Prop := Claim7.holds Tryd.pinned (.plain (OpenSpec.ofChange signLowerSpec)) signLowerCard

/-- THE TIED CARD OF 'pantrylaw01.SignWords'. -/
def signWordsCard : Claim7 := { stood := { row := signWordsRow, standIns := [], harness := (true, "45dc19618b52ee795d1378ba8b63a470d6cafda1cdc5038d02fc7b74d88860f5"), looks := false }, kinds := [], alts := [], laidByText := true, laidKinds := [.data, .pinned], laidTests := true, laidLooks := .later }
def SignWordsCardSaid : Prop := Claim7.holds Tryd.pinned (.plain (OpenSpec.ofChange signWordsSpec)) signWordsCard

/-- THE SECOND FORM's CARD OF 'pantrylaw01.SignLists'. -/
def signListsUptoCard : Claim7 := { stood := { row := signListsUptoRow, standIns := [], harness := (true, "45dc19618b52ee795d1378ba8b63a470d6cafda1cdc5038d02fc7b74d88860f5"), looks := false }, kinds := [], alts := [], laidByText := true, laidKinds := [.data, .pinned], laidTests := true, laidLooks := .later }
def SignListsUptoCardSaid : Prop := Claim7.holds Tryd.pinned (.plain (OpenSpec.upto signListsSpec)) signListsUptoCard

/-- THE SECOND FORM's CARD OF 'pantrylaw01.SignJoins'. -/
def signJoinsUptoCard : Claim7 := { stood := { row := signJoinsUptoRow, standIns := [], harness := (true, "45dc19618b52ee795d1378ba8b63a470d6cafda1cdc5038d02fc7b74d88860f5"), looks := false }, kinds := [], alts := [], laidByText := true, laidKinds := [.data, .pinned], laidTests := true, laidLooks := .later }
def SignJoinsUptoCardSaid : Prop := Claim7.holds Tryd.pinned (.plain (OpenSpec.upto signJoinsSpec)) signJoinsUptoCard

/-- THE SECOND FORM's CARD OF 'pantrylaw01.SignQuotes'. -/
def signQuotesUptoCard : Claim7 := { stood := { row := signQuotesUptoRow, standIns := [], harness := (true, "45dc19618b52ee795d1378ba8b63a470d6cafda1cdc5038d02fc7b74d88860f5"), looks := false }, kinds := [], alts := [], laidByText := true, laidKinds := [.data, .pinned], laidTests := true, laidLooks := .later }
def SignQuotesUptoCardSaid : Prop := Claim7.holds Tryd.pinned (.plain (OpenSpec.upto signQuotesSpec)) signQuotesUptoCard

/-- THE SECOND FORM's CARD OF 'pantrylaw01.SignNumbers'. -/
def signNumbersUptoCard : Claim7 := { stood := { row := signNumbersUptoRow, standIns := [], harness := (true, "45dc19618b52ee795d1378ba8b63a470d6cafda1cdc5038d02fc7b74d88860f5"), looks := false }, kinds := [], alts := [], laidByText := true, laidKinds := [.data, .pinned], laidTests := true, laidLooks := .later }
def SignNumbersUptoCardSaid : Prop := Claim7.holds Tryd.pinned (.plain (OpenSpec.upto signNumbersSpec)) signNumbersUptoCard

/-- THE SECOND FORM's CARD OF 'pantrylaw01.SignDigits'. -/
def signDigitsUptoCard : Claim7 := { stood := { row := signDigitsUptoRow, standIns := [], harness := (true, "45dc19618b52ee795d1378ba8b63a470d6cafda1cdc5038d02fc7b74d88860f5"), looks := false }, kinds := [], alts := [], laidByText := true, laidKinds := [.data, .pinned], laidTests := true, laidLooks := .later }
def SignDigitsUptoCardSaid : Prop := Claim7.holds Tryd.pinned (.plain (OpenSpec.upto signDigitsSpec)) signDigitsUptoCard

/-- THE SECOND FORM's CARD OF 'pantrylaw01.SignTwo'. -/
def signTwoUptoCard : Claim7 := { stood := { row := signTwoUptoRow, standIns := [], harness := (true, "45dc19618b52ee795d1378ba8b63a470d6cafda1cdc5038d02fc7b74d88860f5"), looks := false }, kinds := [], alts := [], laidByText := true, laidKinds := [.data, .pinned], laidTests := true, laidLooks := .later }
def SignTwoUptoCardSaid : Prop := Claim7.holds Tryd.pinned (.plain (OpenSpec.upto signTwoSpec)) signTwoUptoCard

/-- THE SECOND FORM's CARD OF 'pantrylaw01.SignLower'. -/
def signLowerUptoCard : Claim7 := { stood := { row := signLowerUptoRow, standIns := [], harness := (true, "45dc19618b52ee795d1378ba8b63a470d6cafda1cdc5038d02fc7b74d88860f5"), looks := false }, kinds := [], alts := [], laidByText := true, laidKinds := [.data, .pinned], laidTests := true, laidLooks := .later }
def SignLowerUptoCardSaid : Prop := Claim7.holds Tryd.pinned (.plain (OpenSpec.upto signLowerSpec)) signLowerUptoCard

/-- THE SECOND FORM's CARD OF 'pantrylaw01.SignWords'. -/
def signWordsUptoCard : Claim7 := { stood := { row := signWordsUptoRow, standIns := [], harness := (true, "45dc19618b52ee795d1378ba8b63a470d6cafda1cdc5038d02fc7b74d88860f5"), looks := false }, kinds := [], alts := [], laidByText := true, laidKinds := [.data, .pinned], laidTests := true, laidLooks := .later }
def SignWordsUptoCardSaid : Prop := Claim7.holds Tryd.pinned (.plain (OpenSpec.upto signWordsSpec)) signWordsUptoCard
end Rows
end Go.Proofs.YtnbgffndhkgdpaaDoor
