/-
  DERIVED. GIVEN WITH THE SEED: THE CARDS: each row of YtgkgljendffhlaaDoorRows.lean that lists a variable, with what it lists TIED to the program's text (the seventh form; the later family's looks); each row that meets fmt, with fmt's text TOLD by the authors' own Lean function (tested against real Go, not proved from fmt's source: count such statements apart). THE CARD IS WHAT COUNTS. Prove the row's statement (the work); the ties are given (YtgkgljendffhlaaDoorTie.lean); close each card by the builder's one call (the guide's Derived/Test/ToyasCard.lean, 'card_holds'). Laid BY PROGRAM, IN A SANDBOX (cutbox-door.mjs). By AI agents, Wed Nov 11 2026. No macro, syntax, notation, axiom, sorry.
-/
import Derived.Test.YtgkgljendffhlaaDoorRows
import GoSem.ClaimSeven
namespace Go.Proofs.YtgkgljendffhlaaDoor
namespace Rows

/-- THE TIED CARD OF 'pantrylaw08.PlaceReads'. -/
def placeReadsCard : Claim7 := { stood := { row := placeReadsRow, standIns := [], harness := (true, "8959923577aec8b226761e369506a868775181acc7e3b941cc6fe2ffbb53f93f"), looks := false }, kinds := [], alts := [], laidByText := true, laidKinds := [.data, .pinned], laidTests := true, laidLooks := .later }
def PlaceReadsCardSaid : Prop := Claim7.holds Tryd.pinned (.plain (OpenSpec.ofChange placeReadsSpec)) placeReadsCard

/-- THE TIED CARD OF 'pantrylaw08.PlaceDots'. -/
def placeDotsCard : Claim7 := { stood := { row := placeDotsRow, standIns := [], harness := (true, "8959923577aec8b226761e369506a868775181acc7e3b941cc6fe2ffbb53f93f"), looks := false }, kinds := [], alts := [], laidByText := true, laidKinds := [.data, .pinned], laidTests := true, laidLooks := .later }
def PlaceDotsCardSaid : Prop := Claim7.holds Tryd.pinned (.plain (OpenSpec.ofChange placeDotsSpec)) placeDotsCard

/-- THE TIED CARD OF 'pantrylaw08.PlaceEscapes'. -/
def placeEscapesCard : Claim7 := { stood := { row := placeEscapesRow, standIns := [], harness := (true, "8959923577aec8b226761e369506a868775181acc7e3b941cc6fe2ffbb53f93f"), looks := false }, kinds := [], alts := [], laidByText := true, laidKinds := [.data, .pinned], laidTests := true, laidLooks := .later }
def PlaceEscapesCardSaid : Prop := Claim7.holds Tryd.pinned (.plain (OpenSpec.ofChange placeEscapesSpec)) placeEscapesCard

/-- THE TIED CARD OF 'pantrylaw08.PlacePorts'. -/
def placePortsCard : Claim7 := { stood := { row := placePortsRow, standIns := [], harness := (true, "8959923577aec8b226761e369506a868775181acc7e3b941cc6fe2ffbb53f93f"), looks := false }, kinds := [], alts := [], laidByText := true, laidKinds := [.data, .pinned], laidTests := true, laidLooks := .later }
def PlacePortsCardSaid : Prop := Claim7.holds Tryd.pinned (.plain (OpenSpec.ofChange placePortsSpec)) placePortsCard

/-- THE TIED CARD OF 'pantrylaw08.PlacePlain'. -/
def placePlainCard : Claim7 := { stood := { row := placePlainRow, standIns := [], harness := (true, "8959923577aec8b226761e369506a868775181acc7e3b941cc6fe2ffbb53f93f"), looks := false }, kinds := [], alts := [], laidByText := true, laidKinds := [.data, .pinned], laidTests := true, laidLooks := .later }
def PlacePlainCardSaid : Prop := Claim7.holds Tryd.pinned (.plain (OpenSpec.ofChange placePlainSpec)) placePlainCard

/-- THE TIED CARD OF 'pantrylaw08.PlaceHosts'. -/
def placeHostsCard : Claim7 := { stood := { row := placeHostsRow, standIns := [], harness := (true, "8959923577aec8b226761e369506a868775181acc7e3b941cc6fe2ffbb53f93f"), looks := false }, kinds := [], alts := [], laidByText := true, laidKinds := [.data, .pinned], laidTests := true, laidLooks := .later }
def PlaceHostsCardSaid : Prop := Claim7.holds Tryd.pinned (.plain (OpenSpec.ofChange placeHostsSpec)) placeHostsCard

/-- THE TIED CARD OF 'pantrylaw08.PlaceBack'. -/
def placeBackCard : Claim7 := { stood := { row := placeBackRow, standIns := [], harness := (true, "8959923577aec8b226761e369506a868775181acc7e3b941cc6fe2ffbb53f93f"), looks := false }, kinds := [], alts := [], laidByText := true, laidKinds := [.data, .pinned], laidTests := true, laidLooks := .later }
def PlaceBackCardSaid : Prop := Claim7.holds Tryd.pinned (.plain (OpenSpec.ofChange placeBackSpec)) placeBackCard

/-- THE SECOND FORM's CARD OF 'pantrylaw08.PlaceReads'. -/
def placeReadsUptoCard : Claim7 := { stood := { row := placeReadsUptoRow, standIns := [], harness := (true, "8959923577aec8b226761e369506a868775181acc7e3b941cc6fe2ffbb53f93f"), looks := false }, kinds := [], alts := [], laidByText := true, laidKinds := [.data, .pinned], laidTests := true, laidLooks := .later }
def PlaceReadsUptoCardSaid : Prop := Claim7.holds Tryd.pinned (.plain (OpenSpec.upto placeReadsSpec)) placeReadsUptoCard

/-- THE SECOND FORM's CARD OF 'pantrylaw08.PlaceDots'. -/
def placeDotsUptoCard : Claim7 := { stood := { row := placeDotsUptoRow, standIns := [], harness := (true, "8959923577aec8b226761e369506a868775181acc7e3b941cc6fe2ffbb53f93f"), looks := false }, kinds := [], alts := [], laidByText := true, laidKinds := [.data, .pinned], laidTests := true, laidLooks := .later }
def PlaceDotsUptoCardSaid : Prop := Claim7.holds Tryd.pinned (.plain (OpenSpec.upto placeDotsSpec)) placeDotsUptoCard

/-- THE SECOND FORM's CARD OF 'pantrylaw08.PlaceEscapes'. -/
def placeEscapesUptoCard : Claim7 := { stood := { row := placeEscapesUptoRow, standIns := [], harness := (true, "8959923577aec8b226761e369506a868775181acc7e3b941cc6fe2ffbb53f93f"), looks := false }, kinds := [], alts := [], laidByText := true, laidKinds := [.data, .pinned], laidTests := true, laidLooks := .later }
def PlaceEscapesUptoCardSaid : Prop := Claim7.holds Tryd.pinned (.plain (OpenSpec.upto placeEscapesSpec)) placeEscapesUptoCard

/-- THE SECOND FORM's CARD OF 'pantrylaw08.PlacePorts'. -/
def placePortsUptoCard : Claim7 := { stood := { row := placePortsUptoRow, standIns := [], harness := (true, "8959923577aec8b226761e369506a868775181acc7e3b941cc6fe2ffbb53f93f"), looks := false }, kinds := [], alts := [], laidByText := true, laidKinds := [.data, .pinned], laidTests := true, laidLooks := .later }
def PlacePortsUptoCardSaid : Prop := Claim7.holds Tryd.pinned (.plain (OpenSpec.upto placePortsSpec)) placePortsUptoCard

/-- THE SECOND FORM's CARD OF 'pantrylaw08.PlacePlain'. -/
def placePlainUptoCard : Claim7 := { stood := { row := placePlainUptoRow, standIns := [], harness := (true, "8959923577aec8b226761e369506a868775181acc7e3b941cc6fe2ffbb53f93f"), looks := false }, kinds := [], alts := [], laidByText := true, laidKinds := [.data, .pinned], laidTests := true, laidLooks := .later }
def PlacePlainUptoCardSaid : Prop := Claim7.holds Tryd.pinned (.plain (OpenSpec.upto placePlainSpec)) placePlainUptoCard

/-- THE SECOND FORM's CARD OF 'pantrylaw08.PlaceHosts'. -/
def placeHostsUptoCard : Claim7 := { stood := { row := placeHostsUptoRow, standIns := [], harness := (true, "8959923577aec8b226761e369506a868775181acc7e3b941cc6fe2ffbb53f93f"), looks := false }, kinds := [], alts := [], laidByText := true, laidKinds := [.data, .pinned], laidTests := true, laidLooks := .later }
def PlaceHostsUptoCardSaid : Prop := Claim7.holds Tryd.pinned (.plain (OpenSpec.upto placeHostsSpec)) placeHostsUptoCard

/-- THE SECOND FORM's CARD OF 'pantrylaw08.PlaceBack'. -/
def placeBackUptoCard : Claim7 := { stood := { row := placeBackUptoRow, standIns := [], harness := (true, "8959923577aec8b226761e369506a868775181acc7e3b941cc6fe2ffbb53f93f"), looks := false }, kinds := [], alts := [], laidByText := true, laidKinds := [.data, .pinned], laidTests := true, laidLooks := .later }
def PlaceBackUptoCardSaid : Prop := Claim7.holds Tryd.pinned (.plain (OpenSpec.upto placeBackSpec)) placeBackUptoCard
end Rows
end Go.Proofs.YtgkgljendffhlaaDoor
