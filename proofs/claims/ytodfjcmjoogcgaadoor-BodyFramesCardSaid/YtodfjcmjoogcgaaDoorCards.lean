/-
  DERIVED. GIVEN WITH THE SEED: THE CARDS: each row of YtodfjcmjoogcgaaDoorRows.lean that lists a variable, with what it lists TIED to the program's text (the seventh form; the later family's looks); each row that meets fmt, with fmt's text TOLD by the authors' own Lean function (tested against real Go, not proved from fmt's source: count such statements apart). THE CARD IS WHAT COUNTS. Prove the row's statement (the work); the ties are given (YtodfjcmjoogcgaaDoorTie.lean); close each card by the builder's one call (the guide's Derived/Test/ToyasCard.lean, 'card_holds'). Laid BY PROGRAM, IN A SANDBOX (cutbox-door.mjs). By AI agents, Wed Nov 11 2026. No macro, syntax, notation, axiom, sorry.
-/
import Derived.Test.YtodfjcmjoogcgaaDoorRows
import GoSem.ClaimSeven
namespace Go.Proofs.YtodfjcmjoogcgaaDoor
namespace Rows

/-- THE TIED CARD OF 'pantrylaw06.BodyChunks'. -/
def bodyChunksCard : Claim7 := { stood := { row := bodyChunksRow, standIns := [], harness := (true, "646c85f942974df6a312ba59620f0919318695b26ade8341b95d6f7f349fe519"), looks := false }, kinds := [], alts := [], laidByText := true, laidKinds := [.data, .data, .data], laidTests := true, laidLooks := .later }
def BodyChunksCardSaid : Prop := Claim7.holds Tryd.pinned (.plain (OpenSpec.ofChange bodyChunksSpec)) bodyChunksCard

/-- THE TIED CARD OF 'pantrylaw06.BodyMore'. -/
def bodyMoreCard : Claim7 := { stood := { row := bodyMoreRow, standIns := [], harness := (true, "646c85f942974df6a312ba59620f0919318695b26ade8341b95d6f7f349fe519"), looks := false }, kinds := [], alts := [], laidByText := true, laidKinds := [.data, .data, .data], laidTests := true, laidLooks := .later }
def BodyMoreCardSaid : Prop := Claim7.holds Tryd.pinned (.plain (OpenSpec.ofChange bodyMoreSpec)) bodyMoreCard

/-- THE TIED CARD OF 'pantrylaw06.BodySized'. -/
def bodySizedCard : Claim7 := { stood := { row := bodySizedRow, standIns := [], harness := (true, "646c85f942974df6a312ba59620f0919318695b26ade8341b95d6f7f349fe519"), looks := false }, kinds := [], alts := [], laidByText := true, laidKinds := [.data, .data, .data], laidTests := true, laidLooks := .later }
def BodySizedCardSaid : Prop := Claim7.holds Tryd.pinned (.plain (OpenSpec.ofChange bodySizedSpec)) bodySizedCard

/-- THE TIED CARD OF 'pantrylaw06.BodyFrames'. -/
def bodyFramesCard : Claim7 := { stood := { row := bodyFramesRow, standIns := [], harness := (true, "646c85f942974df6a312ba59620f0919318695b26ade8341b95d6f7f349fe519"), looks := false }, kinds := [], alts := [], laidByText := true, laidKinds := [.data, .data, .data, .data, .pinned], laidTests := true, laidLooks := .later }
def BodyFramesCardSaid : Prop := Claim7.holds Tryd.pinned (.plain (OpenSpec.ofChange bodyFramesSpec)) bodyFramesCard

/-- THE TIED CARD OF 'pantrylaw06.BodySmuggles'. -/
def bodySmugglesCard : Claim7 := { stood := { row := bodySmugglesRow, standIns := [], harness := (true, "646c85f942974df6a312ba59620f0919318695b26ade8341b95d6f7f349fe519"), looks := false }, kinds := [], alts := [], laidByText := true, laidKinds := [.data, .data, .data, .data, .pinned], laidTests := true, laidLooks := .later }
def BodySmugglesCardSaid : Prop := Claim7.holds Tryd.pinned (.plain (OpenSpec.ofChange bodySmugglesSpec)) bodySmugglesCard

/-- THE TIED CARD OF 'pantrylaw06.BodyNone'. -/
def bodyNoneCard : Claim7 := { stood := { row := bodyNoneRow, standIns := [], harness := (true, "646c85f942974df6a312ba59620f0919318695b26ade8341b95d6f7f349fe519"), looks := false }, kinds := [], alts := [], laidByText := true, laidKinds := [.data, .data, .data, .data, .pinned], laidTests := true, laidLooks := .later }
def BodyNoneCardSaid : Prop := Claim7.holds Tryd.pinned (.plain (OpenSpec.ofChange bodyNoneSpec)) bodyNoneCard

/-- THE SECOND FORM's CARD OF 'pantrylaw06.BodyChunks'. -/
def bodyChunksUptoCard : Claim7 := { stood := { row := bodyChunksUptoRow, standIns := [], harness := (true, "646c85f942974df6a312ba59620f0919318695b26ade8341b95d6f7f349fe519"), looks := false }, kinds := [], alts := [], laidByText := true, laidKinds := [.data, .data, .data], laidTests := true, laidLooks := .later }
def BodyChunksUptoCardSaid : Prop := Claim7.holds Tryd.pinned (.plain (OpenSpec.upto bodyChunksSpec)) bodyChunksUptoCard

/-- THE SECOND FORM's CARD OF 'pantrylaw06.BodyMore'. -/
def bodyMoreUptoCard : Claim7 := { stood := { row := bodyMoreUptoRow, standIns := [], harness := (true, "646c85f942974df6a312ba59620f0919318695b26ade8341b95d6f7f349fe519"), looks := false }, kinds := [], alts := [], laidByText := true, laidKinds := [.data, .data, .data], laidTests := true, laidLooks := .later }
def BodyMoreUptoCardSaid : Prop := Claim7.holds Tryd.pinned (.plain (OpenSpec.upto bodyMoreSpec)) bodyMoreUptoCard

/-- THE SECOND FORM's CARD OF 'pantrylaw06.BodySized'. -/
def bodySizedUptoCard : Claim7 := { stood := { row := bodySizedUptoRow, standIns := [], harness := (true, "646c85f942974df6a312ba59620f0919318695b26ade8341b95d6f7f349fe519"), looks := false }, kinds := [], alts := [], laidByText := true, laidKinds := [.data, .data, .data], laidTests := true, laidLooks := .later }
def BodySizedUptoCardSaid : Prop := Claim7.holds Tryd.pinned (.plain (OpenSpec.upto bodySizedSpec)) bodySizedUptoCard

/-- THE SECOND FORM's CARD OF 'pantrylaw06.BodyFrames'. -/
def bodyFramesUptoCard : Claim7 := { stood := { row := bodyFramesUptoRow, standIns := [], harness := (true, "646c85f942974df6a312ba59620f0919318695b26ade8341b95d6f7f349fe519"), looks := false }, kinds := [], alts := [], laidByText := true, laidKinds := [.data, .data, .data, .data, .pinned], laidTests := true, laidLooks := .later }
def BodyFramesUptoCardSaid : Prop := Claim7.holds Tryd.pinned (.plain (OpenSpec.upto bodyFramesSpec)) bodyFramesUptoCard

/-- THE SECOND FORM's CARD OF 'pantrylaw06.BodySmuggles'. -/
def bodySmugglesUptoCard : Claim7 := { stood := { row := bodySmugglesUptoRow, standIns := [], harness := (true, "646c85f942974df6a312ba59620f0919318695b26ade8341b95d6f7f349fe519"), looks := false }, kinds := [], alts := [], laidByText := true, laidKinds := [.data, .data, .data, .data, .pinned], laidTests := true, laidLooks := .later }
def BodySmugglesUptoCardSaid : Prop := Claim7.holds Tryd.pinned (.plain (OpenSpec.upto bodySmugglesSpec)) bodySmugglesUptoCard

/-- THE SECOND FORM's CARD OF 'pantrylaw06.BodyNone'. -/
def bodyNoneUptoCard : Claim7 := { stood := { row := bodyNoneUptoRow, standIns := [], harness := (true, "646c85f942974df6a312ba59620f0919318695b26ade8341b95d6f7f349fe519"), looks := false }, kinds := [], alts := [], laidByText := true, laidKinds := [.data, .data, .data, .data, .pinned], laidTests := true, laidLooks := .later }
def BodyNoneUptoCardSaid : Prop := Claim7.holds Tryd.pinned (.plain (OpenSpec.upto bodyNoneSpec)) bodyNoneUptoCard
end Rows
end Go.Proofs.YtodfjcmjoogcgaaDoor
