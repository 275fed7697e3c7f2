/-
  DERIVED. GIVEN WITH THE SEED: THE CARDS: each row of YtoaoofobidhfjaaGreatDoorRows.lean that lists a variable, with what it lists TIED to the program's text (the seventh form; the later family's looks); each row that meets fmt, with fmt's text TOLD by the authors' own Lean function (tested against real Go, not proved from fmt's source: count such statements apart). THE CARD IS WHAT COUNTS. Prove the row's statement (the work); the ties are given (YtoaoofobidhfjaaGreatDoorTie.lean); close each card by the builder's one call (the guide's Derived/Test/ToyasCard.lean, 'card_holds'). Laid BY PROGRAM, IN A SANDBOX (cutbox-door.mjs). By AI agents, Wed Nov 11 2026. No macro, syntax, notation, axiom, sorry.
-/
import Derived.Test.YtoaoofobidhfjaaGreatDoorRows
import GoSem.ClaimSeven
namespace Go.Proofs.YtoaoofobidhfjaaGreatDoor
namespace Rows

/-- THE TIED CARD OF 'caduceuslaw8.TokenOne'. -/
def tokenOneCard : Claim7 := { stood := { row := tokenOneRow, standIns := [], harness := (true, "45b6dcddbd909bec77d4ee03deb0d372fdfaba3bcb02544c07cd7716e2b0b7a3"), looks := false }, kinds := [], alts := [], laidByText := true, laidKinds := [.data, .pinned], laidTests := true, laidLooks := .later }
def TokenOneCardSaid : Prop := Claim7.holds Tryz.pinned (.plain (OpenSpec.ofChange tokenOneSpec)) tokenOneCard

/-- THE TIED CARD OF 'caduceuslaw8.TokenLines'. -/
def tokenLinesCard : Claim7 := { stood := { row := tokenLinesRow, standIns := [], harness := (true, "45b6dcddbd909bec77d4ee03deb0d372fdfaba3bcb02544c07cd7716e2b0b7a3"), looks := false }, kinds := [], alts := [], laidByText := true, laidKinds := [.data, .pinned], laidTests := true, laidLooks := .later }
def TokenLinesCardSaid : Prop := Claim7.holds Tryz.pinned (.plain (OpenSpec.ofChange tokenLinesSpec)) tokenLinesCard

/-- THE TIED CARD OF 'caduceuslaw8.TokenBack'. -/
def tokenBackCard : Claim7 := { stood := { row := tokenBackRow, standIns := [], harness := (true, "45b6dcddbd909bec77d4ee03deb0d372fdfaba3bcb02544c07cd7716e2b0b7a3"), looks := false }, kinds := [], alts := [], laidByText := true, laidKinds := [.data, .pinned], laidTests := true, laidLooks := .later }
def TokenBackCardSaid : Prop := Claim7.holds Tryz.pinned (.plain (OpenSpec.ofChange tokenBackSpec)) tokenBackCard

/-- THE TIED CARD OF 'caduceuslaw8.TokenEnds'. -/
def tokenEndsCard : Claim7 := { stood := { row := tokenEndsRow, standIns := [], harness := (true, "45b6dcddbd909bec77d4ee03deb0d372fdfaba3bcb02544c07cd7716e2b0b7a3"), looks := false }, kinds := [], alts := [], laidByText := true, laidKinds := [.data, .pinned], laidTests := true, laidLooks := .later }
def TokenEndsCardSaid : Prop := Claim7.holds Tryz.pinned (.plain (OpenSpec.ofChange tokenEndsSpec)) tokenEndsCard

/-- THE TIED CARD OF 'caduceuslaw8.TokenSame'. -/
def tokenSameCard : Claim7 := { stood := { row := tokenSameRow, standIns := [], harness := (true, "45b6dcddbd909bec77d4ee03deb0d372fdfaba3bcb02544c07cd7716e2b0b7a3"), looks := false }, kinds := [], alts := [], laidByText := true, laidKinds := [.data, .pinned], laidTests := true, laidLooks := .later }
def TokenSameCardSaid : Prop := Claim7.holds Tryz.pinned (.plain (OpenSpec.ofChange tokenSameSpec)) tokenSameCard

/-- THE TIED CARD OF 'caduceuslaw8.TokenEmpty'. -/
def tokenEmptyCard : Claim7 := { stood := { row := tokenEmptyRow, standIns := [], harness := (true, "45b6dcddbd909bec77d4ee03deb0d372fdfaba3bcb02544c07cd7716e2b0b7a3"), looks := false }, kinds := [], alts := [], laidByText := true, laidKinds := [.data, .pinned], laidTests := true, laidLooks := .later }
def TokenEmptyCardSaid : Prop := Claim7.holds Tryz.pinned (.plain (OpenSpec.ofChange tokenEmptySpec)) tokenEmptyCard

/-- THE TIED CARD OF 'caduceuslaw8.TokenSigns'. -/
def tokenSignsCard : Claim7 := { stood := { row := tokenSignsRow, standIns := [], harness := (true, "45b6dcddbd909bec77d4ee03deb0d372fdfaba3bcb02544c07cd7716e2b0b7a3"), looks := false }, kinds := [], alts := [], laidByText := true, laidKinds := [.data, .pinned], laidTests := true, laidLooks := .later }
def TokenSignsCardSaid : Prop := Claim7.holds Tryz.pinned (.plain (OpenSpec.ofChange tokenSignsSpec)) tokenSignsCard

/-- THE TIED CARD OF 'caduceuslaw10.HeadTells'. -/
def headTellsCard : Claim7 := { stood := { row := headTellsRow, standIns := [], harness := (true, "45b6dcddbd909bec77d4ee03deb0d372fdfaba3bcb02544c07cd7716e2b0b7a3"), looks := false }, kinds := [], alts := [], laidByText := true, laidKinds := [.data, .pinned], laidTests := true, laidLooks := .later }
def HeadTellsCardSaid : Prop := Claim7.holds Tryz.pinned (.plain (OpenSpec.ofChange headTellsSpec)) headTellsCard

/-- THE TIED CARD OF 'caduceuslaw9.PathText'. -/
def pathTextCard : Claim7 := { stood := { row := pathTextRow, standIns := [], harness := (true, "45b6dcddbd909bec77d4ee03deb0d372fdfaba3bcb02544c07cd7716e2b0b7a3"), looks := false }, kinds := [], alts := [], laidByText := true, laidKinds := [.data, .pinned], laidTests := true, laidLooks := .later }
def PathTextCardSaid : Prop := Claim7.holds Tryz.pinned (.plain (OpenSpec.ofChange pathTextSpec)) pathTextCard

/-- THE TIED CARD OF 'caduceuslaw11.AckBack'. -/
def ackBackCard : Claim7 := { stood := { row := ackBackRow, standIns := [], harness := (true, "45b6dcddbd909bec77d4ee03deb0d372fdfaba3bcb02544c07cd7716e2b0b7a3"), looks := false }, kinds := [], alts := [], laidByText := true, laidKinds := [.data, .pinned], laidTests := true, laidLooks := .later }
def AckBackCardSaid : Prop := Claim7.holds Tryz.pinned (.plain (OpenSpec.ofChange ackBackSpec)) ackBackCard

/-- THE TIED CARD OF 'caduceuslaw11.AckText'. -/
def ackTextCard : Claim7 := { stood := { row := ackTextRow, standIns := [], harness := (true, "45b6dcddbd909bec77d4ee03deb0d372fdfaba3bcb02544c07cd7716e2b0b7a3"), looks := false }, kinds := [], alts := [], laidByText := true, laidKinds := [.data, .pinned], laidTests := true, laidLooks := .later }
def AckTextCardSaid : Prop := Claim7.holds Tryz.pinned (.plain (OpenSpec.ofChange ackTextSpec)) ackTextCard

/-- THE SECOND FORM's CARD OF 'caduceuslaw8.TokenOne'. -/
def tokenOneUptoCard : Claim7 := { stood := { row := tokenOneUptoRow, standIns := [], harness := (true, "45b6dcddbd909bec77d4ee03deb0d372fdfaba3bcb02544c07cd7716e2b0b7a3"), looks := false }, kinds := [], alts := [], laidByText := true, laidKinds := [.data, .pinned], laidTests := true, laidLooks := .later }
def TokenOneUptoCardSaid : Prop := Claim7.holds Tryz.pinned (.plain (OpenSpec.upto tokenOneSpec)) tokenOneUptoCard

/-- THE SECOND FORM's CARD OF 'caduceuslaw8.TokenLines'. -/
def tokenLinesUptoCard : Claim7 := { stood := { row := tokenLinesUptoRow, standIns := [], harness := (true, "45b6dcddbd909bec77d4ee03deb0d372fdfaba3bcb02544c07cd7716e2b0b7a3"), looks := false }, kinds := [], alts := [], laidByText := true, laidKinds := [.data, .pinned], laidTests := true, laidLooks := .later }
def TokenLinesUptoCardSaid : Prop := Claim7.holds Tryz.pinned (.plain (OpenSpec.upto tokenLinesSpec)) tokenLinesUptoCard

/-- THE SECOND FORM's CARD OF 'caduceuslaw8.TokenBack'. -/
def tokenBackUptoCard : Claim7 := { stood := { row := tokenBackUptoRow, standIns := [], harness := (true, "45b6dcddbd909bec77d4ee03deb0d372fdfaba3bcb02544c07cd7716e2b0b7a3"), looks := false }, kinds := [], alts := [], laidByText := true, laidKinds := [.data, .pinned], laidTests := true, laidLooks := .later }
def TokenBackUptoCardSaid : Prop := Claim7.holds Tryz.pinned (.plain (OpenSpec.upto tokenBackSpec)) tokenBackUptoCard

/-- THE SECOND FORM's CARD OF 'caduceuslaw8.TokenEnds'. -/
def tokenEndsUptoCard : Claim7 := { stood := { row := tokenEndsUptoRow, standIns := [], harness := (true, "45b6dcddbd909bec77d4ee03deb0d372fdfaba3bcb02544c07cd7716e2b0b7a3"), looks := false }, kinds := [], alts := [], laidByText := true, laidKinds := [.data, .pinned], laidTests := true, laidLooks := .later }
def TokenEndsUptoCardSaid : Prop := Claim7.holds Tryz.pinned (.plain (OpenSpec.upto tokenEndsSpec)) tokenEndsUptoCard

/-- THE SECOND FORM's CARD OF 'caduceuslaw8.TokenSame'. -/
def tokenSameUptoCard : Claim7 := { stood := { row := tokenSameUptoRow, standIns := [], harness := (true, "45b6dcddbd909bec77d4ee03deb0d372fdfaba3bcb02544c07cd7716e2b0b7a3"), looks := false }, kinds := [], alts := [], laidByText := true, laidKinds := [.data, .pinned], laidTests := true, laidLooks := .later }
def TokenSameUptoCardSaid : Prop := Claim7.holds Tryz.pinned (.plain (OpenSpec.upto tokenSameSpec)) tokenSameUptoCard

/-- THE SECOND FORM's CARD OF 'caduceuslaw8.TokenEmpty'. -/
def tokenEmptyUptoCard : Claim7 := { stood := { row := tokenEmptyUptoRow, standIns := [], harness := (true, "45b6dcddbd909bec77d4ee03deb0d372fdfaba3bcb02544c07cd7716e2b0b7a3"), looks := false }, kinds := [], alts := [], laidByText := true, laidKinds := [.data, .pinned], laidTests := true, laidLooks := .later }
def TokenEmptyUptoCardSaid : Prop := Claim7.holds Tryz.pinned (.plain (OpenSpec.upto tokenEmptySpec)) tokenEmptyUptoCard

/-- THE SECOND FORM's CARD OF 'caduceuslaw8.TokenSigns'. -/
def tokenSignsUptoCard : Claim7 := { stood := { row := tokenSignsUptoRow, standIns := [], harness := (true, "45b6dcddbd909bec77d4ee03deb0d372fdfaba3bcb02544c07cd7716e2b0b7a3"), looks := false }, kinds := [], alts := [], laidByText := true, laidKinds := [.data, .pinned], laidTests := true, laidLooks := .later }
def TokenSignsUptoCardSaid : Prop := Claim7.holds Tryz.pinned (.plain (OpenSpec.upto tokenSignsSpec)) tokenSignsUptoCard

/-- THE SECOND FORM's CARD OF 'caduceuslaw10.HeadTells'. -/
def headTellsUptoCard : Claim7 := { stood := { row := headTellsUptoRow, standIns := [], harness := (true, "45b6dcddbd909bec77d4ee03deb0d372fdfaba3bcb02544c07cd7716e2b0b7a3"), looks := false }, kinds := [], alts := [], laidByText := true, laidKinds := [.data, .pinned], laidTests := true, laidLooks := .later }
def HeadTellsUptoCardSaid : Prop := Claim7.holds Tryz.pinned (.plain (OpenSpec.upto headTellsSpec)) headTellsUptoCard

/-- THE SECOND FORM's CARD OF 'caduceuslaw9.PathText'. -/
def pathTextUptoCard : Claim7 := { stood := { row := pathTextUptoRow, standIns := [], harness := (true, "45b6dcddbd909bec77d4ee03deb0d372fdfaba3bcb02544c07cd7716e2b0b7a3"), looks := false }, kinds := [], alts := [], laidByText := true, laidKinds := [.data, .pinned], laidTests := true, laidLooks := .later }
def PathTextUptoCardSaid : Prop := Claim7.holds Tryz.pinned (.plain (OpenSpec.upto pathTextSpec)) pathTextUptoCard

/-- THE SECOND FORM's CARD OF 'caduceuslaw11.AckBack'. -/
def ackBackUptoCard : Claim7 := { stood := { row := ackBackUptoRow, standIns := [], harness := (true, "45b6dcddbd909bec77d4ee03deb0d372fdfaba3bcb02544c07cd7716e2b0b7a3"), looks := false }, kinds := [], alts := [], laidByText := true, laidKinds := [.data, .pinned], laidTests := true, laidLooks := .later }
def AckBackUptoCardSaid : Prop := Claim7.holds Tryz.pinned (.plain (OpenSpec.upto ackBackSpec)) ackBackUptoCard

/-- THE SECOND FORM's CARD OF 'caduceuslaw11.AckText'. -/
def ackTextUptoCard : Claim7 := { stood := { row := ackTextUptoRow, standIns := [], harness := (true, "45b6dcddbd909bec77d4ee03deb0d372fdfaba3bcb02544c07cd7716e2b0b7a3"), looks := false }, kinds := [], alts := [], laidByText := true, laidKinds := [.data, .pinned], laidTests := true, laidLooks := .later }
def AckTextUptoCardSaid : Prop := Claim7.holds Tryz.pinned (.plain (OpenSpec.upto ackTextSpec)) ackTextUptoCard
end Rows
end Go.Proofs.YtoaoofobidhfjaaGreatDoor
