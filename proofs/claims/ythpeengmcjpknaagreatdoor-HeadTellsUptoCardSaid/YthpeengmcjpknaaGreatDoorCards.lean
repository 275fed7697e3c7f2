/-
  DERIVED. GIVEN WITH THE SEED: THE CARDS: each row of YthpeengmcjpknaaGreatDoorRows.lean that lists a variable, with what it lists TIED to the program's text (the seventh form; the later family's looks); each row that meets fmt, with fmt's text TOLD by the authors' own Lean function (tested against real Go, not proved from fmt's source: count such statements apart). THE CARD IS WHAT COUNTS. Prove the row's statement (the work); the ties are given (YthpeengmcjpknaaGreatDoorTie.lean); close each card by the builder's one call (the guide's Derived/Test/ToyasCard.lean, 'card_holds'). Laid BY PROGRAM, IN A SANDBOX (cutbox-door.mjs). By AI agents, Wed Nov 11 2026. No macro, syntax, notation, axiom, sorry.
-/
import Derived.Test.YthpeengmcjpknaaGreatDoorRows
import GoSem.ClaimSeven
namespace Go.Proofs.YthpeengmcjpknaaGreatDoor
namespace Rows

/-- THE TIED CARD OF 'caduceuslaw9.PathChanges'. -/
def pathChangesCard : Claim7 := { stood := { row := pathChangesRow, standIns := [], harness := (true, "c2b8bd90eb5fc3912050602eda64678ddc758c136ff6eed0523767ef2ff6faec"), looks := false }, kinds := [], alts := [], laidByText := true, laidKinds := [.data, .pinned], laidTests := true, laidLooks := .later }
def PathChangesCardSaid : Prop := Claim7.holds Tryz.pinned (.plain (OpenSpec.ofChange pathChangesSpec)) pathChangesCard

/-- THE TIED CARD OF 'caduceuslaw8.TokenParses'. -/
def tokenParsesCard : Claim7 := { stood := { row := tokenParsesRow, standIns := [], harness := (true, "c2b8bd90eb5fc3912050602eda64678ddc758c136ff6eed0523767ef2ff6faec"), looks := false }, kinds := [], alts := [], laidByText := true, laidKinds := [.data, .pinned], laidTests := true, laidLooks := .later }
def TokenParsesCardSaid : Prop := Claim7.holds Tryz.pinned (.plain (OpenSpec.ofChange tokenParsesSpec)) tokenParsesCard

/-- THE TIED CARD OF 'caduceuslaw8.TokenTrees'. -/
def tokenTreesCard : Claim7 := { stood := { row := tokenTreesRow, standIns := [], harness := (true, "c2b8bd90eb5fc3912050602eda64678ddc758c136ff6eed0523767ef2ff6faec"), looks := false }, kinds := [], alts := [], laidByText := true, laidKinds := [.data, .pinned], laidTests := true, laidLooks := .later }
def TokenTreesCardSaid : Prop := Claim7.holds Tryz.pinned (.plain (OpenSpec.ofChange tokenTreesSpec)) tokenTreesCard

/-- THE TIED CARD OF 'caduceuslaw10.HeadTells'. -/
def headTellsCard : Claim7 := { stood := { row := headTellsRow, standIns := [], harness := (true, "c2b8bd90eb5fc3912050602eda64678ddc758c136ff6eed0523767ef2ff6faec"), looks := false }, kinds := [], alts := [], laidByText := true, laidKinds := [.data, .pinned], laidTests := true, laidLooks := .later }
def HeadTellsCardSaid : Prop := Claim7.holds Tryz.pinned (.plain (OpenSpec.ofChange headTellsSpec)) headTellsCard

/-- THE TIED CARD OF 'caduceuslaw10.HeadMakes'. -/
def headMakesCard : Claim7 := { stood := { row := headMakesRow, standIns := [], harness := (true, "c2b8bd90eb5fc3912050602eda64678ddc758c136ff6eed0523767ef2ff6faec"), looks := false }, kinds := [], alts := [], laidByText := true, laidKinds := [.data, .pinned], laidTests := true, laidLooks := .later }
def HeadMakesCardSaid : Prop := Claim7.holds Tryz.pinned (.plain (OpenSpec.ofChange headMakesSpec)) headMakesCard

/-- THE TIED CARD OF 'caduceuslaw11.AckTells'. -/
def ackTellsCard : Claim7 := { stood := { row := ackTellsRow, standIns := [], harness := (true, "c2b8bd90eb5fc3912050602eda64678ddc758c136ff6eed0523767ef2ff6faec"), looks := false }, kinds := [], alts := [], laidByText := true, laidKinds := [.data, .pinned], laidTests := true, laidLooks := .later }
def AckTellsCardSaid : Prop := Claim7.holds Tryz.pinned (.plain (OpenSpec.ofChange ackTellsSpec)) ackTellsCard

/-- THE SECOND FORM's CARD OF 'caduceuslaw9.PathChanges'. -/
def pathChangesUptoCard : Claim7 := { stood := { row := pathChangesUptoRow, standIns := [], harness := (true, "c2b8bd90eb5fc3912050602eda64678ddc758c136ff6eed0523767ef2ff6faec"), looks := false }, kinds := [], alts := [], laidByText := true, laidKinds := [.data, .pinned], laidTests := true, laidLooks := .later }
def PathChangesUptoCardSaid : Prop := Claim7.holds Tryz.pinned (.plain (OpenSpec.upto pathChangesSpec)) pathChangesUptoCard

/-- THE SECOND FORM's CARD OF 'caduceuslaw8.TokenParses'. -/
def tokenParsesUptoCard : Claim7 := { stood := { row := tokenParsesUptoRow, standIns := [], harness := (true, "c2b8bd90eb5fc3912050602eda64678ddc758c136ff6eed0523767ef2ff6faec"), looks := false }, kinds := [], alts := [], laidByText := true, laidKinds := [.data, .pinned], laidTests := true, laidLooks := .later }
def TokenParsesUptoCardSaid : Prop := Claim7.holds Tryz.pinned (.plain (OpenSpec.upto tokenParsesSpec)) tokenParsesUptoCard

/-- THE SECOND FORM's CARD OF 'caduceuslaw8.TokenTrees'. -/
def tokenTreesUptoCard : Claim7 := { stood := { row := tokenTreesUptoRow, standIns := [], harness := (true, "c2b8bd90eb5fc3912050602eda64678ddc758c136ff6eed0523767ef2ff6faec"), looks := false }, kinds := [], alts := [], laidByText := true, laidKinds := [.data, .pinned], laidTests := true, laidLooks := .later }
def TokenTreesUptoCardSaid : Prop := Claim7.holds Tryz.pinned (.plain (OpenSpec.upto tokenTreesSpec)) tokenTreesUptoCard

/-- THE SECOND FORM's CARD OF 'caduceuslaw10.HeadTells'. -/
def headTellsUptoCard : Claim7 := { stood := { row := headTellsUptoRow, standIns := [], harness := (true, "c2b8bd90eb5fc3912050602eda64678ddc758c136ff6eed0523767ef2ff6faec"), looks := false }, kinds := [], alts := [], laidByText := true, laidKinds := [.data, .pinned], laidTests := true, laidLooks := .later }
def HeadTellsUptoCardSaid : Prop := Claim7.holds Tryz.pinned (.plain (OpenSpec.upto headTellsSpec)) headTellsUptoCard

/-- THE SECOND FORM's CARD OF 'caduceuslaw10.HeadMakes'. -/
def headMakesUptoCard : Claim7 := { stood := { row := headMakesUptoRow, standIns := [], harness := (true, "c2b8bd90eb5fc3912050602eda64678ddc758c136ff6eed0523767ef2ff6faec"), looks := false }, kinds := [], alts := [], laidByText := true, laidKinds := [.data, .pinned], laidTests := true, laidLooks := .later }
def HeadMakesUptoCardSaid : Prop := Claim7.holds Tryz.pinned (.plain (OpenSpec.upto headMakesSpec)) headMakesUptoCard

/-- THE SECOND FORM's CARD OF 'caduceuslaw11.AckTells'. -/
def ackTellsUptoCard : Claim7 := { stood := { row := ackTellsUptoRow, standIns := [], harness := (true, "c2b8bd90eb5fc3912050602eda64678ddc758c136ff6eed0523767ef2ff6faec"), looks := false }, kinds := [], alts := [], laidByText := true, laidKinds := [.data, .pinned], laidTests := true, laidLooks := .later }
def AckTellsUptoCardSaid : Prop := Claim7.holds Tryz.pinned (.plain (OpenSpec.upto ackTellsSpec)) ackTellsUptoCard
end Rows
end Go.Proofs.YthpeengmcjpknaaGreatDoor
