/-
  DERIVED. GIVEN WITH THE SEED: THE CARDS: each row of YtgnddjnnkghedaaGreatDoorRows.lean that lists a variable, with what it lists TIED to the program's text (the seventh form; the later family's looks); each row that meets fmt, with fmt's text TOLD by the authors' own Lean function (tested against real Go, not proved from fmt's source: count such statements apart). THE CARD IS WHAT COUNTS. Prove the row's statement (the work); the ties are given (YtgnddjnnkghedaaGreatDoorTie.lean); close each card by the builder's one call (the guide's Derived/Test/ToyasCard.lean, 'card_holds'). Laid BY PROGRAM, IN A SANDBOX (cutbox-door.mjs). By AI agents, Wed Nov 11 2026. No macro, syntax, notation, axiom, sorry.
-/
import Derived.Test.YtgnddjnnkghedaaGreatDoorRows
import GoSem.ClaimSeven
namespace Go.Proofs.YtgnddjnnkghedaaGreatDoor
namespace Rows

/-- THE TIED CARD OF 'caduceuslaw9.PathChanges'. -/
def pathChangesCard : Claim7 := { stood := { row := pathChangesRow, standIns := [], harness := (true, "bdb172844a69bfd37c80bc2b13b4cc4e11aeee2aecdec70924270dca873d5280"), looks := false }, kinds := [], alts := [], laidByText := true, laidKinds := [.data, .pinned], laidTests := true, laidLooks := .later }
def PathChangesCardSaid : Prop := Claim7.holds Tryz.pinned (.plain (OpenSpec.ofChange pathChangesSpec)) pathChangesCard

/-- THE TIED CARD OF 'caduceuslaw9.PathTwo'. -/
def pathTwoCard : Claim7 := { stood := { row := pathTwoRow, standIns := [], harness := (true, "bdb172844a69bfd37c80bc2b13b4cc4e11aeee2aecdec70924270dca873d5280"), looks := false }, kinds := [], alts := [], laidByText := true, laidKinds := [.data, .pinned], laidTests := true, laidLooks := .later }
def PathTwoCardSaid : Prop := Claim7.holds Tryz.pinned (.plain (OpenSpec.ofChange pathTwoSpec)) pathTwoCard

/-- THE TIED CARD OF 'caduceuslaw9.PathSets'. -/
def pathSetsCard : Claim7 := { stood := { row := pathSetsRow, standIns := [], harness := (true, "bdb172844a69bfd37c80bc2b13b4cc4e11aeee2aecdec70924270dca873d5280"), looks := false }, kinds := [], alts := [], laidByText := true, laidKinds := [.data, .pinned], laidTests := true, laidLooks := .later }
def PathSetsCardSaid : Prop := Claim7.holds Tryz.pinned (.plain (OpenSpec.ofChange pathSetsSpec)) pathSetsCard

/-- THE TIED CARD OF 'caduceuslaw9.PathDeletes'. -/
def pathDeletesCard : Claim7 := { stood := { row := pathDeletesRow, standIns := [], harness := (true, "bdb172844a69bfd37c80bc2b13b4cc4e11aeee2aecdec70924270dca873d5280"), looks := false }, kinds := [], alts := [], laidByText := true, laidKinds := [.data, .pinned], laidTests := true, laidLooks := .later }
def PathDeletesCardSaid : Prop := Claim7.holds Tryz.pinned (.plain (OpenSpec.ofChange pathDeletesSpec)) pathDeletesCard

/-- THE SECOND FORM's CARD OF 'caduceuslaw9.PathChanges'. -/
def pathChangesUptoCard : Claim7 := { stood := { row := pathChangesUptoRow, standIns := [], harness := (true, "bdb172844a69bfd37c80bc2b13b4cc4e11aeee2aecdec70924270dca873d5280"), looks := false }, kinds := [], alts := [], laidByText := true, laidKinds := [.data, .pinned], laidTests := true, laidLooks := .later }
def PathChangesUptoCardSaid : Prop := Claim7.holds Tryz.pinned (.plain (OpenSpec.upto pathChangesSpec)) pathChangesUptoCard

/-- THE SECOND FORM's CARD OF 'caduceuslaw9.PathTwo'. -/
def pathTwoUptoCard : Claim7 := { stood := { row := pathTwoUptoRow, standIns := [], harness := (true, "bdb172844a69bfd37c80bc2b13b4cc4e11aeee2aecdec70924270dca873d5280"), looks := false }, kinds := [], alts := [], laidByText := true, laidKinds := [.data, .pinned], laidTests := true, laidLooks := .later }
def PathTwoUptoCardSaid : Prop := Claim7.holds Tryz.pinned (.plain (OpenSpec.upto pathTwoSpec)) pathTwoUptoCard

/-- THE SECOND FORM's CARD OF 'caduceuslaw9.PathSets'. -/
def pathSetsUptoCard : Claim7 := { stood := { row := pathSetsUptoRow, standIns := [], harness := (true, "bdb172844a69bfd37c80bc2b13b4cc4e11aeee2aecdec70924270dca873d5280"), looks := false }, kinds := [], alts := [], laidByText := true, laidKinds := [.data, .pinned], laidTests := true, laidLooks := .later }
def PathSetsUptoCardSaid : Prop := Claim7.holds Tryz.pinned (.plain (OpenSpec.upto pathSetsSpec)) pathSetsUptoCard

/-- THE SECOND FORM's CARD OF 'caduceuslaw9.PathDeletes'. -/
def pathDeletesUptoCard : Claim7 := { stood := { row := pathDeletesUptoRow, standIns := [], harness := (true, "bdb172844a69bfd37c80bc2b13b4cc4e11aeee2aecdec70924270dca873d5280"), looks := false }, kinds := [], alts := [], laidByText := true, laidKinds := [.data, .pinned], laidTests := true, laidLooks := .later }
def PathDeletesUptoCardSaid : Prop := Claim7.holds Tryz.pinned (.plain (OpenSpec.upto pathDeletesSpec)) pathDeletesUptoCard
end Rows
end Go.Proofs.YtgnddjnnkghedaaGreatDoor
