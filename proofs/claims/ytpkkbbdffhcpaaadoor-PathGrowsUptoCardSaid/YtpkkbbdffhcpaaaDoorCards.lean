/-
  DERIVED. GIVEN WITH THE SEED: THE CARDS: each row of YtpkkbbdffhcpaaaDoorRows.lean that lists a variable, with what it lists TIED to the program's text (the seventh form; the later family's looks); each row that meets fmt, with fmt's text TOLD by the authors' own Lean function (tested against real Go, not proved from fmt's source: count such statements apart). THE CARD IS WHAT COUNTS. Prove the row's statement (the work); the ties are given (YtpkkbbdffhcpaaaDoorTie.lean); close each card by the builder's one call (the guide's Derived/Test/ToyasCard.lean, 'card_holds'). Laid BY PROGRAM, IN A SANDBOX (cutbox-door.mjs). By AI agents, Wed Nov 11 2026. No macro, syntax, notation, axiom, sorry.
-/
import Derived.Test.YtpkkbbdffhcpaaaDoorRows
import GoSem.ClaimSeven
namespace Go.Proofs.YtpkkbbdffhcpaaaDoor
namespace Rows

/-- THE TIED CARD OF 'caduceuslaw9.PathTexts'. -/
def pathTextsCard : Claim7 := { stood := { row := pathTextsRow, standIns := [], harness := (true, "7dd38f1c14c3865a5f0113cd70e59125d737642fe9fa68f072e2d5a875fd5e8d"), looks := false }, kinds := [], alts := [], laidByText := true, laidKinds := [.data, .pinned], laidTests := true, laidLooks := .later }
def PathTextsCardSaid : Prop := Claim7.holds Tryd.pinned (.plain (OpenSpec.ofChange pathTextsSpec)) pathTextsCard

/-- THE TIED CARD OF 'caduceuslaw9.PathBack'. -/
def pathBackCard : Claim7 := { stood := { row := pathBackRow, standIns := [], harness := (true, "7dd38f1c14c3865a5f0113cd70e59125d737642fe9fa68f072e2d5a875fd5e8d"), looks := false }, kinds := [], alts := [], laidByText := true, laidKinds := [.data, .pinned], laidTests := true, laidLooks := .later }
def PathBackCardSaid : Prop := Claim7.holds Tryd.pinned (.plain (OpenSpec.ofChange pathBackSpec)) pathBackCard

/-- THE TIED CARD OF 'caduceuslaw9.PathAsks'. -/
def pathAsksCard : Claim7 := { stood := { row := pathAsksRow, standIns := [], harness := (true, "7dd38f1c14c3865a5f0113cd70e59125d737642fe9fa68f072e2d5a875fd5e8d"), looks := false }, kinds := [], alts := [], laidByText := true, laidKinds := [.data, .pinned], laidTests := true, laidLooks := .later }
def PathAsksCardSaid : Prop := Claim7.holds Tryd.pinned (.plain (OpenSpec.ofChange pathAsksSpec)) pathAsksCard

/-- THE TIED CARD OF 'caduceuslaw9.PathCounts'. -/
def pathCountsCard : Claim7 := { stood := { row := pathCountsRow, standIns := [], harness := (true, "7dd38f1c14c3865a5f0113cd70e59125d737642fe9fa68f072e2d5a875fd5e8d"), looks := false }, kinds := [], alts := [], laidByText := true, laidKinds := [.data, .pinned], laidTests := true, laidLooks := .later }
def PathCountsCardSaid : Prop := Claim7.holds Tryd.pinned (.plain (OpenSpec.ofChange pathCountsSpec)) pathCountsCard

/-- THE TIED CARD OF 'caduceuslaw9.PathGrows'. -/
def pathGrowsCard : Claim7 := { stood := { row := pathGrowsRow, standIns := [], harness := (true, "7dd38f1c14c3865a5f0113cd70e59125d737642fe9fa68f072e2d5a875fd5e8d"), looks := false }, kinds := [], alts := [], laidByText := true, laidKinds := [.data, .pinned], laidTests := true, laidLooks := .later }
def PathGrowsCardSaid : Prop := Claim7.holds Tryd.pinned (.plain (OpenSpec.ofChange pathGrowsSpec)) pathGrowsCard

/-- THE SECOND FORM's CARD OF 'caduceuslaw9.PathTexts'. -/
def pathTextsUptoCard : Claim7 := { stood := { row := pathTextsUptoRow, standIns := [], harness := (true, "7dd38f1c14c3865a5f0113cd70e59125d737642fe9fa68f072e2d5a875fd5e8d"), looks := false }, kinds := [], alts := [], laidByText := true, laidKinds := [.data, .pinned], laidTests := true, laidLooks := .later }
def PathTextsUptoCardSaid : Prop := Claim7.holds Tryd.pinned (.plain (OpenSpec.upto pathTextsSpec)) pathTextsUptoCard

/-- THE SECOND FORM's CARD OF 'caduceuslaw9.PathBack'. -/
def pathBackUptoCard : Claim7 := { stood := { row := pathBackUptoRow, standIns := [], harness := (true, "7dd38f1c14c3865a5f0113cd70e59125d737642fe9fa68f072e2d5a875fd5e8d"), looks := false }, kinds := [], alts := [], laidByText := true, laidKinds := [.data, .pinned], laidTests := true, laidLooks := .later }
def PathBackUptoCardSaid : Prop := Claim7.holds Tryd.pinned (.plain (OpenSpec.upto pathBackSpec)) pathBackUptoCard

/-- THE SECOND FORM's CARD OF 'caduceuslaw9.PathAsks'. -/
def pathAsksUptoCard : Claim7 := { stood := { row := pathAsksUptoRow, standIns := [], harness := (true, "7dd38f1c14c3865a5f0113cd70e59125d737642fe9fa68f072e2d5a875fd5e8d"), looks := false }, kinds := [], alts := [], laidByText := true, laidKinds := [.data, .pinned], laidTests := true, laidLooks := .later }
def PathAsksUptoCardSaid : Prop := Claim7.holds Tryd.pinned (.plain (OpenSpec.upto pathAsksSpec)) pathAsksUptoCard

/-- THE SECOND FORM's CARD OF 'caduceuslaw9.PathCounts'. -/
def pathCountsUptoCard : Claim7 := { stood := { row := pathCountsUptoRow, standIns := [], harness := (true, "7dd38f1c14c3865a5f0113cd70e59125d737642fe9fa68f072e2d5a875fd5e8d"), looks := false }, kinds := [], alts := [], laidByText := true, laidKinds := [.data, .pinned], laidTests := true, laidLooks := .later }
def PathCountsUptoCardSaid : Prop := Claim7.holds Tryd.pinned (.plain (OpenSpec.upto pathCountsSpec)) pathCountsUptoCard

/-- THE SECOND FORM's CARD OF 'caduceuslaw9.PathGrows'. -/
def pathGrowsUptoCard : Claim7 := { stood := { row := pathGrowsUptoRow, standIns := [], harness := (true, "7dd38f1c14c3865a5f0113cd70e59125d737642fe9fa68f072e2d5a875fd5e8d"), looks := false }, kinds := [], alts := [], laidByText := true, laidKinds := [.data, .pinned], laidTests := true, laidLooks := .later }
def PathGrowsUptoCardSaid : Prop := Claim7.holds Tryd.pinned (.plain (OpenSpec.upto pathGrowsSpec)) pathGrowsUptoCard
end Rows
end Go.Proofs.YtpkkbbdffhcpaaaDoor
