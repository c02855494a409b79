/-
  DERIVED. GIVEN WITH THE SEED: THE CARDS: each row of YtdmogmoccdlgaaaDoorRows.lean that lists a variable, with what it lists TIED to the program's text (the seventh form; the later family's looks); each row that meets fmt, with fmt's text TOLD by the authors' own Lean function (tested against real Go, not proved from fmt's source: count such statements apart). THE CARD IS WHAT COUNTS. Prove the row's statement (the work); the ties are given (YtdmogmoccdlgaaaDoorTie.lean); close each card by the builder's one call (the guide's Derived/Test/ToyasCard.lean, 'card_holds'). Laid BY PROGRAM, IN A SANDBOX (cutbox-door.mjs). By AI agents, Wed Nov 11 2026. No macro, syntax, notation, axiom, sorry.
-/
import Derived.Test.YtdmogmoccdlgaaaDoorRows
import GoSem.ClaimSeven
namespace Go.Proofs.YtdmogmoccdlgaaaDoor
namespace Rows

/-- THE TIED CARD OF 'syndiclaw11.NearSteps'. -/
def nearStepsCard : Claim7 := { stood := { row := nearStepsRow, standIns := [], harness := (true, "4a279e0d31887459c51a2d6c0ccb847007eee7741aca2a95bd49132bb95a6cc4"), looks := false }, kinds := [], alts := [], laidByText := true, laidKinds := [.data], laidTests := true, laidLooks := .later }
def NearStepsCardSaid : Prop := Claim7.holds Tryd.pinned (.plain (OpenSpec.ofChange nearStepsSpec)) nearStepsCard

/-- THE TIED CARD OF 'syndiclaw11.NearPaths'. -/
def nearPathsCard : Claim7 := { stood := { row := nearPathsRow, standIns := [], harness := (true, "4a279e0d31887459c51a2d6c0ccb847007eee7741aca2a95bd49132bb95a6cc4"), looks := false }, kinds := [], alts := [], laidByText := true, laidKinds := [.data], laidTests := true, laidLooks := .later }
def NearPathsCardSaid : Prop := Claim7.holds Tryd.pinned (.plain (OpenSpec.ofChange nearPathsSpec)) nearPathsCard

/-- THE TIED CARD OF 'syndiclaw11.NearOthers'. -/
def nearOthersCard : Claim7 := { stood := { row := nearOthersRow, standIns := [], harness := (true, "4a279e0d31887459c51a2d6c0ccb847007eee7741aca2a95bd49132bb95a6cc4"), looks := false }, kinds := [], alts := [], laidByText := true, laidKinds := [.data], laidTests := true, laidLooks := .later }
def NearOthersCardSaid : Prop := Claim7.holds Tryd.pinned (.plain (OpenSpec.ofChange nearOthersSpec)) nearOthersCard

/-- THE TIED CARD OF 'syndiclaw11.NearAdjacent'. -/
def nearAdjacentCard : Claim7 := { stood := { row := nearAdjacentRow, standIns := [], harness := (true, "4a279e0d31887459c51a2d6c0ccb847007eee7741aca2a95bd49132bb95a6cc4"), looks := false }, kinds := [], alts := [], laidByText := true, laidKinds := [.data], laidTests := true, laidLooks := .later }
def NearAdjacentCardSaid : Prop := Claim7.holds Tryd.pinned (.plain (OpenSpec.ofChange nearAdjacentSpec)) nearAdjacentCard

/-- THE SECOND FORM's CARD OF 'syndiclaw11.NearSteps'. -/
def nearStepsUptoCard : Claim7 := { stood := { row := nearStepsUptoRow, standIns := [], harness := (true, "4a279e0d31887459c51a2d6c0ccb847007eee7741aca2a95bd49132bb95a6cc4"), looks := false }, kinds := [], alts := [], laidByText := true, laidKinds := [.data], laidTests := true, laidLooks := .later }
def NearStepsUptoCardSaid : Prop := Claim7.holds Tryd.pinned (.plain (OpenSpec.upto nearStepsSpec)) nearStepsUptoCard

/-- THE SECOND FORM's CARD OF 'syndiclaw11.NearPaths'. -/
def nearPathsUptoCard : Claim7 := { stood := { row := nearPathsUptoRow, standIns := [], harness := (true, "4a279e0d31887459c51a2d6c0ccb847007eee7741aca2a95bd49132bb95a6cc4"), looks := false }, kinds := [], alts := [], laidByText := true, laidKinds := [.data], laidTests := true, laidLooks := .later }
def NearPathsUptoCardSaid : Prop := Claim7.holds Tryd.pinned (.plain (OpenSpec.upto nearPathsSpec)) nearPathsUptoCard

/-- THE SECOND FORM's CARD OF 'syndiclaw11.NearOthers'. -/
def nearOthersUptoCard : Claim7 := { stood := { row := nearOthersUptoRow, standIns := [], harness := (true, "4a279e0d31887459c51a2d6c0ccb847007eee7741aca2a95bd49132bb95a6cc4"), looks := false }, kinds := [], alts := [], laidByText := true, laidKinds := [.data], laidTests := true, laidLooks := .later }
def NearOthersUptoCardSaid : Prop := Claim7.holds Tryd.pinned (.plain (OpenSpec.upto nearOthersSpec)) nearOthersUptoCard

/-- THE SECOND FORM's CARD OF 'syndiclaw11.NearAdjacent'. -/
def nearAdjacentUptoCard : Claim7 := { stood := { row := nearAdjacentUptoRow, standIns := [], harness := (true, "4a279e0d31887459c51a2d6c0ccb847007eee7741aca2a95bd49132bb95a6cc4"), looks := false }, kinds := [], alts := [], laidByText := true, laidKinds := [.data], laidTests := true, laidLooks := .later }
def NearAdjacentUptoCardSaid : Prop := Claim7.holds Tryd.pinned (.plain (OpenSpec.upto nearAdjacentSpec)) nearAdjacentUptoCard
end Rows
end Go.Proofs.YtdmogmoccdlgaaaDoor
