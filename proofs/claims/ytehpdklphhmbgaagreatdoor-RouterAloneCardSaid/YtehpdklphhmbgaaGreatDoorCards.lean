/-
  DERIVED. GIVEN WITH THE SEED: THE CARDS: each row of YtehpdklphhmbgaaGreatDoorRows.lean that lists a variable, with what it lists TIED to the program's text (the seventh form; the later family's looks); each row that meets fmt, with fmt's text TOLD by the authors' own Lean function (tested against real Go, not proved from fmt's source: count such statements apart). THE CARD IS WHAT COUNTS. Prove the row's statement (the work); the ties are given (YtehpdklphhmbgaaGreatDoorTie.lean); close each card by the builder's one call (the guide's Derived/Test/ToyasCard.lean, 'card_holds'). Laid BY PROGRAM, IN A SANDBOX (cutbox-door.mjs). By AI agents, Wed Nov 11 2026. No macro, syntax, notation, axiom, sorry.
-/
import Derived.Test.YtehpdklphhmbgaaGreatDoorRows
import GoSem.ClaimSeven
namespace Go.Proofs.YtehpdklphhmbgaaGreatDoor
namespace Rows

/-- THE TIED CARD OF 'syndiclaw23.RouterErrs'. -/
def routerErrsCard : Claim7 := { stood := { row := routerErrsRow, standIns := [], harness := (true, "e9594a8b59d07822dfb6f1f9d573a3e33dd48c00ce728f205a71e44877e48903"), looks := false }, kinds := [], alts := [], laidByText := true, laidKinds := [.data], laidTests := true, laidLooks := .later }
def RouterErrsCardSaid : Prop := Claim7.holds Tryz.pinned (.plain (OpenSpec.ofChange routerErrsSpec)) routerErrsCard

/-- THE TIED CARD OF 'syndiclaw23.RouterAlone'. -/
def routerAloneCard : Claim7 := { stood := { row := routerAloneRow, standIns := [], harness := (true, "e9594a8b59d07822dfb6f1f9d573a3e33dd48c00ce728f205a71e44877e48903"), looks := false }, kinds := [], alts := [], laidByText := true, laidKinds := [.data], laidTests := true, laidLooks := .later }
def RouterAloneCardSaid : Prop := Claim7.holds Tryz.pinned (.plain (OpenSpec.ofChange routerAloneSpec)) routerAloneCard

/-- THE TIED CARD OF 'syndiclaw23.RouterSame'. -/
def routerSameCard : Claim7 := { stood := { row := routerSameRow, standIns := [], harness := (true, "e9594a8b59d07822dfb6f1f9d573a3e33dd48c00ce728f205a71e44877e48903"), looks := false }, kinds := [], alts := [], laidByText := true, laidKinds := [.data, .data], laidTests := true, laidLooks := .later }
def RouterSameCardSaid : Prop := Claim7.holds Tryz.pinned (.plain (OpenSpec.ofChange routerSameSpec)) routerSameCard

/-- THE TIED CARD OF 'syndiclaw23.RouterDrops'. -/
def routerDropsCard : Claim7 := { stood := { row := routerDropsRow, standIns := [], harness := (true, "e9594a8b59d07822dfb6f1f9d573a3e33dd48c00ce728f205a71e44877e48903"), looks := false }, kinds := [], alts := [], laidByText := true, laidKinds := [.data, .data], laidTests := true, laidLooks := .later }
def RouterDropsCardSaid : Prop := Claim7.holds Tryz.pinned (.plain (OpenSpec.ofChange routerDropsSpec)) routerDropsCard

/-- THE SECOND FORM's CARD OF 'syndiclaw23.RouterErrs'. -/
def routerErrsUptoCard : Claim7 := { stood := { row := routerErrsUptoRow, standIns := [], harness := (true, "e9594a8b59d07822dfb6f1f9d573a3e33dd48c00ce728f205a71e44877e48903"), looks := false }, kinds := [], alts := [], laidByText := true, laidKinds := [.data], laidTests := true, laidLooks := .later }
def RouterErrsUptoCardSaid : Prop := Claim7.holds Tryz.pinned (.plain (OpenSpec.upto routerErrsSpec)) routerErrsUptoCard

/-- THE SECOND FORM's CARD OF 'syndiclaw23.RouterAlone'. -/
def routerAloneUptoCard : Claim7 := { stood := { row := routerAloneUptoRow, standIns := [], harness := (true, "e9594a8b59d07822dfb6f1f9d573a3e33dd48c00ce728f205a71e44877e48903"), looks := false }, kinds := [], alts := [], laidByText := true, laidKinds := [.data], laidTests := true, laidLooks := .later }
def RouterAloneUptoCardSaid : Prop := Claim7.holds Tryz.pinned (.plain (OpenSpec.upto routerAloneSpec)) routerAloneUptoCard

/-- THE SECOND FORM's CARD OF 'syndiclaw23.RouterSame'. -/
def routerSameUptoCard : Claim7 := { stood := { row := routerSameUptoRow, standIns := [], harness := (true, "e9594a8b59d07822dfb6f1f9d573a3e33dd48c00ce728f205a71e44877e48903"), looks := false }, kinds := [], alts := [], laidByText := true, laidKinds := [.data, .data], laidTests := true, laidLooks := .later }
def RouterSameUptoCardSaid : Prop := Claim7.holds Tryz.pinned (.plain (OpenSpec.upto routerSameSpec)) routerSameUptoCard

/-- THE SECOND FORM's CARD OF 'syndiclaw23.RouterDrops'. -/
def routerDropsUptoCard : Claim7 := { stood := { row := routerDropsUptoRow, standIns := [], harness := (true, "e9594a8b59d07822dfb6f1f9d573a3e33dd48c00ce728f205a71e44877e48903"), looks := false }, kinds := [], alts := [], laidByText := true, laidKinds := [.data, .data], laidTests := true, laidLooks := .later }
def RouterDropsUptoCardSaid : Prop := Claim7.holds Tryz.pinned (.plain (OpenSpec.upto routerDropsSpec)) routerDropsUptoCard
end Rows
end Go.Proofs.YtehpdklphhmbgaaGreatDoor
