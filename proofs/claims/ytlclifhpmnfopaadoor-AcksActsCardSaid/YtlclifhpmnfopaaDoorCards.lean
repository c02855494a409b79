/-
  DERIVED. GIVEN WITH THE SEED: THE CARDS: each row of YtlclifhpmnfopaaDoorRows.lean that lists a variable, with what it lists TIED to the program's text (the seventh form; the later family's looks); each row that meets fmt, with fmt's text TOLD by the authors' own Lean function (tested against real Go, not proved from fmt's source: count such statements apart). THE CARD IS WHAT COUNTS. Prove the row's statement (the work); the ties are given (YtlclifhpmnfopaaDoorTie.lean); close each card by the builder's one call (the guide's Derived/Test/ToyasCard.lean, 'card_holds'). Laid BY PROGRAM, IN A SANDBOX (cutbox-door.mjs). By AI agents, Wed Nov 11 2026. No macro, syntax, notation, axiom, sorry.
-/
import Derived.Test.YtlclifhpmnfopaaDoorRows
import GoSem.ClaimSeven
namespace Go.Proofs.YtlclifhpmnfopaaDoor
namespace Rows

/-- THE TIED CARD OF 'syndiclaw17.AcksWay'. -/
def acksWayCard : Claim7 := { stood := { row := acksWayRow, standIns := [], harness := (true, "ec4737b4d2ea21929f9e21e9c2d9961fc86fa8bcd5c2d83b45c76d3e1d9c18c7"), looks := false }, kinds := [], alts := [], laidByText := true, laidKinds := [.data], laidTests := true, laidLooks := .later }
def AcksWayCardSaid : Prop := Claim7.holds Tryd.pinned (.plain (OpenSpec.ofChange acksWaySpec)) acksWayCard

/-- THE TIED CARD OF 'syndiclaw17.AcksSame'. -/
def acksSameCard : Claim7 := { stood := { row := acksSameRow, standIns := [], harness := (true, "ec4737b4d2ea21929f9e21e9c2d9961fc86fa8bcd5c2d83b45c76d3e1d9c18c7"), looks := false }, kinds := [], alts := [], laidByText := true, laidKinds := [.data], laidTests := true, laidLooks := .later }
def AcksSameCardSaid : Prop := Claim7.holds Tryd.pinned (.plain (OpenSpec.ofChange acksSameSpec)) acksSameCard

/-- THE TIED CARD OF 'syndiclaw17.AcksActs'. -/
def acksActsCard : Claim7 := { stood := { row := acksActsRow, standIns := [], harness := (true, "ec4737b4d2ea21929f9e21e9c2d9961fc86fa8bcd5c2d83b45c76d3e1d9c18c7"), looks := false }, kinds := [], alts := [], laidByText := true, laidKinds := [.data], laidTests := true, laidLooks := .later }
def AcksActsCardSaid : Prop := Claim7.holds Tryd.pinned (.plain (OpenSpec.ofChange acksActsSpec)) acksActsCard

/-- THE TIED CARD OF 'syndiclaw17.AcksOnce'. -/
def acksOnceCard : Claim7 := { stood := { row := acksOnceRow, standIns := [], harness := (true, "ec4737b4d2ea21929f9e21e9c2d9961fc86fa8bcd5c2d83b45c76d3e1d9c18c7"), looks := false }, kinds := [], alts := [], laidByText := true, laidKinds := [.data], laidTests := true, laidLooks := .later }
def AcksOnceCardSaid : Prop := Claim7.holds Tryd.pinned (.plain (OpenSpec.ofChange acksOnceSpec)) acksOnceCard

/-- THE TIED CARD OF 'syndiclaw17.AcksNil'. -/
def acksNilCard : Claim7 := { stood := { row := acksNilRow, standIns := [], harness := (true, "ec4737b4d2ea21929f9e21e9c2d9961fc86fa8bcd5c2d83b45c76d3e1d9c18c7"), looks := false }, kinds := [], alts := [], laidByText := true, laidKinds := [.data], laidTests := true, laidLooks := .later }
def AcksNilCardSaid : Prop := Claim7.holds Tryd.pinned (.plain (OpenSpec.ofChange acksNilSpec)) acksNilCard

/-- THE SECOND FORM's CARD OF 'syndiclaw17.AcksWay'. -/
def acksWayUptoCard : Claim7 := { stood := { row := acksWayUptoRow, standIns := [], harness := (true, "ec4737b4d2ea21929f9e21e9c2d9961fc86fa8bcd5c2d83b45c76d3e1d9c18c7"), looks := false }, kinds := [], alts := [], laidByText := true, laidKinds := [.data], laidTests := true, laidLooks := .later }
def AcksWayUptoCardSaid : Prop := Claim7.holds Tryd.pinned (.plain (OpenSpec.upto acksWaySpec)) acksWayUptoCard

/-- THE SECOND FORM's CARD OF 'syndiclaw17.AcksSame'. -/
def acksSameUptoCard : Claim7 := { stood := { row := acksSameUptoRow, standIns := [], harness := (true, "ec4737b4d2ea21929f9e21e9c2d9961fc86fa8bcd5c2d83b45c76d3e1d9c18c7"), looks := false }, kinds := [], alts := [], laidByText := true, laidKinds := [.data], laidTests := true, laidLooks := .later }
def AcksSameUptoCardSaid : Prop := Claim7.holds Tryd.pinned (.plain (OpenSpec.upto acksSameSpec)) acksSameUptoCard

/-- THE SECOND FORM's CARD OF 'syndiclaw17.AcksActs'. -/
def acksActsUptoCard : Claim7 := { stood := { row := acksActsUptoRow, standIns := [], harness := (true, "ec4737b4d2ea21929f9e21e9c2d9961fc86fa8bcd5c2d83b45c76d3e1d9c18c7"), looks := false }, kinds := [], alts := [], laidByText := true, laidKinds := [.data], laidTests := true, laidLooks := .later }
def AcksActsUptoCardSaid : Prop := Claim7.holds Tryd.pinned (.plain (OpenSpec.upto acksActsSpec)) acksActsUptoCard

/-- THE SECOND FORM's CARD OF 'syndiclaw17.AcksOnce'. -/
def acksOnceUptoCard : Claim7 := { stood := { row := acksOnceUptoRow, standIns := [], harness := (true, "ec4737b4d2ea21929f9e21e9c2d9961fc86fa8bcd5c2d83b45c76d3e1d9c18c7"), looks := false }, kinds := [], alts := [], laidByText := true, laidKinds := [.data], laidTests := true, laidLooks := .later }
def AcksOnceUptoCardSaid : Prop := Claim7.holds Tryd.pinned (.plain (OpenSpec.upto acksOnceSpec)) acksOnceUptoCard

/-- THE SECOND FORM's CARD OF 'syndiclaw17.AcksNil'. -/
def acksNilUptoCard : Claim7 := { stood := { row := acksNilUptoRow, standIns := [], harness := (true, "ec4737b4d2ea21929f9e21e9c2d9961fc86fa8bcd5c2d83b45c76d3e1d9c18c7"), looks := false }, kinds := [], alts := [], laidByText := true, laidKinds := [.data], laidTests := true, laidLooks := .later }
def AcksNilUptoCardSaid : Prop := Claim7.holds Tryd.pinned (.plain (OpenSpec.upto acksNilSpec)) acksNilUptoCard
end Rows
end Go.Proofs.YtlclifhpmnfopaaDoor
