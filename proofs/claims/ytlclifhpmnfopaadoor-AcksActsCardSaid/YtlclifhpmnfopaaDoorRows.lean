/-
  NARROWER THAN 'FOR EVERY INPUT', by the rows' own cells (each row's printed sentence says how): AcksWay: laid · AcksSame: laid · AcksActs: laid · AcksOnce: laid · AcksNil: laid.
  DERIVED. THE GIVEN ROWS OF THIS SEAT. 5 by the template 'for every input the law returns true; each argument reads behind the call as it read before'; 0 by the template 'total and deterministic' (their statements: YtlclifhpmnfopaaDoorTotals.lean).
  GIVEN WITH THE SEED: the statements are not yours to turn. If you find one false, say at which input.
  Laid BY PROGRAM, IN A SANDBOX (cutbox-rows.mjs): the forced cells as the released guide's own fill.sh prints them over the translation 82aa23427363a05c… (all of the seat's roots in one cut). By AI agents, Wed Nov 11 2026. No macro, syntax, notation, axiom, sorry.
-/
import Derived.Test.YtlclifhpmnfopaaDoorChecked
import GoSem.Claim
import GoSem.ClaimJoined
import GoSem.ClaimMapViews
import Derived.JoinedTies
import Derived.KernelRfl
namespace Go.Proofs.YtlclifhpmnfopaaDoor
/- THE CELL 'sum', in the pinned program and in every row, IS THE sha256 OF THE DUMP (.gsa) THAT YtlclifhpmnfopaaDoorProg.lean LOADS. Nothing in Lean hashes anything: it is a label: what it is worth is what the hold of that sum in a sandbox is worth. -/
noncomputable def Tryd.pinned : Pinned := { name := "ytlclifhpmnfopaadoor", sum := "82aa23427363a05ca372f639eb38da44d82663dbe2e5be00d1a7268557058300", checked := Tryd.checked }
namespace Rows
def none {H : Type} : Left H := { results := [], args := [] }

/- WHAT THE LISTED PACKAGE-LEVEL VARIABLES READ AS WHEN THE CALL BEGINS. Each datum BY PROGRAM (the guide's laid-datum.mjs) off the statement by which the dump's own 'gosem.cut.vars' lays the variable. In a bare row this is a premise. The card (YtlclifhpmnfopaaDoorCards.lean) ties it to the program's text. -/
def laid_syndic_acks_table {H : Type} : DataW H := .agg [.agg [.lit (.int .i64 0), .lit (.int .i64 0), .lit (.int .i64 0)], .agg [.lit (.int .i64 1), .lit (.int .i64 0), .lit (.int .i64 1)], .agg [.lit (.int .i64 1), .lit (.int .i64 0), .lit (.int .i64 0)], .agg [.lit (.int .i64 2), .lit (.int .i64 2), .lit (.int .i64 2)], .agg [.lit (.int .i64 2), .lit (.int .i64 2), .lit (.int .i64 2)]]

/-- 'syndiclaw17.AcksWay': WHATEVER THE INPUT: true; the input reads as it did. -/
def acksWaySpec : ChangeSpec := { name := "acksWay", fn := fun _ => fun
  | [d1, d2, d3] => { results := [.lit (.bool true)], args := [d1, d2, d3] }
  | _ => none }
def acksWayRow : OpenClaim := { program := "ytlclifhpmnfopaadoor", sum := "82aa23427363a05ca372f639eb38da44d82663dbe2e5be00d1a7268557058300", func := "syndic/syndiclaw17.AcksWay", spec := "acksWay", named := ["syndic/acks.table"], apart := false, laid := [("syndic/acks.table", laid_syndic_acks_table)] }
def AcksWaySaid : Prop := acksWayRow.holds Tryd.pinned (OpenSpec.ofChange acksWaySpec)

/-- ITS FALSE NEIGHBOUR: 'it returns false'. Refute it at one input. -/
def acksWayWrong : ChangeSpec := { name := "acksWay", fn := fun _ => fun
  | [d1, d2, d3] => { results := [.lit (.bool false)], args := [d1, d2, d3] }
  | _ => none }
def AcksWayWrongFalsely : Prop := acksWayRow.holds Tryd.pinned (OpenSpec.ofChange acksWayWrong)

/-- 'syndiclaw17.AcksSame': WHATEVER THE INPUT: true; the input reads as it did. -/
def acksSameSpec : ChangeSpec := { name := "acksSame", fn := fun _ => fun
  | [d1, d2] => { results := [.lit (.bool true)], args := [d1, d2] }
  | _ => none }
def acksSameRow : OpenClaim := { program := "ytlclifhpmnfopaadoor", sum := "82aa23427363a05ca372f639eb38da44d82663dbe2e5be00d1a7268557058300", func := "syndic/syndiclaw17.AcksSame", spec := "acksSame", named := ["syndic/acks.table"], apart := false, laid := [("syndic/acks.table", laid_syndic_acks_table)] }
def AcksSameSaid : Prop := acksSameRow.holds Tryd.pinned (OpenSpec.ofChange acksSameSpec)

/-- ITS FALSE NEIGHBOUR: 'it returns false'. Refute it at one input. -/
def acksSameWrong : ChangeSpec := { name := "acksSame", fn := fun _ => fun
  | [d1, d2] => { results := [.lit (.bool false)], args := [d1, d2] }
  | _ => none }
def AcksSameWrongFalsely : Prop := acksSameRow.holds Tryd.pinned (OpenSpec.ofChange acksSameWrong)

/-- 'syndiclaw17.AcksActs': WHATEVER THE INPUT: true; the input reads as it did. -/
def acksActsSpec : ChangeSpec := { name := "acksActs", fn := fun _ => fun
  | [d] => { results := [.lit (.bool true)], args := [d] }
  | _ => none }
def acksActsRow : OpenClaim := { program := "ytlclifhpmnfopaadoor", sum := "82aa23427363a05ca372f639eb38da44d82663dbe2e5be00d1a7268557058300", func := "syndic/syndiclaw17.AcksActs", spec := "acksActs", named := ["syndic/acks.table"], apart := false, laid := [("syndic/acks.table", laid_syndic_acks_table)] }
def AcksActsSaid : Prop := acksActsRow.holds Tryd.pinned (OpenSpec.ofChange acksActsSpec)

/-- ITS FALSE NEIGHBOUR: 'it returns false'. Refute it at one input. -/
def acksActsWrong : ChangeSpec := { name := "acksActs", fn := fun _ => fun
  | [d] => { results := [.lit (.bool false)], args := [d] }
  | _ => none }
def AcksActsWrongFalsely : Prop := acksActsRow.holds Tryd.pinned (OpenSpec.ofChange acksActsWrong)

/-- 'syndiclaw17.AcksOnce': WHATEVER THE INPUT: true; the input reads as it did. -/
def acksOnceSpec : ChangeSpec := { name := "acksOnce", fn := fun _ => fun
  | [d1, d2, d3] => { results := [.lit (.bool true)], args := [d1, d2, d3] }
  | _ => none }
def acksOnceRow : OpenClaim := { program := "ytlclifhpmnfopaadoor", sum := "82aa23427363a05ca372f639eb38da44d82663dbe2e5be00d1a7268557058300", func := "syndic/syndiclaw17.AcksOnce", spec := "acksOnce", named := ["syndic/acks.table"], apart := false, laid := [("syndic/acks.table", laid_syndic_acks_table)] }
def AcksOnceSaid : Prop := acksOnceRow.holds Tryd.pinned (OpenSpec.ofChange acksOnceSpec)

/-- ITS FALSE NEIGHBOUR: 'it returns false'. Refute it at one input. -/
def acksOnceWrong : ChangeSpec := { name := "acksOnce", fn := fun _ => fun
  | [d1, d2, d3] => { results := [.lit (.bool false)], args := [d1, d2, d3] }
  | _ => none }
def AcksOnceWrongFalsely : Prop := acksOnceRow.holds Tryd.pinned (OpenSpec.ofChange acksOnceWrong)

/-- 'syndiclaw17.AcksNil': WHATEVER THE INPUT: true; the input reads as it did. -/
def acksNilSpec : ChangeSpec := { name := "acksNil", fn := fun _ => fun
  | [d1, d2] => { results := [.lit (.bool true)], args := [d1, d2] }
  | _ => none }
def acksNilRow : OpenClaim := { program := "ytlclifhpmnfopaadoor", sum := "82aa23427363a05ca372f639eb38da44d82663dbe2e5be00d1a7268557058300", func := "syndic/syndiclaw17.AcksNil", spec := "acksNil", named := ["syndic/acks.table"], apart := false, laid := [("syndic/acks.table", laid_syndic_acks_table)] }
def AcksNilSaid : Prop := acksNilRow.holds Tryd.pinned (OpenSpec.ofChange acksNilSpec)

/-- ITS FALSE NEIGHBOUR: 'it returns false'. Refute it at one input. -/
def acksNilWrong : ChangeSpec := { name := "acksNil", fn := fun _ => fun
  | [d1, d2] => { results := [.lit (.bool false)], args := [d1, d2] }
  | _ => none }
def AcksNilWrongFalsely : Prop := acksNilRow.holds Tryd.pinned (OpenSpec.ofChange acksNilWrong)

/- THE SECOND FORM. 'bulk': how many values and letters a reading holds, each counted each time it is reached (what is shared counts as often as it is met; a slice's spare places count too). A statement '..UptoSaid' is the law's where the arguments, and the package variables that the reading takes, are together of bulk at most 1048576: NARROWER than '..Said'. Prove '..Said' where nothing that the law and all that it calls make is longer than what came in: it says more and counts as full. Else prove '..UptoSaid'. A law counts once. -/
mutual
def uptoBulk {H : Type} : DataW H → Nat
  | .lit (.string bytes) => bytes.length + 1
  | .lit _ => 1
  | .nil => 1
  | .ptr d => uptoBulk d + 1
  | .slice elems spare => uptoBulkAll elems + uptoBulkAll spare + 1
  | .agg parts => uptoBulkAll parts + 1
  | .iface _ d => uptoBulk d + 1
  | .map entries => uptoBulkEntries entries + 1
  | .held _ => 1
def uptoBulkAll {H : Type} : List (DataW H) → Nat
  | [] => 0
  | d :: r => uptoBulk d + uptoBulkAll r
def uptoBulkEntries {H : Type} : List (Lit × DataW H) → Nat
  | [] => 0
  | x :: r => uptoBulkEntry x + uptoBulkEntries r
def uptoBulkEntry {H : Type} : Lit × DataW H → Nat
  | (.string bytes, d) => bytes.length + uptoBulk d + 1
  | (_, d) => uptoBulk d + 1
 end
def uptoSmall : (H : Type) → List (DataW H) → Bool := fun _ ds => decide (uptoBulkAll ds ≤ 1048576)
def OpenSpec.upto (s : _root_.Go.ChangeSpec) : _root_.Go.OpenSpec := { _root_.Go.OpenSpec.ofChange s with cond := some uptoSmall }

/-- 'syndiclaw17.AcksWay', WHERE WHAT IT READS IS OF BULK AT MOST 1048576: true; the input reads as it did. -/
def acksWayUptoRow : OpenClaim := { program := "ytlclifhpmnfopaadoor", sum := "82aa23427363a05ca372f639eb38da44d82663dbe2e5be00d1a7268557058300", func := "syndic/syndiclaw17.AcksWay", spec := "acksWay", named := ["syndic/acks.table"], apart := false, laid := [("syndic/acks.table", laid_syndic_acks_table)], narrowed := true }
def AcksWayUptoSaid : Prop := acksWayUptoRow.holds Tryd.pinned (OpenSpec.upto acksWaySpec)

/-- 'syndiclaw17.AcksSame', WHERE WHAT IT READS IS OF BULK AT MOST 1048576: true; the input reads as it did. -/
def acksSameUptoRow : OpenClaim := { program := "ytlclifhpmnfopaadoor", sum := "82aa23427363a05ca372f639eb38da44d82663dbe2e5be00d1a7268557058300", func := "syndic/syndiclaw17.AcksSame", spec := "acksSame", named := ["syndic/acks.table"], apart := false, laid := [("syndic/acks.table", laid_syndic_acks_table)], narrowed := true }
def AcksSameUptoSaid : Prop := acksSameUptoRow.holds Tryd.pinned (OpenSpec.upto acksSameSpec)

/-- 'syndiclaw17.AcksActs', WHERE WHAT IT READS IS OF BULK AT MOST 1048576: true; the input reads as it did. -/
def acksActsUptoRow : OpenClaim := { program := "ytlclifhpmnfopaadoor", sum := "82aa23427363a05ca372f639eb38da44d82663dbe2e5be00d1a7268557058300", func := "syndic/syndiclaw17.AcksActs", spec := "acksActs", named := ["syndic/acks.table"], apart := false, laid := [("syndic/acks.table", laid_syndic_acks_table)], narrowed := true }
def AcksActsUptoSaid : Prop := acksActsUptoRow.holds Tryd.pinned (OpenSpec.upto acksActsSpec)

/-- 'syndiclaw17.AcksOnce', WHERE WHAT IT READS IS OF BULK AT MOST 1048576: true; the input reads as it did. -/
def acksOnceUptoRow : OpenClaim := { program := "ytlclifhpmnfopaadoor", sum := "82aa23427363a05ca372f639eb38da44d82663dbe2e5be00d1a7268557058300", func := "syndic/syndiclaw17.AcksOnce", spec := "acksOnce", named := ["syndic/acks.table"], apart := false, laid := [("syndic/acks.table", laid_syndic_acks_table)], narrowed := true }
def AcksOnceUptoSaid : Prop := acksOnceUptoRow.holds Tryd.pinned (OpenSpec.upto acksOnceSpec)

/-- 'syndiclaw17.AcksNil', WHERE WHAT IT READS IS OF BULK AT MOST 1048576: true; the input reads as it did. -/
def acksNilUptoRow : OpenClaim := { program := "ytlclifhpmnfopaadoor", sum := "82aa23427363a05ca372f639eb38da44d82663dbe2e5be00d1a7268557058300", func := "syndic/syndiclaw17.AcksNil", spec := "acksNil", named := ["syndic/acks.table"], apart := false, laid := [("syndic/acks.table", laid_syndic_acks_table)], narrowed := true }
def AcksNilUptoSaid : Prop := acksNilUptoRow.holds Tryd.pinned (OpenSpec.upto acksNilSpec)

end Rows
end Go.Proofs.YtlclifhpmnfopaaDoor
