/-
  NARROWER THAN 'FOR EVERY INPUT', by the rows' own cells (each row's printed sentence says how): NearSteps: laid · NearPaths: laid · NearOthers: laid · NearAdjacent: laid.
  DERIVED. THE GIVEN ROWS OF THIS SEAT. 4 by the template 'for every input the law returns true; each argument reads behind the call as it read before'; 0 by the template 'total and deterministic' (their statements: YtdmogmoccdlgaaaDoorTotals.lean).
  GIVEN WITH THE SEED: the statements are not yours to turn. If you find one false, say at which input.
  Laid BY PROGRAM, IN A SANDBOX (cutbox-rows.mjs): the forced cells as the released guide's own fill.sh prints them over the translation 19deb6d19c1e4344… (all of the seat's roots in one cut). By AI agents, Wed Nov 11 2026. No macro, syntax, notation, axiom, sorry.
-/
import Derived.Test.YtdmogmoccdlgaaaDoorChecked
import GoSem.Claim
import GoSem.ClaimJoined
import GoSem.ClaimMapViews
import Derived.JoinedTies
import Derived.KernelRfl
namespace Go.Proofs.YtdmogmoccdlgaaaDoor
/- THE CELL 'sum', in the pinned program and in every row, IS THE sha256 OF THE DUMP (.gsa) THAT YtdmogmoccdlgaaaDoorProg.lean LOADS. Nothing in Lean hashes anything: it is a label: what it is worth is what the hold of that sum in a sandbox is worth. -/
noncomputable def Tryd.pinned : Pinned := { name := "ytdmogmoccdlgaaadoor", sum := "19deb6d19c1e4344913af0765aa2c7877cd46832a472bbf34e06d1f6f28726de", checked := Tryd.checked }
namespace Rows
def none {H : Type} : Left H := { results := [], args := [] }

/- WHAT THE LISTED PACKAGE-LEVEL VARIABLES READ AS WHEN THE CALL BEGINS. Each datum BY PROGRAM (the guide's laid-datum.mjs) off the statement by which the dump's own 'gosem.cut.vars' lays the variable. In a bare row this is a premise. The card (YtdmogmoccdlgaaaDoorCards.lean) ties it to the program's text. -/
def laid_syndic_near_rules {H : Type} : DataW H := .agg [.agg [.lit (.int .i64 0), .lit (.int .i64 0), .lit (.int .i64 0), .lit (.int .i64 0), .lit (.int .i64 1)], .agg [.lit (.int .i64 1), .lit (.int .i64 1), .lit (.int .i64 1), .lit (.int .i64 1), .lit (.int .i64 3)], .agg [.lit (.int .i64 1), .lit (.int .i64 1), .lit (.int .i64 1), .lit (.int .i64 2), .lit (.int .i64 2)], .agg [.lit (.int .i64 2), .lit (.int .i64 6), .lit (.int .i64 2), .lit (.int .i64 0), .lit (.int .i64 1)], .agg [.lit (.int .i64 2), .lit (.int .i64 2), .lit (.int .i64 3), .lit (.int .i64 1), .lit (.int .i64 3)], .agg [.lit (.int .i64 3), .lit (.int .i64 6), .lit (.int .i64 3), .lit (.int .i64 2), .lit (.int .i64 2)], .agg [.lit (.int .i64 3), .lit (.int .i64 3), .lit (.int .i64 4), .lit (.int .i64 0), .lit (.int .i64 4)], .agg [.lit (.int .i64 4), .lit (.int .i64 4), .lit (.int .i64 5), .lit (.int .i64 0), .lit (.int .i64 5)], .agg [.lit (.int .i64 4), .lit (.int .i64 5), .lit (.int .i64 6), .lit (.int .i64 0), .lit (.int .i64 6)], .agg [.lit (.int .i64 4), .lit (.int .i64 6), .lit (.int .i64 7), .lit (.int .i64 0), .lit (.int .i64 3)], .agg [.lit (.int .i64 0), .lit (.int .i64 6), .lit (.int .i64 8), .lit (.int .i64 0), .lit (.int .i64 0)]]

/-- 'syndiclaw11.NearSteps': WHATEVER THE INPUT: true; the input reads as it did. -/
def nearStepsSpec : ChangeSpec := { name := "nearSteps", fn := fun _ => fun
  | [d1, d2, d3] => { results := [.lit (.bool true)], args := [d1, d2, d3] }
  | _ => none }
def nearStepsRow : OpenClaim := { program := "ytdmogmoccdlgaaadoor", sum := "19deb6d19c1e4344913af0765aa2c7877cd46832a472bbf34e06d1f6f28726de", func := "syndic/syndiclaw11.NearSteps", spec := "nearSteps", named := ["syndic/near.rules"], apart := false, laid := [("syndic/near.rules", laid_syndic_near_rules)] }
def NearStepsSaid : Prop := nearStepsRow.holds Tryd.pinned (OpenSpec.ofChange nearStepsSpec)

/-- ITS FALSE NEIGHBOUR: 'it returns false'. Refute it at one input. -/
def nearStepsWrong : ChangeSpec := { name := "nearSteps", fn := fun _ => fun
  | [d1, d2, d3] => { results := [.lit (.bool false)], args := [d1, d2, d3] }
  | _ => none }
def NearStepsWrongFalsely : Prop := nearStepsRow.holds Tryd.pinned (OpenSpec.ofChange nearStepsWrong)

/-- 'syndiclaw11.NearPaths': WHATEVER THE INPUT: true; the input reads as it did. -/
def nearPathsSpec : ChangeSpec := { name := "nearPaths", fn := fun _ => fun
  | [d] => { results := [.lit (.bool true)], args := [d] }
  | _ => none }
def nearPathsRow : OpenClaim := { program := "ytdmogmoccdlgaaadoor", sum := "19deb6d19c1e4344913af0765aa2c7877cd46832a472bbf34e06d1f6f28726de", func := "syndic/syndiclaw11.NearPaths", spec := "nearPaths", named := ["syndic/near.rules"], apart := false, laid := [("syndic/near.rules", laid_syndic_near_rules)] }
def NearPathsSaid : Prop := nearPathsRow.holds Tryd.pinned (OpenSpec.ofChange nearPathsSpec)

/-- ITS FALSE NEIGHBOUR: 'it returns false'. Refute it at one input. -/
def nearPathsWrong : ChangeSpec := { name := "nearPaths", fn := fun _ => fun
  | [d] => { results := [.lit (.bool false)], args := [d] }
  | _ => none }
def NearPathsWrongFalsely : Prop := nearPathsRow.holds Tryd.pinned (OpenSpec.ofChange nearPathsWrong)

/-- 'syndiclaw11.NearOthers': WHATEVER THE INPUT: true; the input reads as it did. -/
def nearOthersSpec : ChangeSpec := { name := "nearOthers", fn := fun _ => fun
  | [d] => { results := [.lit (.bool true)], args := [d] }
  | _ => none }
def nearOthersRow : OpenClaim := { program := "ytdmogmoccdlgaaadoor", sum := "19deb6d19c1e4344913af0765aa2c7877cd46832a472bbf34e06d1f6f28726de", func := "syndic/syndiclaw11.NearOthers", spec := "nearOthers", named := ["syndic/near.rules"], apart := false, laid := [("syndic/near.rules", laid_syndic_near_rules)] }
def NearOthersSaid : Prop := nearOthersRow.holds Tryd.pinned (OpenSpec.ofChange nearOthersSpec)

/-- ITS FALSE NEIGHBOUR: 'it returns false'. Refute it at one input. -/
def nearOthersWrong : ChangeSpec := { name := "nearOthers", fn := fun _ => fun
  | [d] => { results := [.lit (.bool false)], args := [d] }
  | _ => none }
def NearOthersWrongFalsely : Prop := nearOthersRow.holds Tryd.pinned (OpenSpec.ofChange nearOthersWrong)

/-- 'syndiclaw11.NearAdjacent': WHATEVER THE INPUT: true; the input reads as it did. -/
def nearAdjacentSpec : ChangeSpec := { name := "nearAdjacent", fn := fun _ => fun
  | [d1, d2] => { results := [.lit (.bool true)], args := [d1, d2] }
  | _ => none }
def nearAdjacentRow : OpenClaim := { program := "ytdmogmoccdlgaaadoor", sum := "19deb6d19c1e4344913af0765aa2c7877cd46832a472bbf34e06d1f6f28726de", func := "syndic/syndiclaw11.NearAdjacent", spec := "nearAdjacent", unfollowed := true, recurses := true, named := ["syndic/near.rules"], apart := false, laid := [("syndic/near.rules", laid_syndic_near_rules)] }
def NearAdjacentSaid : Prop := nearAdjacentRow.holds Tryd.pinned (OpenSpec.ofChange nearAdjacentSpec)

/-- ITS FALSE NEIGHBOUR: 'it returns false'. Refute it at one input. -/
def nearAdjacentWrong : ChangeSpec := { name := "nearAdjacent", fn := fun _ => fun
  | [d1, d2] => { results := [.lit (.bool false)], args := [d1, d2] }
  | _ => none }
def NearAdjacentWrongFalsely : Prop := nearAdjacentRow.holds Tryd.pinned (OpenSpec.ofChange nearAdjacentWrong)

/- THE SECOND FORM. 'bulk': how many values and letters a reading holds, each counted each time it is reached (what is shared counts as often as it is met; a slice's spare places count too). A statement '..UptoSaid' is the law's where the arguments, and the package variables that the reading takes, are together of bulk at most 1048576: NARROWER than '..Said'. Prove '..Said' where nothing that the law and all that it calls make is longer than what came in: it says more and counts as full. Else prove '..UptoSaid'. A law counts once. -/
mutual
def uptoBulk {H : Type} : DataW H → Nat
  | .lit (.string bytes) => bytes.length + 1
  | .lit _ => 1
  | .nil => 1
  | .ptr d => uptoBulk d + 1
  | .slice elems spare => uptoBulkAll elems + uptoBulkAll spare + 1
  | .agg parts => uptoBulkAll parts + 1
  | .iface _ d => uptoBulk d + 1
  | .map entries => uptoBulkEntries entries + 1
  | .held _ => 1
def uptoBulkAll {H : Type} : List (DataW H) → Nat
  | [] => 0
  | d :: r => uptoBulk d + uptoBulkAll r
def uptoBulkEntries {H : Type} : List (Lit × DataW H) → Nat
  | [] => 0
  | x :: r => uptoBulkEntry x + uptoBulkEntries r
def uptoBulkEntry {H : Type} : Lit × DataW H → Nat
  | (.string bytes, d) => bytes.length + uptoBulk d + 1
  | (_, d) => uptoBulk d + 1
 end
def uptoSmall : (H : Type) → List (DataW H) → Bool := fun _ ds => decide (uptoBulkAll ds ≤ 1048576)
def OpenSpec.upto (s : _root_.Go.ChangeSpec) : _root_.Go.OpenSpec := { _root_.Go.OpenSpec.ofChange s with cond := some uptoSmall }

/-- 'syndiclaw11.NearSteps', WHERE WHAT IT READS IS OF BULK AT MOST 1048576: true; the input reads as it did. -/
def nearStepsUptoRow : OpenClaim := { program := "ytdmogmoccdlgaaadoor", sum := "19deb6d19c1e4344913af0765aa2c7877cd46832a472bbf34e06d1f6f28726de", func := "syndic/syndiclaw11.NearSteps", spec := "nearSteps", named := ["syndic/near.rules"], apart := false, laid := [("syndic/near.rules", laid_syndic_near_rules)], narrowed := true }
def NearStepsUptoSaid : Prop := nearStepsUptoRow.holds Tryd.pinned (OpenSpec.upto nearStepsSpec)

/-- 'syndiclaw11.NearPaths', WHERE WHAT IT READS IS OF BULK AT MOST 1048576: true; the input reads as it did. -/
def nearPathsUptoRow : OpenClaim := { program := "ytdmogmoccdlgaaadoor", sum := "19deb6d19c1e4344913af0765aa2c7877cd46832a472bbf34e06d1f6f28726de", func := "syndic/syndiclaw11.NearPaths", spec := "nearPaths", named := ["syndic/near.rules"], apart := false, laid := [("syndic/near.rules", laid_syndic_near_rules)], narrowed := true }
def NearPathsUptoSaid : Prop := nearPathsUptoRow.holds Tryd.pinned (OpenSpec.upto nearPathsSpec)

/-- 'syndiclaw11.NearOthers', WHERE WHAT IT READS IS OF BULK AT MOST 1048576: true; the input reads as it did. -/
def nearOthersUptoRow : OpenClaim := { program := "ytdmogmoccdlgaaadoor", sum := "19deb6d19c1e4344913af0765aa2c7877cd46832a472bbf34e06d1f6f28726de", func := "syndic/syndiclaw11.NearOthers", spec := "nearOthers", named := ["syndic/near.rules"], apart := false, laid := [("syndic/near.rules", laid_syndic_near_rules)], narrowed := true }
def NearOthersUptoSaid : Prop := nearOthersUptoRow.holds Tryd.pinned (OpenSpec.upto nearOthersSpec)

/-- 'syndiclaw11.NearAdjacent', WHERE WHAT IT READS IS OF BULK AT MOST 1048576: true; the input reads as it did. -/
def nearAdjacentUptoRow : OpenClaim := { program := "ytdmogmoccdlgaaadoor", sum := "19deb6d19c1e4344913af0765aa2c7877cd46832a472bbf34e06d1f6f28726de", func := "syndic/syndiclaw11.NearAdjacent", spec := "nearAdjacent", unfollowed := true, recurses := true, named := ["syndic/near.rules"], apart := false, laid := [("syndic/near.rules", laid_syndic_near_rules)], narrowed := true }
def NearAdjacentUptoSaid : Prop := nearAdjacentUptoRow.holds Tryd.pinned (OpenSpec.upto nearAdjacentSpec)

end Rows
end Go.Proofs.YtdmogmoccdlgaaaDoor
