/-
  NARROWER THAN 'FOR EVERY INPUT', by the rows' own cells (each row's printed sentence says how): RouterErrs: laid · RouterAlone: laid · RouterSame: laid · RouterDrops: laid.
  DERIVED. THE GIVEN ROWS OF THIS SEAT. 4 by the template 'for every input the law returns true; each argument reads behind the call as it read before'; 0 by the template 'total and deterministic' (their statements: YtehpdklphhmbgaaGreatDoorTotals.lean).
  GIVEN WITH THE SEED: the statements are not yours to turn. If you find one false, say at which input.
  Laid BY PROGRAM, IN A SANDBOX (cutbox-rows.mjs): the forced cells as the released guide's own fill.sh prints them over the translation 6cc9054a765e2b4e… (all of the seat's roots in one cut). By AI agents, Wed Nov 11 2026. No macro, syntax, notation, axiom, sorry.
-/
import Derived.Test.YtehpdklphhmbgaaGreatDoorChecked
import GoSem.Claim
import GoSem.ClaimJoined
import GoSem.ClaimMapViews
import Derived.JoinedTies
import Derived.KernelRfl
namespace Go.Proofs.YtehpdklphhmbgaaGreatDoor
/- THE CELL 'sum', in the pinned program and in every row, IS THE sha256 OF THE DUMP (.gsa) THAT YtehpdklphhmbgaaGreatDoorProg.lean LOADS. Nothing in Lean hashes anything: it is a label: what it is worth is what the hold of that sum in a sandbox is worth. -/
noncomputable def Tryz.pinned : Pinned := { name := "ytehpdklphhmbgaagreatdoor", sum := "6cc9054a765e2b4ecc58da73914ec05b6dfdc16f72171439b6cf2bda5530d2b0", checked := Tryz.checked }
namespace Rows
def none {H : Type} : Left H := { results := [], args := [] }

/- WHAT THE LISTED PACKAGE-LEVEL VARIABLES READ AS WHEN THE CALL BEGINS. Each datum BY PROGRAM (the guide's laid-datum.mjs) off the statement by which the dump's own 'gosem.cut.vars' lays the variable. In a bare row this is a premise. The card (YtehpdklphhmbgaaGreatDoorCards.lean) ties it to the program's text. -/
def laid_syndic_near_rules {H : Type} : DataW H := .agg [.agg [.lit (.int .i64 0), .lit (.int .i64 0), .lit (.int .i64 0), .lit (.int .i64 0), .lit (.int .i64 1)], .agg [.lit (.int .i64 1), .lit (.int .i64 1), .lit (.int .i64 1), .lit (.int .i64 1), .lit (.int .i64 3)], .agg [.lit (.int .i64 1), .lit (.int .i64 1), .lit (.int .i64 1), .lit (.int .i64 2), .lit (.int .i64 2)], .agg [.lit (.int .i64 2), .lit (.int .i64 6), .lit (.int .i64 2), .lit (.int .i64 0), .lit (.int .i64 1)], .agg [.lit (.int .i64 2), .lit (.int .i64 2), .lit (.int .i64 3), .lit (.int .i64 1), .lit (.int .i64 3)], .agg [.lit (.int .i64 3), .lit (.int .i64 6), .lit (.int .i64 3), .lit (.int .i64 2), .lit (.int .i64 2)], .agg [.lit (.int .i64 3), .lit (.int .i64 3), .lit (.int .i64 4), .lit (.int .i64 0), .lit (.int .i64 4)], .agg [.lit (.int .i64 4), .lit (.int .i64 4), .lit (.int .i64 5), .lit (.int .i64 0), .lit (.int .i64 5)], .agg [.lit (.int .i64 4), .lit (.int .i64 5), .lit (.int .i64 6), .lit (.int .i64 0), .lit (.int .i64 6)], .agg [.lit (.int .i64 4), .lit (.int .i64 6), .lit (.int .i64 7), .lit (.int .i64 0), .lit (.int .i64 3)], .agg [.lit (.int .i64 0), .lit (.int .i64 6), .lit (.int .i64 8), .lit (.int .i64 0), .lit (.int .i64 0)]]
def laid_syndic_acks_table {H : Type} : DataW H := .agg [.agg [.lit (.int .i64 0), .lit (.int .i64 0), .lit (.int .i64 0)], .agg [.lit (.int .i64 1), .lit (.int .i64 0), .lit (.int .i64 1)], .agg [.lit (.int .i64 1), .lit (.int .i64 0), .lit (.int .i64 0)], .agg [.lit (.int .i64 2), .lit (.int .i64 2), .lit (.int .i64 2)], .agg [.lit (.int .i64 2), .lit (.int .i64 2), .lit (.int .i64 2)]]

/-- 'syndiclaw23.RouterErrs': WHATEVER THE INPUT: true; the input reads as it did. -/
def routerErrsSpec : ChangeSpec := { name := "routerErrs", fn := fun _ => fun
  | [d1, d2, d3] => { results := [.lit (.bool true)], args := [d1, d2, d3] }
  | _ => none }
def routerErrsRow : OpenClaim := { program := "ytehpdklphhmbgaagreatdoor", sum := "6cc9054a765e2b4ecc58da73914ec05b6dfdc16f72171439b6cf2bda5530d2b0", func := "syndic/syndiclaw23.RouterErrs", spec := "routerErrs", unfollowed := true, recurses := true, named := ["syndic/near.rules"], plainKeys := false, apart := false, laid := [("syndic/near.rules", laid_syndic_near_rules)] }
def RouterErrsSaid : Prop := routerErrsRow.holds Tryz.pinned (OpenSpec.ofChange routerErrsSpec)

/-- ITS FALSE NEIGHBOUR: 'it returns false'. Refute it at one input. -/
def routerErrsWrong : ChangeSpec := { name := "routerErrs", fn := fun _ => fun
  | [d1, d2, d3] => { results := [.lit (.bool false)], args := [d1, d2, d3] }
  | _ => none }
def RouterErrsWrongFalsely : Prop := routerErrsRow.holds Tryz.pinned (OpenSpec.ofChange routerErrsWrong)

/-- 'syndiclaw23.RouterAlone': WHATEVER THE INPUT: true; the input reads as it did. -/
def routerAloneSpec : ChangeSpec := { name := "routerAlone", fn := fun _ => fun
  | [d1, d2] => { results := [.lit (.bool true)], args := [d1, d2] }
  | _ => none }
def routerAloneRow : OpenClaim := { program := "ytehpdklphhmbgaagreatdoor", sum := "6cc9054a765e2b4ecc58da73914ec05b6dfdc16f72171439b6cf2bda5530d2b0", func := "syndic/syndiclaw23.RouterAlone", spec := "routerAlone", unfollowed := true, recurses := true, named := ["syndic/near.rules"], plainKeys := false, apart := false, laid := [("syndic/near.rules", laid_syndic_near_rules)] }
def RouterAloneSaid : Prop := routerAloneRow.holds Tryz.pinned (OpenSpec.ofChange routerAloneSpec)

/-- ITS FALSE NEIGHBOUR: 'it returns false'. Refute it at one input. -/
def routerAloneWrong : ChangeSpec := { name := "routerAlone", fn := fun _ => fun
  | [d1, d2] => { results := [.lit (.bool false)], args := [d1, d2] }
  | _ => none }
def RouterAloneWrongFalsely : Prop := routerAloneRow.holds Tryz.pinned (OpenSpec.ofChange routerAloneWrong)

/-- 'syndiclaw23.RouterSame': WHATEVER THE INPUT: true; the input reads as it did. -/
def routerSameSpec : ChangeSpec := { name := "routerSame", fn := fun _ => fun
  | [d1, d2] => { results := [.lit (.bool true)], args := [d1, d2] }
  | _ => none }
def routerSameRow : OpenClaim := { program := "ytehpdklphhmbgaagreatdoor", sum := "6cc9054a765e2b4ecc58da73914ec05b6dfdc16f72171439b6cf2bda5530d2b0", func := "syndic/syndiclaw23.RouterSame", spec := "routerSame", unfollowed := true, recurses := true, named := ["syndic/near.rules", "syndic/acks.table"], plainKeys := false, apart := false, laid := [("syndic/acks.table", laid_syndic_acks_table), ("syndic/near.rules", laid_syndic_near_rules)] }
def RouterSameSaid : Prop := routerSameRow.holds Tryz.pinned (OpenSpec.ofChange routerSameSpec)

/-- ITS FALSE NEIGHBOUR: 'it returns false'. Refute it at one input. -/
def routerSameWrong : ChangeSpec := { name := "routerSame", fn := fun _ => fun
  | [d1, d2] => { results := [.lit (.bool false)], args := [d1, d2] }
  | _ => none }
def RouterSameWrongFalsely : Prop := routerSameRow.holds Tryz.pinned (OpenSpec.ofChange routerSameWrong)

/-- 'syndiclaw23.RouterDrops': WHATEVER THE INPUT: true; the input reads as it did. -/
def routerDropsSpec : ChangeSpec := { name := "routerDrops", fn := fun _ => fun
  | [d1, d2, d3] => { results := [.lit (.bool true)], args := [d1, d2, d3] }
  | _ => none }
def routerDropsRow : OpenClaim := { program := "ytehpdklphhmbgaagreatdoor", sum := "6cc9054a765e2b4ecc58da73914ec05b6dfdc16f72171439b6cf2bda5530d2b0", func := "syndic/syndiclaw23.RouterDrops", spec := "routerDrops", unfollowed := true, recurses := true, named := ["syndic/near.rules", "syndic/acks.table"], plainKeys := false, apart := false, laid := [("syndic/acks.table", laid_syndic_acks_table), ("syndic/near.rules", laid_syndic_near_rules)] }
def RouterDropsSaid : Prop := routerDropsRow.holds Tryz.pinned (OpenSpec.ofChange routerDropsSpec)

/-- ITS FALSE NEIGHBOUR: 'it returns false'. Refute it at one input. -/
def routerDropsWrong : ChangeSpec := { name := "routerDrops", fn := fun _ => fun
  | [d1, d2, d3] => { results := [.lit (.bool false)], args := [d1, d2, d3] }
  | _ => none }
def RouterDropsWrongFalsely : Prop := routerDropsRow.holds Tryz.pinned (OpenSpec.ofChange routerDropsWrong)

/- THE SECOND FORM. 'bulk': how many values and letters a reading holds, each counted each time it is reached (what is shared counts as often as it is met; a slice's spare places count too). A statement '..UptoSaid' is the law's where the arguments, and the package variables that the reading takes, are together of bulk at most 1048576: NARROWER than '..Said'. Prove '..Said' where nothing that the law and all that it calls make is longer than what came in: it says more and counts as full. Else prove '..UptoSaid'. A law counts once. -/
mutual
def uptoBulk {H : Type} : DataW H → Nat
  | .lit (.string bytes) => bytes.length + 1
  | .lit _ => 1
  | .nil => 1
  | .ptr d => uptoBulk d + 1
  | .slice elems spare => uptoBulkAll elems + uptoBulkAll spare + 1
  | .agg parts => uptoBulkAll parts + 1
  | .iface _ d => uptoBulk d + 1
  | .map entries => uptoBulkEntries entries + 1
  | .held _ => 1
def uptoBulkAll {H : Type} : List (DataW H) → Nat
  | [] => 0
  | d :: r => uptoBulk d + uptoBulkAll r
def uptoBulkEntries {H : Type} : List (Lit × DataW H) → Nat
  | [] => 0
  | x :: r => uptoBulkEntry x + uptoBulkEntries r
def uptoBulkEntry {H : Type} : Lit × DataW H → Nat
  | (.string bytes, d) => bytes.length + uptoBulk d + 1
  | (_, d) => uptoBulk d + 1
 end
def uptoSmall : (H : Type) → List (DataW H) → Bool := fun _ ds => decide (uptoBulkAll ds ≤ 1048576)
def OpenSpec.upto (s : _root_.Go.ChangeSpec) : _root_.Go.OpenSpec := { _root_.Go.OpenSpec.ofChange s with cond := some uptoSmall }

/-- 'syndiclaw23.RouterErrs', WHERE WHAT IT READS IS OF BULK AT MOST 1048576: true; the input reads as it did. -/
def routerErrsUptoRow : OpenClaim := { program := "ytehpdklphhmbgaagreatdoor", sum := "6cc9054a765e2b4ecc58da73914ec05b6dfdc16f72171439b6cf2bda5530d2b0", func := "syndic/syndiclaw23.RouterErrs", spec := "routerErrs", unfollowed := true, recurses := true, named := ["syndic/near.rules"], plainKeys := false, apart := false, laid := [("syndic/near.rules", laid_syndic_near_rules)], narrowed := true }
def RouterErrsUptoSaid : Prop := routerErrsUptoRow.holds Tryz.pinned (OpenSpec.upto routerErrsSpec)

/-- 'syndiclaw23.RouterAlone', WHERE WHAT IT READS IS OF BULK AT MOST 1048576: true; the input reads as it did. -/
def routerAloneUptoRow : OpenClaim := { program := "ytehpdklphhmbgaagreatdoor", sum := "6cc9054a765e2b4ecc58da73914ec05b6dfdc16f72171439b6cf2bda5530d2b0", func := "syndic/syndiclaw23.RouterAlone", spec := "routerAlone", unfollowed := true, recurses := true, named := ["syndic/near.rules"], plainKeys := false, apart := false, laid := [("syndic/near.rules", laid_syndic_near_rules)], narrowed := true }
def RouterAloneUptoSaid : Prop := routerAloneUptoRow.holds Tryz.pinned (OpenSpec.upto routerAloneSpec)

/-- 'syndiclaw23.RouterSame', WHERE WHAT IT READS IS OF BULK AT MOST 1048576: true; the input reads as it did. -/
def routerSameUptoRow : OpenClaim := { program := "ytehpdklphhmbgaagreatdoor", sum := "6cc9054a765e2b4ecc58da73914ec05b6dfdc16f72171439b6cf2bda5530d2b0", func := "syndic/syndiclaw23.RouterSame", spec := "routerSame", unfollowed := true, recurses := true, named := ["syndic/near.rules", "syndic/acks.table"], plainKeys := false, apart := false, laid := [("syndic/acks.table", laid_syndic_acks_table), ("syndic/near.rules", laid_syndic_near_rules)], narrowed := true }
def RouterSameUptoSaid : Prop := routerSameUptoRow.holds Tryz.pinned (OpenSpec.upto routerSameSpec)

/-- 'syndiclaw23.RouterDrops', WHERE WHAT IT READS IS OF BULK AT MOST 1048576: true; the input reads as it did. -/
def routerDropsUptoRow : OpenClaim := { program := "ytehpdklphhmbgaagreatdoor", sum := "6cc9054a765e2b4ecc58da73914ec05b6dfdc16f72171439b6cf2bda5530d2b0", func := "syndic/syndiclaw23.RouterDrops", spec := "routerDrops", unfollowed := true, recurses := true, named := ["syndic/near.rules", "syndic/acks.table"], plainKeys := false, apart := false, laid := [("syndic/acks.table", laid_syndic_acks_table), ("syndic/near.rules", laid_syndic_near_rules)], narrowed := true }
def RouterDropsUptoSaid : Prop := routerDropsUptoRow.holds Tryz.pinned (OpenSpec.upto routerDropsSpec)

end Rows
end Go.Proofs.YtehpdklphhmbgaaGreatDoor
