/-
  No cell of these rows narrows 'for every input' (looked for: loops, veiled, ifaces, maps, wideKeys, modest, calm, conditions, laid).
  DERIVED. THE GIVEN ROWS OF THIS SEAT. 5 by the template 'for every input the law returns true; each argument reads behind the call as it read before'; 0 by the template 'total and deterministic' (their statements: YtmklebkldailnaaTotals.lean).
  GIVEN WITH THE SEED: the statements are not yours to turn. If you find one false, say at which input.
  Laid BY PROGRAM, IN A SANDBOX (cutbox-rows.mjs): the forced cells as the released guide's own fill.sh prints them over the translation 733168e4004fa252… (all of the seat's roots in one cut). By AI agents, Wed Nov 11 2026. No macro, syntax, notation, axiom, sorry.
-/
import Derived.Test.YtmklebkldailnaaChecked
import GoSem.Claim
import GoSem.ClaimJoined
import GoSem.ClaimMapViews
import Derived.JoinedTies
import Derived.KernelRfl
namespace Go.Proofs.Ytmklebkldailnaa
/- THE CELL 'sum', in the pinned program and in every row, IS THE sha256 OF THE DUMP (.gsa) THAT YtmklebkldailnaaProg.lean LOADS. Nothing in Lean hashes anything: it is a label: what it is worth is what the hold of that sum in a sandbox is worth. -/
noncomputable def Try.pinned : Pinned := { name := "ytmklebkldailnaa", sum := "733168e4004fa2524e00ed67873e1a8910de834eebe926ef2dc986d65fda1fc6", checked := Try.checked }
namespace Rows
def none {H : Type} : Left H := { results := [], args := [] }

/-- 'syndiclaw19.OrigPlan': WHATEVER THE INPUT: true; the input reads as it did. -/
def origPlanSpec : ChangeSpec := { name := "origPlan", fn := fun _ => fun
  | [d1, d2] => { results := [.lit (.bool true)], args := [d1, d2] }
  | _ => none }
def origPlanRow : OpenClaim := { program := "ytmklebkldailnaa", sum := "733168e4004fa2524e00ed67873e1a8910de834eebe926ef2dc986d65fda1fc6", func := "syndic/syndiclaw19.OrigPlan", spec := "origPlan", apart := false }
def OrigPlanSaid : Prop := origPlanRow.holds Try.pinned (OpenSpec.ofChange origPlanSpec)

/-- ITS FALSE NEIGHBOUR: 'it returns false'. Refute it at one input. -/
def origPlanWrong : ChangeSpec := { name := "origPlan", fn := fun _ => fun
  | [d1, d2] => { results := [.lit (.bool false)], args := [d1, d2] }
  | _ => none }
def OrigPlanWrongFalsely : Prop := origPlanRow.holds Try.pinned (OpenSpec.ofChange origPlanWrong)

/-- 'syndiclaw19.OrigWraps': WHATEVER THE INPUT: true; the input reads as it did. -/
def origWrapsSpec : ChangeSpec := { name := "origWraps", fn := fun _ => fun
  | [d1, d2, d3] => { results := [.lit (.bool true)], args := [d1, d2, d3] }
  | _ => none }
def origWrapsRow : OpenClaim := { program := "ytmklebkldailnaa", sum := "733168e4004fa2524e00ed67873e1a8910de834eebe926ef2dc986d65fda1fc6", func := "syndic/syndiclaw19.OrigWraps", spec := "origWraps", apart := false }
def OrigWrapsSaid : Prop := origWrapsRow.holds Try.pinned (OpenSpec.ofChange origWrapsSpec)

/-- ITS FALSE NEIGHBOUR: 'it returns false'. Refute it at one input. -/
def origWrapsWrong : ChangeSpec := { name := "origWraps", fn := fun _ => fun
  | [d1, d2, d3] => { results := [.lit (.bool false)], args := [d1, d2, d3] }
  | _ => none }
def OrigWrapsWrongFalsely : Prop := origWrapsRow.holds Try.pinned (OpenSpec.ofChange origWrapsWrong)

/-- 'syndiclaw19.OrigNet': WHATEVER THE INPUT: true; the input reads as it did. -/
def origNetSpec : ChangeSpec := { name := "origNet", fn := fun _ => fun
  | [d1, d2] => { results := [.lit (.bool true)], args := [d1, d2] }
  | _ => none }
def origNetRow : OpenClaim := { program := "ytmklebkldailnaa", sum := "733168e4004fa2524e00ed67873e1a8910de834eebe926ef2dc986d65fda1fc6", func := "syndic/syndiclaw19.OrigNet", spec := "origNet", unfollowed := true, recurses := true, apart := false }
def OrigNetSaid : Prop := origNetRow.holds Try.pinned (OpenSpec.ofChange origNetSpec)

/-- ITS FALSE NEIGHBOUR: 'it returns false'. Refute it at one input. -/
def origNetWrong : ChangeSpec := { name := "origNet", fn := fun _ => fun
  | [d1, d2] => { results := [.lit (.bool false)], args := [d1, d2] }
  | _ => none }
def OrigNetWrongFalsely : Prop := origNetRow.holds Try.pinned (OpenSpec.ofChange origNetWrong)

/-- 'syndiclaw19.OrigRuns': WHATEVER THE INPUT: true; the input reads as it did. -/
def origRunsSpec : ChangeSpec := { name := "origRuns", fn := fun _ => fun
  | [d1, d2, d3] => { results := [.lit (.bool true)], args := [d1, d2, d3] }
  | _ => none }
def origRunsRow : OpenClaim := { program := "ytmklebkldailnaa", sum := "733168e4004fa2524e00ed67873e1a8910de834eebe926ef2dc986d65fda1fc6", func := "syndic/syndiclaw19.OrigRuns", spec := "origRuns", apart := false }
def OrigRunsSaid : Prop := origRunsRow.holds Try.pinned (OpenSpec.ofChange origRunsSpec)

/-- ITS FALSE NEIGHBOUR: 'it returns false'. Refute it at one input. -/
def origRunsWrong : ChangeSpec := { name := "origRuns", fn := fun _ => fun
  | [d1, d2, d3] => { results := [.lit (.bool false)], args := [d1, d2, d3] }
  | _ => none }
def OrigRunsWrongFalsely : Prop := origRunsRow.holds Try.pinned (OpenSpec.ofChange origRunsWrong)

/-- 'syndiclaw19.OrigSettles': WHATEVER THE INPUT: true; the input reads as it did. -/
def origSettlesSpec : ChangeSpec := { name := "origSettles", fn := fun _ => fun
  | [d1, d2, d3] => { results := [.lit (.bool true)], args := [d1, d2, d3] }
  | _ => none }
def origSettlesRow : OpenClaim := { program := "ytmklebkldailnaa", sum := "733168e4004fa2524e00ed67873e1a8910de834eebe926ef2dc986d65fda1fc6", func := "syndic/syndiclaw19.OrigSettles", spec := "origSettles", apart := false }
def OrigSettlesSaid : Prop := origSettlesRow.holds Try.pinned (OpenSpec.ofChange origSettlesSpec)

/-- ITS FALSE NEIGHBOUR: 'it returns false'. Refute it at one input. -/
def origSettlesWrong : ChangeSpec := { name := "origSettles", fn := fun _ => fun
  | [d1, d2, d3] => { results := [.lit (.bool false)], args := [d1, d2, d3] }
  | _ => none }
def OrigSettlesWrongFalsely : Prop := origSettlesRow.holds Try.pinned (OpenSpec.ofChange origSettlesWrong)

/- THE SECOND FORM. 'bulk': how many values and letters a reading holds, each counted each time it is reached (what is shared counts as often as it is met; a slice's spare places count too). A statement '..UptoSaid' is the law's where the arguments, and the package variables that the reading takes, are together of bulk at most 1048576: NARROWER than '..Said'. Prove '..Said' where nothing that the law and all that it calls make is longer than what came in: it says more and counts as full. Else prove '..UptoSaid'. A law counts once. -/
mutual
def uptoBulk {H : Type} : DataW H → Nat
  | .lit (.string bytes) => bytes.length + 1
  | .lit _ => 1
  | .nil => 1
  | .ptr d => uptoBulk d + 1
  | .slice elems spare => uptoBulkAll elems + uptoBulkAll spare + 1
  | .agg parts => uptoBulkAll parts + 1
  | .iface _ d => uptoBulk d + 1
  | .map entries => uptoBulkEntries entries + 1
  | .held _ => 1
def uptoBulkAll {H : Type} : List (DataW H) → Nat
  | [] => 0
  | d :: r => uptoBulk d + uptoBulkAll r
def uptoBulkEntries {H : Type} : List (Lit × DataW H) → Nat
  | [] => 0
  | x :: r => uptoBulkEntry x + uptoBulkEntries r
def uptoBulkEntry {H : Type} : Lit × DataW H → Nat
  | (.string bytes, d) => bytes.length + uptoBulk d + 1
  | (_, d) => uptoBulk d + 1
 end
def uptoSmall : (H : Type) → List (DataW H) → Bool := fun _ ds => decide (uptoBulkAll ds ≤ 1048576)
def OpenSpec.upto (s : _root_.Go.ChangeSpec) : _root_.Go.OpenSpec := { _root_.Go.OpenSpec.ofChange s with cond := some uptoSmall }

/-- 'syndiclaw19.OrigPlan', WHERE WHAT IT READS IS OF BULK AT MOST 1048576: true; the input reads as it did. -/
def origPlanUptoRow : OpenClaim := { program := "ytmklebkldailnaa", sum := "733168e4004fa2524e00ed67873e1a8910de834eebe926ef2dc986d65fda1fc6", func := "syndic/syndiclaw19.OrigPlan", spec := "origPlan", apart := false, narrowed := true }
def OrigPlanUptoSaid : Prop := origPlanUptoRow.holds Try.pinned (OpenSpec.upto origPlanSpec)

/-- 'syndiclaw19.OrigWraps', WHERE WHAT IT READS IS OF BULK AT MOST 1048576: true; the input reads as it did. -/
def origWrapsUptoRow : OpenClaim := { program := "ytmklebkldailnaa", sum := "733168e4004fa2524e00ed67873e1a8910de834eebe926ef2dc986d65fda1fc6", func := "syndic/syndiclaw19.OrigWraps", spec := "origWraps", apart := false, narrowed := true }
def OrigWrapsUptoSaid : Prop := origWrapsUptoRow.holds Try.pinned (OpenSpec.upto origWrapsSpec)

/-- 'syndiclaw19.OrigNet', WHERE WHAT IT READS IS OF BULK AT MOST 1048576: true; the input reads as it did. -/
def origNetUptoRow : OpenClaim := { program := "ytmklebkldailnaa", sum := "733168e4004fa2524e00ed67873e1a8910de834eebe926ef2dc986d65fda1fc6", func := "syndic/syndiclaw19.OrigNet", spec := "origNet", unfollowed := true, recurses := true, apart := false, narrowed := true }
def OrigNetUptoSaid : Prop := origNetUptoRow.holds Try.pinned (OpenSpec.upto origNetSpec)

/-- 'syndiclaw19.OrigRuns', WHERE WHAT IT READS IS OF BULK AT MOST 1048576: true; the input reads as it did. -/
def origRunsUptoRow : OpenClaim := { program := "ytmklebkldailnaa", sum := "733168e4004fa2524e00ed67873e1a8910de834eebe926ef2dc986d65fda1fc6", func := "syndic/syndiclaw19.OrigRuns", spec := "origRuns", apart := false, narrowed := true }
def OrigRunsUptoSaid : Prop := origRunsUptoRow.holds Try.pinned (OpenSpec.upto origRunsSpec)

/-- 'syndiclaw19.OrigSettles', WHERE WHAT IT READS IS OF BULK AT MOST 1048576: true; the input reads as it did. -/
def origSettlesUptoRow : OpenClaim := { program := "ytmklebkldailnaa", sum := "733168e4004fa2524e00ed67873e1a8910de834eebe926ef2dc986d65fda1fc6", func := "syndic/syndiclaw19.OrigSettles", spec := "origSettles", apart := false, narrowed := true }
def OrigSettlesUptoSaid : Prop := origSettlesUptoRow.holds Try.pinned (OpenSpec.upto origSettlesSpec)

end Rows
end Go.Proofs.Ytmklebkldailnaa
