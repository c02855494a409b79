/-
  No cell of these rows narrows 'for every input' (looked for: loops, veiled, ifaces, maps, wideKeys, modest, calm, conditions, laid).
  DERIVED. THE GIVEN ROWS OF THIS SEAT. 3 by the template 'for every input the law returns true; each argument reads behind the call as it read before'; 0 by the template 'total and deterministic' (their statements: YtmehglliajefaaaTotals.lean).
  GIVEN WITH THE SEED: the statements are not yours to turn. If you find one false, say at which input.
  Laid BY PROGRAM, IN A SANDBOX (cutbox-rows.mjs): the forced cells as the released guide's own fill.sh prints them over the translation f681f57a8cc106ff… (all of the seat's roots in one cut). By AI agents, Wed Nov 11 2026. No macro, syntax, notation, axiom, sorry.
-/
import Derived.Test.YtmehglliajefaaaChecked
import GoSem.Claim
import GoSem.ClaimJoined
import GoSem.ClaimMapViews
import Derived.JoinedTies
import Derived.KernelRfl
namespace Go.Proofs.Ytmehglliajefaaa
/- THE CELL 'sum', in the pinned program and in every row, IS THE sha256 OF THE DUMP (.gsa) THAT YtmehglliajefaaaProg.lean LOADS. Nothing in Lean hashes anything: it is a label: what it is worth is what the hold of that sum in a sandbox is worth. -/
noncomputable def Try.pinned : Pinned := { name := "ytmehglliajefaaa", sum := "f681f57a8cc106fff99ee4d22b4fb1d653e7e1dde4a30d990ca36f2b59d3dc08", checked := Try.checked }
namespace Rows
def none {H : Type} : Left H := { results := [], args := [] }

/-- 'syndiclaw12.PeersAgain': WHATEVER THE INPUT: true; the input reads as it did. -/
def peersAgainSpec : ChangeSpec := { name := "peersAgain", fn := fun _ => fun
  | [d1, d2, d3] => { results := [.lit (.bool true)], args := [d1, d2, d3] }
  | _ => none }
def peersAgainRow : OpenClaim := { program := "ytmehglliajefaaa", sum := "f681f57a8cc106fff99ee4d22b4fb1d653e7e1dde4a30d990ca36f2b59d3dc08", func := "syndic/syndiclaw12.PeersAgain", spec := "peersAgain", unfollowed := true, recurses := true, apart := false }
def PeersAgainSaid : Prop := peersAgainRow.holds Try.pinned (OpenSpec.ofChange peersAgainSpec)

/-- ITS FALSE NEIGHBOUR: 'it returns false'. Refute it at one input. -/
def peersAgainWrong : ChangeSpec := { name := "peersAgain", fn := fun _ => fun
  | [d1, d2, d3] => { results := [.lit (.bool false)], args := [d1, d2, d3] }
  | _ => none }
def PeersAgainWrongFalsely : Prop := peersAgainRow.holds Try.pinned (OpenSpec.ofChange peersAgainWrong)

/-- 'syndiclaw12.PeersActs': WHATEVER THE INPUT: true; the input reads as it did. -/
def peersActsSpec : ChangeSpec := { name := "peersActs", fn := fun _ => fun
  | [d1, d2, d3] => { results := [.lit (.bool true)], args := [d1, d2, d3] }
  | _ => none }
def peersActsRow : OpenClaim := { program := "ytmehglliajefaaa", sum := "f681f57a8cc106fff99ee4d22b4fb1d653e7e1dde4a30d990ca36f2b59d3dc08", func := "syndic/syndiclaw12.PeersActs", spec := "peersActs", unfollowed := true, recurses := true, apart := false }
def PeersActsSaid : Prop := peersActsRow.holds Try.pinned (OpenSpec.ofChange peersActsSpec)

/-- ITS FALSE NEIGHBOUR: 'it returns false'. Refute it at one input. -/
def peersActsWrong : ChangeSpec := { name := "peersActs", fn := fun _ => fun
  | [d1, d2, d3] => { results := [.lit (.bool false)], args := [d1, d2, d3] }
  | _ => none }
def PeersActsWrongFalsely : Prop := peersActsRow.holds Try.pinned (OpenSpec.ofChange peersActsWrong)

/-- 'syndiclaw12.PeersNil': WHATEVER THE INPUT: true; the input reads as it did. -/
def peersNilSpec : ChangeSpec := { name := "peersNil", fn := fun _ => fun
  | [d1, d2] => { results := [.lit (.bool true)], args := [d1, d2] }
  | _ => none }
def peersNilRow : OpenClaim := { program := "ytmehglliajefaaa", sum := "f681f57a8cc106fff99ee4d22b4fb1d653e7e1dde4a30d990ca36f2b59d3dc08", func := "syndic/syndiclaw12.PeersNil", spec := "peersNil", unfollowed := true, recurses := true, apart := false }
def PeersNilSaid : Prop := peersNilRow.holds Try.pinned (OpenSpec.ofChange peersNilSpec)

/-- ITS FALSE NEIGHBOUR: 'it returns false'. Refute it at one input. -/
def peersNilWrong : ChangeSpec := { name := "peersNil", fn := fun _ => fun
  | [d1, d2] => { results := [.lit (.bool false)], args := [d1, d2] }
  | _ => none }
def PeersNilWrongFalsely : Prop := peersNilRow.holds Try.pinned (OpenSpec.ofChange peersNilWrong)

/- THE SECOND FORM. 'bulk': how many values and letters a reading holds, each counted each time it is reached (what is shared counts as often as it is met; a slice's spare places count too). A statement '..UptoSaid' is the law's where the arguments, and the package variables that the reading takes, are together of bulk at most 1048576: NARROWER than '..Said'. Prove '..Said' where nothing that the law and all that it calls make is longer than what came in: it says more and counts as full. Else prove '..UptoSaid'. A law counts once. -/
mutual
def uptoBulk {H : Type} : DataW H → Nat
  | .lit (.string bytes) => bytes.length + 1
  | .lit _ => 1
  | .nil => 1
  | .ptr d => uptoBulk d + 1
  | .slice elems spare => uptoBulkAll elems + uptoBulkAll spare + 1
  | .agg parts => uptoBulkAll parts + 1
  | .iface _ d => uptoBulk d + 1
  | .map entries => uptoBulkEntries entries + 1
  | .held _ => 1
def uptoBulkAll {H : Type} : List (DataW H) → Nat
  | [] => 0
  | d :: r => uptoBulk d + uptoBulkAll r
def uptoBulkEntries {H : Type} : List (Lit × DataW H) → Nat
  | [] => 0
  | x :: r => uptoBulkEntry x + uptoBulkEntries r
def uptoBulkEntry {H : Type} : Lit × DataW H → Nat
  | (.string bytes, d) => bytes.length + uptoBulk d + 1
  | (_, d) => uptoBulk d + 1
 end
def uptoSmall : (H : Type) → List (DataW H) → Bool := fun _ ds => decide (uptoBulkAll ds ≤ 1048576)
def OpenSpec.upto (s : _root_.Go.ChangeSpec) : _root_.Go.OpenSpec := { _root_.Go.OpenSpec.ofChange s with cond := some uptoSmall }

/-- 'syndiclaw12.PeersAgain', WHERE WHAT IT READS IS OF BULK AT MOST 1048576: true; the input reads as it did. -/
def peersAgainUptoRow : OpenClaim := { program := "ytmehglliajefaaa", sum := "f681f57a8cc106fff99ee4d22b4fb1d653e7e1dde4a30d990ca36f2b59d3dc08", func := "syndic/syndiclaw12.PeersAgain", spec := "peersAgain", unfollowed := true, recurses := true, apart := false, narrowed := true }
def PeersAgainUptoSaid : Prop := peersAgainUptoRow.holds Try.pinned (OpenSpec.upto peersAgainSpec)

/-- 'syndiclaw12.PeersActs', WHERE WHAT IT READS IS OF BULK AT MOST 1048576: true; the input reads as it did. -/
def peersActsUptoRow : OpenClaim := { program := "ytmehglliajefaaa", sum := "f681f57a8cc106fff99ee4d22b4fb1d653e7e1dde4a30d990ca36f2b59d3dc08", func := "syndic/syndiclaw12.PeersActs", spec := "peersActs", unfollowed := true, recurses := true, apart := false, narrowed := true }
def PeersActsUptoSaid : Prop := peersActsUptoRow.holds Try.pinned (OpenSpec.upto peersActsSpec)

/-- 'syndiclaw12.PeersNil', WHERE WHAT IT READS IS OF BULK AT MOST 1048576: true; the input reads as it did. -/
def peersNilUptoRow : OpenClaim := { program := "ytmehglliajefaaa", sum := "f681f57a8cc106fff99ee4d22b4fb1d653e7e1dde4a30d990ca36f2b59d3dc08", func := "syndic/syndiclaw12.PeersNil", spec := "peersNil", unfollowed := true, recurses := true, apart := false, narrowed := true }
def PeersNilUptoSaid : Prop := peersNilUptoRow.holds Try.pinned (OpenSpec.upto peersNilSpec)

end Rows
end Go.Proofs.Ytmehglliajefaaa
