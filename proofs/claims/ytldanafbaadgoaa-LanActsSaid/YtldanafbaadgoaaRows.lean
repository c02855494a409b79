/-
  No cell of these rows narrows 'for every input' (looked for: loops, veiled, ifaces, maps, wideKeys, modest, calm, conditions, laid).
  DERIVED. THE GIVEN ROWS OF THIS SEAT. 4 by the template 'for every input the law returns true; each argument reads behind the call as it read before'; 0 by the template 'total and deterministic' (their statements: YtldanafbaadgoaaTotals.lean).
  GIVEN WITH THE SEED: the statements are not yours to turn. If you find one false, say at which input.
  Laid BY PROGRAM, IN A SANDBOX (cutbox-rows.mjs): the forced cells as the released guide's own fill.sh prints them over the translation ecd4ebdcd4536b45… (all of the seat's roots in one cut). By AI agents, Wed Nov 11 2026. No macro, syntax, notation, axiom, sorry.
-/
import Derived.Test.YtldanafbaadgoaaChecked
import GoSem.Claim
import GoSem.ClaimJoined
import GoSem.ClaimMapViews
import Derived.JoinedTies
import Derived.KernelRfl
namespace Go.Proofs.Ytldanafbaadgoaa
/- THE CELL 'sum', in the pinned program and in every row, IS THE sha256 OF THE DUMP (.gsa) THAT YtldanafbaadgoaaProg.lean LOADS. Nothing in Lean hashes anything: it is a label: what it is worth is what the hold of that sum in a sandbox is worth. -/
noncomputable def Try.pinned : Pinned := { name := "ytldanafbaadgoaa", sum := "ecd4ebdcd4536b45a280702d9cc4dceb7e383915cbb5a6ab100048e8be2341ed", checked := Try.checked }
namespace Rows
def none {H : Type} : Left H := { results := [], args := [] }

/-- 'syndiclaw24.LanOwn': WHATEVER THE INPUT: true; the input reads as it did. -/
def lanOwnSpec : ChangeSpec := { name := "lanOwn", fn := fun _ => fun
  | [d1, d2, d3] => { results := [.lit (.bool true)], args := [d1, d2, d3] }
  | _ => none }
def lanOwnRow : OpenClaim := { program := "ytldanafbaadgoaa", sum := "ecd4ebdcd4536b45a280702d9cc4dceb7e383915cbb5a6ab100048e8be2341ed", func := "syndic/syndiclaw24.LanOwn", spec := "lanOwn", apart := false }
def LanOwnSaid : Prop := lanOwnRow.holds Try.pinned (OpenSpec.ofChange lanOwnSpec)

/-- ITS FALSE NEIGHBOUR: 'it returns false'. Refute it at one input. -/
def lanOwnWrong : ChangeSpec := { name := "lanOwn", fn := fun _ => fun
  | [d1, d2, d3] => { results := [.lit (.bool false)], args := [d1, d2, d3] }
  | _ => none }
def LanOwnWrongFalsely : Prop := lanOwnRow.holds Try.pinned (OpenSpec.ofChange lanOwnWrong)

/-- 'syndiclaw24.LanOrder': WHATEVER THE INPUT: true; the input reads as it did. -/
def lanOrderSpec : ChangeSpec := { name := "lanOrder", fn := fun _ => fun
  | [d1, d2, d3] => { results := [.lit (.bool true)], args := [d1, d2, d3] }
  | _ => none }
def lanOrderRow : OpenClaim := { program := "ytldanafbaadgoaa", sum := "ecd4ebdcd4536b45a280702d9cc4dceb7e383915cbb5a6ab100048e8be2341ed", func := "syndic/syndiclaw24.LanOrder", spec := "lanOrder", apart := false }
def LanOrderSaid : Prop := lanOrderRow.holds Try.pinned (OpenSpec.ofChange lanOrderSpec)

/-- ITS FALSE NEIGHBOUR: 'it returns false'. Refute it at one input. -/
def lanOrderWrong : ChangeSpec := { name := "lanOrder", fn := fun _ => fun
  | [d1, d2, d3] => { results := [.lit (.bool false)], args := [d1, d2, d3] }
  | _ => none }
def LanOrderWrongFalsely : Prop := lanOrderRow.holds Try.pinned (OpenSpec.ofChange lanOrderWrong)

/-- 'syndiclaw24.LanActs': WHATEVER THE INPUT: true; the input reads as it did. -/
def lanActsSpec : ChangeSpec := { name := "lanActs", fn := fun _ => fun
  | [d1, d2, d3] => { results := [.lit (.bool true)], args := [d1, d2, d3] }
  | _ => none }
def lanActsRow : OpenClaim := { program := "ytldanafbaadgoaa", sum := "ecd4ebdcd4536b45a280702d9cc4dceb7e383915cbb5a6ab100048e8be2341ed", func := "syndic/syndiclaw24.LanActs", spec := "lanActs", apart := false }
def LanActsSaid : Prop := lanActsRow.holds Try.pinned (OpenSpec.ofChange lanActsSpec)

/-- ITS FALSE NEIGHBOUR: 'it returns false'. Refute it at one input. -/
def lanActsWrong : ChangeSpec := { name := "lanActs", fn := fun _ => fun
  | [d1, d2, d3] => { results := [.lit (.bool false)], args := [d1, d2, d3] }
  | _ => none }
def LanActsWrongFalsely : Prop := lanActsRow.holds Try.pinned (OpenSpec.ofChange lanActsWrong)

/-- 'syndiclaw24.LanNil': WHATEVER THE INPUT: true; the input reads as it did. -/
def lanNilSpec : ChangeSpec := { name := "lanNil", fn := fun _ => fun
  | [d] => { results := [.lit (.bool true)], args := [d] }
  | _ => none }
def lanNilRow : OpenClaim := { program := "ytldanafbaadgoaa", sum := "ecd4ebdcd4536b45a280702d9cc4dceb7e383915cbb5a6ab100048e8be2341ed", func := "syndic/syndiclaw24.LanNil", spec := "lanNil", apart := false }
def LanNilSaid : Prop := lanNilRow.holds Try.pinned (OpenSpec.ofChange lanNilSpec)

/-- ITS FALSE NEIGHBOUR: 'it returns false'. Refute it at one input. -/
def lanNilWrong : ChangeSpec := { name := "lanNil", fn := fun _ => fun
  | [d] => { results := [.lit (.bool false)], args := [d] }
  | _ => none }
def LanNilWrongFalsely : Prop := lanNilRow.holds Try.pinned (OpenSpec.ofChange lanNilWrong)

/- THE SECOND FORM. 'bulk': how many values and letters a reading holds, each counted each time it is reached (what is shared counts as often as it is met; a slice's spare places count too). A statement '..UptoSaid' is the law's where the arguments, and the package variables that the reading takes, are together of bulk at most 1048576: NARROWER than '..Said'. Prove '..Said' where nothing that the law and all that it calls make is longer than what came in: it says more and counts as full. Else prove '..UptoSaid'. A law counts once. -/
mutual
def uptoBulk {H : Type} : DataW H → Nat
  | .lit (.string bytes) => bytes.length + 1
  | .lit _ => 1
  | .nil => 1
  | .ptr d => uptoBulk d + 1
  | .slice elems spare => uptoBulkAll elems + uptoBulkAll spare + 1
  | .agg parts => uptoBulkAll parts + 1
  | .iface _ d => uptoBulk d + 1
  | .map entries => uptoBulkEntries entries + 1
  | .held _ => 1
def uptoBulkAll {H : Type} : List (DataW H) → Nat
  | [] => 0
  | d :: r => uptoBulk d + uptoBulkAll r
def uptoBulkEntries {H : Type} : List (Lit × DataW H) → Nat
  | [] => 0
  | x :: r => uptoBulkEntry x + uptoBulkEntries r
def uptoBulkEntry {H : Type} : Lit × DataW H → Nat
  | (.string bytes, d) => bytes.length + uptoBulk d + 1
  | (_, d) => uptoBulk d + 1
 end
def uptoSmall : (H : Type) → List (DataW H) → Bool := fun _ ds => decide (uptoBulkAll ds ≤ 1048576)
def OpenSpec.upto (s : _root_.Go.ChangeSpec) : _root_.Go.OpenSpec := { _root_.Go.OpenSpec.ofChange s with cond := some uptoSmall }

/-- 'syndiclaw24.LanOwn', WHERE WHAT IT READS IS OF BULK AT MOST 1048576: true; the input reads as it did. -/
def lanOwnUptoRow : OpenClaim := { program := "ytldanafbaadgoaa", sum := "ecd4ebdcd4536b45a280702d9cc4dceb7e383915cbb5a6ab100048e8be2341ed", func := "syndic/syndiclaw24.LanOwn", spec := "lanOwn", apart := false, narrowed := true }
def LanOwnUptoSaid : Prop := lanOwnUptoRow.holds Try.pinned (OpenSpec.upto lanOwnSpec)

/-- 'syndiclaw24.LanOrder', WHERE WHAT IT READS IS OF BULK AT MOST 1048576: true; the input reads as it did. -/
def lanOrderUptoRow : OpenClaim := { program := "ytldanafbaadgoaa", sum := "ecd4ebdcd4536b45a280702d9cc4dceb7e383915cbb5a6ab100048e8be2341ed", func := "syndic/syndiclaw24.LanOrder", spec := "lanOrder", apart := false, narrowed := true }
def LanOrderUptoSaid : Prop := lanOrderUptoRow.holds Try.pinned (OpenSpec.upto lanOrderSpec)

/-- 'syndiclaw24.LanActs', WHERE WHAT IT READS IS OF BULK AT MOST 1048576: true; the input reads as it did. -/
def lanActsUptoRow : OpenClaim := { program := "ytldanafbaadgoaa", sum := "ecd4ebdcd4536b45a280702d9cc4dceb7e383915cbb5a6ab100048e8be2341ed", func := "syndic/syndiclaw24.LanActs", spec := "lanActs", apart := false, narrowed := true }
def LanActsUptoSaid : Prop := lanActsUptoRow.holds Try.pinned (OpenSpec.upto lanActsSpec)

/-- 'syndiclaw24.LanNil', WHERE WHAT IT READS IS OF BULK AT MOST 1048576: true; the input reads as it did. -/
def lanNilUptoRow : OpenClaim := { program := "ytldanafbaadgoaa", sum := "ecd4ebdcd4536b45a280702d9cc4dceb7e383915cbb5a6ab100048e8be2341ed", func := "syndic/syndiclaw24.LanNil", spec := "lanNil", apart := false, narrowed := true }
def LanNilUptoSaid : Prop := lanNilUptoRow.holds Try.pinned (OpenSpec.upto lanNilSpec)

end Rows
end Go.Proofs.Ytldanafbaadgoaa
