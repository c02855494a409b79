/-
  The program's keys: timers, moves, networks' neighbors, descriptions' keys, listed keys.
-/
import Derived.Test.YtdenfgnkbfbpmaaMapA
namespace Go.Proofs.Ytdenfgnkbfbpmaa
open Go.RowKit
set_option linter.unusedVariables false
set_option linter.unusedSimpArgs false

/-- a description's key -/
structure KeyV where
  kind : Int
  id : Int
  adv : Int
deriving DecidableEq
def KeyV.cells (k : KeyV) : List Value := [.int .i64 k.kind, .int .i64 k.id, .int .i64 k.adv]
/-- a timer -/
structure TmV where
  kind : Int
  lan : Int
  id : Int
  k : KeyV
deriving DecidableEq
def TmV.cells (t : TmV) : List Value := [.int .i64 t.kind, .int .i64 t.lan, .int .i64 t.id, .int .i64 t.k.kind, .int .i64 t.k.id, .int .i64 t.k.adv]
def tmE (t : TmV) : Value := .agg t.cells.toArray
def moE (m : Int × Int) : Value := .agg #[.int .i64 m.1, .int .i64 m.2]
set_option maxRecDepth 20000 in
theorem tm_eq (x y : TmV) (w : World) : (Op.equal 214 (tmE x) (tmE y)).run Try.prog w = .ok (decide (x = y)) w := by
  obtain ⟨a1, a2, a3, a4, a5, a6⟩ := x
  obtain ⟨b1, b2, b3, b4, b5, b6⟩ := y
  dsimp only [tmE, TmV.cells]
  unfold Op.equal Op.maxDepth
  go_simp

  repeat' split
  all_goals simp_all
theorem tm_key : KeyK Try.prog 214 tmE := KeyK.ofStruct Try.underlying214 tm_eq (fun e x w => by
  obtain ⟨a1, a2, a3, a4, a5, a6⟩ := x
  kernel_rfl) (fun x => by
  obtain ⟨a1, a2, a3, a4, a5, a6⟩ := x
  simp [Instr.sameBits, tmE, TmV.cells])
end Go.Proofs.Ytdenfgnkbfbpmaa
