/-
  A struct laid into the middle of a block.
-/
import Derived.Test.YtmklebkldailnaaSeal
import Derived.Laws.CopyRow
namespace Go.Proofs.Ytmklebkldailnaa
open Go.RowKit

theorem run_storeVar_at {P : Program} (w : World) (g o : Nat) (t ty : TypeId) (old cells : Array Value) (n : Nat) (hg : Blk w g t old) (hi : (P.info? ty).map (·.size) = some n)
    (hs : o + n ≤ old.size ∧ cells.size = n ∧ cells.all (·.oneCell') = true) :
    (storeVar ty ⟨g, o, none⟩ (.agg cells)).run P w = .ok () (w.setRow g (layL old.toList o cells.toList).toArray) := by
  have := run_storeCells_at (P := P) g o t cells.toList 0 old w hg (by simp; omega) (fun v hv => (Array.all_eq_true_iff_forall_mem.1 hs.2.2) v (by simpa using hv))
  cases hq : P.info? ty with
  | none => simp [hq] at hi
  | some i =>
    have hsz : cells.size = i.size := by simp [hq] at hi; omega
    simp only [Nat.add_zero] at this
    simp [storeVar, sizeOf, typeInfo, hq, Value.cells, hsz, this, layL]

/-- a struct laid into the middle of a block -/
theorem wpList_store_part {P : Program} {ops : Array Oper} {rest : List Oper} {o : Oper} {a : Act} {w : World} {Q : Exit → Act → World → Prop} (hgd : o.guard = none) (ty : TypeId) (x y : Operand) (ho : o.op = .store ty x y)
    (g k : Nat) (cells : Array Value) (n : Nat) (hx : a.eval x = .pointer (some ⟨g, k, none⟩)) (hy : a.eval y = .agg cells)
    (t : TypeId) (old : Array Value) (hg : Blk w g t old) (hi : (P.info? ty).map (·.size) = some n)
    (hs : k + n ≤ old.size ∧ cells.size = n ∧ cells.all (·.oneCell') = true)
    (h : wpList P ops Q rest (a.put o.dst undef) (w.setRow g (layL old.toList k cells.toList).toArray)) : wpList P ops Q (o :: rest) a w := by
  refine wpList_plain hgd fun _ hK => ?_
  unfold Oper.wp execOp
  simp only [ho, hx, hy, Instr.storeAt, Instr.sureAddr, Sem.run_bind, Sem.run_pure, Result.andThen_ok, run_storeVar_at w g k t ty old cells n hg hi hs]
  exact hK _ _ h
end Go.Proofs.Ytmklebkldailnaa
