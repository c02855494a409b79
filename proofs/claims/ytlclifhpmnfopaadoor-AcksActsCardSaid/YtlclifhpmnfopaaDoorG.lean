/-
  What the listed variable acks.table gives the walks: its cells in block 0.
-/
import Derived.Test.YtlclifhpmnfopaaDoorC
import Derived.Test.YtlclifhpmnfopaaDoorData
namespace Go.Proofs.YtlclifhpmnfopaaDoor
open Go.RowKit

/-- the table lies in variable 0 -/
def tableL : List (Int × Int × Int) := [(0, 0, 0), (1, 0, 1), (1, 0, 0), (2, 2, 2), (2, 2, 2)]
def tableArr : Array Value := (tableL.flatMap fun r => [.int .i64 r.1, .int .i64 r.2.1, .int .i64 r.2.2]).toArray
def HasTable (w : World) : Prop := ∃ t f, w.heap[0]? = some (.cells tableArr t f)
theorem HasTable.below {B : Nat} {w w' : World} (h : HasTable w) (hb : Below B w w') (hB : 0 < B) : HasTable w' := by
  obtain ⟨t, f, hg⟩ := h
  exact ⟨t, f, (hb.block 0 hB).trans hg⟩

theorem gTable : Tryd.prog.globalNamed "syndic/acks.table" = some 0 := by kernel_rfl
theorem tTable : (Tryd.prog.globals[0]?).map (·.type) = some 50 := by kernel_rfl
theorem fTable : flatOf Tryd.prog 8 50 = some (List.replicate 15 (some .i64)) := by kernel_rfl
theorem leavesTable : leaves (Rows.laid_syndic_acks_table (H := Unit)) = tableArr.toList := by kernel_rfl

theorem table_of_laid {W : World} (h : laidMet Tryd.prog [("syndic/acks.table", Rows.laid_syndic_acks_table)] W) : HasTable W := by
  obtain ⟨ps, ⟨g', t', cs, fuel, p, q, hg', ht', hvar, hd, _, _⟩, _⟩ := h
  obtain rfl := Option.some.inj (gTable.symm.trans hg')
  obtain rfl := Option.some.inj (tTable.symm.trans ht')
  obtain ⟨_, _, h3⟩ := flat_read 8 fuel 50 _ _ _ fTable hd
  have hcs : cs = tableArr := Array.toList_inj.1 (h3.symm.trans leavesTable)
  unfold World.var? at hvar
  rw [gTable] at hvar
  simp only [Option.bind_some] at hvar
  split at hvar
  · rename_i cs' t f hh
    simp only [Option.some.injEq] at hvar
    exact ⟨t, f, by rw [hh, hvar, hcs]⟩
  · cases hvar

theorem HasTable.pos {W : World} (h : HasTable W) : 0 < W.heap.size := by
  obtain ⟨t, f, hg⟩ := h
  exact (Array.getElem?_eq_some_iff.1 hg).1
end Go.Proofs.YtlclifhpmnfopaaDoor
