/-
  What the listed variable near.rules gives the walks: its cells in block 0.
-/
import Derived.Test.YtdmogmoccdlgaaaDoorC
import Derived.Test.YtdmogmoccdlgaaaDoorData
namespace Go.Proofs.YtdmogmoccdlgaaaDoor
open Go.RowKit

theorem gRules : Tryd.prog.globalNamed "syndic/near.rules" = some 0 := by kernel_rfl
theorem tRules : (Tryd.prog.globals[0]?).map (·.type) = some 35 := by kernel_rfl
theorem fRules : flatOf Tryd.prog 8 35 = some (List.replicate 55 (some .i64)) := by kernel_rfl
theorem leavesRules : leaves (Rows.laid_syndic_near_rules (H := Unit)) = rulesArr.toList := by kernel_rfl

theorem rules_of_laid {W : World} (h : laidMet Tryd.prog [("syndic/near.rules", Rows.laid_syndic_near_rules)] W) : HasRules W := by
  obtain ⟨ps, ⟨g', t', cs, fuel, p, q, hg', ht', hvar, hd, _, _⟩, _⟩ := h
  obtain rfl := Option.some.inj (gRules.symm.trans hg')
  obtain rfl := Option.some.inj (tRules.symm.trans ht')
  obtain ⟨_, _, h3⟩ := flat_read 8 fuel 35 _ _ _ fRules hd
  have hcs : cs = rulesArr := Array.toList_inj.1 (h3.symm.trans leavesRules)
  unfold World.var? at hvar
  rw [gRules] at hvar
  simp only [Option.bind_some] at hvar
  split at hvar
  · rename_i cs' t f hh
    simp only [Option.some.injEq] at hvar
    exact ⟨t, f, by rw [hh, hvar, hcs]⟩
  · cases hvar

theorem ints_of_leaves : ∀ (xs : List Value) (n : Nat), xs.length = n → (∀ i, i < n → AllLeaf [some .i64] ((xs.drop i).take 1)) → ∃ zs, xs = ints zs
  | [], _, _, _ => ⟨[], rfl⟩
  | v :: r, n, hn, h => by
    simp only [List.length_cons] at hn
    obtain ⟨z, r0, e, _, h0⟩ := AllLeaf.int_ (h 0 (by omega))
    obtain ⟨zs, hz⟩ := ints_of_leaves r (n - 1) (by omega) (fun i hi => by have := h (i + 1) (by omega); simpa using this)
    simp at e
    exact ⟨z :: zs, by rw [hz, e.1]; rfl⟩

theorem HasRules.pos {W : World} (h : HasRules W) : 0 < W.heap.size := by
  obtain ⟨t, f, hg⟩ := h
  exact (Array.getElem?_eq_some_iff.1 hg).1
end Go.Proofs.YtdmogmoccdlgaaaDoor
