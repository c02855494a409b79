/-
  A slice of heads, opened to its cells.
-/
import Derived.Test.YtlclifhpmnfopaaDoorA
namespace Go.Proofs.YtlclifhpmnfopaaDoor
open Go.RowKit

theorem heads_of_leaves : ∀ (n : Nat) (xs : List Value), xs.length = n * 7 → (∀ i, i < n → AllLeaf [some .i64, some .i64, some .i64, some .i64, some .i64, some .i64, some .i64] ((xs.drop (i * 7)).take 7)) → ∃ hs, xs = heads hs
  | 0, xs, h, _ => ⟨[], List.eq_nil_of_length_eq_zero (by omega)⟩
  | n + 1, xs, h, hf => by
    have h0 := hf 0 (by omega)
    simp only [Nat.zero_mul, List.drop_zero] at h0
    obtain ⟨hs, e⟩ := heads_of_leaves n (xs.drop 7) (by rw [List.length_drop]; omega) (fun i hi => by
      have := hf (i + 1) (by omega)
      rw [List.drop_drop, show 7 + i * 7 = (i + 1) * 7 by omega]
      exact this)
    obtain ⟨a0, r0, e0, _, h1⟩ := AllLeaf.int_ h0
    obtain ⟨a1, r1, rfl, _, h2⟩ := AllLeaf.int_ h1
    obtain ⟨a2, r2, rfl, _, h3⟩ := AllLeaf.int_ h2
    obtain ⟨a3, r3, rfl, _, h4⟩ := AllLeaf.int_ h3
    obtain ⟨a4, r4, rfl, _, h5⟩ := AllLeaf.int_ h4
    obtain ⟨a5, r5, rfl, _, h6⟩ := AllLeaf.int_ h5
    obtain ⟨a6, r6, rfl, _, h7⟩ := AllLeaf.int_ h6
    obtain rfl := AllLeaf.nil_ h7
    refine ⟨(a0, a1, a2, a3, a4, a5, a6) :: hs, ?_⟩
    rw [← List.take_append_drop 7 xs, e0, e]
    rfl
end Go.Proofs.YtlclifhpmnfopaaDoor
