/-
  One byte that changes: the sum of words is not whole any more.
-/
import Derived.Test.YtdenfgnkbfbpmaaRef02
namespace Go.Proofs.Ytdenfgnkbfbpmaa
set_option linter.unusedSimpArgs false
set_option linter.unusedVariables false

theorem wsum_set : ∀ (l : List Int) (j : Nat) (x y : Int), l[j]? = some x → l.length % 2 = 0 → wsum (l.set j y) = wsum l + (if j % 2 = 0 then 256 * (y - x) else y - x)
  | [], j, x, y, h, _ => by simp at h
  | [a], j, x, y, _, h => by simp at h
  | a :: b :: l, 0, x, y, h, _ => by
    simp at h; subst h
    simp only [List.set_cons_zero, wsum]; simp; omega
  | a :: b :: l, 1, x, y, h, _ => by
    simp at h; subst h
    simp only [List.set_cons_succ, List.set_cons_zero, wsum]; simp; omega
  | a :: b :: l, j + 2, x, y, h, he => by
    have ih := wsum_set l j x y (by simpa using h) (by simp at he; omega)
    simp only [List.set_cons_succ, wsum, ih]
    by_cases hj : j % 2 = 0
    · rw [if_pos hj, if_pos (by omega)]; omega
    · rw [if_neg hj, if_neg (by omega)]; omega
theorem spoilt_bad (l : List Int) (j : Nat) (x d : Int) (h : l[j]? = some x) (he : l.length % 2 = 0) (hx : 0 ≤ x ∧ x < 256) (hd : 1 ≤ d ∧ d ≤ 255) (hw : wsum l % 65535 = 0) : ¬ wsum (l.set j ((x + d) % 256)) % 65535 = 0 := by
  rw [wsum_set l j x _ h he]
  split <;> omega
theorem spoilt_bys (l : List Int) (j : Nat) (v : Int) (h : Bys l) : Bys (l.set j (v % 256)) := fun z hz => by
  rcases List.mem_or_eq_of_mem_set hz with hz | rfl
  · exact h z hz
  · omega
end Go.Proofs.Ytdenfgnkbfbpmaa
