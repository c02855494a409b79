/-
  One cell of an element stored into a row.
-/
import Derived.Test.YtdenfgnkbfbpmaaRowN
namespace Go.Proofs.Ytdenfgnkbfbpmaa
open Go.RowKit
set_option linter.unusedSimpArgs false
set_option linter.unusedVariables false

section
variable {P : Program} {ops : Array Oper} {o : Oper} {a : Act} {w : World} {κ : Kap} {L I : List Atom} {K : Act → World → Prop} {Q : Exit → Act → World → Prop} {E : Prop}
theorem st_rowcell {x y : Operand} {A : Option Addr} {t g k n c e s : Nat} {xs : List Value} {u : Value} (i : Nat) (hS : S κ L I w) (hA : A = some ⟨g, 0, none⟩) (hi : L[i]? = some (rowA (.slice A n c) e s n xs)) (hw : Region.wanted o (yielded ops a.tmps) = true) (ho : o.op = .store t x y) (hx : a.eval x = .pointer (some ⟨g, k, none⟩)) (hy : a.eval y = u) (hv : u.cells = #[u])
    (hsz : (P.info? t).map (·.size) = some 1) (hk : k < n * s) (h1 : u.oneCell' = true)
    (h : ∀ w', S κ (L.set i (rowA (.slice A n c) e s n (xs.set k u))) I w' → K (a.put o.dst undef) w') : if Region.wanted o (yielded ops a.tmps) = true then o.wp P a w K Q else E := by
  subst hA
  obtain ⟨hlen, hr2⟩ := hS.row hi
  rcases hr2 with ⟨h', _⟩ | ⟨g', cap', cur, h', hb, hg, hnc, hcm, hcs, htake⟩
  · cases h'
  · cases h'
    have h2 : n * s ≤ cur.size := by rw [hcs]; exact Nat.mul_le_mul_right s hnc
    have hkc : k < cur.size := by omega
    refine step_skip hw (run_store (g := g) (k := k) (n := 1) (T := e) (cs := cur) (cells := #[u]) (cs' := cur.setIfInBounds k u) ho hx hy hv hg hsz ⟨by omega, rfl, by simp [h1]⟩ (layL_one cur k u hkc)) (h _ (S.back ?_ hi))
    obtain ⟨f, ⟨hf, hb'⟩, hT⟩ := (hS.front hi).turn
    refine hT (rowA (.slice (some ⟨g, 0, none⟩) n c) e s n (xs.set k u)) _ [g] ⟨rfl, by simpa using hlen, .inr ⟨g, c, cur.setIfInBounds k u, rfl, Nat.zero_le _, setRow_heap w g cur _ e (0, 0) hg, hnc, hcm, by simpa using hcs, by rw [Array.toList_setIfInBounds, ← htake, List.take_set]⟩⟩ (kap_setRow _ _ _) (by rw [setRow_size]; exact Nat.le_refl _) (fun b hb => .inl (by rw [hf]; exact hb)) (fun b hlt hn => ?_)
    exact setRow_other w g b _ (fun e => hn (by rw [hf, e]; simp [Value.ownBlock]))
end
theorem S.litRow {κ : Kap} {L I : List Atom} {w : World} {g t size n : Nat} {cs : Array Value} (h : S κ (blkA g t cs :: L) I w) (hs : cs.size = n * size) (hn : n ≤ 9223372036854775807) : S κ (rowA (.slice (some ⟨g, 0, none⟩) n n) t size n cs.toList :: L) I w :=
  h.imp fun w f ⟨h1, h2⟩ => ⟨by rw [h1]; rfl, blk_row h2 (Nat.zero_le _) hs hn⟩
/-- a row of elements of which one turns a cell -/
theorem rowC_setcell {α : Type} {cells : α → List Value} {s : Nat} (hc : ∀ a, (cells a).length = s) {l : List α} {i f : Nat} {z z' : α} {u : Value} (hz : l[i]? = some z) (hf : f < s) (h : (cells z).set f u = cells z') : (rowC cells l).set (i * s + f) u = rowC cells (l.set i z') := by
  induction l generalizing i with
  | nil => simp at hz
  | cons x l ih =>
    cases i with
    | zero =>
      simp only [List.getElem?_cons_zero, Option.some.injEq] at hz; subst hz
      simp only [rowC, List.flatMap_cons, List.set_cons_zero, Nat.zero_mul, Nat.zero_add]
      rw [List.set_append_left _ _ (by rw [hc]; exact hf), h]
    | succ i =>
      have := ih (i := i) (by simpa using hz)
      simp only [rowC, List.flatMap_cons, List.set_cons_succ] at this ⊢
      rw [List.set_append_right _ _ (by rw [hc, Nat.add_mul]; omega), hc, show (i + 1) * s + f - s = i * s + f by rw [Nat.add_mul]; omega, this]
end Go.Proofs.Ytdenfgnkbfbpmaa
