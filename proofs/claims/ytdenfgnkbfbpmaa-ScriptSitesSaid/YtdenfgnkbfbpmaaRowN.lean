/-
  A whole element stored into a row.
-/
import Derived.Test.YtdenfgnkbfbpmaaOps
namespace Go.Proofs.Ytdenfgnkbfbpmaa
set_option linter.unusedSimpArgs false
set_option linter.unusedVariables false

theorem layL_size (l : List Value) (m : Nat) (v : List Value) (h : m + v.length ≤ l.length) : (layL l m v).length = l.length := by
  unfold layL
  simp only [List.length_append, List.length_take, List.length_drop]
  omega
theorem layL_cut (l : List Value) (m q : Nat) (v : List Value) (h : m + v.length ≤ q) (hq : q ≤ l.length) : (layL l m v).take q = layL (l.take q) m v := by
  unfold layL
  rw [List.append_assoc, List.append_assoc, List.take_append, List.take_append, List.length_take, Nat.min_eq_left (show m ≤ l.length by omega), List.take_take, Nat.min_eq_right (show m ≤ q by omega), List.take_take, Nat.min_eq_left (show m ≤ q by omega), List.take_of_length_le (show v.length ≤ q - m by omega), List.drop_take, show q - m - v.length = q - (m + v.length) by omega]
section
variable {P : Program} {ops : Array Oper} {o : Oper} {a : Act} {w : World} {κ : Kap} {L I : List Atom} {K : Act → World → Prop} {Q : Exit → Act → World → Prop} {E : Prop}
theorem st_rowsetN {x y : Operand} {A : Option Addr} {t g k n c e s m : Nat} {xs : List Value} {u : Value} {cells : Array Value} (i : Nat) (hS : S κ L I w) (hA : A = some ⟨g, 0, none⟩) (hi : L[i]? = some (rowA (.slice A n c) e s n xs)) (hw : Region.wanted o (yielded ops a.tmps) = true) (ho : o.op = .store t x y) (hx : a.eval x = .pointer (some ⟨g, m, none⟩)) (hm : k * s = m) (hy : a.eval y = u) (hv : u.cells = cells)
    (hsz : (P.info? t).map (·.size) = some s) (hk : k < n) (hc : cells.size = s ∧ cells.all (·.oneCell') = true)
    (h : ∀ w', S κ (L.set i (rowA (.slice A n c) e s n (layL xs m cells.toList))) I w' → K (a.put o.dst undef) w') : if Region.wanted o (yielded ops a.tmps) = true then o.wp P a w K Q else E := by
  subst hA
  obtain ⟨hlen, hr2⟩ := hS.row hi
  rcases hr2 with ⟨h', _⟩ | ⟨g', cap', cur, h', hb, hg, hnc, hcm, hcs, htake⟩
  · cases h'
  · cases h'
    have h1 : m + s ≤ n * s := by
      have := Nat.mul_le_mul_right s (show k + 1 ≤ n by omega)
      rw [Nat.add_mul, Nat.one_mul] at this; omega
    have h2 : n * s ≤ cur.size := by rw [hcs]; exact Nat.mul_le_mul_right s hnc
    have hcl : cells.toList.length = s := by simpa using hc.1
    refine step_skip hw (run_store (g := g) (k := m) (n := s) (T := e) (cs := cur) (cells := cells) (cs' := (layL cur.toList m cells.toList).toArray) ho hx hy hv hg hsz ⟨by omega, hc.1, hc.2⟩ rfl) (h _ (S.back ?_ hi))
    obtain ⟨f, ⟨hf, hb'⟩, hT⟩ := (hS.front hi).turn
    refine hT (rowA (.slice (some ⟨g, 0, none⟩) n c) e s n (layL xs m cells.toList)) _ [g] ⟨rfl, ?_, .inr ⟨g, c, (layL cur.toList m cells.toList).toArray, rfl, Nat.zero_le _, setRow_heap w g cur _ e (0, 0) hg, hnc, hcm, ?_, ?_⟩⟩ (kap_setRow _ _ _) (by rw [setRow_size]; exact Nat.le_refl _) (fun b hb => .inl (by rw [hf]; exact hb)) (fun b hlt hn => ?_)
    · rw [layL_size _ _ _ (by rw [hlen, hcl]; omega), hlen]
    · rw [List.size_toArray, layL_size _ _ _ (by rw [hcl]; simp; omega)]; simpa using hcs
    · rw [← htake]
      exact layL_cut _ _ _ _ (by rw [hcl]; exact h1) (by simpa using h2)
    · exact setRow_other w g b _ (fun e => hn (by rw [hf, e]; simp [Value.ownBlock]))
end
end Go.Proofs.Ytdenfgnkbfbpmaa
