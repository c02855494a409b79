/-
  Entries: right, alike.
-/
import Derived.Test.YtgfpikelbemkiaaRound
namespace Go.Proofs.Ytgfpikelbemkiaa
open Go.RowKit

/-- an entry -/
structure EV where
  kind : Int
  a : Int
  b : Int
  c : Int
deriving DecidableEq
instance : Inhabited EV := ⟨⟨0, 0, 0, 0⟩⟩
def EV.cells (x : EV) : List Value := [.int .i64 x.kind, .int .i64 x.a, .int .i64 x.b, .int .i64 x.c]
abbrev EV.arr (x : EV) : Array Value := #[.int .i64 x.kind, .int .i64 x.a, .int .i64 x.b, .int .i64 x.c]
theorem EV.cells_len (x : EV) : x.cells.length = 4 := rfl
theorem EV.cells_one (x : EV) : ∀ u ∈ x.cells, u.oneCell' = true := by
  intro u hu
  simp [EV.cells] at hu
  rcases hu with rfl | rfl | rfl | rfl <;> rfl
def okE (x : EV) : Prop := 0 ≤ x.kind ∧ x.kind ≤ 10 ∧ 0 ≤ x.a ∧ x.a ≤ 255 ∧ 0 ≤ x.b ∧ x.b ≤ 255 ∧ 0 ≤ x.c ∧ x.c ≤ 255
instance (x : EV) : Decidable (okE x) := inferInstanceAs (Decidable (_ ∧ _))

theorem in_any (n : Int) (w : World) : Calls Try.prog 13 #[.int .i64 n] w fun r w' => r = .returned (.bool (decide (0 ≤ n ∧ n ≤ 255))) ∧ w' = w := by
  go_enter Try.func13, Try.ntmps13
  go_wp2
  all_goals go_ret
  all_goals exact ⟨ret_bool (by grind), rfl⟩

set_option maxHeartbeats 2000000 in
theorem refRight_any (x : EV) (w : World) : Calls Try.prog 10 #[.agg x.arr] w fun r w' => r = .returned (.bool (decide (okE x))) ∧ Below w.heap.size w w' := by
  obtain ⟨k, a, b, c⟩ := x
  have HB := hide (below_new w (.cells #[.int .i64 k, .int .i64 a, .int .i64 b, .int .i64 c] 27))
  go_enter Try.func10, Try.ntmps10
  go_wp2
  all_goals go_ret
  all_goals exact ⟨ret_bool (by simp only [okE]; grind), HB.out⟩
set_option maxHeartbeats 2000000 in
theorem right_any (x : EV) (w : World) : Calls Try.prog 7 #[.agg x.arr] w fun r w' => r = .returned (.bool (decide (okE x))) ∧ Below w.heap.size w w' := by
  obtain ⟨k, a, b, c⟩ := x
  have HB := hide (below_new w (.cells #[.int .i64 k, .int .i64 a, .int .i64 b, .int .i64 c] 27))
  go_enter Try.func7, Try.ntmps7
  go_wp2_with (go_at_call 13; refine (in_any _ _).mono ?_; rintro r w' ⟨rfl, rfl⟩)
  all_goals go_ret
  all_goals exact ⟨ret_bool (by simp only [okE]; grind), HB.out⟩

theorem same_at {l l' : List EV} {k : Nat} {x y : EV} (hx : l[k]? = some x) (hy : l'[k]? = some y) (h : x ≠ y) : l ≠ l' := fun e => h (Option.some.inj (hx.symm.trans (e ▸ hy)))
theorem neq_ev (x y : EV) (w : World) : (binOp .neq 27 (.agg x.arr) (.agg y.arr)).run Try.prog w = .ok (.bool (decide (x ≠ y))) w := by
  obtain ⟨a1, a2, a3, a4⟩ := x
  obtain ⟨b1, b2, b3, b4⟩ := y
  go_simp
  repeat' split
  all_goals simp_all
set_option maxHeartbeats 4000000 in
theorem same_any (A : Option Addr) (n c : Nat) (l : List EV) (A' : Option Addr) (n' c' : Nat) (l' : List EV) (w : World) (hn : n ≤ 100000) (hn' : n' ≤ 100000) (hr : Reads w w.heap.size 4 A n (rowC EV.cells l)) (hr' : Reads w w.heap.size 4 A' n' (rowC EV.cells l')) :
    Calls Try.prog 8 #[.slice A n c, .slice A' n' c'] w fun r w' => r = .returned (.bool (decide (l = l'))) ∧ Below w.heap.size w w' := by
  have hl1 : l.length = n := by have := hr.1; rw [rowC_length EV.cells 4 EV.cells_len] at this; omega
  have hl2 : l'.length = n' := by have := hr'.1; rw [rowC_length EV.cells 4 EV.cells_len] at this; omega
  have H1 := hide hl1
  have H2 := hide hl2
  clear hl1 hl2
  have hne := neq_ev
  go_enter Try.func8, Try.ntmps8
  by_cases hnn : n = n'
  · subst hnn
    go_wp2_with fail
    go_loopw [5] (fun i wr => ∃ k : Nat, ∃ d : Nat, k ≤ n ∧ i = .int .i64 k ∧ wr = w.drewN d ∧ Hid (l.take k = l'.take k)) (fun i _ => n - (intOf i).toNat)
    case atStart => exact ⟨0, 0, Nat.zero_le _, rfl, rfl, rfl⟩
    case round =>
      obtain ⟨k, d, hk, rfl, rfl, hst⟩ := hrel
      by_cases hlt : k < n
      · obtain ⟨b, off, x, rfl, hbb, hx, hat⟩ := hr.row_at EV.cells 4 EV.cells_len (by omega) hlt
        obtain ⟨b', off', y, rfl, hbb', hy, hat'⟩ := hr'.row_at EV.cells 4 EV.cells_len (by omega) hlt
        have d0 : w.cell? ⟨b, off + k * 4, none⟩ = some (.int .i64 x.kind) := hat 0 _ rfl
        have d1 : w.cell? ⟨b, off + k * 4 + 1, none⟩ = some (.int .i64 x.a) := hat 1 _ rfl
        have d2 : w.cell? ⟨b, off + k * 4 + 2, none⟩ = some (.int .i64 x.b) := hat 2 _ rfl
        have d3 : w.cell? ⟨b, off + k * 4 + 3, none⟩ = some (.int .i64 x.c) := hat 3 _ rfl
        have e0 : w.cell? ⟨b', off' + k * 4, none⟩ = some (.int .i64 y.kind) := hat' 0 _ rfl
        have e1 : w.cell? ⟨b', off' + k * 4 + 1, none⟩ = some (.int .i64 y.a) := hat' 1 _ rfl
        have e2 : w.cell? ⟨b', off' + k * 4 + 2, none⟩ = some (.int .i64 y.b) := hat' 2 _ rfl
        have e3 : w.cell? ⟨b', off' + k * 4 + 3, none⟩ = some (.int .i64 y.c) := hat' 3 _ rfl
        have HX := hide hx
        have HY := hide hy
        clear hat hat' hx hy
        by_cases hxy : x = y
        · subst hxy
          have HN := hide (show l.take (k + 1) = l'.take (k + 1) by rw [take_snoc _ _ _ HX.out, take_snoc _ _ _ HY.out, hst.out])
          have hne1 := fun w => (hne x x w).trans (by simp : _ = Result.ok (.bool false) w)
          clear hne
          go_wp2_with fail
          go_quiet (fail)
          go_wp2
          go_roundw
          case rel => exact ⟨k + 1, d + nq, by omega, by go_num, rfl, HN.out⟩
          case measure => simp [intOf]; omega
        · have HN := hide (show decide (l = l') = false from decide_eq_false (same_at HX.out HY.out hxy))
          have hne1 := fun w => (hne x y w).trans (by simp [hxy] : _ = Result.ok (.bool true) w)
          clear hne hxy
          go_wp2_with fail
          go_quiet (fail)
          go_wp2
          go_ret
          exact ⟨ret_bool HN.out.symm, below_drewN (below_drewN (Below.refl _ _) _) _⟩
      · have HN := hide (show decide (l = l') = true from decide_eq_true (by
          have := hst.out
          rwa [List.take_of_length_le (by rw [H1.out]; omega), List.take_of_length_le (by rw [H2.out]; omega)] at this))
        go_wp2
        go_ret
        exact ⟨ret_bool HN.out.symm, below_drewN (Below.refl _ _) _⟩
  · have HN := hide (show decide (l = l') = false from decide_eq_false (fun e => hnn (by rw [← H1.out, ← H2.out, e])))
    go_wp2
    go_ret
    exact ⟨ret_bool HN.out.symm, Below.refl _ _⟩
end Go.Proofs.Ytgfpikelbemkiaa
