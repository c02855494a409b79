/-
  slices.Equal of links and of numbers; the reference's Ints.
-/
import Derived.Test.YtmklebkldailnaaLsa
import Derived.BigQuiet
import Derived.WalkMore
namespace Go.Proofs.Ytmklebkldailnaa
open Go.RowKit

theorem same_at {α : Type} {l l' : List α} {k : Nat} {x y : α} (hx : l[k]? = some x) (hy : l'[k]? = some y) (h : x ≠ y) : l ≠ l' := fun e => h (Option.some.inj (hx.symm.trans (e ▸ hy)))
theorem neq_link (x y : Lk) (w : World) : (binOp .neq 69 (.agg x.arr) (.agg y.arr)).run Try.prog w = .ok (.bool (decide (x ≠ y))) w := by
  obtain ⟨a1, a2, a3, a4⟩ := x
  obtain ⟨b1, b2, b3, b4⟩ := y
  go_simp
  repeat' split
  all_goals simp_all
theorem ints_of_reads {w : World} {B n : Nat} {A : Option Addr} {zs : List Int} (h : Reads w B 1 A n (ints zs)) : zs.length = n := by have := h.1; simpa [ints] using this
theorem rows_of_reads {w : World} {B n : Nat} {A : Option Addr} {l : List Lk} (h : Reads w B 4 A n (rowC Lk.cells l)) : l.length = n := by have := h.1; rw [rowC_length Lk.cells 4 Lk.cells_len] at this; omega

set_option maxHeartbeats 4000000 in
theorem equalL_any (A : Option Addr) (n c : Nat) (l : List Lk) (A' : Option Addr) (n' c' : Nat) (l' : List Lk) (w : World) (hn : n ≤ 100000) (hn' : n' ≤ 100000) (hr : Reads w w.heap.size 4 A n (rowC Lk.cells l)) (hr' : Reads w w.heap.size 4 A' n' (rowC Lk.cells l')) :
    Calls Try.prog 36 #[.slice A n c, .slice A' n' c'] w fun r w' => r = .returned (.bool (decide (l = l'))) ∧ Below w.heap.size w w' := by
  have H1 := hide (rows_of_reads hr)
  have H2 := hide (rows_of_reads hr')
  have hne := neq_link
  go_enter Try.func36, Try.ntmps36
  by_cases hnn : n = n'
  · subst hnn
    go_wp2_with fail
    go_loopw [13] (fun i wr => ∃ k : Nat, ∃ d : Nat, k ≤ n ∧ i = .int .i64 k ∧ wr = w.drewN d ∧ Hid (l.take k = l'.take k)) (fun i _ => n - (intOf i).toNat)
    case atStart => exact ⟨0, 0, Nat.zero_le _, rfl, rfl, rfl⟩
    case round =>
      obtain ⟨k, d, hk, rfl, rfl, hst⟩ := hrel
      by_cases hlt : k < n
      · obtain ⟨b, off, x, rfl, hbb, hx, hat⟩ := hr.row_at Lk.cells 4 Lk.cells_len (by omega) hlt
        obtain ⟨b', off', y, rfl, hbb', hy, hat'⟩ := hr'.row_at Lk.cells 4 Lk.cells_len (by omega) hlt
        have d0 : w.cell? ⟨b, off + k * 4, none⟩ = some (.int .i64 x.kind) := hat 0 _ rfl
        have d1 : w.cell? ⟨b, off + k * 4 + 1, none⟩ = some (.int .i64 x.id) := hat 1 _ rfl
        have d2 : w.cell? ⟨b, off + k * 4 + 2, none⟩ = some (.int .i64 x.data) := hat 2 _ rfl
        have d3 : w.cell? ⟨b, off + k * 4 + 3, none⟩ = some (.int .i64 x.cost) := hat 3 _ rfl
        have e0 : w.cell? ⟨b', off' + k * 4, none⟩ = some (.int .i64 y.kind) := hat' 0 _ rfl
        have e1 : w.cell? ⟨b', off' + k * 4 + 1, none⟩ = some (.int .i64 y.id) := hat' 1 _ rfl
        have e2 : w.cell? ⟨b', off' + k * 4 + 2, none⟩ = some (.int .i64 y.data) := hat' 2 _ rfl
        have e3 : w.cell? ⟨b', off' + k * 4 + 3, none⟩ = some (.int .i64 y.cost) := hat' 3 _ rfl
        have HX := hide hx
        have HY := hide hy
        clear hat hat' hx hy
        by_cases hxy : x = y
        · subst hxy
          have HN := hide (show l.take (k + 1) = l'.take (k + 1) by rw [take_snoc _ _ _ HX.out, take_snoc _ _ _ HY.out, hst.out])
          have hne1 := fun w => (hne x x w).trans (by simp : _ = Result.ok (.bool false) w)
          clear hne
          go_wp2_with fail
          go_quiet (fail)
          go_wp2
          go_roundw
          case rel => exact ⟨k + 1, d + nq, by omega, by go_num, rfl, HN.out⟩
          case measure => simp [intOf]; omega
        · have HN := hide (show decide (l = l') = false from decide_eq_false (same_at HX.out HY.out hxy))
          have hne1 := fun w => (hne x y w).trans (by simp [hxy] : _ = Result.ok (.bool true) w)
          clear hne hxy
          go_wp2_with fail
          go_quiet (fail)
          go_wp2
          go_ret
          exact ⟨ret_bool HN.out.symm, below_drewN (below_drewN (Below.refl _ _) _) _⟩
      · have HN := hide (show decide (l = l') = true from decide_eq_true (by
          have := hst.out
          rwa [List.take_of_length_le (by rw [H1.out]; omega), List.take_of_length_le (by rw [H2.out]; omega)] at this))
        go_wp2
        go_ret
        exact ⟨ret_bool HN.out.symm, below_drewN (Below.refl _ _) _⟩
  · have HN := hide (show decide (l = l') = false from decide_eq_false (fun e => hnn (by rw [← H1.out, ← H2.out, e])))
    have hnn1 : ((n : Int) == (n' : Int)) = false := by rw [beq_eq_false_iff_ne]; omega
    have hnn2 : ((n : Int) != (n' : Int)) = true := by rw [bne_iff_ne]; omega
    clear hnn
    go_wp2
    go_ret
    exact ⟨ret_bool HN.out.symm, Below.refl _ _⟩

set_option maxHeartbeats 4000000 in
theorem equalI_any (A : Option Addr) (n c : Nat) (l : List Int) (A' : Option Addr) (n' c' : Nat) (l' : List Int) (w : World) (hn : n ≤ 100000) (hn' : n' ≤ 100000) (hr : Reads w w.heap.size 1 A n (ints l)) (hr' : Reads w w.heap.size 1 A' n' (ints l')) :
    Calls Try.prog 37 #[.slice A n c, .slice A' n' c'] w fun r w' => r = .returned (.bool (decide (l = l'))) ∧ Below w.heap.size w w' := by
  have H1 := hide (ints_of_reads hr)
  have H2 := hide (ints_of_reads hr')
  go_enter Try.func37, Try.ntmps37
  by_cases hnn : n = n'
  · subst hnn
    go_wp2_with fail
    go_loopw [13] (fun i wr => ∃ k : Nat, ∃ d : Nat, k ≤ n ∧ i = .int .i64 k ∧ wr = w.drewN d ∧ Hid (l.take k = l'.take k)) (fun i _ => n - (intOf i).toNat)
    case atStart => exact ⟨0, 0, Nat.zero_le _, rfl, rfl, rfl⟩
    case round =>
      obtain ⟨k, d, hk, rfl, rfl, hst⟩ := hrel
      by_cases hlt : k < n
      · obtain ⟨b, off, x, rfl, hbb, hx, hat⟩ := hr.int_at hlt
        obtain ⟨b', off', y, rfl, hbb', hy, hat'⟩ := hr'.int_at hlt
        have HX := hide hx
        have HY := hide hy
        clear hx hy
        by_cases hxy : x = y
        · subst hxy
          have HN := hide (show l.take (k + 1) = l'.take (k + 1) by rw [take_snoc _ _ _ HX.out, take_snoc _ _ _ HY.out, hst.out])
          go_wp2_with fail
          go_quiet (fail)
          go_wp2
          go_roundw
          case rel => exact ⟨k + 1, d + nq, by omega, by go_num, rfl, HN.out⟩
          case measure => simp [intOf]; omega
        · have HN := hide (show decide (l = l') = false from decide_eq_false (same_at HX.out HY.out hxy))
          have hxy1 : (x == y) = false := by simpa using hxy
          have hxy2 : (x != y) = true := by simpa using hxy
          clear hxy
          go_wp2_with fail
          go_quiet (fail)
          go_wp2
          go_ret
          exact ⟨ret_bool HN.out.symm, below_drewN (below_drewN (Below.refl _ _) _) _⟩
      · have HN := hide (show decide (l = l') = true from decide_eq_true (by
          have := hst.out
          rwa [List.take_of_length_le (by rw [H1.out]; omega), List.take_of_length_le (by rw [H2.out]; omega)] at this))
        go_wp2
        go_ret
        exact ⟨ret_bool HN.out.symm, below_drewN (Below.refl _ _) _⟩
  · have HN := hide (show decide (l = l') = false from decide_eq_false (fun e => hnn (by rw [← H1.out, ← H2.out, e])))
    have hnn1 : ((n : Int) == (n' : Int)) = false := by rw [beq_eq_false_iff_ne]; omega
    have hnn2 : ((n : Int) != (n' : Int)) = true := by rw [bne_iff_ne]; omega
    clear hnn
    go_wp2
    go_ret
    exact ⟨ret_bool HN.out.symm, Below.refl _ _⟩

set_option maxHeartbeats 4000000 in
theorem refInts_any (A : Option Addr) (n c : Nat) (l : List Int) (A' : Option Addr) (n' c' : Nat) (l' : List Int) (w : World) (hn : n ≤ 100000) (hn' : n' ≤ 100000) (hr : Reads w w.heap.size 1 A n (ints l)) (hr' : Reads w w.heap.size 1 A' n' (ints l')) :
    Calls Try.prog 40 #[.slice A n c, .slice A' n' c'] w fun r w' => r = .returned (.bool (decide (l = l'))) ∧ Below w.heap.size w w' := by
  have H1 := hide (ints_of_reads hr)
  have H2 := hide (ints_of_reads hr')
  go_enter Try.func40, Try.ntmps40
  by_cases hnn : n = n'
  · subst hnn
    go_wp2_with fail
    go_loopw [5] (fun i wr => ∃ k : Nat, ∃ d : Nat, k ≤ n ∧ i = .int .i64 k ∧ wr = w.drewN d ∧ Hid (l.take k = l'.take k)) (fun i _ => n - (intOf i).toNat)
    case atStart => exact ⟨0, 0, Nat.zero_le _, rfl, rfl, rfl⟩
    case round =>
      obtain ⟨k, d, hk, rfl, rfl, hst⟩ := hrel
      by_cases hlt : k < n
      · obtain ⟨b, off, x, rfl, hbb, hx, hat⟩ := hr.int_at hlt
        obtain ⟨b', off', y, rfl, hbb', hy, hat'⟩ := hr'.int_at hlt
        have HX := hide hx
        have HY := hide hy
        clear hx hy
        by_cases hxy : x = y
        · subst hxy
          have HN := hide (show l.take (k + 1) = l'.take (k + 1) by rw [take_snoc _ _ _ HX.out, take_snoc _ _ _ HY.out, hst.out])
          go_wp2_with fail
          go_quiet (fail)
          go_wp2
          go_roundw
          case rel => exact ⟨k + 1, d + nq, by omega, by go_num, rfl, HN.out⟩
          case measure => simp [intOf]; omega
        · have HN := hide (show decide (l = l') = false from decide_eq_false (same_at HX.out HY.out hxy))
          have hxy1 : (x == y) = false := by simpa using hxy
          have hxy2 : (x != y) = true := by simpa using hxy
          clear hxy
          go_wp2_with fail
          go_quiet (fail)
          go_wp2
          go_ret
          exact ⟨ret_bool HN.out.symm, below_drewN (below_drewN (Below.refl _ _) _) _⟩
      · have HN := hide (show decide (l = l') = true from decide_eq_true (by
          have := hst.out
          rwa [List.take_of_length_le (by rw [H1.out]; omega), List.take_of_length_le (by rw [H2.out]; omega)] at this))
        go_wp2
        go_ret
        exact ⟨ret_bool HN.out.symm, below_drewN (Below.refl _ _) _⟩
  · have HN := hide (show decide (l = l') = false from decide_eq_false (fun e => hnn (by rw [← H1.out, ← H2.out, e])))
    have hnn1 : ((n : Int) == (n' : Int)) = false := by rw [beq_eq_false_iff_ne]; omega
    have hnn2 : ((n : Int) != (n' : Int)) = true := by rw [bne_iff_ne]; omega
    clear hnn
    go_wp2
    go_ret
    exact ⟨ret_bool HN.out.symm, Below.refl _ _⟩
end Go.Proofs.Ytmklebkldailnaa
