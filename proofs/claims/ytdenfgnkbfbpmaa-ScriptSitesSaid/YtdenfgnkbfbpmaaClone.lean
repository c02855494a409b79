/-
  slices.Clone of links and of numbers.
-/
import Derived.Test.YtdenfgnkbfbpmaaLsa
import Derived.Test.YtdenfgnkbfbpmaaQuad
import Derived.Lib.SliceRun
namespace Go.Proofs.Ytdenfgnkbfbpmaa
open Go.RowKit

theorem link_info : (Try.prog.info? 117).map (fun i => (i.zero, i.size, i.bytes)) = some (some (.agg #[.int .i64 0, .int .i64 0, .int .i64 0, .int .i64 0]), 4, 32) := by kernel_rfl
theorem int_info : (Try.prog.info? 3).map (fun i => (i.zero, i.size, i.bytes)) = some (some (.int .i64 0), 1, 8) := by kernel_rfl
theorem links_one (l : List Lk) : ∀ u ∈ rowC Lk.cells l, u.oneCell' = true := fun u hu => by
  obtain ⟨x, _, h⟩ := List.mem_flatMap.1 hu
  exact Lk.cells_one x u h
theorem ints_one (l : List Int) : ∀ u ∈ ints l, u.oneCell' = true := fun u hu => by
  obtain ⟨x, _, h⟩ := List.mem_map.1 hu
  subst h
  rfl

set_option maxHeartbeats 2000000 in
theorem cloneI_any (A : Option Addr) (n c : Nat) (zs : List Int) (w : World) (hn : n ≤ 100000) (hr : Reads w w.heap.size 1 A n (ints zs)) :
    Calls Try.prog 128 #[.slice A n c] w fun r w' => ∃ A' c', r = .returned (.slice A' n c') ∧ w'.ownsRow w.heap.size 3 1 (.slice A' n c') n (ints zs) ∧ Below w.heap.size w w' := by
  have hnc : A = none → n = 0 := fun h => hr.nil_none h
  have hq : ∀ w : World, (binOp .eql 22 (.slice A n c) (.slice none 0 0)).run Try.prog w = .ok (.bool A.isNone) w := fun w => Lib.run_eql_slice_nil w 22 3 A n c 0 0 Try.underlying22
  obtain ⟨i0, hi, hz0, hz1, hz2⟩ := info_parts int_info
  have hown := World.ownsRow_made (e := 3) (size := 1) w #[] 0 (Nat.le_refl _) (Nat.zero_le _) rfl
  go_enter Try.func128, Try.ntmps128
  cases A with
  | none =>
    obtain rfl := hnc rfl
    have hbs := hide (show ints zs = [] from List.eq_nil_of_length_eq_zero (by have := hr.1; omega))
    go_wp2
    go_ret
    exact ⟨none, 0, rfl, by rw [hbs.out]; exact World.ownsRow_nil _ _ _ _, Below.refl _ _⟩
  | some A =>
    go_wp2_with (first
      | (at_builtin
         refine wpList_append_any _ rfl (.tmp 5) (.tmp 6) 22 rfl w.heap.size 3 i0 _ 1 8 Try.underlying22 hi hz0 hz1 hz2 rfl (by omega) (.slice (some ⟨w.heap.size, 0, none⟩) 0 0) 0 [] rfl
           hown w.heap.size (some A) n c (ints zs) rfl (hr.alloc (Nat.le_refl _) _) (ints_one zs) (by simp only [maxLen]; omega) (by omega) (by simp) ?_
         intro A3 c3 w3 hown3 hg3 hloc3))
    have hb3 : Below w.heap.size w w3 := ((Below.refl _ _).alloc (Nat.le_refl _) _).grown hg3 (by simp) (fun g hg => (own_base hown hg).1)
    go_wp2
    go_ret
    exact ⟨A3, c3, rfl, by simpa using hown3, hb3⟩

set_option maxHeartbeats 2000000 in
theorem cloneL_any (A : Option Addr) (n c : Nat) (zs : List Lk) (w : World) (hn : n ≤ 100000) (hr : Reads w w.heap.size 4 A n (rowC Lk.cells zs)) :
    Calls Try.prog 127 #[.slice A n c] w fun r w' => ∃ A' c', r = .returned (.slice A' n c') ∧ w'.ownsRow w.heap.size 117 4 (.slice A' n c') n (rowC Lk.cells zs) ∧ Below w.heap.size w w' := by
  have hnc : A = none → n = 0 := fun h => by
    by_cases h0 : n = 0
    · exact h0
    · obtain ⟨b, off, e, _⟩ := hr.2 (by omega)
      rw [h] at e; cases e
  have hq : ∀ w : World, (binOp .eql 35 (.slice A n c) (.slice none 0 0)).run Try.prog w = .ok (.bool A.isNone) w := fun w => Lib.run_eql_slice_nil w 35 117 A n c 0 0 Try.underlying35
  obtain ⟨i0, hi, hz0, hz1, hz2⟩ := info_parts link_info
  have hown := World.ownsRow_made (e := 117) (size := 4) w #[] 0 (Nat.le_refl _) (Nat.zero_le _) rfl
  go_enter Try.func127, Try.ntmps127
  cases A with
  | none =>
    obtain rfl := hnc rfl
    have hbs := hide (show rowC Lk.cells zs = [] from List.eq_nil_of_length_eq_zero (by have := hr.1; omega))
    go_wp2
    go_ret
    exact ⟨none, 0, rfl, by rw [hbs.out]; exact World.ownsRow_nil _ _ _ _, Below.refl _ _⟩
  | some A =>
    go_wp2_with (first
      | (at_builtin
         refine wpList_append_any _ rfl (.tmp 5) (.tmp 6) 35 rfl w.heap.size 117 i0 _ 4 32 Try.underlying35 hi hz0 hz1 hz2 rfl (by omega) (.slice (some ⟨w.heap.size, 0, none⟩) 0 0) 0 [] rfl
           hown w.heap.size (some A) n c (rowC Lk.cells zs) rfl (hr.alloc (Nat.le_refl _) _) (links_one zs) (by simp only [maxLen]; omega) (by omega) (by simp) ?_
         intro A3 c3 w3 hown3 hg3 hloc3))
    have hb3 : Below w.heap.size w w3 := ((Below.refl _ _).alloc (Nat.le_refl _) _).grown hg3 (by simp) (fun g hg => (own_base hown hg).1)
    go_wp2
    go_ret
    exact ⟨A3, c3, rfl, by simpa using hown3, hb3⟩
end Go.Proofs.Ytdenfgnkbfbpmaa
