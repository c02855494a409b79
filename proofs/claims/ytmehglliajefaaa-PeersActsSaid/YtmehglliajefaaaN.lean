/-
  syndicref01.Has, syndicref01.Ints.
-/
import Derived.Test.YtmehglliajefaaaG
namespace Go.Proofs.Ytmehglliajefaaa
open Go.RowKit

set_option maxHeartbeats 1000000 in
theorem has_any (A : Option Addr) (n c : Nat) (zs : List Int) (x : Int) (w : World) (hn : n ≤ 9223372036854775807) (hr : Reads w w.heap.size 1 A n (ints zs)) :
    Calls Try.prog 32 #[.slice A n c, .int .i64 x] w fun r w' => r = .returned (.bool (decide (x ∈ zs))) ∧ w' = w := by
  have hl1 : zs.length = n := by have := hr.1; simpa [ints] using this
  have H1 := hide hl1
  clear hl1
  go_enter Try.func32, Try.ntmps32
  go_wp2_with fail
  go_loop [5] (fun i => ∃ k : Nat, k ≤ n ∧ i = .int .i64 k ∧ Hid (¬ x ∈ zs.take k)) (fun i => n - (intOf i).toNat)
  case atStart => exact ⟨0, Nat.zero_le _, rfl, by show ¬ _; simp⟩
  case round =>
    obtain ⟨k, hk, rfl, hst⟩ := hrel
    by_cases hlt : k < n
    · obtain ⟨b, off, z, rfl, hbb, hz, hat⟩ := hr.int_at hlt
      by_cases hzx : z = x
      · subst hzx
        have HN := hide (show decide (z ∈ zs) = true from decide_eq_true (List.mem_of_getElem? hz))
        clear hz
        go_wp2
        go_ret
        exact ⟨ret_bool HN.out.symm, rfl⟩
      · have HN := hide (show ¬ x ∈ zs.take (k + 1) by
          rw [take_snoc _ _ _ hz, List.mem_append, List.mem_singleton]
          exact fun h => h.elim hst.out (fun e => hzx e.symm))
        have b1 : (z == x) = false := by simpa using hzx
        clear hz hzx
        go_wp2
        go_round
        case rel => exact ⟨k + 1, by omega, by go_num, HN.out⟩
        case measure => simp [intOf]; omega
    · have HN := hide (show decide (x ∈ zs) = false from decide_eq_false (by
        have := hst.out
        rwa [List.take_of_length_le (by rw [H1.out]; omega)] at this))
      go_wp2
      go_ret
      exact ⟨ret_bool HN.out.symm, rfl⟩

set_option maxHeartbeats 2000000 in
theorem ints_any (A : Option Addr) (n c : Nat) (xs : List Int) (A' : Option Addr) (n' c' : Nat) (ys : List Int) (w : World) (hn : n ≤ 9223372036854775807) (hr : Reads w w.heap.size 1 A n (ints xs)) (hr' : Reads w w.heap.size 1 A' n' (ints ys)) :
    Calls Try.prog 12 #[.slice A n c, .slice A' n' c'] w fun r w' => r = .returned (.bool (decide (xs = ys))) ∧ Below w.heap.size w w' := by
  have hl1 : xs.length = n := by have := hr.1; simpa [ints] using this
  have hl2 : ys.length = n' := by have := hr'.1; simpa [ints] using this
  have H1 := hide hl1
  have H2 := hide hl2
  clear hl1 hl2
  go_enter Try.func12, Try.ntmps12
  by_cases hnn : n = n'
  · subst hnn
    go_wp2_with fail
    go_loopw [5] (fun i wr => ∃ k : Nat, ∃ d : Nat, k ≤ n ∧ i = .int .i64 k ∧ wr = w.drewN d ∧ Hid (xs.take k = ys.take k)) (fun i _ => n - (intOf i).toNat)
    case atStart => exact ⟨0, 0, Nat.zero_le _, rfl, rfl, rfl⟩
    case round =>
      obtain ⟨k, d, hk, rfl, rfl, hst⟩ := hrel
      by_cases hlt : k < n
      · obtain ⟨b, off, x, rfl, hbb, hx, hat⟩ := hr.int_at hlt
        obtain ⟨b', off', y, rfl, hbb', hy, hat'⟩ := hr'.int_at hlt
        by_cases hxy : x = y
        · subst hxy
          have HN := hide (show xs.take (k + 1) = ys.take (k + 1) by rw [take_snoc _ _ _ hx, take_snoc _ _ _ hy, hst.out])
          clear hx hy
          go_wp2_with fail
          go_quiet (fail)
          go_wp2
          go_roundw
          case rel => exact ⟨k + 1, d + nq, by omega, by go_num, rfl, HN.out⟩
          case measure => simp [intOf]; omega
        · have HN := hide (show decide (xs = ys) = false from decide_eq_false (fun e => hxy (by rw [e] at hx; exact Option.some.inj (hx.symm.trans hy))))
          clear hx hy
          go_wp2_with fail
          go_quiet (fail)
          go_wp2
          go_ret
          exact ⟨ret_bool HN.out.symm, below_drewN (below_drewN (Below.refl _ _) _) _⟩
      · have HN := hide (show decide (xs = ys) = true from decide_eq_true (by
          have := hst.out
          rwa [List.take_of_length_le (by rw [H1.out]; omega), List.take_of_length_le (by rw [H2.out]; omega)] at this))
        go_wp2
        go_ret
        exact ⟨ret_bool HN.out.symm, below_drewN (Below.refl _ _) _⟩
  · have HN := hide (show decide (xs = ys) = false from decide_eq_false (fun e => hnn (by rw [← H1.out, ← H2.out, e])))
    go_wp2
    go_ret
    exact ⟨ret_bool HN.out.symm, Below.refl _ _⟩

end Go.Proofs.Ytmehglliajefaaa
