/-
  syndicref01.Has; syndicref24.Same: two copies alike.
-/
import Derived.Test.YtldanafbaadgoaaI
namespace Go.Proofs.Ytldanafbaadgoaa
open Go.RowKit

set_option maxHeartbeats 1000000 in
theorem has_any (A : Option Addr) (n c : Nat) (zs : List Int) (x : Int) (w : World) (hn : n ≤ 9223372036854775807) (hr : Reads w w.heap.size 1 A n (ints zs)) :
    Calls Try.prog 13 #[.slice A n c, .int .i64 x] w fun r w' => r = .returned (.bool (decide (x ∈ zs))) ∧ w' = w := by
  have hl1 : zs.length = n := by have := hr.1; simpa [ints] using this
  have H1 := hide hl1
  clear hl1
  go_enter Try.func13, Try.ntmps13
  go_wp2_with fail
  go_loop [5] (fun i => ∃ k : Nat, k ≤ n ∧ i = .int .i64 k ∧ Hid (¬ x ∈ zs.take k)) (fun i => n - (intOf i).toNat)
  case atStart => exact ⟨0, Nat.zero_le _, rfl, by show ¬ _; simp⟩
  case round =>
    obtain ⟨k, hk, rfl, hst⟩ := hrel
    by_cases hlt : k < n
    · obtain ⟨b, off, z, rfl, hbb, hz, hat⟩ := hr.int_at hlt
      by_cases hzx : z = x
      · subst hzx
        have HN := hide (show decide (z ∈ zs) = true from decide_eq_true (List.mem_of_getElem? hz))
        clear hz
        go_wp2
        go_ret
        exact ⟨ret_bool HN.out.symm, rfl⟩
      · have HN := hide (show ¬ x ∈ zs.take (k + 1) by
          rw [take_snoc _ _ _ hz, List.mem_append, List.mem_singleton]
          exact fun h => h.elim hst.out (fun e => hzx e.symm))
        have b1 : (z == x) = false := by simpa using hzx
        clear hz hzx
        go_wp2
        go_round
        case rel => exact ⟨k + 1, by omega, by go_num, HN.out⟩
        case measure => simp [intOf]; omega
    · have HN := hide (show decide (x ∈ zs) = false from decide_eq_false (by
        have := hst.out
        rwa [List.take_of_length_le (by rw [H1.out]; omega)] at this))
      go_wp2
      go_ret
      exact ⟨ret_bool HN.out.symm, rfl⟩

abbrev Cp.val (c : Cp) (A : Option Addr) (k : Nat) : Value := .agg #[.int .i64 c.lan, .int .i64 c.frm, .int .i64 c.to, .slice A c.bs.length k, .int .i64 c.for_, .bool c.sp]

set_option maxHeartbeats 2000000 in
theorem refSame_any (x y : Cp) (A A' : Option Addr) (c c' : Nat) (w : World) (hn : x.bs.length ≤ 9223372036854775807) (hr : Reads w w.heap.size 1 A x.bs.length (u8s x.bs)) (hr' : Reads w w.heap.size 1 A' y.bs.length (u8s y.bs)) :
    Calls Try.prog 16 #[x.val A c, y.val A' c'] w fun r w' => r = .returned (.bool (decide (x = y))) ∧ Below w.heap.size w w' := by
  obtain ⟨lan, frm, to, bs, for_, sp⟩ := x
  obtain ⟨lan', frm', to', bs', for_', sp'⟩ := y
  dsimp only at hr hr' hn ⊢
  go_enter Try.func16, Try.ntmps16
  go_wp2_with fail
  go_region
  go_wp2_with fail
  all_goals have HB := fun (o1 o2 o3 o4 : Obj) => hide (((((((Below.refl w.heap.size w).alloc (Nat.le_refl _) o1).alloc (by simp) o2).alloc (by simp; omega) o3).alloc (by simp; omega) o4).drew))
  all_goals
    first
    | (refine (same_any A bs.length c bs A' bs'.length c' bs' _ hn ((hr.below (HB _ _ _ _).out).more (HB _ _ _ _).out.size) ((hr'.below (HB _ _ _ _).out).more (HB _ _ _ _).out.size)).mono ?_
       rintro r w1 ⟨rfl, hb1⟩
       have HB1 := hide (below0 (HB _ _ _ _).out hb1)
       clear hb1
       have HN := hide (show decide (bs = bs') = decide ((⟨lan, frm, to, bs, for_, sp⟩ : Cp) = ⟨lan', frm', to', bs', for_', sp'⟩) by simp [Cp.mk.injEq, *])
       go_wp2_with fail
       go_ret
       exact ⟨ret_bool HN.out, HB1.out⟩)
    | (go_ret
       refine ⟨?_, (HB _ _ _ _).out⟩
       apply ret_bool
       simp [Cp.mk.injEq, *])
end Go.Proofs.Ytldanafbaadgoaa
