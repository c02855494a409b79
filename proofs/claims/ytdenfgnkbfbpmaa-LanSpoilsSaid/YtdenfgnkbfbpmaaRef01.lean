/-
  The reference's numbers as bytes.
-/
import Derived.Test.YtdenfgnkbfbpmaaOps
import Derived.Test.YtdenfgnkbfbpmaaRead
namespace Go.Proofs.Ytdenfgnkbfbpmaa
open Go.RowKit
set_option linter.unusedSimpArgs false
set_option linter.unusedVariables false

set_option maxRecDepth 100000 in
set_option maxHeartbeats 800000 in
theorem wide01_any (w : Nat) (W : World) (hw : 1 ≤ w ∧ w ≤ 4) :
    Calls Try.prog 85 #[i6 w] W (fun r w' => r = .returned (.int .i64 w) ∧ Below W.heap.size W w') := by
  have hS := S.start W
  refine calls_walk Try.func85 rfl fun R_ hR_ a hz hd hargs => ?_
  replace hz : a.tmps.size = 8 := hz.trans (by kernel_rfl)
  have s0 := hargs 0 _ rfl
  clear hargs
  refine wp_seq ?_
  refine seq_l [] hz ?_
  refine ⟨i6 0, fun _ h_ => rk (run_assign rfl rfl), ?_⟩
  intro a2 hput
  replace s0 := hput.o 0 s0
  have s2 : sl a2 2 = i6 0 := hput.new 0 2 rfl
  replace hz := hput.size.trans hz
  replace hd := hput.defers.trans hd
  clear hput
  change Code.wp _ _ _ _ _
  refine wp_seq ?_
  refine wp_seq ?_
  refine seq_l [] hz ?_
  refine ⟨i6 w, fun _ h_ => rmv (h_.b 0 s0),
   .bool (decide ((w : Int) < 1)), fun _ h_ => rk (run_cmp rfl (h_.d 0 3) rfl rfl (by first | rfl | exact neq_dec _ _ | exact eq_dec _ _ | simp)), ?_⟩
  intro a3 hput
  replace s0 := hput.o 0 s0
  replace s2 := hput.o 2 s2
  have s4 : sl a3 4 = .bool (decide ((w : Int) < 1)) := hput.new 1 4 rfl
  replace hz := hput.size.trans hz
  replace hd := hput.defers.trans hd
  clear hput
  change Code.wp _ _ _ _ _
  refine wp_cond_d s4 (fun hc4 => ?_) (fun hc4 => ?_)
  · clear s4
    exfalso
    omega
  · clear s4
    refine wp_skip ?_
    change Code.wp _ _ _ _ _
    refine wp_seq ?_
    refine wp_seq ?_
    refine seq_l [] hz ?_
    refine ⟨i6 w, fun _ h_ => rmv (h_.b 0 s0),
     .bool (decide ((4 : Int) < w)), fun _ h_ => rk (run_cmp rfl (h_.d 0 5) rfl rfl (by first | rfl | exact neq_dec _ _ | exact eq_dec _ _ | simp)), ?_⟩
    intro a4 hput
    replace s0 := hput.o 0 s0
    replace s2 := hput.o 2 s2
    have s6 : sl a4 6 = .bool (decide ((4 : Int) < w)) := hput.new 1 6 rfl
    replace hz := hput.size.trans hz
    replace hd := hput.defers.trans hd
    clear hput
    change Code.wp _ _ _ _ _
    refine wp_cond_d s6 (fun hc6 => ?_) (fun hc6 => ?_)
    · clear s6
      exfalso
      omega
    · clear s6
      refine wp_skip ?_
      change Code.wp _ _ _ _ _
      refine wp_seq ?_
      refine seq_l [] hz ?_
      refine ⟨i6 w, fun _ h_ => rmv (h_.b 0 s0),
       i6 w, fun _ h_ => ras (h_.d 0 7), ?_⟩
      intro a5 hput
      replace s2 : sl a5 2 = i6 w := hput.new 1 2 rfl
      replace hz := hput.size.trans hz
      replace hd := hput.defers.trans hd
      clear hput s0
      change Code.wp _ _ _ _ _
      refine wp_ret ?_
      refine ret1 (P := Try.prog) (fn := Try.f85) hd s2 (hR_ _ _ ?_)
      exact ⟨rfl, (hS.old (by simp))⟩
theorem u8s_setA (l : List Int) (i : Nat) (z : Int) : (u8s l).toArray.setIfInBounds i (.int .u8 z) = (u8s (l.set i z)).toArray := by simp [u8s, List.map_set]
theorem div_next (u : Int) (j : Nat) : u / 256 ^ j / 256 = u / 256 ^ (j + 1) := by
  rw [Int.pow_succ, Int.ediv_ediv_of_nonneg (Int.pow_nonneg (by omega))]
theorem byte_at (n : Int) (j : Nat) (hj : j ≤ 3) : n % 18446744073709551616 / 256 ^ j % 256 = n / 2 ^ (8 * j) % 256 := by
  rcases (by omega : j = 0 ∨ j = 1 ∨ j = 2 ∨ j = 3) with rfl | rfl | rfl | rfl
  · show n % 18446744073709551616 / 1 % 256 = n / 1 % 256; omega
  · show n % 18446744073709551616 / 256 % 256 = n / 256 % 256; omega
  · show n % 18446744073709551616 / 65536 % 256 = n / 65536 % 256; omega
  · show n % 18446744073709551616 / 16777216 % 256 = n / 16777216 % 256; omega
theorem u_nonneg (n : Int) (j : Nat) (hj : j ≤ 4) : 0 ≤ n % 18446744073709551616 / 256 ^ j ∧ n % 18446744073709551616 / 256 ^ j < 18446744073709551616 := by
  rcases (by omega : j = 0 ∨ j = 1 ∨ j = 2 ∨ j = 3 ∨ j = 4) with rfl | rfl | rfl | rfl | rfl
  · show 0 ≤ n % 18446744073709551616 / 1 ∧ n % 18446744073709551616 / 1 < 18446744073709551616; omega
  · show 0 ≤ n % 18446744073709551616 / 256 ∧ n % 18446744073709551616 / 256 < 18446744073709551616; omega
  · show 0 ≤ n % 18446744073709551616 / 65536 ∧ n % 18446744073709551616 / 65536 < 18446744073709551616; omega
  · show 0 ≤ n % 18446744073709551616 / 16777216 ∧ n % 18446744073709551616 / 16777216 < 18446744073709551616; omega
  · show 0 ≤ n % 18446744073709551616 / 4294967296 ∧ n % 18446744073709551616 / 4294967296 < 18446744073709551616; omega
theorem bytes_step (n : Int) (w j : Nat) (bs : List Int) (hj : j < w) (h : bs = List.replicate (w - j) 0 ++ numB j n) : bs.set (w - 1 - j) (n / 2 ^ (8 * j) % 256) = List.replicate (w - (j + 1)) 0 ++ numB (j + 1) n := by
  subst h
  obtain ⟨m, hm⟩ : ∃ m, w - j = m + 1 := ⟨w - j - 1, by omega⟩
  rw [hm, show w - 1 - j = m by omega, show w - (j + 1) = m by omega, numB, List.replicate_succ', List.append_assoc, List.set_append_right _ _ (by simp)]
  simp
set_option maxRecDepth 100000 in
set_option maxHeartbeats 800000 in
theorem bytes01_any (n : Int) (w : Nat) (W : World) (hw : 1 ≤ w ∧ w ≤ 4) :
    Calls Try.prog 60 #[i6 n, i6 w] W (fun r w' => ∃ A c, r = .returned (.slice A w c) ∧ w'.ownsRow W.heap.size 5 1 (.slice A w c) w (u8s (numB w n)) ∧ Below W.heap.size W w') := by
  have hS := S.start W
  refine calls_walk Try.func60 rfl fun R_ hR_ a hz hd hargs => ?_
  replace hz : a.tmps.size = 29 := hz.trans (by kernel_rfl)
  have s0 := hargs 0 _ rfl
  have s1 := hargs 1 _ rfl
  clear hargs
  refine wp_seq ?_
  refine seq_l [] hz ?_
  refine ⟨.slice none 0 0, fun _ h_ => rk (run_assign rfl rfl), ?_⟩
  intro a2 hput
  replace s0 := hput.o 0 s0
  replace s1 := hput.o 1 s1
  have s4 : sl a2 4 = .slice none 0 0 := hput.new 0 4 rfl
  replace hz := hput.size.trans hz
  replace hd := hput.defers.trans hd
  clear hput
  change Code.wp _ _ _ _ _
  refine wp_seq ?_
  refine seq_l [1] hz ?_
  refine ⟨i6 w, fun _ h_ => rmv (h_.b 1 s1), ?_⟩
  refine ⟨fun a_ h_ => st_call (on_none rfl) (run_call rfl (map1 (h_.d 0 8)) rfl) (wide01_any w _ hw) ?_, trivial⟩
  rintro e w4 ⟨rfl, hb4⟩
  refine ⟨_, rfl, _, rfl, ?_⟩
  clear h_ a_
  have hS4 := hS.below hb4
  clear hS hb4
  refine ⟨i6 w, fun _ h_ => ras (h_.d 1 9), ?_⟩
  intro a3 hput
  replace s0 := hput.o 0 s0
  replace s1 : sl a3 1 = i6 w := hput.new 2 1 rfl
  replace s4 := hput.o 4 s4
  replace hz := hput.size.trans hz
  replace hd := hput.defers.trans hd
  clear hput
  change Code.wp _ _ _ _ _
  refine wp_seq ?_
  refine seq_l [1] hz ?_
  refine ⟨i6 w, fun _ h_ => rmv (h_.b 1 s1), ?_⟩
  refine ⟨fun a_ h_ => st_make (by_ := 1) (e := 5) (z := .int .u8 0) hS4 (on_none rfl) rfl (h_.d 0 10) (h_.d 0 10) (by omega) fun g6 w6 hS6 hb6 => ⟨_, rfl, ?_⟩, trivial⟩
  clear h_ a_ hS4
  clear hb6
  refine ⟨.slice (some ⟨g6, 0, none⟩) w w, fun _ h_ => ras (h_.d 1 11), ?_⟩
  intro a5 hput
  replace s0 := hput.o 0 s0
  replace s1 := hput.o 1 s1
  replace s4 := hput.o 4 s4
  have s5 : sl a5 5 = .slice (some ⟨g6, 0, none⟩) w w := hput.new 2 5 rfl
  replace hz := hput.size.trans hz
  replace hd := hput.defers.trans hd
  clear hput
  change Code.wp _ _ _ _ _
  refine wp_seq ?_
  refine seq_l [] hz ?_
  refine ⟨i6 n, fun _ h_ => rmv (h_.b 0 s0),
   .int .u64 (n % 18446744073709551616), fun _ h_ => rk (run_convW rfl (h_.d 0 12) (by kernel_rfl) (wrap_u64 n) (by kernel_rfl)),
   .int .u64 (n % 18446744073709551616), fun _ h_ => ras (h_.d 1 13), ?_⟩
  intro a7 hput
  replace s1 := hput.o 1 s1
  replace s4 := hput.o 4 s4
  replace s5 := hput.o 5 s5
  have s6 : sl a7 6 = .int .u64 (n % 18446744073709551616) := hput.new 2 6 rfl
  replace hz := hput.size.trans hz
  replace hd := hput.defers.trans hd
  clear hput s0
  change Code.wp _ _ _ _ _
  refine wp_seq ?_
  refine wp_seq ?_
  refine seq_l [] hz ?_
  refine ⟨i6 w, fun _ h_ => rmv (h_.b 1 s1),
   i6 (w - 1), fun _ h_ => rk (run_subI rfl (h_.d 0 14) rfl (by omega) rfl),
   i6 (w - 1), fun _ h_ => ras (h_.d 1 15), ?_⟩
  intro a8 hput
  replace s4 := hput.o 4 s4
  replace s5 := hput.o 5 s5
  replace s6 := hput.o 6 s6
  have s7 : sl a8 7 = i6 (w - 1) := hput.new 2 7 rfl
  replace hz := hput.size.trans hz
  replace hd := hput.defers.trans hd
  clear hput s1
  change Code.wp _ _ _ _ _
  refine wp_block ?_
  refine wp_loop (fun a_ w_ => ∃ j : Nat, ∃ bs : List Int, (j ≤ w) ∧ (bs = List.replicate (w - j) 0 ++ numB j n) ∧ a_.tmps.size = 29 ∧ a_.defers = [] ∧ sl a_ 4 = .slice none 0 0 ∧ sl a_ 5 = .slice (some ⟨g6, 0, none⟩) w w ∧ sl a_ 6 = .int .u64 (n % 18446744073709551616 / 256 ^ j) ∧ sl a_ 7 = i6 ((w : Int) - 1 - j) ∧ S (kap W) ((blkA g6 5 ((u8s bs).toArray)) :: []) ((memA W W.heap.size) :: []) w_) (fun a_ _ => (intOf (sl a_ 7) + 1).toNat) ?_ ?_
  · rw [show Array.replicate w (Value.int .u8 0) = (u8s (List.replicate w 0)).toArray by simp [u8s]] at hS6
    replace s6 : sl a8 6 = .int .u64 (n % 18446744073709551616 / 256 ^ 0) := s6.trans (by simp)
    replace s7 : sl a8 7 = i6 ((w : Int) - 1 - ((0 : Nat) : Int)) := s7.trans (by simp)
    exact ⟨0, List.replicate w 0, Nat.zero_le _, by simp [numB], hz, hd, s4, s5, s6, s7, hS6⟩
  · clear hz hd s4 s5 s6 s7 hS6
    rintro a9 w9 ⟨j, bs, hc0_0, hc0_1, hz, hd, s4, s5, s6, s7, hS9⟩
    have hmu0 := s7
    refine wp_seq ?_
    refine wp_seq ?_
    refine seq_l [] hz ?_
    refine ⟨i6 ((w : Int) - 1 - j), fun _ h_ => rmv (h_.b 7 s7),
     .bool (decide ((0 : Int) ≤ (w : Int) - 1 - j)), fun _ h_ => rk (run_cmp rfl (h_.d 0 16) rfl rfl (by first | rfl | exact neq_dec _ _ | exact eq_dec _ _ | simp)), ?_⟩
    intro a10 hput
    replace s4 := hput.o 4 s4
    replace s5 := hput.o 5 s5
    replace s6 := hput.o 6 s6
    replace s7 := hput.o 7 s7
    have s16 : sl a10 16 = i6 ((w : Int) - 1 - j) := hput.new 0 16 rfl
    have s17 : sl a10 17 = .bool (decide ((0 : Int) ≤ (w : Int) - 1 - j)) := hput.new 1 17 rfl
    replace hz := hput.size.trans hz
    replace hd := hput.defers.trans hd
    clear hput
    change Code.wp _ _ _ _ _
    refine wp_cond_d s17 (fun hc17 => ?_) (fun hc17 => ?_)
    · clear s17
      refine wp_skip ?_
      change Code.wp _ _ _ _ _
      refine wp_seq ?_
      refine wp_block ?_
      refine wp_seq ?_
      refine seq_l [6] hz ?_
      refine ⟨.slice (some ⟨g6, 0, none⟩) w w, fun _ h_ => rmv (h_.b 5 s5),
       i6 ((w : Int) - 1 - j), fun _ h_ => rmv (h_.b 7 s7),
       .int .u64 (n % 18446744073709551616 / 256 ^ j), fun _ h_ => rmv (h_.b 6 s6),
       .int .u64 (n % 18446744073709551616 / 256 ^ j % 256), fun _ h_ => rk (run_bin rfl (h_.d 2 22) rfl (by show (pure _ : Sem Value) = pure _; exact congrArg _ (congrArg _ (Int.tmod_eq_emod_of_nonneg (u_nonneg n j (by omega)).1)))),
       .int .u8 (n / 2 ^ (8 * j) % 256), fun _ h_ => rk (run_convW rfl (h_.d 3 23) (by kernel_rfl) (by rw [wrap_u8 (by omega), byte_at n j (by omega)]) (by kernel_rfl)),
       pt g6 (w - 1 - j), fun _ h_ => rk (run_indexS (size := 1) rfl (h_.d 0 20) (h_.d 1 21) (by kernel_rfl) (by omega) (by omega)), ?_⟩
      refine ⟨fun a_ h_ => st_set1 (k := w - 1 - j) (u := .int .u8 (n / 2 ^ (8 * j) % 256)) 0 hS9 rfl (on_none rfl) rfl (h_.d 5 25) (h_.d 4 24) rfl (by kernel_rfl) (by simp [u8s, hc0_1, numB_length]; omega) rfl fun w12 hS12 _ => ⟨_, rfl, ?_⟩, trivial⟩
      clear h_ a_ hS9
      rw [u8s_setA] at hS12
      replace hS12 : S (kap W) ((blkA g6 5 ((u8s (bs.set (w - 1 - j) (n / 2 ^ (8 * j) % 256))).toArray)) :: []) ((memA W W.heap.size) :: []) w12 := hS12
      intro a11 hput
      replace s4 := hput.o 4 s4
      replace s5 := hput.o 5 s5
      replace s6 := hput.o 6 s6
      replace s7 := hput.o 7 s7
      replace s16 := hput.o 16 s16
      have s20 : sl a11 20 = .slice (some ⟨g6, 0, none⟩) w w := hput.new 0 20 rfl
      have s21 : sl a11 21 = i6 ((w : Int) - 1 - j) := hput.new 1 21 rfl
      have s22 : sl a11 22 = .int .u64 (n % 18446744073709551616 / 256 ^ j) := hput.new 2 22 rfl
      have s23 : sl a11 23 = .int .u64 (n % 18446744073709551616 / 256 ^ j % 256) := hput.new 3 23 rfl
      have s24 : sl a11 24 = .int .u8 (n / 2 ^ (8 * j) % 256) := hput.new 4 24 rfl
      have s25 : sl a11 25 = pt g6 (w - 1 - j) := hput.new 5 25 rfl
      replace hz := hput.size.trans hz
      replace hd := hput.defers.trans hd
      clear hput
      change Code.wp _ _ _ _ _
      refine seq_l [] hz ?_
      refine ⟨.int .u64 (n % 18446744073709551616 / 256 ^ j), fun _ h_ => rmv (h_.b 6 s6),
       .int .u64 (n % 18446744073709551616 / 256 ^ (j + 1)), fun _ h_ => rk (run_bin rfl (h_.d 0 26) rfl (by show (pure _ : Sem Value) = pure _; rw [Int.tdiv_eq_ediv_of_nonneg (u_nonneg n j (by omega)).1, div_next]; exact congrArg _ (congrArg _ (by rw [wrap_u64]; exact Int.emod_eq_of_lt (u_nonneg n (j + 1) (by omega)).1 (u_nonneg n (j + 1) (by omega)).2)))),
       .int .u64 (n % 18446744073709551616 / 256 ^ (j + 1)), fun _ h_ => ras (h_.d 1 27), ?_⟩
      intro a13 hput
      replace s4 := hput.o 4 s4
      replace s5 := hput.o 5 s5
      replace s6 : sl a13 6 = .int .u64 (n % 18446744073709551616 / 256 ^ (j + 1)) := hput.new 2 6 rfl
      replace s7 := hput.o 7 s7
      replace s16 := hput.o 16 s16
      replace s20 := hput.o 20 s20
      replace s21 := hput.o 21 s21
      replace s22 := hput.o 22 s22
      replace s23 := hput.o 23 s23
      replace s24 := hput.o 24 s24
      replace s25 := hput.o 25 s25
      have s26 : sl a13 26 = .int .u64 (n % 18446744073709551616 / 256 ^ j) := hput.new 0 26 rfl
      have s27 : sl a13 27 = .int .u64 (n % 18446744073709551616 / 256 ^ (j + 1)) := hput.new 1 27 rfl
      replace hz := hput.size.trans hz
      replace hd := hput.defers.trans hd
      clear hput
      change Code.wp _ _ _ _ _
      refine seq_l [] hz ?_
      refine ⟨i6 ((w : Int) - 1 - j), fun _ h_ => rmv (h_.b 7 s7),
       i6 ((w : Int) - 1 - j - 1), fun _ h_ => rk (run_subI rfl (h_.d 0 18) rfl (by omega) rfl),
       i6 ((w : Int) - 1 - j - 1), fun _ h_ => ras (h_.d 1 19), ?_⟩
      intro a14 hput
      replace s4 := hput.o 4 s4
      replace s5 := hput.o 5 s5
      replace s6 := hput.o 6 s6
      replace s7 : sl a14 7 = i6 ((w : Int) - 1 - j - 1) := hput.new 2 7 rfl
      replace s16 := hput.o 16 s16
      have s18 : sl a14 18 = i6 ((w : Int) - 1 - j) := hput.new 0 18 rfl
      have s19 : sl a14 19 = i6 ((w : Int) - 1 - j - 1) := hput.new 1 19 rfl
      replace s20 := hput.o 20 s20
      replace s21 := hput.o 21 s21
      replace s22 := hput.o 22 s22
      replace s23 := hput.o 23 s23
      replace s24 := hput.o 24 s24
      replace s25 := hput.o 25 s25
      replace s26 := hput.o 26 s26
      replace s27 := hput.o 27 s27
      replace hz := hput.size.trans hz
      replace hd := hput.defers.trans hd
      clear hput
      rw [show (w : Int) - 1 - j - 1 = w - 1 - ((j + 1 : Nat) : Int) by omega] at s7
      refine ⟨⟨j + 1, _, by omega, bytes_step n w j bs (by omega) hc0_1, hz, hd, s4, s5, s6, s7, hS12⟩, ?_⟩
      show (intOf (sl a14 7) + 1).toNat < (intOf (sl a9 7) + 1).toNat
      rw [show sl a14 7 = _ from s7, show sl a9 7 = _ from hmu0]
      simp only [intOf]
      omega
    · clear s17
      refine wp_exit ?_
      change Code.wp _ _ _ _ _
      refine wp_seq ?_
      refine seq_l [] hz ?_
      refine ⟨.slice (some ⟨g6, 0, none⟩) w w, fun _ h_ => rmv (h_.b 5 s5),
       .slice (some ⟨g6, 0, none⟩) w w, fun _ h_ => ras (h_.d 0 28), ?_⟩
      intro a15 hput
      replace s4 : sl a15 4 = .slice (some ⟨g6, 0, none⟩) w w := hput.new 1 4 rfl
      replace hz := hput.size.trans hz
      replace hd := hput.defers.trans hd
      clear hput s5 s6 s7 s16
      change Code.wp _ _ _ _ _
      refine wp_ret ?_
      refine ret1 (P := Try.prog) (fn := Try.f60) hd s4 (hR_ _ _ ?_)
      obtain rfl : j = w := by omega
      simp only [Nat.sub_self, List.replicate_zero, List.nil_append] at hc0_1
      subst hc0_1
      exact ⟨_, _, rfl, blk_row (hS9.blk (i := 0) rfl) (hS9.base (i := 0) rfl (by simp : memA W W.heap.size ∈ _)) (by simp [u8s, numB_length]) (by omega), (hS9.old (by simp))⟩
theorem num_small (bs : List Int) (k : Nat) (hk : k ≤ 4) (hby : ∀ z ∈ bs, 0 ≤ z ∧ z < 256) : 0 ≤ numOf (bs.take k) ∧ numOf (bs.take k) < 4294967296 := by
  have h := numOf_lt (bs.take k) (fun z hz => hby z (List.mem_of_mem_take hz))
  have hl : (bs.take k).length ≤ 4 := by simp; omega
  generalize (bs.take k).length = m at h hl
  rcases (by omega : m = 0 ∨ m = 1 ∨ m = 2 ∨ m = 3 ∨ m = 4) with rfl | rfl | rfl | rfl | rfl <;> (simp at h; omega)
theorem u8s_of {w : World} {B n : Nat} {A : Option Addr} {bs : List Int} (h : Reads w B 1 A n (u8s bs)) : bs.length = n := by have := h.1; simpa [u8s] using this
set_option maxRecDepth 100000 in
set_option maxHeartbeats 800000 in
theorem number01_any (A : Option Addr) (n c : Nat) (bs : List Int) (W : World) (hn : n ≤ 4) (hr : Reads W W.heap.size 1 A n (u8s bs)) (hby : ∀ z ∈ bs, 0 ≤ z ∧ z < 256) :
    Calls Try.prog 27 #[.slice A n c] W (fun r w' => r = .returned (.int .i64 (numOf bs)) ∧ Below W.heap.size W w') := by
  have hS := S.start W
  refine calls_walk Try.func27 rfl fun R_ hR_ a hz hd hargs => ?_
  replace hz : a.tmps.size = 20 := hz.trans (by kernel_rfl)
  have s0 := hargs 0 _ rfl
  clear hargs
  refine wp_seq ?_
  refine seq_l [] hz ?_
  refine ⟨i6 0, fun _ h_ => rk (run_assign rfl rfl), ?_⟩
  intro a2 hput
  replace s0 := hput.o 0 s0
  have s2 : sl a2 2 = i6 0 := hput.new 0 2 rfl
  replace hz := hput.size.trans hz
  replace hd := hput.defers.trans hd
  clear hput
  change Code.wp _ _ _ _ _
  refine wp_seq ?_
  refine seq_l [] hz ?_
  refine ⟨i6 0, fun _ h_ => rk (run_assign rfl rfl), ?_⟩
  intro a3 hput
  replace s0 := hput.o 0 s0
  replace s2 := hput.o 2 s2
  have s3 : sl a3 3 = i6 0 := hput.new 0 3 rfl
  replace hz := hput.size.trans hz
  replace hd := hput.defers.trans hd
  clear hput
  change Code.wp _ _ _ _ _
  refine wp_seq ?_
  refine wp_seq ?_
  refine seq_l [] hz ?_
  refine ⟨i6 0, fun _ h_ => rk (run_assign rfl rfl), ?_⟩
  intro a4 hput
  replace s0 := hput.o 0 s0
  replace s2 := hput.o 2 s2
  replace s3 := hput.o 3 s3
  have s4 : sl a4 4 = i6 0 := hput.new 0 4 rfl
  replace hz := hput.size.trans hz
  replace hd := hput.defers.trans hd
  clear hput
  change Code.wp _ _ _ _ _
  refine wp_block ?_
  refine wp_loop (fun a_ w_ => ∃ k : Nat, (k ≤ n) ∧ a_.tmps.size = 20 ∧ a_.defers = [] ∧ sl a_ 0 = .slice A n c ∧ sl a_ 2 = i6 0 ∧ sl a_ 3 = i6 (numOf (bs.take k)) ∧ sl a_ 4 = i6 k ∧ S (kap W) ([]) ((memA W W.heap.size) :: []) w_) (fun a_ _ => n - (intOf (sl a_ 4)).toNat) ?_ ?_
  · exact ⟨0, Nat.zero_le _, hz, hd, s0, s2, s3, s4, hS⟩
  · clear hz hd s0 s2 s3 s4 hS
    rintro a5 w5 ⟨k, hc0_0, hz, hd, s0, s2, s3, s4, hS5⟩
    have hmu0 := s4
    refine wp_seq ?_
    refine wp_seq ?_
    refine seq_l [] hz ?_
    refine ⟨i6 k, fun _ h_ => rmv (h_.b 4 s4),
     .slice A n c, fun _ h_ => rmv (h_.b 0 s0),
     i6 n, fun _ h_ => rk (run_lenS rfl (h_.d 1 6) (by kernel_rfl)),
     .bool (decide ((k : Int) < n)), fun _ h_ => rk (run_cmp rfl (h_.d 0 5) (h_.d 2 7) rfl (by first | rfl | exact neq_dec _ _ | exact eq_dec _ _ | simp)), ?_⟩
    intro a6 hput
    replace s0 := hput.o 0 s0
    replace s2 := hput.o 2 s2
    replace s3 := hput.o 3 s3
    replace s4 := hput.o 4 s4
    have s5 : sl a6 5 = i6 k := hput.new 0 5 rfl
    have s6 : sl a6 6 = .slice A n c := hput.new 1 6 rfl
    have s7 : sl a6 7 = i6 n := hput.new 2 7 rfl
    have s8 : sl a6 8 = .bool (decide ((k : Int) < n)) := hput.new 3 8 rfl
    replace hz := hput.size.trans hz
    replace hd := hput.defers.trans hd
    clear hput
    change Code.wp _ _ _ _ _
    refine wp_cond_d s8 (fun hc8 => ?_) (fun hc8 => ?_)
    · clear s8
      refine wp_skip ?_
      change Code.wp _ _ _ _ _
      refine wp_seq ?_
      refine wp_block ?_
      have hns := num_small bs k (by have := hc0_0; omega) hby
      refine seq_l [] hz ?_
      refine ⟨i6 (numOf (bs.take k)), fun _ h_ => rmv (h_.b 3 s3),
       i6 (256 * (numOf (bs.take k))), fun _ h_ => rk (run_mulI rfl rfl (h_.d 0 11) (by have := num_small bs k (by have := hc0_0; omega) hby; omega) rfl),
       .slice A n c, fun _ h_ => rmv (h_.b 0 s0),
       i6 k, fun _ h_ => rmv (h_.b 4 s4), ?_⟩
      obtain ⟨b8, o8, z8, hA8, hb8, hz8, hq8⟩ := Reads.byte_at (k := k) ((hr.below (hS5.old (by simp))).more (hS5.old (by simp)).size) (by omega)
      have hzb := hby _ (List.mem_of_getElem? hz8)
      refine ⟨pt b8 (o8 + k), fun _ h_ => rk (run_indexV (size := 1) rfl (h_.d 2 13) hA8 (h_.d 3 14) (by kernel_rfl) (by omega) (by simp)),
       .int .u8 z8, fun _ h_ => rk (run_load rfl (h_.d 4 15) (by kernel_rfl) (show w5.cell? ⟨b8, o8 + k, none⟩ = some (.int .u8 z8) from hq8)),
       i6 z8, fun _ h_ => rk (run_conv rfl (h_.d 5 16) (by kernel_rfl) (wrap_i64 (by omega)) (by kernel_rfl)),
       i6 (256 * (numOf (bs.take k)) + z8), fun _ h_ => rk (run_addI rfl (h_.d 1 12) (h_.d 6 17) (by omega) rfl),
       i6 (256 * (numOf (bs.take k)) + z8), fun _ h_ => ras (h_.d 7 18), ?_⟩
      intro a7 hput
      replace s0 := hput.o 0 s0
      replace s2 := hput.o 2 s2
      replace s3 : sl a7 3 = i6 (256 * (numOf (bs.take k)) + z8) := hput.new 8 3 rfl
      replace s4 := hput.o 4 s4
      replace s5 := hput.o 5 s5
      replace s6 := hput.o 6 s6
      replace s7 := hput.o 7 s7
      have s11 : sl a7 11 = i6 (numOf (bs.take k)) := hput.new 0 11 rfl
      have s12 : sl a7 12 = i6 (256 * (numOf (bs.take k))) := hput.new 1 12 rfl
      have s13 : sl a7 13 = .slice A n c := hput.new 2 13 rfl
      have s14 : sl a7 14 = i6 k := hput.new 3 14 rfl
      have s15 : sl a7 15 = pt b8 (o8 + k) := hput.new 4 15 rfl
      have s16 : sl a7 16 = .int .u8 z8 := hput.new 5 16 rfl
      have s17 : sl a7 17 = i6 z8 := hput.new 6 17 rfl
      have s18 : sl a7 18 = i6 (256 * (numOf (bs.take k)) + z8) := hput.new 7 18 rfl
      replace hz := hput.size.trans hz
      replace hd := hput.defers.trans hd
      clear hput
      change Code.wp _ _ _ _ _
      refine seq_l [] hz ?_
      refine ⟨i6 k, fun _ h_ => rmv (h_.b 4 s4),
       i6 (k + 1), fun _ h_ => rk (run_addI rfl (h_.d 0 9) rfl (by omega) rfl),
       i6 (k + 1), fun _ h_ => ras (h_.d 1 10), ?_⟩
      intro a9 hput
      replace s0 := hput.o 0 s0
      replace s2 := hput.o 2 s2
      replace s3 := hput.o 3 s3
      replace s4 : sl a9 4 = i6 (k + 1) := hput.new 2 4 rfl
      replace s5 := hput.o 5 s5
      replace s6 := hput.o 6 s6
      replace s7 := hput.o 7 s7
      have s9 : sl a9 9 = i6 k := hput.new 0 9 rfl
      have s10 : sl a9 10 = i6 (k + 1) := hput.new 1 10 rfl
      replace s11 := hput.o 11 s11
      replace s12 := hput.o 12 s12
      replace s13 := hput.o 13 s13
      replace s14 := hput.o 14 s14
      replace s15 := hput.o 15 s15
      replace s16 := hput.o 16 s16
      replace s17 := hput.o 17 s17
      replace s18 := hput.o 18 s18
      replace hz := hput.size.trans hz
      replace hd := hput.defers.trans hd
      clear hput
      replace s3 : sl a9 3 = i6 (numOf (bs.take (k + 1))) := s3.trans (congrArg _ (by rw [take_snoc bs k _ hz8, numOf_snoc]; omega))
      refine ⟨⟨k + 1, by omega, hz, hd, s0, s2, s3, s4, hS5⟩, ?_⟩
      show n - (intOf (sl a9 4)).toNat < n - (intOf (sl a5 4)).toNat
      rw [show sl a9 4 = _ from s4, show sl a5 4 = _ from hmu0]
      simp only [intOf]
      omega
    · clear s8
      refine wp_exit ?_
      change Code.wp _ _ _ _ _
      refine wp_seq ?_
      refine seq_l [] hz ?_
      refine ⟨i6 (numOf (bs.take k)), fun _ h_ => rmv (h_.b 3 s3),
       i6 (numOf (bs.take k)), fun _ h_ => ras (h_.d 0 19), ?_⟩
      intro a10 hput
      replace s2 : sl a10 2 = i6 (numOf (bs.take k)) := hput.new 1 2 rfl
      replace hz := hput.size.trans hz
      replace hd := hput.defers.trans hd
      clear hput s0 s3 s4 s5 s6 s7
      change Code.wp _ _ _ _ _
      refine wp_ret ?_
      refine ret1 (P := Try.prog) (fn := Try.f27) hd s2 (hR_ _ _ ?_)
      exact ⟨by rw [List.take_of_length_le (by have := u8s_of hr; omega)], (hS5.old (by simp))⟩
end Go.Proofs.Ytdenfgnkbfbpmaa
