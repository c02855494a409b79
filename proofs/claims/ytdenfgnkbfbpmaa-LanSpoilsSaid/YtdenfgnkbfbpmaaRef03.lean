/-
  The reference's sums of bytes.
-/
import Derived.Test.YtdenfgnkbfbpmaaOps
import Derived.Test.YtdenfgnkbfbpmaaSum
import Derived.Test.YtdenfgnkbfbpmaaRef01
namespace Go.Proofs.Ytdenfgnkbfbpmaa
open Go.RowKit
set_option linter.unusedSimpArgs false
set_option linter.unusedVariables false

theorem tot_take (bs : List Int) (k : Nat) (h : ∀ z ∈ bs, 0 ≤ z ∧ z < 256) (hn : bs.length ≤ 100000) :
    (0 ≤ (tot (bs.take k)).1 ∧ (tot (bs.take k)).1 ≤ 25500000) ∧ 0 ≤ (tot (bs.take k)).2 ∧ (tot (bs.take k)).2 ≤ 2550000000000 :=
  tot_bound _ (fun z hz => h z (List.mem_of_mem_take hz)) (by rw [List.length_take]; omega)
theorem mul_small {a x : Int} (h : 0 ≤ a ∧ a ≤ 100000) (hx : 0 ≤ x ∧ x ≤ 25500000) : 0 ≤ a * x ∧ a * x ≤ 2550000000000 :=
  ⟨Int.mul_nonneg h.1 hx.1, by have := Int.mul_le_mul h.2 hx.2 hx.1 (by omega : (0 : Int) ≤ 100000); omega⟩
set_option maxRecDepth 100000 in
set_option maxHeartbeats 800000 in
theorem first03_any (A : Option Addr) (n c : Nat) (bs : List Int) (W : World) (hn : n ≤ 100000) (hr : Reads W W.heap.size 1 A n (u8s bs)) (hby : ∀ z ∈ bs, 0 ≤ z ∧ z < 256) :
    Calls Try.prog 86 #[.slice A n c] W (fun r w' => r = .returned (.int .i64 ((tot bs).1 % 255)) ∧ Below W.heap.size W w') := by
  have hbl : bs.length = n := u8s_of hr
  have hS := S.start W
  refine calls_walk Try.func86 rfl fun R_ hR_ a hz hd hargs => ?_
  replace hz : a.tmps.size = 20 := hz.trans (by kernel_rfl)
  have s0 := hargs 0 _ rfl
  clear hargs
  refine wp_seq ?_
  refine seq_l [] hz ?_
  refine ⟨i6 0, fun _ h_ => rk (run_assign rfl rfl), ?_⟩
  intro a2 hput
  replace s0 := hput.o 0 s0
  have s2 : sl a2 2 = i6 0 := hput.new 0 2 rfl
  replace hz := hput.size.trans hz
  replace hd := hput.defers.trans hd
  clear hput
  change Code.wp _ _ _ _ _
  refine wp_seq ?_
  refine seq_l [] hz ?_
  refine ⟨i6 0, fun _ h_ => rk (run_assign rfl rfl), ?_⟩
  intro a3 hput
  replace s0 := hput.o 0 s0
  replace s2 := hput.o 2 s2
  have s3 : sl a3 3 = i6 0 := hput.new 0 3 rfl
  replace hz := hput.size.trans hz
  replace hd := hput.defers.trans hd
  clear hput
  change Code.wp _ _ _ _ _
  refine wp_seq ?_
  refine wp_seq ?_
  refine seq_l [] hz ?_
  refine ⟨i6 0, fun _ h_ => rk (run_assign rfl rfl), ?_⟩
  intro a4 hput
  replace s0 := hput.o 0 s0
  replace s2 := hput.o 2 s2
  replace s3 := hput.o 3 s3
  have s4 : sl a4 4 = i6 0 := hput.new 0 4 rfl
  replace hz := hput.size.trans hz
  replace hd := hput.defers.trans hd
  clear hput
  change Code.wp _ _ _ _ _
  refine wp_block ?_
  refine wp_loop (fun a_ w_ => ∃ k : Nat, (k ≤ n) ∧ a_.tmps.size = 20 ∧ a_.defers = [] ∧ sl a_ 0 = .slice A n c ∧ sl a_ 2 = i6 0 ∧ sl a_ 3 = i6 ((tot (bs.take k)).1) ∧ sl a_ 4 = i6 k ∧ S (kap W) ([]) ((memA W W.heap.size) :: []) w_) (fun a_ _ => n - (intOf (sl a_ 4)).toNat) ?_ ?_
  · exact ⟨0, Nat.zero_le _, hz, hd, s0, s2, s3, s4, hS⟩
  · clear hz hd s0 s2 s3 s4 hS
    rintro a5 w5 ⟨k, hc0_0, hz, hd, s0, s2, s3, s4, hS5⟩
    have hmu0 := s4
    refine wp_seq ?_
    refine wp_seq ?_
    refine seq_l [] hz ?_
    refine ⟨i6 k, fun _ h_ => rmv (h_.b 4 s4),
     .slice A n c, fun _ h_ => rmv (h_.b 0 s0),
     i6 n, fun _ h_ => rk (run_lenS rfl (h_.d 1 6) (by kernel_rfl)),
     .bool (decide ((k : Int) < n)), fun _ h_ => rk (run_cmp rfl (h_.d 0 5) (h_.d 2 7) rfl (by first | rfl | exact neq_dec _ _ | exact eq_dec _ _ | simp)), ?_⟩
    intro a6 hput
    replace s0 := hput.o 0 s0
    replace s2 := hput.o 2 s2
    replace s3 := hput.o 3 s3
    replace s4 := hput.o 4 s4
    have s5 : sl a6 5 = i6 k := hput.new 0 5 rfl
    have s6 : sl a6 6 = .slice A n c := hput.new 1 6 rfl
    have s7 : sl a6 7 = i6 n := hput.new 2 7 rfl
    have s8 : sl a6 8 = .bool (decide ((k : Int) < n)) := hput.new 3 8 rfl
    replace hz := hput.size.trans hz
    replace hd := hput.defers.trans hd
    clear hput
    change Code.wp _ _ _ _ _
    refine wp_cond_d s8 (fun hc8 => ?_) (fun hc8 => ?_)
    · clear s8
      refine wp_skip ?_
      change Code.wp _ _ _ _ _
      refine wp_seq ?_
      refine wp_block ?_
      have hts := tot_take bs k hby (by omega)
      refine seq_l [] hz ?_
      refine ⟨i6 ((tot (bs.take k)).1), fun _ h_ => rmv (h_.b 3 s3),
       .slice A n c, fun _ h_ => rmv (h_.b 0 s0),
       i6 k, fun _ h_ => rmv (h_.b 4 s4), ?_⟩
      obtain ⟨b8, o8, z8, hA8, hb8, hz8, hq8⟩ := Reads.byte_at (k := k) ((hr.below (hS5.old (by simp))).more (hS5.old (by simp)).size) (by omega)
      have hzb := hby _ (List.mem_of_getElem? hz8)
      refine ⟨pt b8 (o8 + k), fun _ h_ => rk (run_indexV (size := 1) rfl (h_.d 1 12) hA8 (h_.d 2 13) (by kernel_rfl) (by omega) (by simp)),
       .int .u8 z8, fun _ h_ => rk (run_load rfl (h_.d 3 14) (by kernel_rfl) (show w5.cell? ⟨b8, o8 + k, none⟩ = some (.int .u8 z8) from hq8)),
       i6 z8, fun _ h_ => rk (run_conv rfl (h_.d 4 15) (by kernel_rfl) (wrap_i64 (by omega)) (by kernel_rfl)),
       i6 ((tot (bs.take k)).1 + z8), fun _ h_ => rk (run_addI rfl (h_.d 0 11) (h_.d 5 16) (by omega) rfl),
       i6 ((tot (bs.take k)).1 + z8), fun _ h_ => ras (h_.d 6 17), ?_⟩
      intro a7 hput
      replace s0 := hput.o 0 s0
      replace s2 := hput.o 2 s2
      replace s3 : sl a7 3 = i6 ((tot (bs.take k)).1 + z8) := hput.new 7 3 rfl
      replace s4 := hput.o 4 s4
      replace s5 := hput.o 5 s5
      replace s6 := hput.o 6 s6
      replace s7 := hput.o 7 s7
      have s11 : sl a7 11 = i6 ((tot (bs.take k)).1) := hput.new 0 11 rfl
      have s12 : sl a7 12 = .slice A n c := hput.new 1 12 rfl
      have s13 : sl a7 13 = i6 k := hput.new 2 13 rfl
      have s14 : sl a7 14 = pt b8 (o8 + k) := hput.new 3 14 rfl
      have s15 : sl a7 15 = .int .u8 z8 := hput.new 4 15 rfl
      have s16 : sl a7 16 = i6 z8 := hput.new 5 16 rfl
      have s17 : sl a7 17 = i6 ((tot (bs.take k)).1 + z8) := hput.new 6 17 rfl
      replace hz := hput.size.trans hz
      replace hd := hput.defers.trans hd
      clear hput
      change Code.wp _ _ _ _ _
      refine seq_l [] hz ?_
      refine ⟨i6 k, fun _ h_ => rmv (h_.b 4 s4),
       i6 (k + 1), fun _ h_ => rk (run_addI rfl (h_.d 0 9) rfl (by omega) rfl),
       i6 (k + 1), fun _ h_ => ras (h_.d 1 10), ?_⟩
      intro a9 hput
      replace s0 := hput.o 0 s0
      replace s2 := hput.o 2 s2
      replace s3 := hput.o 3 s3
      replace s4 : sl a9 4 = i6 (k + 1) := hput.new 2 4 rfl
      replace s5 := hput.o 5 s5
      replace s6 := hput.o 6 s6
      replace s7 := hput.o 7 s7
      have s9 : sl a9 9 = i6 k := hput.new 0 9 rfl
      have s10 : sl a9 10 = i6 (k + 1) := hput.new 1 10 rfl
      replace s11 := hput.o 11 s11
      replace s12 := hput.o 12 s12
      replace s13 := hput.o 13 s13
      replace s14 := hput.o 14 s14
      replace s15 := hput.o 15 s15
      replace s16 := hput.o 16 s16
      replace s17 := hput.o 17 s17
      replace hz := hput.size.trans hz
      replace hd := hput.defers.trans hd
      clear hput
      replace s3 : sl a9 3 = i6 (tot (bs.take (k + 1))).1 := s3.trans (congrArg _ (by rw [take_snoc bs k _ hz8, tot_snoc]; rfl))
      refine ⟨⟨k + 1, by omega, hz, hd, s0, s2, s3, s4, hS5⟩, ?_⟩
      show n - (intOf (sl a9 4)).toNat < n - (intOf (sl a5 4)).toNat
      rw [show sl a9 4 = _ from s4, show sl a5 4 = _ from hmu0]
      simp only [intOf]
      omega
    · clear s8
      refine wp_exit ?_
      change Code.wp _ _ _ _ _
      refine wp_seq ?_
      obtain rfl : k = n := by omega
      have hts := tot_take bs k hby (by omega)
      rw [List.take_of_length_le (by omega)] at s3 hts
      refine seq_l [] hz ?_
      refine ⟨i6 ((tot bs).1), fun _ h_ => rmv (h_.b 3 s3),
       i6 ((tot bs).1 % 255), fun _ h_ => rk (run_bin rfl (h_.d 0 18) rfl (by show (pure _ : Sem Value) = pure _; exact congrArg _ (congrArg _ (Int.tmod_eq_emod_of_nonneg hts.1.1)))),
       i6 ((tot bs).1 % 255), fun _ h_ => ras (h_.d 1 19), ?_⟩
      intro a10 hput
      replace s2 : sl a10 2 = i6 ((tot bs).1 % 255) := hput.new 2 2 rfl
      replace hz := hput.size.trans hz
      replace hd := hput.defers.trans hd
      clear hput s0 s3 s4 s5 s6 s7
      change Code.wp _ _ _ _ _
      refine wp_ret ?_
      refine ret1 (P := Try.prog) (fn := Try.f86) hd s2 (hR_ _ _ ?_)
      exact ⟨rfl, (hS5.old (by simp))⟩
theorem second_step (bs : List Int) (n k : Nat) (z : Int) (hz : bs[k]? = some z) : ((n : Int) - k) * (tot (bs.take k)).1 + (tot (bs.take k)).2 + ((n : Int) - k) * z = ((n : Int) - (k + 1 : Nat)) * (tot (bs.take (k + 1))).1 + (tot (bs.take (k + 1))).2 := by
  rw [take_snoc bs k z hz, tot_snoc]
  generalize tot (bs.take k) = t
  simp only [totS]
  have e1 : ((n : Int) - (k + 1 : Nat)) * (t.1 + z) = ((n : Int) - k) * t.1 + ((n : Int) - k) * z - (t.1 + z) := by
    rw [show (n : Int) - (k + 1 : Nat) = ((n : Int) - k) - 1 by omega, Int.sub_mul, Int.mul_add]; omega
  rw [e1]; omega
set_option maxRecDepth 100000 in
set_option maxHeartbeats 800000 in
theorem second03_any (A : Option Addr) (n c : Nat) (bs : List Int) (W : World) (hn : n ≤ 100000) (hr : Reads W W.heap.size 1 A n (u8s bs)) (hby : ∀ z ∈ bs, 0 ≤ z ∧ z < 256) :
    Calls Try.prog 119 #[.slice A n c] W (fun r w' => r = .returned (.int .i64 ((tot bs).2 % 255)) ∧ Below W.heap.size W w') := by
  have hbl : bs.length = n := u8s_of hr
  have hS := S.start W
  refine calls_walk Try.func119 rfl fun R_ hR_ a hz hd hargs => ?_
  replace hz : a.tmps.size = 25 := hz.trans (by kernel_rfl)
  have s0 := hargs 0 _ rfl
  clear hargs
  refine wp_seq ?_
  refine seq_l [] hz ?_
  refine ⟨i6 0, fun _ h_ => rk (run_assign rfl rfl), ?_⟩
  intro a2 hput
  replace s0 := hput.o 0 s0
  have s2 : sl a2 2 = i6 0 := hput.new 0 2 rfl
  replace hz := hput.size.trans hz
  replace hd := hput.defers.trans hd
  clear hput
  change Code.wp _ _ _ _ _
  refine wp_seq ?_
  refine seq_l [] hz ?_
  refine ⟨i6 0, fun _ h_ => rk (run_assign rfl rfl), ?_⟩
  intro a3 hput
  replace s0 := hput.o 0 s0
  replace s2 := hput.o 2 s2
  have s3 : sl a3 3 = i6 0 := hput.new 0 3 rfl
  replace hz := hput.size.trans hz
  replace hd := hput.defers.trans hd
  clear hput
  change Code.wp _ _ _ _ _
  refine wp_seq ?_
  refine wp_seq ?_
  refine seq_l [] hz ?_
  refine ⟨i6 0, fun _ h_ => rk (run_assign rfl rfl), ?_⟩
  intro a4 hput
  replace s0 := hput.o 0 s0
  replace s2 := hput.o 2 s2
  replace s3 := hput.o 3 s3
  have s4 : sl a4 4 = i6 0 := hput.new 0 4 rfl
  replace hz := hput.size.trans hz
  replace hd := hput.defers.trans hd
  clear hput
  change Code.wp _ _ _ _ _
  refine wp_block ?_
  refine wp_loop (fun a_ w_ => ∃ k : Nat, (k ≤ n) ∧ a_.tmps.size = 25 ∧ a_.defers = [] ∧ sl a_ 0 = .slice A n c ∧ sl a_ 2 = i6 0 ∧ sl a_ 3 = i6 (((n : Int) - k) * (tot (bs.take k)).1 + (tot (bs.take k)).2) ∧ sl a_ 4 = i6 k ∧ S (kap W) ([]) ((memA W W.heap.size) :: []) w_) (fun a_ _ => n - (intOf (sl a_ 4)).toNat) ?_ ?_
  · replace s3 : sl a4 3 = i6 (((n : Int) - (0 : Nat)) * (tot (bs.take (0 : Nat))).1 + (tot (bs.take (0 : Nat))).2) := s3.trans (by simp [tot])
    exact ⟨0, Nat.zero_le _, hz, hd, s0, s2, s3, s4, hS⟩
  · clear hz hd s0 s2 s3 s4 hS
    rintro a5 w5 ⟨k, hc0_0, hz, hd, s0, s2, s3, s4, hS5⟩
    have hmu0 := s4
    refine wp_seq ?_
    refine wp_seq ?_
    refine seq_l [] hz ?_
    refine ⟨i6 k, fun _ h_ => rmv (h_.b 4 s4),
     .slice A n c, fun _ h_ => rmv (h_.b 0 s0),
     i6 n, fun _ h_ => rk (run_lenS rfl (h_.d 1 6) (by kernel_rfl)),
     .bool (decide ((k : Int) < n)), fun _ h_ => rk (run_cmp rfl (h_.d 0 5) (h_.d 2 7) rfl (by first | rfl | exact neq_dec _ _ | exact eq_dec _ _ | simp)), ?_⟩
    intro a6 hput
    replace s0 := hput.o 0 s0
    replace s2 := hput.o 2 s2
    replace s3 := hput.o 3 s3
    replace s4 := hput.o 4 s4
    have s5 : sl a6 5 = i6 k := hput.new 0 5 rfl
    have s6 : sl a6 6 = .slice A n c := hput.new 1 6 rfl
    have s7 : sl a6 7 = i6 n := hput.new 2 7 rfl
    have s8 : sl a6 8 = .bool (decide ((k : Int) < n)) := hput.new 3 8 rfl
    replace hz := hput.size.trans hz
    replace hd := hput.defers.trans hd
    clear hput
    change Code.wp _ _ _ _ _
    refine wp_cond_d s8 (fun hc8 => ?_) (fun hc8 => ?_)
    · clear s8
      refine wp_skip ?_
      change Code.wp _ _ _ _ _
      refine wp_seq ?_
      refine wp_block ?_
      have hts := tot_take bs k hby (by omega)
      have hm1 := mul_small (a := (n : Int) - k) (x := (tot (bs.take k)).1) (by omega) hts.1
      refine seq_l [] hz ?_
      refine ⟨i6 (((n : Int) - k) * (tot (bs.take k)).1 + (tot (bs.take k)).2), fun _ h_ => rmv (h_.b 3 s3),
       .slice A n c, fun _ h_ => rmv (h_.b 0 s0),
       i6 n, fun _ h_ => rk (run_lenS rfl (h_.d 1 12) (by kernel_rfl)),
       i6 k, fun _ h_ => rmv (h_.b 4 s4),
       i6 (n - k), fun _ h_ => rk (run_subI rfl (h_.d 2 13) (h_.d 3 14) (by omega) rfl),
       .slice A n c, fun _ h_ => rmv (h_.b 0 s0),
       i6 k, fun _ h_ => rmv (h_.b 4 s4), ?_⟩
      obtain ⟨b8, o8, z8, hA8, hb8, hz8, hq8⟩ := Reads.byte_at (k := k) ((hr.below (hS5.old (by simp))).more (hS5.old (by simp)).size) (by omega)
      have hzb := hby _ (List.mem_of_getElem? hz8)
      have hm2 := mul_small (a := (n : Int) - k) (x := z8) (by omega) (by omega)
      refine ⟨pt b8 (o8 + k), fun _ h_ => rk (run_indexV (size := 1) rfl (h_.d 5 16) hA8 (h_.d 6 17) (by kernel_rfl) (by omega) (by simp)),
       .int .u8 z8, fun _ h_ => rk (run_load rfl (h_.d 7 18) (by kernel_rfl) (show w5.cell? ⟨b8, o8 + k, none⟩ = some (.int .u8 z8) from hq8)),
       i6 z8, fun _ h_ => rk (run_conv rfl (h_.d 8 19) (by kernel_rfl) (wrap_i64 (by omega)) (by kernel_rfl)),
       i6 (((n : Int) - k) * z8), fun _ h_ => rk (run_mulI rfl (h_.d 4 15) (h_.d 9 20) (by omega) rfl),
       i6 (((n : Int) - k) * (tot (bs.take k)).1 + (tot (bs.take k)).2 + (((n : Int) - k) * z8)), fun _ h_ => rk (run_addI rfl (h_.d 0 11) (h_.d 10 21) (by omega) rfl),
       i6 (((n : Int) - k) * (tot (bs.take k)).1 + (tot (bs.take k)).2 + (((n : Int) - k) * z8)), fun _ h_ => ras (h_.d 11 22), ?_⟩
      intro a7 hput
      replace s0 := hput.o 0 s0
      replace s2 := hput.o 2 s2
      replace s3 : sl a7 3 = i6 (((n : Int) - k) * (tot (bs.take k)).1 + (tot (bs.take k)).2 + (((n : Int) - k) * z8)) := hput.new 12 3 rfl
      replace s4 := hput.o 4 s4
      replace s5 := hput.o 5 s5
      replace s6 := hput.o 6 s6
      replace s7 := hput.o 7 s7
      have s11 : sl a7 11 = i6 (((n : Int) - k) * (tot (bs.take k)).1 + (tot (bs.take k)).2) := hput.new 0 11 rfl
      have s12 : sl a7 12 = .slice A n c := hput.new 1 12 rfl
      have s13 : sl a7 13 = i6 n := hput.new 2 13 rfl
      have s14 : sl a7 14 = i6 k := hput.new 3 14 rfl
      have s15 : sl a7 15 = i6 (n - k) := hput.new 4 15 rfl
      have s16 : sl a7 16 = .slice A n c := hput.new 5 16 rfl
      have s17 : sl a7 17 = i6 k := hput.new 6 17 rfl
      have s18 : sl a7 18 = pt b8 (o8 + k) := hput.new 7 18 rfl
      have s19 : sl a7 19 = .int .u8 z8 := hput.new 8 19 rfl
      have s20 : sl a7 20 = i6 z8 := hput.new 9 20 rfl
      have s21 : sl a7 21 = i6 (((n : Int) - k) * z8) := hput.new 10 21 rfl
      have s22 : sl a7 22 = i6 (((n : Int) - k) * (tot (bs.take k)).1 + (tot (bs.take k)).2 + (((n : Int) - k) * z8)) := hput.new 11 22 rfl
      replace hz := hput.size.trans hz
      replace hd := hput.defers.trans hd
      clear hput
      change Code.wp _ _ _ _ _
      refine seq_l [] hz ?_
      refine ⟨i6 k, fun _ h_ => rmv (h_.b 4 s4),
       i6 (k + 1), fun _ h_ => rk (run_addI rfl (h_.d 0 9) rfl (by omega) rfl),
       i6 (k + 1), fun _ h_ => ras (h_.d 1 10), ?_⟩
      intro a9 hput
      replace s0 := hput.o 0 s0
      replace s2 := hput.o 2 s2
      replace s3 := hput.o 3 s3
      replace s4 : sl a9 4 = i6 (k + 1) := hput.new 2 4 rfl
      replace s5 := hput.o 5 s5
      replace s6 := hput.o 6 s6
      replace s7 := hput.o 7 s7
      have s9 : sl a9 9 = i6 k := hput.new 0 9 rfl
      have s10 : sl a9 10 = i6 (k + 1) := hput.new 1 10 rfl
      replace s11 := hput.o 11 s11
      replace s12 := hput.o 12 s12
      replace s13 := hput.o 13 s13
      replace s14 := hput.o 14 s14
      replace s15 := hput.o 15 s15
      replace s16 := hput.o 16 s16
      replace s17 := hput.o 17 s17
      replace s18 := hput.o 18 s18
      replace s19 := hput.o 19 s19
      replace s20 := hput.o 20 s20
      replace s21 := hput.o 21 s21
      replace s22 := hput.o 22 s22
      replace hz := hput.size.trans hz
      replace hd := hput.defers.trans hd
      clear hput
      replace s3 : sl a9 3 = i6 (((n : Int) - (k + 1 : Nat)) * (tot (bs.take (k + 1 : Nat))).1 + (tot (bs.take (k + 1 : Nat))).2) := s3.trans (congrArg _ (second_step bs n k _ hz8))
      refine ⟨⟨k + 1, by omega, hz, hd, s0, s2, s3, s4, hS5⟩, ?_⟩
      show n - (intOf (sl a9 4)).toNat < n - (intOf (sl a5 4)).toNat
      rw [show sl a9 4 = _ from s4, show sl a5 4 = _ from hmu0]
      simp only [intOf]
      omega
    · clear s8
      refine wp_exit ?_
      change Code.wp _ _ _ _ _
      refine wp_seq ?_
      obtain rfl : k = n := by omega
      have hts := tot_take bs k hby (by omega)
      rw [List.take_of_length_le (by omega), Int.sub_self, Int.zero_mul, Int.zero_add] at s3
      rw [List.take_of_length_le (by omega)] at hts
      refine seq_l [] hz ?_
      refine ⟨i6 ((tot bs).2), fun _ h_ => rmv (h_.b 3 s3),
       i6 ((tot bs).2 % 255), fun _ h_ => rk (run_bin rfl (h_.d 0 23) rfl (by show (pure _ : Sem Value) = pure _; exact congrArg _ (congrArg _ (Int.tmod_eq_emod_of_nonneg hts.2.1)))),
       i6 ((tot bs).2 % 255), fun _ h_ => ras (h_.d 1 24), ?_⟩
      intro a10 hput
      replace s2 : sl a10 2 = i6 ((tot bs).2 % 255) := hput.new 2 2 rfl
      replace hz := hput.size.trans hz
      replace hd := hput.defers.trans hd
      clear hput s0 s3 s4 s5 s6 s7
      change Code.wp _ _ _ _ _
      refine wp_ret ?_
      refine ret1 (P := Try.prog) (fn := Try.f119) hd s2 (hR_ _ _ ?_)
      exact ⟨rfl, (hS5.old (by simp))⟩
set_option maxRecDepth 100000 in
set_option maxHeartbeats 800000 in
theorem whole03_any (A : Option Addr) (n c : Nat) (bs : List Int) (W : World) (hn : n ≤ 100000) (hr : Reads W W.heap.size 1 A n (u8s bs)) (hby : ∀ z ∈ bs, 0 ≤ z ∧ z < 256) :
    Calls Try.prog 87 #[.slice A n c] W (fun r w' => r = .returned (.bool (wholeF bs)) ∧ Below W.heap.size W w') := by
  have hbl : bs.length = n := u8s_of hr
  have hS := S.start W
  refine calls_walk Try.func87 rfl fun R_ hR_ a hz hd hargs => ?_
  replace hz : a.tmps.size = 16 := hz.trans (by kernel_rfl)
  have s0 := hargs 0 _ rfl
  clear hargs
  refine wp_seq ?_
  refine seq_l [] hz ?_
  refine ⟨.bool false, fun _ h_ => rk (run_assign rfl rfl), ?_⟩
  intro a2 hput
  replace s0 := hput.o 0 s0
  have s2 : sl a2 2 = .bool false := hput.new 0 2 rfl
  replace hz := hput.size.trans hz
  replace hd := hput.defers.trans hd
  clear hput
  change Code.wp _ _ _ _ _
  refine wp_seq ?_
  refine seq_l [5, 10] hz ?_
  refine ⟨.slice A n c, fun _ h_ => rmv (h_.b 0 s0),
   i6 n, fun _ h_ => rk (run_lenS rfl (h_.d 0 3) (by kernel_rfl)),
   .bool (decide ((0 : Int) < n)), fun _ h_ => rk (run_cmp rfl (h_.d 1 4) rfl rfl (by first | rfl | exact neq_dec _ _ | exact eq_dec _ _ | simp)),
   .bool (decide ((0 : Int) < n)), fun _ h_ => rmv (h_.d 2 5), ?_⟩
  rcases dt ((0 : Int) < n) with ⟨he, hg3⟩ | ⟨he, hg3⟩
  · rw [he]
    clear he
    refine ⟨.slice A n c, fun _ h_ => r_ok (h_.on 3 6) (run_move rfl (h_.b 0 s0)), ?_⟩
    refine ⟨fun a_ h_ => st_call (h_.on 3 6) (run_call rfl (map1 (h_.d 4 7)) rfl) (first03_any A n c bs _ hn ((hr.below (hS.old (by simp))).more (hS.old (by simp)).size) hby) ?_, trivial⟩
    rintro e w4 ⟨rfl, hb4⟩
    refine ⟨_, rfl, _, rfl, ?_⟩
    clear h_ a_
    have hS4 := hS.below hb4
    clear hS hb4
    refine ⟨.bool (decide (((tot bs).1 % 255 : Int) = 0)), fun _ h_ => r_ok (h_.on 3 6) (run_cmp rfl (h_.d 5 8) rfl rfl (by first | rfl | exact neq_dec _ _ | exact eq_dec _ _ | simp)),
     .bool (decide (((tot bs).1 % 255 : Int) = 0)), fun _ h_ => rk (run_pick_t rfl (h_.d 3 6) (h_.d 6 9)),
     .bool (decide (((tot bs).1 % 255 : Int) = 0)), fun _ h_ => rmv (h_.d 7 10), ?_⟩
    rcases dt (((tot bs).1 % 255 : Int) = 0) with ⟨he, hg8⟩ | ⟨he, hg8⟩
    · rw [he]
      clear he
      refine ⟨.slice A n c, fun _ h_ => r_ok (h_.on 8 11) (run_move rfl (h_.b 0 s0)), ?_⟩
      refine ⟨fun a_ h_ => st_call (h_.on 8 11) (run_call rfl (map1 (h_.d 9 12)) rfl) (second03_any A n c bs _ hn ((hr.below (hS4.old (by simp))).more (hS4.old (by simp)).size) hby) ?_, trivial⟩
      rintro e w5 ⟨rfl, hb5⟩
      refine ⟨_, rfl, _, rfl, ?_⟩
      clear h_ a_
      have hS5 := hS4.below hb5
      clear hS4 hb5
      refine ⟨.bool (decide (((tot bs).2 % 255 : Int) = 0)), fun _ h_ => r_ok (h_.on 8 11) (run_cmp rfl (h_.d 10 13) rfl rfl (by first | rfl | exact neq_dec _ _ | exact eq_dec _ _ | simp)),
       .bool (decide (((tot bs).2 % 255 : Int) = 0)), fun _ h_ => rk (run_pick_t rfl (h_.d 8 11) (h_.d 11 14)),
       .bool (decide (((tot bs).2 % 255 : Int) = 0)), fun _ h_ => ras (h_.d 12 15), ?_⟩
      intro a3 hput
      replace s2 : sl a3 2 = .bool (decide (((tot bs).2 % 255 : Int) = 0)) := hput.new 13 2 rfl
      replace hz := hput.size.trans hz
      replace hd := hput.defers.trans hd
      clear hput s0
      change Code.wp _ _ _ _ _
      refine wp_ret ?_
      refine ret1 (P := Try.prog) (fn := Try.f87) hd s2 (hR_ _ _ ?_)
      refine ⟨?_, (hS5.old (by simp))⟩
      congr 2
      unfold wholeF
      rw [hbl]
      first | (simp_all; done) | (simp_all; omega) | grind
    · rw [he]
      clear he
      refine seq_off (j := 8) (d := 11) (b := true) [9] _ (by kernel_rfl) (.inl rfl) ?_
      refine seq_offe (j := 8) (d := 11) (b := true) (by kernel_rfl) (.inl rfl) ?_
      refine seq_off (j := 8) (d := 11) (b := true) [11] _ (by kernel_rfl) (.inl rfl) ?_
      refine ⟨.bool false, fun _ h_ => rk (run_pick_f rfl (h_.d 8 11) rfl),
       .bool false, fun _ h_ => ras (h_.d 12 15), ?_⟩
      intro a3 hput
      replace s2 : sl a3 2 = .bool false := hput.new 13 2 rfl
      replace hz := hput.size.trans hz
      replace hd := hput.defers.trans hd
      clear hput s0
      change Code.wp _ _ _ _ _
      refine wp_ret ?_
      refine ret1 (P := Try.prog) (fn := Try.f87) hd s2 (hR_ _ _ ?_)
      refine ⟨?_, (hS4.old (by simp))⟩
      congr 2
      unfold wholeF
      rw [hbl]
      first | (simp_all; done) | (simp_all; omega) | grind
  · rw [he]
    clear he
    refine seq_off (j := 3) (d := 6) (b := true) [4] _ (by kernel_rfl) (.inl rfl) ?_
    refine seq_offe (j := 3) (d := 6) (b := true) (by kernel_rfl) (.inl rfl) ?_
    refine seq_off (j := 3) (d := 6) (b := true) [6] _ (by kernel_rfl) (.inl rfl) ?_
    refine ⟨.bool false, fun _ h_ => rk (run_pick_f rfl (h_.d 3 6) rfl),
     .bool false, fun _ h_ => rmv (h_.d 7 10), ?_⟩
    refine seq_off (j := 8) (d := 11) (b := true) [9] _ (by kernel_rfl) (.inl rfl) ?_
    refine seq_offe (j := 8) (d := 11) (b := true) (by kernel_rfl) (.inl rfl) ?_
    refine seq_off (j := 8) (d := 11) (b := true) [11] _ (by kernel_rfl) (.inl rfl) ?_
    refine ⟨.bool false, fun _ h_ => rk (run_pick_f rfl (h_.d 8 11) rfl),
     .bool false, fun _ h_ => ras (h_.d 12 15), ?_⟩
    intro a3 hput
    replace s2 : sl a3 2 = .bool false := hput.new 13 2 rfl
    replace hz := hput.size.trans hz
    replace hd := hput.defers.trans hd
    clear hput s0
    change Code.wp _ _ _ _ _
    refine wp_ret ?_
    refine ret1 (P := Try.prog) (fn := Try.f87) hd s2 (hR_ _ _ ?_)
    refine ⟨?_, (hS.old (by simp))⟩
    congr 2
    unfold wholeF
    rw [hbl]
    first | (simp_all; done) | (simp_all; omega) | grind
theorem whole03_two (A : Option Addr) (n c a : Nat) (i : Int) (bs : List Int) (W : World) (hn : n ≤ 100000) (hbl : bs.length = n) (ha : a + 2 ≤ n) (hi : 0 ≤ i ∧ i < 255) (hr : Reads W W.heap.size 1 A n (u8s (two_ bs a i (lastF bs a i)))) (hby : ∀ z ∈ bs, 0 ≤ z ∧ z < 256) :
    Calls Try.prog 87 #[.slice A n c] W (fun r w' => r = .returned (.bool (decide (i = rootF bs a))) ∧ Below W.heap.size W w') := by
  rw [← whole_two bs a i (by omega) hby hi]
  exact whole03_any A n c _ W hn hr (two_byte bs a _ _ hby (by omega) (by have := last_lt bs a i; omega))
theorem first03_two (A : Option Addr) (n c a : Nat) (i j : Int) (bs : List Int) (W : World) (hn : n ≤ 100000) (hi : 0 ≤ i ∧ i < 256) (hj : 0 ≤ j ∧ j < 256) (hr : Reads W W.heap.size 1 A n (u8s (two_ bs a i j))) (hby : ∀ z ∈ bs, 0 ≤ z ∧ z < 256) :
    Calls Try.prog 86 #[.slice A n c] W (fun r w' => r = .returned (.int .i64 ((tot (two_ bs a i j)).1 % 255)) ∧ Below W.heap.size W w') :=
  first03_any A n c _ W hn hr (two_byte bs a _ _ hby hi hj)
set_option maxRecDepth 100000 in
set_option maxHeartbeats 800000 in
theorem fill03_any (A : Option Addr) (n c q_ : Nat) (bs : List Int) (W : World) (hn : n ≤ 100000) (ha : q_ + 2 ≤ n) (hr : Reads W W.heap.size 1 A n (u8s bs)) (hby : ∀ z ∈ bs, 0 ≤ z ∧ z < 256) :
    Calls Try.prog 62 #[.slice A n c, i6 q_] W (fun r w' => ∃ A' c', r = .returned (.slice A' n c') ∧ w'.ownsRow W.heap.size 5 1 (.slice A' n c') n (u8s (fillF bs q_)) ∧ Below W.heap.size W w') := by
  have hbl : bs.length = n := u8s_of hr
  have hS := S.start W
  refine calls_walk Try.func62 rfl fun R_ hR_ a hz hd hargs => ?_
  replace hz : a.tmps.size = 42 := hz.trans (by kernel_rfl)
  have s0 := hargs 0 _ rfl
  have s1 := hargs 1 _ rfl
  clear hargs
  refine wp_seq ?_
  refine seq_l [] hz ?_
  refine ⟨.slice none 0 0, fun _ h_ => rk (run_assign rfl rfl), ?_⟩
  intro a2 hput
  replace s0 := hput.o 0 s0
  replace s1 := hput.o 1 s1
  have s4 : sl a2 4 = .slice none 0 0 := hput.new 0 4 rfl
  replace hz := hput.size.trans hz
  replace hd := hput.defers.trans hd
  clear hput
  change Code.wp _ _ _ _ _
  refine wp_seq ?_
  refine seq_l [] hz ?_
  refine ⟨.slice none 0 0, fun _ h_ => rk (run_assign rfl rfl), ?_⟩
  intro a3 hput
  replace s0 := hput.o 0 s0
  replace s1 := hput.o 1 s1
  replace s4 := hput.o 4 s4
  have s5 : sl a3 5 = .slice none 0 0 := hput.new 0 5 rfl
  replace hz := hput.size.trans hz
  replace hd := hput.defers.trans hd
  clear hput
  change Code.wp _ _ _ _ _
  refine wp_seq ?_
  refine seq_l [2] hz ?_
  refine ⟨.slice none 0 0, fun _ h_ => rmv (h_.b 5 s5),
   .slice A n c, fun _ h_ => rmv (h_.b 0 s0), ?_⟩
  have hS5 := hS.nilrow 5 1
  clear hS
  refine ⟨fun a_ h_ => sap0 (bytes := 1) (news := u8s bs) hS5 0 (on_none rfl) rfl (h_.d 0 8) (h_.d 1 9) (hr.below (hS5.old (by simp))) (by exact u8s_one _) (by (try unfold maxLen); omega) (by (try unfold maxLen); omega) fun A6 c6 w6 hS6 => ⟨_, rfl, ?_⟩, trivial⟩
  clear h_ a_ hS5
  replace hS6 : S (kap W) ((rowA (.slice A6 n c6) 5 1 n (u8s bs)) :: []) ((memA W W.heap.size) :: []) w6 := hS6
  obtain ⟨go, hA⟩ := hS6.rowAt (i := 0) rfl (by omega)
  refine ⟨.slice A6 n c6, fun _ h_ => ras (h_.d 2 10), ?_⟩
  intro a4 hput
  replace s1 := hput.o 1 s1
  replace s4 := hput.o 4 s4
  replace s5 : sl a4 5 = .slice A6 n c6 := hput.new 3 5 rfl
  replace hz := hput.size.trans hz
  replace hd := hput.defers.trans hd
  clear hput s0
  change Code.wp _ _ _ _ _
  refine wp_seq ?_
  refine seq_l [3] hz ?_
  refine ⟨.slice A6 n c6, fun _ h_ => rmv (h_.b 5 s5),
   i6 q_, fun _ h_ => rmv (h_.b 1 s1),
   pt go q_, fun _ h_ => rk (run_indexV (size := 1) rfl (h_.d 0 11) hA (h_.d 1 12) (by kernel_rfl) (by omega) (by omega)), ?_⟩
  refine ⟨fun a_ h_ => st_rowset (u := .int .u8 0) 0 hS6 hA rfl (on_none rfl) rfl (h_.d 2 13) rfl rfl (by kernel_rfl) (by omega) rfl fun w9 hS9 => ⟨_, rfl, ?_⟩, trivial⟩
  clear h_ a_ hS6
  rw [u8s_set] at hS9
  replace hS9 : S (kap W) ((rowA (.slice A6 n c6) 5 1 n (u8s (bs.set q_ 0))) :: []) ((memA W W.heap.size) :: []) w9 := hS9
  intro a8 hput
  replace s1 := hput.o 1 s1
  replace s4 := hput.o 4 s4
  replace s5 := hput.o 5 s5
  replace hz := hput.size.trans hz
  replace hd := hput.defers.trans hd
  clear hput
  change Code.wp _ _ _ _ _
  refine wp_seq ?_
  refine seq_l [4] hz ?_
  refine ⟨.slice A6 n c6, fun _ h_ => rmv (h_.b 5 s5),
   i6 q_, fun _ h_ => rmv (h_.b 1 s1),
   i6 (q_ + 1), fun _ h_ => rk (run_addI rfl (h_.d 1 15) rfl (by omega) rfl),
   pt go (q_ + 1), fun _ h_ => rk (run_indexV (size := 1) rfl (h_.d 0 14) hA (h_.d 2 16) (by kernel_rfl) (by omega) (by omega)), ?_⟩
  refine ⟨fun a_ h_ => st_rowset (u := .int .u8 0) 0 hS9 hA rfl (on_none rfl) rfl (h_.d 3 17) rfl rfl (by kernel_rfl) (by omega) rfl fun w11 hS11 => ⟨_, rfl, ?_⟩, trivial⟩
  clear h_ a_ hS9
  rw [u8s_set] at hS11
  replace hS11 : S (kap W) ((rowA (.slice A6 n c6) 5 1 n (u8s (two_ bs q_ 0 0))) :: []) ((memA W W.heap.size) :: []) w11 := hS11
  intro a10 hput
  replace s1 := hput.o 1 s1
  replace s4 := hput.o 4 s4
  replace s5 := hput.o 5 s5
  replace hz := hput.size.trans hz
  replace hd := hput.defers.trans hd
  clear hput
  change Code.wp _ _ _ _ _
  refine wp_seq ?_
  refine seq_l [1] hz ?_
  refine ⟨.slice A6 n c6, fun _ h_ => rmv (h_.b 5 s5), ?_⟩
  refine ⟨fun a_ h_ => st_call (on_none rfl) (run_call rfl (map1 (h_.d 0 18)) rfl) (first03_two _ n _ q_ 0 0 bs _ hn (by omega) (by omega) (hS11.rd (i := 0) rfl) hby) ?_, trivial⟩
  rintro e w13 ⟨rfl, hb13⟩
  refine ⟨_, rfl, _, rfl, ?_⟩
  clear h_ a_
  have hS13 := hS11.below hb13
  clear hS11 hb13
  refine ⟨i6 ((tot (two_ bs q_ 0 0)).1 % 255), fun _ h_ => ras (h_.d 1 19), ?_⟩
  intro a12 hput
  replace s1 := hput.o 1 s1
  replace s4 := hput.o 4 s4
  replace s5 := hput.o 5 s5
  have s6 : sl a12 6 = i6 ((tot (two_ bs q_ 0 0)).1 % 255) := hput.new 2 6 rfl
  replace hz := hput.size.trans hz
  replace hd := hput.defers.trans hd
  clear hput
  change Code.wp _ _ _ _ _
  refine wp_seq ?_
  refine wp_seq ?_
  refine seq_l [] hz ?_
  refine ⟨i6 0, fun _ h_ => rk (run_assign rfl rfl), ?_⟩
  intro a14 hput
  replace s1 := hput.o 1 s1
  replace s4 := hput.o 4 s4
  replace s5 := hput.o 5 s5
  replace s6 := hput.o 6 s6
  have s7 : sl a14 7 = i6 0 := hput.new 0 7 rfl
  replace hz := hput.size.trans hz
  replace hd := hput.defers.trans hd
  clear hput
  change Code.wp _ _ _ _ _
  refine wp_block ?_
  refine wp_loop (fun a_ w_ => ∃ k : Nat, ∃ u : Int, ∃ v : Int, ((k : Int) ≤ rootF bs q_) ∧ a_.tmps.size = 42 ∧ a_.defers = [] ∧ sl a_ 1 = i6 q_ ∧ sl a_ 4 = .slice none 0 0 ∧ sl a_ 5 = .slice A6 n c6 ∧ sl a_ 6 = i6 ((tot (two_ bs q_ 0 0)).1 % 255) ∧ sl a_ 7 = i6 k ∧ S (kap W) ((rowA (.slice A6 n c6) 5 1 n (u8s (two_ bs q_ u v))) :: []) ((memA W W.heap.size) :: []) w_) (fun a_ _ => 255 - (intOf (sl a_ 7)).toNat) ?_ ?_
  · exact ⟨0, 0, 0, (root_lt bs q_).1, hz, hd, s1, s4, s5, s6, s7, hS13⟩
  · clear hz hd s1 s4 s5 s6 s7 hS13
    rintro a15 w15 ⟨k, u, v, hc0_0, hz, hd, s1, s4, s5, s6, s7, hS15⟩
    have hmu0 := s7
    refine wp_seq ?_
    refine wp_seq ?_
    refine seq_l [] hz ?_
    refine ⟨i6 k, fun _ h_ => rmv (h_.b 7 s7),
     .bool (decide ((k : Int) < 255)), fun _ h_ => rk (run_cmp rfl (h_.d 0 20) rfl rfl (by first | rfl | exact neq_dec _ _ | exact eq_dec _ _ | simp)), ?_⟩
    intro a16 hput
    replace s1 := hput.o 1 s1
    replace s4 := hput.o 4 s4
    replace s5 := hput.o 5 s5
    replace s6 := hput.o 6 s6
    replace s7 := hput.o 7 s7
    have s20 : sl a16 20 = i6 k := hput.new 0 20 rfl
    have s21 : sl a16 21 = .bool (decide ((k : Int) < 255)) := hput.new 1 21 rfl
    replace hz := hput.size.trans hz
    replace hd := hput.defers.trans hd
    clear hput
    change Code.wp _ _ _ _ _
    refine wp_cond_d s21 (fun hc21 => ?_) (fun hc21 => ?_)
    · clear s21
      refine wp_skip ?_
      change Code.wp _ _ _ _ _
      refine wp_seq ?_
      refine wp_block ?_
      refine wp_seq ?_
      have hrt := root_lt bs q_
      refine seq_l [5] hz ?_
      refine ⟨.slice A6 n c6, fun _ h_ => rmv (h_.b 5 s5),
       i6 q_, fun _ h_ => rmv (h_.b 1 s1),
       i6 k, fun _ h_ => rmv (h_.b 7 s7),
       .int .u8 k, fun _ h_ => rk (run_conv rfl (h_.d 2 26) (by kernel_rfl) (wrap_u8 (by omega)) (by kernel_rfl)),
       pt go q_, fun _ h_ => rk (run_indexV (size := 1) rfl (h_.d 0 24) hA (h_.d 1 25) (by kernel_rfl) (by omega) (by omega)), ?_⟩
      refine ⟨fun a_ h_ => st_rowset (u := .int .u8 k) 0 hS15 hA rfl (on_none rfl) rfl (h_.d 4 28) (h_.d 3 27) rfl (by kernel_rfl) (by omega) rfl fun w18 hS18 => ⟨_, rfl, ?_⟩, trivial⟩
      clear h_ a_ hS15
      rw [u8s_set] at hS18
      replace hS18 : S (kap W) ((rowA (.slice A6 n c6) 5 1 n (u8s ((two_ bs q_ u v).set q_ k))) :: []) ((memA W W.heap.size) :: []) w18 := hS18
      intro a17 hput
      replace s1 := hput.o 1 s1
      replace s4 := hput.o 4 s4
      replace s5 := hput.o 5 s5
      replace s6 := hput.o 6 s6
      replace s7 := hput.o 7 s7
      replace s20 := hput.o 20 s20
      have s24 : sl a17 24 = .slice A6 n c6 := hput.new 0 24 rfl
      have s25 : sl a17 25 = i6 q_ := hput.new 1 25 rfl
      have s26 : sl a17 26 = i6 k := hput.new 2 26 rfl
      have s27 : sl a17 27 = .int .u8 k := hput.new 3 27 rfl
      have s28 : sl a17 28 = pt go q_ := hput.new 4 28 rfl
      replace hz := hput.size.trans hz
      replace hd := hput.defers.trans hd
      clear hput
      change Code.wp _ _ _ _ _
      refine wp_seq ?_
      refine seq_l [10] hz ?_
      refine ⟨.slice A6 n c6, fun _ h_ => rmv (h_.b 5 s5),
       i6 q_, fun _ h_ => rmv (h_.b 1 s1),
       i6 (q_ + 1), fun _ h_ => rk (run_addI rfl (h_.d 1 30) rfl (by omega) rfl),
       i6 ((tot (two_ bs q_ 0 0)).1 % 255), fun _ h_ => rmv (h_.b 6 s6),
       i6 (510 - ((tot (two_ bs q_ 0 0)).1 % 255)), fun _ h_ => rk (run_subI rfl rfl (h_.d 3 32) (by omega) rfl),
       i6 k, fun _ h_ => rmv (h_.b 7 s7),
       i6 (510 - ((tot (two_ bs q_ 0 0)).1 % 255) - k), fun _ h_ => rk (run_subI rfl (h_.d 4 33) (h_.d 5 34) (by omega) rfl),
       i6 (lastF bs q_ k), fun _ h_ => rk (run_bin rfl (h_.d 6 35) rfl (by show (pure _ : Sem Value) = pure _; exact congrArg _ (congrArg _ (Int.tmod_eq_emod_of_nonneg (by omega))))),
       .int .u8 (lastF bs q_ k), fun _ h_ => rk (run_conv rfl (h_.d 7 36) (by kernel_rfl) (wrap_u8 (by have := last_lt bs q_ k; omega)) (by kernel_rfl)),
       pt go (q_ + 1), fun _ h_ => rk (run_indexV (size := 1) rfl (h_.d 0 29) hA (h_.d 2 31) (by kernel_rfl) (by omega) (by omega)), ?_⟩
      refine ⟨fun a_ h_ => st_rowset (u := .int .u8 (lastF bs q_ k)) 0 hS18 hA rfl (on_none rfl) rfl (h_.d 9 38) (h_.d 8 37) rfl (by kernel_rfl) (by omega) rfl fun w20 hS20 => ⟨_, rfl, ?_⟩, trivial⟩
      clear h_ a_ hS18
      rw [u8s_set, two_set] at hS20
      replace hS20 : S (kap W) ((rowA (.slice A6 n c6) 5 1 n (u8s (two_ bs q_ k (lastF bs q_ k)))) :: []) ((memA W W.heap.size) :: []) w20 := hS20
      intro a19 hput
      replace s1 := hput.o 1 s1
      replace s4 := hput.o 4 s4
      replace s5 := hput.o 5 s5
      replace s6 := hput.o 6 s6
      replace s7 := hput.o 7 s7
      replace s20 := hput.o 20 s20
      replace s24 := hput.o 24 s24
      replace s25 := hput.o 25 s25
      replace s26 := hput.o 26 s26
      replace s27 := hput.o 27 s27
      replace s28 := hput.o 28 s28
      have s29 : sl a19 29 = .slice A6 n c6 := hput.new 0 29 rfl
      have s30 : sl a19 30 = i6 q_ := hput.new 1 30 rfl
      have s31 : sl a19 31 = i6 (q_ + 1) := hput.new 2 31 rfl
      have s32 : sl a19 32 = i6 ((tot (two_ bs q_ 0 0)).1 % 255) := hput.new 3 32 rfl
      have s33 : sl a19 33 = i6 (510 - ((tot (two_ bs q_ 0 0)).1 % 255)) := hput.new 4 33 rfl
      have s34 : sl a19 34 = i6 k := hput.new 5 34 rfl
      have s35 : sl a19 35 = i6 (510 - ((tot (two_ bs q_ 0 0)).1 % 255) - k) := hput.new 6 35 rfl
      have s36 : sl a19 36 = i6 (lastF bs q_ k) := hput.new 7 36 rfl
      have s37 : sl a19 37 = .int .u8 (lastF bs q_ k) := hput.new 8 37 rfl
      have s38 : sl a19 38 = pt go (q_ + 1) := hput.new 9 38 rfl
      replace hz := hput.size.trans hz
      replace hd := hput.defers.trans hd
      clear hput
      change Code.wp _ _ _ _ _
      refine wp_seq ?_
      refine seq_l [1] hz ?_
      refine ⟨.slice A6 n c6, fun _ h_ => rmv (h_.b 5 s5), ?_⟩
      refine ⟨fun a_ h_ => st_call (on_none rfl) (run_call rfl (map1 (h_.d 0 39)) rfl) (whole03_two _ n _ q_ k bs _ hn hbl ha (by omega) (hS20.rd (i := 0) rfl) hby) ?_, trivial⟩
      rintro e w22 ⟨rfl, hb22⟩
      refine ⟨_, rfl, _, rfl, ?_⟩
      clear h_ a_
      have hS22 := hS20.below hb22
      clear hS20 hb22
      intro a21 hput
      replace s1 := hput.o 1 s1
      replace s4 := hput.o 4 s4
      replace s5 := hput.o 5 s5
      replace s6 := hput.o 6 s6
      replace s7 := hput.o 7 s7
      replace s20 := hput.o 20 s20
      replace s24 := hput.o 24 s24
      replace s25 := hput.o 25 s25
      replace s26 := hput.o 26 s26
      replace s27 := hput.o 27 s27
      replace s28 := hput.o 28 s28
      replace s29 := hput.o 29 s29
      replace s30 := hput.o 30 s30
      replace s31 := hput.o 31 s31
      replace s32 := hput.o 32 s32
      replace s33 := hput.o 33 s33
      replace s34 := hput.o 34 s34
      replace s35 := hput.o 35 s35
      replace s36 := hput.o 36 s36
      replace s37 := hput.o 37 s37
      replace s38 := hput.o 38 s38
      have s39 : sl a21 39 = .slice A6 n c6 := hput.new 0 39 rfl
      have s40 : sl a21 40 = .bool (decide ((k : Int) = rootF bs q_)) := hput.new 1 40 rfl
      replace hz := hput.size.trans hz
      replace hd := hput.defers.trans hd
      clear hput
      change Code.wp _ _ _ _ _
      refine wp_cond_d s40 (fun hc40 => ?_) (fun hc40 => ?_)
      · clear s40
        refine wp_seq ?_
        refine seq_l [] hz ?_
        refine ⟨.slice A6 n c6, fun _ h_ => rmv (h_.b 5 s5),
         .slice A6 n c6, fun _ h_ => ras (h_.d 0 41), ?_⟩
        intro a23 hput
        replace s1 := hput.o 1 s1
        replace s4 : sl a23 4 = .slice A6 n c6 := hput.new 1 4 rfl
        replace s5 := hput.o 5 s5
        replace s6 := hput.o 6 s6
        replace s7 := hput.o 7 s7
        replace s20 := hput.o 20 s20
        replace s24 := hput.o 24 s24
        replace s25 := hput.o 25 s25
        replace s26 := hput.o 26 s26
        replace s27 := hput.o 27 s27
        replace s28 := hput.o 28 s28
        replace s29 := hput.o 29 s29
        replace s30 := hput.o 30 s30
        replace s31 := hput.o 31 s31
        replace s32 := hput.o 32 s32
        replace s33 := hput.o 33 s33
        replace s34 := hput.o 34 s34
        replace s35 := hput.o 35 s35
        replace s36 := hput.o 36 s36
        replace s37 := hput.o 37 s37
        replace s38 := hput.o 38 s38
        replace s39 := hput.o 39 s39
        have s41 : sl a23 41 = .slice A6 n c6 := hput.new 0 41 rfl
        replace hz := hput.size.trans hz
        replace hd := hput.defers.trans hd
        clear hput
        change Code.wp _ _ _ _ _
        refine wp_ret ?_
        refine ret1 (P := Try.prog) (fn := Try.f62) hd s4 (hR_ _ _ ?_)
        rw [fill_root bs q_ (by omega) hby, ← hc40]
        exact ⟨_, _, rfl, hS22.rowBase (i := 0) rfl (by simp : memA W W.heap.size ∈ _), (hS22.old (by simp))⟩
      · clear s40
        refine wp_skip ?_
        change Code.wp _ _ _ _ _
        refine seq_l [] hz ?_
        refine ⟨i6 k, fun _ h_ => rmv (h_.b 7 s7),
         i6 (k + 1), fun _ h_ => rk (run_addI rfl (h_.d 0 22) rfl (by omega) rfl),
         i6 (k + 1), fun _ h_ => ras (h_.d 1 23), ?_⟩
        intro a24 hput
        replace s1 := hput.o 1 s1
        replace s4 := hput.o 4 s4
        replace s5 := hput.o 5 s5
        replace s6 := hput.o 6 s6
        replace s7 : sl a24 7 = i6 (k + 1) := hput.new 2 7 rfl
        replace s20 := hput.o 20 s20
        have s22 : sl a24 22 = i6 k := hput.new 0 22 rfl
        have s23 : sl a24 23 = i6 (k + 1) := hput.new 1 23 rfl
        replace s24 := hput.o 24 s24
        replace s25 := hput.o 25 s25
        replace s26 := hput.o 26 s26
        replace s27 := hput.o 27 s27
        replace s28 := hput.o 28 s28
        replace s29 := hput.o 29 s29
        replace s30 := hput.o 30 s30
        replace s31 := hput.o 31 s31
        replace s32 := hput.o 32 s32
        replace s33 := hput.o 33 s33
        replace s34 := hput.o 34 s34
        replace s35 := hput.o 35 s35
        replace s36 := hput.o 36 s36
        replace s37 := hput.o 37 s37
        replace s38 := hput.o 38 s38
        replace s39 := hput.o 39 s39
        replace hz := hput.size.trans hz
        replace hd := hput.defers.trans hd
        clear hput
        refine ⟨⟨k + 1, _, _, by omega, hz, hd, s1, s4, s5, s6, s7, hS22⟩, ?_⟩
        show 255 - (intOf (sl a24 7)).toNat < 255 - (intOf (sl a15 7)).toNat
        rw [show sl a24 7 = _ from s7, show sl a15 7 = _ from hmu0]
        simp only [intOf]
        omega
    · clear s21
      refine wp_exit ?_
      change Code.wp _ _ _ _ _
      refine wp_seq ?_
      exfalso
      have hrt := root_lt bs q_
      omega
end Go.Proofs.Ytdenfgnkbfbpmaa
