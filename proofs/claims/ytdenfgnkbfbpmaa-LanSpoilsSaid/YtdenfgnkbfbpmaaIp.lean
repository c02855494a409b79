/-
  The program's sum of sixteen bits: what is not whole is not good.
-/
import Derived.Test.YtdenfgnkbfbpmaaRef02
namespace Go.Proofs.Ytdenfgnkbfbpmaa
open Go.RowKit
set_option linter.unusedSimpArgs false
set_option linter.unusedVariables false

/-- words' sum, an odd byte behind them -/
def psum : List Int → Int
  | a :: b :: l => 256 * a + b + psum l
  | [a] => 256 * a
  | [] => 0
theorem psum_snoc : ∀ (l : List Int) (z : Int), psum (l ++ [z]) = psum l + (if l.length % 2 = 1 then z else 256 * z)
  | [], z => by simp [psum]
  | [a], z => by simp [psum]
  | a :: b :: l, z => by
    have ih := psum_snoc l z
    simp only [List.cons_append, psum, ih, List.length_cons]
    by_cases h : l.length % 2 = 1
    · rw [if_pos h, if_pos (by omega)]; omega
    · rw [if_neg h, if_neg (by omega)]; omega
theorem psum_even : ∀ l : List Int, l.length % 2 = 0 → psum l = wsum l
  | [], _ => by simp [psum, wsum]
  | [a], h => by simp at h
  | a :: b :: l, h => by
    have ih := psum_even l (by simp at h; omega)
    simp only [psum, wsum, ih]
theorem psum_bound : ∀ l : List Int, Bys l → 0 ≤ psum l ∧ psum l ≤ 65280 * l.length
  | [], _ => by simp [psum]
  | [a], h => by have := h a (by simp); simp only [psum, List.length_singleton]; omega
  | a :: b :: l, h => by
    have := psum_bound l (fun z hz => h z (by simp [hz]))
    have := h a (by simp); have := h b (by simp)
    simp only [psum, List.length_cons]; omega
theorem psum_take (bs : List Int) (k : Nat) (h : Bys bs) (hn : bs.length ≤ 100000) : 0 ≤ psum (bs.take k) ∧ psum (bs.take k) ≤ 6528000000 := by
  have := psum_bound (bs.take k) (fun z hz => h z (List.mem_of_mem_take hz))
  have : (bs.take k).length ≤ 100000 := by rw [List.length_take]; omega
  omega
theorem psum_next (bs : List Int) (k : Nat) (z : Int) (hz : bs[k]? = some z) : psum (bs.take (k + 1)) = psum (bs.take k) + (if k % 2 = 1 then z else 256 * z) := by
  have hl : k < bs.length := (List.getElem?_eq_some_iff.1 hz).1
  rw [take_snoc bs k z hz, psum_snoc, List.length_take, Nat.min_eq_left (by omega)]
theorem and_low (s : Int) (h : 0 ≤ s ∧ s < 4611686018427387904) : bits .and .i64 s 65535 = s % 65536 := by
  obtain ⟨n, rfl⟩ : ∃ n : Nat, s = n := ⟨s.toNat, by omega⟩
  have h1 := (bits_nat .i64 62 (by decide) (fun n h₀ h₁ => by rw [IntKind.wrap_i64]; omega) n 65535 (by omega) (by decide)).1
  rw [show (65535 : Nat) = 2 ^ 16 - 1 by rfl, Nat.and_two_pow_sub_one_eq_mod] at h1
  simpa using h1
theorem shr16 (s : Int) (h : 0 ≤ s ∧ s < 4611686018427387904) (w : World) : (binOp .shr 3 (.int .i64 s) (.int .u64 16)).run Try.prog w = .ok (.int .i64 (s / 65536)) w := by
  show (pure (Value.int .i64 (s.fdiv (2 ^ 16))) : Sem Value).run Try.prog w = _
  rw [show s.fdiv (2 ^ 16) = s / 65536 from Int.fdiv_eq_ediv_of_nonneg _ (by decide)]
  rfl
theorem shl8 (s : Int) (h : 0 ≤ s ∧ s < 256) (w : World) : (binOp .shl 3 (.int .i64 s) (.int .u64 8)).run Try.prog w = .ok (.int .i64 (256 * s)) w := by
  show (pure (Value.int .i64 (IntKind.i64.wrap (s * 2 ^ 8))) : Sem Value).run Try.prog w = _
  rw [show IntKind.i64.wrap (s * 2 ^ 8) = 256 * s by rw [IntKind.wrap_i64]; have : s * 2 ^ 8 = s * 256 := rfl; omega]
  rfl
theorem xor_ne (s : Int) (h : 0 ≤ s ∧ s < 65535) : bits .xor .i64 s 65535 ≠ 0 := by
  obtain ⟨n, rfl⟩ : ∃ n : Nat, s = n := ⟨s.toNat, by omega⟩
  have hx : n ^^^ 65535 < 2 ^ 16 := Nat.xor_lt_two_pow (by omega) (by omega)
  have h1 : (BitVec.ofInt 64 (n : Int)).toNat = n := by
    rw [BitVec.ofInt_natCast, BitVec.toNat_ofNat]; exact Nat.mod_eq_of_lt (by omega)
  have h2 : (BitVec.ofInt 64 (65535 : Int)).toNat = 65535 := by decide
  have h3 : bits .xor .i64 (n : Int) 65535 = ((n ^^^ 65535 : Nat) : Int) := by
    show IntKind.i64.wrap ((BitVec.ofInt 64 (n : Int) ^^^ BitVec.ofInt 64 (65535 : Int)).toNat : Int) = _
    rw [BitVec.toNat_xor, h1, h2, IntKind.wrap_i64]
    omega
  rw [h3]
  intro h0
  have h4 : n ^^^ 65535 = 0 := by exact_mod_cast h0
  have h5 : n = (n ^^^ 65535) ^^^ 65535 := by rw [Nat.xor_assoc, Nat.xor_self, Nat.xor_zero]
  rw [h4, Nat.zero_xor] at h5
  omega
theorem reads_one {w : World} {B : Nat} {A : Option Addr} {u : Value} (h : Reads w B 1 A 1 [u]) : ∃ b o, A = some ⟨b, o, none⟩ ∧ w.cell? ⟨b, o, none⟩ = some u := by
  obtain ⟨b, o, e, _, hc⟩ := h.2 (by omega)
  exact ⟨b, o, e, hc 0 u rfl⟩
set_option maxRecDepth 100000 in
set_option maxHeartbeats 800000 in
theorem ipof_any (A B : Option Addr) (n c d : Nat) (bs : List Int) (W : World) (hn : n ≤ 100000) (hev : n % 2 = 0) (ho : Reads W W.heap.size 1 B 1 [.slice A n c]) (hr : Reads W W.heap.size 1 A n (u8s bs)) (hby : Bys bs) (hbad : ¬ wsum bs % 65535 = 0) :
    Calls Try.prog 66 #[.slice B 1 d] W (fun r w' => ∃ v : Int, r = .returned (.int .i64 v) ∧ v ≠ 0 ∧ Below W.heap.size W w') := by
  have hbl : bs.length = n := u8s_of hr
  have hS := S.start W
  refine calls_walk Try.func66 rfl fun R_ hR_ a hz hd hargs => ?_
  replace hz : a.tmps.size = 45 := hz.trans (by kernel_rfl)
  have s0 := hargs 0 _ rfl
  clear hargs
  refine wp_seq ?_
  refine seq_l [] hz ?_
  refine ⟨i6 0, fun _ h_ => rk (run_assign rfl rfl), ?_⟩
  intro a2 hput
  replace s0 := hput.o 0 s0
  have s2 : sl a2 2 = i6 0 := hput.new 0 2 rfl
  replace hz := hput.size.trans hz
  replace hd := hput.defers.trans hd
  clear hput
  change Code.wp _ _ _ _ _
  refine wp_seq ?_
  refine seq_l [] hz ?_
  refine ⟨i6 0, fun _ h_ => rk (run_assign rfl rfl),
   .bool false, fun _ h_ => rk (run_assign rfl rfl), ?_⟩
  intro a3 hput
  replace s0 := hput.o 0 s0
  replace s2 := hput.o 2 s2
  have s3 : sl a3 3 = i6 0 := hput.new 0 3 rfl
  have s4 : sl a3 4 = .bool false := hput.new 1 4 rfl
  replace hz := hput.size.trans hz
  replace hd := hput.defers.trans hd
  clear hput
  change Code.wp _ _ _ _ _
  refine wp_seq ?_
  refine wp_seq ?_
  refine seq_l [] hz ?_
  refine ⟨.slice B 1 d, fun _ h_ => rmv (h_.b 0 s0),
   i6 1, fun _ h_ => rk (run_lenS rfl (h_.d 0 9) (by kernel_rfl)),
   i6 0, fun _ h_ => rk (run_move rfl rfl), ?_⟩
  intro a4 hput
  replace s2 := hput.o 2 s2
  replace s3 := hput.o 3 s3
  replace s4 := hput.o 4 s4
  have s9 : sl a4 9 = .slice B 1 d := hput.new 0 9 rfl
  have s10 : sl a4 10 = i6 1 := hput.new 1 10 rfl
  have s11 : sl a4 11 = i6 0 := hput.new 2 11 rfl
  replace hz := hput.size.trans hz
  replace hd := hput.defers.trans hd
  clear hput s0
  change Code.wp _ _ _ _ _
  refine wp_block ?_
  refine wp_loop (fun a_ w_ => ∃ j : Nat, ∃ s : Int, (j ≤ 1) ∧ ((j = 0 ∧ s = 0) ∨ (j = 1 ∧ s = psum bs)) ∧ a_.tmps.size = 45 ∧ a_.defers = [] ∧ sl a_ 2 = i6 0 ∧ sl a_ 3 = i6 s ∧ sl a_ 4 = .bool false ∧ sl a_ 9 = .slice B 1 d ∧ sl a_ 10 = i6 1 ∧ sl a_ 11 = i6 j ∧ S (kap W) ([]) ((memA W W.heap.size) :: []) w_) (fun a_ _ => 1 - (intOf (sl a_ 11)).toNat) ?_ ?_
  · exact ⟨0, 0, by omega, .inl ⟨rfl, rfl⟩, hz, hd, s2, s3, s4, s9, s10, s11, hS⟩
  · clear hz hd s2 s3 s4 s9 s10 s11 hS
    rintro a5 w5 ⟨j, s, hc0_0, hc0_1, hz, hd, s2, s3, s4, s9, s10, s11, hS5⟩
    have hmu0 := s11
    refine wp_seq ?_
    refine seq_l [] hz ?_
    refine ⟨.bool (decide ((j : Int) < 1)), fun _ h_ => rk (run_cmp rfl (h_.b 11 s11) (h_.b 10 s10) rfl (by first | rfl | exact neq_dec _ _ | exact eq_dec _ _ | simp)), ?_⟩
    intro a6 hput
    replace s2 := hput.o 2 s2
    replace s3 := hput.o 3 s3
    replace s4 := hput.o 4 s4
    replace s9 := hput.o 9 s9
    replace s10 := hput.o 10 s10
    replace s11 := hput.o 11 s11
    have s12 : sl a6 12 = .bool (decide ((j : Int) < 1)) := hput.new 0 12 rfl
    replace hz := hput.size.trans hz
    replace hd := hput.defers.trans hd
    clear hput
    change Code.wp _ _ _ _ _
    refine wp_seq ?_
    refine wp_cond_d s12 (fun hc12 => ?_) (fun hc12 => ?_)
    · clear s12
      refine wp_skip ?_
      change Code.wp _ _ _ _ _
      refine wp_seq ?_
      refine wp_block ?_
      refine wp_seq ?_
      have hj : j = 0 ∧ s = 0 := by omega
      obtain ⟨bO, oO, hAO, hqO⟩ := reads_one (Reads.old ho (hS5.old (by simp)))
      refine seq_l [] hz ?_
      refine ⟨pt bO oO, fun _ h_ => rk (run_indexV (size := 1) rfl (h_.b 9 s9) hAO (h_.b 11 s11) (by kernel_rfl) (by omega) (by omega)),
       .slice A n c, fun _ h_ => rk (run_load rfl (h_.d 0 13) (by kernel_rfl) hqO),
       .slice A n c, fun _ h_ => ras (h_.d 1 14), ?_⟩
      intro a7 hput
      replace s2 := hput.o 2 s2
      replace s3 := hput.o 3 s3
      replace s4 := hput.o 4 s4
      have s6 : sl a7 6 = .slice A n c := hput.new 2 6 rfl
      replace s9 := hput.o 9 s9
      replace s10 := hput.o 10 s10
      replace s11 := hput.o 11 s11
      have s13 : sl a7 13 = pt bO oO := hput.new 0 13 rfl
      have s14 : sl a7 14 = .slice A n c := hput.new 1 14 rfl
      replace hz := hput.size.trans hz
      replace hd := hput.defers.trans hd
      clear hput
      change Code.wp _ _ _ _ _
      refine wp_seq ?_
      refine seq_l [] hz ?_
      refine ⟨.slice A n c, fun _ h_ => rmv (h_.b 6 s6),
       i6 n, fun _ h_ => rk (run_lenS rfl (h_.d 0 15) (by kernel_rfl)),
       i6 0, fun _ h_ => rk (run_move rfl rfl), ?_⟩
      intro a8 hput
      replace s2 := hput.o 2 s2
      replace s3 := hput.o 3 s3
      replace s4 := hput.o 4 s4
      replace s6 := hput.o 6 s6
      replace s9 := hput.o 9 s9
      replace s10 := hput.o 10 s10
      replace s11 := hput.o 11 s11
      replace s13 := hput.o 13 s13
      replace s14 := hput.o 14 s14
      have s15 : sl a8 15 = .slice A n c := hput.new 0 15 rfl
      have s16 : sl a8 16 = i6 n := hput.new 1 16 rfl
      have s17 : sl a8 17 = i6 0 := hput.new 2 17 rfl
      replace hz := hput.size.trans hz
      replace hd := hput.defers.trans hd
      clear hput
      change Code.wp _ _ _ _ _
      refine wp_block ?_
      refine wp_loop (fun a_ w_ => ∃ k : Nat, (k ≤ n) ∧ a_.tmps.size = 45 ∧ a_.defers = [] ∧ sl a_ 2 = i6 0 ∧ sl a_ 3 = i6 (psum (bs.take k)) ∧ sl a_ 4 = .bool (decide (k % 2 = 1)) ∧ sl a_ 6 = .slice A n c ∧ sl a_ 9 = .slice B 1 d ∧ sl a_ 10 = i6 1 ∧ sl a_ 11 = i6 j ∧ sl a_ 13 = pt bO oO ∧ sl a_ 14 = .slice A n c ∧ sl a_ 15 = .slice A n c ∧ sl a_ 16 = i6 n ∧ sl a_ 17 = i6 k ∧ S (kap W) ([]) ((memA W W.heap.size) :: []) w_) (fun a_ _ => n - (intOf (sl a_ 17)).toNat) ?_ ?_
      · replace s3 : sl a8 3 = i6 (psum (bs.take 0)) := s3.trans (by rw [hj.2]; rfl)
        replace s4 : sl a8 4 = .bool (decide (0 % 2 = 1)) := s4.trans rfl
        exact ⟨0, Nat.zero_le _, hz, hd, s2, s3, s4, s6, s9, s10, s11, s13, s14, s15, s16, s17, hS5⟩
      · clear hz hd s2 s3 s4 s6 s9 s10 s11 s13 s14 s15 s16 s17 hS5
        rintro a9 w9 ⟨k, hc2_0, hz, hd, s2, s3, s4, s6, s9, s10, s11, s13, s14, s15, s16, s17, hS9⟩
        have hmu2 := s17
        refine wp_seq ?_
        refine seq_l [] hz ?_
        refine ⟨.bool (decide ((k : Int) < n)), fun _ h_ => rk (run_cmp rfl (h_.b 17 s17) (h_.b 16 s16) rfl (by first | rfl | exact neq_dec _ _ | exact eq_dec _ _ | simp)), ?_⟩
        intro a10 hput
        replace s2 := hput.o 2 s2
        replace s3 := hput.o 3 s3
        replace s4 := hput.o 4 s4
        replace s6 := hput.o 6 s6
        replace s9 := hput.o 9 s9
        replace s10 := hput.o 10 s10
        replace s11 := hput.o 11 s11
        replace s13 := hput.o 13 s13
        replace s14 := hput.o 14 s14
        replace s15 := hput.o 15 s15
        replace s16 := hput.o 16 s16
        replace s17 := hput.o 17 s17
        have s18 : sl a10 18 = .bool (decide ((k : Int) < n)) := hput.new 0 18 rfl
        replace hz := hput.size.trans hz
        replace hd := hput.defers.trans hd
        clear hput
        change Code.wp _ _ _ _ _
        refine wp_seq ?_
        refine wp_cond_d s18 (fun hc18 => ?_) (fun hc18 => ?_)
        · clear s18
          refine wp_skip ?_
          change Code.wp _ _ _ _ _
          refine wp_seq ?_
          refine wp_block ?_
          refine wp_seq ?_
          refine seq_l [] hz ?_
          obtain ⟨b12, o12, z12, hA12, hb12, hz12, hq12⟩ := Reads.byte_at (k := k) ((Reads.old hr (hS9.old (by simp)))) (by omega)
          have hzb := hby _ (List.mem_of_getElem? hz12)
          refine ⟨pt b12 (o12 + k), fun _ h_ => rk (run_indexV (size := 1) rfl (h_.b 15 s15) hA12 (h_.b 17 s17) (by kernel_rfl) (by omega) (by simp)),
           .int .u8 z12, fun _ h_ => rk (run_load rfl (h_.d 0 19) (by kernel_rfl) (show w9.cell? ⟨b12, o12 + k, none⟩ = some (.int .u8 z12) from hq12)),
           .int .u8 z12, fun _ h_ => ras (h_.d 1 20), ?_⟩
          intro a11 hput
          replace s2 := hput.o 2 s2
          replace s3 := hput.o 3 s3
          replace s4 := hput.o 4 s4
          replace s6 := hput.o 6 s6
          have s8 : sl a11 8 = .int .u8 z12 := hput.new 2 8 rfl
          replace s9 := hput.o 9 s9
          replace s10 := hput.o 10 s10
          replace s11 := hput.o 11 s11
          replace s13 := hput.o 13 s13
          replace s14 := hput.o 14 s14
          replace s15 := hput.o 15 s15
          replace s16 := hput.o 16 s16
          replace s17 := hput.o 17 s17
          have s19 : sl a11 19 = pt b12 (o12 + k) := hput.new 0 19 rfl
          have s20 : sl a11 20 = .int .u8 z12 := hput.new 1 20 rfl
          replace hz := hput.size.trans hz
          replace hd := hput.defers.trans hd
          clear hput
          change Code.wp _ _ _ _ _
          refine wp_seq ?_
          refine wp_seq ?_
          refine seq_l [] hz ?_
          refine ⟨.bool (decide (k % 2 = 1)), fun _ h_ => rmv (h_.b 4 s4), ?_⟩
          intro a13 hput
          replace s2 := hput.o 2 s2
          replace s3 := hput.o 3 s3
          replace s4 := hput.o 4 s4
          replace s6 := hput.o 6 s6
          replace s8 := hput.o 8 s8
          replace s9 := hput.o 9 s9
          replace s10 := hput.o 10 s10
          replace s11 := hput.o 11 s11
          replace s13 := hput.o 13 s13
          replace s14 := hput.o 14 s14
          replace s15 := hput.o 15 s15
          replace s16 := hput.o 16 s16
          replace s17 := hput.o 17 s17
          replace s19 := hput.o 19 s19
          replace s20 := hput.o 20 s20
          have s21 : sl a13 21 = .bool (decide (k % 2 = 1)) := hput.new 0 21 rfl
          replace hz := hput.size.trans hz
          replace hd := hput.defers.trans hd
          clear hput
          change Code.wp _ _ _ _ _
          refine wp_cond_d s21 (fun hc21 => ?_) (fun hc21 => ?_)
          · clear s21
            have hps := psum_take bs k hby (by omega)
            refine seq_l [] hz ?_
            refine ⟨i6 (psum (bs.take k)), fun _ h_ => rmv (h_.b 3 s3),
             .int .u8 z12, fun _ h_ => rmv (h_.b 8 s8),
             i6 z12, fun _ h_ => rk (run_conv rfl (h_.d 1 23) (by kernel_rfl) (wrap_i64 (by omega)) (by kernel_rfl)),
             i6 (psum (bs.take k) + z12), fun _ h_ => rk (run_addI rfl (h_.d 0 22) (h_.d 2 24) (by omega) rfl),
             i6 (psum (bs.take k) + z12), fun _ h_ => ras (h_.d 3 25), ?_⟩
            intro a14 hput
            replace s2 := hput.o 2 s2
            replace s3 : sl a14 3 = i6 (psum (bs.take k) + z12) := hput.new 4 3 rfl
            replace s4 := hput.o 4 s4
            replace s6 := hput.o 6 s6
            replace s8 := hput.o 8 s8
            replace s9 := hput.o 9 s9
            replace s10 := hput.o 10 s10
            replace s11 := hput.o 11 s11
            replace s13 := hput.o 13 s13
            replace s14 := hput.o 14 s14
            replace s15 := hput.o 15 s15
            replace s16 := hput.o 16 s16
            replace s17 := hput.o 17 s17
            replace s19 := hput.o 19 s19
            replace s20 := hput.o 20 s20
            have s22 : sl a14 22 = i6 (psum (bs.take k)) := hput.new 0 22 rfl
            have s23 : sl a14 23 = .int .u8 z12 := hput.new 1 23 rfl
            have s24 : sl a14 24 = i6 z12 := hput.new 2 24 rfl
            have s25 : sl a14 25 = i6 (psum (bs.take k) + z12) := hput.new 3 25 rfl
            replace hz := hput.size.trans hz
            replace hd := hput.defers.trans hd
            clear hput
            change Code.wp _ _ _ _ _
            refine seq_l [] hz ?_
            refine ⟨.bool (decide (k % 2 = 1)), fun _ h_ => rmv (h_.b 4 s4),
             .bool (!(decide (k % 2 = 1))), fun _ h_ => rk (run_not rfl (h_.d 0 31) rfl),
             .bool (!(decide (k % 2 = 1))), fun _ h_ => ras (h_.d 1 32), ?_⟩
            intro a15 hput
            replace s2 := hput.o 2 s2
            replace s3 := hput.o 3 s3
            replace s4 : sl a15 4 = .bool (!(decide (k % 2 = 1))) := hput.new 2 4 rfl
            replace s6 := hput.o 6 s6
            replace s8 := hput.o 8 s8
            replace s9 := hput.o 9 s9
            replace s10 := hput.o 10 s10
            replace s11 := hput.o 11 s11
            replace s13 := hput.o 13 s13
            replace s14 := hput.o 14 s14
            replace s15 := hput.o 15 s15
            replace s16 := hput.o 16 s16
            replace s17 := hput.o 17 s17
            replace s19 := hput.o 19 s19
            replace s20 := hput.o 20 s20
            replace s22 := hput.o 22 s22
            replace s23 := hput.o 23 s23
            replace s24 := hput.o 24 s24
            replace s25 := hput.o 25 s25
            have s31 : sl a15 31 = .bool (decide (k % 2 = 1)) := hput.new 0 31 rfl
            have s32 : sl a15 32 = .bool (!(decide (k % 2 = 1))) := hput.new 1 32 rfl
            replace hz := hput.size.trans hz
            replace hd := hput.defers.trans hd
            clear hput
            change Code.wp _ _ _ _ _
            refine seq_l [] hz ?_
            refine ⟨i6 (k + 1), fun _ h_ => rk (run_addI rfl (h_.b 17 s17) rfl (by omega) rfl),
             i6 (k + 1), fun _ h_ => rmv (h_.d 0 33), ?_⟩
            intro a16 hput
            replace s2 := hput.o 2 s2
            replace s3 := hput.o 3 s3
            replace s4 := hput.o 4 s4
            replace s6 := hput.o 6 s6
            replace s8 := hput.o 8 s8
            replace s9 := hput.o 9 s9
            replace s10 := hput.o 10 s10
            replace s11 := hput.o 11 s11
            replace s13 := hput.o 13 s13
            replace s14 := hput.o 14 s14
            replace s15 := hput.o 15 s15
            replace s16 := hput.o 16 s16
            replace s17 : sl a16 17 = i6 (k + 1) := hput.new 1 17 rfl
            replace s19 := hput.o 19 s19
            replace s20 := hput.o 20 s20
            replace s22 := hput.o 22 s22
            replace s23 := hput.o 23 s23
            replace s24 := hput.o 24 s24
            replace s25 := hput.o 25 s25
            replace s31 := hput.o 31 s31
            replace s32 := hput.o 32 s32
            have s33 : sl a16 33 = i6 (k + 1) := hput.new 0 33 rfl
            replace hz := hput.size.trans hz
            replace hd := hput.defers.trans hd
            clear hput
            replace s3 : sl a16 3 = i6 (psum (bs.take (k + 1))) := s3.trans (congrArg _ (by rw [psum_next bs k _ hz12]; split <;> omega))
            replace s4 : sl a16 4 = .bool (decide ((k + 1) % 2 = 1)) := s4.trans (congrArg _ (by rw [Bool.eq_iff_iff]; simp; omega))
            refine ⟨⟨k + 1, by omega, hz, hd, s2, s3, s4, s6, s9, s10, s11, s13, s14, s15, s16, s17, hS9⟩, ?_⟩
            show n - (intOf (sl a16 17)).toNat < n - (intOf (sl a9 17)).toNat
            rw [show sl a16 17 = _ from s17, show sl a9 17 = _ from hmu2]
            simp only [intOf]
            omega
          · clear s21
            have hps := psum_take bs k hby (by omega)
            refine seq_l [] hz ?_
            refine ⟨i6 (psum (bs.take k)), fun _ h_ => rmv (h_.b 3 s3),
             .int .u8 z12, fun _ h_ => rmv (h_.b 8 s8),
             i6 z12, fun _ h_ => rk (run_conv rfl (h_.d 1 27) (by kernel_rfl) (wrap_i64 (by omega)) (by kernel_rfl)),
             i6 (256 * z12), fun _ h_ => rk (run_bin2 rfl (h_.d 2 28) rfl (fun _ => rfl) (shl8 _ (by omega))),
             i6 (psum (bs.take k) + (256 * z12)), fun _ h_ => rk (run_addI rfl (h_.d 0 26) (h_.d 3 29) (by omega) rfl),
             i6 (psum (bs.take k) + (256 * z12)), fun _ h_ => ras (h_.d 4 30), ?_⟩
            intro a17 hput
            replace s2 := hput.o 2 s2
            replace s3 : sl a17 3 = i6 (psum (bs.take k) + (256 * z12)) := hput.new 5 3 rfl
            replace s4 := hput.o 4 s4
            replace s6 := hput.o 6 s6
            replace s8 := hput.o 8 s8
            replace s9 := hput.o 9 s9
            replace s10 := hput.o 10 s10
            replace s11 := hput.o 11 s11
            replace s13 := hput.o 13 s13
            replace s14 := hput.o 14 s14
            replace s15 := hput.o 15 s15
            replace s16 := hput.o 16 s16
            replace s17 := hput.o 17 s17
            replace s19 := hput.o 19 s19
            replace s20 := hput.o 20 s20
            have s26 : sl a17 26 = i6 (psum (bs.take k)) := hput.new 0 26 rfl
            have s27 : sl a17 27 = .int .u8 z12 := hput.new 1 27 rfl
            have s28 : sl a17 28 = i6 z12 := hput.new 2 28 rfl
            have s29 : sl a17 29 = i6 (256 * z12) := hput.new 3 29 rfl
            have s30 : sl a17 30 = i6 (psum (bs.take k) + (256 * z12)) := hput.new 4 30 rfl
            replace hz := hput.size.trans hz
            replace hd := hput.defers.trans hd
            clear hput
            change Code.wp _ _ _ _ _
            refine seq_l [] hz ?_
            refine ⟨.bool (decide (k % 2 = 1)), fun _ h_ => rmv (h_.b 4 s4),
             .bool (!(decide (k % 2 = 1))), fun _ h_ => rk (run_not rfl (h_.d 0 31) rfl),
             .bool (!(decide (k % 2 = 1))), fun _ h_ => ras (h_.d 1 32), ?_⟩
            intro a18 hput
            replace s2 := hput.o 2 s2
            replace s3 := hput.o 3 s3
            replace s4 : sl a18 4 = .bool (!(decide (k % 2 = 1))) := hput.new 2 4 rfl
            replace s6 := hput.o 6 s6
            replace s8 := hput.o 8 s8
            replace s9 := hput.o 9 s9
            replace s10 := hput.o 10 s10
            replace s11 := hput.o 11 s11
            replace s13 := hput.o 13 s13
            replace s14 := hput.o 14 s14
            replace s15 := hput.o 15 s15
            replace s16 := hput.o 16 s16
            replace s17 := hput.o 17 s17
            replace s19 := hput.o 19 s19
            replace s20 := hput.o 20 s20
            replace s26 := hput.o 26 s26
            replace s27 := hput.o 27 s27
            replace s28 := hput.o 28 s28
            replace s29 := hput.o 29 s29
            replace s30 := hput.o 30 s30
            have s31 : sl a18 31 = .bool (decide (k % 2 = 1)) := hput.new 0 31 rfl
            have s32 : sl a18 32 = .bool (!(decide (k % 2 = 1))) := hput.new 1 32 rfl
            replace hz := hput.size.trans hz
            replace hd := hput.defers.trans hd
            clear hput
            change Code.wp _ _ _ _ _
            refine seq_l [] hz ?_
            refine ⟨i6 (k + 1), fun _ h_ => rk (run_addI rfl (h_.b 17 s17) rfl (by omega) rfl),
             i6 (k + 1), fun _ h_ => rmv (h_.d 0 33), ?_⟩
            intro a19 hput
            replace s2 := hput.o 2 s2
            replace s3 := hput.o 3 s3
            replace s4 := hput.o 4 s4
            replace s6 := hput.o 6 s6
            replace s8 := hput.o 8 s8
            replace s9 := hput.o 9 s9
            replace s10 := hput.o 10 s10
            replace s11 := hput.o 11 s11
            replace s13 := hput.o 13 s13
            replace s14 := hput.o 14 s14
            replace s15 := hput.o 15 s15
            replace s16 := hput.o 16 s16
            replace s17 : sl a19 17 = i6 (k + 1) := hput.new 1 17 rfl
            replace s19 := hput.o 19 s19
            replace s20 := hput.o 20 s20
            replace s26 := hput.o 26 s26
            replace s27 := hput.o 27 s27
            replace s28 := hput.o 28 s28
            replace s29 := hput.o 29 s29
            replace s30 := hput.o 30 s30
            replace s31 := hput.o 31 s31
            replace s32 := hput.o 32 s32
            have s33 : sl a19 33 = i6 (k + 1) := hput.new 0 33 rfl
            replace hz := hput.size.trans hz
            replace hd := hput.defers.trans hd
            clear hput
            replace s3 : sl a19 3 = i6 (psum (bs.take (k + 1))) := s3.trans (congrArg _ (by rw [psum_next bs k _ hz12]; split <;> omega))
            replace s4 : sl a19 4 = .bool (decide ((k + 1) % 2 = 1)) := s4.trans (congrArg _ (by rw [Bool.eq_iff_iff]; simp; omega))
            refine ⟨⟨k + 1, by omega, hz, hd, s2, s3, s4, s6, s9, s10, s11, s13, s14, s15, s16, s17, hS9⟩, ?_⟩
            show n - (intOf (sl a19 17)).toNat < n - (intOf (sl a9 17)).toNat
            rw [show sl a19 17 = _ from s17, show sl a9 17 = _ from hmu2]
            simp only [intOf]
            omega
        · clear s18
          refine wp_exit ?_
          change Code.wp _ _ _ _ _
          refine seq_l [] hz ?_
          refine ⟨i6 (j + 1), fun _ h_ => rk (run_addI rfl (h_.b 11 s11) rfl (by omega) rfl),
           i6 (j + 1), fun _ h_ => rmv (h_.d 0 34), ?_⟩
          intro a20 hput
          replace s2 := hput.o 2 s2
          replace s3 := hput.o 3 s3
          replace s4 := hput.o 4 s4
          replace s6 := hput.o 6 s6
          replace s9 := hput.o 9 s9
          replace s10 := hput.o 10 s10
          replace s11 : sl a20 11 = i6 (j + 1) := hput.new 1 11 rfl
          replace s13 := hput.o 13 s13
          replace s14 := hput.o 14 s14
          replace s15 := hput.o 15 s15
          replace s16 := hput.o 16 s16
          replace s17 := hput.o 17 s17
          have s34 : sl a20 34 = i6 (j + 1) := hput.new 0 34 rfl
          replace hz := hput.size.trans hz
          replace hd := hput.defers.trans hd
          clear hput
          obtain rfl : k = n := by omega
          replace s3 : sl a20 3 = i6 (psum bs) := s3.trans (by rw [List.take_of_length_le (by omega)])
          replace s4 : sl a20 4 = .bool false := s4.trans (congrArg _ (decide_eq_false (by omega)))
          refine ⟨⟨j + 1, psum bs, by omega, .inr ⟨by omega, rfl⟩, hz, hd, s2, s3, s4, s9, s10, s11, hS9⟩, ?_⟩
          show 1 - (intOf (sl a20 11)).toNat < 1 - (intOf (sl a5 11)).toNat
          rw [show sl a20 11 = _ from s11, show sl a5 11 = _ from hmu0]
          simp only [intOf]
          omega
    · clear s12
      refine wp_exit ?_
      change Code.wp _ _ _ _ _
      refine wp_seq ?_
      refine wp_block ?_
      refine wp_loop (fun a_ w_ => ∃ u : Int, (0 ≤ u ∧ u ≤ 6528000000) ∧ (u % 65535 = wsum bs % 65535) ∧ a_.tmps.size = 45 ∧ a_.defers = [] ∧ sl a_ 2 = i6 0 ∧ sl a_ 3 = i6 u ∧ S (kap W) ([]) ((memA W W.heap.size) :: []) w_) (fun a_ _ => (intOf (sl a_ 3) + 1).toNat) ?_ ?_
      · have hs1 : s = psum bs := by omega
        have hs0 : (0 ≤ s ∧ s ≤ 6528000000) ∧ s % 65535 = wsum bs % 65535 := by rw [hs1]; have := psum_take bs n hby (by omega); rw [List.take_of_length_le (by omega)] at this; rw [← psum_even bs (by omega)]; exact ⟨this, rfl⟩
        exact ⟨s, hs0.1, hs0.2, hz, hd, s2, s3, hS5⟩
      · clear hz hd s2 s3 s4 s9 s10 s11 hS5
        rintro a21 w21 ⟨u, hc4_0, hc4_1, hz, hd, s2, s3, hS21⟩
        have hmu4 := s3
        refine wp_seq ?_
        refine wp_seq ?_
        refine seq_l [] hz ?_
        refine ⟨i6 u, fun _ h_ => rmv (h_.b 3 s3),
         i6 (u / 65536), fun _ h_ => rk (run_bin2 rfl (h_.d 0 35) rfl (fun _ => rfl) (shr16 u (by omega))),
         .bool (decide ((u / 65536 : Int) ≠ 0)), fun _ h_ => rk (run_cmp rfl (h_.d 1 36) rfl rfl (by first | rfl | exact neq_dec _ _ | exact eq_dec _ _ | simp)), ?_⟩
        intro a22 hput
        replace s2 := hput.o 2 s2
        replace s3 := hput.o 3 s3
        have s35 : sl a22 35 = i6 u := hput.new 0 35 rfl
        have s36 : sl a22 36 = i6 (u / 65536) := hput.new 1 36 rfl
        have s37 : sl a22 37 = .bool (decide ((u / 65536 : Int) ≠ 0)) := hput.new 2 37 rfl
        replace hz := hput.size.trans hz
        replace hd := hput.defers.trans hd
        clear hput
        change Code.wp _ _ _ _ _
        refine wp_cond_d s37 (fun hc37 => ?_) (fun hc37 => ?_)
        · clear s37
          refine wp_skip ?_
          change Code.wp _ _ _ _ _
          refine wp_block ?_
          refine seq_l [] hz ?_
          refine ⟨i6 u, fun _ h_ => rmv (h_.b 3 s3),
           i6 (u % 65536), fun _ h_ => rk (run_bin rfl (h_.d 0 38) rfl (by show (pure _ : Sem Value) = pure _; exact congrArg _ (congrArg _ (and_low u (by omega))))),
           i6 u, fun _ h_ => rmv (h_.b 3 s3),
           i6 (u / 65536), fun _ h_ => rk (run_bin2 rfl (h_.d 2 40) rfl (fun _ => rfl) (shr16 u (by omega))),
           i6 (u % 65536 + (u / 65536)), fun _ h_ => rk (run_addI rfl (h_.d 1 39) (h_.d 3 41) (by omega) rfl),
           i6 (u % 65536 + (u / 65536)), fun _ h_ => ras (h_.d 4 42), ?_⟩
          intro a23 hput
          replace s2 := hput.o 2 s2
          replace s3 : sl a23 3 = i6 (u % 65536 + (u / 65536)) := hput.new 5 3 rfl
          replace s35 := hput.o 35 s35
          replace s36 := hput.o 36 s36
          have s38 : sl a23 38 = i6 u := hput.new 0 38 rfl
          have s39 : sl a23 39 = i6 (u % 65536) := hput.new 1 39 rfl
          have s40 : sl a23 40 = i6 u := hput.new 2 40 rfl
          have s41 : sl a23 41 = i6 (u / 65536) := hput.new 3 41 rfl
          have s42 : sl a23 42 = i6 (u % 65536 + (u / 65536)) := hput.new 4 42 rfl
          replace hz := hput.size.trans hz
          replace hd := hput.defers.trans hd
          clear hput
          refine ⟨⟨_, by omega, by omega, hz, hd, s2, s3, hS21⟩, ?_⟩
          show (intOf (sl a23 3) + 1).toNat < (intOf (sl a21 3) + 1).toNat
          rw [show sl a23 3 = _ from s3, show sl a21 3 = _ from hmu4]
          simp only [intOf]
          omega
        · clear s37
          refine wp_exit ?_
          change Code.wp _ _ _ _ _
          refine wp_seq ?_
          refine seq_l [] hz ?_
          refine ⟨i6 u, fun _ h_ => rmv (h_.b 3 s3),
           i6 (bits .xor .i64 u 65535), fun _ h_ => rk (run_bin rfl (h_.d 0 43) rfl (by rfl)),
           i6 (bits .xor .i64 u 65535), fun _ h_ => ras (h_.d 1 44), ?_⟩
          intro a24 hput
          replace s2 : sl a24 2 = i6 (bits .xor .i64 u 65535) := hput.new 2 2 rfl
          replace hz := hput.size.trans hz
          replace hd := hput.defers.trans hd
          clear hput s3 s35 s36
          change Code.wp _ _ _ _ _
          refine wp_ret ?_
          refine ret1 (P := Try.prog) (fn := Try.f66) hd s2 (hR_ _ _ ?_)
          exact ⟨_, rfl, xor_ne u (by omega), (hS21.old (by simp))⟩
set_option maxRecDepth 100000 in
set_option maxHeartbeats 800000 in
theorem good_bad (A : Option Addr) (n c : Nat) (bs : List Int) (W : World) (hn : n ≤ 100000) (hev : n % 2 = 0) (hr : Reads W W.heap.size 1 A n (u8s bs)) (hby : Bys bs) (hbad : ¬ wsum bs % 65535 = 0) :
    Calls Try.prog 35 #[.slice A n c] W (fun r w' => r = .returned (.bool false) ∧ Below W.heap.size W w') := by
  have hbl : bs.length = n := u8s_of hr
  have hS := S.start W
  refine calls_walk Try.func35 rfl fun R_ hR_ a hz hd hargs => ?_
  replace hz : a.tmps.size = 18 := hz.trans (by kernel_rfl)
  have s0 := hargs 0 _ rfl
  clear hargs
  refine wp_seq ?_
  refine seq_l [] hz ?_
  refine ⟨.bool false, fun _ h_ => rk (run_assign rfl rfl), ?_⟩
  intro a2 hput
  replace s0 := hput.o 0 s0
  have s2 : sl a2 2 = .bool false := hput.new 0 2 rfl
  replace hz := hput.size.trans hz
  replace hd := hput.defers.trans hd
  clear hput
  change Code.wp _ _ _ _ _
  refine wp_seq ?_
  refine seq_l [11, 12] hz ?_
  refine ⟨.slice A n c, fun _ h_ => rmv (h_.b 0 s0),
   i6 n, fun _ h_ => rk (run_lenS rfl (h_.d 0 3) (by kernel_rfl)),
   .bool (decide ((2 : Int) ≤ n)), fun _ h_ => rk (run_cmp rfl (h_.d 1 4) rfl rfl (by first | rfl | exact neq_dec _ _ | exact eq_dec _ _ | simp)),
   .bool (decide ((2 : Int) ≤ n)), fun _ h_ => rmv (h_.d 2 5), ?_⟩
  rcases dt ((2 : Int) ≤ n) with ⟨he, hg3⟩ | ⟨he, hg3⟩
  · rw [he]
    clear he
    refine ⟨.slice A n c, fun _ h_ => r_ok (h_.on 3 6) (run_move rfl (h_.b 0 s0)),
     i6 n, fun _ h_ => r_ok (h_.on 3 6) (run_lenS rfl (h_.d 4 7) (by kernel_rfl)),
     i6 ((n : Int) % 2), fun _ h_ => r_ok (h_.on 3 6) (run_bin rfl (h_.d 5 8) rfl (by show (pure _ : Sem Value) = pure _; exact congrArg _ (congrArg _ (Int.tmod_eq_emod_of_nonneg (by omega))))),
     .bool (decide (((n : Int) % 2 : Int) = 0)), fun _ h_ => r_ok (h_.on 3 6) (run_cmp rfl (h_.d 6 9) rfl rfl (by first | rfl | exact neq_dec _ _ | exact eq_dec _ _ | simp)),
     .bool (decide (((n : Int) % 2 : Int) = 0)), fun _ h_ => rk (run_pick_t rfl (h_.d 3 6) (h_.d 7 10)),
     .bool (decide (((n : Int) % 2 : Int) = 0)), fun _ h_ => rmv (h_.d 8 11), ?_⟩
    rcases dt (((n : Int) % 2 : Int) = 0) with ⟨he, hg9⟩ | ⟨he, hg9⟩
    · rw [he]
      clear he
      refine ⟨.slice A n c, fun _ h_ => r_ok (h_.on 9 12) (run_move rfl (h_.b 0 s0)), ?_⟩
      refine ⟨fun a_ h_ => st_lit (e := 42) (vals := [(0, .slice A n c)]) (cells := #[.slice A n c]) hS (h_.on 9 12) rfl (parts1 (h_.d 10 13)) fun g4 w4 hS4 hb4 => ⟨_, rfl, ?_⟩, trivial⟩
      clear h_ a_ hS
      clear hb4
      refine ⟨fun a_ h_ => st_call (h_.on 9 12) (run_call rfl (map1 (h_.d 11 14)) rfl) (ipof_any A _ n c 1 bs _ hn hev ((reads_blk (size := 1) (n := 1) (hS4.blk (i := 0) rfl) rfl).more (hS4.blk (i := 0) rfl).lt) (Reads.old hr (hS4.old (by simp))) hby hbad) ?_, trivial⟩
      rintro e w5 ⟨v5, rfl, hv5, hb5⟩
      refine ⟨_, rfl, _, rfl, ?_⟩
      clear h_ a_
      have hS5 := hS4.below hb5
      clear hS4 hb5
      refine ⟨.bool (decide ((v5 : Int) = 0)), fun _ h_ => r_ok (h_.on 9 12) (run_cmp rfl (h_.d 12 15) rfl rfl (by first | rfl | exact neq_dec _ _ | exact eq_dec _ _ | simp)),
       .bool (decide ((v5 : Int) = 0)), fun _ h_ => rk (run_pick_t rfl (h_.d 9 12) (h_.d 13 16)),
       .bool (decide ((v5 : Int) = 0)), fun _ h_ => ras (h_.d 14 17), ?_⟩
      intro a3 hput
      replace s2 : sl a3 2 = .bool (decide ((v5 : Int) = 0)) := hput.new 15 2 rfl
      replace hz := hput.size.trans hz
      replace hd := hput.defers.trans hd
      clear hput s0
      change Code.wp _ _ _ _ _
      refine wp_ret ?_
      refine ret1 (P := Try.prog) (fn := Try.f35) hd s2 (hR_ _ _ ?_)
      refine ⟨?_, (hS5.old (by simp))⟩
      first | rfl | exact congrArg _ (congrArg _ (decide_eq_false (by omega)))
    · rw [he]
      clear he
      refine seq_off (j := 9) (d := 12) (b := true) [10] _ (by kernel_rfl) (.inl rfl) ?_
      refine seq_offe (j := 9) (d := 12) (b := true) (by kernel_rfl) (.inl rfl) ?_
      refine seq_offe (j := 9) (d := 12) (b := true) (by kernel_rfl) (.inl rfl) ?_
      refine seq_off (j := 9) (d := 12) (b := true) [13] _ (by kernel_rfl) (.inl rfl) ?_
      refine ⟨.bool false, fun _ h_ => rk (run_pick_f rfl (h_.d 9 12) rfl),
       .bool false, fun _ h_ => ras (h_.d 14 17), ?_⟩
      intro a3 hput
      replace s2 : sl a3 2 = .bool false := hput.new 15 2 rfl
      replace hz := hput.size.trans hz
      replace hd := hput.defers.trans hd
      clear hput s0
      change Code.wp _ _ _ _ _
      refine wp_ret ?_
      refine ret1 (P := Try.prog) (fn := Try.f35) hd s2 (hR_ _ _ ?_)
      refine ⟨?_, (hS.old (by simp))⟩
      first | rfl | exact congrArg _ (congrArg _ (decide_eq_false (by omega)))
  · rw [he]
    clear he
    refine seq_off (j := 3) (d := 6) (b := true) [4, 5, 6, 7] _ (by kernel_rfl) (.inl rfl) ?_
    refine ⟨.bool false, fun _ h_ => rk (run_pick_f rfl (h_.d 3 6) rfl),
     .bool false, fun _ h_ => rmv (h_.d 8 11), ?_⟩
    refine seq_off (j := 9) (d := 12) (b := true) [10] _ (by kernel_rfl) (.inl rfl) ?_
    refine seq_offe (j := 9) (d := 12) (b := true) (by kernel_rfl) (.inl rfl) ?_
    refine seq_offe (j := 9) (d := 12) (b := true) (by kernel_rfl) (.inl rfl) ?_
    refine seq_off (j := 9) (d := 12) (b := true) [13] _ (by kernel_rfl) (.inl rfl) ?_
    refine ⟨.bool false, fun _ h_ => rk (run_pick_f rfl (h_.d 9 12) rfl),
     .bool false, fun _ h_ => ras (h_.d 14 17), ?_⟩
    intro a3 hput
    replace s2 : sl a3 2 = .bool false := hput.new 15 2 rfl
    replace hz := hput.size.trans hz
    replace hd := hput.defers.trans hd
    clear hput s0
    change Code.wp _ _ _ _ _
    refine wp_ret ?_
    refine ret1 (P := Try.prog) (fn := Try.f35) hd s2 (hR_ _ _ ?_)
    refine ⟨?_, (hS.old (by simp))⟩
    first | rfl | exact congrArg _ (congrArg _ (decide_eq_false (by omega)))
end Go.Proofs.Ytdenfgnkbfbpmaa
