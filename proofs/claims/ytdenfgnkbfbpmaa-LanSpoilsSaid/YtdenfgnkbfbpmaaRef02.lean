/-
  The reference's sum of sixteen bits, and its bytes of a packet: they are good.
-/
import Derived.Test.YtdenfgnkbfbpmaaRef05
namespace Go.Proofs.Ytdenfgnkbfbpmaa
open Go.RowKit
set_option linter.unusedSimpArgs false
set_option linter.unusedVariables false

/-- words' sum -/
def wsum : List Int → Int
  | a :: b :: l => 256 * a + b + wsum l
  | _ => 0
theorem wsum_app : ∀ (l m : List Int), l.length % 2 = 0 → wsum (l ++ m) = wsum l + wsum m
  | [], m, _ => by simp [wsum]
  | [a], m, h => by simp at h
  | a :: b :: l, m, h => by
    have ih := wsum_app l m (by simp at h; omega)
    simp only [List.cons_append, wsum, ih]; omega
theorem wsum_snoc (l : List Int) (a b : Int) (h : l.length % 2 = 0) : wsum (l ++ [a, b]) = wsum l + (256 * a + b) := by
  rw [wsum_app l _ h]; simp [wsum]
theorem wsum_take (bs : List Int) (k : Nat) (a b : Int) (h0 : bs[2 * k]? = some a) (h1 : bs[2 * k + 1]? = some b) : wsum (bs.take (2 * (k + 1))) = wsum (bs.take (2 * k)) + (256 * a + b) := by
  have hl : 2 * k < bs.length := (List.getElem?_eq_some_iff.1 h0).1
  have e : bs.take (2 * (k + 1)) = bs.take (2 * k) ++ [a, b] := by
    rw [show 2 * (k + 1) = 2 * k + 1 + 1 by omega, take_snoc bs _ _ h1, take_snoc bs _ _ h0]; simp
  rw [e, wsum_snoc _ _ _ (by rw [List.length_take]; omega)]
theorem wsum_two (bs : List Int) (j : Nat) (x y : Int) (hj : j % 2 = 0) (ha : j + 2 ≤ bs.length) : wsum (two_ bs j x y) = wsum (two_ bs j 0 0) + (256 * x + y) := by
  have ht : (bs.take j).length % 2 = 0 := by rw [List.length_take]; omega
  rw [two_parts bs j x y ha, two_parts bs j 0 0 ha, wsum_app _ _ ht, wsum_app _ _ ht]
  simp only [List.cons_append, List.nil_append, wsum]; omega
theorem wsum_nonneg : ∀ l : List Int, Bys l → 0 ≤ wsum l
  | [], _ => by simp [wsum]
  | [a], _ => by simp [wsum]
  | a :: b :: l, h => by
    have := wsum_nonneg l (fun z hz => h z (by simp [hz]))
    have := h a (by simp); have := h b (by simp)
    simp only [wsum]; omega
set_option maxRecDepth 100000 in
set_option maxHeartbeats 800000 in
theorem of02_any (A : Option Addr) (n c : Nat) (bs : List Int) (W : World) (hn : n ≤ 100000) (hev : n % 2 = 0) (hr : Reads W W.heap.size 1 A n (u8s bs)) (hby : Bys bs) :
    Calls Try.prog 65 #[.slice A n c] W (fun r w' => ∃ m : Int, r = .returned (.int .i64 (65535 - m)) ∧ (0 ≤ m ∧ m ≤ 65535) ∧ m % 65535 = wsum bs % 65535 ∧ Below W.heap.size W w') := by
  have hbl : bs.length = n := u8s_of hr
  have hS := S.start W
  refine calls_walk Try.func65 rfl fun R_ hR_ a hz hd hargs => ?_
  replace hz : a.tmps.size = 38 := hz.trans (by kernel_rfl)
  have s0 := hargs 0 _ rfl
  clear hargs
  refine wp_seq ?_
  refine seq_l [] hz ?_
  refine ⟨i6 0, fun _ h_ => rk (run_assign rfl rfl), ?_⟩
  intro a2 hput
  replace s0 := hput.o 0 s0
  have s2 : sl a2 2 = i6 0 := hput.new 0 2 rfl
  replace hz := hput.size.trans hz
  replace hd := hput.defers.trans hd
  clear hput
  change Code.wp _ _ _ _ _
  refine wp_seq ?_
  refine seq_l [] hz ?_
  refine ⟨i6 0, fun _ h_ => rk (run_assign rfl rfl), ?_⟩
  intro a3 hput
  replace s0 := hput.o 0 s0
  replace s2 := hput.o 2 s2
  have s3 : sl a3 3 = i6 0 := hput.new 0 3 rfl
  replace hz := hput.size.trans hz
  replace hd := hput.defers.trans hd
  clear hput
  change Code.wp _ _ _ _ _
  refine wp_seq ?_
  refine wp_seq ?_
  refine seq_l [] hz ?_
  refine ⟨i6 0, fun _ h_ => rk (run_assign rfl rfl), ?_⟩
  intro a4 hput
  replace s0 := hput.o 0 s0
  replace s2 := hput.o 2 s2
  replace s3 := hput.o 3 s3
  have s4 : sl a4 4 = i6 0 := hput.new 0 4 rfl
  replace hz := hput.size.trans hz
  replace hd := hput.defers.trans hd
  clear hput
  change Code.wp _ _ _ _ _
  refine wp_block ?_
  refine wp_loop (fun a_ w_ => ∃ k : Nat, ∃ m : Int, (2 * k ≤ n) ∧ (0 ≤ m ∧ m ≤ 65535) ∧ (m % 65535 = wsum (bs.take (2 * k)) % 65535) ∧ a_.tmps.size = 38 ∧ a_.defers = [] ∧ sl a_ 0 = .slice A n c ∧ sl a_ 2 = i6 0 ∧ sl a_ 3 = i6 m ∧ sl a_ 4 = i6 (2 * (k : Int)) ∧ S (kap W) ([]) ((memA W W.heap.size) :: []) w_) (fun a_ _ => n - (intOf (sl a_ 4)).toNat) ?_ ?_
  · exact ⟨0, 0, Nat.zero_le _, by omega, rfl, hz, hd, s0, s2, s3, s4, hS⟩
  · clear hz hd s0 s2 s3 s4 hS
    rintro a5 w5 ⟨k, m, hc0_0, hc0_1, hc0_2, hz, hd, s0, s2, s3, s4, hS5⟩
    have hmu0 := s4
    refine wp_seq ?_
    refine wp_seq ?_
    refine seq_l [] hz ?_
    refine ⟨i6 (2 * (k : Int)), fun _ h_ => rmv (h_.b 4 s4),
     .slice A n c, fun _ h_ => rmv (h_.b 0 s0),
     i6 n, fun _ h_ => rk (run_lenS rfl (h_.d 1 6) (by kernel_rfl)),
     .bool (decide ((2 * (k : Int) : Int) < n)), fun _ h_ => rk (run_cmp rfl (h_.d 0 5) (h_.d 2 7) rfl (by first | rfl | exact neq_dec _ _ | exact eq_dec _ _ | simp)), ?_⟩
    intro a6 hput
    replace s0 := hput.o 0 s0
    replace s2 := hput.o 2 s2
    replace s3 := hput.o 3 s3
    replace s4 := hput.o 4 s4
    have s5 : sl a6 5 = i6 (2 * (k : Int)) := hput.new 0 5 rfl
    have s6 : sl a6 6 = .slice A n c := hput.new 1 6 rfl
    have s7 : sl a6 7 = i6 n := hput.new 2 7 rfl
    have s8 : sl a6 8 = .bool (decide ((2 * (k : Int) : Int) < n)) := hput.new 3 8 rfl
    replace hz := hput.size.trans hz
    replace hd := hput.defers.trans hd
    clear hput
    change Code.wp _ _ _ _ _
    refine wp_cond_d s8 (fun hc8 => ?_) (fun hc8 => ?_)
    · clear s8
      refine wp_skip ?_
      change Code.wp _ _ _ _ _
      refine wp_seq ?_
      refine wp_block ?_
      refine wp_seq ?_
      refine seq_l [] hz ?_
      refine ⟨i6 m, fun _ h_ => rmv (h_.b 3 s3),
       .slice A n c, fun _ h_ => rmv (h_.b 0 s0),
       i6 (2 * (k : Int)), fun _ h_ => rmv (h_.b 4 s4), ?_⟩
      obtain ⟨b8, o8, z8, hA8, hb8, hz8, hq8⟩ := Reads.byte_at (k := ((2 * (k : Int)) : Int).toNat) ((Reads.old hr (hS5.old (by simp)))) (by omega)
      have hzb8 := hby _ (List.mem_of_getElem? hz8)
      refine ⟨pt b8 (o8 + ((2 * (k : Int)) : Int).toNat), fun _ h_ => rk (run_indexV (size := 1) rfl (h_.d 1 12) hA8 (h_.d 2 13) (by kernel_rfl) (by omega) (by simp)),
       .int .u8 z8, fun _ h_ => rk (run_load rfl (h_.d 3 14) (by kernel_rfl) (show w5.cell? ⟨b8, o8 + ((2 * (k : Int)) : Int).toNat, none⟩ = some (.int .u8 z8) from hq8)),
       i6 z8, fun _ h_ => rk (run_conv rfl (h_.d 4 15) (by kernel_rfl) (wrap_i64 (by omega)) (by kernel_rfl)),
       i6 (256 * z8), fun _ h_ => rk (run_mulI rfl rfl (h_.d 5 16) (by omega) rfl),
       i6 (m + (256 * z8)), fun _ h_ => rk (run_addI rfl (h_.d 0 11) (h_.d 6 17) (by omega) rfl),
       i6 (m + (256 * z8)), fun _ h_ => ras (h_.d 7 18), ?_⟩
      intro a7 hput
      replace s0 := hput.o 0 s0
      replace s2 := hput.o 2 s2
      replace s3 : sl a7 3 = i6 (m + (256 * z8)) := hput.new 8 3 rfl
      replace s4 := hput.o 4 s4
      replace s5 := hput.o 5 s5
      replace s6 := hput.o 6 s6
      replace s7 := hput.o 7 s7
      have s11 : sl a7 11 = i6 m := hput.new 0 11 rfl
      have s12 : sl a7 12 = .slice A n c := hput.new 1 12 rfl
      have s13 : sl a7 13 = i6 (2 * (k : Int)) := hput.new 2 13 rfl
      have s14 : sl a7 14 = pt b8 (o8 + ((2 * (k : Int)) : Int).toNat) := hput.new 3 14 rfl
      have s15 : sl a7 15 = .int .u8 z8 := hput.new 4 15 rfl
      have s16 : sl a7 16 = i6 z8 := hput.new 5 16 rfl
      have s17 : sl a7 17 = i6 (256 * z8) := hput.new 6 17 rfl
      have s18 : sl a7 18 = i6 (m + (256 * z8)) := hput.new 7 18 rfl
      replace hz := hput.size.trans hz
      replace hd := hput.defers.trans hd
      clear hput
      change Code.wp _ _ _ _ _
      refine wp_seq ?_
      refine wp_seq ?_
      refine seq_l [] hz ?_
      refine ⟨i6 (2 * (k : Int)), fun _ h_ => rmv (h_.b 4 s4),
       i6 (2 * (k : Int) + 1), fun _ h_ => rk (run_addI rfl (h_.d 0 19) rfl (by omega) rfl),
       .slice A n c, fun _ h_ => rmv (h_.b 0 s0),
       i6 n, fun _ h_ => rk (run_lenS rfl (h_.d 2 21) (by kernel_rfl)),
       .bool (decide ((2 * (k : Int) + 1 : Int) < n)), fun _ h_ => rk (run_cmp rfl (h_.d 1 20) (h_.d 3 22) rfl (by first | rfl | exact neq_dec _ _ | exact eq_dec _ _ | simp)), ?_⟩
      intro a9 hput
      replace s0 := hput.o 0 s0
      replace s2 := hput.o 2 s2
      replace s3 := hput.o 3 s3
      replace s4 := hput.o 4 s4
      replace s5 := hput.o 5 s5
      replace s6 := hput.o 6 s6
      replace s7 := hput.o 7 s7
      replace s11 := hput.o 11 s11
      replace s12 := hput.o 12 s12
      replace s13 := hput.o 13 s13
      replace s14 := hput.o 14 s14
      replace s15 := hput.o 15 s15
      replace s16 := hput.o 16 s16
      replace s17 := hput.o 17 s17
      replace s18 := hput.o 18 s18
      have s19 : sl a9 19 = i6 (2 * (k : Int)) := hput.new 0 19 rfl
      have s20 : sl a9 20 = i6 (2 * (k : Int) + 1) := hput.new 1 20 rfl
      have s21 : sl a9 21 = .slice A n c := hput.new 2 21 rfl
      have s22 : sl a9 22 = i6 n := hput.new 3 22 rfl
      have s23 : sl a9 23 = .bool (decide ((2 * (k : Int) + 1 : Int) < n)) := hput.new 4 23 rfl
      replace hz := hput.size.trans hz
      replace hd := hput.defers.trans hd
      clear hput
      change Code.wp _ _ _ _ _
      refine wp_cond_d s23 (fun hc23 => ?_) (fun hc23 => ?_)
      · clear s23
        refine seq_l [] hz ?_
        refine ⟨i6 (m + (256 * z8)), fun _ h_ => rmv (h_.b 3 s3),
         .slice A n c, fun _ h_ => rmv (h_.b 0 s0),
         i6 (2 * (k : Int)), fun _ h_ => rmv (h_.b 4 s4),
         i6 (2 * (k : Int) + 1), fun _ h_ => rk (run_addI rfl (h_.d 2 26) rfl (by omega) rfl), ?_⟩
        obtain ⟨b11, o11, z11, hA11, hb11, hz11, hq11⟩ := Reads.byte_at (k := ((2 * (k : Int) + 1) : Int).toNat) ((Reads.old hr (hS5.old (by simp)))) (by omega)
        have hzb11 := hby _ (List.mem_of_getElem? hz11)
        refine ⟨pt b11 (o11 + ((2 * (k : Int) + 1) : Int).toNat), fun _ h_ => rk (run_indexV (size := 1) rfl (h_.d 1 25) hA11 (h_.d 3 27) (by kernel_rfl) (by omega) (by simp)),
         .int .u8 z11, fun _ h_ => rk (run_load rfl (h_.d 4 28) (by kernel_rfl) (show w5.cell? ⟨b11, o11 + ((2 * (k : Int) + 1) : Int).toNat, none⟩ = some (.int .u8 z11) from hq11)),
         i6 z11, fun _ h_ => rk (run_conv rfl (h_.d 5 29) (by kernel_rfl) (wrap_i64 (by omega)) (by kernel_rfl)),
         i6 (m + (256 * z8) + z11), fun _ h_ => rk (run_addI rfl (h_.d 0 24) (h_.d 6 30) (by omega) rfl),
         i6 (m + (256 * z8) + z11), fun _ h_ => ras (h_.d 7 31), ?_⟩
        intro a10 hput
        replace s0 := hput.o 0 s0
        replace s2 := hput.o 2 s2
        replace s3 : sl a10 3 = i6 (m + (256 * z8) + z11) := hput.new 8 3 rfl
        replace s4 := hput.o 4 s4
        replace s5 := hput.o 5 s5
        replace s6 := hput.o 6 s6
        replace s7 := hput.o 7 s7
        replace s11 := hput.o 11 s11
        replace s12 := hput.o 12 s12
        replace s13 := hput.o 13 s13
        replace s14 := hput.o 14 s14
        replace s15 := hput.o 15 s15
        replace s16 := hput.o 16 s16
        replace s17 := hput.o 17 s17
        replace s18 := hput.o 18 s18
        replace s19 := hput.o 19 s19
        replace s20 := hput.o 20 s20
        replace s21 := hput.o 21 s21
        replace s22 := hput.o 22 s22
        have s24 : sl a10 24 = i6 (m + (256 * z8)) := hput.new 0 24 rfl
        have s25 : sl a10 25 = .slice A n c := hput.new 1 25 rfl
        have s26 : sl a10 26 = i6 (2 * (k : Int)) := hput.new 2 26 rfl
        have s27 : sl a10 27 = i6 (2 * (k : Int) + 1) := hput.new 3 27 rfl
        have s28 : sl a10 28 = pt b11 (o11 + ((2 * (k : Int) + 1) : Int).toNat) := hput.new 4 28 rfl
        have s29 : sl a10 29 = .int .u8 z11 := hput.new 5 29 rfl
        have s30 : sl a10 30 = i6 z11 := hput.new 6 30 rfl
        have s31 : sl a10 31 = i6 (m + (256 * z8) + z11) := hput.new 7 31 rfl
        replace hz := hput.size.trans hz
        replace hd := hput.defers.trans hd
        clear hput
        change Code.wp _ _ _ _ _
        refine wp_seq ?_
        refine seq_l [] hz ?_
        refine ⟨i6 (m + (256 * z8) + z11), fun _ h_ => rmv (h_.b 3 s3),
         .bool (decide ((65535 : Int) < m + (256 * z8) + z11)), fun _ h_ => rk (run_cmp rfl (h_.d 0 32) rfl rfl (by first | rfl | exact neq_dec _ _ | exact eq_dec _ _ | simp)), ?_⟩
        intro a12 hput
        replace s0 := hput.o 0 s0
        replace s2 := hput.o 2 s2
        replace s3 := hput.o 3 s3
        replace s4 := hput.o 4 s4
        replace s5 := hput.o 5 s5
        replace s6 := hput.o 6 s6
        replace s7 := hput.o 7 s7
        replace s11 := hput.o 11 s11
        replace s12 := hput.o 12 s12
        replace s13 := hput.o 13 s13
        replace s14 := hput.o 14 s14
        replace s15 := hput.o 15 s15
        replace s16 := hput.o 16 s16
        replace s17 := hput.o 17 s17
        replace s18 := hput.o 18 s18
        replace s19 := hput.o 19 s19
        replace s20 := hput.o 20 s20
        replace s21 := hput.o 21 s21
        replace s22 := hput.o 22 s22
        replace s24 := hput.o 24 s24
        replace s25 := hput.o 25 s25
        replace s26 := hput.o 26 s26
        replace s27 := hput.o 27 s27
        replace s28 := hput.o 28 s28
        replace s29 := hput.o 29 s29
        replace s30 := hput.o 30 s30
        replace s31 := hput.o 31 s31
        have s32 : sl a12 32 = i6 (m + (256 * z8) + z11) := hput.new 0 32 rfl
        have s33 : sl a12 33 = .bool (decide ((65535 : Int) < m + (256 * z8) + z11)) := hput.new 1 33 rfl
        replace hz := hput.size.trans hz
        replace hd := hput.defers.trans hd
        clear hput
        change Code.wp _ _ _ _ _
        refine wp_cond_d s33 (fun hc33 => ?_) (fun hc33 => ?_)
        · clear s33
          refine seq_l [] hz ?_
          refine ⟨i6 (m + (256 * z8) + z11), fun _ h_ => rmv (h_.b 3 s3),
           i6 (m + (256 * z8) + z11 - 65535), fun _ h_ => rk (run_subI rfl (h_.d 0 34) rfl (by omega) rfl),
           i6 (m + (256 * z8) + z11 - 65535), fun _ h_ => ras (h_.d 1 35), ?_⟩
          intro a13 hput
          replace s0 := hput.o 0 s0
          replace s2 := hput.o 2 s2
          replace s3 : sl a13 3 = i6 (m + (256 * z8) + z11 - 65535) := hput.new 2 3 rfl
          replace s4 := hput.o 4 s4
          replace s5 := hput.o 5 s5
          replace s6 := hput.o 6 s6
          replace s7 := hput.o 7 s7
          replace s11 := hput.o 11 s11
          replace s12 := hput.o 12 s12
          replace s13 := hput.o 13 s13
          replace s14 := hput.o 14 s14
          replace s15 := hput.o 15 s15
          replace s16 := hput.o 16 s16
          replace s17 := hput.o 17 s17
          replace s18 := hput.o 18 s18
          replace s19 := hput.o 19 s19
          replace s20 := hput.o 20 s20
          replace s21 := hput.o 21 s21
          replace s22 := hput.o 22 s22
          replace s24 := hput.o 24 s24
          replace s25 := hput.o 25 s25
          replace s26 := hput.o 26 s26
          replace s27 := hput.o 27 s27
          replace s28 := hput.o 28 s28
          replace s29 := hput.o 29 s29
          replace s30 := hput.o 30 s30
          replace s31 := hput.o 31 s31
          replace s32 := hput.o 32 s32
          have s34 : sl a13 34 = i6 (m + (256 * z8) + z11) := hput.new 0 34 rfl
          have s35 : sl a13 35 = i6 (m + (256 * z8) + z11 - 65535) := hput.new 1 35 rfl
          replace hz := hput.size.trans hz
          replace hd := hput.defers.trans hd
          clear hput
          change Code.wp _ _ _ _ _
          refine seq_l [] hz ?_
          refine ⟨i6 (2 * (k : Int)), fun _ h_ => rmv (h_.b 4 s4),
           i6 (2 * (k : Int) + 2), fun _ h_ => rk (run_addI rfl (h_.d 0 9) rfl (by omega) rfl),
           i6 (2 * (k : Int) + 2), fun _ h_ => ras (h_.d 1 10), ?_⟩
          intro a14 hput
          replace s0 := hput.o 0 s0
          replace s2 := hput.o 2 s2
          replace s3 := hput.o 3 s3
          replace s4 : sl a14 4 = i6 (2 * (k : Int) + 2) := hput.new 2 4 rfl
          replace s5 := hput.o 5 s5
          replace s6 := hput.o 6 s6
          replace s7 := hput.o 7 s7
          have s9 : sl a14 9 = i6 (2 * (k : Int)) := hput.new 0 9 rfl
          have s10 : sl a14 10 = i6 (2 * (k : Int) + 2) := hput.new 1 10 rfl
          replace s11 := hput.o 11 s11
          replace s12 := hput.o 12 s12
          replace s13 := hput.o 13 s13
          replace s14 := hput.o 14 s14
          replace s15 := hput.o 15 s15
          replace s16 := hput.o 16 s16
          replace s17 := hput.o 17 s17
          replace s18 := hput.o 18 s18
          replace s19 := hput.o 19 s19
          replace s20 := hput.o 20 s20
          replace s21 := hput.o 21 s21
          replace s22 := hput.o 22 s22
          replace s24 := hput.o 24 s24
          replace s25 := hput.o 25 s25
          replace s26 := hput.o 26 s26
          replace s27 := hput.o 27 s27
          replace s28 := hput.o 28 s28
          replace s29 := hput.o 29 s29
          replace s30 := hput.o 30 s30
          replace s31 := hput.o 31 s31
          replace s32 := hput.o 32 s32
          replace s34 := hput.o 34 s34
          replace s35 := hput.o 35 s35
          replace hz := hput.size.trans hz
          replace hd := hput.defers.trans hd
          clear hput
          replace s4 : sl a14 4 = i6 (2 * ((k + 1 : Nat) : Int)) := s4.trans (congrArg _ (by omega))
          refine ⟨⟨k + 1, _, by omega, by omega, by rw [wsum_take bs k _ _ (by rw [← show (2 * (k : Int)).toNat = 2 * k by omega]; exact hz8) (by rw [← show (2 * (k : Int) + 1).toNat = 2 * k + 1 by omega]; exact hz11)]; omega, hz, hd, s0, s2, s3, s4, hS5⟩, ?_⟩
          show n - (intOf (sl a14 4)).toNat < n - (intOf (sl a5 4)).toNat
          rw [show sl a14 4 = _ from s4, show sl a5 4 = _ from hmu0]
          simp only [intOf]
          omega
        · clear s33
          refine wp_skip ?_
          change Code.wp _ _ _ _ _
          refine seq_l [] hz ?_
          refine ⟨i6 (2 * (k : Int)), fun _ h_ => rmv (h_.b 4 s4),
           i6 (2 * (k : Int) + 2), fun _ h_ => rk (run_addI rfl (h_.d 0 9) rfl (by omega) rfl),
           i6 (2 * (k : Int) + 2), fun _ h_ => ras (h_.d 1 10), ?_⟩
          intro a15 hput
          replace s0 := hput.o 0 s0
          replace s2 := hput.o 2 s2
          replace s3 := hput.o 3 s3
          replace s4 : sl a15 4 = i6 (2 * (k : Int) + 2) := hput.new 2 4 rfl
          replace s5 := hput.o 5 s5
          replace s6 := hput.o 6 s6
          replace s7 := hput.o 7 s7
          have s9 : sl a15 9 = i6 (2 * (k : Int)) := hput.new 0 9 rfl
          have s10 : sl a15 10 = i6 (2 * (k : Int) + 2) := hput.new 1 10 rfl
          replace s11 := hput.o 11 s11
          replace s12 := hput.o 12 s12
          replace s13 := hput.o 13 s13
          replace s14 := hput.o 14 s14
          replace s15 := hput.o 15 s15
          replace s16 := hput.o 16 s16
          replace s17 := hput.o 17 s17
          replace s18 := hput.o 18 s18
          replace s19 := hput.o 19 s19
          replace s20 := hput.o 20 s20
          replace s21 := hput.o 21 s21
          replace s22 := hput.o 22 s22
          replace s24 := hput.o 24 s24
          replace s25 := hput.o 25 s25
          replace s26 := hput.o 26 s26
          replace s27 := hput.o 27 s27
          replace s28 := hput.o 28 s28
          replace s29 := hput.o 29 s29
          replace s30 := hput.o 30 s30
          replace s31 := hput.o 31 s31
          replace s32 := hput.o 32 s32
          replace hz := hput.size.trans hz
          replace hd := hput.defers.trans hd
          clear hput
          replace s4 : sl a15 4 = i6 (2 * ((k + 1 : Nat) : Int)) := s4.trans (congrArg _ (by omega))
          refine ⟨⟨k + 1, _, by omega, by omega, by rw [wsum_take bs k _ _ (by rw [← show (2 * (k : Int)).toNat = 2 * k by omega]; exact hz8) (by rw [← show (2 * (k : Int) + 1).toNat = 2 * k + 1 by omega]; exact hz11)]; omega, hz, hd, s0, s2, s3, s4, hS5⟩, ?_⟩
          show n - (intOf (sl a15 4)).toNat < n - (intOf (sl a5 4)).toNat
          rw [show sl a15 4 = _ from s4, show sl a5 4 = _ from hmu0]
          simp only [intOf]
          omega
      · clear s23
        exfalso
        omega
    · clear s8
      refine wp_exit ?_
      change Code.wp _ _ _ _ _
      refine wp_seq ?_
      refine seq_l [] hz ?_
      refine ⟨i6 m, fun _ h_ => rmv (h_.b 3 s3),
       i6 (65535 - m), fun _ h_ => rk (run_subI rfl rfl (h_.d 0 36) (by omega) rfl),
       i6 (65535 - m), fun _ h_ => ras (h_.d 1 37), ?_⟩
      intro a16 hput
      replace s2 : sl a16 2 = i6 (65535 - m) := hput.new 2 2 rfl
      replace hz := hput.size.trans hz
      replace hd := hput.defers.trans hd
      clear hput s0 s3 s4 s5 s6 s7
      change Code.wp _ _ _ _ _
      refine wp_ret ?_
      refine ret1 (P := Try.prog) (fn := Try.f65) hd s2 (hR_ _ _ ?_)
      obtain rfl : n = 2 * k := by omega
      rw [List.take_of_length_le (by omega)] at hc0_2
      exact ⟨m, rfl, hc0_1, hc0_2, (hS5.old (by simp))⟩
set_option maxRecDepth 100000 in
set_option maxHeartbeats 800000 in
theorem fill02_any (A : Option Addr) (n c : Nat) (bs : List Int) (W : World) (hn : n ≤ 100000) (h14 : 14 ≤ n) (hev : n % 2 = 0) (hr : Reads W W.heap.size 1 A n (u8s bs)) (hby : Bys bs) :
    Calls Try.prog 32 #[.slice A n c, i6 12] W (fun r w' => ∃ A' c' bs', r = .returned (.slice A' n c') ∧ w'.ownsRow W.heap.size 5 1 (.slice A' n c') n (u8s bs') ∧ Bys bs' ∧ wsum bs' % 65535 = 0 ∧ Below W.heap.size W w') := by
  have hbl : bs.length = n := u8s_of hr
  have hS := S.start W
  refine calls_walk Try.func32 rfl fun R_ hR_ a hz hd hargs => ?_
  replace hz : a.tmps.size = 33 := hz.trans (by kernel_rfl)
  have s0 := hargs 0 _ rfl
  have s1 := hargs 1 _ rfl
  clear hargs
  refine wp_seq ?_
  refine seq_l [] hz ?_
  refine ⟨.slice none 0 0, fun _ h_ => rk (run_assign rfl rfl), ?_⟩
  intro a2 hput
  replace s0 := hput.o 0 s0
  replace s1 := hput.o 1 s1
  have s4 : sl a2 4 = .slice none 0 0 := hput.new 0 4 rfl
  replace hz := hput.size.trans hz
  replace hd := hput.defers.trans hd
  clear hput
  change Code.wp _ _ _ _ _
  refine wp_seq ?_
  refine seq_l [] hz ?_
  refine ⟨.slice none 0 0, fun _ h_ => rk (run_assign rfl rfl), ?_⟩
  intro a3 hput
  replace s0 := hput.o 0 s0
  replace s1 := hput.o 1 s1
  replace s4 := hput.o 4 s4
  have s5 : sl a3 5 = .slice none 0 0 := hput.new 0 5 rfl
  replace hz := hput.size.trans hz
  replace hd := hput.defers.trans hd
  clear hput
  change Code.wp _ _ _ _ _
  refine wp_seq ?_
  refine seq_l [2] hz ?_
  refine ⟨.slice none 0 0, fun _ h_ => rmv (h_.b 5 s5),
   .slice A n c, fun _ h_ => rmv (h_.b 0 s0), ?_⟩
  have hS5 := hS.nilrow 5 1
  clear hS
  refine ⟨fun a_ h_ => sap0 (bytes := 1) (news := u8s bs) hS5 0 (on_none rfl) rfl (h_.d 0 7) (h_.d 1 8) (Reads.old hr (hS5.old (by simp))) (by exact u8s_one _) (by (try unfold maxLen); omega) (by (try unfold maxLen); omega) fun A6 c6 w6 hS6 => ⟨_, rfl, ?_⟩, trivial⟩
  clear h_ a_ hS5
  replace hS6 : S (kap W) ((rowA (.slice A6 n c6) 5 1 n (u8s bs)) :: []) ((memA W W.heap.size) :: []) w6 := hS6
  obtain ⟨go, hA⟩ := hS6.rowAt (i := 0) rfl (by omega)
  refine ⟨.slice A6 n c6, fun _ h_ => ras (h_.d 2 9), ?_⟩
  intro a4 hput
  replace s1 := hput.o 1 s1
  replace s4 := hput.o 4 s4
  replace s5 : sl a4 5 = .slice A6 n c6 := hput.new 3 5 rfl
  replace hz := hput.size.trans hz
  replace hd := hput.defers.trans hd
  clear hput s0
  change Code.wp _ _ _ _ _
  refine wp_seq ?_
  refine seq_l [3] hz ?_
  refine ⟨.slice A6 n c6, fun _ h_ => rmv (h_.b 5 s5),
   i6 12, fun _ h_ => rmv (h_.b 1 s1),
   pt go 12, fun _ h_ => rk (run_indexV (size := 1) rfl (h_.d 0 10) hA (h_.d 1 11) (by kernel_rfl) (by omega) (by rfl)), ?_⟩
  refine ⟨fun a_ h_ => st_rowset (u := .int .u8 0) 0 hS6 hA rfl (on_none rfl) rfl (h_.d 2 12) rfl rfl (by kernel_rfl) (by omega) rfl fun w8 hS8 => ⟨_, rfl, ?_⟩, trivial⟩
  clear h_ a_ hS6
  rw [u8s_set] at hS8
  replace hS8 : S (kap W) ((rowA (.slice A6 n c6) 5 1 n (u8s (bs.set 12 0))) :: []) ((memA W W.heap.size) :: []) w8 := hS8
  intro a7 hput
  replace s1 := hput.o 1 s1
  replace s4 := hput.o 4 s4
  replace s5 := hput.o 5 s5
  replace hz := hput.size.trans hz
  replace hd := hput.defers.trans hd
  clear hput
  change Code.wp _ _ _ _ _
  refine wp_seq ?_
  refine seq_l [4] hz ?_
  refine ⟨.slice A6 n c6, fun _ h_ => rmv (h_.b 5 s5),
   i6 12, fun _ h_ => rmv (h_.b 1 s1),
   i6 13, fun _ h_ => rk (run_addI rfl (h_.d 1 14) rfl (by omega) rfl),
   pt go 13, fun _ h_ => rk (run_indexV (size := 1) rfl (h_.d 0 13) hA (h_.d 2 15) (by kernel_rfl) (by omega) (by rfl)), ?_⟩
  refine ⟨fun a_ h_ => st_rowset (u := .int .u8 0) 0 hS8 hA rfl (on_none rfl) rfl (h_.d 3 16) rfl rfl (by kernel_rfl) (by omega) rfl fun w10 hS10 => ⟨_, rfl, ?_⟩, trivial⟩
  clear h_ a_ hS8
  rw [u8s_set] at hS10
  replace hS10 : S (kap W) ((rowA (.slice A6 n c6) 5 1 n (u8s (two_ bs 12 0 0))) :: []) ((memA W W.heap.size) :: []) w10 := hS10
  intro a9 hput
  replace s1 := hput.o 1 s1
  replace s4 := hput.o 4 s4
  replace s5 := hput.o 5 s5
  replace hz := hput.size.trans hz
  replace hd := hput.defers.trans hd
  clear hput
  change Code.wp _ _ _ _ _
  refine wp_seq ?_
  refine seq_l [1] hz ?_
  refine ⟨.slice A6 n c6, fun _ h_ => rmv (h_.b 5 s5), ?_⟩
  refine ⟨fun a_ h_ => st_call (on_none rfl) (run_call rfl (map1 (h_.d 0 17)) rfl) (of02_any _ n _ (two_ bs 12 0 0) _ (by omega) (by omega) (hS10.rd (i := 0) rfl) (two_byte bs 12 0 0 hby (by omega) (by omega))) ?_, trivial⟩
  rintro e w12 ⟨m, rfl, hm1, hm2, hb12⟩
  refine ⟨_, rfl, _, rfl, ?_⟩
  clear h_ a_
  have hS12 := hS10.below hb12
  clear hS10 hb12
  refine ⟨i6 (65535 - m), fun _ h_ => ras (h_.d 1 18), ?_⟩
  intro a11 hput
  replace s1 := hput.o 1 s1
  replace s4 := hput.o 4 s4
  replace s5 := hput.o 5 s5
  have s6 : sl a11 6 = i6 (65535 - m) := hput.new 2 6 rfl
  replace hz := hput.size.trans hz
  replace hd := hput.defers.trans hd
  clear hput
  change Code.wp _ _ _ _ _
  refine wp_seq ?_
  refine seq_l [6] hz ?_
  refine ⟨.slice A6 n c6, fun _ h_ => rmv (h_.b 5 s5),
   i6 12, fun _ h_ => rmv (h_.b 1 s1),
   i6 (65535 - m), fun _ h_ => rmv (h_.b 6 s6),
   i6 ((65535 - m) / 256), fun _ h_ => rk (run_bin rfl (h_.d 2 21) rfl (by show (pure _ : Sem Value) = pure _; rw [Int.tdiv_eq_ediv_of_nonneg (by omega)]; exact congrArg _ (congrArg _ (by rw [IntKind.wrap_i64]; omega)))),
   .int .u8 ((65535 - m) / 256), fun _ h_ => rk (run_conv rfl (h_.d 3 22) (by kernel_rfl) (wrap_u8 (by omega)) (by kernel_rfl)),
   pt go 12, fun _ h_ => rk (run_indexV (size := 1) rfl (h_.d 0 19) hA (h_.d 1 20) (by kernel_rfl) (by omega) (by rfl)), ?_⟩
  refine ⟨fun a_ h_ => st_rowset (u := .int .u8 ((65535 - m) / 256)) 0 hS12 hA rfl (on_none rfl) rfl (h_.d 5 24) (h_.d 4 23) rfl (by kernel_rfl) (by omega) rfl fun w14 hS14 => ⟨_, rfl, ?_⟩, trivial⟩
  clear h_ a_ hS12
  rw [u8s_set] at hS14
  replace hS14 : S (kap W) ((rowA (.slice A6 n c6) 5 1 n (u8s ((two_ bs 12 0 0).set 12 ((65535 - m) / 256)))) :: []) ((memA W W.heap.size) :: []) w14 := hS14
  intro a13 hput
  replace s1 := hput.o 1 s1
  replace s4 := hput.o 4 s4
  replace s5 := hput.o 5 s5
  replace s6 := hput.o 6 s6
  replace hz := hput.size.trans hz
  replace hd := hput.defers.trans hd
  clear hput
  change Code.wp _ _ _ _ _
  refine wp_seq ?_
  refine seq_l [7] hz ?_
  refine ⟨.slice A6 n c6, fun _ h_ => rmv (h_.b 5 s5),
   i6 12, fun _ h_ => rmv (h_.b 1 s1),
   i6 13, fun _ h_ => rk (run_addI rfl (h_.d 1 26) rfl (by omega) rfl),
   i6 (65535 - m), fun _ h_ => rmv (h_.b 6 s6),
   i6 ((65535 - m) % 256), fun _ h_ => rk (run_bin rfl (h_.d 3 28) rfl (by show (pure _ : Sem Value) = pure _; exact congrArg _ (congrArg _ (Int.tmod_eq_emod_of_nonneg (by omega))))),
   .int .u8 ((65535 - m) % 256), fun _ h_ => rk (run_conv rfl (h_.d 4 29) (by kernel_rfl) (wrap_u8 (by omega)) (by kernel_rfl)),
   pt go 13, fun _ h_ => rk (run_indexV (size := 1) rfl (h_.d 0 25) hA (h_.d 2 27) (by kernel_rfl) (by omega) (by rfl)), ?_⟩
  refine ⟨fun a_ h_ => st_rowset (u := .int .u8 ((65535 - m) % 256)) 0 hS14 hA rfl (on_none rfl) rfl (h_.d 6 31) (h_.d 5 30) rfl (by kernel_rfl) (by omega) rfl fun w16 hS16 => ⟨_, rfl, ?_⟩, trivial⟩
  clear h_ a_ hS14
  rw [u8s_set, two_set] at hS16
  replace hS16 : S (kap W) ((rowA (.slice A6 n c6) 5 1 n (u8s (two_ bs 12 ((65535 - m) / 256) ((65535 - m) % 256)))) :: []) ((memA W W.heap.size) :: []) w16 := hS16
  intro a15 hput
  replace s4 := hput.o 4 s4
  replace s5 := hput.o 5 s5
  replace hz := hput.size.trans hz
  replace hd := hput.defers.trans hd
  clear hput s1 s6
  change Code.wp _ _ _ _ _
  refine wp_seq ?_
  refine seq_l [] hz ?_
  refine ⟨.slice A6 n c6, fun _ h_ => rmv (h_.b 5 s5),
   .slice A6 n c6, fun _ h_ => ras (h_.d 0 32), ?_⟩
  intro a17 hput
  replace s4 : sl a17 4 = .slice A6 n c6 := hput.new 1 4 rfl
  replace hz := hput.size.trans hz
  replace hd := hput.defers.trans hd
  clear hput s5
  change Code.wp _ _ _ _ _
  refine wp_ret ?_
  refine ret1 (P := Try.prog) (fn := Try.f32) hd s4 (hR_ _ _ ?_)
  exact ⟨_, _, _, rfl, hS16.rowBase (i := 0) rfl (by simp : memA W W.heap.size ∈ _), two_byte bs 12 _ _ hby (by omega) (by omega), (by rw [wsum_two bs 12 _ _ (by omega) (by omega)]; omega), (hS16.old (by simp))⟩
theorem S.blkRow {κ : Kap} {L I : List Atom} {w : World} {g t size n : Nat} {cs : Array Value} (h : S κ (blkA g t cs :: L) I w) (hs : cs.size = n * size) (hn : n ≤ 9223372036854775807) : S κ (rowA (.slice (some ⟨g, 0, none⟩) n n) t size n cs.toList :: L) I w :=
  h.imp fun w f ⟨h1, h2⟩ => ⟨by rw [h1]; rfl, blk_row h2 (Nat.zero_le _) hs hn⟩
theorem Bys.z16 : Bys [0, 0, 0, 0, 0, 0, 0, 0, 0, 0, 0, 0, 0, 0, 0, 0] := fun z hz => by simp at hz; omega
theorem Bys.z1 : Bys [0] := fun z hz => by simp at hz; omega
theorem Bys.two (v : Int) : Bys [2, v % 256] := fun z hz => by simp at hz; omega
set_option maxRecDepth 100000 in
set_option maxHeartbeats 800000 in
theorem bytes05_any (p : PkV) (q : PkP) (W : World) (hsm : PkSm p) (hok : PkOK W p q) (hrt : p.kind = 4 → ∀ x ∈ p.lsas, rightB x.1 = true) :
    Calls Try.prog 9 #[.agg #[i6 p.kind, i6 p.src, i6 p.every, i6 p.dead, i6 p.prio, i6 p.dr, i6 p.bdr, .slice q.sA p.seen.length q.sc, .bool p.init, .bool p.more, .bool p.master, i6 p.seq, .slice q.hA p.heads.length q.hc, .slice q.kA p.keys.length q.kc, .slice q.lA p.lsas.length q.lc, .slice q.aA p.acks.length q.ac]] W (fun r w' => ∃ A n c bs, r = .returned (.slice A n c) ∧ w'.ownsRow W.heap.size 5 1 (.slice A n c) n (u8s bs) ∧ (24 ≤ n ∧ n ≤ 20000) ∧ n % 2 = 0 ∧ Bys bs ∧ wsum bs % 65535 = 0 ∧ Below W.heap.size W w') := by
  have hS := S.start W
  refine calls_walk Try.func9 rfl fun R_ hR_ a hz hd hargs => ?_
  replace hz : a.tmps.size = 35 := hz.trans (by kernel_rfl)
  have s0 := hargs 0 _ rfl
  clear hargs
  refine wp_seq ?_
  refine seq_l [0] hz ?_
  refine ⟨fun a_ h_ => st_box (cells := #[i6 p.kind, i6 p.src, i6 p.every, i6 p.dead, i6 p.prio, i6 p.dr, i6 p.bdr, .slice q.sA p.seen.length q.sc, .bool p.init, .bool p.more, .bool p.master, i6 p.seq, .slice q.hA p.heads.length q.hc, .slice q.kA p.keys.length q.kc, .slice q.lA p.lsas.length q.lc, .slice q.aA p.acks.length q.ac]) hS (on_none rfl) rfl (h_.b 0 s0) (by kernel_rfl) fun g3 w3 hS3 hb3 => ⟨_, rfl, ?_⟩, trivial⟩
  clear h_ a_ hS
  clear hb3
  refine ⟨.slice none 0 0, fun _ h_ => rk (run_assign rfl rfl), ?_⟩
  intro a2 hput
  have s1 : sl a2 1 = pt g3 0 := hput.new 0 1 rfl
  have s2 : sl a2 2 = .slice none 0 0 := hput.new 1 2 rfl
  replace hz := hput.size.trans hz
  replace hd := hput.defers.trans hd
  clear hput s0
  change Code.wp _ _ _ _ _
  refine wp_seq ?_
  refine seq_l [1] hz ?_
  refine ⟨.agg #[i6 p.kind, i6 p.src, i6 p.every, i6 p.dead, i6 p.prio, i6 p.dr, i6 p.bdr, .slice q.sA p.seen.length q.sc, .bool p.init, .bool p.more, .bool p.master, i6 p.seq, .slice q.hA p.heads.length q.hc, .slice q.kA p.keys.length q.kc, .slice q.lA p.lsas.length q.lc, .slice q.aA p.acks.length q.ac], fun _ h_ => rk (lbS 16 (hS3.blk (i := 0) rfl) rfl (h_.b 1 s1)), ?_⟩
  refine ⟨fun a_ h_ => st_call (on_none rfl) (run_call rfl (map1 (h_.d 0 5)) rfl) (body05_any p q _ hsm (hok.below (hS3.old (by simp))) hrt) ?_, trivial⟩
  rintro e w5 ⟨A5, n5, c5, bs5, rfl, ho5, hy5, hn5, hb5⟩
  refine ⟨_, rfl, _, rfl, ?_⟩
  clear h_ a_
  have hS5 := hS3.pushRowI hb5 ho5
  clear hS3 hb5 ho5
  refine ⟨.slice A5 n5 c5, fun _ h_ => ras (h_.d 1 6), ?_⟩
  intro a4 hput
  replace s1 := hput.o 1 s1
  replace s2 := hput.o 2 s2
  have s3 : sl a4 3 = .slice A5 n5 c5 := hput.new 2 3 rfl
  replace hz := hput.size.trans hz
  replace hd := hput.defers.trans hd
  clear hput
  change Code.wp _ _ _ _ _
  refine wp_seq ?_
  refine seq_l [3] hz ?_
  refine ⟨pt g3 0, fun _ h_ => rk (fa 0 rfl (h_.b 1 s1)),
   i6 p.kind, fun _ h_ => rk (ld hS5 0 rfl (h_.d 0 7)),
   .int .u8 (p.kind % 256), fun _ h_ => rk (run_convW rfl (h_.d 1 8) (by kernel_rfl) (wrap_u8m _) (by kernel_rfl)), ?_⟩
  refine ⟨fun a_ h_ => st_lit (e := 5) (vals := [(0, .int .u8 2), (1, .int .u8 (p.kind % 256))]) (cells := #[.int .u8 2, .int .u8 (p.kind % 256)]) hS5 (on_none rfl) rfl (parts2 rfl (h_.d 2 9)) fun g7 w7 hS7 hb7 => ⟨_, rfl, ?_⟩, trivial⟩
  clear h_ a_ hS5
  clear hb7
  have hSr : S (kap W) ((rowA (.slice (some ⟨g7, 0, none⟩) 2 2) 5 1 2 (u8s [2, p.kind % 256])) :: (blkA g3 31 #[i6 p.kind, i6 p.src, i6 p.every, i6 p.dead, i6 p.prio, i6 p.dr, i6 p.bdr, .slice q.sA p.seen.length q.sc, .bool p.init, .bool p.more, .bool p.master, i6 p.seq, .slice q.hA p.heads.length q.hc, .slice q.kA p.keys.length q.kc, .slice q.lA p.lsas.length q.lc, .slice q.aA p.acks.length q.ac]) :: []) ((rowA (.slice A5 n5 c5) 5 1 n5 (u8s bs5)) :: (memA W W.heap.size) :: []) w7 := hS7.blkRow rfl (by decide)
  clear hS7
  have hS7 := hSr
  clear hSr
  refine ⟨.slice (some ⟨g7, 0, none⟩) 2 2, fun _ h_ => ras (h_.d 3 10), ?_⟩
  intro a6 hput
  replace s1 := hput.o 1 s1
  replace s2 := hput.o 2 s2
  replace s3 := hput.o 3 s3
  have s4 : sl a6 4 = .slice (some ⟨g7, 0, none⟩) 2 2 := hput.new 4 4 rfl
  replace hz := hput.size.trans hz
  replace hd := hput.defers.trans hd
  clear hput
  change Code.wp _ _ _ _ _
  refine wp_seq ?_
  refine seq_l [4] hz ?_
  refine ⟨.slice (some ⟨g7, 0, none⟩) 2 2, fun _ h_ => rmv (h_.b 4 s4),
   .slice A5 n5 c5, fun _ h_ => rmv (h_.b 3 s3),
   i6 n5, fun _ h_ => rk (run_lenS rfl (h_.d 1 12) (by kernel_rfl)),
   i6 (24 + n5), fun _ h_ => rk (run_addI rfl rfl (h_.d 2 13) (by omega) rfl), ?_⟩
  refine ⟨fun a_ h_ => st_call (on_none rfl) (run_call rfl (map3 (h_.d 0 11) rfl (h_.d 3 14)) rfl) (put05_any _ _ _ 2 (24 + n5) [2, p.kind % 256] _ (by omega) (by omega) (hS7.front (i := 0) rfl)) ?_, trivial⟩
  rintro e w9 ⟨A9, c9, rfl, hS9⟩
  refine ⟨_, rfl, _, rfl, ?_⟩
  clear h_ a_ hS7
  replace hS9 : S (kap W) ((rowA (.slice A9 (2 + 2) c9) 5 1 (2 + 2) (u8s ([2, p.kind % 256] ++ numB 2 (24 + n5)))) :: (blkA g3 31 #[i6 p.kind, i6 p.src, i6 p.every, i6 p.dead, i6 p.prio, i6 p.dr, i6 p.bdr, .slice q.sA p.seen.length q.sc, .bool p.init, .bool p.more, .bool p.master, i6 p.seq, .slice q.hA p.heads.length q.hc, .slice q.kA p.keys.length q.kc, .slice q.lA p.lsas.length q.lc, .slice q.aA p.acks.length q.ac]) :: []) ((rowA (.slice A5 n5 c5) 5 1 n5 (u8s bs5)) :: (memA W W.heap.size) :: []) w9 := hS9
  refine ⟨.slice A9 (2 + 2) c9, fun _ h_ => ras (h_.d 4 15), ?_⟩
  intro a8 hput
  replace s1 := hput.o 1 s1
  replace s2 := hput.o 2 s2
  replace s3 := hput.o 3 s3
  replace s4 : sl a8 4 = .slice A9 (2 + 2) c9 := hput.new 5 4 rfl
  replace hz := hput.size.trans hz
  replace hd := hput.defers.trans hd
  clear hput
  change Code.wp _ _ _ _ _
  refine wp_seq ?_
  refine seq_l [3] hz ?_
  refine ⟨.slice A9 (2 + 2) c9, fun _ h_ => rmv (h_.b 4 s4),
   pt g3 1, fun _ h_ => rk (fa 1 rfl (h_.b 1 s1)),
   i6 p.src, fun _ h_ => rk (ld hS9 1 rfl (h_.d 1 17)), ?_⟩
  refine ⟨fun a_ h_ => st_call (on_none rfl) (run_call rfl (map3 (h_.d 0 16) rfl (h_.d 2 18)) rfl) (put05_any _ _ _ 4 p.src ([2, p.kind % 256] ++ numB 2 (24 + n5)) _ (by omega) (by omega) (hS9.front (i := 0) rfl)) ?_, trivial⟩
  rintro e w11 ⟨A11, c11, rfl, hS11⟩
  refine ⟨_, rfl, _, rfl, ?_⟩
  clear h_ a_ hS9
  replace hS11 : S (kap W) ((rowA (.slice A11 (2 + 2 + 4) c11) 5 1 (2 + 2 + 4) (u8s (([2, p.kind % 256] ++ numB 2 (24 + n5)) ++ numB 4 p.src))) :: (blkA g3 31 #[i6 p.kind, i6 p.src, i6 p.every, i6 p.dead, i6 p.prio, i6 p.dr, i6 p.bdr, .slice q.sA p.seen.length q.sc, .bool p.init, .bool p.more, .bool p.master, i6 p.seq, .slice q.hA p.heads.length q.hc, .slice q.kA p.keys.length q.kc, .slice q.lA p.lsas.length q.lc, .slice q.aA p.acks.length q.ac]) :: []) ((rowA (.slice A5 n5 c5) 5 1 n5 (u8s bs5)) :: (memA W W.heap.size) :: []) w11 := hS11
  refine ⟨.slice A11 (2 + 2 + 4) c11, fun _ h_ => ras (h_.d 3 19), ?_⟩
  intro a10 hput
  replace s2 := hput.o 2 s2
  replace s3 := hput.o 3 s3
  replace s4 : sl a10 4 = .slice A11 (2 + 2 + 4) c11 := hput.new 4 4 rfl
  replace hz := hput.size.trans hz
  replace hd := hput.defers.trans hd
  clear hput s1
  change Code.wp _ _ _ _ _
  refine wp_seq ?_
  refine seq_l [1, 2] hz ?_
  refine ⟨.slice A11 (2 + 2 + 4) c11, fun _ h_ => rmv (h_.b 4 s4), ?_⟩
  refine ⟨fun a_ h_ => st_lit (e := 5) (vals := [(0, .int .u8 0), (1, .int .u8 0), (2, .int .u8 0), (3, .int .u8 0), (4, .int .u8 0), (5, .int .u8 0), (6, .int .u8 0), (7, .int .u8 0), (8, .int .u8 0), (9, .int .u8 0), (10, .int .u8 0), (11, .int .u8 0), (12, .int .u8 0), (13, .int .u8 0), (14, .int .u8 0), (15, .int .u8 0)]) (cells := #[.int .u8 0, .int .u8 0, .int .u8 0, .int .u8 0, .int .u8 0, .int .u8 0, .int .u8 0, .int .u8 0, .int .u8 0, .int .u8 0, .int .u8 0, .int .u8 0, .int .u8 0, .int .u8 0, .int .u8 0, .int .u8 0]) hS11 (on_none rfl) rfl ((by simp [Act.eval])) fun g13 w13 hS13 hb13 => ⟨_, rfl, ?_⟩, trivial⟩
  clear h_ a_ hS11
  clear hb13
  refine ⟨fun a_ h_ => sap (bytes := 1) (news := [.int .u8 0, .int .u8 0, .int .u8 0, .int .u8 0, .int .u8 0, .int .u8 0, .int .u8 0, .int .u8 0, .int .u8 0, .int .u8 0, .int .u8 0, .int .u8 0, .int .u8 0, .int .u8 0, .int .u8 0, .int .u8 0]) hS13 1 (on_none rfl) rfl (h_.d 0 20) (h_.d 1 21) (reads_blk (hS13.blk (i := 0) rfl) rfl) (by simp [Value.oneCell']) (by (try unfold maxLen); omega) (by (try unfold maxLen); omega) fun A14 c14 w14 hS14 => ⟨_, rfl, ?_⟩, trivial⟩
  clear h_ a_ hS13
  replace hS14 : S (kap W) ((blkA g13 5 #[.int .u8 0, .int .u8 0, .int .u8 0, .int .u8 0, .int .u8 0, .int .u8 0, .int .u8 0, .int .u8 0, .int .u8 0, .int .u8 0, .int .u8 0, .int .u8 0, .int .u8 0, .int .u8 0, .int .u8 0, .int .u8 0]) :: (rowA (.slice A14 (2 + 2 + 4 + 16) c14) 5 1 (2 + 2 + 4 + 16) (u8s (([2, p.kind % 256] ++ numB 2 (24 + n5)) ++ numB 4 p.src) ++ [.int .u8 0, .int .u8 0, .int .u8 0, .int .u8 0, .int .u8 0, .int .u8 0, .int .u8 0, .int .u8 0, .int .u8 0, .int .u8 0, .int .u8 0, .int .u8 0, .int .u8 0, .int .u8 0, .int .u8 0, .int .u8 0])) :: (blkA g3 31 #[i6 p.kind, i6 p.src, i6 p.every, i6 p.dead, i6 p.prio, i6 p.dr, i6 p.bdr, .slice q.sA p.seen.length q.sc, .bool p.init, .bool p.more, .bool p.master, i6 p.seq, .slice q.hA p.heads.length q.hc, .slice q.kA p.keys.length q.kc, .slice q.lA p.lsas.length q.lc, .slice q.aA p.acks.length q.ac]) :: []) ((rowA (.slice A5 n5 c5) 5 1 n5 (u8s bs5)) :: (memA W W.heap.size) :: []) w14 := hS14
  replace hS14 : S (kap W) ((blkA g13 5 #[.int .u8 0, .int .u8 0, .int .u8 0, .int .u8 0, .int .u8 0, .int .u8 0, .int .u8 0, .int .u8 0, .int .u8 0, .int .u8 0, .int .u8 0, .int .u8 0, .int .u8 0, .int .u8 0, .int .u8 0, .int .u8 0]) :: (rowA (.slice A14 (2 + 2 + 4 + 16) c14) 5 1 (2 + 2 + 4 + 16) (u8s ((([2, p.kind % 256] ++ numB 2 (24 + n5)) ++ numB 4 p.src) ++ [0, 0, 0, 0, 0, 0, 0, 0, 0, 0, 0, 0, 0, 0, 0, 0]))) :: (blkA g3 31 #[i6 p.kind, i6 p.src, i6 p.every, i6 p.dead, i6 p.prio, i6 p.dr, i6 p.bdr, .slice q.sA p.seen.length q.sc, .bool p.init, .bool p.more, .bool p.master, i6 p.seq, .slice q.hA p.heads.length q.hc, .slice q.kA p.keys.length q.kc, .slice q.lA p.lsas.length q.lc, .slice q.aA p.acks.length q.ac]) :: []) ((rowA (.slice A5 n5 c5) 5 1 n5 (u8s bs5)) :: (memA W W.heap.size) :: []) w14 := by rw [u8s_append ((([2, p.kind % 256] ++ numB 2 (24 + n5)) ++ numB 4 p.src)) ([0, 0, 0, 0, 0, 0, 0, 0, 0, 0, 0, 0, 0, 0, 0, 0])]; exact hS14
  refine ⟨.slice A14 (2 + 2 + 4 + 16) c14, fun _ h_ => ras (h_.d 2 22), ?_⟩
  intro a12 hput
  replace s2 := hput.o 2 s2
  replace s3 := hput.o 3 s3
  replace s4 : sl a12 4 = .slice A14 (2 + 2 + 4 + 16) c14 := hput.new 3 4 rfl
  replace hz := hput.size.trans hz
  replace hd := hput.defers.trans hd
  clear hput
  change Code.wp _ _ _ _ _
  refine wp_seq ?_
  refine seq_l [2] hz ?_
  refine ⟨.slice A14 (2 + 2 + 4 + 16) c14, fun _ h_ => rmv (h_.b 4 s4),
   .slice A5 n5 c5, fun _ h_ => rmv (h_.b 3 s3), ?_⟩
  refine ⟨fun a_ h_ => sap (bytes := 1) (news := u8s bs5) hS14 1 (on_none rfl) rfl (h_.d 0 23) (h_.d 1 24) (hS14.rdI (i := 0) rfl) (by exact u8s_one _) (by (try unfold maxLen); omega) (by (try unfold maxLen); omega) fun A16 c16 w16 hS16 => ⟨_, rfl, ?_⟩, trivial⟩
  clear h_ a_ hS14
  replace hS16 : S (kap W) ((blkA g13 5 #[.int .u8 0, .int .u8 0, .int .u8 0, .int .u8 0, .int .u8 0, .int .u8 0, .int .u8 0, .int .u8 0, .int .u8 0, .int .u8 0, .int .u8 0, .int .u8 0, .int .u8 0, .int .u8 0, .int .u8 0, .int .u8 0]) :: (rowA (.slice A16 (2 + 2 + 4 + 16 + n5) c16) 5 1 (2 + 2 + 4 + 16 + n5) (u8s ((([2, p.kind % 256] ++ numB 2 (24 + n5)) ++ numB 4 p.src) ++ [0, 0, 0, 0, 0, 0, 0, 0, 0, 0, 0, 0, 0, 0, 0, 0]) ++ u8s bs5)) :: (blkA g3 31 #[i6 p.kind, i6 p.src, i6 p.every, i6 p.dead, i6 p.prio, i6 p.dr, i6 p.bdr, .slice q.sA p.seen.length q.sc, .bool p.init, .bool p.more, .bool p.master, i6 p.seq, .slice q.hA p.heads.length q.hc, .slice q.kA p.keys.length q.kc, .slice q.lA p.lsas.length q.lc, .slice q.aA p.acks.length q.ac]) :: []) ((rowA (.slice A5 n5 c5) 5 1 n5 (u8s bs5)) :: (memA W W.heap.size) :: []) w16 := hS16
  replace hS16 : S (kap W) ((blkA g13 5 #[.int .u8 0, .int .u8 0, .int .u8 0, .int .u8 0, .int .u8 0, .int .u8 0, .int .u8 0, .int .u8 0, .int .u8 0, .int .u8 0, .int .u8 0, .int .u8 0, .int .u8 0, .int .u8 0, .int .u8 0, .int .u8 0]) :: (rowA (.slice A16 (2 + 2 + 4 + 16 + n5) c16) 5 1 (2 + 2 + 4 + 16 + n5) (u8s (((([2, p.kind % 256] ++ numB 2 (24 + n5)) ++ numB 4 p.src) ++ [0, 0, 0, 0, 0, 0, 0, 0, 0, 0, 0, 0, 0, 0, 0, 0]) ++ bs5))) :: (blkA g3 31 #[i6 p.kind, i6 p.src, i6 p.every, i6 p.dead, i6 p.prio, i6 p.dr, i6 p.bdr, .slice q.sA p.seen.length q.sc, .bool p.init, .bool p.more, .bool p.master, i6 p.seq, .slice q.hA p.heads.length q.hc, .slice q.kA p.keys.length q.kc, .slice q.lA p.lsas.length q.lc, .slice q.aA p.acks.length q.ac]) :: []) ((rowA (.slice A5 n5 c5) 5 1 n5 (u8s bs5)) :: (memA W W.heap.size) :: []) w16 := by rw [u8s_append (((([2, p.kind % 256] ++ numB 2 (24 + n5)) ++ numB 4 p.src) ++ [0, 0, 0, 0, 0, 0, 0, 0, 0, 0, 0, 0, 0, 0, 0, 0])) (bs5)]; exact hS16
  refine ⟨.slice A16 (2 + 2 + 4 + 16 + n5) c16, fun _ h_ => ras (h_.d 2 25), ?_⟩
  intro a15 hput
  replace s2 := hput.o 2 s2
  replace s4 : sl a15 4 = .slice A16 (2 + 2 + 4 + 16 + n5) c16 := hput.new 3 4 rfl
  replace hz := hput.size.trans hz
  replace hd := hput.defers.trans hd
  clear hput s3
  change Code.wp _ _ _ _ _
  refine wp_seq_cut (fun a_ w_ => ∃ m : Nat, ∃ B : Option Addr, ∃ d : Nat, ∃ bs : List Int, (24 ≤ m ∧ m ≤ 20000) ∧ (m % 2 = 0) ∧ (Bys bs) ∧ a_.tmps.size = 35 ∧ a_.defers = [] ∧ sl a_ 2 = .slice none 0 0 ∧ sl a_ 4 = .slice B m d ∧ S (kap W) ((blkA g13 5 #[.int .u8 0, .int .u8 0, .int .u8 0, .int .u8 0, .int .u8 0, .int .u8 0, .int .u8 0, .int .u8 0, .int .u8 0, .int .u8 0, .int .u8 0, .int .u8 0, .int .u8 0, .int .u8 0, .int .u8 0, .int .u8 0]) :: (rowA (.slice B m d) 5 1 m (u8s bs)) :: (blkA g3 31 #[i6 p.kind, i6 p.src, i6 p.every, i6 p.dead, i6 p.prio, i6 p.dr, i6 p.bdr, .slice q.sA p.seen.length q.sc, .bool p.init, .bool p.more, .bool p.master, i6 p.seq, .slice q.hA p.heads.length q.hc, .slice q.kA p.keys.length q.kc, .slice q.lA p.lsas.length q.lc, .slice q.aA p.acks.length q.ac]) :: []) ((rowA (.slice A5 n5 c5) 5 1 n5 (u8s bs5)) :: (memA W W.heap.size) :: []) w_) ?_ ?_
  · refine wp_seq ?_
    refine seq_l [] hz ?_
    refine ⟨.slice A16 (2 + 2 + 4 + 16 + n5) c16, fun _ h_ => rmv (h_.b 4 s4),
     i6 ((2 + 2 + 4 + 16 + n5 : Nat) : Int), fun _ h_ => rk (run_lenS rfl (h_.d 0 26) (by kernel_rfl)),
     i6 (((2 + 2 + 4 + 16 + n5 : Nat) : Int) % 2), fun _ h_ => rk (run_bin rfl (h_.d 1 27) rfl (by show (pure _ : Sem Value) = pure _; exact congrArg _ (congrArg _ (Int.tmod_eq_emod_of_nonneg (by omega))))),
     .bool (decide ((((2 + 2 + 4 + 16 + n5 : Nat) : Int) % 2 : Int) = 1)), fun _ h_ => rk (run_cmp rfl (h_.d 2 28) rfl rfl (by first | rfl | exact neq_dec _ _ | exact eq_dec _ _ | simp)), ?_⟩
    intro a17 hput
    replace s2 := hput.o 2 s2
    replace s4 := hput.o 4 s4
    have s29 : sl a17 29 = .bool (decide ((((2 + 2 + 4 + 16 + n5 : Nat) : Int) % 2 : Int) = 1)) := hput.new 3 29 rfl
    replace hz := hput.size.trans hz
    replace hd := hput.defers.trans hd
    clear hput
    change Code.wp _ _ _ _ _
    refine wp_cond_d s29 (fun hc29 => ?_) (fun hc29 => ?_)
    · clear s29
      refine seq_l [1, 2] hz ?_
      refine ⟨.slice A16 (2 + 2 + 4 + 16 + n5) c16, fun _ h_ => rmv (h_.b 4 s4), ?_⟩
      refine ⟨fun a_ h_ => st_lit (e := 5) (vals := [(0, .int .u8 0)]) (cells := #[.int .u8 0]) hS16 (on_none rfl) rfl (parts1 rfl) fun g19 w19 hS19 hb19 => ⟨_, rfl, ?_⟩, trivial⟩
      clear h_ a_ hS16
      clear hb19
      refine ⟨fun a_ h_ => sap (bytes := 1) (news := [.int .u8 0]) hS19 2 (on_none rfl) rfl (h_.d 0 30) (h_.d 1 31) (reads_blk (hS19.blk (i := 0) rfl) rfl) (by simp [Value.oneCell']) (by (try unfold maxLen); omega) (by (try unfold maxLen); omega) fun A20 c20 w20 hS20 => ⟨_, rfl, ?_⟩, trivial⟩
      clear h_ a_ hS19
      replace hS20 : S (kap W) ((blkA g19 5 #[.int .u8 0]) :: (blkA g13 5 #[.int .u8 0, .int .u8 0, .int .u8 0, .int .u8 0, .int .u8 0, .int .u8 0, .int .u8 0, .int .u8 0, .int .u8 0, .int .u8 0, .int .u8 0, .int .u8 0, .int .u8 0, .int .u8 0, .int .u8 0, .int .u8 0]) :: (rowA (.slice A20 (2 + 2 + 4 + 16 + n5 + 1) c20) 5 1 (2 + 2 + 4 + 16 + n5 + 1) (u8s (((([2, p.kind % 256] ++ numB 2 (24 + n5)) ++ numB 4 p.src) ++ [0, 0, 0, 0, 0, 0, 0, 0, 0, 0, 0, 0, 0, 0, 0, 0]) ++ bs5) ++ [.int .u8 0])) :: (blkA g3 31 #[i6 p.kind, i6 p.src, i6 p.every, i6 p.dead, i6 p.prio, i6 p.dr, i6 p.bdr, .slice q.sA p.seen.length q.sc, .bool p.init, .bool p.more, .bool p.master, i6 p.seq, .slice q.hA p.heads.length q.hc, .slice q.kA p.keys.length q.kc, .slice q.lA p.lsas.length q.lc, .slice q.aA p.acks.length q.ac]) :: []) ((rowA (.slice A5 n5 c5) 5 1 n5 (u8s bs5)) :: (memA W W.heap.size) :: []) w20 := hS20
      replace hS20 : S (kap W) ((blkA g19 5 #[.int .u8 0]) :: (blkA g13 5 #[.int .u8 0, .int .u8 0, .int .u8 0, .int .u8 0, .int .u8 0, .int .u8 0, .int .u8 0, .int .u8 0, .int .u8 0, .int .u8 0, .int .u8 0, .int .u8 0, .int .u8 0, .int .u8 0, .int .u8 0, .int .u8 0]) :: (rowA (.slice A20 (2 + 2 + 4 + 16 + n5 + 1) c20) 5 1 (2 + 2 + 4 + 16 + n5 + 1) (u8s ((((([2, p.kind % 256] ++ numB 2 (24 + n5)) ++ numB 4 p.src) ++ [0, 0, 0, 0, 0, 0, 0, 0, 0, 0, 0, 0, 0, 0, 0, 0]) ++ bs5) ++ [0]))) :: (blkA g3 31 #[i6 p.kind, i6 p.src, i6 p.every, i6 p.dead, i6 p.prio, i6 p.dr, i6 p.bdr, .slice q.sA p.seen.length q.sc, .bool p.init, .bool p.more, .bool p.master, i6 p.seq, .slice q.hA p.heads.length q.hc, .slice q.kA p.keys.length q.kc, .slice q.lA p.lsas.length q.lc, .slice q.aA p.acks.length q.ac]) :: []) ((rowA (.slice A5 n5 c5) 5 1 n5 (u8s bs5)) :: (memA W W.heap.size) :: []) w20 := by rw [u8s_append ((((([2, p.kind % 256] ++ numB 2 (24 + n5)) ++ numB 4 p.src) ++ [0, 0, 0, 0, 0, 0, 0, 0, 0, 0, 0, 0, 0, 0, 0, 0]) ++ bs5)) ([0])]; exact hS20
      refine ⟨.slice A20 (2 + 2 + 4 + 16 + n5 + 1) c20, fun _ h_ => ras (h_.d 2 32), ?_⟩
      intro a18 hput
      replace s2 := hput.o 2 s2
      replace s4 : sl a18 4 = .slice A20 (2 + 2 + 4 + 16 + n5 + 1) c20 := hput.new 3 4 rfl
      replace hz := hput.size.trans hz
      replace hd := hput.defers.trans hd
      clear hput
      have hSd := hS20.drop
      exact ⟨_, _, _, _, by omega, by omega, (by (repeat' (first | assumption | exact Bys.nil | exact Bys.num _ _ | exact Bys.two _ | exact Bys.z16 | exact Bys.z1 | refine Bys.app ?_ ?_))), hz, hd, s2, s4, hSd⟩
    · clear s29
      refine wp_skip ?_
      exact ⟨_, _, _, _, by omega, by omega, (by (repeat' (first | assumption | exact Bys.nil | exact Bys.num _ _ | exact Bys.two _ | exact Bys.z16 | exact Bys.z1 | refine Bys.app ?_ ?_))), hz, hd, s2, s4, hS16⟩
  · clear hz hd s2 s4 hS16
    rintro a21 w21 ⟨m, B, d, bs, hk9_0, hk9_1, hk9_2, hz, hd, s2, s4, hS21⟩
    refine wp_seq ?_
    refine seq_l [1] hz ?_
    refine ⟨.slice B m d, fun _ h_ => rmv (h_.b 4 s4), ?_⟩
    refine ⟨fun a_ h_ => st_call (on_none rfl) (run_call rfl (map2 (h_.d 0 33) rfl) rfl) (fill02_any _ m _ bs _ (by omega) (by omega) hk9_1 (hS21.rd (i := 1) rfl) hk9_2) ?_, trivial⟩
    rintro e w23 ⟨A23, c23, bs23, rfl, ho23, hy23, hw23, hb23⟩
    refine ⟨_, rfl, _, rfl, ?_⟩
    clear h_ a_
    have hS23 := hS21.pushRow hb23 ho23
    clear hS21 hb23 ho23
    refine ⟨.slice A23 m c23, fun _ h_ => ras (h_.d 1 34), ?_⟩
    intro a22 hput
    replace s2 : sl a22 2 = .slice A23 m c23 := hput.new 2 2 rfl
    replace hz := hput.size.trans hz
    replace hd := hput.defers.trans hd
    clear hput s4
    change Code.wp _ _ _ _ _
    refine wp_ret ?_
    refine ret1 (P := Try.prog) (fn := Try.f9) hd s2 (hR_ _ _ ?_)
    exact ⟨_, _, _, _, rfl, hS23.rowBase (i := 0) rfl (by simp : memA W W.heap.size ∈ _), hk9_0, hk9_1, hy23, hw23, (hS23.old (by simp))⟩
end Go.Proofs.Ytdenfgnkbfbpmaa
