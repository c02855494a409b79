/-
  lan.New.
-/
import Derived.Test.YtdenfgnkbfbpmaaIdx
import Derived.Test.YtdenfgnkbfbpmaaRowC
namespace Go.Proofs.Ytdenfgnkbfbpmaa
open Go.RowKit
set_option linter.unusedSimpArgs false
set_option linter.unusedVariables false

/-- a network's cells -/
def lanC (room : Int) (l : Value) (on : List Bool) : Array Value := (Value.int .i64 room :: on.map Value.bool ++ [l]).toArray
theorem lanC_size (room : Int) (l : Value) (on : List Bool) : (lanC room l on).size = on.length + 2 := by simp [lanC]
theorem lanC_set (room : Int) (l : Value) (on : List Bool) (z : Nat) (b : Bool) (hz : z < on.length) : (lanC room l on).setIfInBounds (1 + z) (.bool b) = lanC room l (on.set z b) := by
  unfold lanC
  rw [Nat.add_comm]
  simp [List.set_append, hz, List.map_set]
/-- those that are on, of the numbers so far -/
def onF (zs : List Int) : List Bool := zs.foldl (fun on z => if 1 ≤ z ∧ z ≤ 15 then on.set z.toNat true else on) (List.replicate 16 false)
theorem onF_snoc (zs : List Int) (z : Int) : onF (zs ++ [z]) = if 1 ≤ z ∧ z ≤ 15 then (onF zs).set z.toNat true else onF zs := by simp [onF]
theorem onF_len (zs : List Int) : (onF zs).length = 16 := by
  unfold onF
  suffices h : ∀ (zs : List Int) (on : List Bool), on.length = 16 → (zs.foldl (fun on z => if 1 ≤ z ∧ z ≤ 15 then on.set z.toNat true else on) on).length = 16 from h zs _ (by simp)
  intro zs
  induction zs with
  | nil => intro on h; exact h
  | cons z zs ih => intro on h; rw [List.foldl_cons]; apply ih; split <;> simp [h]
theorem onF_yes {zs : List Int} {k : Nat} {z : Int} (hz : zs[k]? = some z) (h : 1 ≤ z ∧ z ≤ 15) : onF (zs.take (k + 1)) = (onF (zs.take k)).set z.toNat true := by rw [take_snoc zs k z hz, onF_snoc, if_pos h]
theorem onF_no {zs : List Int} {k : Nat} {z : Int} (hz : zs[k]? = some z) (h : ¬(1 ≤ z ∧ z ≤ 15)) : onF (zs.take (k + 1)) = onF (zs.take k) := by rw [take_snoc zs k z hz, onF_snoc, if_neg h]
theorem ints_of19 {w : World} {B n : Nat} {A : Option Addr} {zs : List Int} (h : Reads w B 1 A n (ints zs)) : zs.length = n := by have := h.1; simpa [ints] using this
set_option maxRecDepth 100000 in
set_option maxHeartbeats 800000 in
theorem lanNew_any (room : Int) (A : Option Addr) (n c : Nat) (zs : List Int) (W : World) (hro : 1 ≤ room ∧ room ≤ 1024) (hn : n ≤ 1000) (hr : Reads W W.heap.size 1 A n (ints zs)) :
    Calls Try.prog 7 #[i6 room, .slice A n c] W (fun r w' => ∃ g, r = .returned (.pointer (some ⟨g, 0, none⟩)) ∧ W.heap.size ≤ g ∧ Blk w' g 73 (lanC room (.slice none 0 0) (onF zs)) ∧ Below W.heap.size W w') := by
  have hzl := ints_of19 hr
  have hS := S.start W
  refine calls_walk Try.func7 rfl fun R_ hR_ a hz hd hargs => ?_
  replace hz : a.tmps.size = 32 := hz.trans (by kernel_rfl)
  have s0 := hargs 0 _ rfl
  have s1 := hargs 1 _ rfl
  clear hargs
  refine wp_seq ?_
  refine seq_l [] hz ?_
  refine ⟨.pointer none, fun _ h_ => rk (run_assign rfl rfl), ?_⟩
  intro a2 hput
  replace s0 := hput.o 0 s0
  replace s1 := hput.o 1 s1
  have s4 : sl a2 4 = .pointer none := hput.new 0 4 rfl
  replace hz := hput.size.trans hz
  replace hd := hput.defers.trans hd
  clear hput
  change Code.wp _ _ _ _ _
  refine wp_seq ?_
  refine seq_l [4] hz ?_
  refine ⟨i6 room, fun _ h_ => rmv (h_.b 0 s0),
   i6 room, fun _ h_ => rk (run_maxI rfl (h_.d 0 8) rfl (by split <;> omega)),
   i6 room, fun _ h_ => rk (run_minI rfl (h_.d 1 9) rfl (by split <;> omega)),
   .agg #[i6 room, .bool false, .bool false, .bool false, .bool false, .bool false, .bool false, .bool false, .bool false, .bool false, .bool false, .bool false, .bool false, .bool false, .bool false, .bool false, .bool false, .slice none 0 0], fun _ h_ => rk (run_build (vals := #[(0, i6 room)]) (r := .agg #[i6 room, .bool false, .bool false, .bool false, .bool false, .bool false, .bool false, .bool false, .bool false, .bool false, .bool false, .bool false, .bool false, .bool false, .bool false, .bool false, .bool false, .slice none 0 0]) rfl (bp1 (h_.d 2 10)) (by kernel_rfl)), ?_⟩
  refine ⟨fun a_ h_ => st_box (cells := #[i6 room, .bool false, .bool false, .bool false, .bool false, .bool false, .bool false, .bool false, .bool false, .bool false, .bool false, .bool false, .bool false, .bool false, .bool false, .bool false, .bool false, .slice none 0 0]) hS (on_none rfl) rfl (h_.d 3 11) (by kernel_rfl) fun g4 w4 hS4 hb4 => ⟨_, rfl, ?_⟩, trivial⟩
  clear h_ a_ hS
  clear hb4
  refine ⟨pt g4 0, fun _ h_ => ras (h_.d 4 12), ?_⟩
  intro a3 hput
  replace s1 := hput.o 1 s1
  replace s4 := hput.o 4 s4
  have s5 : sl a3 5 = pt g4 0 := hput.new 5 5 rfl
  replace hz := hput.size.trans hz
  replace hd := hput.defers.trans hd
  clear hput s0
  change Code.wp _ _ _ _ _
  refine wp_seq ?_
  refine wp_seq ?_
  refine seq_l [] hz ?_
  refine ⟨.slice A n c, fun _ h_ => rmv (h_.b 1 s1),
   i6 n, fun _ h_ => rk (run_lenS rfl (h_.d 0 13) (by kernel_rfl)),
   i6 0, fun _ h_ => rk (run_move rfl rfl), ?_⟩
  intro a5 hput
  replace s4 := hput.o 4 s4
  replace s5 := hput.o 5 s5
  have s13 : sl a5 13 = .slice A n c := hput.new 0 13 rfl
  have s14 : sl a5 14 = i6 n := hput.new 1 14 rfl
  have s15 : sl a5 15 = i6 0 := hput.new 2 15 rfl
  replace hz := hput.size.trans hz
  replace hd := hput.defers.trans hd
  clear hput s1
  change Code.wp _ _ _ _ _
  refine wp_block ?_
  refine wp_loop (fun a_ w_ => ∃ k : Nat, (k ≤ n) ∧ a_.tmps.size = 32 ∧ a_.defers = [] ∧ sl a_ 4 = .pointer none ∧ sl a_ 5 = pt g4 0 ∧ sl a_ 13 = .slice A n c ∧ sl a_ 14 = i6 n ∧ sl a_ 15 = i6 k ∧ S (kap W) ((blkA g4 73 (lanC room (.slice none 0 0) (onF (zs.take k)))) :: []) ((memA W W.heap.size) :: []) w_) (fun a_ _ => n - (intOf (sl a_ 15)).toNat) ?_ ?_
  · exact ⟨0, Nat.zero_le _, hz, hd, s4, s5, s13, s14, s15, hS4⟩
  · clear hz hd s4 s5 s13 s14 s15 hS4
    rintro a6 w6 ⟨k, hc0_0, hz, hd, s4, s5, s13, s14, s15, hS6⟩
    have hmu0 := s15
    refine wp_seq ?_
    refine seq_l [] hz ?_
    refine ⟨.bool (decide ((k : Int) < n)), fun _ h_ => rk (run_cmp rfl (h_.b 15 s15) (h_.b 14 s14) rfl (by first | rfl | exact neq_dec _ _ | exact eq_dec _ _ | simp)), ?_⟩
    intro a7 hput
    replace s4 := hput.o 4 s4
    replace s5 := hput.o 5 s5
    replace s13 := hput.o 13 s13
    replace s14 := hput.o 14 s14
    replace s15 := hput.o 15 s15
    have s16 : sl a7 16 = .bool (decide ((k : Int) < n)) := hput.new 0 16 rfl
    replace hz := hput.size.trans hz
    replace hd := hput.defers.trans hd
    clear hput
    change Code.wp _ _ _ _ _
    refine wp_seq ?_
    refine wp_cond_d s16 (fun hc16 => ?_) (fun hc16 => ?_)
    · clear s16
      refine wp_skip ?_
      change Code.wp _ _ _ _ _
      refine wp_seq ?_
      refine wp_block ?_
      refine wp_seq ?_
      refine seq_l [] hz ?_
      obtain ⟨b9, o9, z9, hA9, hb9, hz9, hq9⟩ := Reads.int_at (k := k) ((Reads.old hr (hS6.old (by simp)))) (by omega)
      refine ⟨pt b9 (o9 + k), fun _ h_ => rk (run_indexV (size := 1) rfl (h_.b 13 s13) hA9 (h_.b 15 s15) (by kernel_rfl) (by omega) (by simp)),
       i6 z9, fun _ h_ => rk (run_load rfl (h_.d 0 17) (by kernel_rfl) (show w6.cell? ⟨b9, o9 + k, none⟩ = some (i6 z9) from hq9)),
       i6 z9, fun _ h_ => ras (h_.d 1 18), ?_⟩
      intro a8 hput
      replace s4 := hput.o 4 s4
      replace s5 := hput.o 5 s5
      have s7 : sl a8 7 = i6 z9 := hput.new 2 7 rfl
      replace s13 := hput.o 13 s13
      replace s14 := hput.o 14 s14
      replace s15 := hput.o 15 s15
      have s17 : sl a8 17 = pt b9 (o9 + k) := hput.new 0 17 rfl
      have s18 : sl a8 18 = i6 z9 := hput.new 1 18 rfl
      replace hz := hput.size.trans hz
      replace hd := hput.defers.trans hd
      clear hput
      change Code.wp _ _ _ _ _
      refine wp_seq ?_
      refine seq_l [] hz ?_
      refine ⟨i6 z9, fun _ h_ => rmv (h_.b 7 s7),
       .bool (decide ((1 : Int) ≤ z9)), fun _ h_ => rk (run_cmp rfl (h_.d 0 19) rfl rfl (by first | rfl | exact neq_dec _ _ | exact eq_dec _ _ | simp)),
       .bool (decide ((1 : Int) ≤ z9)), fun _ h_ => rmv (h_.d 1 20), ?_⟩
      rcases dt ((1 : Int) ≤ z9) with ⟨he, hg2⟩ | ⟨he, hg2⟩
      · rw [he]
        clear he
        refine ⟨i6 z9, fun _ h_ => r_ok (h_.on 2 21) (run_move rfl (h_.b 7 s7)),
         .bool (decide ((z9 : Int) ≤ 15)), fun _ h_ => r_ok (h_.on 2 21) (run_cmp rfl (h_.d 3 22) rfl rfl (by first | rfl | exact neq_dec _ _ | exact eq_dec _ _ | simp)),
         .bool (decide ((z9 : Int) ≤ 15)), fun _ h_ => rk (run_pick_t rfl (h_.d 2 21) (h_.d 4 23)), ?_⟩
        intro a10 hput
        replace s4 := hput.o 4 s4
        replace s5 := hput.o 5 s5
        replace s7 := hput.o 7 s7
        replace s13 := hput.o 13 s13
        replace s14 := hput.o 14 s14
        replace s15 := hput.o 15 s15
        replace s17 := hput.o 17 s17
        replace s18 := hput.o 18 s18
        have s19 : sl a10 19 = i6 z9 := hput.new 0 19 rfl
        have s20 : sl a10 20 = .bool true := hput.new 1 20 rfl
        have s21 : sl a10 21 = .bool true := hput.new 2 21 rfl
        have s22 : sl a10 22 = i6 z9 := hput.new 3 22 rfl
        have s23 : sl a10 23 = .bool (decide ((z9 : Int) ≤ 15)) := hput.new 4 23 rfl
        have s24 : sl a10 24 = .bool (decide ((z9 : Int) ≤ 15)) := hput.new 5 24 rfl
        replace hz := hput.size.trans hz
        replace hd := hput.defers.trans hd
        clear hput
        change Code.wp _ _ _ _ _
        refine wp_cond_d s24 (fun hc24 => ?_) (fun hc24 => ?_)
        · clear s24
          refine seq_l [5] hz ?_
          refine ⟨pt g4 0, fun _ h_ => rmv (h_.b 5 s5),
           i6 z9, fun _ h_ => rmv (h_.b 7 s7),
           pt g4 0, fun _ h_ => rk (run_nilCheck rfl (h_.d 0 25)),
           pt g4 1, fun _ h_ => rk (fa 1 rfl (h_.d 2 27)),
           pt g4 (1 + z9.toNat), fun _ h_ => rk (run_indexP (n := 16) (size := 1) rfl (h_.d 3 28) (h_.d 1 26) (by kernel_rfl) (by omega) (by omega)), ?_⟩
          refine ⟨fun a_ h_ => st_set1 (k := 1 + z9.toNat) (u := .bool true) 0 hS6 rfl (on_none rfl) rfl (h_.d 4 29) rfl rfl (by kernel_rfl) (by rw [lanC_size, onF_len]; omega) rfl fun w12 hS12 _ => ⟨_, rfl, ?_⟩, trivial⟩
          clear h_ a_ hS6
          rw [lanC_set _ _ _ _ _ (by rw [onF_len]; omega), ← onF_yes hz9 (by omega)] at hS12
          replace hS12 : S (kap W) ((blkA g4 73 (lanC room (.slice none 0 0) (onF (zs.take (k + 1))))) :: []) ((memA W W.heap.size) :: []) w12 := hS12
          intro a11 hput
          replace s4 := hput.o 4 s4
          replace s5 := hput.o 5 s5
          replace s7 := hput.o 7 s7
          replace s13 := hput.o 13 s13
          replace s14 := hput.o 14 s14
          replace s15 := hput.o 15 s15
          replace s17 := hput.o 17 s17
          replace s18 := hput.o 18 s18
          replace s19 := hput.o 19 s19
          replace s20 := hput.o 20 s20
          replace s21 := hput.o 21 s21
          replace s22 := hput.o 22 s22
          replace s23 := hput.o 23 s23
          have s25 : sl a11 25 = pt g4 0 := hput.new 0 25 rfl
          have s26 : sl a11 26 = i6 z9 := hput.new 1 26 rfl
          have s27 : sl a11 27 = pt g4 0 := hput.new 2 27 rfl
          have s28 : sl a11 28 = pt g4 1 := hput.new 3 28 rfl
          have s29 : sl a11 29 = pt g4 (1 + z9.toNat) := hput.new 4 29 rfl
          replace hz := hput.size.trans hz
          replace hd := hput.defers.trans hd
          clear hput
          change Code.wp _ _ _ _ _
          refine seq_l [] hz ?_
          refine ⟨i6 (k + 1), fun _ h_ => rk (run_addI rfl (h_.b 15 s15) rfl (by omega) rfl),
           i6 (k + 1), fun _ h_ => rmv (h_.d 0 30), ?_⟩
          intro a13 hput
          replace s4 := hput.o 4 s4
          replace s5 := hput.o 5 s5
          replace s7 := hput.o 7 s7
          replace s13 := hput.o 13 s13
          replace s14 := hput.o 14 s14
          replace s15 : sl a13 15 = i6 (k + 1) := hput.new 1 15 rfl
          replace s17 := hput.o 17 s17
          replace s18 := hput.o 18 s18
          replace s19 := hput.o 19 s19
          replace s20 := hput.o 20 s20
          replace s21 := hput.o 21 s21
          replace s22 := hput.o 22 s22
          replace s23 := hput.o 23 s23
          replace s25 := hput.o 25 s25
          replace s26 := hput.o 26 s26
          replace s27 := hput.o 27 s27
          replace s28 := hput.o 28 s28
          replace s29 := hput.o 29 s29
          have s30 : sl a13 30 = i6 (k + 1) := hput.new 0 30 rfl
          replace hz := hput.size.trans hz
          replace hd := hput.defers.trans hd
          clear hput
          refine ⟨⟨k + 1, by omega, hz, hd, s4, s5, s13, s14, s15, hS12⟩, ?_⟩
          show n - (intOf (sl a13 15)).toNat < n - (intOf (sl a6 15)).toNat
          rw [show sl a13 15 = _ from s15, show sl a6 15 = _ from hmu0]
          simp only [intOf]
          omega
        · clear s24
          refine wp_skip ?_
          change Code.wp _ _ _ _ _
          refine seq_l [] hz ?_
          refine ⟨i6 (k + 1), fun _ h_ => rk (run_addI rfl (h_.b 15 s15) rfl (by omega) rfl),
           i6 (k + 1), fun _ h_ => rmv (h_.d 0 30), ?_⟩
          intro a14 hput
          replace s4 := hput.o 4 s4
          replace s5 := hput.o 5 s5
          replace s7 := hput.o 7 s7
          replace s13 := hput.o 13 s13
          replace s14 := hput.o 14 s14
          replace s15 : sl a14 15 = i6 (k + 1) := hput.new 1 15 rfl
          replace s17 := hput.o 17 s17
          replace s18 := hput.o 18 s18
          replace s19 := hput.o 19 s19
          replace s20 := hput.o 20 s20
          replace s21 := hput.o 21 s21
          replace s22 := hput.o 22 s22
          replace s23 := hput.o 23 s23
          have s30 : sl a14 30 = i6 (k + 1) := hput.new 0 30 rfl
          replace hz := hput.size.trans hz
          replace hd := hput.defers.trans hd
          clear hput
          rw [← onF_no hz9 (by omega)] at hS6
          refine ⟨⟨k + 1, by omega, hz, hd, s4, s5, s13, s14, s15, hS6⟩, ?_⟩
          show n - (intOf (sl a14 15)).toNat < n - (intOf (sl a6 15)).toNat
          rw [show sl a14 15 = _ from s15, show sl a6 15 = _ from hmu0]
          simp only [intOf]
          omega
      · rw [he]
        clear he
        refine seq_off (j := 2) (d := 21) (b := true) [3, 4] _ (by kernel_rfl) (.inl rfl) ?_
        refine ⟨.bool false, fun _ h_ => rk (run_pick_f rfl (h_.d 2 21) rfl), ?_⟩
        intro a10 hput
        replace s4 := hput.o 4 s4
        replace s5 := hput.o 5 s5
        replace s7 := hput.o 7 s7
        replace s13 := hput.o 13 s13
        replace s14 := hput.o 14 s14
        replace s15 := hput.o 15 s15
        replace s17 := hput.o 17 s17
        replace s18 := hput.o 18 s18
        have s19 : sl a10 19 = i6 z9 := hput.new 0 19 rfl
        have s20 : sl a10 20 = .bool false := hput.new 1 20 rfl
        have s21 : sl a10 21 = .bool false := hput.new 2 21 rfl
        have s24 : sl a10 24 = .bool false := hput.new 5 24 rfl
        replace hz := hput.size.trans hz
        replace hd := hput.defers.trans hd
        clear hput
        change Code.wp _ _ _ _ _
        refine wp_cond_false s24 ?_
        refine wp_skip ?_
        change Code.wp _ _ _ _ _
        refine seq_l [] hz ?_
        refine ⟨i6 (k + 1), fun _ h_ => rk (run_addI rfl (h_.b 15 s15) rfl (by omega) rfl),
         i6 (k + 1), fun _ h_ => rmv (h_.d 0 30), ?_⟩
        intro a15 hput
        replace s4 := hput.o 4 s4
        replace s5 := hput.o 5 s5
        replace s7 := hput.o 7 s7
        replace s13 := hput.o 13 s13
        replace s14 := hput.o 14 s14
        replace s15 : sl a15 15 = i6 (k + 1) := hput.new 1 15 rfl
        replace s17 := hput.o 17 s17
        replace s18 := hput.o 18 s18
        replace s19 := hput.o 19 s19
        replace s20 := hput.o 20 s20
        replace s21 := hput.o 21 s21
        replace s24 := hput.o 24 s24
        have s30 : sl a15 30 = i6 (k + 1) := hput.new 0 30 rfl
        replace hz := hput.size.trans hz
        replace hd := hput.defers.trans hd
        clear hput
        rw [← onF_no hz9 (by omega)] at hS6
        refine ⟨⟨k + 1, by omega, hz, hd, s4, s5, s13, s14, s15, hS6⟩, ?_⟩
        show n - (intOf (sl a15 15)).toNat < n - (intOf (sl a6 15)).toNat
        rw [show sl a15 15 = _ from s15, show sl a6 15 = _ from hmu0]
        simp only [intOf]
        omega
    · clear s16
      refine wp_exit ?_
      change Code.wp _ _ _ _ _
      refine wp_seq ?_
      refine seq_l [] hz ?_
      refine ⟨pt g4 0, fun _ h_ => rmv (h_.b 5 s5),
       pt g4 0, fun _ h_ => ras (h_.d 0 31), ?_⟩
      intro a16 hput
      replace s4 : sl a16 4 = pt g4 0 := hput.new 1 4 rfl
      replace hz := hput.size.trans hz
      replace hd := hput.defers.trans hd
      clear hput s5 s13 s14 s15
      change Code.wp _ _ _ _ _
      refine wp_ret ?_
      refine ret1 (P := Try.prog) (fn := Try.f7) hd s4 (hR_ _ _ ?_)
      obtain rfl : k = n := by omega
      rw [List.take_of_length_le (by omega)] at hS6
      exact ⟨_, rfl, hS6.base (i := 0) rfl (by simp : memA W W.heap.size ∈ _), hS6.blk (i := 0) rfl, (hS6.old (by simp))⟩
end Go.Proofs.Ytdenfgnkbfbpmaa
