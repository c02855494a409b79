/-
  order.Newer, where the first one's number is greater.
-/
import Derived.Test.YtmklebkldailnaaHead
import Derived.WalkLawsBesides
import Derived.Laws.FloatArith
namespace Go.Proofs.Ytmklebkldailnaa
open Go.RowKit
set_option linter.unusedSimpArgs false
set_option linter.unusedVariables false

theorem isNaN_any (a : Int) (w : World) : Calls Try.prog 56 #[.int .i64 a] w fun r w' => r = .returned (.bool false) ∧ w' = w := by
  go_enter Try.func56, Try.ntmps56
  have h1 : (a != a) = false := by simp
  go_wp2
  go_ret
  exact ⟨rfl, rfl⟩
def cmpF (a b : Int) : Int := if a < b then -1 else if b < a then 1 else 0
theorem compare_any (a b : Int) (w : World) : Calls Try.prog 44 #[.int .i64 a, .int .i64 b] w fun r w' => r = .returned (.int .i64 (cmpF a b)) ∧ w' = w := by
  go_enter Try.func44, Try.ntmps44
  go_wp2_with (go_at_call 56; refine (isNaN_any _ _).mono ?_; rintro r w' ⟨rfl, rfl⟩)
  all_goals go_ret
  all_goals exact ⟨ret_int (by unfold cmpF; grind), rfl⟩
/-- some number -/
def Some1 (v : Value) : Prop := ∃ n : Int, v = .int .i64 n
def GivesInt (w : World) (r : Ending) (w' : World) : Prop := (∃ n : Int, r = .returned (.int .i64 n)) ∧ Below w.heap.size w w'
set_option maxHeartbeats 2000000 in
theorem gone_any (h : HD) (w : World) : Calls Try.prog 45 #[.agg h.arr] w (GivesInt w) := by
  obtain ⟨age, kind, id, adv, seq, sum, long⟩ := h
  have HB := hide (below_new w (.cells (HD.arr ⟨age, kind, id, adv, seq, sum, long⟩) 23))
  go_enter Try.func45, Try.ntmps45
  go_wp2
  all_goals go_ret
  all_goals exact ⟨⟨_, rfl⟩, HB.out⟩
theorem sub_some : ∀ b : Fin 61, (floatBits .sub .f64 (floatOfInt .f64 0) (floatOfInt .f64 (b.val : Int))).isSome = true := by decide +kernel
set_option maxHeartbeats 4000000 in
theorem young_any (h h' : HD) (w : World) (h0 : h.age = 0) (h1 : 0 ≤ h'.age ∧ h'.age ≤ 60) : Calls Try.prog 46 #[.agg h.arr, .agg h'.arr] w (GivesInt w) := by
  obtain ⟨age, kind, id, adv, seq, sum, long⟩ := h
  obtain ⟨age', kind', id', adv', seq', sum', long'⟩ := h'
  dsimp only at h0 h1
  subst h0
  obtain ⟨d, hd⟩ := Option.isSome_iff_exists.1 (sub_some ⟨age'.toNat, by omega⟩)
  rw [show ((age'.toNat : Nat) : Int) = age' by omega] at hd
  have hsub := fun w => run_float_arith (P := Try.prog) w .sub 94 .f64 _ _ d hd
  clear h1 hd
  have HB := hide (below0 (below_new w (.cells (HD.arr ⟨0, kind, id, adv, seq, sum, long⟩) 23)) (below_new _ (.cells (HD.arr ⟨age', kind', id', adv', seq', sum', long'⟩) 23)))
  go_enter Try.func46, Try.ntmps46
  go_wp2_with (go_at_call 44; refine (compare_any _ _ _).mono ?_; rintro r w' ⟨rfl, rfl⟩)
  all_goals go_ret
  all_goals exact ⟨⟨_, rfl⟩, HB.out⟩
/-- the first of some numbers, that is not 0 -/
theorem or_any (A : Option Addr) (n c : Nat) (z : Int) (zs : List Int) (w : World) (hn : n ≤ 100) (hz : z ≠ 0) (hr : Reads w w.heap.size 1 A n (ints (z :: zs))) :
    Calls Try.prog 43 #[.slice A n c] w fun r w' => r = .returned (.int .i64 z) ∧ w' = w := by
  have hl : n = zs.length + 1 := by have := hr.1; simp [ints] at this; omega
  obtain ⟨b, off, z', rfl, hbb, hx, hat⟩ := hr.int_at (k := 0) (by omega)
  obtain rfl : z = z' := by simpa using hx
  have h0 : (0 : Int) < (n : Int) := by omega
  have h1 : 0 < n := by omega
  have hzz : (z == 0) = false := by simpa using hz
  have hzn : (z != 0) = true := by simpa using hz
  rw [Nat.add_zero] at hat
  clear hx hl hz hr
  go_enter Try.func43, Try.ntmps43
  go_wp2
  go_loop [8] (fun i => i = .int .i64 0) (fun _ => 0)
  case atStart => exact rfl
  case round =>
    obtain rfl := hrel
    go_wp2
    go_ret
    exact ⟨rfl, rfl⟩
set_option maxRecDepth 20000 in
set_option maxHeartbeats 4000000 in
theorem newer_any (h h' : HD) (w : World) (h0 : h.age = 0) (h1 : 0 ≤ h'.age ∧ h'.age ≤ 60) (hs : h'.seq < h.seq) :
    Calls Try.prog 34 #[.agg h.arr, .agg h'.arr] w fun r w' => r = .returned (.int .i64 1) ∧ Below w.heap.size w w' := by
  obtain ⟨age, kind, id, adv, seq, sum, long⟩ := h
  obtain ⟨age', kind', id', adv', seq', sum', long'⟩ := h'
  dsimp only at h0 h1 hs
  have HC := hide (show cmpF seq seq' = 1 by unfold cmpF; rw [if_neg (by omega), if_pos hs])
  have H0 := hide h0
  have HA := hide h1
  clear h0 h1 hs
  go_enter Try.func34, Try.ntmps34
  go_upto_region 1 with (fail)
  have hb0 := (Blk.new w 23 (HD.arr ⟨age, kind, id, adv, seq, sum, long⟩)).alloc (.cells (HD.arr ⟨age', kind', id', adv', seq', sum', long'⟩) 23)
  have hr0 := Blk.new (w.alloc (.cells (HD.arr ⟨age, kind, id, adv, seq, sum, long⟩) 23)) 23 (HD.arr ⟨age', kind', id', adv', seq', sum', long'⟩)
  rw [show (w.alloc (.cells (HD.arr ⟨age, kind, id, adv, seq, sum, long⟩) 23)).heap.size = w.heap.size + 1 by simp] at hr0
  have hB0 := below0 (below_new w (.cells (HD.arr ⟨age, kind, id, adv, seq, sum, long⟩) 23)) (below_new _ (.cells (HD.arr ⟨age', kind', id', adv', seq', sum', long'⟩) 23))
  generalize (w.alloc (.cells (HD.arr ⟨age, kind, id, adv, seq, sum, long⟩) 23)).alloc (.cells (HD.arr ⟨age', kind', id', adv', seq', sum', long'⟩) 23) = W at hb0 hB0 hr0 ⊢
  refine region_by (fun i v w' => match i with
    | 0 => v = .pointer (some ⟨w.heap.size, 4, none⟩)
    | 1 => v = .int .i64 seq
    | 2 => v = .pointer (some ⟨w.heap.size + 1, 4, none⟩)
    | 3 => v = .int .i64 seq'
    | 4 => v = .int .i64 1
    | 5 => v = .pointer (some ⟨w.heap.size, 5, none⟩)
    | 6 => v = .int .i64 sum
    | 7 => v = .pointer (some ⟨w.heap.size + 1, 5, none⟩)
    | 8 => v = .int .i64 sum'
    | 9 => Some1 v
    | 10 => v = .agg (HD.arr ⟨age, kind, id, adv, seq, sum, long⟩)
    | 11 => Some1 v
    | 12 => v = .agg (HD.arr ⟨age', kind', id', adv', seq', sum', long'⟩)
    | 13 => Some1 v
    | 14 => Some1 v
    | 15 => v = .agg (HD.arr ⟨age, kind, id, adv, seq, sum, long⟩)
    | 16 => v = .agg (HD.arr ⟨age', kind', id', adv', seq', sum', long'⟩)
    | 17 => Some1 v
    | 18 => ∃ n2 n3 n4 : Int, Nums [1, n2, n3, n4] v w'
    | 19 => v = .int .i64 1
    | _ => v = .int .i64 1)
    (by kernel_rfl) (by kernel_rfl) (by kernel_rfl) (by kernel_rfl) ?_ ⟨?_, ?_, ?_, ?_, ?_, ?_, ?_, ?_, ?_, ?_, ?_, ?_, ?_, ?_, ?_, ?_, ?_, ?_, ?_, ?_, ?_, trivial⟩ ?_
  · intro i v w1 w2 hb hF
    match i, hF with
    | 0, h => exact h
    | 1, h => exact h
    | 2, h => exact h
    | 3, h => exact h
    | 4, h => exact h
    | 5, h => exact h
    | 6, h => exact h
    | 7, h => exact h
    | 8, h => exact h
    | 9, h => exact h
    | 10, h => exact h
    | 11, h => exact h
    | 12, h => exact h
    | 13, h => exact h
    | 14, h => exact h
    | 15, h => exact h
    | 16, h => exact h
    | 17, h => exact h
    | 18, h => exact (by obtain ⟨a, b, c, h⟩ := h; exact ⟨a, b, c, h.keep hb⟩)
    | 19, h => exact h
    | _ + 20, h => exact h
  · intro a w1 hat
    have h1 : a.tmps.getD 2 undef = .pointer (some ⟨w.heap.size, 0, none⟩) := hat.base 2 (by kernel_rfl)
    (rw [if_pos (by rfl)]; go_simp; exact Below.refl _ _)
  · intro a w1 hat
    have h1 : a.tmps.getD 5 undef = .pointer (some ⟨w.heap.size, 4, none⟩) := hat.dep 0 5 (by kernel_rfl) (by kernel_rfl)
    have hc := cell_keep (hb0.cell 4) hat.since
    (rw [if_pos (by rfl)]; go_simp; exact Below.refl _ _)
  · intro a w1 hat
    have h1 : a.tmps.getD 3 undef = .pointer (some ⟨w.heap.size + 1, 0, none⟩) := hat.base 3 (by kernel_rfl)
    (rw [if_pos (by rfl)]; go_simp; exact Below.refl _ _)
  · intro a w1 hat
    have h1 : a.tmps.getD 7 undef = .pointer (some ⟨w.heap.size + 1, 4, none⟩) := hat.dep 2 7 (by kernel_rfl) (by kernel_rfl)
    have hc := cell_keep (hr0.cell 4) hat.since
    (rw [if_pos (by rfl)]; go_simp; exact Below.refl _ _)
  · intro a w1 hat
    have h1 : a.tmps.getD 6 undef = .int .i64 seq := hat.dep 1 6 (by kernel_rfl) (by kernel_rfl)
    have h2 : a.tmps.getD 8 undef = .int .i64 seq' := hat.dep 3 8 (by kernel_rfl) (by kernel_rfl)
    (have h11 := h1; rw [Array.getD_eq_getD_getElem?] at h11)
    (have h21 := h2; rw [Array.getD_eq_getD_getElem?] at h21)
    rw [if_pos (by rfl)]
    go_simp
    refine (compare_any _ _ _).mono ?_
    rintro r w3 ⟨rfl, rfl⟩
    rw [HC.out]
    exact ⟨rfl, Below.refl _ _⟩
  · intro a w1 hat
    have h1 : a.tmps.getD 2 undef = .pointer (some ⟨w.heap.size, 0, none⟩) := hat.base 2 (by kernel_rfl)
    (rw [if_pos (by rfl)]; go_simp; exact Below.refl _ _)
  · intro a w1 hat
    have h1 : a.tmps.getD 10 undef = .pointer (some ⟨w.heap.size, 5, none⟩) := hat.dep 5 10 (by kernel_rfl) (by kernel_rfl)
    have hc := cell_keep (hb0.cell 5) hat.since
    (rw [if_pos (by rfl)]; go_simp; exact Below.refl _ _)
  · intro a w1 hat
    have h1 : a.tmps.getD 3 undef = .pointer (some ⟨w.heap.size + 1, 0, none⟩) := hat.base 3 (by kernel_rfl)
    (rw [if_pos (by rfl)]; go_simp; exact Below.refl _ _)
  · intro a w1 hat
    have h1 : a.tmps.getD 12 undef = .pointer (some ⟨w.heap.size + 1, 5, none⟩) := hat.dep 7 12 (by kernel_rfl) (by kernel_rfl)
    have hc := cell_keep (hr0.cell 5) hat.since
    (rw [if_pos (by rfl)]; go_simp; exact Below.refl _ _)
  · intro a w1 hat
    have h1 : a.tmps.getD 11 undef = .int .i64 sum := hat.dep 6 11 (by kernel_rfl) (by kernel_rfl)
    have h2 : a.tmps.getD 13 undef = .int .i64 sum' := hat.dep 8 13 (by kernel_rfl) (by kernel_rfl)
    (have h11 := h1; rw [Array.getD_eq_getD_getElem?] at h11)
    (have h21 := h2; rw [Array.getD_eq_getD_getElem?] at h21)
    rw [if_pos (by rfl)]
    go_simp
    refine (compare_any _ _ _).mono ?_
    rintro r w3 ⟨rfl, rfl⟩
    exact ⟨_, rfl, Below.refl _ _, ⟨_, rfl⟩⟩
  · intro a w1 hat
    have h1 : a.tmps.getD 2 undef = .pointer (some ⟨w.heap.size, 0, none⟩) := hat.base 2 (by kernel_rfl)
    have c0 := cell_keep (hb0.cell 0) hat.since
    have c1 := cell_keep (hb0.cell 1) hat.since
    have c2 := cell_keep (hb0.cell 2) hat.since
    have c3 := cell_keep (hb0.cell 3) hat.since
    have c4 := cell_keep (hb0.cell 4) hat.since
    have c5 := cell_keep (hb0.cell 5) hat.since
    have c6 := cell_keep (hb0.cell 6) hat.since
    (rw [if_pos (by rfl)]; go_simp; exact Below.refl _ _)
  · intro a w1 hat
    have h1 : a.tmps.getD 15 undef = .agg (HD.arr ⟨age, kind, id, adv, seq, sum, long⟩) := hat.dep 10 15 (by kernel_rfl) (by kernel_rfl)
    (have h11 := h1; rw [Array.getD_eq_getD_getElem?] at h11)
    rw [if_pos (by rfl)]
    go_simp
    refine (gone_any ⟨age, kind, id, adv, seq, sum, long⟩ _).mono ?_
    rintro r w3 ⟨⟨n, rfl⟩, hb⟩
    exact ⟨_, rfl, hb, ⟨n, rfl⟩⟩
  · intro a w1 hat
    have h1 : a.tmps.getD 3 undef = .pointer (some ⟨w.heap.size + 1, 0, none⟩) := hat.base 3 (by kernel_rfl)
    have c0 := cell_keep (hr0.cell 0) hat.since
    have c1 := cell_keep (hr0.cell 1) hat.since
    have c2 := cell_keep (hr0.cell 2) hat.since
    have c3 := cell_keep (hr0.cell 3) hat.since
    have c4 := cell_keep (hr0.cell 4) hat.since
    have c5 := cell_keep (hr0.cell 5) hat.since
    have c6 := cell_keep (hr0.cell 6) hat.since
    (rw [if_pos (by rfl)]; go_simp; exact Below.refl _ _)
  · intro a w1 hat
    have h1 : a.tmps.getD 17 undef = .agg (HD.arr ⟨age', kind', id', adv', seq', sum', long'⟩) := hat.dep 12 17 (by kernel_rfl) (by kernel_rfl)
    (have h11 := h1; rw [Array.getD_eq_getD_getElem?] at h11)
    rw [if_pos (by rfl)]
    go_simp
    refine (gone_any ⟨age', kind', id', adv', seq', sum', long'⟩ _).mono ?_
    rintro r w3 ⟨⟨n, rfl⟩, hb⟩
    exact ⟨_, rfl, hb, ⟨n, rfl⟩⟩
  · intro a w1 hat
    have h1 : Some1 (a.tmps.getD 16 undef) := hat.dep 11 16 (by kernel_rfl) (by kernel_rfl)
    have h2 : Some1 (a.tmps.getD 18 undef) := hat.dep 13 18 (by kernel_rfl) (by kernel_rfl)
    obtain ⟨n1, h1⟩ := h1
    obtain ⟨n2, h2⟩ := h2
    (have h11 := h1; rw [Array.getD_eq_getD_getElem?] at h11)
    (have h21 := h2; rw [Array.getD_eq_getD_getElem?] at h21)
    rw [if_pos (by rfl)]
    go_simp
    refine (compare_any _ _ _).mono ?_
    rintro r w3 ⟨rfl, rfl⟩
    exact ⟨_, rfl, Below.refl _ _, ⟨_, rfl⟩⟩
  · intro a w1 hat
    have h1 : a.tmps.getD 2 undef = .pointer (some ⟨w.heap.size, 0, none⟩) := hat.base 2 (by kernel_rfl)
    have c0 := cell_keep (hb0.cell 0) hat.since
    have c1 := cell_keep (hb0.cell 1) hat.since
    have c2 := cell_keep (hb0.cell 2) hat.since
    have c3 := cell_keep (hb0.cell 3) hat.since
    have c4 := cell_keep (hb0.cell 4) hat.since
    have c5 := cell_keep (hb0.cell 5) hat.since
    have c6 := cell_keep (hb0.cell 6) hat.since
    (rw [if_pos (by rfl)]; go_simp; exact Below.refl _ _)
  · intro a w1 hat
    have h1 : a.tmps.getD 3 undef = .pointer (some ⟨w.heap.size + 1, 0, none⟩) := hat.base 3 (by kernel_rfl)
    have c0 := cell_keep (hr0.cell 0) hat.since
    have c1 := cell_keep (hr0.cell 1) hat.since
    have c2 := cell_keep (hr0.cell 2) hat.since
    have c3 := cell_keep (hr0.cell 3) hat.since
    have c4 := cell_keep (hr0.cell 4) hat.since
    have c5 := cell_keep (hr0.cell 5) hat.since
    have c6 := cell_keep (hr0.cell 6) hat.since
    (rw [if_pos (by rfl)]; go_simp; exact Below.refl _ _)
  · intro a w1 hat
    have h1 : a.tmps.getD 20 undef = .agg (HD.arr ⟨age, kind, id, adv, seq, sum, long⟩) := hat.dep 15 20 (by kernel_rfl) (by kernel_rfl)
    have h2 : a.tmps.getD 21 undef = .agg (HD.arr ⟨age', kind', id', adv', seq', sum', long'⟩) := hat.dep 16 21 (by kernel_rfl) (by kernel_rfl)
    (have h11 := h1; rw [Array.getD_eq_getD_getElem?] at h11)
    (have h21 := h2; rw [Array.getD_eq_getD_getElem?] at h21)
    rw [if_pos (by rfl)]
    go_simp
    refine (young_any ⟨age, kind, id, adv, seq, sum, long⟩ ⟨age', kind', id', adv', seq', sum', long'⟩ _ H0.out HA.out).mono ?_
    rintro r w3 ⟨⟨n, rfl⟩, hb⟩
    exact ⟨_, rfl, hb, ⟨n, rfl⟩⟩
  · intro a w1 hat
    have h1 : a.tmps.getD 9 undef = .int .i64 1 := hat.dep 4 9 (by kernel_rfl) (by kernel_rfl)
    obtain ⟨n2, h2⟩ : Some1 (a.tmps.getD 14 undef) := hat.dep 9 14 (by kernel_rfl) (by kernel_rfl)
    obtain ⟨n3, h3⟩ : Some1 (a.tmps.getD 19 undef) := hat.dep 14 19 (by kernel_rfl) (by kernel_rfl)
    obtain ⟨n4, h4⟩ : Some1 (a.tmps.getD 22 undef) := hat.dep 17 22 (by kernel_rfl) (by kernel_rfl)
    (have h11 := h1; rw [Array.getD_eq_getD_getElem?] at h11)
    (have h21 := h2; rw [Array.getD_eq_getD_getElem?] at h21)
    (have h31 := h3; rw [Array.getD_eq_getD_getElem?] at h31)
    (have h41 := h4; rw [Array.getD_eq_getD_getElem?] at h41)
    rw [if_pos (by rfl)]
    go_simp
    exact ⟨_, rfl, below_new _ _, n2, n3, n4, ⟨_, _, rfl, (Reads.new w1 #[.int .i64 1, .int .i64 n2, .int .i64 n3, .int .i64 n4] 3 4 1 rfl).more (by simp)⟩⟩
  · intro a w1 hat
    have h1 : ∃ n2 n3 n4 : Int, Nums [1, n2, n3, n4] (a.tmps.getD 23 undef) w1 := hat.dep 18 23 (by kernel_rfl) (by kernel_rfl)
    obtain ⟨n2, n3, n4, A, c, h1, hr⟩ := h1
    (have h11 := h1; rw [Array.getD_eq_getD_getElem?] at h11)
    rw [if_pos (by rfl)]
    go_simp
    refine (or_any _ _ _ 1 [n2, n3, n4] _ (by simp) (by decide) hr).mono ?_
    rintro r w3 ⟨rfl, rfl⟩
    exact ⟨rfl, Below.refl _ _⟩
  · intro a w1 hat
    have h1 : a.tmps.getD 24 undef = .int .i64 1 := hat.dep 19 24 (by kernel_rfl) (by kernel_rfl)
    (have h11 := h1; rw [Array.getD_eq_getD_getElem?] at h11)
    rw [if_pos (by rfl)]
    go_simp
    exact Below.refl _ _
  intro vs W1 hW1 hF
  have hv : vs 20 = .int .i64 1 := hF 20 (by decide)
  simp only [putAll, Act.put, List.setIfInBounds_toArray, List.set_cons_zero, List.set_cons_succ, Nat.zero_add, Nat.reduceAdd]
  rw [hv]
  clear hF
  go_wp2
  go_ret
  exact ⟨rfl, below0 hB0 hW1⟩
end Go.Proofs.Ytmklebkldailnaa
