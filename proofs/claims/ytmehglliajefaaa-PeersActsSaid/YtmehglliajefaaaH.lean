/-
  All, Late, Seen of a list; the walk of PeersAgain.
-/
import Derived.Test.YtmehglliajefaaaG
namespace Go.Proofs.Ytmehglliajefaaa
open Go.RowKit

theorem all_any (F : Nat → Prop) (pl : Nat) (me lan : Int) (ad : Nat → Option Nat) (ps : Nat → PV) (w : World) (h : PeersRep w F pl me lan ad ps) :
    Calls Try.prog 9 #[.pointer (some ⟨pl, 0, none⟩)] w fun r w' => ∃ A c, r = .returned (.slice A (listF (fun _ => true) ad ps 16).length c) ∧ w'.ownsRow w.heap.size 47 7 (.slice A (listF (fun _ => true) ad ps 16).length c) (listF (fun _ => true) ad ps 16).length (rowC PV.cells (listF (fun _ => true) ad ps 16)) ∧ Below w.heap.size w w' := by
  have Hh := hide h
  clear h
  go_enter Try.func9, Try.ntmps9
  go_wp2_with fail
  refine (list_any F pl me lan ad ps 26 #[] (fun _ => true) _ Hh.out cf26 (fun x w' _ => all1_any x w')).mono ?_
  rintro r w1 ⟨A, c, rfl, ho, hb⟩
  have HO := hide ho
  have HB := hide hb
  clear ho hb
  go_wp2_with fail
  go_ret
  exact ⟨A, c, rfl, HO.out, HB.out⟩
theorem late_any (F : Nat → Prop) (pl : Nat) (me lan : Int) (ad : Nat → Option Nat) (ps : Nat → PV) (now : Int) (w : World) (h : PeersRep w F pl me lan ad ps) :
    Calls Try.prog 10 #[.pointer (some ⟨pl, 0, none⟩), .int .i64 now] w fun r w' => ∃ A c, r = .returned (.slice A (listF (lateB now) ad ps 16).length c) ∧ w'.ownsRow w.heap.size 3 1 (.slice A (listF (lateB now) ad ps 16).length c) (listF (lateB now) ad ps 16).length (ints ((listF (lateB now) ad ps 16).map (·.id))) ∧ Below w.heap.size w w' := by
  have Hh := hide h
  clear h
  go_enter Try.func10, Try.ntmps10
  go_wp2_with fail
  have hb0 := Blk.new w 3 #[.int .i64 now]
  have HB0 := hide (below_new w (.cells #[.int .i64 now] 3))
  generalize w.alloc (.cells #[.int .i64 now] 3) = W at hb0 HB0 ⊢
  have hc : W.cell? ⟨w.heap.size, 0, none⟩ = some (.int .i64 now) := hb0.cell 0
  have HC := hide hc
  have hle := listF_le (lateB now) ad ps 16
  clear hb0 hc
  refine (list_any F pl me lan ad ps 28 #[.pointer (some ⟨w.heap.size, 0, none⟩)] (lateB now) _ (Hh.out.below HB0.out) cf28 (fun x w' hb => late1_any x w.heap.size now w' (cell_keep HC.out hb))).mono ?_
  rintro r w1 ⟨A, c, rfl, ho, hb⟩
  have HO := hide ho
  have HB := hide (below0 HB0.out hb)
  clear ho hb
  go_wp2_with fail
  refine (numbers_any A _ c (listF (lateB now) ad ps 16) _ (by omega) (Reads.of_own HO.out)).mono ?_
  rintro r w2 ⟨A2, c2, rfl, ho2, hb2⟩
  have HO2 := hide ho2
  have HB2 := hide (below0 HB.out hb2)
  clear ho2 hb2
  go_wp2_with fail
  go_ret
  exact ⟨A2, c2, rfl, own_mono HO2.out HB.out.size, HB2.out⟩
theorem seen_any (F : Nat → Prop) (pl : Nat) (me lan : Int) (ad : Nat → Option Nat) (ps : Nat → PV) (w : World) (h : PeersRep w F pl me lan ad ps) :
    Calls Try.prog 20 #[.pointer (some ⟨pl, 0, none⟩)] w fun r w' => ∃ A c, r = .returned (.slice A (listF (fun _ => true) ad ps 16).length c) ∧ w'.ownsRow w.heap.size 3 1 (.slice A (listF (fun _ => true) ad ps 16).length c) (listF (fun _ => true) ad ps 16).length (ints ((listF (fun _ => true) ad ps 16).map (·.id))) ∧ Below w.heap.size w w' := by
  have Hh := hide h
  have hle := listF_le (fun _ => true) ad ps 16
  clear h
  go_enter Try.func20, Try.ntmps20
  go_wp2_with fail
  refine (all_any F pl me lan ad ps _ Hh.out).mono ?_
  rintro r w1 ⟨A, c, rfl, ho, hb⟩
  have HO := hide ho
  have HB := hide hb
  clear ho hb
  go_wp2_with fail
  refine (numbers_any A _ c (listF (fun _ => true) ad ps 16) _ (by omega) (Reads.of_own HO.out)).mono ?_
  rintro r w2 ⟨A2, c2, rfl, ho2, hb2⟩
  have HO2 := hide ho2
  have HB2 := hide (below0 HB.out hb2)
  clear ho2 hb2
  go_wp2_with fail
  go_ret
  exact ⟨A2, c2, rfl, own_mono HO2.out HB.out.size, HB2.out⟩

theorem listF_none (p : PV → Bool) (ps : Nat → PV) (k : Nat) : listF p (fun _ => none) ps k = [] := by
  induction k with
  | zero => rfl
  | succ k ih => rw [listF_succ, ih]; simp
theorem listF_one (p : PV → Bool) (ps : Nat → PV) (q g k : Nat) : listF p (setAd (fun _ => none) q (some g)) ps k = if q < k ∧ p (ps q) = true then [ps q] else [] := by
  induction k with
  | zero => rw [if_neg (by omega)]; rfl
  | succ k ih =>
    rw [listF_succ, ih]
    by_cases e : k = q
    · subst e
      simp only [setAd, if_true, Option.isSome_some, Bool.true_and, Nat.lt_irrefl, false_and, if_false, List.nil_append, Nat.lt_succ_self, true_and]
    · simp only [setAd, e, if_false, Option.isSome_none, Bool.false_and, Bool.false_eq_true]
      by_cases h : q < k
      · simp [h, show q < k + 1 by omega]
      · simp [h, show ¬ q < k + 1 by omega]

theorem field_heard (a b c d e : Bool) (w : World) : (Instr.field 29 (heardV a b c d e) 0).run Try.prog w = .ok (.bool a) w := rfl
theorem wrap_small (n : Int) (h0 : 0 ≤ n) (h1 : n < 2 ^ 62) : wrap64 n = n := by
  unfold wrap64
  omega

set_option maxRecDepth 20000 in
set_option maxHeartbeats 4000000 in
theorem peersAgain_walk (frm more : Int) (hv : HV) (w : World) (hf0 : 0 ≤ frm) (hf1 : frm < 256) (hm0 : 0 ≤ more) (hm1 : more < 256) (hr : HVOK w hv) :
    Calls Try.prog 3 #[.int .u8 frm, .agg hv.cells.toArray, .int .u8 more] w fun r w' => r = .returned (.bool true) ∧ Below w.heap.size w w' := by
  obtain ⟨every, dead, prio, dr, bdr, seen, A, c⟩ := hv
  have HR := hide hr
  clear hr
  dsimp only [HV.cells]
  have hfd := field_heard
  go_enter Try.func3, Try.ntmps3
  go_wp2_with fail
  have hb0 := Blk.new w 24 #[.int .i64 every, .int .i64 dead, .int .i64 prio, .int .i64 dr, .int .i64 bdr, .slice A seen.length c]
  have HB0 := hide (below_new w (.cells #[.int .i64 every, .int .i64 dead, .int .i64 prio, .int .i64 dr, .int .i64 bdr, .slice A seen.length c] 24))
  generalize w.alloc (.cells #[.int .i64 every, .int .i64 dead, .int .i64 prio, .int .i64 dr, .int .i64 bdr, .slice A seen.length c] 24) = W0 at hb0 HB0 ⊢
  refine (wakes_any _).mono ?_
  rintro r w1 ⟨rfl, hb1⟩
  have hbl1 := hb0.below hb1 hb0.lt
  have HB1 := hide (below0 HB0.out hb1)
  have HBL1 := hide hbl1
  have a5 : w1.cell? ⟨w.heap.size, 5, none⟩ = some (.slice A seen.length c) := hbl1.cell 5
  clear hb1 hb0 hbl1
  by_cases hbig : 40 < seen.length
  · go_wp2_with fail
    go_ret
    exact ⟨rfl, HB1.out⟩
  · go_wp2_with fail
    clear a5
    refine (new_any 1 0 _).mono ?_
    rintro r w2 ⟨rfl, hR2, hb2⟩
    have hbl2 := HBL1.out.below hb2 HBL1.out.lt
    have HB2 := hide (below0 HB1.out hb2)
    have HR2 := hide hR2
    have HBL2 := hide hbl2
    obtain ⟨a0, a1, a2, a3, a4, a5⟩ := (⟨hbl2.cell 0, hbl2.cell 1, hbl2.cell 2, hbl2.cell 3, hbl2.cell 4, hbl2.cell 5⟩ : w2.cell? ⟨w.heap.size, 0, none⟩ = some (.int .i64 every) ∧ w2.cell? ⟨w.heap.size, 1, none⟩ = some (.int .i64 dead) ∧ w2.cell? ⟨w.heap.size, 2, none⟩ = some (.int .i64 prio) ∧ w2.cell? ⟨w.heap.size, 3, none⟩ = some (.int .i64 dr) ∧ w2.cell? ⟨w.heap.size, 4, none⟩ = some (.int .i64 bdr) ∧ w2.cell? ⟨w.heap.size, 5, none⟩ = some (.slice A seen.length c))
    have hRd : Reads w2 w2.heap.size 1 A seen.length (ints seen) := (HR.out.below HB2.out).more HB2.out.size
    have hAF : 0 < seen.length → ∀ b off, A = some ⟨b, off, none⟩ → b < w.heap.size := fun h0 b off e => by
      obtain ⟨b', off', e', hlt, _⟩ := HR.out.2 h0
      have e2 := e'.symm.trans e
      simp only [Option.some.injEq, Addr.mk.injEq, and_true] at e2
      obtain ⟨rfl, rfl⟩ := e2
      exact hlt
    have HRD := hide hRd
    have HAF := hide hAF
    have hw1 : w.heap.size < w1.heap.size := HBL1.out.lt
    clear hR2 hb2 hbl2 hRd hAF
    obtain ⟨q, hq⟩ : ∃ q : Nat, 2 + frm % 14 = q := ⟨(2 + frm % 14).toNat, by omega⟩
    have hq1 : 2 ≤ q := by omega
    have hq2 : q ≤ 15 := by omega
    have HQ := hide hq
    clear hq
    go_wp2_with fail
    rw [HQ.out]
    by_cases ht : takes 1 0 q every dead dr bdr
    · obtain ⟨t1, t2, t3, rfl, rfl, t6, t7⟩ := ht
      refine (hear_fresh _ w1.heap.size 1 0 _ _ q prio dr bdr 0 A seen.length c seen _ HR2.out (by omega) (by omega) (by omega) (by omega) t1 t6 t7 rfl HRD.out (fun h0 b off e hb => by have := HAF.out h0 b off e; omega) (by omega)).mono ?_
      rintro r w3 ⟨rfl, g, hg1, hg2, hR3, hK3⟩
      have hbl3 := hK3.blk HBL2.out (by show ¬ w.heap.size = w1.heap.size; omega)
      have HB3 := hide (below_keeps HB2.out hK3 (fun x hx => by cases hx; have := HB1.out.size; omega))
      have HR3 := hide hR3
      obtain ⟨y0, y1, y2, y3, y4, y5⟩ := (⟨hbl3.cell 0, hbl3.cell 1, hbl3.cell 2, hbl3.cell 3, hbl3.cell 4, hbl3.cell 5⟩ : w3.cell? ⟨w.heap.size, 0, none⟩ = some (.int .i64 2) ∧ w3.cell? ⟨w.heap.size, 1, none⟩ = some (.int .i64 8) ∧ w3.cell? ⟨w.heap.size, 2, none⟩ = some (.int .i64 prio) ∧ w3.cell? ⟨w.heap.size, 3, none⟩ = some (.int .i64 dr) ∧ w3.cell? ⟨w.heap.size, 4, none⟩ = some (.int .i64 bdr) ∧ w3.cell? ⟨w.heap.size, 5, none⟩ = some (.slice A seen.length c))
      have HT1 := hide t1
      have HT6 := hide t6
      have HT7 := hide t7
      have hRd3 := hide ((HR.out.below HB3.out).more HB3.out.size)
      have hg2' : w2.heap.size ≤ g := hg1
      have hw2 : w.heap.size < w2.heap.size := HBL2.out.lt
      clear hR3 hK3 hbl3 a0 a1 a2 a3 a4 a5 t1 t2 t3 t6 t7 hg1
      go_wp2_with fail
      refine (hear_known _ w1.heap.size 1 0 _ _ q g prio dr bdr more A seen.length c seen _ HR3.out (by omega) (by omega) (by omega) (by omega) HT1.out HT6.out HT7.out (by simp [setAd]) hRd3.out (fun h0 b off e hb => by have := HAF.out h0 b off e; omega) (by omega)).mono ?_
      rintro r w4 ⟨hr4, hR4, hK4⟩
      have hr5 : r = .returned (heardV true false (decide (1 ∈ seen)) false false) := by rw [hr4]; simp [heardF, claimsF]
      subst hr5
      have HB4 := hide (below_keeps HB3.out hK4 (fun x hx => by have := HB1.out.size; rcases hx with hx | hx <;> omega))
      have HR4 := hide hR4
      clear hr4 hR4 hK4 y0 y1 y2 y3 y4 y5
      go_wp2_with fail
      have HB5 := hide (HB4.out.alloc HB4.out.size (.cells #[.bool true, .bool false, .bool (decide (1 ∈ seen)), .bool false, .bool false] 29))
      have HR5 := hide (HR4.out.below (below_new w4 (.cells #[.bool true, .bool false, .bool (decide (1 ∈ seen)), .bool false, .bool false] 29)))
      generalize w4.alloc (.cells #[.bool true, .bool false, .bool (decide (1 ∈ seen)), .bool false, .bool false] 29) = W5 at HB5 HR5 ⊢
      refine (late_any _ w1.heap.size 1 0 _ _ (more + 8 - 1) _ HR5.out).mono ?_
      rintro r w6 ⟨A6, c6, hr6, ho6, hb6⟩
      have HB6 := hide (below0 HB5.out hb6)
      have HR6 := hide (HR5.out.below hb6)
      rw [listF_one, if_neg (by
        rintro ⟨_, h⟩
        simp only [if_true, lateB, heardF, decide_eq_true_eq] at h
        rw [wrap_small _ (by omega) (by omega)] at h
        omega)] at hr6
      subst hr6
      clear ho6 hb6
      go_wp2_with fail
      refine (late_any _ w1.heap.size 1 0 _ _ (more + 8) _ HR6.out).mono ?_
      rintro r w7 ⟨A7, c7, hr7, ho7, hb7⟩
      have HB7 := hide (below0 HB6.out hb7)
      rw [listF_one, if_pos (by
        refine ⟨by omega, ?_⟩
        simp only [if_true, lateB, heardF, decide_eq_true_eq]
        rw [wrap_small _ (by omega) (by omega)]
        omega)] at hr7
      subst hr7
      clear ho7 hb7
      go_wp2_with fail
      go_ret
      exact ⟨rfl, HB7.out⟩
    · have hno : ¬ takes 1 0 q every dead dr bdr := ht
      refine (hear_no w1.heap.size 1 0 q every dead prio dr bdr 0 A seen.length c _ (by omega) (by omega) (HR2.out.box.cell 0) (HR2.out.box.cell 1) hno).mono ?_
      rintro r w3 ⟨rfl, hb3⟩
      have HB3 := hide (below0 HB2.out hb3)
      have HR3 := hide (HR2.out.below hb3)
      clear hb3 ht hno a0 a1 a2 a3 a4 a5
      go_wp2_with fail
      refine (all_any _ w1.heap.size 1 0 _ _ _ HR3.out).mono ?_
      rintro r w4 ⟨A4, c4, rfl, ho4, hb4⟩
      have HB4 := hide (below0 HB3.out hb4)
      rw [listF_none]
      clear ho4 hb4
      go_wp2_with fail
      go_ret
      exact ⟨rfl, HB4.out⟩
end Go.Proofs.Ytmehglliajefaaa
