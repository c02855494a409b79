/-
  OrigPlan: the walk of the law.
-/
import Derived.Test.YtmklebkldailnaaRef19p
import Derived.Test.YtmklebkldailnaaWakes
namespace Go.Proofs.Ytmklebkldailnaa
open Go.RowKit
set_option linter.unusedSimpArgs false
set_option linter.unusedVariables false

def longB (l : LV) : Bool := decide (20 < (l.links.length : Int)) || decide (20 < (l.mem.length : Int))
def farB (n : Int) : Bool := decide (1099511627776 < n) || decide (n < -1099511627776)
theorem long_no {l : LV} (h : longB l = false) : l.links.length ≤ 20 ∧ l.mem.length ≤ 20 := by
  simp [longB] at h; omega
theorem far_no {n : Int} (h : farB n = false) : -1099511627776 ≤ n ∧ n ≤ 1099511627776 := by
  simp [farB] at h; omega
theorem same19_self (x : LV) (p q : LP) (W : World) (hx : LOK W x p) (hy : LOK W x q) (h1 : x.links.length ≤ 5000) (h3 : x.mem.length ≤ 5000) :
    Calls Try.prog 13 #[.agg (lsaA x p), .agg (lsaA x q)] W fun r w' => r = .returned (.bool true) ∧ Below W.heap.size W w' :=
  (same19_any x x p q W hx hy h1 h1 h3 h3).mono fun r w' ⟨h1, h2⟩ => ⟨by rw [h1, decide_eq_true rfl], h2⟩
theorem seal_links (l : LV) : (sealF l).links = l.links ∧ (sealF l).mem = l.mem := by
  obtain ⟨h, e⟩ := sealF_form l
  rw [e]; exact ⟨rfl, rfl⟩
theorem plan_small (m : MV) (now : Int) (hw1 : m.want.links.length ≤ 20) (hw2 : m.want.mem.length ≤ 20) (hh1 : m.held.links.length ≤ 20) (hh2 : m.held.mem.length ≤ 20) : (planF m now).1.links.length ≤ 5000 ∧ (planF m now).1.mem.length ≤ 5000 := by
  have ht : ∀ n, (tellF m n).links.length ≤ 5000 ∧ (tellF m n).mem.length ≤ 5000 := fun n => by
    unfold tellF
    rw [(seal_links _).1, (seal_links _).2]
    exact ⟨by show m.want.links.length ≤ 5000; omega, by show m.want.mem.length ≤ 5000; omega⟩
  have hf : (flushF m).links.length ≤ 5000 ∧ (flushF m).mem.length ≤ 5000 := ⟨by show m.held.links.length ≤ 5000; omega, by show m.held.mem.length ≤ 5000; omega⟩
  have hd : (default : LV).links.length ≤ 5000 ∧ (default : LV).mem.length ≤ 5000 := ⟨by decide, by decide⟩
  unfold planF restF
  repeat' split
  all_goals first | exact ht _ | exact hf | exact hd
set_option maxRecDepth 100000 in
set_option maxHeartbeats 800000 in
theorem long19_any (l : LV) (p : LP) (W : World) :
    Calls Try.prog 9 #[.agg #[i6 l.hd.age, i6 l.hd.kind, i6 l.hd.id, i6 l.hd.adv, i6 l.hd.seq, i6 l.hd.sum, i6 l.hd.long, .slice p.A l.links.length p.c, .slice p.B l.mem.length p.d]] W (fun r w' => r = .returned (.bool (longB l)) ∧ Below W.heap.size W w') := by
  have hS := S.start W
  refine calls_walk Try.func9 rfl fun R_ hR_ a hz hd hargs => ?_
  replace hz : a.tmps.size = 13 := hz.trans (by kernel_rfl)
  have s0 := hargs 0 _ rfl
  clear hargs
  refine wp_seq ?_
  refine seq_l [0] hz ?_
  refine ⟨fun a_ h_ => st_box (cells := #[i6 l.hd.age, i6 l.hd.kind, i6 l.hd.id, i6 l.hd.adv, i6 l.hd.seq, i6 l.hd.sum, i6 l.hd.long, .slice p.A l.links.length p.c, .slice p.B l.mem.length p.d]) hS (on_none rfl) rfl (h_.b 0 s0) (by kernel_rfl) fun g3 w3 hS3 hb3 => ⟨_, rfl, ?_⟩, trivial⟩
  clear h_ a_ hS
  clear hb3
  refine ⟨.bool false, fun _ h_ => rk (run_assign rfl rfl), ?_⟩
  intro a2 hput
  have s1 : sl a2 1 = pt g3 0 := hput.new 0 1 rfl
  have s2 : sl a2 2 = .bool false := hput.new 1 2 rfl
  replace hz := hput.size.trans hz
  replace hd := hput.defers.trans hd
  clear hput s0
  change Code.wp _ _ _ _ _
  refine wp_seq ?_
  refine seq_l [] hz ?_
  refine ⟨pt g3 7, fun _ h_ => rk (fa 7 rfl (h_.b 1 s1)),
   .slice p.A l.links.length p.c, fun _ h_ => rk (ld hS3 0 rfl (h_.d 0 3)),
   i6 l.links.length, fun _ h_ => rk (run_lenS rfl (h_.d 1 4) (by kernel_rfl)),
   .bool (decide ((20 : Int) < l.links.length)), fun _ h_ => rk (run_cmp rfl (h_.d 2 5) rfl rfl (by first | rfl | exact neq_dec _ _ | exact eq_dec _ _ | simp)),
   .bool (decide ((20 : Int) < l.links.length)), fun _ h_ => rmv (h_.d 3 6), ?_⟩
  rcases dt ((20 : Int) < l.links.length) with ⟨he, hg4⟩ | ⟨he, hg4⟩
  · rw [he]
    clear he
    refine seq_off (j := 4) (d := 7) (b := false) [5, 6, 7, 8] _ (by kernel_rfl) (.inl rfl) ?_
    refine ⟨.bool true, fun _ h_ => rk (run_pick_t rfl (h_.d 4 7) rfl),
     .bool true, fun _ h_ => ras (h_.d 9 12), ?_⟩
    intro a4 hput
    replace s2 : sl a4 2 = .bool true := hput.new 10 2 rfl
    replace hz := hput.size.trans hz
    replace hd := hput.defers.trans hd
    clear hput s1
    change Code.wp _ _ _ _ _
    refine wp_ret ?_
    refine ret1 (P := Try.prog) (fn := Try.f9) hd s2 (hR_ _ _ ?_)
    refine ⟨?_, (hS3.old (by simp))⟩
    congr 2
    unfold longB
    first | rfl | (simp_all; done) | (simp_all; omega)
  · rw [he]
    clear he
    refine ⟨pt g3 8, fun _ h_ => r_ok (h_.on 4 7) (fa 8 rfl (h_.b 1 s1)),
     .slice p.B l.mem.length p.d, fun _ h_ => r_ok (h_.on 4 7) (ld hS3 0 rfl (h_.d 5 8)),
     i6 l.mem.length, fun _ h_ => r_ok (h_.on 4 7) (run_lenS rfl (h_.d 6 9) (by kernel_rfl)),
     .bool (decide ((20 : Int) < l.mem.length)), fun _ h_ => r_ok (h_.on 4 7) (run_cmp rfl (h_.d 7 10) rfl rfl (by first | rfl | exact neq_dec _ _ | exact eq_dec _ _ | simp)),
     .bool (decide ((20 : Int) < l.mem.length)), fun _ h_ => rk (run_pick_f rfl (h_.d 4 7) (h_.d 8 11)),
     .bool (decide ((20 : Int) < l.mem.length)), fun _ h_ => ras (h_.d 9 12), ?_⟩
    intro a4 hput
    replace s2 : sl a4 2 = .bool (decide ((20 : Int) < l.mem.length)) := hput.new 10 2 rfl
    replace hz := hput.size.trans hz
    replace hd := hput.defers.trans hd
    clear hput s1
    change Code.wp _ _ _ _ _
    refine wp_ret ?_
    refine ret1 (P := Try.prog) (fn := Try.f9) hd s2 (hR_ _ _ ?_)
    refine ⟨?_, (hS3.old (by simp))⟩
    congr 2
    unfold longB
    first | rfl | (simp_all; done) | (simp_all; omega)
set_option maxRecDepth 100000 in
set_option maxHeartbeats 800000 in
theorem far19_any (n : Int) (W : World) :
    Calls Try.prog 10 #[i6 n] W (fun r w' => r = .returned (.bool (farB n)) ∧ Below W.heap.size W w') := by
  have hS := S.start W
  refine calls_walk Try.func10 rfl fun R_ hR_ a hz hd hargs => ?_
  replace hz : a.tmps.size = 9 := hz.trans (by kernel_rfl)
  have s0 := hargs 0 _ rfl
  clear hargs
  refine wp_seq ?_
  refine seq_l [] hz ?_
  refine ⟨.bool false, fun _ h_ => rk (run_assign rfl rfl), ?_⟩
  intro a2 hput
  replace s0 := hput.o 0 s0
  have s2 : sl a2 2 = .bool false := hput.new 0 2 rfl
  replace hz := hput.size.trans hz
  replace hd := hput.defers.trans hd
  clear hput
  change Code.wp _ _ _ _ _
  refine wp_seq ?_
  refine seq_l [] hz ?_
  refine ⟨i6 n, fun _ h_ => rmv (h_.b 0 s0),
   .bool (decide ((1099511627776 : Int) < n)), fun _ h_ => rk (run_cmp rfl (h_.d 0 3) rfl rfl (by first | rfl | exact neq_dec _ _ | exact eq_dec _ _ | simp)),
   .bool (decide ((1099511627776 : Int) < n)), fun _ h_ => rmv (h_.d 1 4), ?_⟩
  rcases dt ((1099511627776 : Int) < n) with ⟨he, hg2⟩ | ⟨he, hg2⟩
  · rw [he]
    clear he
    refine seq_off (j := 2) (d := 5) (b := false) [3, 4] _ (by kernel_rfl) (.inl rfl) ?_
    refine ⟨.bool true, fun _ h_ => rk (run_pick_t rfl (h_.d 2 5) rfl),
     .bool true, fun _ h_ => ras (h_.d 5 8), ?_⟩
    intro a3 hput
    replace s2 : sl a3 2 = .bool true := hput.new 6 2 rfl
    replace hz := hput.size.trans hz
    replace hd := hput.defers.trans hd
    clear hput s0
    change Code.wp _ _ _ _ _
    refine wp_ret ?_
    refine ret1 (P := Try.prog) (fn := Try.f10) hd s2 (hR_ _ _ ?_)
    refine ⟨?_, (hS.old (by simp))⟩
    congr 2
    unfold farB
    first | rfl | (simp_all; done) | (simp_all; omega)
  · rw [he]
    clear he
    refine ⟨i6 n, fun _ h_ => r_ok (h_.on 2 5) (run_move rfl (h_.b 0 s0)),
     .bool (decide ((n : Int) < -1099511627776)), fun _ h_ => r_ok (h_.on 2 5) (run_cmp rfl (h_.d 3 6) rfl rfl (by first | rfl | exact neq_dec _ _ | exact eq_dec _ _ | simp)),
     .bool (decide ((n : Int) < -1099511627776)), fun _ h_ => rk (run_pick_f rfl (h_.d 2 5) (h_.d 4 7)),
     .bool (decide ((n : Int) < -1099511627776)), fun _ h_ => ras (h_.d 5 8), ?_⟩
    intro a3 hput
    replace s2 : sl a3 2 = .bool (decide ((n : Int) < -1099511627776)) := hput.new 6 2 rfl
    replace hz := hput.size.trans hz
    replace hd := hput.defers.trans hd
    clear hput s0
    change Code.wp _ _ _ _ _
    refine wp_ret ?_
    refine ret1 (P := Try.prog) (fn := Try.f10) hd s2 (hR_ _ _ ?_)
    refine ⟨?_, (hS.old (by simp))⟩
    congr 2
    unfold farB
    first | rfl | (simp_all; done) | (simp_all; omega)
set_option maxRecDepth 100000 in
set_option maxHeartbeats 800000 in
theorem lawPlan_any (m : MV) (p q : LP) (now : Int) (W : World) (hok : MOK W m p q) (hl : -9223372036854775808 ≤ m.last) (hq : -9223372036854775808 ≤ m.held.hd.seq) :
    Calls Try.prog 3 #[.agg #[i6 m.want.hd.age, i6 m.want.hd.kind, i6 m.want.hd.id, i6 m.want.hd.adv, i6 m.want.hd.seq, i6 m.want.hd.sum, i6 m.want.hd.long, .slice p.A m.want.links.length p.c, .slice p.B m.want.mem.length p.d, .bool m.wanted, i6 m.held.hd.age, i6 m.held.hd.kind, i6 m.held.hd.id, i6 m.held.hd.adv, i6 m.held.hd.seq, i6 m.held.hd.sum, i6 m.held.hd.long, .slice q.A m.held.links.length q.c, .slice q.B m.held.mem.length q.d, .bool m.is_, i6 m.last, i6 m.at_, .bool m.ever], i6 now] W (fun r w' => r = .returned (.bool true) ∧ Below W.heap.size W w') := by
  have hS := S.start W
  refine calls_walk Try.func3 rfl fun R_ hR_ a hz hd hargs => ?_
  replace hz : a.tmps.size = 46 := hz.trans (by kernel_rfl)
  have s0 := hargs 0 _ rfl
  have s1 := hargs 1 _ rfl
  clear hargs
  refine wp_seq ?_
  refine seq_l [0] hz ?_
  refine ⟨fun a_ h_ => st_box (cells := #[i6 m.want.hd.age, i6 m.want.hd.kind, i6 m.want.hd.id, i6 m.want.hd.adv, i6 m.want.hd.seq, i6 m.want.hd.sum, i6 m.want.hd.long, .slice p.A m.want.links.length p.c, .slice p.B m.want.mem.length p.d, .bool m.wanted, i6 m.held.hd.age, i6 m.held.hd.kind, i6 m.held.hd.id, i6 m.held.hd.adv, i6 m.held.hd.seq, i6 m.held.hd.sum, i6 m.held.hd.long, .slice q.A m.held.links.length q.c, .slice q.B m.held.mem.length q.d, .bool m.is_, i6 m.last, i6 m.at_, .bool m.ever]) hS (on_none rfl) rfl (h_.b 0 s0) (by kernel_rfl) fun g3 w3 hS3 hb3 => ⟨_, rfl, ?_⟩, trivial⟩
  clear h_ a_ hS
  clear hb3
  refine ⟨.bool false, fun _ h_ => rk (run_assign rfl rfl), ?_⟩
  intro a2 hput
  replace s1 := hput.o 1 s1
  have s2 : sl a2 2 = pt g3 0 := hput.new 0 2 rfl
  have s4 : sl a2 4 = .bool false := hput.new 1 4 rfl
  replace hz := hput.size.trans hz
  replace hd := hput.defers.trans hd
  clear hput s0
  change Code.wp _ _ _ _ _
  refine wp_seq ?_
  refine wp_seq ?_
  refine seq_l [0] hz ?_
  refine ⟨fun a_ h_ => st_call (on_none rfl) (run_call rfl (by simp) rfl) (wakes_any _) ?_, trivial⟩
  rintro e w5 ⟨rfl, hb5⟩
  refine ⟨_, rfl, _, rfl, ?_⟩
  clear h_ a_
  have hS5 := hS3.below hb5
  clear hS3 hb5
  refine ⟨.bool false, fun _ h_ => rk (run_not rfl (h_.d 0 8) rfl), ?_⟩
  intro a4 hput
  replace s1 := hput.o 1 s1
  replace s2 := hput.o 2 s2
  replace s4 := hput.o 4 s4
  have s9 : sl a4 9 = .bool false := hput.new 1 9 rfl
  replace hz := hput.size.trans hz
  replace hd := hput.defers.trans hd
  clear hput
  change Code.wp _ _ _ _ _
  refine wp_cond_false s9 ?_
  refine wp_skip ?_
  change Code.wp _ _ _ _ _
  refine wp_seq ?_
  refine wp_seq ?_
  refine seq_l [2, 6, 10, 15] hz ?_
  refine ⟨pt g3 0, fun _ h_ => rk (fa 0 rfl (h_.b 2 s2)),
   .agg #[i6 m.want.hd.age, i6 m.want.hd.kind, i6 m.want.hd.id, i6 m.want.hd.adv, i6 m.want.hd.seq, i6 m.want.hd.sum, i6 m.want.hd.long, .slice p.A m.want.links.length p.c, .slice p.B m.want.mem.length p.d], fun _ h_ => rk (lbS 9 (hS5.blk (i := 0) rfl) rfl (h_.d 0 10)), ?_⟩
  refine ⟨fun a_ h_ => st_call (on_none rfl) (run_call rfl (map1 (h_.d 1 11)) rfl) (long19_any m.want p _) ?_, trivial⟩
  rintro e w7 ⟨rfl, hb7⟩
  refine ⟨_, rfl, _, rfl, ?_⟩
  clear h_ a_
  have hS7 := hS5.below hb7
  clear hS5 hb7
  refine ⟨.bool (longB m.want), fun _ h_ => rmv (h_.d 2 12), ?_⟩
  rcases bt (longB m.want) with hg3 | hg3
  · rw [hg3]
    refine seq_off (j := 3) (d := 13) (b := false) [4, 5] _ (by kernel_rfl) (.inl rfl) ?_
    refine seq_offe (j := 3) (d := 13) (b := false) (by kernel_rfl) (.inl rfl) ?_
    refine ⟨.bool true, fun _ h_ => rk (run_pick_t rfl (h_.d 3 13) rfl),
     .bool true, fun _ h_ => rmv (h_.d 7 17), ?_⟩
    refine seq_off (j := 8) (d := 18) (b := false) [9] _ (by kernel_rfl) (.inl rfl) ?_
    refine seq_offe (j := 8) (d := 18) (b := false) (by kernel_rfl) (.inl rfl) ?_
    refine ⟨.bool true, fun _ h_ => rk (run_pick_t rfl (h_.d 8 18) rfl),
     .bool true, fun _ h_ => rmv (h_.d 11 21), ?_⟩
    refine seq_off (j := 12) (d := 22) (b := false) [13, 14] _ (by kernel_rfl) (.inl rfl) ?_
    refine seq_offe (j := 12) (d := 22) (b := false) (by kernel_rfl) (.inl rfl) ?_
    refine ⟨.bool true, fun _ h_ => rk (run_pick_t rfl (h_.d 12 22) rfl), ?_⟩
    intro a6 hput
    replace s1 := hput.o 1 s1
    replace s2 := hput.o 2 s2
    replace s4 := hput.o 4 s4
    have s26 : sl a6 26 = .bool true := hput.new 16 26 rfl
    replace hz := hput.size.trans hz
    replace hd := hput.defers.trans hd
    clear hput s9
    change Code.wp _ _ _ _ _
    refine wp_cond_true s26 ?_
    refine wp_seq ?_
    refine seq_l [] hz ?_
    refine ⟨.bool true, fun _ h_ => rk (run_assign rfl rfl), ?_⟩
    intro a8 hput
    replace s1 := hput.o 1 s1
    replace s2 := hput.o 2 s2
    replace s4 : sl a8 4 = .bool true := hput.new 0 4 rfl
    replace hz := hput.size.trans hz
    replace hd := hput.defers.trans hd
    clear hput s26
    change Code.wp _ _ _ _ _
    refine wp_ret ?_
    refine ret1 (P := Try.prog) (fn := Try.f3) hd s4 (hR_ _ _ ?_)
    exact ⟨rfl, (hS7.old (by simp))⟩
  · rw [hg3]
    refine ⟨pt g3 10, fun _ h_ => r_ok (h_.on 3 13) (fa 10 rfl (h_.b 2 s2)),
     .agg #[i6 m.held.hd.age, i6 m.held.hd.kind, i6 m.held.hd.id, i6 m.held.hd.adv, i6 m.held.hd.seq, i6 m.held.hd.sum, i6 m.held.hd.long, .slice q.A m.held.links.length q.c, .slice q.B m.held.mem.length q.d], fun _ h_ => r_ok (h_.on 3 13) (lbS 9 (hS7.blk (i := 0) rfl) rfl (h_.d 4 14)), ?_⟩
    refine ⟨fun a_ h_ => st_call (h_.on 3 13) (run_call rfl (map1 (h_.d 5 15)) rfl) (long19_any m.held q _) ?_, trivial⟩
    rintro e w9 ⟨rfl, hb9⟩
    refine ⟨_, rfl, _, rfl, ?_⟩
    clear h_ a_
    have hS9 := hS7.below hb9
    clear hS7 hb9
    refine ⟨.bool (longB m.held), fun _ h_ => rk (run_pick_f rfl (h_.d 3 13) (h_.d 6 16)),
     .bool (longB m.held), fun _ h_ => rmv (h_.d 7 17), ?_⟩
    rcases bt (longB m.held) with hg8 | hg8
    · rw [hg8]
      refine seq_off (j := 8) (d := 18) (b := false) [9] _ (by kernel_rfl) (.inl rfl) ?_
      refine seq_offe (j := 8) (d := 18) (b := false) (by kernel_rfl) (.inl rfl) ?_
      refine ⟨.bool true, fun _ h_ => rk (run_pick_t rfl (h_.d 8 18) rfl),
       .bool true, fun _ h_ => rmv (h_.d 11 21), ?_⟩
      refine seq_off (j := 12) (d := 22) (b := false) [13, 14] _ (by kernel_rfl) (.inl rfl) ?_
      refine seq_offe (j := 12) (d := 22) (b := false) (by kernel_rfl) (.inl rfl) ?_
      refine ⟨.bool true, fun _ h_ => rk (run_pick_t rfl (h_.d 12 22) rfl), ?_⟩
      intro a6 hput
      replace s1 := hput.o 1 s1
      replace s2 := hput.o 2 s2
      replace s4 := hput.o 4 s4
      have s26 : sl a6 26 = .bool true := hput.new 16 26 rfl
      replace hz := hput.size.trans hz
      replace hd := hput.defers.trans hd
      clear hput s9
      change Code.wp _ _ _ _ _
      refine wp_cond_true s26 ?_
      refine wp_seq ?_
      refine seq_l [] hz ?_
      refine ⟨.bool true, fun _ h_ => rk (run_assign rfl rfl), ?_⟩
      intro a10 hput
      replace s1 := hput.o 1 s1
      replace s2 := hput.o 2 s2
      replace s4 : sl a10 4 = .bool true := hput.new 0 4 rfl
      replace hz := hput.size.trans hz
      replace hd := hput.defers.trans hd
      clear hput s26
      change Code.wp _ _ _ _ _
      refine wp_ret ?_
      refine ret1 (P := Try.prog) (fn := Try.f3) hd s4 (hR_ _ _ ?_)
      exact ⟨rfl, (hS9.old (by simp))⟩
    · rw [hg8]
      refine ⟨i6 now, fun _ h_ => r_ok (h_.on 8 18) (run_move rfl (h_.b 1 s1)), ?_⟩
      refine ⟨fun a_ h_ => st_call (h_.on 8 18) (run_call rfl (map1 (h_.d 9 19)) rfl) (far19_any now _) ?_, trivial⟩
      rintro e w11 ⟨rfl, hb11⟩
      refine ⟨_, rfl, _, rfl, ?_⟩
      clear h_ a_
      have hS11 := hS9.below hb11
      clear hS9 hb11
      refine ⟨.bool (farB now), fun _ h_ => rk (run_pick_f rfl (h_.d 8 18) (h_.d 10 20)),
       .bool (farB now), fun _ h_ => rmv (h_.d 11 21), ?_⟩
      rcases bt (farB now) with hg12 | hg12
      · rw [hg12]
        refine seq_off (j := 12) (d := 22) (b := false) [13, 14] _ (by kernel_rfl) (.inl rfl) ?_
        refine seq_offe (j := 12) (d := 22) (b := false) (by kernel_rfl) (.inl rfl) ?_
        refine ⟨.bool true, fun _ h_ => rk (run_pick_t rfl (h_.d 12 22) rfl), ?_⟩
        intro a6 hput
        replace s1 := hput.o 1 s1
        replace s2 := hput.o 2 s2
        replace s4 := hput.o 4 s4
        have s26 : sl a6 26 = .bool true := hput.new 16 26 rfl
        replace hz := hput.size.trans hz
        replace hd := hput.defers.trans hd
        clear hput s9
        change Code.wp _ _ _ _ _
        refine wp_cond_true s26 ?_
        refine wp_seq ?_
        refine seq_l [] hz ?_
        refine ⟨.bool true, fun _ h_ => rk (run_assign rfl rfl), ?_⟩
        intro a12 hput
        replace s1 := hput.o 1 s1
        replace s2 := hput.o 2 s2
        replace s4 : sl a12 4 = .bool true := hput.new 0 4 rfl
        replace hz := hput.size.trans hz
        replace hd := hput.defers.trans hd
        clear hput s26
        change Code.wp _ _ _ _ _
        refine wp_ret ?_
        refine ret1 (P := Try.prog) (fn := Try.f3) hd s4 (hR_ _ _ ?_)
        exact ⟨rfl, (hS11.old (by simp))⟩
      · rw [hg12]
        refine ⟨pt g3 21, fun _ h_ => r_ok (h_.on 12 22) (fa 21 rfl (h_.b 2 s2)),
         i6 m.at_, fun _ h_ => r_ok (h_.on 12 22) (ld hS11 0 rfl (h_.d 13 23)), ?_⟩
        refine ⟨fun a_ h_ => st_call (h_.on 12 22) (run_call rfl (map1 (h_.d 14 24)) rfl) (far19_any m.at_ _) ?_, trivial⟩
        rintro e w13 ⟨rfl, hb13⟩
        refine ⟨_, rfl, _, rfl, ?_⟩
        clear h_ a_
        have hS13 := hS11.below hb13
        clear hS11 hb13
        refine ⟨.bool (farB m.at_), fun _ h_ => rk (run_pick_f rfl (h_.d 12 22) (h_.d 15 25)), ?_⟩
        intro a6 hput
        replace s1 := hput.o 1 s1
        replace s2 := hput.o 2 s2
        replace s4 := hput.o 4 s4
        have s26 : sl a6 26 = .bool (farB m.at_) := hput.new 16 26 rfl
        replace hz := hput.size.trans hz
        replace hd := hput.defers.trans hd
        clear hput s9
        change Code.wp _ _ _ _ _
        refine wp_cond_b s26 (fun hc26 => ?_) (fun hc26 => ?_)
        · clear s26
          refine wp_seq ?_
          refine seq_l [] hz ?_
          refine ⟨.bool true, fun _ h_ => rk (run_assign rfl rfl), ?_⟩
          intro a14 hput
          replace s1 := hput.o 1 s1
          replace s2 := hput.o 2 s2
          replace s4 : sl a14 4 = .bool true := hput.new 0 4 rfl
          replace hz := hput.size.trans hz
          replace hd := hput.defers.trans hd
          clear hput
          change Code.wp _ _ _ _ _
          refine wp_ret ?_
          refine ret1 (P := Try.prog) (fn := Try.f3) hd s4 (hR_ _ _ ?_)
          exact ⟨rfl, (hS13.old (by simp))⟩
        · clear s26
          refine wp_skip ?_
          change Code.wp _ _ _ _ _
          refine wp_seq ?_
          obtain ⟨hw1, hw2⟩ := long_no hg3
          obtain ⟨hh1, hh2⟩ := long_no hg8
          have hn := far_no hg12
          have ha := far_no hc26
          obtain ⟨ps1, ps2⟩ := plan_small m now hw1 hw2 hh1 hh2
          refine seq_l [2, 6, 7] hz ?_
          refine ⟨.agg #[i6 m.want.hd.age, i6 m.want.hd.kind, i6 m.want.hd.id, i6 m.want.hd.adv, i6 m.want.hd.seq, i6 m.want.hd.sum, i6 m.want.hd.long, .slice p.A m.want.links.length p.c, .slice p.B m.want.mem.length p.d, .bool m.wanted, i6 m.held.hd.age, i6 m.held.hd.kind, i6 m.held.hd.id, i6 m.held.hd.adv, i6 m.held.hd.seq, i6 m.held.hd.sum, i6 m.held.hd.long, .slice q.A m.held.links.length q.c, .slice q.B m.held.mem.length q.d, .bool m.is_, i6 m.last, i6 m.at_, .bool m.ever], fun _ h_ => rk (lbS 23 (hS13.blk (i := 0) rfl) rfl (h_.b 2 s2)),
           i6 now, fun _ h_ => rmv (h_.b 1 s1), ?_⟩
          refine ⟨fun a_ h_ => st_call (on_none rfl) (run_call rfl (map2 (h_.d 0 28) (h_.d 1 29)) rfl) (plan_any m p q now _ ⟨by omega, by omega, by omega, by omega⟩ (hok.below (hS13.old (by simp))) hn ha hl hq) ?_, trivial⟩
          rintro e w16 ⟨q16, rfl, hO, hb16⟩
          refine ⟨_, rfl, _, rfl, ?_⟩
          clear h_ a_
          have hS16 := hS13.pushLB (hS13.old (by simp)).size hb16 hO
          clear hO hb16 hS13
          refine ⟨.tuple #[.agg #[i6 ((planF m now).1.hd.age), i6 ((planF m now).1.hd.kind), i6 ((planF m now).1.hd.id), i6 ((planF m now).1.hd.adv), i6 ((planF m now).1.hd.seq), i6 ((planF m now).1.hd.sum), i6 ((planF m now).1.hd.long), .slice q16.A ((planF m now).1.links.length) q16.c, .slice q16.B ((planF m now).1.mem.length) q16.d], i6 ((planF m now).2)], fun _ h_ => rmv (h_.d 2 30),
           .agg #[i6 ((planF m now).1.hd.age), i6 ((planF m now).1.hd.kind), i6 ((planF m now).1.hd.id), i6 ((planF m now).1.hd.adv), i6 ((planF m now).1.hd.seq), i6 ((planF m now).1.hd.sum), i6 ((planF m now).1.hd.long), .slice q16.A ((planF m now).1.links.length) q16.c, .slice q16.B ((planF m now).1.mem.length) q16.d], fun _ h_ => rk (run_extract rfl (h_.d 3 27) rfl),
           i6 ((planF m now).2), fun _ h_ => rk (run_extract rfl (h_.d 3 27) rfl), ?_⟩
          refine ⟨fun a_ h_ => st_alloc (cells := #[i6 0, i6 0, i6 0, i6 0, i6 0, i6 0, i6 0, .slice none 0 0, .slice none 0 0]) hS16 (on_none rfl) rfl (by kernel_rfl) fun g17 w17 hS17 hb17 => ⟨_, rfl, ?_⟩, trivial⟩
          clear h_ a_ hS16
          clear hb17
          refine ⟨fun a_ h_ => st_store (n := 9) (cells := #[i6 ((planF m now).1.hd.age), i6 ((planF m now).1.hd.kind), i6 ((planF m now).1.hd.id), i6 ((planF m now).1.hd.adv), i6 ((planF m now).1.hd.seq), i6 ((planF m now).1.hd.sum), i6 ((planF m now).1.hd.long), .slice q16.A ((planF m now).1.links.length) q16.c, .slice q16.B ((planF m now).1.mem.length) q16.d]) (cs' := #[i6 ((planF m now).1.hd.age), i6 ((planF m now).1.hd.kind), i6 ((planF m now).1.hd.id), i6 ((planF m now).1.hd.adv), i6 ((planF m now).1.hd.seq), i6 ((planF m now).1.hd.sum), i6 ((planF m now).1.hd.long), .slice q16.A ((planF m now).1.links.length) q16.c, .slice q16.B ((planF m now).1.mem.length) q16.d]) 0 hS17 rfl (on_none rfl) rfl (h_.d 6 5) (h_.d 4 31) rfl (by kernel_rfl) ⟨Nat.le_of_ble_eq_true rfl, rfl, by kernel_rfl⟩ rfl fun w18 hS18 he18 => ⟨_, rfl, ?_⟩, trivial⟩
          clear h_ a_ he18 hS17
          replace hS18 : S (kap W) ((blkA g17 27 #[i6 ((planF m now).1.hd.age), i6 ((planF m now).1.hd.kind), i6 ((planF m now).1.hd.id), i6 ((planF m now).1.hd.adv), i6 ((planF m now).1.hd.seq), i6 ((planF m now).1.hd.sum), i6 ((planF m now).1.hd.long), .slice q16.A ((planF m now).1.links.length) q16.c, .slice q16.B ((planF m now).1.mem.length) q16.d]) :: (blkA g3 29 #[i6 m.want.hd.age, i6 m.want.hd.kind, i6 m.want.hd.id, i6 m.want.hd.adv, i6 m.want.hd.seq, i6 m.want.hd.sum, i6 m.want.hd.long, .slice p.A m.want.links.length p.c, .slice p.B m.want.mem.length p.d, .bool m.wanted, i6 m.held.hd.age, i6 m.held.hd.kind, i6 m.held.hd.id, i6 m.held.hd.adv, i6 m.held.hd.seq, i6 m.held.hd.sum, i6 m.held.hd.long, .slice q.A m.held.links.length q.c, .slice q.B m.held.mem.length q.d, .bool m.is_, i6 m.last, i6 m.at_, .bool m.ever]) :: []) ((rowB W.heap.size (.slice q16.A (planF m now).1.links.length q16.c) 69 4 (planF m now).1.links.length (rowC Lk.cells (planF m now).1.links)) :: (rowB W.heap.size (.slice q16.B (planF m now).1.mem.length q16.d) 3 1 (planF m now).1.mem.length (ints (planF m now).1.mem)) :: (memA W W.heap.size) :: []) w18 := hS18
          refine ⟨i6 ((planF m now).2), fun _ h_ => ras (h_.d 5 32), ?_⟩
          intro a15 hput
          replace s1 := hput.o 1 s1
          replace s2 := hput.o 2 s2
          replace s4 := hput.o 4 s4
          have s5 : sl a15 5 = pt g17 0 := hput.new 6 5 rfl
          have s6 : sl a15 6 = i6 ((planF m now).2) := hput.new 8 6 rfl
          replace hz := hput.size.trans hz
          replace hd := hput.defers.trans hd
          clear hput
          change Code.wp _ _ _ _ _
          refine wp_seq ?_
          refine seq_l [2, 3, 4] hz ?_
          refine ⟨.agg #[i6 m.want.hd.age, i6 m.want.hd.kind, i6 m.want.hd.id, i6 m.want.hd.adv, i6 m.want.hd.seq, i6 m.want.hd.sum, i6 m.want.hd.long, .slice p.A m.want.links.length p.c, .slice p.B m.want.mem.length p.d, .bool m.wanted, i6 m.held.hd.age, i6 m.held.hd.kind, i6 m.held.hd.id, i6 m.held.hd.adv, i6 m.held.hd.seq, i6 m.held.hd.sum, i6 m.held.hd.long, .slice q.A m.held.links.length q.c, .slice q.B m.held.mem.length q.d, .bool m.is_, i6 m.last, i6 m.at_, .bool m.ever], fun _ h_ => rk (lbS 23 (hS18.blk (i := 1) rfl) rfl (h_.b 2 s2)),
           i6 now, fun _ h_ => rmv (h_.b 1 s1), ?_⟩
          refine ⟨fun a_ h_ => st_call (on_none rfl) (run_call rfl (map2 (h_.d 0 33) (h_.d 1 34)) rfl) (plan19_any m p q now _ hn ha hl hq hw1 hw2 hh1 hh2 (hok.below (hS18.old (by simp)))) ?_, trivial⟩
          rintro e w20 ⟨q20, rfl, hO, hb20⟩
          refine ⟨_, rfl, _, rfl, ?_⟩
          clear h_ a_
          have hS20 := hS18.pushLB (hS18.old (by simp)).size hb20 hO
          clear hO hb20 hS18
          refine ⟨fun a_ h_ => st_alloc (cells := #[i6 0, i6 0, i6 0, i6 0, i6 0, i6 0, i6 0, .slice none 0 0, .slice none 0 0, i6 0]) hS20 (on_none rfl) rfl (by kernel_rfl) fun g21 w21 hS21 hb21 => ⟨_, rfl, ?_⟩, trivial⟩
          clear h_ a_ hS20
          clear hb21
          refine ⟨fun a_ h_ => st_store (n := 10) (cells := #[i6 ((planF m now).1.hd.age), i6 ((planF m now).1.hd.kind), i6 ((planF m now).1.hd.id), i6 ((planF m now).1.hd.adv), i6 ((planF m now).1.hd.seq), i6 ((planF m now).1.hd.sum), i6 ((planF m now).1.hd.long), .slice q20.A ((planF m now).1.links.length) q20.c, .slice q20.B ((planF m now).1.mem.length) q20.d, i6 ((planF m now).2)]) (cs' := #[i6 ((planF m now).1.hd.age), i6 ((planF m now).1.hd.kind), i6 ((planF m now).1.hd.id), i6 ((planF m now).1.hd.adv), i6 ((planF m now).1.hd.seq), i6 ((planF m now).1.hd.sum), i6 ((planF m now).1.hd.long), .slice q20.A ((planF m now).1.links.length) q20.c, .slice q20.B ((planF m now).1.mem.length) q20.d, i6 ((planF m now).2)]) 0 hS21 rfl (on_none rfl) rfl (h_.d 3 7) (h_.d 2 35) rfl (by kernel_rfl) ⟨Nat.le_of_ble_eq_true rfl, rfl, by kernel_rfl⟩ rfl fun w22 hS22 he22 => ⟨_, rfl, ?_⟩, trivial⟩
          clear h_ a_ he22 hS21
          replace hS22 : S (kap W) ((blkA g21 36 #[i6 ((planF m now).1.hd.age), i6 ((planF m now).1.hd.kind), i6 ((planF m now).1.hd.id), i6 ((planF m now).1.hd.adv), i6 ((planF m now).1.hd.seq), i6 ((planF m now).1.hd.sum), i6 ((planF m now).1.hd.long), .slice q20.A ((planF m now).1.links.length) q20.c, .slice q20.B ((planF m now).1.mem.length) q20.d, i6 ((planF m now).2)]) :: (blkA g17 27 #[i6 ((planF m now).1.hd.age), i6 ((planF m now).1.hd.kind), i6 ((planF m now).1.hd.id), i6 ((planF m now).1.hd.adv), i6 ((planF m now).1.hd.seq), i6 ((planF m now).1.hd.sum), i6 ((planF m now).1.hd.long), .slice q16.A ((planF m now).1.links.length) q16.c, .slice q16.B ((planF m now).1.mem.length) q16.d]) :: (blkA g3 29 #[i6 m.want.hd.age, i6 m.want.hd.kind, i6 m.want.hd.id, i6 m.want.hd.adv, i6 m.want.hd.seq, i6 m.want.hd.sum, i6 m.want.hd.long, .slice p.A m.want.links.length p.c, .slice p.B m.want.mem.length p.d, .bool m.wanted, i6 m.held.hd.age, i6 m.held.hd.kind, i6 m.held.hd.id, i6 m.held.hd.adv, i6 m.held.hd.seq, i6 m.held.hd.sum, i6 m.held.hd.long, .slice q.A m.held.links.length q.c, .slice q.B m.held.mem.length q.d, .bool m.is_, i6 m.last, i6 m.at_, .bool m.ever]) :: []) ((rowB W.heap.size (.slice q20.A (planF m now).1.links.length q20.c) 69 4 (planF m now).1.links.length (rowC Lk.cells (planF m now).1.links)) :: (rowB W.heap.size (.slice q20.B (planF m now).1.mem.length q20.d) 3 1 (planF m now).1.mem.length (ints (planF m now).1.mem)) :: (rowB W.heap.size (.slice q16.A (planF m now).1.links.length q16.c) 69 4 (planF m now).1.links.length (rowC Lk.cells (planF m now).1.links)) :: (rowB W.heap.size (.slice q16.B (planF m now).1.mem.length q16.d) 3 1 (planF m now).1.mem.length (ints (planF m now).1.mem)) :: (memA W W.heap.size) :: []) w22 := hS22
          intro a19 hput
          replace s4 := hput.o 4 s4
          replace s5 := hput.o 5 s5
          replace s6 := hput.o 6 s6
          have s7 : sl a19 7 = pt g21 0 := hput.new 3 7 rfl
          replace hz := hput.size.trans hz
          replace hd := hput.defers.trans hd
          clear hput s1 s2
          change Code.wp _ _ _ _ _
          refine wp_seq ?_
          refine seq_l [8] hz ?_
          refine ⟨i6 ((planF m now).2), fun _ h_ => rmv (h_.b 6 s6),
           pt g21 9, fun _ h_ => rk (fa 9 rfl (h_.b 7 s7)),
           i6 ((planF m now).2), fun _ h_ => rk (ld hS22 0 rfl (h_.d 1 37)),
           .bool true, fun _ h_ => rk (run_cmp rfl (h_.d 0 36) (h_.d 2 38) rfl (by simp)),
           .bool true, fun _ h_ => rmv (h_.d 3 39),
           .agg #[i6 ((planF m now).1.hd.age), i6 ((planF m now).1.hd.kind), i6 ((planF m now).1.hd.id), i6 ((planF m now).1.hd.adv), i6 ((planF m now).1.hd.seq), i6 ((planF m now).1.hd.sum), i6 ((planF m now).1.hd.long), .slice q16.A ((planF m now).1.links.length) q16.c, .slice q16.B ((planF m now).1.mem.length) q16.d], fun _ h_ => r_ok (h_.on 4 40) (lbS 9 (hS22.blk (i := 1) rfl) rfl (h_.b 5 s5)),
           pt g21 0, fun _ h_ => r_ok (h_.on 4 40) (fa 0 rfl (h_.b 7 s7)),
           .agg #[i6 ((planF m now).1.hd.age), i6 ((planF m now).1.hd.kind), i6 ((planF m now).1.hd.id), i6 ((planF m now).1.hd.adv), i6 ((planF m now).1.hd.seq), i6 ((planF m now).1.hd.sum), i6 ((planF m now).1.hd.long), .slice q20.A ((planF m now).1.links.length) q20.c, .slice q20.B ((planF m now).1.mem.length) q20.d], fun _ h_ => r_ok (h_.on 4 40) (lbS 9 (hS22.blk (i := 0) rfl) rfl (h_.d 6 42)), ?_⟩
          refine ⟨fun a_ h_ => st_call (h_.on 4 40) (run_call rfl (map2 (h_.d 5 41) (h_.d 7 43)) rfl) (same19_self (planF m now).1 q16 q20 _ (lown_of (l := (planF m now).1) hS22 2).ok (lown_of (l := (planF m now).1) hS22 0).ok ps1 ps2) ?_, trivial⟩
          rintro e w24 ⟨rfl, hb24⟩
          refine ⟨_, rfl, _, rfl, ?_⟩
          clear h_ a_
          have hS24 := hS22.below hb24
          clear hS22 hb24
          refine ⟨.bool true, fun _ h_ => rk (run_pick_t rfl (h_.d 4 40) (h_.d 8 44)),
           .bool true, fun _ h_ => ras (h_.d 9 45), ?_⟩
          intro a23 hput
          replace s4 : sl a23 4 = .bool true := hput.new 10 4 rfl
          replace hz := hput.size.trans hz
          replace hd := hput.defers.trans hd
          clear hput s5 s6 s7
          change Code.wp _ _ _ _ _
          refine wp_ret ?_
          refine ret1 (P := Try.prog) (fn := Try.f3) hd s4 (hR_ _ _ ?_)
          exact ⟨rfl, (hS24.old (by simp))⟩
end Go.Proofs.Ytmklebkldailnaa
