/-
  The reference's Right of a packet: it answers; what it lets through has right descriptions.
-/
import Derived.Test.YtdenfgnkbfbpmaaRef02
namespace Go.Proofs.Ytdenfgnkbfbpmaa
open Go.RowKit
set_option linter.unusedSimpArgs false
set_option linter.unusedVariables false

set_option maxRecDepth 100000 in
set_option maxHeartbeats 800000 in
theorem in05_any (n lo hi : Int) (W : World) :
    Calls Try.prog 20 #[i6 n, i6 lo, i6 hi] W (fun r w' => ∃ b : Bool, r = .returned (.bool b) ∧ Below W.heap.size W w') := by
  have hS := S.start W
  refine calls_walk Try.func20 rfl fun R_ hR_ a hz hd hargs => ?_
  replace hz : a.tmps.size = 15 := hz.trans (by kernel_rfl)
  have s0 := hargs 0 _ rfl
  have s1 := hargs 1 _ rfl
  have s2 := hargs 2 _ rfl
  clear hargs
  refine wp_seq ?_
  refine seq_l [] hz ?_
  refine ⟨.bool false, fun _ h_ => rk (run_assign rfl rfl), ?_⟩
  intro a2 hput
  replace s0 := hput.o 0 s0
  replace s1 := hput.o 1 s1
  replace s2 := hput.o 2 s2
  have s6 : sl a2 6 = .bool false := hput.new 0 6 rfl
  replace hz := hput.size.trans hz
  replace hd := hput.defers.trans hd
  clear hput
  change Code.wp _ _ _ _ _
  refine wp_seq ?_
  refine seq_l [] hz ?_
  refine ⟨i6 n, fun _ h_ => rmv (h_.b 0 s0),
   i6 lo, fun _ h_ => rmv (h_.b 1 s1),
   .bool (decide ((lo : Int) ≤ n)), fun _ h_ => rk (run_cmp rfl (h_.d 0 7) (h_.d 1 8) rfl (by first | rfl | exact neq_dec _ _ | exact eq_dec _ _ | simp)),
   .bool (decide ((lo : Int) ≤ n)), fun _ h_ => rmv (h_.d 2 9), ?_⟩
  rcases dt ((lo : Int) ≤ n) with ⟨he, hg3⟩ | ⟨he, hg3⟩
  · rw [he]
    clear he
    refine ⟨i6 n, fun _ h_ => r_ok (h_.on 3 10) (run_move rfl (h_.b 0 s0)),
     i6 hi, fun _ h_ => r_ok (h_.on 3 10) (run_move rfl (h_.b 2 s2)),
     .bool (decide ((n : Int) ≤ hi)), fun _ h_ => r_ok (h_.on 3 10) (run_cmp rfl (h_.d 4 11) (h_.d 5 12) rfl (by first | rfl | exact neq_dec _ _ | exact eq_dec _ _ | simp)),
     .bool (decide ((n : Int) ≤ hi)), fun _ h_ => rk (run_pick_t rfl (h_.d 3 10) (h_.d 6 13)),
     .bool (decide ((n : Int) ≤ hi)), fun _ h_ => ras (h_.d 7 14), ?_⟩
    intro a3 hput
    replace s6 : sl a3 6 = .bool (decide ((n : Int) ≤ hi)) := hput.new 8 6 rfl
    replace hz := hput.size.trans hz
    replace hd := hput.defers.trans hd
    clear hput s0 s1 s2
    change Code.wp _ _ _ _ _
    refine wp_ret ?_
    refine ret1 (P := Try.prog) (fn := Try.f20) hd s6 (hR_ _ _ ?_)
    exact ⟨_, rfl, (hS.old (by simp))⟩
  · rw [he]
    clear he
    refine seq_off (j := 3) (d := 10) (b := true) [4, 5, 6] _ (by kernel_rfl) (.inl rfl) ?_
    refine ⟨.bool false, fun _ h_ => rk (run_pick_f rfl (h_.d 3 10) rfl),
     .bool false, fun _ h_ => ras (h_.d 7 14), ?_⟩
    intro a3 hput
    replace s6 : sl a3 6 = .bool false := hput.new 8 6 rfl
    replace hz := hput.size.trans hz
    replace hd := hput.defers.trans hd
    clear hput s0 s1 s2
    change Code.wp _ _ _ _ _
    refine wp_ret ?_
    refine ret1 (P := Try.prog) (fn := Try.f20) hd s6 (hR_ _ _ ?_)
    exact ⟨_, rfl, (hS.old (by simp))⟩
set_option maxRecDepth 100000 in
set_option maxHeartbeats 800000 in
theorem noHello05_any (p : PkV) (q : PkP) (W : World) (hsm : PkSm p) (hok : PkOK W p q) :
    Calls Try.prog 21 #[.agg #[i6 p.every, i6 p.dead, i6 p.prio, i6 p.dr, i6 p.bdr, .slice q.sA p.seen.length q.sc]] W (fun r w' => ∃ b : Bool, r = .returned (.bool b) ∧ Below W.heap.size W w') := by
  have hS := S.start W
  refine calls_walk Try.func21 rfl fun R_ hR_ a hz hd hargs => ?_
  replace hz : a.tmps.size = 32 := hz.trans (by kernel_rfl)
  have s0 := hargs 0 _ rfl
  clear hargs
  refine wp_seq ?_
  refine seq_l [0] hz ?_
  refine ⟨fun a_ h_ => st_box (cells := #[i6 p.every, i6 p.dead, i6 p.prio, i6 p.dr, i6 p.bdr, .slice q.sA p.seen.length q.sc]) hS (on_none rfl) rfl (h_.b 0 s0) (by kernel_rfl) fun g3 w3 hS3 hb3 => ⟨_, rfl, ?_⟩, trivial⟩
  clear h_ a_ hS
  clear hb3
  refine ⟨.bool false, fun _ h_ => rk (run_assign rfl rfl), ?_⟩
  intro a2 hput
  have s1 : sl a2 1 = pt g3 0 := hput.new 0 1 rfl
  have s2 : sl a2 2 = .bool false := hput.new 1 2 rfl
  replace hz := hput.size.trans hz
  replace hd := hput.defers.trans hd
  clear hput s0
  change Code.wp _ _ _ _ _
  refine wp_seq ?_
  refine seq_l [] hz ?_
  refine ⟨pt g3 0, fun _ h_ => rk (fa 0 rfl (h_.b 1 s1)),
   i6 p.every, fun _ h_ => rk (ld hS3 0 rfl (h_.d 0 3)),
   .bool (decide ((p.every : Int) = 0)), fun _ h_ => rk (run_cmp rfl (h_.d 1 4) rfl rfl (by first | rfl | exact neq_dec _ _ | exact eq_dec _ _ | simp)),
   .bool (decide ((p.every : Int) = 0)), fun _ h_ => rmv (h_.d 2 5), ?_⟩
  rcases dt ((p.every : Int) = 0) with ⟨he, hg3⟩ | ⟨he, hg3⟩
  · rw [he]
    clear he
    refine ⟨pt g3 1, fun _ h_ => r_ok (h_.on 3 6) (fa 1 rfl (h_.b 1 s1)),
     i6 p.dead, fun _ h_ => r_ok (h_.on 3 6) (ld hS3 0 rfl (h_.d 4 7)),
     .bool (decide ((p.dead : Int) = 0)), fun _ h_ => r_ok (h_.on 3 6) (run_cmp rfl (h_.d 5 8) rfl rfl (by first | rfl | exact neq_dec _ _ | exact eq_dec _ _ | simp)),
     .bool (decide ((p.dead : Int) = 0)), fun _ h_ => rk (run_pick_t rfl (h_.d 3 6) (h_.d 6 9)),
     .bool (decide ((p.dead : Int) = 0)), fun _ h_ => rmv (h_.d 7 10), ?_⟩
    rcases dt ((p.dead : Int) = 0) with ⟨he, hg8⟩ | ⟨he, hg8⟩
    · rw [he]
      clear he
      refine ⟨pt g3 2, fun _ h_ => r_ok (h_.on 8 11) (fa 2 rfl (h_.b 1 s1)),
       i6 p.prio, fun _ h_ => r_ok (h_.on 8 11) (ld hS3 0 rfl (h_.d 9 12)),
       .bool (decide ((p.prio : Int) = 0)), fun _ h_ => r_ok (h_.on 8 11) (run_cmp rfl (h_.d 10 13) rfl rfl (by first | rfl | exact neq_dec _ _ | exact eq_dec _ _ | simp)),
       .bool (decide ((p.prio : Int) = 0)), fun _ h_ => rk (run_pick_t rfl (h_.d 8 11) (h_.d 11 14)),
       .bool (decide ((p.prio : Int) = 0)), fun _ h_ => rmv (h_.d 12 15), ?_⟩
      rcases dt ((p.prio : Int) = 0) with ⟨he, hg13⟩ | ⟨he, hg13⟩
      · rw [he]
        clear he
        refine ⟨pt g3 3, fun _ h_ => r_ok (h_.on 13 16) (fa 3 rfl (h_.b 1 s1)),
         i6 p.dr, fun _ h_ => r_ok (h_.on 13 16) (ld hS3 0 rfl (h_.d 14 17)),
         .bool (decide ((p.dr : Int) = 0)), fun _ h_ => r_ok (h_.on 13 16) (run_cmp rfl (h_.d 15 18) rfl rfl (by first | rfl | exact neq_dec _ _ | exact eq_dec _ _ | simp)),
         .bool (decide ((p.dr : Int) = 0)), fun _ h_ => rk (run_pick_t rfl (h_.d 13 16) (h_.d 16 19)),
         .bool (decide ((p.dr : Int) = 0)), fun _ h_ => rmv (h_.d 17 20), ?_⟩
        rcases dt ((p.dr : Int) = 0) with ⟨he, hg18⟩ | ⟨he, hg18⟩
        · rw [he]
          clear he
          refine ⟨pt g3 4, fun _ h_ => r_ok (h_.on 18 21) (fa 4 rfl (h_.b 1 s1)),
           i6 p.bdr, fun _ h_ => r_ok (h_.on 18 21) (ld hS3 0 rfl (h_.d 19 22)),
           .bool (decide ((p.bdr : Int) = 0)), fun _ h_ => r_ok (h_.on 18 21) (run_cmp rfl (h_.d 20 23) rfl rfl (by first | rfl | exact neq_dec _ _ | exact eq_dec _ _ | simp)),
           .bool (decide ((p.bdr : Int) = 0)), fun _ h_ => rk (run_pick_t rfl (h_.d 18 21) (h_.d 21 24)),
           .bool (decide ((p.bdr : Int) = 0)), fun _ h_ => rmv (h_.d 22 25), ?_⟩
          rcases dt ((p.bdr : Int) = 0) with ⟨he, hg23⟩ | ⟨he, hg23⟩
          · rw [he]
            clear he
            refine ⟨pt g3 5, fun _ h_ => r_ok (h_.on 23 26) (fa 5 rfl (h_.b 1 s1)),
             .slice q.sA p.seen.length q.sc, fun _ h_ => r_ok (h_.on 23 26) (ld hS3 0 rfl (h_.d 24 27)),
             i6 p.seen.length, fun _ h_ => r_ok (h_.on 23 26) (run_lenS rfl (h_.d 25 28) (by kernel_rfl)),
             .bool (decide ((p.seen.length : Int) = 0)), fun _ h_ => r_ok (h_.on 23 26) (run_cmp rfl (h_.d 26 29) rfl rfl (by first | rfl | exact neq_dec _ _ | exact eq_dec _ _ | simp)),
             .bool (decide ((p.seen.length : Int) = 0)), fun _ h_ => rk (run_pick_t rfl (h_.d 23 26) (h_.d 27 30)),
             .bool (decide ((p.seen.length : Int) = 0)), fun _ h_ => ras (h_.d 28 31), ?_⟩
            intro a4 hput
            replace s2 : sl a4 2 = .bool (decide ((p.seen.length : Int) = 0)) := hput.new 29 2 rfl
            replace hz := hput.size.trans hz
            replace hd := hput.defers.trans hd
            clear hput s1
            change Code.wp _ _ _ _ _
            refine wp_ret ?_
            refine ret1 (P := Try.prog) (fn := Try.f21) hd s2 (hR_ _ _ ?_)
            exact ⟨_, rfl, (hS3.old (by simp))⟩
          · rw [he]
            clear he
            refine seq_off (j := 23) (d := 26) (b := true) [24, 25, 26, 27] _ (by kernel_rfl) (.inl rfl) ?_
            refine ⟨.bool false, fun _ h_ => rk (run_pick_f rfl (h_.d 23 26) rfl),
             .bool false, fun _ h_ => ras (h_.d 28 31), ?_⟩
            intro a4 hput
            replace s2 : sl a4 2 = .bool false := hput.new 29 2 rfl
            replace hz := hput.size.trans hz
            replace hd := hput.defers.trans hd
            clear hput s1
            change Code.wp _ _ _ _ _
            refine wp_ret ?_
            refine ret1 (P := Try.prog) (fn := Try.f21) hd s2 (hR_ _ _ ?_)
            exact ⟨_, rfl, (hS3.old (by simp))⟩
        · rw [he]
          clear he
          refine seq_off (j := 18) (d := 21) (b := true) [19, 20, 21] _ (by kernel_rfl) (.inl rfl) ?_
          refine ⟨.bool false, fun _ h_ => rk (run_pick_f rfl (h_.d 18 21) rfl),
           .bool false, fun _ h_ => rmv (h_.d 22 25), ?_⟩
          refine seq_off (j := 23) (d := 26) (b := true) [24, 25, 26, 27] _ (by kernel_rfl) (.inl rfl) ?_
          refine ⟨.bool false, fun _ h_ => rk (run_pick_f rfl (h_.d 23 26) rfl),
           .bool false, fun _ h_ => ras (h_.d 28 31), ?_⟩
          intro a4 hput
          replace s2 : sl a4 2 = .bool false := hput.new 29 2 rfl
          replace hz := hput.size.trans hz
          replace hd := hput.defers.trans hd
          clear hput s1
          change Code.wp _ _ _ _ _
          refine wp_ret ?_
          refine ret1 (P := Try.prog) (fn := Try.f21) hd s2 (hR_ _ _ ?_)
          exact ⟨_, rfl, (hS3.old (by simp))⟩
      · rw [he]
        clear he
        refine seq_off (j := 13) (d := 16) (b := true) [14, 15, 16] _ (by kernel_rfl) (.inl rfl) ?_
        refine ⟨.bool false, fun _ h_ => rk (run_pick_f rfl (h_.d 13 16) rfl),
         .bool false, fun _ h_ => rmv (h_.d 17 20), ?_⟩
        refine seq_off (j := 18) (d := 21) (b := true) [19, 20, 21] _ (by kernel_rfl) (.inl rfl) ?_
        refine ⟨.bool false, fun _ h_ => rk (run_pick_f rfl (h_.d 18 21) rfl),
         .bool false, fun _ h_ => rmv (h_.d 22 25), ?_⟩
        refine seq_off (j := 23) (d := 26) (b := true) [24, 25, 26, 27] _ (by kernel_rfl) (.inl rfl) ?_
        refine ⟨.bool false, fun _ h_ => rk (run_pick_f rfl (h_.d 23 26) rfl),
         .bool false, fun _ h_ => ras (h_.d 28 31), ?_⟩
        intro a4 hput
        replace s2 : sl a4 2 = .bool false := hput.new 29 2 rfl
        replace hz := hput.size.trans hz
        replace hd := hput.defers.trans hd
        clear hput s1
        change Code.wp _ _ _ _ _
        refine wp_ret ?_
        refine ret1 (P := Try.prog) (fn := Try.f21) hd s2 (hR_ _ _ ?_)
        exact ⟨_, rfl, (hS3.old (by simp))⟩
    · rw [he]
      clear he
      refine seq_off (j := 8) (d := 11) (b := true) [9, 10, 11] _ (by kernel_rfl) (.inl rfl) ?_
      refine ⟨.bool false, fun _ h_ => rk (run_pick_f rfl (h_.d 8 11) rfl),
       .bool false, fun _ h_ => rmv (h_.d 12 15), ?_⟩
      refine seq_off (j := 13) (d := 16) (b := true) [14, 15, 16] _ (by kernel_rfl) (.inl rfl) ?_
      refine ⟨.bool false, fun _ h_ => rk (run_pick_f rfl (h_.d 13 16) rfl),
       .bool false, fun _ h_ => rmv (h_.d 17 20), ?_⟩
      refine seq_off (j := 18) (d := 21) (b := true) [19, 20, 21] _ (by kernel_rfl) (.inl rfl) ?_
      refine ⟨.bool false, fun _ h_ => rk (run_pick_f rfl (h_.d 18 21) rfl),
       .bool false, fun _ h_ => rmv (h_.d 22 25), ?_⟩
      refine seq_off (j := 23) (d := 26) (b := true) [24, 25, 26, 27] _ (by kernel_rfl) (.inl rfl) ?_
      refine ⟨.bool false, fun _ h_ => rk (run_pick_f rfl (h_.d 23 26) rfl),
       .bool false, fun _ h_ => ras (h_.d 28 31), ?_⟩
      intro a4 hput
      replace s2 : sl a4 2 = .bool false := hput.new 29 2 rfl
      replace hz := hput.size.trans hz
      replace hd := hput.defers.trans hd
      clear hput s1
      change Code.wp _ _ _ _ _
      refine wp_ret ?_
      refine ret1 (P := Try.prog) (fn := Try.f21) hd s2 (hR_ _ _ ?_)
      exact ⟨_, rfl, (hS3.old (by simp))⟩
  · rw [he]
    clear he
    refine seq_off (j := 3) (d := 6) (b := true) [4, 5, 6] _ (by kernel_rfl) (.inl rfl) ?_
    refine ⟨.bool false, fun _ h_ => rk (run_pick_f rfl (h_.d 3 6) rfl),
     .bool false, fun _ h_ => rmv (h_.d 7 10), ?_⟩
    refine seq_off (j := 8) (d := 11) (b := true) [9, 10, 11] _ (by kernel_rfl) (.inl rfl) ?_
    refine ⟨.bool false, fun _ h_ => rk (run_pick_f rfl (h_.d 8 11) rfl),
     .bool false, fun _ h_ => rmv (h_.d 12 15), ?_⟩
    refine seq_off (j := 13) (d := 16) (b := true) [14, 15, 16] _ (by kernel_rfl) (.inl rfl) ?_
    refine ⟨.bool false, fun _ h_ => rk (run_pick_f rfl (h_.d 13 16) rfl),
     .bool false, fun _ h_ => rmv (h_.d 17 20), ?_⟩
    refine seq_off (j := 18) (d := 21) (b := true) [19, 20, 21] _ (by kernel_rfl) (.inl rfl) ?_
    refine ⟨.bool false, fun _ h_ => rk (run_pick_f rfl (h_.d 18 21) rfl),
     .bool false, fun _ h_ => rmv (h_.d 22 25), ?_⟩
    refine seq_off (j := 23) (d := 26) (b := true) [24, 25, 26, 27] _ (by kernel_rfl) (.inl rfl) ?_
    refine ⟨.bool false, fun _ h_ => rk (run_pick_f rfl (h_.d 23 26) rfl),
     .bool false, fun _ h_ => ras (h_.d 28 31), ?_⟩
    intro a4 hput
    replace s2 : sl a4 2 = .bool false := hput.new 29 2 rfl
    replace hz := hput.size.trans hz
    replace hd := hput.defers.trans hd
    clear hput s1
    change Code.wp _ _ _ _ _
    refine wp_ret ?_
    refine ret1 (P := Try.prog) (fn := Try.f21) hd s2 (hR_ _ _ ?_)
    exact ⟨_, rfl, (hS3.old (by simp))⟩
set_option maxRecDepth 100000 in
set_option maxHeartbeats 800000 in
theorem noDd05_any (p : PkV) (q : PkP) (W : World) (hsm : PkSm p) (hok : PkOK W p q) :
    Calls Try.prog 22 #[.agg #[.bool p.init, .bool p.more, .bool p.master, i6 p.seq, .slice q.hA p.heads.length q.hc]] W (fun r w' => ∃ b : Bool, r = .returned (.bool b) ∧ Below W.heap.size W w') := by
  have hS := S.start W
  refine calls_walk Try.func22 rfl fun R_ hR_ a hz hd hargs => ?_
  replace hz : a.tmps.size = 27 := hz.trans (by kernel_rfl)
  have s0 := hargs 0 _ rfl
  clear hargs
  refine wp_seq ?_
  refine seq_l [0] hz ?_
  refine ⟨fun a_ h_ => st_box (cells := #[.bool p.init, .bool p.more, .bool p.master, i6 p.seq, .slice q.hA p.heads.length q.hc]) hS (on_none rfl) rfl (h_.b 0 s0) (by kernel_rfl) fun g3 w3 hS3 hb3 => ⟨_, rfl, ?_⟩, trivial⟩
  clear h_ a_ hS
  clear hb3
  refine ⟨.bool false, fun _ h_ => rk (run_assign rfl rfl), ?_⟩
  intro a2 hput
  have s1 : sl a2 1 = pt g3 0 := hput.new 0 1 rfl
  have s2 : sl a2 2 = .bool false := hput.new 1 2 rfl
  replace hz := hput.size.trans hz
  replace hd := hput.defers.trans hd
  clear hput s0
  change Code.wp _ _ _ _ _
  refine wp_seq ?_
  refine seq_l [] hz ?_
  refine ⟨pt g3 0, fun _ h_ => rk (fa 0 rfl (h_.b 1 s1)),
   .bool p.init, fun _ h_ => rk (ld hS3 0 rfl (h_.d 0 3)),
   .bool (!p.init), fun _ h_ => rk (run_not rfl (h_.d 1 4) rfl),
   .bool (!p.init), fun _ h_ => rmv (h_.d 2 5), ?_⟩
  rcases bt (!p.init) with hg3 | hg3
  · rw [hg3]
    refine ⟨pt g3 1, fun _ h_ => r_ok (h_.on 3 6) (fa 1 rfl (h_.b 1 s1)),
     .bool p.more, fun _ h_ => r_ok (h_.on 3 6) (ld hS3 0 rfl (h_.d 4 7)),
     .bool (!p.more), fun _ h_ => r_ok (h_.on 3 6) (run_not rfl (h_.d 5 8) rfl),
     .bool (!p.more), fun _ h_ => rk (run_pick_t rfl (h_.d 3 6) (h_.d 6 9)),
     .bool (!p.more), fun _ h_ => rmv (h_.d 7 10), ?_⟩
    rcases bt (!p.more) with hg8 | hg8
    · rw [hg8]
      refine ⟨pt g3 2, fun _ h_ => r_ok (h_.on 8 11) (fa 2 rfl (h_.b 1 s1)),
       .bool p.master, fun _ h_ => r_ok (h_.on 8 11) (ld hS3 0 rfl (h_.d 9 12)),
       .bool (!p.master), fun _ h_ => r_ok (h_.on 8 11) (run_not rfl (h_.d 10 13) rfl),
       .bool (!p.master), fun _ h_ => rk (run_pick_t rfl (h_.d 8 11) (h_.d 11 14)),
       .bool (!p.master), fun _ h_ => rmv (h_.d 12 15), ?_⟩
      rcases bt (!p.master) with hg13 | hg13
      · rw [hg13]
        refine ⟨pt g3 3, fun _ h_ => r_ok (h_.on 13 16) (fa 3 rfl (h_.b 1 s1)),
         i6 p.seq, fun _ h_ => r_ok (h_.on 13 16) (ld hS3 0 rfl (h_.d 14 17)),
         .bool (decide ((p.seq : Int) = 0)), fun _ h_ => r_ok (h_.on 13 16) (run_cmp rfl (h_.d 15 18) rfl rfl (by first | rfl | exact neq_dec _ _ | exact eq_dec _ _ | simp)),
         .bool (decide ((p.seq : Int) = 0)), fun _ h_ => rk (run_pick_t rfl (h_.d 13 16) (h_.d 16 19)),
         .bool (decide ((p.seq : Int) = 0)), fun _ h_ => rmv (h_.d 17 20), ?_⟩
        rcases dt ((p.seq : Int) = 0) with ⟨he, hg18⟩ | ⟨he, hg18⟩
        · rw [he]
          clear he
          refine ⟨pt g3 4, fun _ h_ => r_ok (h_.on 18 21) (fa 4 rfl (h_.b 1 s1)),
           .slice q.hA p.heads.length q.hc, fun _ h_ => r_ok (h_.on 18 21) (ld hS3 0 rfl (h_.d 19 22)),
           i6 p.heads.length, fun _ h_ => r_ok (h_.on 18 21) (run_lenS rfl (h_.d 20 23) (by kernel_rfl)),
           .bool (decide ((p.heads.length : Int) = 0)), fun _ h_ => r_ok (h_.on 18 21) (run_cmp rfl (h_.d 21 24) rfl rfl (by first | rfl | exact neq_dec _ _ | exact eq_dec _ _ | simp)),
           .bool (decide ((p.heads.length : Int) = 0)), fun _ h_ => rk (run_pick_t rfl (h_.d 18 21) (h_.d 22 25)),
           .bool (decide ((p.heads.length : Int) = 0)), fun _ h_ => ras (h_.d 23 26), ?_⟩
          intro a4 hput
          replace s2 : sl a4 2 = .bool (decide ((p.heads.length : Int) = 0)) := hput.new 24 2 rfl
          replace hz := hput.size.trans hz
          replace hd := hput.defers.trans hd
          clear hput s1
          change Code.wp _ _ _ _ _
          refine wp_ret ?_
          refine ret1 (P := Try.prog) (fn := Try.f22) hd s2 (hR_ _ _ ?_)
          exact ⟨_, rfl, (hS3.old (by simp))⟩
        · rw [he]
          clear he
          refine seq_off (j := 18) (d := 21) (b := true) [19, 20, 21, 22] _ (by kernel_rfl) (.inl rfl) ?_
          refine ⟨.bool false, fun _ h_ => rk (run_pick_f rfl (h_.d 18 21) rfl),
           .bool false, fun _ h_ => ras (h_.d 23 26), ?_⟩
          intro a4 hput
          replace s2 : sl a4 2 = .bool false := hput.new 24 2 rfl
          replace hz := hput.size.trans hz
          replace hd := hput.defers.trans hd
          clear hput s1
          change Code.wp _ _ _ _ _
          refine wp_ret ?_
          refine ret1 (P := Try.prog) (fn := Try.f22) hd s2 (hR_ _ _ ?_)
          exact ⟨_, rfl, (hS3.old (by simp))⟩
      · rw [hg13]
        refine seq_off (j := 13) (d := 16) (b := true) [14, 15, 16] _ (by kernel_rfl) (.inl rfl) ?_
        refine ⟨.bool false, fun _ h_ => rk (run_pick_f rfl (h_.d 13 16) rfl),
         .bool false, fun _ h_ => rmv (h_.d 17 20), ?_⟩
        refine seq_off (j := 18) (d := 21) (b := true) [19, 20, 21, 22] _ (by kernel_rfl) (.inl rfl) ?_
        refine ⟨.bool false, fun _ h_ => rk (run_pick_f rfl (h_.d 18 21) rfl),
         .bool false, fun _ h_ => ras (h_.d 23 26), ?_⟩
        intro a4 hput
        replace s2 : sl a4 2 = .bool false := hput.new 24 2 rfl
        replace hz := hput.size.trans hz
        replace hd := hput.defers.trans hd
        clear hput s1
        change Code.wp _ _ _ _ _
        refine wp_ret ?_
        refine ret1 (P := Try.prog) (fn := Try.f22) hd s2 (hR_ _ _ ?_)
        exact ⟨_, rfl, (hS3.old (by simp))⟩
    · rw [hg8]
      refine seq_off (j := 8) (d := 11) (b := true) [9, 10, 11] _ (by kernel_rfl) (.inl rfl) ?_
      refine ⟨.bool false, fun _ h_ => rk (run_pick_f rfl (h_.d 8 11) rfl),
       .bool false, fun _ h_ => rmv (h_.d 12 15), ?_⟩
      refine seq_off (j := 13) (d := 16) (b := true) [14, 15, 16] _ (by kernel_rfl) (.inl rfl) ?_
      refine ⟨.bool false, fun _ h_ => rk (run_pick_f rfl (h_.d 13 16) rfl),
       .bool false, fun _ h_ => rmv (h_.d 17 20), ?_⟩
      refine seq_off (j := 18) (d := 21) (b := true) [19, 20, 21, 22] _ (by kernel_rfl) (.inl rfl) ?_
      refine ⟨.bool false, fun _ h_ => rk (run_pick_f rfl (h_.d 18 21) rfl),
       .bool false, fun _ h_ => ras (h_.d 23 26), ?_⟩
      intro a4 hput
      replace s2 : sl a4 2 = .bool false := hput.new 24 2 rfl
      replace hz := hput.size.trans hz
      replace hd := hput.defers.trans hd
      clear hput s1
      change Code.wp _ _ _ _ _
      refine wp_ret ?_
      refine ret1 (P := Try.prog) (fn := Try.f22) hd s2 (hR_ _ _ ?_)
      exact ⟨_, rfl, (hS3.old (by simp))⟩
  · rw [hg3]
    refine seq_off (j := 3) (d := 6) (b := true) [4, 5, 6] _ (by kernel_rfl) (.inl rfl) ?_
    refine ⟨.bool false, fun _ h_ => rk (run_pick_f rfl (h_.d 3 6) rfl),
     .bool false, fun _ h_ => rmv (h_.d 7 10), ?_⟩
    refine seq_off (j := 8) (d := 11) (b := true) [9, 10, 11] _ (by kernel_rfl) (.inl rfl) ?_
    refine ⟨.bool false, fun _ h_ => rk (run_pick_f rfl (h_.d 8 11) rfl),
     .bool false, fun _ h_ => rmv (h_.d 12 15), ?_⟩
    refine seq_off (j := 13) (d := 16) (b := true) [14, 15, 16] _ (by kernel_rfl) (.inl rfl) ?_
    refine ⟨.bool false, fun _ h_ => rk (run_pick_f rfl (h_.d 13 16) rfl),
     .bool false, fun _ h_ => rmv (h_.d 17 20), ?_⟩
    refine seq_off (j := 18) (d := 21) (b := true) [19, 20, 21, 22] _ (by kernel_rfl) (.inl rfl) ?_
    refine ⟨.bool false, fun _ h_ => rk (run_pick_f rfl (h_.d 18 21) rfl),
     .bool false, fun _ h_ => ras (h_.d 23 26), ?_⟩
    intro a4 hput
    replace s2 : sl a4 2 = .bool false := hput.new 24 2 rfl
    replace hz := hput.size.trans hz
    replace hd := hput.defers.trans hd
    clear hput s1
    change Code.wp _ _ _ _ _
    refine wp_ret ?_
    refine ret1 (P := Try.prog) (fn := Try.f22) hd s2 (hR_ _ _ ?_)
    exact ⟨_, rfl, (hS3.old (by simp))⟩
set_option maxRecDepth 100000 in
set_option maxHeartbeats 800000 in
theorem helloIs05_any (p : PkV) (q : PkP) (W : World) (hsm : PkSm p) (hok : PkOK W p q) :
    Calls Try.prog 23 #[.agg #[i6 p.every, i6 p.dead, i6 p.prio, i6 p.dr, i6 p.bdr, .slice q.sA p.seen.length q.sc]] W (fun r w' => ∃ b : Bool, r = .returned (.bool b) ∧ Below W.heap.size W w') := by
  obtain ⟨hsn, hhd, hky, hls, hak, _⟩ := id hsm
  have hS := S.start W
  refine calls_walk Try.func23 rfl fun R_ hR_ a hz hd hargs => ?_
  replace hz : a.tmps.size = 64 := hz.trans (by kernel_rfl)
  have s0 := hargs 0 _ rfl
  clear hargs
  refine wp_seq ?_
  refine seq_l [0] hz ?_
  refine ⟨fun a_ h_ => st_box (cells := #[i6 p.every, i6 p.dead, i6 p.prio, i6 p.dr, i6 p.bdr, .slice q.sA p.seen.length q.sc]) hS (on_none rfl) rfl (h_.b 0 s0) (by kernel_rfl) fun g3 w3 hS3 hb3 => ⟨_, rfl, ?_⟩, trivial⟩
  clear h_ a_ hS
  clear hb3
  refine ⟨.bool false, fun _ h_ => rk (run_assign rfl rfl), ?_⟩
  intro a2 hput
  have s1 : sl a2 1 = pt g3 0 := hput.new 0 1 rfl
  have s2 : sl a2 2 = .bool false := hput.new 1 2 rfl
  replace hz := hput.size.trans hz
  replace hd := hput.defers.trans hd
  clear hput s0
  change Code.wp _ _ _ _ _
  refine wp_seq ?_
  refine wp_seq ?_
  refine seq_l [2, 7, 13, 19, 25] hz ?_
  refine ⟨pt g3 0, fun _ h_ => rk (fa 0 rfl (h_.b 1 s1)),
   i6 p.every, fun _ h_ => rk (ld hS3 0 rfl (h_.d 0 4)), ?_⟩
  refine ⟨fun a_ h_ => st_call (on_none rfl) (run_call rfl (map3 (h_.d 1 5) rfl rfl) rfl) (in05_any _ _ _ _) ?_, trivial⟩
  rintro e w5 ⟨b5, rfl, hb5⟩
  refine ⟨_, rfl, _, rfl, ?_⟩
  clear h_ a_
  have hS5 := hS3.below hb5
  clear hS3 hb5
  refine ⟨.bool (!b5), fun _ h_ => rk (run_not rfl (h_.d 2 6) rfl),
   .bool (!b5), fun _ h_ => rmv (h_.d 3 7), ?_⟩
  rcases bt (!b5) with hg4 | hg4
  · rw [hg4]
    refine seq_off (j := 4) (d := 8) (b := false) [5, 6] _ (by kernel_rfl) (.inl rfl) ?_
    refine seq_offe (j := 4) (d := 8) (b := false) (by kernel_rfl) (.inl rfl) ?_
    refine seq_off (j := 4) (d := 8) (b := false) [8] _ (by kernel_rfl) (.inl rfl) ?_
    refine ⟨.bool true, fun _ h_ => rk (run_pick_t rfl (h_.d 4 8) rfl),
     .bool true, fun _ h_ => rmv (h_.d 9 13), ?_⟩
    refine seq_off (j := 10) (d := 14) (b := false) [11, 12] _ (by kernel_rfl) (.inl rfl) ?_
    refine seq_offe (j := 10) (d := 14) (b := false) (by kernel_rfl) (.inl rfl) ?_
    refine seq_off (j := 10) (d := 14) (b := false) [14] _ (by kernel_rfl) (.inl rfl) ?_
    refine ⟨.bool true, fun _ h_ => rk (run_pick_t rfl (h_.d 10 14) rfl),
     .bool true, fun _ h_ => rmv (h_.d 15 19), ?_⟩
    refine seq_off (j := 16) (d := 20) (b := false) [17, 18] _ (by kernel_rfl) (.inl rfl) ?_
    refine seq_offe (j := 16) (d := 20) (b := false) (by kernel_rfl) (.inl rfl) ?_
    refine seq_off (j := 16) (d := 20) (b := false) [20] _ (by kernel_rfl) (.inl rfl) ?_
    refine ⟨.bool true, fun _ h_ => rk (run_pick_t rfl (h_.d 16 20) rfl),
     .bool true, fun _ h_ => rmv (h_.d 21 25), ?_⟩
    refine seq_off (j := 22) (d := 26) (b := false) [23, 24] _ (by kernel_rfl) (.inl rfl) ?_
    refine seq_offe (j := 22) (d := 26) (b := false) (by kernel_rfl) (.inl rfl) ?_
    refine seq_off (j := 22) (d := 26) (b := false) [26] _ (by kernel_rfl) (.inl rfl) ?_
    refine ⟨.bool true, fun _ h_ => rk (run_pick_t rfl (h_.d 22 26) rfl), ?_⟩
    intro a4 hput
    replace s1 := hput.o 1 s1
    replace s2 := hput.o 2 s2
    have s31 : sl a4 31 = .bool true := hput.new 27 31 rfl
    replace hz := hput.size.trans hz
    replace hd := hput.defers.trans hd
    clear hput
    change Code.wp _ _ _ _ _
    refine wp_cond_true s31 ?_
    refine wp_seq ?_
    refine seq_l [] hz ?_
    refine ⟨.bool false, fun _ h_ => rk (run_assign rfl rfl), ?_⟩
    intro a6 hput
    replace s1 := hput.o 1 s1
    replace s2 : sl a6 2 = .bool false := hput.new 0 2 rfl
    replace hz := hput.size.trans hz
    replace hd := hput.defers.trans hd
    clear hput s31
    change Code.wp _ _ _ _ _
    refine wp_ret ?_
    refine ret1 (P := Try.prog) (fn := Try.f23) hd s2 (hR_ _ _ ?_)
    exact ⟨_, rfl, (hS5.old (by simp))⟩
  · rw [hg4]
    refine ⟨pt g3 1, fun _ h_ => r_ok (h_.on 4 8) (fa 1 rfl (h_.b 1 s1)),
     i6 p.dead, fun _ h_ => r_ok (h_.on 4 8) (ld hS5 0 rfl (h_.d 5 9)), ?_⟩
    refine ⟨fun a_ h_ => st_call (h_.on 4 8) (run_call rfl (map3 (h_.d 6 10) rfl rfl) rfl) (in05_any _ _ _ _) ?_, trivial⟩
    rintro e w7 ⟨b7, rfl, hb7⟩
    refine ⟨_, rfl, _, rfl, ?_⟩
    clear h_ a_
    have hS7 := hS5.below hb7
    clear hS5 hb7
    refine ⟨.bool (!b7), fun _ h_ => r_ok (h_.on 4 8) (run_not rfl (h_.d 7 11) rfl),
     .bool (!b7), fun _ h_ => rk (run_pick_f rfl (h_.d 4 8) (h_.d 8 12)),
     .bool (!b7), fun _ h_ => rmv (h_.d 9 13), ?_⟩
    rcases bt (!b7) with hg10 | hg10
    · rw [hg10]
      refine seq_off (j := 10) (d := 14) (b := false) [11, 12] _ (by kernel_rfl) (.inl rfl) ?_
      refine seq_offe (j := 10) (d := 14) (b := false) (by kernel_rfl) (.inl rfl) ?_
      refine seq_off (j := 10) (d := 14) (b := false) [14] _ (by kernel_rfl) (.inl rfl) ?_
      refine ⟨.bool true, fun _ h_ => rk (run_pick_t rfl (h_.d 10 14) rfl),
       .bool true, fun _ h_ => rmv (h_.d 15 19), ?_⟩
      refine seq_off (j := 16) (d := 20) (b := false) [17, 18] _ (by kernel_rfl) (.inl rfl) ?_
      refine seq_offe (j := 16) (d := 20) (b := false) (by kernel_rfl) (.inl rfl) ?_
      refine seq_off (j := 16) (d := 20) (b := false) [20] _ (by kernel_rfl) (.inl rfl) ?_
      refine ⟨.bool true, fun _ h_ => rk (run_pick_t rfl (h_.d 16 20) rfl),
       .bool true, fun _ h_ => rmv (h_.d 21 25), ?_⟩
      refine seq_off (j := 22) (d := 26) (b := false) [23, 24] _ (by kernel_rfl) (.inl rfl) ?_
      refine seq_offe (j := 22) (d := 26) (b := false) (by kernel_rfl) (.inl rfl) ?_
      refine seq_off (j := 22) (d := 26) (b := false) [26] _ (by kernel_rfl) (.inl rfl) ?_
      refine ⟨.bool true, fun _ h_ => rk (run_pick_t rfl (h_.d 22 26) rfl), ?_⟩
      intro a4 hput
      replace s1 := hput.o 1 s1
      replace s2 := hput.o 2 s2
      have s31 : sl a4 31 = .bool true := hput.new 27 31 rfl
      replace hz := hput.size.trans hz
      replace hd := hput.defers.trans hd
      clear hput
      change Code.wp _ _ _ _ _
      refine wp_cond_true s31 ?_
      refine wp_seq ?_
      refine seq_l [] hz ?_
      refine ⟨.bool false, fun _ h_ => rk (run_assign rfl rfl), ?_⟩
      intro a8 hput
      replace s1 := hput.o 1 s1
      replace s2 : sl a8 2 = .bool false := hput.new 0 2 rfl
      replace hz := hput.size.trans hz
      replace hd := hput.defers.trans hd
      clear hput s31
      change Code.wp _ _ _ _ _
      refine wp_ret ?_
      refine ret1 (P := Try.prog) (fn := Try.f23) hd s2 (hR_ _ _ ?_)
      exact ⟨_, rfl, (hS7.old (by simp))⟩
    · rw [hg10]
      refine ⟨pt g3 2, fun _ h_ => r_ok (h_.on 10 14) (fa 2 rfl (h_.b 1 s1)),
       i6 p.prio, fun _ h_ => r_ok (h_.on 10 14) (ld hS7 0 rfl (h_.d 11 15)), ?_⟩
      refine ⟨fun a_ h_ => st_call (h_.on 10 14) (run_call rfl (map3 (h_.d 12 16) rfl rfl) rfl) (in05_any _ _ _ _) ?_, trivial⟩
      rintro e w9 ⟨b9, rfl, hb9⟩
      refine ⟨_, rfl, _, rfl, ?_⟩
      clear h_ a_
      have hS9 := hS7.below hb9
      clear hS7 hb9
      refine ⟨.bool (!b9), fun _ h_ => r_ok (h_.on 10 14) (run_not rfl (h_.d 13 17) rfl),
       .bool (!b9), fun _ h_ => rk (run_pick_f rfl (h_.d 10 14) (h_.d 14 18)),
       .bool (!b9), fun _ h_ => rmv (h_.d 15 19), ?_⟩
      rcases bt (!b9) with hg16 | hg16
      · rw [hg16]
        refine seq_off (j := 16) (d := 20) (b := false) [17, 18] _ (by kernel_rfl) (.inl rfl) ?_
        refine seq_offe (j := 16) (d := 20) (b := false) (by kernel_rfl) (.inl rfl) ?_
        refine seq_off (j := 16) (d := 20) (b := false) [20] _ (by kernel_rfl) (.inl rfl) ?_
        refine ⟨.bool true, fun _ h_ => rk (run_pick_t rfl (h_.d 16 20) rfl),
         .bool true, fun _ h_ => rmv (h_.d 21 25), ?_⟩
        refine seq_off (j := 22) (d := 26) (b := false) [23, 24] _ (by kernel_rfl) (.inl rfl) ?_
        refine seq_offe (j := 22) (d := 26) (b := false) (by kernel_rfl) (.inl rfl) ?_
        refine seq_off (j := 22) (d := 26) (b := false) [26] _ (by kernel_rfl) (.inl rfl) ?_
        refine ⟨.bool true, fun _ h_ => rk (run_pick_t rfl (h_.d 22 26) rfl), ?_⟩
        intro a4 hput
        replace s1 := hput.o 1 s1
        replace s2 := hput.o 2 s2
        have s31 : sl a4 31 = .bool true := hput.new 27 31 rfl
        replace hz := hput.size.trans hz
        replace hd := hput.defers.trans hd
        clear hput
        change Code.wp _ _ _ _ _
        refine wp_cond_true s31 ?_
        refine wp_seq ?_
        refine seq_l [] hz ?_
        refine ⟨.bool false, fun _ h_ => rk (run_assign rfl rfl), ?_⟩
        intro a10 hput
        replace s1 := hput.o 1 s1
        replace s2 : sl a10 2 = .bool false := hput.new 0 2 rfl
        replace hz := hput.size.trans hz
        replace hd := hput.defers.trans hd
        clear hput s31
        change Code.wp _ _ _ _ _
        refine wp_ret ?_
        refine ret1 (P := Try.prog) (fn := Try.f23) hd s2 (hR_ _ _ ?_)
        exact ⟨_, rfl, (hS9.old (by simp))⟩
      · rw [hg16]
        refine ⟨pt g3 3, fun _ h_ => r_ok (h_.on 16 20) (fa 3 rfl (h_.b 1 s1)),
         i6 p.dr, fun _ h_ => r_ok (h_.on 16 20) (ld hS9 0 rfl (h_.d 17 21)), ?_⟩
        refine ⟨fun a_ h_ => st_call (h_.on 16 20) (run_call rfl (map3 (h_.d 18 22) rfl rfl) rfl) (in05_any _ _ _ _) ?_, trivial⟩
        rintro e w11 ⟨b11, rfl, hb11⟩
        refine ⟨_, rfl, _, rfl, ?_⟩
        clear h_ a_
        have hS11 := hS9.below hb11
        clear hS9 hb11
        refine ⟨.bool (!b11), fun _ h_ => r_ok (h_.on 16 20) (run_not rfl (h_.d 19 23) rfl),
         .bool (!b11), fun _ h_ => rk (run_pick_f rfl (h_.d 16 20) (h_.d 20 24)),
         .bool (!b11), fun _ h_ => rmv (h_.d 21 25), ?_⟩
        rcases bt (!b11) with hg22 | hg22
        · rw [hg22]
          refine seq_off (j := 22) (d := 26) (b := false) [23, 24] _ (by kernel_rfl) (.inl rfl) ?_
          refine seq_offe (j := 22) (d := 26) (b := false) (by kernel_rfl) (.inl rfl) ?_
          refine seq_off (j := 22) (d := 26) (b := false) [26] _ (by kernel_rfl) (.inl rfl) ?_
          refine ⟨.bool true, fun _ h_ => rk (run_pick_t rfl (h_.d 22 26) rfl), ?_⟩
          intro a4 hput
          replace s1 := hput.o 1 s1
          replace s2 := hput.o 2 s2
          have s31 : sl a4 31 = .bool true := hput.new 27 31 rfl
          replace hz := hput.size.trans hz
          replace hd := hput.defers.trans hd
          clear hput
          change Code.wp _ _ _ _ _
          refine wp_cond_true s31 ?_
          refine wp_seq ?_
          refine seq_l [] hz ?_
          refine ⟨.bool false, fun _ h_ => rk (run_assign rfl rfl), ?_⟩
          intro a12 hput
          replace s1 := hput.o 1 s1
          replace s2 : sl a12 2 = .bool false := hput.new 0 2 rfl
          replace hz := hput.size.trans hz
          replace hd := hput.defers.trans hd
          clear hput s31
          change Code.wp _ _ _ _ _
          refine wp_ret ?_
          refine ret1 (P := Try.prog) (fn := Try.f23) hd s2 (hR_ _ _ ?_)
          exact ⟨_, rfl, (hS11.old (by simp))⟩
        · rw [hg22]
          refine ⟨pt g3 4, fun _ h_ => r_ok (h_.on 22 26) (fa 4 rfl (h_.b 1 s1)),
           i6 p.bdr, fun _ h_ => r_ok (h_.on 22 26) (ld hS11 0 rfl (h_.d 23 27)), ?_⟩
          refine ⟨fun a_ h_ => st_call (h_.on 22 26) (run_call rfl (map3 (h_.d 24 28) rfl rfl) rfl) (in05_any _ _ _ _) ?_, trivial⟩
          rintro e w13 ⟨b13, rfl, hb13⟩
          refine ⟨_, rfl, _, rfl, ?_⟩
          clear h_ a_
          have hS13 := hS11.below hb13
          clear hS11 hb13
          refine ⟨.bool (!b13), fun _ h_ => r_ok (h_.on 22 26) (run_not rfl (h_.d 25 29) rfl),
           .bool (!b13), fun _ h_ => rk (run_pick_f rfl (h_.d 22 26) (h_.d 26 30)), ?_⟩
          intro a4 hput
          replace s1 := hput.o 1 s1
          replace s2 := hput.o 2 s2
          have s31 : sl a4 31 = .bool (!b13) := hput.new 27 31 rfl
          replace hz := hput.size.trans hz
          replace hd := hput.defers.trans hd
          clear hput
          change Code.wp _ _ _ _ _
          refine wp_cond_b s31 (fun hc31 => ?_) (fun hc31 => ?_)
          · clear s31
            replace hc31 := nbt hc31
            refine wp_seq ?_
            refine seq_l [] hz ?_
            refine ⟨.bool false, fun _ h_ => rk (run_assign rfl rfl), ?_⟩
            intro a14 hput
            replace s1 := hput.o 1 s1
            replace s2 : sl a14 2 = .bool false := hput.new 0 2 rfl
            replace hz := hput.size.trans hz
            replace hd := hput.defers.trans hd
            clear hput
            change Code.wp _ _ _ _ _
            refine wp_ret ?_
            refine ret1 (P := Try.prog) (fn := Try.f23) hd s2 (hR_ _ _ ?_)
            exact ⟨_, rfl, (hS13.old (by simp))⟩
          · clear s31
            replace hc31 := nbf hc31
            refine wp_skip ?_
            change Code.wp _ _ _ _ _
            refine wp_seq ?_
            refine wp_seq ?_
            refine seq_l [] hz ?_
            refine ⟨i6 0, fun _ h_ => rk (run_assign rfl rfl), ?_⟩
            intro a15 hput
            replace s1 := hput.o 1 s1
            replace s2 := hput.o 2 s2
            have s3 : sl a15 3 = i6 0 := hput.new 0 3 rfl
            replace hz := hput.size.trans hz
            replace hd := hput.defers.trans hd
            clear hput
            change Code.wp _ _ _ _ _
            refine wp_block ?_
            refine wp_loop (fun a_ w_ => ∃ k : Nat, (k ≤ p.seen.length) ∧ a_.tmps.size = 64 ∧ a_.defers = [] ∧ sl a_ 1 = pt g3 0 ∧ sl a_ 2 = .bool false ∧ sl a_ 3 = i6 k ∧ S (kap W) ((blkA g3 24 #[i6 p.every, i6 p.dead, i6 p.prio, i6 p.dr, i6 p.bdr, .slice q.sA p.seen.length q.sc]) :: []) ((memA W W.heap.size) :: []) w_) (fun a_ _ => p.seen.length - (intOf (sl a_ 3)).toNat) ?_ ?_
            · exact ⟨0, Nat.zero_le _, hz, hd, s1, s2, s3, hS13⟩
            · clear hz hd s1 s2 s3 hS13
              rintro a16 w16 ⟨k, hc0_0, hz, hd, s1, s2, s3, hS16⟩
              have hmu0 := s3
              refine wp_seq ?_
              refine wp_seq ?_
              refine seq_l [] hz ?_
              refine ⟨i6 k, fun _ h_ => rmv (h_.b 3 s3),
               pt g3 5, fun _ h_ => rk (fa 5 rfl (h_.b 1 s1)),
               .slice q.sA p.seen.length q.sc, fun _ h_ => rk (ld hS16 0 rfl (h_.d 1 33)),
               i6 p.seen.length, fun _ h_ => rk (run_lenS rfl (h_.d 2 34) (by kernel_rfl)),
               .bool (decide ((k : Int) < p.seen.length)), fun _ h_ => rk (run_cmp rfl (h_.d 0 32) (h_.d 3 35) rfl (by first | rfl | exact neq_dec _ _ | exact eq_dec _ _ | simp)), ?_⟩
              intro a17 hput
              replace s1 := hput.o 1 s1
              replace s2 := hput.o 2 s2
              replace s3 := hput.o 3 s3
              have s32 : sl a17 32 = i6 k := hput.new 0 32 rfl
              have s33 : sl a17 33 = pt g3 5 := hput.new 1 33 rfl
              have s34 : sl a17 34 = .slice q.sA p.seen.length q.sc := hput.new 2 34 rfl
              have s35 : sl a17 35 = i6 p.seen.length := hput.new 3 35 rfl
              have s36 : sl a17 36 = .bool (decide ((k : Int) < p.seen.length)) := hput.new 4 36 rfl
              replace hz := hput.size.trans hz
              replace hd := hput.defers.trans hd
              clear hput
              change Code.wp _ _ _ _ _
              refine wp_cond_d s36 (fun hc36 => ?_) (fun hc36 => ?_)
              · clear s36
                refine wp_skip ?_
                change Code.wp _ _ _ _ _
                refine wp_seq ?_
                refine wp_block ?_
                refine wp_seq ?_
                refine seq_r [[], [0], [], [0, 1, 2], [0, 1, 2, 3], [0, 1, 2, 3, 4], [0, 1, 2, 3, 4, 5], [0, 1, 2, 3, 4, 5, 6], [0, 1, 2, 3, 4, 5, 6, 7], [0, 1, 2, 3, 4, 5, 6, 7, 8], [0, 1, 2, 3, 4, 5, 6, 7, 8, 9], [0, 1, 2, 3, 4, 5, 6, 7, 8, 9, 10], [0, 1, 2, 3, 4, 5, 6, 7, 8, 9, 10, 11], [0, 1, 2, 3, 4, 5, 6, 7, 8, 9, 10], [0, 1, 2, 3, 4, 5, 6, 7, 8, 9, 10, 11, 12, 13], [0, 1, 2, 3, 4, 5, 6, 7, 8, 9, 10, 11, 12, 13, 14], [0, 1, 2, 3, 4, 5, 6, 7, 8, 9, 10], [0, 1, 2, 3, 4, 5, 6, 7, 8, 9, 10, 16], [0, 1, 2, 3, 4, 5, 6, 7, 8, 9, 10], [0, 1, 2, 3, 4, 5, 6, 7, 8, 9, 10, 18], [0, 1, 2, 3, 4, 5, 6, 7, 8, 9, 10, 16, 17, 18, 19], [0, 1, 2, 3, 4, 5, 6, 7, 8, 9, 10, 16, 17, 18, 19, 20], [0, 1, 2, 3, 4, 5, 6, 7, 8, 9, 10, 11, 12, 13, 14, 15, 16, 17, 18, 19, 20, 21], [0, 1, 2, 3, 4, 5, 6, 7, 8, 9, 10, 11, 12, 13, 14, 15, 16, 17, 18, 19, 20, 21, 22], [0, 1, 2, 3, 4, 5, 6, 7, 8, 9, 10, 11, 12, 13, 14, 15, 16, 17, 18, 19, 20, 21, 22, 23]] [5] (.rd 0 (.rd 1 (.rd 2 (.rd 3 (.rd 4 (.ef 5 (.rd 6 (.rd 7 (.rd 8 (.rd 9 (.rd 10 (.rd 11 (.rd 12 (.rd 13 (.rd 14 (.rd 15 (.rd 16 (.rd 17 (.rd 18 (.rd 19 (.rd 20 (.rd 21 (.rd 22 (.rd 23 (.rd 24 (.fin)))))))))))))))))))) .non)))))) hz fun w18 hb18 => ?_
                replace hS16 := hS16.below hb18
                refine ⟨pt g3 5, fun _ h_ => rk (fa 5 rfl (h_.b 1 s1)),
                 .slice q.sA p.seen.length q.sc, fun _ h_ => rk (ld hS16 0 rfl (h_.d 0 39)),
                 i6 k, fun _ h_ => rmv (h_.b 3 s3), ?_⟩
                obtain ⟨b19, o19, z19, hA19, hb19, hz19, hq19⟩ := Reads.int_at (k := k) ((hok.below (hS16.old (by simp))).seen) (by omega)
                refine ⟨pt b19 (o19 + k), fun _ h_ => rk (run_indexV (size := 1) rfl (h_.d 1 40) hA19 (h_.d 2 41) (by kernel_rfl) (by omega) (by simp)),
                 i6 z19, fun _ h_ => rk (run_load rfl (h_.d 3 42) (by kernel_rfl) (show w18.cell? ⟨b19, o19 + k, none⟩ = some (i6 z19) from hq19)), ?_⟩
                refine ⟨fun a_ h_ => st_call (on_none rfl) (run_call rfl (map3 (h_.d 4 43) rfl rfl) rfl) (in05_any _ _ _ _) ?_, trivial⟩
                rintro e w20 ⟨b20, rfl, hb20⟩
                refine ⟨_, rfl, _, rfl, ?_⟩
                clear h_ a_
                have hS20 := hS16.below hb20
                clear hS16 hb20
                refine ⟨.bool (!b20), fun _ h_ => rk (run_not rfl (h_.d 5 44) rfl),
                 .bool (!b20), fun _ h_ => rmv (h_.d 6 45), ?_⟩
                rcases bt (!b20) with hg7 | hg7
                · rw [hg7]
                  refine seq_off (j := 7) (d := 46) (b := false) [8, 9, 10] _ (by kernel_rfl) (.inl rfl) ?_
                  refine seq_off (j := 10) (d := 49) (b := true) [11, 12, 13, 14, 15, 16, 17, 18, 19, 20, 21, 22] _ (by kernel_rfl) (.inr rfl) ?_
                  refine seq_off (j := 7) (d := 46) (b := false) [23] _ (by kernel_rfl) (.inl rfl) ?_
                  refine ⟨.bool true, fun _ h_ => rk (run_pick_t rfl (h_.d 7 46) rfl), ?_⟩
                  intro a18 hput
                  replace s1 := hput.o 1 s1
                  replace s2 := hput.o 2 s2
                  replace s3 := hput.o 3 s3
                  replace s32 := hput.o 32 s32
                  replace s33 := hput.o 33 s33
                  replace s34 := hput.o 34 s34
                  replace s35 := hput.o 35 s35
                  have s39 : sl a18 39 = pt g3 5 := hput.new 0 39 rfl
                  have s40 : sl a18 40 = .slice q.sA p.seen.length q.sc := hput.new 1 40 rfl
                  have s41 : sl a18 41 = i6 k := hput.new 2 41 rfl
                  have s42 : sl a18 42 = pt b19 (o19 + k) := hput.new 3 42 rfl
                  have s43 : sl a18 43 = i6 z19 := hput.new 4 43 rfl
                  have s44 : sl a18 44 = .bool b20 := hput.new 5 44 rfl
                  have s45 : sl a18 45 = .bool true := hput.new 6 45 rfl
                  have s46 : sl a18 46 = .bool true := hput.new 7 46 rfl
                  have s63 : sl a18 63 = .bool true := hput.new 24 63 rfl
                  replace hz := hput.size.trans hz
                  replace hd := hput.defers.trans hd
                  clear hput
                  change Code.wp _ _ _ _ _
                  refine wp_cond_true s63 ?_
                  refine wp_seq ?_
                  refine seq_l [] hz ?_
                  refine ⟨.bool false, fun _ h_ => rk (run_assign rfl rfl), ?_⟩
                  intro a21 hput
                  replace s1 := hput.o 1 s1
                  replace s2 : sl a21 2 = .bool false := hput.new 0 2 rfl
                  replace s3 := hput.o 3 s3
                  replace s32 := hput.o 32 s32
                  replace s33 := hput.o 33 s33
                  replace s34 := hput.o 34 s34
                  replace s35 := hput.o 35 s35
                  replace s39 := hput.o 39 s39
                  replace s40 := hput.o 40 s40
                  replace s41 := hput.o 41 s41
                  replace s42 := hput.o 42 s42
                  replace s43 := hput.o 43 s43
                  replace s44 := hput.o 44 s44
                  replace s45 := hput.o 45 s45
                  replace s46 := hput.o 46 s46
                  replace s63 := hput.o 63 s63
                  replace hz := hput.size.trans hz
                  replace hd := hput.defers.trans hd
                  clear hput
                  change Code.wp _ _ _ _ _
                  refine wp_ret ?_
                  refine ret1 (P := Try.prog) (fn := Try.f23) hd s2 (hR_ _ _ ?_)
                  exact ⟨_, rfl, (hS20.old (by simp))⟩
                · rw [hg7]
                  refine ⟨i6 k, fun _ h_ => r_ok (h_.on 7 46) (run_move rfl (h_.b 3 s3)),
                   .bool (decide ((0 : Int) < k)), fun _ h_ => r_ok (h_.on 7 46) (run_cmp rfl (h_.d 8 47) rfl rfl (by first | rfl | exact neq_dec _ _ | exact eq_dec _ _ | simp)),
                   .bool (decide ((0 : Int) < k)), fun _ h_ => r_ok (h_.on 7 46) (run_move rfl (h_.d 9 48)), ?_⟩
                  rcases dt ((0 : Int) < k) with ⟨he, hg10⟩ | ⟨he, hg10⟩
                  · rw [he]
                    clear he
                    refine ⟨pt g3 5, fun _ h_ => r_ok (h_.on 10 49) (fa 5 rfl (h_.b 1 s1)),
                     .slice q.sA p.seen.length q.sc, fun _ h_ => r_ok (h_.on 10 49) (ld hS20 0 rfl (h_.d 11 50)),
                     i6 k, fun _ h_ => r_ok (h_.on 10 49) (run_move rfl (h_.b 3 s3)), ?_⟩
                    obtain ⟨b22, o22, z22, hA22, hb22, hz22, hq22⟩ := Reads.int_at (k := k) ((hok.below (hS20.old (by simp))).seen) (by omega)
                    obtain rfl : z19 = z22 := Option.some.inj (hz19.symm.trans hz22)
                    refine ⟨pt b22 (o22 + k), fun _ h_ => r_ok (h_.on 10 49) (run_indexV (size := 1) rfl (h_.d 12 51) hA22 (h_.d 13 52) (by kernel_rfl) (by omega) (by simp)),
                     i6 z19, fun _ h_ => r_ok (h_.on 10 49) (run_load rfl (h_.d 14 53) (by kernel_rfl) (show w20.cell? ⟨b22, o22 + k, none⟩ = some (i6 z19) from hq22)),
                     pt g3 5, fun _ h_ => r_ok (h_.on 10 49) (fa 5 rfl (h_.b 1 s1)),
                     .slice q.sA p.seen.length q.sc, fun _ h_ => r_ok (h_.on 10 49) (ld hS20 0 rfl (h_.d 16 55)),
                     i6 k, fun _ h_ => r_ok (h_.on 10 49) (run_move rfl (h_.b 3 s3)),
                     i6 (k - 1), fun _ h_ => r_ok (h_.on 10 49) (run_subI rfl (h_.d 18 57) rfl (by omega) rfl), ?_⟩
                    obtain ⟨b23, o23, z23, hA23, hb23, hz23, hq23⟩ := Reads.int_at (k := ((k - 1) : Int).toNat) ((hok.below (hS20.old (by simp))).seen) (by omega)
                    refine ⟨pt b23 (o23 + ((k - 1) : Int).toNat), fun _ h_ => r_ok (h_.on 10 49) (run_indexV (size := 1) rfl (h_.d 17 56) hA23 (h_.d 19 58) (by kernel_rfl) (by omega) (by simp)),
                     i6 z23, fun _ h_ => r_ok (h_.on 10 49) (run_load rfl (h_.d 20 59) (by kernel_rfl) (show w20.cell? ⟨b23, o23 + ((k - 1) : Int).toNat, none⟩ = some (i6 z23) from hq23)),
                     .bool (decide ((z19 : Int) ≤ z23)), fun _ h_ => r_ok (h_.on 10 49) (run_cmp rfl (h_.d 15 54) (h_.d 21 60) rfl (by first | rfl | exact neq_dec _ _ | exact eq_dec _ _ | simp)),
                     .bool (decide ((z19 : Int) ≤ z23)), fun _ h_ => r_ok (h_.on 7 46) (run_pick_t rfl (h_.d 10 49) (h_.d 22 61)),
                     .bool (decide ((z19 : Int) ≤ z23)), fun _ h_ => rk (run_pick_f rfl (h_.d 7 46) (h_.d 23 62)), ?_⟩
                    intro a18 hput
                    replace s1 := hput.o 1 s1
                    replace s2 := hput.o 2 s2
                    replace s3 := hput.o 3 s3
                    replace s32 := hput.o 32 s32
                    replace s33 := hput.o 33 s33
                    replace s34 := hput.o 34 s34
                    replace s35 := hput.o 35 s35
                    have s39 : sl a18 39 = pt g3 5 := hput.new 0 39 rfl
                    have s40 : sl a18 40 = .slice q.sA p.seen.length q.sc := hput.new 1 40 rfl
                    have s41 : sl a18 41 = i6 k := hput.new 2 41 rfl
                    have s42 : sl a18 42 = pt b19 (o19 + k) := hput.new 3 42 rfl
                    have s43 : sl a18 43 = i6 z19 := hput.new 4 43 rfl
                    have s44 : sl a18 44 = .bool b20 := hput.new 5 44 rfl
                    have s45 : sl a18 45 = .bool false := hput.new 6 45 rfl
                    have s46 : sl a18 46 = .bool false := hput.new 7 46 rfl
                    have s47 : sl a18 47 = i6 k := hput.new 8 47 rfl
                    have s48 : sl a18 48 = .bool true := hput.new 9 48 rfl
                    have s49 : sl a18 49 = .bool true := hput.new 10 49 rfl
                    have s50 : sl a18 50 = pt g3 5 := hput.new 11 50 rfl
                    have s51 : sl a18 51 = .slice q.sA p.seen.length q.sc := hput.new 12 51 rfl
                    have s52 : sl a18 52 = i6 k := hput.new 13 52 rfl
                    have s53 : sl a18 53 = pt b22 (o22 + k) := hput.new 14 53 rfl
                    have s54 : sl a18 54 = i6 z19 := hput.new 15 54 rfl
                    have s55 : sl a18 55 = pt g3 5 := hput.new 16 55 rfl
                    have s56 : sl a18 56 = .slice q.sA p.seen.length q.sc := hput.new 17 56 rfl
                    have s57 : sl a18 57 = i6 k := hput.new 18 57 rfl
                    have s58 : sl a18 58 = i6 (k - 1) := hput.new 19 58 rfl
                    have s59 : sl a18 59 = pt b23 (o23 + ((k - 1) : Int).toNat) := hput.new 20 59 rfl
                    have s60 : sl a18 60 = i6 z23 := hput.new 21 60 rfl
                    have s61 : sl a18 61 = .bool (decide ((z19 : Int) ≤ z23)) := hput.new 22 61 rfl
                    have s62 : sl a18 62 = .bool (decide ((z19 : Int) ≤ z23)) := hput.new 23 62 rfl
                    have s63 : sl a18 63 = .bool (decide ((z19 : Int) ≤ z23)) := hput.new 24 63 rfl
                    replace hz := hput.size.trans hz
                    replace hd := hput.defers.trans hd
                    clear hput
                    change Code.wp _ _ _ _ _
                    refine wp_cond_d s63 (fun hc63 => ?_) (fun hc63 => ?_)
                    · clear s63
                      refine wp_seq ?_
                      refine seq_l [] hz ?_
                      refine ⟨.bool false, fun _ h_ => rk (run_assign rfl rfl), ?_⟩
                      intro a24 hput
                      replace s1 := hput.o 1 s1
                      replace s2 : sl a24 2 = .bool false := hput.new 0 2 rfl
                      replace s3 := hput.o 3 s3
                      replace s32 := hput.o 32 s32
                      replace s33 := hput.o 33 s33
                      replace s34 := hput.o 34 s34
                      replace s35 := hput.o 35 s35
                      replace s39 := hput.o 39 s39
                      replace s40 := hput.o 40 s40
                      replace s41 := hput.o 41 s41
                      replace s42 := hput.o 42 s42
                      replace s43 := hput.o 43 s43
                      replace s44 := hput.o 44 s44
                      replace s45 := hput.o 45 s45
                      replace s46 := hput.o 46 s46
                      replace s47 := hput.o 47 s47
                      replace s48 := hput.o 48 s48
                      replace s49 := hput.o 49 s49
                      replace s50 := hput.o 50 s50
                      replace s51 := hput.o 51 s51
                      replace s52 := hput.o 52 s52
                      replace s53 := hput.o 53 s53
                      replace s54 := hput.o 54 s54
                      replace s55 := hput.o 55 s55
                      replace s56 := hput.o 56 s56
                      replace s57 := hput.o 57 s57
                      replace s58 := hput.o 58 s58
                      replace s59 := hput.o 59 s59
                      replace s60 := hput.o 60 s60
                      replace s61 := hput.o 61 s61
                      replace s62 := hput.o 62 s62
                      replace hz := hput.size.trans hz
                      replace hd := hput.defers.trans hd
                      clear hput
                      change Code.wp _ _ _ _ _
                      refine wp_ret ?_
                      refine ret1 (P := Try.prog) (fn := Try.f23) hd s2 (hR_ _ _ ?_)
                      exact ⟨_, rfl, (hS20.old (by simp))⟩
                    · clear s63
                      refine wp_skip ?_
                      change Code.wp _ _ _ _ _
                      refine seq_l [] hz ?_
                      refine ⟨i6 k, fun _ h_ => rmv (h_.b 3 s3),
                       i6 (k + 1), fun _ h_ => rk (run_addI rfl (h_.d 0 37) rfl (by omega) rfl),
                       i6 (k + 1), fun _ h_ => ras (h_.d 1 38), ?_⟩
                      intro a25 hput
                      replace s1 := hput.o 1 s1
                      replace s2 := hput.o 2 s2
                      replace s3 : sl a25 3 = i6 (k + 1) := hput.new 2 3 rfl
                      replace s32 := hput.o 32 s32
                      replace s33 := hput.o 33 s33
                      replace s34 := hput.o 34 s34
                      replace s35 := hput.o 35 s35
                      have s37 : sl a25 37 = i6 k := hput.new 0 37 rfl
                      have s38 : sl a25 38 = i6 (k + 1) := hput.new 1 38 rfl
                      replace s39 := hput.o 39 s39
                      replace s40 := hput.o 40 s40
                      replace s41 := hput.o 41 s41
                      replace s42 := hput.o 42 s42
                      replace s43 := hput.o 43 s43
                      replace s44 := hput.o 44 s44
                      replace s45 := hput.o 45 s45
                      replace s46 := hput.o 46 s46
                      replace s47 := hput.o 47 s47
                      replace s48 := hput.o 48 s48
                      replace s49 := hput.o 49 s49
                      replace s50 := hput.o 50 s50
                      replace s51 := hput.o 51 s51
                      replace s52 := hput.o 52 s52
                      replace s53 := hput.o 53 s53
                      replace s54 := hput.o 54 s54
                      replace s55 := hput.o 55 s55
                      replace s56 := hput.o 56 s56
                      replace s57 := hput.o 57 s57
                      replace s58 := hput.o 58 s58
                      replace s59 := hput.o 59 s59
                      replace s60 := hput.o 60 s60
                      replace s61 := hput.o 61 s61
                      replace s62 := hput.o 62 s62
                      replace hz := hput.size.trans hz
                      replace hd := hput.defers.trans hd
                      clear hput
                      refine ⟨⟨k + 1, by omega, hz, hd, s1, s2, s3, hS20⟩, ?_⟩
                      show p.seen.length - (intOf (sl a25 3)).toNat < p.seen.length - (intOf (sl a16 3)).toNat
                      rw [show sl a25 3 = _ from s3, show sl a16 3 = _ from hmu0]
                      simp only [intOf]
                      omega
                  · rw [he]
                    clear he
                    refine seq_off (j := 10) (d := 49) (b := true) [11, 12, 13, 14, 15, 16, 17, 18, 19, 20, 21, 22] _ (by kernel_rfl) (.inl rfl) ?_
                    refine ⟨.bool false, fun _ h_ => r_ok (h_.on 7 46) (run_pick_f rfl (h_.d 10 49) rfl),
                     .bool false, fun _ h_ => rk (run_pick_f rfl (h_.d 7 46) (h_.d 23 62)), ?_⟩
                    intro a18 hput
                    replace s1 := hput.o 1 s1
                    replace s2 := hput.o 2 s2
                    replace s3 := hput.o 3 s3
                    replace s32 := hput.o 32 s32
                    replace s33 := hput.o 33 s33
                    replace s34 := hput.o 34 s34
                    replace s35 := hput.o 35 s35
                    have s39 : sl a18 39 = pt g3 5 := hput.new 0 39 rfl
                    have s40 : sl a18 40 = .slice q.sA p.seen.length q.sc := hput.new 1 40 rfl
                    have s41 : sl a18 41 = i6 k := hput.new 2 41 rfl
                    have s42 : sl a18 42 = pt b19 (o19 + k) := hput.new 3 42 rfl
                    have s43 : sl a18 43 = i6 z19 := hput.new 4 43 rfl
                    have s44 : sl a18 44 = .bool b20 := hput.new 5 44 rfl
                    have s45 : sl a18 45 = .bool false := hput.new 6 45 rfl
                    have s46 : sl a18 46 = .bool false := hput.new 7 46 rfl
                    have s47 : sl a18 47 = i6 k := hput.new 8 47 rfl
                    have s48 : sl a18 48 = .bool false := hput.new 9 48 rfl
                    have s49 : sl a18 49 = .bool false := hput.new 10 49 rfl
                    have s62 : sl a18 62 = .bool false := hput.new 23 62 rfl
                    have s63 : sl a18 63 = .bool false := hput.new 24 63 rfl
                    replace hz := hput.size.trans hz
                    replace hd := hput.defers.trans hd
                    clear hput
                    change Code.wp _ _ _ _ _
                    refine wp_cond_false s63 ?_
                    refine wp_skip ?_
                    change Code.wp _ _ _ _ _
                    refine seq_l [] hz ?_
                    refine ⟨i6 k, fun _ h_ => rmv (h_.b 3 s3),
                     i6 (k + 1), fun _ h_ => rk (run_addI rfl (h_.d 0 37) rfl (by omega) rfl),
                     i6 (k + 1), fun _ h_ => ras (h_.d 1 38), ?_⟩
                    intro a26 hput
                    replace s1 := hput.o 1 s1
                    replace s2 := hput.o 2 s2
                    replace s3 : sl a26 3 = i6 (k + 1) := hput.new 2 3 rfl
                    replace s32 := hput.o 32 s32
                    replace s33 := hput.o 33 s33
                    replace s34 := hput.o 34 s34
                    replace s35 := hput.o 35 s35
                    have s37 : sl a26 37 = i6 k := hput.new 0 37 rfl
                    have s38 : sl a26 38 = i6 (k + 1) := hput.new 1 38 rfl
                    replace s39 := hput.o 39 s39
                    replace s40 := hput.o 40 s40
                    replace s41 := hput.o 41 s41
                    replace s42 := hput.o 42 s42
                    replace s43 := hput.o 43 s43
                    replace s44 := hput.o 44 s44
                    replace s45 := hput.o 45 s45
                    replace s46 := hput.o 46 s46
                    replace s47 := hput.o 47 s47
                    replace s48 := hput.o 48 s48
                    replace s49 := hput.o 49 s49
                    replace s62 := hput.o 62 s62
                    replace s63 := hput.o 63 s63
                    replace hz := hput.size.trans hz
                    replace hd := hput.defers.trans hd
                    clear hput
                    refine ⟨⟨k + 1, by omega, hz, hd, s1, s2, s3, hS20⟩, ?_⟩
                    show p.seen.length - (intOf (sl a26 3)).toNat < p.seen.length - (intOf (sl a16 3)).toNat
                    rw [show sl a26 3 = _ from s3, show sl a16 3 = _ from hmu0]
                    simp only [intOf]
                    omega
              · clear s36
                refine wp_exit ?_
                change Code.wp _ _ _ _ _
                refine wp_seq ?_
                refine seq_l [] hz ?_
                refine ⟨.bool true, fun _ h_ => rk (run_assign rfl rfl), ?_⟩
                intro a27 hput
                replace s2 : sl a27 2 = .bool true := hput.new 0 2 rfl
                replace hz := hput.size.trans hz
                replace hd := hput.defers.trans hd
                clear hput s1 s3 s32 s33 s34 s35
                change Code.wp _ _ _ _ _
                refine wp_ret ?_
                refine ret1 (P := Try.prog) (fn := Try.f23) hd s2 (hR_ _ _ ?_)
                exact ⟨_, rfl, (hS16.old (by simp))⟩
theorem head04_l (h : HD) (W : World) : Calls Try.prog 58 #[.agg #[i6 h.age, i6 h.kind, i6 h.id, i6 h.adv, i6 h.seq, i6 h.sum, i6 h.long]] W (fun r w' => ∃ b : Bool, r = .returned (.bool b) ∧ Below W.heap.size W w') :=
  (head04_any h W).mono fun _ _ h => ⟨_, h⟩
set_option maxRecDepth 100000 in
set_option maxHeartbeats 800000 in
theorem heads05_any (A : Option Addr) (c : Nat) (l : List HD) (W : World) (hn : l.length ≤ 100) (hr : Reads W W.heap.size 7 A l.length (rowC hdC l)) :
    Calls Try.prog 24 #[.slice A l.length c] W (fun r w' => ∃ b : Bool, r = .returned (.bool b) ∧ Below W.heap.size W w') := by
  have hS := S.start W
  refine calls_walk Try.func24 rfl fun R_ hR_ a hz hd hargs => ?_
  replace hz : a.tmps.size = 46 := hz.trans (by kernel_rfl)
  have s0 := hargs 0 _ rfl
  clear hargs
  refine wp_seq ?_
  refine seq_l [] hz ?_
  refine ⟨.bool false, fun _ h_ => rk (run_assign rfl rfl), ?_⟩
  intro a2 hput
  replace s0 := hput.o 0 s0
  have s2 : sl a2 2 = .bool false := hput.new 0 2 rfl
  replace hz := hput.size.trans hz
  replace hd := hput.defers.trans hd
  clear hput
  change Code.wp _ _ _ _ _
  refine wp_seq ?_
  refine wp_seq ?_
  refine seq_l [] hz ?_
  refine ⟨i6 0, fun _ h_ => rk (run_assign rfl rfl), ?_⟩
  intro a3 hput
  replace s0 := hput.o 0 s0
  replace s2 := hput.o 2 s2
  have s3 : sl a3 3 = i6 0 := hput.new 0 3 rfl
  replace hz := hput.size.trans hz
  replace hd := hput.defers.trans hd
  clear hput
  change Code.wp _ _ _ _ _
  refine wp_block ?_
  refine wp_loop (fun a_ w_ => ∃ k : Nat, (k ≤ l.length) ∧ a_.tmps.size = 46 ∧ a_.defers = [] ∧ sl a_ 0 = .slice A l.length c ∧ sl a_ 2 = .bool false ∧ sl a_ 3 = i6 k ∧ S (kap W) ([]) ((memA W W.heap.size) :: []) w_) (fun a_ _ => l.length - (intOf (sl a_ 3)).toNat) ?_ ?_
  · exact ⟨0, Nat.zero_le _, hz, hd, s0, s2, s3, hS⟩
  · clear hz hd s0 s2 s3 hS
    rintro a4 w4 ⟨k, hc0_0, hz, hd, s0, s2, s3, hS4⟩
    have hmu0 := s3
    refine wp_seq ?_
    refine wp_seq ?_
    refine seq_l [] hz ?_
    refine ⟨i6 k, fun _ h_ => rmv (h_.b 3 s3),
     .slice A l.length c, fun _ h_ => rmv (h_.b 0 s0),
     i6 l.length, fun _ h_ => rk (run_lenS rfl (h_.d 1 5) (by kernel_rfl)),
     .bool (decide ((k : Int) < l.length)), fun _ h_ => rk (run_cmp rfl (h_.d 0 4) (h_.d 2 6) rfl (by first | rfl | exact neq_dec _ _ | exact eq_dec _ _ | simp)), ?_⟩
    intro a5 hput
    replace s0 := hput.o 0 s0
    replace s2 := hput.o 2 s2
    replace s3 := hput.o 3 s3
    have s4 : sl a5 4 = i6 k := hput.new 0 4 rfl
    have s5 : sl a5 5 = .slice A l.length c := hput.new 1 5 rfl
    have s6 : sl a5 6 = i6 l.length := hput.new 2 6 rfl
    have s7 : sl a5 7 = .bool (decide ((k : Int) < l.length)) := hput.new 3 7 rfl
    replace hz := hput.size.trans hz
    replace hd := hput.defers.trans hd
    clear hput
    change Code.wp _ _ _ _ _
    refine wp_cond_d s7 (fun hc7 => ?_) (fun hc7 => ?_)
    · clear s7
      refine wp_skip ?_
      change Code.wp _ _ _ _ _
      refine wp_seq ?_
      refine wp_block ?_
      refine wp_seq ?_
      refine seq_l [4, 12, 21, 30] hz ?_
      refine ⟨.slice A l.length c, fun _ h_ => rmv (h_.b 0 s0),
       i6 k, fun _ h_ => rmv (h_.b 3 s3), ?_⟩
      obtain ⟨b7, o7, z7, hA7, hb7, hz7, hq7⟩ := Reads.row_at hdC 7 hdC_len (k := k) ((Reads.old hr (hS4.old (by simp)))) (by decide) (by omega)
      refine ⟨pt b7 (o7 + k * 7), fun _ h_ => rk (run_indexV (size := 7) rfl (h_.d 0 10) hA7 (h_.d 1 11) (by kernel_rfl) (by omega) (by simp)),
       .agg #[i6 z7.age, i6 z7.kind, i6 z7.id, i6 z7.adv, i6 z7.seq, i6 z7.sum, i6 z7.long], fun _ h_ => rk (run_loadV (size := 7) (cs := hdC z7) rfl (h_.d 2 12) (by kernel_rfl) rfl hq7), ?_⟩
      refine ⟨fun a_ h_ => st_call (on_none rfl) (run_call rfl (map1 (h_.d 3 13)) rfl) (head04_l z7 _) ?_, trivial⟩
      rintro e w8 ⟨b8, rfl, hb8⟩
      refine ⟨_, rfl, _, rfl, ?_⟩
      clear h_ a_
      have hS8 := hS4.below hb8
      clear hS4 hb8
      refine ⟨.bool (!b8), fun _ h_ => rk (run_not rfl (h_.d 4 14) rfl),
       .bool (!b8), fun _ h_ => rmv (h_.d 5 15), ?_⟩
      rcases bt (!b8) with hg6 | hg6
      · rw [hg6]
        refine seq_off (j := 6) (d := 16) (b := false) [7, 8, 9, 10, 11] _ (by kernel_rfl) (.inl rfl) ?_
        refine seq_offe (j := 6) (d := 16) (b := false) (by kernel_rfl) (.inl rfl) ?_
        refine seq_off (j := 6) (d := 16) (b := false) [13] _ (by kernel_rfl) (.inl rfl) ?_
        refine ⟨.bool true, fun _ h_ => rk (run_pick_t rfl (h_.d 6 16) rfl),
         .bool true, fun _ h_ => rmv (h_.d 14 24), ?_⟩
        refine seq_off (j := 15) (d := 25) (b := false) [16, 17, 18, 19, 20] _ (by kernel_rfl) (.inl rfl) ?_
        refine seq_offe (j := 15) (d := 25) (b := false) (by kernel_rfl) (.inl rfl) ?_
        refine seq_off (j := 15) (d := 25) (b := false) [22] _ (by kernel_rfl) (.inl rfl) ?_
        refine ⟨.bool true, fun _ h_ => rk (run_pick_t rfl (h_.d 15 25) rfl),
         .bool true, fun _ h_ => rmv (h_.d 23 33), ?_⟩
        refine seq_off (j := 24) (d := 34) (b := false) [25, 26, 27, 28, 29] _ (by kernel_rfl) (.inl rfl) ?_
        refine seq_offe (j := 24) (d := 34) (b := false) (by kernel_rfl) (.inl rfl) ?_
        refine seq_off (j := 24) (d := 34) (b := false) [31] _ (by kernel_rfl) (.inl rfl) ?_
        refine ⟨.bool true, fun _ h_ => rk (run_pick_t rfl (h_.d 24 34) rfl), ?_⟩
        intro a6 hput
        replace s0 := hput.o 0 s0
        replace s2 := hput.o 2 s2
        replace s3 := hput.o 3 s3
        replace s4 := hput.o 4 s4
        replace s5 := hput.o 5 s5
        replace s6 := hput.o 6 s6
        have s10 : sl a6 10 = .slice A l.length c := hput.new 0 10 rfl
        have s11 : sl a6 11 = i6 k := hput.new 1 11 rfl
        have s12 : sl a6 12 = pt b7 (o7 + k * 7) := hput.new 2 12 rfl
        have s13 : sl a6 13 = .agg #[i6 z7.age, i6 z7.kind, i6 z7.id, i6 z7.adv, i6 z7.seq, i6 z7.sum, i6 z7.long] := hput.new 3 13 rfl
        have s14 : sl a6 14 = .bool b8 := hput.new 4 14 rfl
        have s15 : sl a6 15 = .bool true := hput.new 5 15 rfl
        have s16 : sl a6 16 = .bool true := hput.new 6 16 rfl
        have s24 : sl a6 24 = .bool true := hput.new 14 24 rfl
        have s25 : sl a6 25 = .bool true := hput.new 15 25 rfl
        have s33 : sl a6 33 = .bool true := hput.new 23 33 rfl
        have s34 : sl a6 34 = .bool true := hput.new 24 34 rfl
        have s42 : sl a6 42 = .bool true := hput.new 32 42 rfl
        replace hz := hput.size.trans hz
        replace hd := hput.defers.trans hd
        clear hput
        change Code.wp _ _ _ _ _
        refine wp_cond_true s42 ?_
        refine wp_seq ?_
        refine seq_l [] hz ?_
        refine ⟨.bool false, fun _ h_ => rk (run_assign rfl rfl), ?_⟩
        intro a9 hput
        replace s0 := hput.o 0 s0
        replace s2 : sl a9 2 = .bool false := hput.new 0 2 rfl
        replace s3 := hput.o 3 s3
        replace s4 := hput.o 4 s4
        replace s5 := hput.o 5 s5
        replace s6 := hput.o 6 s6
        replace s10 := hput.o 10 s10
        replace s11 := hput.o 11 s11
        replace s12 := hput.o 12 s12
        replace s13 := hput.o 13 s13
        replace s14 := hput.o 14 s14
        replace s15 := hput.o 15 s15
        replace s16 := hput.o 16 s16
        replace s24 := hput.o 24 s24
        replace s25 := hput.o 25 s25
        replace s33 := hput.o 33 s33
        replace s34 := hput.o 34 s34
        replace s42 := hput.o 42 s42
        replace hz := hput.size.trans hz
        replace hd := hput.defers.trans hd
        clear hput
        change Code.wp _ _ _ _ _
        refine wp_ret ?_
        refine ret1 (P := Try.prog) (fn := Try.f24) hd s2 (hR_ _ _ ?_)
        exact ⟨_, rfl, (hS8.old (by simp))⟩
      · rw [hg6]
        refine ⟨.slice A l.length c, fun _ h_ => r_ok (h_.on 6 16) (run_move rfl (h_.b 0 s0)),
         i6 k, fun _ h_ => r_ok (h_.on 6 16) (run_move rfl (h_.b 3 s3)), ?_⟩
        obtain ⟨b10, o10, z10, hA10, hb10, hz10, hq10⟩ := Reads.row_at hdC 7 hdC_len (k := k) ((Reads.old hr (hS8.old (by simp)))) (by decide) (by omega)
        obtain rfl : z7 = z10 := Option.some.inj (hz7.symm.trans hz10)
        refine ⟨pt b10 (o10 + k * 7), fun _ h_ => r_ok (h_.on 6 16) (run_indexV (size := 7) rfl (h_.d 7 17) hA10 (h_.d 8 18) (by kernel_rfl) (by omega) (by simp)),
         pt b10 (o10 + k * 7 + 2), fun _ h_ => r_ok (h_.on 6 16) (fa 2 rfl (h_.d 9 19)),
         i6 z7.id, fun _ h_ => r_ok (h_.on 6 16) (run_load rfl (h_.d 10 20) (by kernel_rfl) (show w8.cell? ⟨b10, o10 + k * 7 + 2, none⟩ = some (i6 z7.id) from hq10 2 _ rfl)), ?_⟩
        refine ⟨fun a_ h_ => st_call (h_.on 6 16) (run_call rfl (map3 (h_.d 11 21) rfl rfl) rfl) (in05_any _ _ _ _) ?_, trivial⟩
        rintro e w11 ⟨b11, rfl, hb11⟩
        refine ⟨_, rfl, _, rfl, ?_⟩
        clear h_ a_
        have hS11 := hS8.below hb11
        clear hS8 hb11
        refine ⟨.bool (!b11), fun _ h_ => r_ok (h_.on 6 16) (run_not rfl (h_.d 12 22) rfl),
         .bool (!b11), fun _ h_ => rk (run_pick_f rfl (h_.d 6 16) (h_.d 13 23)),
         .bool (!b11), fun _ h_ => rmv (h_.d 14 24), ?_⟩
        rcases bt (!b11) with hg15 | hg15
        · rw [hg15]
          refine seq_off (j := 15) (d := 25) (b := false) [16, 17, 18, 19, 20] _ (by kernel_rfl) (.inl rfl) ?_
          refine seq_offe (j := 15) (d := 25) (b := false) (by kernel_rfl) (.inl rfl) ?_
          refine seq_off (j := 15) (d := 25) (b := false) [22] _ (by kernel_rfl) (.inl rfl) ?_
          refine ⟨.bool true, fun _ h_ => rk (run_pick_t rfl (h_.d 15 25) rfl),
           .bool true, fun _ h_ => rmv (h_.d 23 33), ?_⟩
          refine seq_off (j := 24) (d := 34) (b := false) [25, 26, 27, 28, 29] _ (by kernel_rfl) (.inl rfl) ?_
          refine seq_offe (j := 24) (d := 34) (b := false) (by kernel_rfl) (.inl rfl) ?_
          refine seq_off (j := 24) (d := 34) (b := false) [31] _ (by kernel_rfl) (.inl rfl) ?_
          refine ⟨.bool true, fun _ h_ => rk (run_pick_t rfl (h_.d 24 34) rfl), ?_⟩
          intro a6 hput
          replace s0 := hput.o 0 s0
          replace s2 := hput.o 2 s2
          replace s3 := hput.o 3 s3
          replace s4 := hput.o 4 s4
          replace s5 := hput.o 5 s5
          replace s6 := hput.o 6 s6
          have s10 : sl a6 10 = .slice A l.length c := hput.new 0 10 rfl
          have s11 : sl a6 11 = i6 k := hput.new 1 11 rfl
          have s12 : sl a6 12 = pt b7 (o7 + k * 7) := hput.new 2 12 rfl
          have s13 : sl a6 13 = .agg #[i6 z7.age, i6 z7.kind, i6 z7.id, i6 z7.adv, i6 z7.seq, i6 z7.sum, i6 z7.long] := hput.new 3 13 rfl
          have s14 : sl a6 14 = .bool b8 := hput.new 4 14 rfl
          have s15 : sl a6 15 = .bool false := hput.new 5 15 rfl
          have s16 : sl a6 16 = .bool false := hput.new 6 16 rfl
          have s17 : sl a6 17 = .slice A l.length c := hput.new 7 17 rfl
          have s18 : sl a6 18 = i6 k := hput.new 8 18 rfl
          have s19 : sl a6 19 = pt b10 (o10 + k * 7) := hput.new 9 19 rfl
          have s20 : sl a6 20 = pt b10 (o10 + k * 7 + 2) := hput.new 10 20 rfl
          have s21 : sl a6 21 = i6 z7.id := hput.new 11 21 rfl
          have s22 : sl a6 22 = .bool b11 := hput.new 12 22 rfl
          have s23 : sl a6 23 = .bool true := hput.new 13 23 rfl
          have s24 : sl a6 24 = .bool true := hput.new 14 24 rfl
          have s25 : sl a6 25 = .bool true := hput.new 15 25 rfl
          have s33 : sl a6 33 = .bool true := hput.new 23 33 rfl
          have s34 : sl a6 34 = .bool true := hput.new 24 34 rfl
          have s42 : sl a6 42 = .bool true := hput.new 32 42 rfl
          replace hz := hput.size.trans hz
          replace hd := hput.defers.trans hd
          clear hput
          change Code.wp _ _ _ _ _
          refine wp_cond_true s42 ?_
          refine wp_seq ?_
          refine seq_l [] hz ?_
          refine ⟨.bool false, fun _ h_ => rk (run_assign rfl rfl), ?_⟩
          intro a12 hput
          replace s0 := hput.o 0 s0
          replace s2 : sl a12 2 = .bool false := hput.new 0 2 rfl
          replace s3 := hput.o 3 s3
          replace s4 := hput.o 4 s4
          replace s5 := hput.o 5 s5
          replace s6 := hput.o 6 s6
          replace s10 := hput.o 10 s10
          replace s11 := hput.o 11 s11
          replace s12 := hput.o 12 s12
          replace s13 := hput.o 13 s13
          replace s14 := hput.o 14 s14
          replace s15 := hput.o 15 s15
          replace s16 := hput.o 16 s16
          replace s17 := hput.o 17 s17
          replace s18 := hput.o 18 s18
          replace s19 := hput.o 19 s19
          replace s20 := hput.o 20 s20
          replace s21 := hput.o 21 s21
          replace s22 := hput.o 22 s22
          replace s23 := hput.o 23 s23
          replace s24 := hput.o 24 s24
          replace s25 := hput.o 25 s25
          replace s33 := hput.o 33 s33
          replace s34 := hput.o 34 s34
          replace s42 := hput.o 42 s42
          replace hz := hput.size.trans hz
          replace hd := hput.defers.trans hd
          clear hput
          change Code.wp _ _ _ _ _
          refine wp_ret ?_
          refine ret1 (P := Try.prog) (fn := Try.f24) hd s2 (hR_ _ _ ?_)
          exact ⟨_, rfl, (hS11.old (by simp))⟩
        · rw [hg15]
          refine ⟨.slice A l.length c, fun _ h_ => r_ok (h_.on 15 25) (run_move rfl (h_.b 0 s0)),
           i6 k, fun _ h_ => r_ok (h_.on 15 25) (run_move rfl (h_.b 3 s3)), ?_⟩
          obtain ⟨b13, o13, z13, hA13, hb13, hz13, hq13⟩ := Reads.row_at hdC 7 hdC_len (k := k) ((Reads.old hr (hS11.old (by simp)))) (by decide) (by omega)
          obtain rfl : z7 = z13 := Option.some.inj (hz7.symm.trans hz13)
          refine ⟨pt b13 (o13 + k * 7), fun _ h_ => r_ok (h_.on 15 25) (run_indexV (size := 7) rfl (h_.d 16 26) hA13 (h_.d 17 27) (by kernel_rfl) (by omega) (by simp)),
           pt b13 (o13 + k * 7 + 5), fun _ h_ => r_ok (h_.on 15 25) (fa 5 rfl (h_.d 18 28)),
           i6 z7.sum, fun _ h_ => r_ok (h_.on 15 25) (run_load rfl (h_.d 19 29) (by kernel_rfl) (show w11.cell? ⟨b13, o13 + k * 7 + 5, none⟩ = some (i6 z7.sum) from hq13 5 _ rfl)), ?_⟩
          refine ⟨fun a_ h_ => st_call (h_.on 15 25) (run_call rfl (map3 (h_.d 20 30) rfl rfl) rfl) (in05_any _ _ _ _) ?_, trivial⟩
          rintro e w14 ⟨b14, rfl, hb14⟩
          refine ⟨_, rfl, _, rfl, ?_⟩
          clear h_ a_
          have hS14 := hS11.below hb14
          clear hS11 hb14
          refine ⟨.bool (!b14), fun _ h_ => r_ok (h_.on 15 25) (run_not rfl (h_.d 21 31) rfl),
           .bool (!b14), fun _ h_ => rk (run_pick_f rfl (h_.d 15 25) (h_.d 22 32)),
           .bool (!b14), fun _ h_ => rmv (h_.d 23 33), ?_⟩
          rcases bt (!b14) with hg24 | hg24
          · rw [hg24]
            refine seq_off (j := 24) (d := 34) (b := false) [25, 26, 27, 28, 29] _ (by kernel_rfl) (.inl rfl) ?_
            refine seq_offe (j := 24) (d := 34) (b := false) (by kernel_rfl) (.inl rfl) ?_
            refine seq_off (j := 24) (d := 34) (b := false) [31] _ (by kernel_rfl) (.inl rfl) ?_
            refine ⟨.bool true, fun _ h_ => rk (run_pick_t rfl (h_.d 24 34) rfl), ?_⟩
            intro a6 hput
            replace s0 := hput.o 0 s0
            replace s2 := hput.o 2 s2
            replace s3 := hput.o 3 s3
            replace s4 := hput.o 4 s4
            replace s5 := hput.o 5 s5
            replace s6 := hput.o 6 s6
            have s10 : sl a6 10 = .slice A l.length c := hput.new 0 10 rfl
            have s11 : sl a6 11 = i6 k := hput.new 1 11 rfl
            have s12 : sl a6 12 = pt b7 (o7 + k * 7) := hput.new 2 12 rfl
            have s13 : sl a6 13 = .agg #[i6 z7.age, i6 z7.kind, i6 z7.id, i6 z7.adv, i6 z7.seq, i6 z7.sum, i6 z7.long] := hput.new 3 13 rfl
            have s14 : sl a6 14 = .bool b8 := hput.new 4 14 rfl
            have s15 : sl a6 15 = .bool false := hput.new 5 15 rfl
            have s16 : sl a6 16 = .bool false := hput.new 6 16 rfl
            have s17 : sl a6 17 = .slice A l.length c := hput.new 7 17 rfl
            have s18 : sl a6 18 = i6 k := hput.new 8 18 rfl
            have s19 : sl a6 19 = pt b10 (o10 + k * 7) := hput.new 9 19 rfl
            have s20 : sl a6 20 = pt b10 (o10 + k * 7 + 2) := hput.new 10 20 rfl
            have s21 : sl a6 21 = i6 z7.id := hput.new 11 21 rfl
            have s22 : sl a6 22 = .bool b11 := hput.new 12 22 rfl
            have s23 : sl a6 23 = .bool false := hput.new 13 23 rfl
            have s24 : sl a6 24 = .bool false := hput.new 14 24 rfl
            have s25 : sl a6 25 = .bool false := hput.new 15 25 rfl
            have s26 : sl a6 26 = .slice A l.length c := hput.new 16 26 rfl
            have s27 : sl a6 27 = i6 k := hput.new 17 27 rfl
            have s28 : sl a6 28 = pt b13 (o13 + k * 7) := hput.new 18 28 rfl
            have s29 : sl a6 29 = pt b13 (o13 + k * 7 + 5) := hput.new 19 29 rfl
            have s30 : sl a6 30 = i6 z7.sum := hput.new 20 30 rfl
            have s31 : sl a6 31 = .bool b14 := hput.new 21 31 rfl
            have s32 : sl a6 32 = .bool true := hput.new 22 32 rfl
            have s33 : sl a6 33 = .bool true := hput.new 23 33 rfl
            have s34 : sl a6 34 = .bool true := hput.new 24 34 rfl
            have s42 : sl a6 42 = .bool true := hput.new 32 42 rfl
            replace hz := hput.size.trans hz
            replace hd := hput.defers.trans hd
            clear hput
            change Code.wp _ _ _ _ _
            refine wp_cond_true s42 ?_
            refine wp_seq ?_
            refine seq_l [] hz ?_
            refine ⟨.bool false, fun _ h_ => rk (run_assign rfl rfl), ?_⟩
            intro a15 hput
            replace s0 := hput.o 0 s0
            replace s2 : sl a15 2 = .bool false := hput.new 0 2 rfl
            replace s3 := hput.o 3 s3
            replace s4 := hput.o 4 s4
            replace s5 := hput.o 5 s5
            replace s6 := hput.o 6 s6
            replace s10 := hput.o 10 s10
            replace s11 := hput.o 11 s11
            replace s12 := hput.o 12 s12
            replace s13 := hput.o 13 s13
            replace s14 := hput.o 14 s14
            replace s15 := hput.o 15 s15
            replace s16 := hput.o 16 s16
            replace s17 := hput.o 17 s17
            replace s18 := hput.o 18 s18
            replace s19 := hput.o 19 s19
            replace s20 := hput.o 20 s20
            replace s21 := hput.o 21 s21
            replace s22 := hput.o 22 s22
            replace s23 := hput.o 23 s23
            replace s24 := hput.o 24 s24
            replace s25 := hput.o 25 s25
            replace s26 := hput.o 26 s26
            replace s27 := hput.o 27 s27
            replace s28 := hput.o 28 s28
            replace s29 := hput.o 29 s29
            replace s30 := hput.o 30 s30
            replace s31 := hput.o 31 s31
            replace s32 := hput.o 32 s32
            replace s33 := hput.o 33 s33
            replace s34 := hput.o 34 s34
            replace s42 := hput.o 42 s42
            replace hz := hput.size.trans hz
            replace hd := hput.defers.trans hd
            clear hput
            change Code.wp _ _ _ _ _
            refine wp_ret ?_
            refine ret1 (P := Try.prog) (fn := Try.f24) hd s2 (hR_ _ _ ?_)
            exact ⟨_, rfl, (hS14.old (by simp))⟩
          · rw [hg24]
            refine ⟨.slice A l.length c, fun _ h_ => r_ok (h_.on 24 34) (run_move rfl (h_.b 0 s0)),
             i6 k, fun _ h_ => r_ok (h_.on 24 34) (run_move rfl (h_.b 3 s3)), ?_⟩
            obtain ⟨b16, o16, z16, hA16, hb16, hz16, hq16⟩ := Reads.row_at hdC 7 hdC_len (k := k) ((Reads.old hr (hS14.old (by simp)))) (by decide) (by omega)
            obtain rfl : z7 = z16 := Option.some.inj (hz7.symm.trans hz16)
            refine ⟨pt b16 (o16 + k * 7), fun _ h_ => r_ok (h_.on 24 34) (run_indexV (size := 7) rfl (h_.d 25 35) hA16 (h_.d 26 36) (by kernel_rfl) (by omega) (by simp)),
             pt b16 (o16 + k * 7 + 6), fun _ h_ => r_ok (h_.on 24 34) (fa 6 rfl (h_.d 27 37)),
             i6 z7.long, fun _ h_ => r_ok (h_.on 24 34) (run_load rfl (h_.d 28 38) (by kernel_rfl) (show w14.cell? ⟨b16, o16 + k * 7 + 6, none⟩ = some (i6 z7.long) from hq16 6 _ rfl)), ?_⟩
            refine ⟨fun a_ h_ => st_call (h_.on 24 34) (run_call rfl (map3 (h_.d 29 39) rfl rfl) rfl) (in05_any _ _ _ _) ?_, trivial⟩
            rintro e w17 ⟨b17, rfl, hb17⟩
            refine ⟨_, rfl, _, rfl, ?_⟩
            clear h_ a_
            have hS17 := hS14.below hb17
            clear hS14 hb17
            refine ⟨.bool (!b17), fun _ h_ => r_ok (h_.on 24 34) (run_not rfl (h_.d 30 40) rfl),
             .bool (!b17), fun _ h_ => rk (run_pick_f rfl (h_.d 24 34) (h_.d 31 41)), ?_⟩
            intro a6 hput
            replace s0 := hput.o 0 s0
            replace s2 := hput.o 2 s2
            replace s3 := hput.o 3 s3
            replace s4 := hput.o 4 s4
            replace s5 := hput.o 5 s5
            replace s6 := hput.o 6 s6
            have s10 : sl a6 10 = .slice A l.length c := hput.new 0 10 rfl
            have s11 : sl a6 11 = i6 k := hput.new 1 11 rfl
            have s12 : sl a6 12 = pt b7 (o7 + k * 7) := hput.new 2 12 rfl
            have s13 : sl a6 13 = .agg #[i6 z7.age, i6 z7.kind, i6 z7.id, i6 z7.adv, i6 z7.seq, i6 z7.sum, i6 z7.long] := hput.new 3 13 rfl
            have s14 : sl a6 14 = .bool b8 := hput.new 4 14 rfl
            have s15 : sl a6 15 = .bool false := hput.new 5 15 rfl
            have s16 : sl a6 16 = .bool false := hput.new 6 16 rfl
            have s17 : sl a6 17 = .slice A l.length c := hput.new 7 17 rfl
            have s18 : sl a6 18 = i6 k := hput.new 8 18 rfl
            have s19 : sl a6 19 = pt b10 (o10 + k * 7) := hput.new 9 19 rfl
            have s20 : sl a6 20 = pt b10 (o10 + k * 7 + 2) := hput.new 10 20 rfl
            have s21 : sl a6 21 = i6 z7.id := hput.new 11 21 rfl
            have s22 : sl a6 22 = .bool b11 := hput.new 12 22 rfl
            have s23 : sl a6 23 = .bool false := hput.new 13 23 rfl
            have s24 : sl a6 24 = .bool false := hput.new 14 24 rfl
            have s25 : sl a6 25 = .bool false := hput.new 15 25 rfl
            have s26 : sl a6 26 = .slice A l.length c := hput.new 16 26 rfl
            have s27 : sl a6 27 = i6 k := hput.new 17 27 rfl
            have s28 : sl a6 28 = pt b13 (o13 + k * 7) := hput.new 18 28 rfl
            have s29 : sl a6 29 = pt b13 (o13 + k * 7 + 5) := hput.new 19 29 rfl
            have s30 : sl a6 30 = i6 z7.sum := hput.new 20 30 rfl
            have s31 : sl a6 31 = .bool b14 := hput.new 21 31 rfl
            have s32 : sl a6 32 = .bool false := hput.new 22 32 rfl
            have s33 : sl a6 33 = .bool false := hput.new 23 33 rfl
            have s34 : sl a6 34 = .bool false := hput.new 24 34 rfl
            have s35 : sl a6 35 = .slice A l.length c := hput.new 25 35 rfl
            have s36 : sl a6 36 = i6 k := hput.new 26 36 rfl
            have s37 : sl a6 37 = pt b16 (o16 + k * 7) := hput.new 27 37 rfl
            have s38 : sl a6 38 = pt b16 (o16 + k * 7 + 6) := hput.new 28 38 rfl
            have s39 : sl a6 39 = i6 z7.long := hput.new 29 39 rfl
            have s40 : sl a6 40 = .bool b17 := hput.new 30 40 rfl
            have s41 : sl a6 41 = .bool (!b17) := hput.new 31 41 rfl
            have s42 : sl a6 42 = .bool (!b17) := hput.new 32 42 rfl
            replace hz := hput.size.trans hz
            replace hd := hput.defers.trans hd
            clear hput
            change Code.wp _ _ _ _ _
            refine wp_cond_b s42 (fun hc42 => ?_) (fun hc42 => ?_)
            · clear s42
              replace hc42 := nbt hc42
              rw [hc42] at s40
              refine wp_seq ?_
              refine seq_l [] hz ?_
              refine ⟨.bool false, fun _ h_ => rk (run_assign rfl rfl), ?_⟩
              intro a18 hput
              replace s0 := hput.o 0 s0
              replace s2 : sl a18 2 = .bool false := hput.new 0 2 rfl
              replace s3 := hput.o 3 s3
              replace s4 := hput.o 4 s4
              replace s5 := hput.o 5 s5
              replace s6 := hput.o 6 s6
              replace s10 := hput.o 10 s10
              replace s11 := hput.o 11 s11
              replace s12 := hput.o 12 s12
              replace s13 := hput.o 13 s13
              replace s14 := hput.o 14 s14
              replace s15 := hput.o 15 s15
              replace s16 := hput.o 16 s16
              replace s17 := hput.o 17 s17
              replace s18 := hput.o 18 s18
              replace s19 := hput.o 19 s19
              replace s20 := hput.o 20 s20
              replace s21 := hput.o 21 s21
              replace s22 := hput.o 22 s22
              replace s23 := hput.o 23 s23
              replace s24 := hput.o 24 s24
              replace s25 := hput.o 25 s25
              replace s26 := hput.o 26 s26
              replace s27 := hput.o 27 s27
              replace s28 := hput.o 28 s28
              replace s29 := hput.o 29 s29
              replace s30 := hput.o 30 s30
              replace s31 := hput.o 31 s31
              replace s32 := hput.o 32 s32
              replace s33 := hput.o 33 s33
              replace s34 := hput.o 34 s34
              replace s35 := hput.o 35 s35
              replace s36 := hput.o 36 s36
              replace s37 := hput.o 37 s37
              replace s38 := hput.o 38 s38
              replace s39 := hput.o 39 s39
              replace s40 := hput.o 40 s40
              replace s41 := hput.o 41 s41
              replace hz := hput.size.trans hz
              replace hd := hput.defers.trans hd
              clear hput
              change Code.wp _ _ _ _ _
              refine wp_ret ?_
              refine ret1 (P := Try.prog) (fn := Try.f24) hd s2 (hR_ _ _ ?_)
              exact ⟨_, rfl, (hS17.old (by simp))⟩
            · clear s42
              replace hc42 := nbf hc42
              rw [hc42] at s40
              refine wp_skip ?_
              change Code.wp _ _ _ _ _
              refine seq_l [] hz ?_
              refine ⟨i6 k, fun _ h_ => rmv (h_.b 3 s3),
               i6 (k + 1), fun _ h_ => rk (run_addI rfl (h_.d 0 8) rfl (by omega) rfl),
               i6 (k + 1), fun _ h_ => ras (h_.d 1 9), ?_⟩
              intro a19 hput
              replace s0 := hput.o 0 s0
              replace s2 := hput.o 2 s2
              replace s3 : sl a19 3 = i6 (k + 1) := hput.new 2 3 rfl
              replace s4 := hput.o 4 s4
              replace s5 := hput.o 5 s5
              replace s6 := hput.o 6 s6
              have s8 : sl a19 8 = i6 k := hput.new 0 8 rfl
              have s9 : sl a19 9 = i6 (k + 1) := hput.new 1 9 rfl
              replace s10 := hput.o 10 s10
              replace s11 := hput.o 11 s11
              replace s12 := hput.o 12 s12
              replace s13 := hput.o 13 s13
              replace s14 := hput.o 14 s14
              replace s15 := hput.o 15 s15
              replace s16 := hput.o 16 s16
              replace s17 := hput.o 17 s17
              replace s18 := hput.o 18 s18
              replace s19 := hput.o 19 s19
              replace s20 := hput.o 20 s20
              replace s21 := hput.o 21 s21
              replace s22 := hput.o 22 s22
              replace s23 := hput.o 23 s23
              replace s24 := hput.o 24 s24
              replace s25 := hput.o 25 s25
              replace s26 := hput.o 26 s26
              replace s27 := hput.o 27 s27
              replace s28 := hput.o 28 s28
              replace s29 := hput.o 29 s29
              replace s30 := hput.o 30 s30
              replace s31 := hput.o 31 s31
              replace s32 := hput.o 32 s32
              replace s33 := hput.o 33 s33
              replace s34 := hput.o 34 s34
              replace s35 := hput.o 35 s35
              replace s36 := hput.o 36 s36
              replace s37 := hput.o 37 s37
              replace s38 := hput.o 38 s38
              replace s39 := hput.o 39 s39
              replace s40 := hput.o 40 s40
              replace s41 := hput.o 41 s41
              replace hz := hput.size.trans hz
              replace hd := hput.defers.trans hd
              clear hput
              refine ⟨⟨k + 1, by omega, hz, hd, s0, s2, s3, hS17⟩, ?_⟩
              show l.length - (intOf (sl a19 3)).toNat < l.length - (intOf (sl a4 3)).toNat
              rw [show sl a19 3 = _ from s3, show sl a4 3 = _ from hmu0]
              simp only [intOf]
              omega
    · clear s7
      refine wp_exit ?_
      change Code.wp _ _ _ _ _
      refine wp_seq ?_
      refine seq_l [] hz ?_
      refine ⟨.slice A l.length c, fun _ h_ => rmv (h_.b 0 s0),
       i6 l.length, fun _ h_ => rk (run_lenS rfl (h_.d 0 43) (by kernel_rfl)),
       .bool (decide ((l.length : Int) ≤ 3)), fun _ h_ => rk (run_cmp rfl (h_.d 1 44) rfl rfl (by first | rfl | exact neq_dec _ _ | exact eq_dec _ _ | simp)),
       .bool (decide ((l.length : Int) ≤ 3)), fun _ h_ => ras (h_.d 2 45), ?_⟩
      intro a20 hput
      replace s2 : sl a20 2 = .bool (decide ((l.length : Int) ≤ 3)) := hput.new 3 2 rfl
      replace hz := hput.size.trans hz
      replace hd := hput.defers.trans hd
      clear hput s0 s3 s4 s5 s6
      change Code.wp _ _ _ _ _
      refine wp_ret ?_
      refine ret1 (P := Try.prog) (fn := Try.f24) hd s2 (hR_ _ _ ?_)
      exact ⟨_, rfl, (hS4.old (by simp))⟩
end Go.Proofs.Ytdenfgnkbfbpmaa
