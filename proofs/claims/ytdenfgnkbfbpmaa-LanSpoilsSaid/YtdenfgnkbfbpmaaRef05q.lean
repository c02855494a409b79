/-
  The reference's Right of a packet: it answers; what it lets through has right descriptions.
-/
import Derived.Test.YtdenfgnkbfbpmaaRef05r
namespace Go.Proofs.Ytdenfgnkbfbpmaa
open Go.RowKit
set_option linter.unusedSimpArgs false
set_option linter.unusedVariables false

theorem sub_cells {w : World} {b base : Nat} {cs : List Value} (hq : ∀ j u, cs[j]? = some u → w.cell? ⟨b, base + j, none⟩ = some u) (j n : Nat) {i : Nat} {u : Value} (hi : ((cs.drop j).take n)[i]? = some u) : w.cell? ⟨b, base + j + i, none⟩ = some u := by
  have hlt : i < n := by have := (List.getElem?_eq_some_iff.1 hi).1; simp at this; omega
  rw [List.getElem?_take_of_lt hlt, List.getElem?_drop] at hi
  rw [Nat.add_assoc]; exact hq _ _ hi
theorem all_more {α : Type} {l : List α} {k : Nat} {z : α} {p : α → Prop} (h : ∀ x ∈ l.take k, p x) (hz : l[k]? = some z) (hp : p z) : ∀ x ∈ l.take (k + 1), p x := by
  intro x hx
  rw [take_snoc l k z hz, List.mem_append] at hx
  rcases hx with hx | hx
  · exact h x hx
  · simp at hx; subst hx; exact hp
set_option maxRecDepth 100000 in
set_option maxHeartbeats 800000 in
theorem in05x_any (n lo hi : Int) (W : World) :
    Calls Try.prog 20 #[i6 n, i6 lo, i6 hi] W (fun r w' => r = .returned (.bool (decide (lo ≤ n ∧ n ≤ hi))) ∧ Below W.heap.size W w') := by
  have hS := S.start W
  refine calls_walk Try.func20 rfl fun R_ hR_ a hz hd hargs => ?_
  replace hz : a.tmps.size = 15 := hz.trans (by kernel_rfl)
  have s0 := hargs 0 _ rfl
  have s1 := hargs 1 _ rfl
  have s2 := hargs 2 _ rfl
  clear hargs
  refine wp_seq ?_
  refine seq_l [] hz ?_
  refine ⟨.bool false, fun _ h_ => rk (run_assign rfl rfl), ?_⟩
  intro a2 hput
  replace s0 := hput.o 0 s0
  replace s1 := hput.o 1 s1
  replace s2 := hput.o 2 s2
  have s6 : sl a2 6 = .bool false := hput.new 0 6 rfl
  replace hz := hput.size.trans hz
  replace hd := hput.defers.trans hd
  clear hput
  change Code.wp _ _ _ _ _
  refine wp_seq ?_
  refine seq_l [] hz ?_
  refine ⟨i6 n, fun _ h_ => rmv (h_.b 0 s0),
   i6 lo, fun _ h_ => rmv (h_.b 1 s1),
   .bool (decide ((lo : Int) ≤ n)), fun _ h_ => rk (run_cmp rfl (h_.d 0 7) (h_.d 1 8) rfl (by first | rfl | exact neq_dec _ _ | exact eq_dec _ _ | simp)),
   .bool (decide ((lo : Int) ≤ n)), fun _ h_ => rmv (h_.d 2 9), ?_⟩
  rcases dt ((lo : Int) ≤ n) with ⟨he, hg3⟩ | ⟨he, hg3⟩
  · rw [he]
    clear he
    refine ⟨i6 n, fun _ h_ => r_ok (h_.on 3 10) (run_move rfl (h_.b 0 s0)),
     i6 hi, fun _ h_ => r_ok (h_.on 3 10) (run_move rfl (h_.b 2 s2)),
     .bool (decide ((n : Int) ≤ hi)), fun _ h_ => r_ok (h_.on 3 10) (run_cmp rfl (h_.d 4 11) (h_.d 5 12) rfl (by first | rfl | exact neq_dec _ _ | exact eq_dec _ _ | simp)),
     .bool (decide ((n : Int) ≤ hi)), fun _ h_ => rk (run_pick_t rfl (h_.d 3 10) (h_.d 6 13)),
     .bool (decide ((n : Int) ≤ hi)), fun _ h_ => ras (h_.d 7 14), ?_⟩
    intro a3 hput
    replace s6 : sl a3 6 = .bool (decide ((n : Int) ≤ hi)) := hput.new 8 6 rfl
    replace hz := hput.size.trans hz
    replace hd := hput.defers.trans hd
    clear hput s0 s1 s2
    change Code.wp _ _ _ _ _
    refine wp_ret ?_
    refine ret1 (P := Try.prog) (fn := Try.f20) hd s6 (hR_ _ _ ?_)
    refine ⟨?_, (hS.old (by simp))⟩
    congr 2
    first | exact (decide_eq_true (by omega)).symm | exact (decide_eq_false (by omega)).symm | exact decide_eq_decide.2 (by omega)
  · rw [he]
    clear he
    refine seq_off (j := 3) (d := 10) (b := true) [4, 5, 6] _ (by kernel_rfl) (.inl rfl) ?_
    refine ⟨.bool false, fun _ h_ => rk (run_pick_f rfl (h_.d 3 10) rfl),
     .bool false, fun _ h_ => ras (h_.d 7 14), ?_⟩
    intro a3 hput
    replace s6 : sl a3 6 = .bool false := hput.new 8 6 rfl
    replace hz := hput.size.trans hz
    replace hd := hput.defers.trans hd
    clear hput s0 s1 s2
    change Code.wp _ _ _ _ _
    refine wp_ret ?_
    refine ret1 (P := Try.prog) (fn := Try.f20) hd s6 (hR_ _ _ ?_)
    refine ⟨?_, (hS.old (by simp))⟩
    congr 2
    first | exact (decide_eq_true (by omega)).symm | exact (decide_eq_false (by omega)).symm | exact decide_eq_decide.2 (by omega)
theorem in05_no (n lo hi : Int) (W : World) (h : ¬(lo ≤ n ∧ n ≤ hi)) : Calls Try.prog 20 #[i6 n, i6 lo, i6 hi] W (fun r w' => r = .returned (.bool false) ∧ Below W.heap.size W w') :=
  (in05x_any n lo hi W).mono fun _ _ ⟨h1, h2⟩ => ⟨by rw [h1, decide_eq_false h], h2⟩
set_option maxRecDepth 100000 in
set_option maxHeartbeats 800000 in
theorem right05_1 (p : PkV) (q : PkP) (W : World) (hsm : PkSm p) (hok : PkOK W p q) :
    Calls Try.prog 6 #[.agg #[i6 1, i6 p.src, i6 p.every, i6 p.dead, i6 p.prio, i6 p.dr, i6 p.bdr, .slice q.sA p.seen.length q.sc, .bool p.init, .bool p.more, .bool p.master, i6 p.seq, .slice q.hA p.heads.length q.hc, .slice q.kA p.keys.length q.kc, .slice q.lA p.lsas.length q.lc, .slice q.aA p.acks.length q.ac]] W (fun r w' => ∃ b : Bool, r = .returned (.bool b) ∧ Below W.heap.size W w') := by
  obtain ⟨hsn, hhd, hky, hls, hak, _⟩ := id hsm
  have hS := S.start W
  refine calls_walk Try.func6 rfl fun R_ hR_ a hz hd hargs => ?_
  replace hz : a.tmps.size = 200 := hz.trans (by kernel_rfl)
  have s0 := hargs 0 _ rfl
  clear hargs
  refine wp_seq ?_
  refine seq_l [0] hz ?_
  refine ⟨fun a_ h_ => st_box (cells := #[i6 1, i6 p.src, i6 p.every, i6 p.dead, i6 p.prio, i6 p.dr, i6 p.bdr, .slice q.sA p.seen.length q.sc, .bool p.init, .bool p.more, .bool p.master, i6 p.seq, .slice q.hA p.heads.length q.hc, .slice q.kA p.keys.length q.kc, .slice q.lA p.lsas.length q.lc, .slice q.aA p.acks.length q.ac]) hS (on_none rfl) rfl (h_.b 0 s0) (by kernel_rfl) fun g3 w3 hS3 hb3 => ⟨_, rfl, ?_⟩, trivial⟩
  clear h_ a_ hS
  clear hb3
  refine ⟨.bool false, fun _ h_ => rk (run_assign rfl rfl), ?_⟩
  intro a2 hput
  have s1 : sl a2 1 = pt g3 0 := hput.new 0 1 rfl
  have s2 : sl a2 2 = .bool false := hput.new 1 2 rfl
  replace hz := hput.size.trans hz
  replace hd := hput.defers.trans hd
  clear hput s0
  change Code.wp _ _ _ _ _
  refine wp_seq ?_
  refine wp_seq ?_
  refine seq_l [2, 7] hz ?_
  refine ⟨pt g3 0, fun _ h_ => rk (fa 0 rfl (h_.b 1 s1)),
   i6 1, fun _ h_ => rk (ld hS3 0 rfl (h_.d 0 9)), ?_⟩
  refine ⟨fun a_ h_ => st_call (on_none rfl) (run_call rfl (map3 (h_.d 1 10) rfl rfl) rfl) (in05_any _ _ _ _) ?_, trivial⟩
  rintro e w5 ⟨b5, rfl, hb5⟩
  refine ⟨_, rfl, _, rfl, ?_⟩
  clear h_ a_
  have hS5 := hS3.below hb5
  clear hS3 hb5
  refine ⟨.bool (!b5), fun _ h_ => rk (run_not rfl (h_.d 2 11) rfl),
   .bool (!b5), fun _ h_ => rmv (h_.d 3 12), ?_⟩
  rcases bt (!b5) with hg4 | hg4
  · rw [hg4]
    refine seq_off (j := 4) (d := 13) (b := false) [5, 6] _ (by kernel_rfl) (.inl rfl) ?_
    refine seq_offe (j := 4) (d := 13) (b := false) (by kernel_rfl) (.inl rfl) ?_
    refine seq_off (j := 4) (d := 13) (b := false) [8] _ (by kernel_rfl) (.inl rfl) ?_
    refine ⟨.bool true, fun _ h_ => rk (run_pick_t rfl (h_.d 4 13) rfl), ?_⟩
    intro a4 hput
    replace s1 := hput.o 1 s1
    replace s2 := hput.o 2 s2
    have s18 : sl a4 18 = .bool true := hput.new 9 18 rfl
    replace hz := hput.size.trans hz
    replace hd := hput.defers.trans hd
    clear hput
    change Code.wp _ _ _ _ _
    refine wp_cond_true s18 ?_
    refine wp_seq ?_
    refine seq_l [] hz ?_
    refine ⟨.bool false, fun _ h_ => rk (run_assign rfl rfl), ?_⟩
    intro a6 hput
    replace s1 := hput.o 1 s1
    replace s2 : sl a6 2 = .bool false := hput.new 0 2 rfl
    replace hz := hput.size.trans hz
    replace hd := hput.defers.trans hd
    clear hput s18
    change Code.wp _ _ _ _ _
    refine wp_ret ?_
    refine ret1 (P := Try.prog) (fn := Try.f6) hd s2 (hR_ _ _ ?_)
    exact ⟨_, rfl, (hS5.old (by simp))⟩
  · rw [hg4]
    refine ⟨pt g3 1, fun _ h_ => r_ok (h_.on 4 13) (fa 1 rfl (h_.b 1 s1)),
     i6 p.src, fun _ h_ => r_ok (h_.on 4 13) (ld hS5 0 rfl (h_.d 5 14)), ?_⟩
    refine ⟨fun a_ h_ => st_call (h_.on 4 13) (run_call rfl (map3 (h_.d 6 15) rfl rfl) rfl) (in05_any _ _ _ _) ?_, trivial⟩
    rintro e w7 ⟨b7, rfl, hb7⟩
    refine ⟨_, rfl, _, rfl, ?_⟩
    clear h_ a_
    have hS7 := hS5.below hb7
    clear hS5 hb7
    refine ⟨.bool (!b7), fun _ h_ => r_ok (h_.on 4 13) (run_not rfl (h_.d 7 16) rfl),
     .bool (!b7), fun _ h_ => rk (run_pick_f rfl (h_.d 4 13) (h_.d 8 17)), ?_⟩
    intro a4 hput
    replace s1 := hput.o 1 s1
    replace s2 := hput.o 2 s2
    have s18 : sl a4 18 = .bool (!b7) := hput.new 9 18 rfl
    replace hz := hput.size.trans hz
    replace hd := hput.defers.trans hd
    clear hput
    change Code.wp _ _ _ _ _
    refine wp_cond_b s18 (fun hc18 => ?_) (fun hc18 => ?_)
    · clear s18
      replace hc18 := nbt hc18
      refine wp_seq ?_
      refine seq_l [] hz ?_
      refine ⟨.bool false, fun _ h_ => rk (run_assign rfl rfl), ?_⟩
      intro a8 hput
      replace s1 := hput.o 1 s1
      replace s2 : sl a8 2 = .bool false := hput.new 0 2 rfl
      replace hz := hput.size.trans hz
      replace hd := hput.defers.trans hd
      clear hput
      change Code.wp _ _ _ _ _
      refine wp_ret ?_
      refine ret1 (P := Try.prog) (fn := Try.f6) hd s2 (hR_ _ _ ?_)
      exact ⟨_, rfl, (hS7.old (by simp))⟩
    · clear s18
      replace hc18 := nbf hc18
      refine wp_skip ?_
      change Code.wp _ _ _ _ _
      refine wp_seq ?_
      refine wp_seq ?_
      refine seq_l [6, 16] hz ?_
      refine ⟨pt g3 0, fun _ h_ => rk (fa 0 rfl (h_.b 1 s1)),
       i6 1, fun _ h_ => rk (ld hS7 0 rfl (h_.d 0 19)),
       .bool false, fun _ h_ => rk (run_cmp rfl (h_.d 1 20) rfl rfl (by decide)),
       .bool false, fun _ h_ => rmv (h_.d 2 21), ?_⟩
      refine seq_off (j := 3) (d := 22) (b := true) [4, 5] _ (by kernel_rfl) (.inl rfl) ?_
      refine seq_offe (j := 3) (d := 22) (b := true) (by kernel_rfl) (.inl rfl) ?_
      refine seq_off (j := 3) (d := 22) (b := true) [7] _ (by kernel_rfl) (.inl rfl) ?_
      refine ⟨.bool false, fun _ h_ => rk (run_pick_f rfl (h_.d 3 22) rfl),
       .bool false, fun _ h_ => rmv (h_.d 8 27),
       pt g3 0, fun _ h_ => r_ok (h_.on 9 28) (fa 0 rfl (h_.b 1 s1)),
       i6 1, fun _ h_ => r_ok (h_.on 9 28) (ld hS7 0 rfl (h_.d 10 29)),
       .bool true, fun _ h_ => r_ok (h_.on 9 28) (run_cmp rfl (h_.d 11 30) rfl rfl (by decide)),
       .bool true, fun _ h_ => r_ok (h_.on 9 28) (run_move rfl (h_.d 12 31)),
       pt g3 8, fun _ h_ => r_ok (h_.on 13 32) (fa 8 rfl (h_.b 1 s1)),
       .agg #[.bool p.init, .bool p.more, .bool p.master, i6 p.seq, .slice q.hA p.heads.length q.hc], fun _ h_ => r_ok (h_.on 13 32) (lbS 5 (hS7.blk (i := 0) rfl) rfl (h_.d 14 33)), ?_⟩
      refine ⟨fun a_ h_ => st_call (h_.on 13 32) (run_call rfl (map1 (h_.d 15 34)) rfl) (noDd05_any p q _ hsm (hok.below (hS7.old (by simp)))) ?_, trivial⟩
      rintro e w10 ⟨b10, rfl, hb10⟩
      refine ⟨_, rfl, _, rfl, ?_⟩
      clear h_ a_
      have hS10 := hS7.below hb10
      clear hS7 hb10
      refine ⟨.bool (!b10), fun _ h_ => r_ok (h_.on 13 32) (run_not rfl (h_.d 16 35) rfl),
       .bool (!b10), fun _ h_ => r_ok (h_.on 9 28) (run_pick_t rfl (h_.d 13 32) (h_.d 17 36)),
       .bool (!b10), fun _ h_ => rk (run_pick_f rfl (h_.d 9 28) (h_.d 18 37)),
       .bool (!b10), fun _ h_ => rmv (h_.d 19 38), ?_⟩
      rcases bt (!b10) with hg20 | hg20
      · rw [hg20]
        refine seq_off (j := 20) (d := 39) (b := false) [21, 22, 23, 24] _ (by kernel_rfl) (.inl rfl) ?_
        refine seq_off (j := 24) (d := 43) (b := true) [25, 26, 27, 28] _ (by kernel_rfl) (.inr rfl) ?_
        refine seq_off (j := 20) (d := 39) (b := false) [29] _ (by kernel_rfl) (.inl rfl) ?_
        refine ⟨.bool true, fun _ h_ => rk (run_pick_t rfl (h_.d 20 39) rfl),
         .bool true, fun _ h_ => rmv (h_.d 30 49), ?_⟩
        refine seq_off (j := 31) (d := 50) (b := false) [32, 33, 34, 35] _ (by kernel_rfl) (.inl rfl) ?_
        refine seq_off (j := 35) (d := 54) (b := true) [36, 37, 38, 39] _ (by kernel_rfl) (.inr rfl) ?_
        refine seq_off (j := 31) (d := 50) (b := false) [40] _ (by kernel_rfl) (.inl rfl) ?_
        refine ⟨.bool true, fun _ h_ => rk (run_pick_t rfl (h_.d 31 50) rfl),
         .bool true, fun _ h_ => rmv (h_.d 41 60), ?_⟩
        refine seq_off (j := 42) (d := 61) (b := false) [43, 44, 45, 46] _ (by kernel_rfl) (.inl rfl) ?_
        refine seq_off (j := 46) (d := 65) (b := true) [47, 48, 49, 50] _ (by kernel_rfl) (.inr rfl) ?_
        refine seq_off (j := 42) (d := 61) (b := false) [51] _ (by kernel_rfl) (.inl rfl) ?_
        refine ⟨.bool true, fun _ h_ => rk (run_pick_t rfl (h_.d 42 61) rfl), ?_⟩
        intro a9 hput
        replace s1 := hput.o 1 s1
        replace s2 := hput.o 2 s2
        have s71 : sl a9 71 = .bool true := hput.new 52 71 rfl
        replace hz := hput.size.trans hz
        replace hd := hput.defers.trans hd
        clear hput
        change Code.wp _ _ _ _ _
        refine wp_cond_true s71 ?_
        refine wp_seq ?_
        refine seq_l [] hz ?_
        refine ⟨.bool false, fun _ h_ => rk (run_assign rfl rfl), ?_⟩
        intro a11 hput
        replace s1 := hput.o 1 s1
        replace s2 : sl a11 2 = .bool false := hput.new 0 2 rfl
        replace hz := hput.size.trans hz
        replace hd := hput.defers.trans hd
        clear hput s71
        change Code.wp _ _ _ _ _
        refine wp_ret ?_
        refine ret1 (P := Try.prog) (fn := Try.f6) hd s2 (hR_ _ _ ?_)
        exact ⟨_, rfl, (hS10.old (by simp))⟩
      · rw [hg20]
        refine ⟨pt g3 0, fun _ h_ => r_ok (h_.on 20 39) (fa 0 rfl (h_.b 1 s1)),
         i6 1, fun _ h_ => r_ok (h_.on 20 39) (ld hS10 0 rfl (h_.d 21 40)),
         .bool true, fun _ h_ => r_ok (h_.on 20 39) (run_cmp rfl (h_.d 22 41) rfl rfl (by decide)),
         .bool true, fun _ h_ => r_ok (h_.on 20 39) (run_move rfl (h_.d 23 42)),
         pt g3 13, fun _ h_ => r_ok (h_.on 24 43) (fa 13 rfl (h_.b 1 s1)),
         .slice q.kA p.keys.length q.kc, fun _ h_ => r_ok (h_.on 24 43) (ld hS10 0 rfl (h_.d 25 44)),
         i6 p.keys.length, fun _ h_ => r_ok (h_.on 24 43) (run_lenS rfl (h_.d 26 45) (by kernel_rfl)),
         .bool (decide ((0 : Int) < p.keys.length)), fun _ h_ => r_ok (h_.on 24 43) (run_cmp rfl (h_.d 27 46) rfl rfl (by first | rfl | exact neq_dec _ _ | exact eq_dec _ _ | simp)),
         .bool (decide ((0 : Int) < p.keys.length)), fun _ h_ => r_ok (h_.on 20 39) (run_pick_t rfl (h_.d 24 43) (h_.d 28 47)),
         .bool (decide ((0 : Int) < p.keys.length)), fun _ h_ => rk (run_pick_f rfl (h_.d 20 39) (h_.d 29 48)),
         .bool (decide ((0 : Int) < p.keys.length)), fun _ h_ => rmv (h_.d 30 49), ?_⟩
        rcases dt ((0 : Int) < p.keys.length) with ⟨he, hg31⟩ | ⟨he, hg31⟩
        · rw [he]
          clear he
          refine seq_off (j := 31) (d := 50) (b := false) [32, 33, 34, 35] _ (by kernel_rfl) (.inl rfl) ?_
          refine seq_off (j := 35) (d := 54) (b := true) [36, 37, 38, 39] _ (by kernel_rfl) (.inr rfl) ?_
          refine seq_off (j := 31) (d := 50) (b := false) [40] _ (by kernel_rfl) (.inl rfl) ?_
          refine ⟨.bool true, fun _ h_ => rk (run_pick_t rfl (h_.d 31 50) rfl),
           .bool true, fun _ h_ => rmv (h_.d 41 60), ?_⟩
          refine seq_off (j := 42) (d := 61) (b := false) [43, 44, 45, 46] _ (by kernel_rfl) (.inl rfl) ?_
          refine seq_off (j := 46) (d := 65) (b := true) [47, 48, 49, 50] _ (by kernel_rfl) (.inr rfl) ?_
          refine seq_off (j := 42) (d := 61) (b := false) [51] _ (by kernel_rfl) (.inl rfl) ?_
          refine ⟨.bool true, fun _ h_ => rk (run_pick_t rfl (h_.d 42 61) rfl), ?_⟩
          intro a9 hput
          replace s1 := hput.o 1 s1
          replace s2 := hput.o 2 s2
          have s71 : sl a9 71 = .bool true := hput.new 52 71 rfl
          replace hz := hput.size.trans hz
          replace hd := hput.defers.trans hd
          clear hput
          change Code.wp _ _ _ _ _
          refine wp_cond_true s71 ?_
          refine wp_seq ?_
          refine seq_l [] hz ?_
          refine ⟨.bool false, fun _ h_ => rk (run_assign rfl rfl), ?_⟩
          intro a12 hput
          replace s1 := hput.o 1 s1
          replace s2 : sl a12 2 = .bool false := hput.new 0 2 rfl
          replace hz := hput.size.trans hz
          replace hd := hput.defers.trans hd
          clear hput s71
          change Code.wp _ _ _ _ _
          refine wp_ret ?_
          refine ret1 (P := Try.prog) (fn := Try.f6) hd s2 (hR_ _ _ ?_)
          exact ⟨_, rfl, (hS10.old (by simp))⟩
        · rw [he]
          clear he
          refine ⟨pt g3 0, fun _ h_ => r_ok (h_.on 31 50) (fa 0 rfl (h_.b 1 s1)),
           i6 1, fun _ h_ => r_ok (h_.on 31 50) (ld hS10 0 rfl (h_.d 32 51)),
           .bool true, fun _ h_ => r_ok (h_.on 31 50) (run_cmp rfl (h_.d 33 52) rfl rfl (by decide)),
           .bool true, fun _ h_ => r_ok (h_.on 31 50) (run_move rfl (h_.d 34 53)),
           pt g3 14, fun _ h_ => r_ok (h_.on 35 54) (fa 14 rfl (h_.b 1 s1)),
           .slice q.lA p.lsas.length q.lc, fun _ h_ => r_ok (h_.on 35 54) (ld hS10 0 rfl (h_.d 36 55)),
           i6 p.lsas.length, fun _ h_ => r_ok (h_.on 35 54) (run_lenS rfl (h_.d 37 56) (by kernel_rfl)),
           .bool (decide ((0 : Int) < p.lsas.length)), fun _ h_ => r_ok (h_.on 35 54) (run_cmp rfl (h_.d 38 57) rfl rfl (by first | rfl | exact neq_dec _ _ | exact eq_dec _ _ | simp)),
           .bool (decide ((0 : Int) < p.lsas.length)), fun _ h_ => r_ok (h_.on 31 50) (run_pick_t rfl (h_.d 35 54) (h_.d 39 58)),
           .bool (decide ((0 : Int) < p.lsas.length)), fun _ h_ => rk (run_pick_f rfl (h_.d 31 50) (h_.d 40 59)),
           .bool (decide ((0 : Int) < p.lsas.length)), fun _ h_ => rmv (h_.d 41 60), ?_⟩
          rcases dt ((0 : Int) < p.lsas.length) with ⟨he, hg42⟩ | ⟨he, hg42⟩
          · rw [he]
            clear he
            refine seq_off (j := 42) (d := 61) (b := false) [43, 44, 45, 46] _ (by kernel_rfl) (.inl rfl) ?_
            refine seq_off (j := 46) (d := 65) (b := true) [47, 48, 49, 50] _ (by kernel_rfl) (.inr rfl) ?_
            refine seq_off (j := 42) (d := 61) (b := false) [51] _ (by kernel_rfl) (.inl rfl) ?_
            refine ⟨.bool true, fun _ h_ => rk (run_pick_t rfl (h_.d 42 61) rfl), ?_⟩
            intro a9 hput
            replace s1 := hput.o 1 s1
            replace s2 := hput.o 2 s2
            have s71 : sl a9 71 = .bool true := hput.new 52 71 rfl
            replace hz := hput.size.trans hz
            replace hd := hput.defers.trans hd
            clear hput
            change Code.wp _ _ _ _ _
            refine wp_cond_true s71 ?_
            refine wp_seq ?_
            refine seq_l [] hz ?_
            refine ⟨.bool false, fun _ h_ => rk (run_assign rfl rfl), ?_⟩
            intro a13 hput
            replace s1 := hput.o 1 s1
            replace s2 : sl a13 2 = .bool false := hput.new 0 2 rfl
            replace hz := hput.size.trans hz
            replace hd := hput.defers.trans hd
            clear hput s71
            change Code.wp _ _ _ _ _
            refine wp_ret ?_
            refine ret1 (P := Try.prog) (fn := Try.f6) hd s2 (hR_ _ _ ?_)
            exact ⟨_, rfl, (hS10.old (by simp))⟩
          · rw [he]
            clear he
            refine ⟨pt g3 0, fun _ h_ => r_ok (h_.on 42 61) (fa 0 rfl (h_.b 1 s1)),
             i6 1, fun _ h_ => r_ok (h_.on 42 61) (ld hS10 0 rfl (h_.d 43 62)),
             .bool true, fun _ h_ => r_ok (h_.on 42 61) (run_cmp rfl (h_.d 44 63) rfl rfl (by decide)),
             .bool true, fun _ h_ => r_ok (h_.on 42 61) (run_move rfl (h_.d 45 64)),
             pt g3 15, fun _ h_ => r_ok (h_.on 46 65) (fa 15 rfl (h_.b 1 s1)),
             .slice q.aA p.acks.length q.ac, fun _ h_ => r_ok (h_.on 46 65) (ld hS10 0 rfl (h_.d 47 66)),
             i6 p.acks.length, fun _ h_ => r_ok (h_.on 46 65) (run_lenS rfl (h_.d 48 67) (by kernel_rfl)),
             .bool (decide ((0 : Int) < p.acks.length)), fun _ h_ => r_ok (h_.on 46 65) (run_cmp rfl (h_.d 49 68) rfl rfl (by first | rfl | exact neq_dec _ _ | exact eq_dec _ _ | simp)),
             .bool (decide ((0 : Int) < p.acks.length)), fun _ h_ => r_ok (h_.on 42 61) (run_pick_t rfl (h_.d 46 65) (h_.d 50 69)),
             .bool (decide ((0 : Int) < p.acks.length)), fun _ h_ => rk (run_pick_f rfl (h_.d 42 61) (h_.d 51 70)), ?_⟩
            intro a9 hput
            replace s1 := hput.o 1 s1
            replace s2 := hput.o 2 s2
            have s71 : sl a9 71 = .bool (decide ((0 : Int) < p.acks.length)) := hput.new 52 71 rfl
            replace hz := hput.size.trans hz
            replace hd := hput.defers.trans hd
            clear hput
            change Code.wp _ _ _ _ _
            refine wp_cond_d s71 (fun hc71 => ?_) (fun hc71 => ?_)
            · clear s71
              refine wp_seq ?_
              refine seq_l [] hz ?_
              refine ⟨.bool false, fun _ h_ => rk (run_assign rfl rfl), ?_⟩
              intro a14 hput
              replace s1 := hput.o 1 s1
              replace s2 : sl a14 2 = .bool false := hput.new 0 2 rfl
              replace hz := hput.size.trans hz
              replace hd := hput.defers.trans hd
              clear hput
              change Code.wp _ _ _ _ _
              refine wp_ret ?_
              refine ret1 (P := Try.prog) (fn := Try.f6) hd s2 (hR_ _ _ ?_)
              exact ⟨_, rfl, (hS10.old (by simp))⟩
            · clear s71
              refine wp_skip ?_
              change Code.wp _ _ _ _ _
              refine wp_seq ?_
              refine wp_seq ?_
              refine seq_l [] hz ?_
              refine ⟨pt g3 0, fun _ h_ => rk (fa 0 rfl (h_.b 1 s1)),
               i6 1, fun _ h_ => rk (ld hS10 0 rfl (h_.d 0 72)),
               .bool true, fun _ h_ => rk (run_cmp rfl (h_.d 1 73) rfl rfl (by decide)), ?_⟩
              intro a15 hput
              replace s1 := hput.o 1 s1
              replace s2 := hput.o 2 s2
              have s74 : sl a15 74 = .bool true := hput.new 2 74 rfl
              replace hz := hput.size.trans hz
              replace hd := hput.defers.trans hd
              clear hput
              change Code.wp _ _ _ _ _
              refine wp_cond_true s74 ?_
              refine wp_seq ?_
              refine seq_l [2] hz ?_
              refine ⟨pt g3 2, fun _ h_ => rk (fa 2 rfl (h_.b 1 s1)),
               .agg #[i6 p.every, i6 p.dead, i6 p.prio, i6 p.dr, i6 p.bdr, .slice q.sA p.seen.length q.sc], fun _ h_ => rk (lbS 6 (hS10.blk (i := 0) rfl) rfl (h_.d 0 75)), ?_⟩
              refine ⟨fun a_ h_ => st_call (on_none rfl) (run_call rfl (map1 (h_.d 1 76)) rfl) (helloIs05_any p q _ hsm (hok.below (hS10.old (by simp)))) ?_, trivial⟩
              rintro e w17 ⟨b17, rfl, hb17⟩
              refine ⟨_, rfl, _, rfl, ?_⟩
              clear h_ a_
              have hS17 := hS10.below hb17
              clear hS10 hb17
              refine ⟨.bool b17, fun _ h_ => ras (h_.d 2 77), ?_⟩
              intro a16 hput
              replace s1 := hput.o 1 s1
              replace s2 : sl a16 2 = .bool b17 := hput.new 3 2 rfl
              replace hz := hput.size.trans hz
              replace hd := hput.defers.trans hd
              clear hput s74
              change Code.wp _ _ _ _ _
              refine wp_ret ?_
              refine ret1 (P := Try.prog) (fn := Try.f6) hd s2 (hR_ _ _ ?_)
              exact ⟨_, rfl, (hS17.old (by simp))⟩
set_option maxRecDepth 100000 in
set_option maxHeartbeats 800000 in
theorem right05_2 (p : PkV) (q : PkP) (W : World) (hsm : PkSm p) (hok : PkOK W p q) :
    Calls Try.prog 6 #[.agg #[i6 2, i6 p.src, i6 p.every, i6 p.dead, i6 p.prio, i6 p.dr, i6 p.bdr, .slice q.sA p.seen.length q.sc, .bool p.init, .bool p.more, .bool p.master, i6 p.seq, .slice q.hA p.heads.length q.hc, .slice q.kA p.keys.length q.kc, .slice q.lA p.lsas.length q.lc, .slice q.aA p.acks.length q.ac]] W (fun r w' => ∃ b : Bool, r = .returned (.bool b) ∧ Below W.heap.size W w') := by
  obtain ⟨hsn, hhd, hky, hls, hak, _⟩ := id hsm
  have hS := S.start W
  refine calls_walk Try.func6 rfl fun R_ hR_ a hz hd hargs => ?_
  replace hz : a.tmps.size = 200 := hz.trans (by kernel_rfl)
  have s0 := hargs 0 _ rfl
  clear hargs
  refine wp_seq ?_
  refine seq_l [0] hz ?_
  refine ⟨fun a_ h_ => st_box (cells := #[i6 2, i6 p.src, i6 p.every, i6 p.dead, i6 p.prio, i6 p.dr, i6 p.bdr, .slice q.sA p.seen.length q.sc, .bool p.init, .bool p.more, .bool p.master, i6 p.seq, .slice q.hA p.heads.length q.hc, .slice q.kA p.keys.length q.kc, .slice q.lA p.lsas.length q.lc, .slice q.aA p.acks.length q.ac]) hS (on_none rfl) rfl (h_.b 0 s0) (by kernel_rfl) fun g3 w3 hS3 hb3 => ⟨_, rfl, ?_⟩, trivial⟩
  clear h_ a_ hS
  clear hb3
  refine ⟨.bool false, fun _ h_ => rk (run_assign rfl rfl), ?_⟩
  intro a2 hput
  have s1 : sl a2 1 = pt g3 0 := hput.new 0 1 rfl
  have s2 : sl a2 2 = .bool false := hput.new 1 2 rfl
  replace hz := hput.size.trans hz
  replace hd := hput.defers.trans hd
  clear hput s0
  change Code.wp _ _ _ _ _
  refine wp_seq ?_
  refine wp_seq ?_
  refine seq_l [2, 7] hz ?_
  refine ⟨pt g3 0, fun _ h_ => rk (fa 0 rfl (h_.b 1 s1)),
   i6 2, fun _ h_ => rk (ld hS3 0 rfl (h_.d 0 9)), ?_⟩
  refine ⟨fun a_ h_ => st_call (on_none rfl) (run_call rfl (map3 (h_.d 1 10) rfl rfl) rfl) (in05_any _ _ _ _) ?_, trivial⟩
  rintro e w5 ⟨b5, rfl, hb5⟩
  refine ⟨_, rfl, _, rfl, ?_⟩
  clear h_ a_
  have hS5 := hS3.below hb5
  clear hS3 hb5
  refine ⟨.bool (!b5), fun _ h_ => rk (run_not rfl (h_.d 2 11) rfl),
   .bool (!b5), fun _ h_ => rmv (h_.d 3 12), ?_⟩
  rcases bt (!b5) with hg4 | hg4
  · rw [hg4]
    refine seq_off (j := 4) (d := 13) (b := false) [5, 6] _ (by kernel_rfl) (.inl rfl) ?_
    refine seq_offe (j := 4) (d := 13) (b := false) (by kernel_rfl) (.inl rfl) ?_
    refine seq_off (j := 4) (d := 13) (b := false) [8] _ (by kernel_rfl) (.inl rfl) ?_
    refine ⟨.bool true, fun _ h_ => rk (run_pick_t rfl (h_.d 4 13) rfl), ?_⟩
    intro a4 hput
    replace s1 := hput.o 1 s1
    replace s2 := hput.o 2 s2
    have s18 : sl a4 18 = .bool true := hput.new 9 18 rfl
    replace hz := hput.size.trans hz
    replace hd := hput.defers.trans hd
    clear hput
    change Code.wp _ _ _ _ _
    refine wp_cond_true s18 ?_
    refine wp_seq ?_
    refine seq_l [] hz ?_
    refine ⟨.bool false, fun _ h_ => rk (run_assign rfl rfl), ?_⟩
    intro a6 hput
    replace s1 := hput.o 1 s1
    replace s2 : sl a6 2 = .bool false := hput.new 0 2 rfl
    replace hz := hput.size.trans hz
    replace hd := hput.defers.trans hd
    clear hput s18
    change Code.wp _ _ _ _ _
    refine wp_ret ?_
    refine ret1 (P := Try.prog) (fn := Try.f6) hd s2 (hR_ _ _ ?_)
    exact ⟨_, rfl, (hS5.old (by simp))⟩
  · rw [hg4]
    refine ⟨pt g3 1, fun _ h_ => r_ok (h_.on 4 13) (fa 1 rfl (h_.b 1 s1)),
     i6 p.src, fun _ h_ => r_ok (h_.on 4 13) (ld hS5 0 rfl (h_.d 5 14)), ?_⟩
    refine ⟨fun a_ h_ => st_call (h_.on 4 13) (run_call rfl (map3 (h_.d 6 15) rfl rfl) rfl) (in05_any _ _ _ _) ?_, trivial⟩
    rintro e w7 ⟨b7, rfl, hb7⟩
    refine ⟨_, rfl, _, rfl, ?_⟩
    clear h_ a_
    have hS7 := hS5.below hb7
    clear hS5 hb7
    refine ⟨.bool (!b7), fun _ h_ => r_ok (h_.on 4 13) (run_not rfl (h_.d 7 16) rfl),
     .bool (!b7), fun _ h_ => rk (run_pick_f rfl (h_.d 4 13) (h_.d 8 17)), ?_⟩
    intro a4 hput
    replace s1 := hput.o 1 s1
    replace s2 := hput.o 2 s2
    have s18 : sl a4 18 = .bool (!b7) := hput.new 9 18 rfl
    replace hz := hput.size.trans hz
    replace hd := hput.defers.trans hd
    clear hput
    change Code.wp _ _ _ _ _
    refine wp_cond_b s18 (fun hc18 => ?_) (fun hc18 => ?_)
    · clear s18
      replace hc18 := nbt hc18
      refine wp_seq ?_
      refine seq_l [] hz ?_
      refine ⟨.bool false, fun _ h_ => rk (run_assign rfl rfl), ?_⟩
      intro a8 hput
      replace s1 := hput.o 1 s1
      replace s2 : sl a8 2 = .bool false := hput.new 0 2 rfl
      replace hz := hput.size.trans hz
      replace hd := hput.defers.trans hd
      clear hput
      change Code.wp _ _ _ _ _
      refine wp_ret ?_
      refine ret1 (P := Try.prog) (fn := Try.f6) hd s2 (hR_ _ _ ?_)
      exact ⟨_, rfl, (hS7.old (by simp))⟩
    · clear s18
      replace hc18 := nbf hc18
      refine wp_skip ?_
      change Code.wp _ _ _ _ _
      refine wp_seq ?_
      refine wp_seq ?_
      refine seq_l [6, 16] hz ?_
      refine ⟨pt g3 0, fun _ h_ => rk (fa 0 rfl (h_.b 1 s1)),
       i6 2, fun _ h_ => rk (ld hS7 0 rfl (h_.d 0 19)),
       .bool true, fun _ h_ => rk (run_cmp rfl (h_.d 1 20) rfl rfl (by decide)),
       .bool true, fun _ h_ => rmv (h_.d 2 21),
       pt g3 2, fun _ h_ => r_ok (h_.on 3 22) (fa 2 rfl (h_.b 1 s1)),
       .agg #[i6 p.every, i6 p.dead, i6 p.prio, i6 p.dr, i6 p.bdr, .slice q.sA p.seen.length q.sc], fun _ h_ => r_ok (h_.on 3 22) (lbS 6 (hS7.blk (i := 0) rfl) rfl (h_.d 4 23)), ?_⟩
      refine ⟨fun a_ h_ => st_call (h_.on 3 22) (run_call rfl (map1 (h_.d 5 24)) rfl) (noHello05_any p q _ hsm (hok.below (hS7.old (by simp)))) ?_, trivial⟩
      rintro e w10 ⟨b10, rfl, hb10⟩
      refine ⟨_, rfl, _, rfl, ?_⟩
      clear h_ a_
      have hS10 := hS7.below hb10
      clear hS7 hb10
      refine ⟨.bool (!b10), fun _ h_ => r_ok (h_.on 3 22) (run_not rfl (h_.d 6 25) rfl),
       .bool (!b10), fun _ h_ => rk (run_pick_t rfl (h_.d 3 22) (h_.d 7 26)),
       .bool (!b10), fun _ h_ => rmv (h_.d 8 27), ?_⟩
      rcases bt (!b10) with hg9 | hg9
      · rw [hg9]
        refine seq_off (j := 9) (d := 28) (b := false) [10, 11, 12, 13] _ (by kernel_rfl) (.inl rfl) ?_
        refine seq_off (j := 13) (d := 32) (b := true) [14, 15] _ (by kernel_rfl) (.inr rfl) ?_
        refine seq_offe (j := 13) (d := 32) (b := true) (by kernel_rfl) (.inr rfl) ?_
        refine seq_off (j := 13) (d := 32) (b := true) [17] _ (by kernel_rfl) (.inr rfl) ?_
        refine seq_off (j := 9) (d := 28) (b := false) [18] _ (by kernel_rfl) (.inl rfl) ?_
        refine ⟨.bool true, fun _ h_ => rk (run_pick_t rfl (h_.d 9 28) rfl),
         .bool true, fun _ h_ => rmv (h_.d 19 38), ?_⟩
        refine seq_off (j := 20) (d := 39) (b := false) [21, 22, 23, 24] _ (by kernel_rfl) (.inl rfl) ?_
        refine seq_off (j := 24) (d := 43) (b := true) [25, 26, 27, 28] _ (by kernel_rfl) (.inr rfl) ?_
        refine seq_off (j := 20) (d := 39) (b := false) [29] _ (by kernel_rfl) (.inl rfl) ?_
        refine ⟨.bool true, fun _ h_ => rk (run_pick_t rfl (h_.d 20 39) rfl),
         .bool true, fun _ h_ => rmv (h_.d 30 49), ?_⟩
        refine seq_off (j := 31) (d := 50) (b := false) [32, 33, 34, 35] _ (by kernel_rfl) (.inl rfl) ?_
        refine seq_off (j := 35) (d := 54) (b := true) [36, 37, 38, 39] _ (by kernel_rfl) (.inr rfl) ?_
        refine seq_off (j := 31) (d := 50) (b := false) [40] _ (by kernel_rfl) (.inl rfl) ?_
        refine ⟨.bool true, fun _ h_ => rk (run_pick_t rfl (h_.d 31 50) rfl),
         .bool true, fun _ h_ => rmv (h_.d 41 60), ?_⟩
        refine seq_off (j := 42) (d := 61) (b := false) [43, 44, 45, 46] _ (by kernel_rfl) (.inl rfl) ?_
        refine seq_off (j := 46) (d := 65) (b := true) [47, 48, 49, 50] _ (by kernel_rfl) (.inr rfl) ?_
        refine seq_off (j := 42) (d := 61) (b := false) [51] _ (by kernel_rfl) (.inl rfl) ?_
        refine ⟨.bool true, fun _ h_ => rk (run_pick_t rfl (h_.d 42 61) rfl), ?_⟩
        intro a9 hput
        replace s1 := hput.o 1 s1
        replace s2 := hput.o 2 s2
        have s71 : sl a9 71 = .bool true := hput.new 52 71 rfl
        replace hz := hput.size.trans hz
        replace hd := hput.defers.trans hd
        clear hput
        change Code.wp _ _ _ _ _
        refine wp_cond_true s71 ?_
        refine wp_seq ?_
        refine seq_l [] hz ?_
        refine ⟨.bool false, fun _ h_ => rk (run_assign rfl rfl), ?_⟩
        intro a11 hput
        replace s1 := hput.o 1 s1
        replace s2 : sl a11 2 = .bool false := hput.new 0 2 rfl
        replace hz := hput.size.trans hz
        replace hd := hput.defers.trans hd
        clear hput s71
        change Code.wp _ _ _ _ _
        refine wp_ret ?_
        refine ret1 (P := Try.prog) (fn := Try.f6) hd s2 (hR_ _ _ ?_)
        exact ⟨_, rfl, (hS10.old (by simp))⟩
      · rw [hg9]
        refine ⟨pt g3 0, fun _ h_ => r_ok (h_.on 9 28) (fa 0 rfl (h_.b 1 s1)),
         i6 2, fun _ h_ => r_ok (h_.on 9 28) (ld hS10 0 rfl (h_.d 10 29)),
         .bool false, fun _ h_ => r_ok (h_.on 9 28) (run_cmp rfl (h_.d 11 30) rfl rfl (by decide)),
         .bool false, fun _ h_ => r_ok (h_.on 9 28) (run_move rfl (h_.d 12 31)), ?_⟩
        refine seq_off (j := 13) (d := 32) (b := true) [14, 15] _ (by kernel_rfl) (.inl rfl) ?_
        refine seq_offe (j := 13) (d := 32) (b := true) (by kernel_rfl) (.inl rfl) ?_
        refine seq_off (j := 13) (d := 32) (b := true) [17] _ (by kernel_rfl) (.inl rfl) ?_
        refine ⟨.bool false, fun _ h_ => r_ok (h_.on 9 28) (run_pick_f rfl (h_.d 13 32) rfl),
         .bool false, fun _ h_ => rk (run_pick_f rfl (h_.d 9 28) (h_.d 18 37)),
         .bool false, fun _ h_ => rmv (h_.d 19 38),
         pt g3 0, fun _ h_ => r_ok (h_.on 20 39) (fa 0 rfl (h_.b 1 s1)),
         i6 2, fun _ h_ => r_ok (h_.on 20 39) (ld hS10 0 rfl (h_.d 21 40)),
         .bool true, fun _ h_ => r_ok (h_.on 20 39) (run_cmp rfl (h_.d 22 41) rfl rfl (by decide)),
         .bool true, fun _ h_ => r_ok (h_.on 20 39) (run_move rfl (h_.d 23 42)),
         pt g3 13, fun _ h_ => r_ok (h_.on 24 43) (fa 13 rfl (h_.b 1 s1)),
         .slice q.kA p.keys.length q.kc, fun _ h_ => r_ok (h_.on 24 43) (ld hS10 0 rfl (h_.d 25 44)),
         i6 p.keys.length, fun _ h_ => r_ok (h_.on 24 43) (run_lenS rfl (h_.d 26 45) (by kernel_rfl)),
         .bool (decide ((0 : Int) < p.keys.length)), fun _ h_ => r_ok (h_.on 24 43) (run_cmp rfl (h_.d 27 46) rfl rfl (by first | rfl | exact neq_dec _ _ | exact eq_dec _ _ | simp)),
         .bool (decide ((0 : Int) < p.keys.length)), fun _ h_ => r_ok (h_.on 20 39) (run_pick_t rfl (h_.d 24 43) (h_.d 28 47)),
         .bool (decide ((0 : Int) < p.keys.length)), fun _ h_ => rk (run_pick_f rfl (h_.d 20 39) (h_.d 29 48)),
         .bool (decide ((0 : Int) < p.keys.length)), fun _ h_ => rmv (h_.d 30 49), ?_⟩
        rcases dt ((0 : Int) < p.keys.length) with ⟨he, hg31⟩ | ⟨he, hg31⟩
        · rw [he]
          clear he
          refine seq_off (j := 31) (d := 50) (b := false) [32, 33, 34, 35] _ (by kernel_rfl) (.inl rfl) ?_
          refine seq_off (j := 35) (d := 54) (b := true) [36, 37, 38, 39] _ (by kernel_rfl) (.inr rfl) ?_
          refine seq_off (j := 31) (d := 50) (b := false) [40] _ (by kernel_rfl) (.inl rfl) ?_
          refine ⟨.bool true, fun _ h_ => rk (run_pick_t rfl (h_.d 31 50) rfl),
           .bool true, fun _ h_ => rmv (h_.d 41 60), ?_⟩
          refine seq_off (j := 42) (d := 61) (b := false) [43, 44, 45, 46] _ (by kernel_rfl) (.inl rfl) ?_
          refine seq_off (j := 46) (d := 65) (b := true) [47, 48, 49, 50] _ (by kernel_rfl) (.inr rfl) ?_
          refine seq_off (j := 42) (d := 61) (b := false) [51] _ (by kernel_rfl) (.inl rfl) ?_
          refine ⟨.bool true, fun _ h_ => rk (run_pick_t rfl (h_.d 42 61) rfl), ?_⟩
          intro a9 hput
          replace s1 := hput.o 1 s1
          replace s2 := hput.o 2 s2
          have s71 : sl a9 71 = .bool true := hput.new 52 71 rfl
          replace hz := hput.size.trans hz
          replace hd := hput.defers.trans hd
          clear hput
          change Code.wp _ _ _ _ _
          refine wp_cond_true s71 ?_
          refine wp_seq ?_
          refine seq_l [] hz ?_
          refine ⟨.bool false, fun _ h_ => rk (run_assign rfl rfl), ?_⟩
          intro a12 hput
          replace s1 := hput.o 1 s1
          replace s2 : sl a12 2 = .bool false := hput.new 0 2 rfl
          replace hz := hput.size.trans hz
          replace hd := hput.defers.trans hd
          clear hput s71
          change Code.wp _ _ _ _ _
          refine wp_ret ?_
          refine ret1 (P := Try.prog) (fn := Try.f6) hd s2 (hR_ _ _ ?_)
          exact ⟨_, rfl, (hS10.old (by simp))⟩
        · rw [he]
          clear he
          refine ⟨pt g3 0, fun _ h_ => r_ok (h_.on 31 50) (fa 0 rfl (h_.b 1 s1)),
           i6 2, fun _ h_ => r_ok (h_.on 31 50) (ld hS10 0 rfl (h_.d 32 51)),
           .bool true, fun _ h_ => r_ok (h_.on 31 50) (run_cmp rfl (h_.d 33 52) rfl rfl (by decide)),
           .bool true, fun _ h_ => r_ok (h_.on 31 50) (run_move rfl (h_.d 34 53)),
           pt g3 14, fun _ h_ => r_ok (h_.on 35 54) (fa 14 rfl (h_.b 1 s1)),
           .slice q.lA p.lsas.length q.lc, fun _ h_ => r_ok (h_.on 35 54) (ld hS10 0 rfl (h_.d 36 55)),
           i6 p.lsas.length, fun _ h_ => r_ok (h_.on 35 54) (run_lenS rfl (h_.d 37 56) (by kernel_rfl)),
           .bool (decide ((0 : Int) < p.lsas.length)), fun _ h_ => r_ok (h_.on 35 54) (run_cmp rfl (h_.d 38 57) rfl rfl (by first | rfl | exact neq_dec _ _ | exact eq_dec _ _ | simp)),
           .bool (decide ((0 : Int) < p.lsas.length)), fun _ h_ => r_ok (h_.on 31 50) (run_pick_t rfl (h_.d 35 54) (h_.d 39 58)),
           .bool (decide ((0 : Int) < p.lsas.length)), fun _ h_ => rk (run_pick_f rfl (h_.d 31 50) (h_.d 40 59)),
           .bool (decide ((0 : Int) < p.lsas.length)), fun _ h_ => rmv (h_.d 41 60), ?_⟩
          rcases dt ((0 : Int) < p.lsas.length) with ⟨he, hg42⟩ | ⟨he, hg42⟩
          · rw [he]
            clear he
            refine seq_off (j := 42) (d := 61) (b := false) [43, 44, 45, 46] _ (by kernel_rfl) (.inl rfl) ?_
            refine seq_off (j := 46) (d := 65) (b := true) [47, 48, 49, 50] _ (by kernel_rfl) (.inr rfl) ?_
            refine seq_off (j := 42) (d := 61) (b := false) [51] _ (by kernel_rfl) (.inl rfl) ?_
            refine ⟨.bool true, fun _ h_ => rk (run_pick_t rfl (h_.d 42 61) rfl), ?_⟩
            intro a9 hput
            replace s1 := hput.o 1 s1
            replace s2 := hput.o 2 s2
            have s71 : sl a9 71 = .bool true := hput.new 52 71 rfl
            replace hz := hput.size.trans hz
            replace hd := hput.defers.trans hd
            clear hput
            change Code.wp _ _ _ _ _
            refine wp_cond_true s71 ?_
            refine wp_seq ?_
            refine seq_l [] hz ?_
            refine ⟨.bool false, fun _ h_ => rk (run_assign rfl rfl), ?_⟩
            intro a13 hput
            replace s1 := hput.o 1 s1
            replace s2 : sl a13 2 = .bool false := hput.new 0 2 rfl
            replace hz := hput.size.trans hz
            replace hd := hput.defers.trans hd
            clear hput s71
            change Code.wp _ _ _ _ _
            refine wp_ret ?_
            refine ret1 (P := Try.prog) (fn := Try.f6) hd s2 (hR_ _ _ ?_)
            exact ⟨_, rfl, (hS10.old (by simp))⟩
          · rw [he]
            clear he
            refine ⟨pt g3 0, fun _ h_ => r_ok (h_.on 42 61) (fa 0 rfl (h_.b 1 s1)),
             i6 2, fun _ h_ => r_ok (h_.on 42 61) (ld hS10 0 rfl (h_.d 43 62)),
             .bool true, fun _ h_ => r_ok (h_.on 42 61) (run_cmp rfl (h_.d 44 63) rfl rfl (by decide)),
             .bool true, fun _ h_ => r_ok (h_.on 42 61) (run_move rfl (h_.d 45 64)),
             pt g3 15, fun _ h_ => r_ok (h_.on 46 65) (fa 15 rfl (h_.b 1 s1)),
             .slice q.aA p.acks.length q.ac, fun _ h_ => r_ok (h_.on 46 65) (ld hS10 0 rfl (h_.d 47 66)),
             i6 p.acks.length, fun _ h_ => r_ok (h_.on 46 65) (run_lenS rfl (h_.d 48 67) (by kernel_rfl)),
             .bool (decide ((0 : Int) < p.acks.length)), fun _ h_ => r_ok (h_.on 46 65) (run_cmp rfl (h_.d 49 68) rfl rfl (by first | rfl | exact neq_dec _ _ | exact eq_dec _ _ | simp)),
             .bool (decide ((0 : Int) < p.acks.length)), fun _ h_ => r_ok (h_.on 42 61) (run_pick_t rfl (h_.d 46 65) (h_.d 50 69)),
             .bool (decide ((0 : Int) < p.acks.length)), fun _ h_ => rk (run_pick_f rfl (h_.d 42 61) (h_.d 51 70)), ?_⟩
            intro a9 hput
            replace s1 := hput.o 1 s1
            replace s2 := hput.o 2 s2
            have s71 : sl a9 71 = .bool (decide ((0 : Int) < p.acks.length)) := hput.new 52 71 rfl
            replace hz := hput.size.trans hz
            replace hd := hput.defers.trans hd
            clear hput
            change Code.wp _ _ _ _ _
            refine wp_cond_d s71 (fun hc71 => ?_) (fun hc71 => ?_)
            · clear s71
              refine wp_seq ?_
              refine seq_l [] hz ?_
              refine ⟨.bool false, fun _ h_ => rk (run_assign rfl rfl), ?_⟩
              intro a14 hput
              replace s1 := hput.o 1 s1
              replace s2 : sl a14 2 = .bool false := hput.new 0 2 rfl
              replace hz := hput.size.trans hz
              replace hd := hput.defers.trans hd
              clear hput
              change Code.wp _ _ _ _ _
              refine wp_ret ?_
              refine ret1 (P := Try.prog) (fn := Try.f6) hd s2 (hR_ _ _ ?_)
              exact ⟨_, rfl, (hS10.old (by simp))⟩
            · clear s71
              refine wp_skip ?_
              change Code.wp _ _ _ _ _
              refine wp_seq ?_
              refine wp_seq ?_
              refine seq_l [] hz ?_
              refine ⟨pt g3 0, fun _ h_ => rk (fa 0 rfl (h_.b 1 s1)),
               i6 2, fun _ h_ => rk (ld hS10 0 rfl (h_.d 0 72)),
               .bool false, fun _ h_ => rk (run_cmp rfl (h_.d 1 73) rfl rfl (by decide)), ?_⟩
              intro a15 hput
              replace s1 := hput.o 1 s1
              replace s2 := hput.o 2 s2
              have s74 : sl a15 74 = .bool false := hput.new 2 74 rfl
              replace hz := hput.size.trans hz
              replace hd := hput.defers.trans hd
              clear hput
              change Code.wp _ _ _ _ _
              refine wp_cond_false s74 ?_
              refine wp_skip ?_
              change Code.wp _ _ _ _ _
              refine wp_seq ?_
              refine wp_seq ?_
              refine seq_l [] hz ?_
              refine ⟨pt g3 0, fun _ h_ => rk (fa 0 rfl (h_.b 1 s1)),
               i6 2, fun _ h_ => rk (ld hS10 0 rfl (h_.d 0 78)),
               .bool true, fun _ h_ => rk (run_cmp rfl (h_.d 1 79) rfl rfl (by decide)), ?_⟩
              intro a16 hput
              replace s1 := hput.o 1 s1
              replace s2 := hput.o 2 s2
              have s80 : sl a16 80 = .bool true := hput.new 2 80 rfl
              replace hz := hput.size.trans hz
              replace hd := hput.defers.trans hd
              clear hput s74
              change Code.wp _ _ _ _ _
              refine wp_cond_true s80 ?_
              refine wp_seq ?_
              refine seq_l [2, 3] hz ?_
              refine ⟨pt g3 8, fun _ h_ => rk (fa 8 rfl (h_.b 1 s1)),
               .agg #[.bool p.init, .bool p.more, .bool p.master, i6 p.seq, .slice q.hA p.heads.length q.hc], fun _ h_ => rk (lbS 5 (hS10.blk (i := 0) rfl) rfl (h_.d 0 81)), ?_⟩
              refine ⟨fun a_ h_ => st_alloc (cells := #[.bool false, .bool false, .bool false, i6 0, .slice none 0 0]) hS10 (on_none rfl) rfl (by kernel_rfl) fun g18 w18 hS18 hb18 => ⟨_, rfl, ?_⟩, trivial⟩
              clear h_ a_ hS10
              clear hb18
              refine ⟨fun a_ h_ => st_store (n := 5) (cells := #[.bool p.init, .bool p.more, .bool p.master, i6 p.seq, .slice q.hA p.heads.length q.hc]) (cs' := #[.bool p.init, .bool p.more, .bool p.master, i6 p.seq, .slice q.hA p.heads.length q.hc]) 0 hS18 rfl (on_none rfl) rfl (h_.d 2 3) (h_.d 1 82) rfl (by kernel_rfl) ⟨Nat.le_of_ble_eq_true rfl, rfl, by kernel_rfl⟩ rfl fun w19 hS19 he19 => ⟨_, rfl, ?_⟩, trivial⟩
              clear h_ a_ he19 hS18
              replace hS19 : S (kap W) ((blkA g18 27 #[.bool p.init, .bool p.more, .bool p.master, i6 p.seq, .slice q.hA p.heads.length q.hc]) :: (blkA g3 31 #[i6 2, i6 p.src, i6 p.every, i6 p.dead, i6 p.prio, i6 p.dr, i6 p.bdr, .slice q.sA p.seen.length q.sc, .bool p.init, .bool p.more, .bool p.master, i6 p.seq, .slice q.hA p.heads.length q.hc, .slice q.kA p.keys.length q.kc, .slice q.lA p.lsas.length q.lc, .slice q.aA p.acks.length q.ac]) :: []) ((memA W W.heap.size) :: []) w19 := hS19
              intro a17 hput
              replace s1 := hput.o 1 s1
              replace s2 := hput.o 2 s2
              have s3 : sl a17 3 = pt g18 0 := hput.new 2 3 rfl
              replace hz := hput.size.trans hz
              replace hd := hput.defers.trans hd
              clear hput s80
              change Code.wp _ _ _ _ _
              refine wp_seq ?_
              refine seq_l [2, 6] hz ?_
              refine ⟨pt g18 3, fun _ h_ => rk (fa 3 rfl (h_.b 3 s3)),
               i6 p.seq, fun _ h_ => rk (ld hS19 0 rfl (h_.d 0 83)), ?_⟩
              refine ⟨fun a_ h_ => st_call (on_none rfl) (run_call rfl (map3 (h_.d 1 84) rfl rfl) rfl) (in05_any _ _ _ _) ?_, trivial⟩
              rintro e w21 ⟨b21, rfl, hb21⟩
              refine ⟨_, rfl, _, rfl, ?_⟩
              clear h_ a_
              have hS21 := hS19.below hb21
              clear hS19 hb21
              refine ⟨.bool b21, fun _ h_ => rmv (h_.d 2 85), ?_⟩
              rcases bt b21 with hg3 | hg3
              · rw [hg3]
                refine ⟨pt g18 4, fun _ h_ => r_ok (h_.on 3 86) (fa 4 rfl (h_.b 3 s3)),
                 .slice q.hA p.heads.length q.hc, fun _ h_ => r_ok (h_.on 3 86) (ld hS21 0 rfl (h_.d 4 87)), ?_⟩
                refine ⟨fun a_ h_ => st_call (h_.on 3 86) (run_call rfl (map1 (h_.d 5 88)) rfl) (heads05_any _ _ p.heads _ (by omega) (hok.below (hS21.old (by simp))).heads) ?_, trivial⟩
                rintro e w22 ⟨b22, rfl, hb22⟩
                refine ⟨_, rfl, _, rfl, ?_⟩
                clear h_ a_
                have hS22 := hS21.below hb22
                clear hS21 hb22
                refine ⟨.bool b22, fun _ h_ => rk (run_pick_t rfl (h_.d 3 86) (h_.d 6 89)),
                 .bool b22, fun _ h_ => rmv (h_.d 7 90), ?_⟩
                rcases bt b22 with hg8 | hg8
                · rw [hg8]
                  refine ⟨pt g18 0, fun _ h_ => r_ok (h_.on 8 91) (fa 0 rfl (h_.b 3 s3)),
                   .bool p.init, fun _ h_ => r_ok (h_.on 8 91) (ld hS22 0 rfl (h_.d 9 92)),
                   .bool (!p.init), fun _ h_ => r_ok (h_.on 8 91) (run_not rfl (h_.d 10 93) rfl),
                   .bool (!p.init), fun _ h_ => r_ok (h_.on 8 91) (run_move rfl (h_.d 11 94)), ?_⟩
                  rcases bt (!p.init) with hg12 | hg12
                  · rw [hg12]
                    refine seq_off (j := 12) (d := 95) (b := false) [13, 14, 15] _ (by kernel_rfl) (.inl rfl) ?_
                    refine seq_off (j := 15) (d := 98) (b := true) [16, 17] _ (by kernel_rfl) (.inr rfl) ?_
                    refine seq_off (j := 12) (d := 95) (b := false) [18, 19] _ (by kernel_rfl) (.inl rfl) ?_
                    refine seq_off (j := 19) (d := 102) (b := true) [20, 21, 22, 23] _ (by kernel_rfl) (.inr rfl) ?_
                    refine seq_off (j := 12) (d := 95) (b := false) [24] _ (by kernel_rfl) (.inl rfl) ?_
                    refine ⟨.bool true, fun _ h_ => r_ok (h_.on 8 91) (run_pick_t rfl (h_.d 12 95) rfl),
                     .bool true, fun _ h_ => rk (run_pick_t rfl (h_.d 8 91) (h_.d 25 108)),
                     .bool true, fun _ h_ => ras (h_.d 26 109), ?_⟩
                    intro a20 hput
                    replace s1 := hput.o 1 s1
                    replace s2 : sl a20 2 = .bool true := hput.new 27 2 rfl
                    replace hz := hput.size.trans hz
                    replace hd := hput.defers.trans hd
                    clear hput s3
                    change Code.wp _ _ _ _ _
                    refine wp_ret ?_
                    refine ret1 (P := Try.prog) (fn := Try.f6) hd s2 (hR_ _ _ ?_)
                    exact ⟨_, rfl, (hS22.old (by simp))⟩
                  · rw [hg12]
                    refine ⟨pt g18 1, fun _ h_ => r_ok (h_.on 12 95) (fa 1 rfl (h_.b 3 s3)),
                     .bool p.more, fun _ h_ => r_ok (h_.on 12 95) (ld hS22 0 rfl (h_.d 13 96)),
                     .bool p.more, fun _ h_ => r_ok (h_.on 12 95) (run_move rfl (h_.d 14 97)), ?_⟩
                    rcases bt p.more with hg15 | hg15
                    · rw [hg15]
                      refine ⟨pt g18 2, fun _ h_ => r_ok (h_.on 15 98) (fa 2 rfl (h_.b 3 s3)),
                       .bool p.master, fun _ h_ => r_ok (h_.on 15 98) (ld hS22 0 rfl (h_.d 16 99)),
                       .bool p.master, fun _ h_ => r_ok (h_.on 12 95) (run_pick_t rfl (h_.d 15 98) (h_.d 17 100)),
                       .bool p.master, fun _ h_ => r_ok (h_.on 12 95) (run_move rfl (h_.d 18 101)), ?_⟩
                      rcases bt p.master with hg19 | hg19
                      · rw [hg19]
                        refine ⟨pt g18 4, fun _ h_ => r_ok (h_.on 19 102) (fa 4 rfl (h_.b 3 s3)),
                         .slice q.hA p.heads.length q.hc, fun _ h_ => r_ok (h_.on 19 102) (ld hS22 0 rfl (h_.d 20 103)),
                         i6 p.heads.length, fun _ h_ => r_ok (h_.on 19 102) (run_lenS rfl (h_.d 21 104) (by kernel_rfl)),
                         .bool (decide ((p.heads.length : Int) = 0)), fun _ h_ => r_ok (h_.on 19 102) (run_cmp rfl (h_.d 22 105) rfl rfl (by first | rfl | exact neq_dec _ _ | exact eq_dec _ _ | simp)),
                         .bool (decide ((p.heads.length : Int) = 0)), fun _ h_ => r_ok (h_.on 12 95) (run_pick_t rfl (h_.d 19 102) (h_.d 23 106)),
                         .bool (decide ((p.heads.length : Int) = 0)), fun _ h_ => r_ok (h_.on 8 91) (run_pick_f rfl (h_.d 12 95) (h_.d 24 107)),
                         .bool (decide ((p.heads.length : Int) = 0)), fun _ h_ => rk (run_pick_t rfl (h_.d 8 91) (h_.d 25 108)),
                         .bool (decide ((p.heads.length : Int) = 0)), fun _ h_ => ras (h_.d 26 109), ?_⟩
                        intro a20 hput
                        replace s1 := hput.o 1 s1
                        replace s2 : sl a20 2 = .bool (decide ((p.heads.length : Int) = 0)) := hput.new 27 2 rfl
                        replace hz := hput.size.trans hz
                        replace hd := hput.defers.trans hd
                        clear hput s3
                        change Code.wp _ _ _ _ _
                        refine wp_ret ?_
                        refine ret1 (P := Try.prog) (fn := Try.f6) hd s2 (hR_ _ _ ?_)
                        exact ⟨_, rfl, (hS22.old (by simp))⟩
                      · rw [hg19]
                        refine seq_off (j := 19) (d := 102) (b := true) [20, 21, 22, 23] _ (by kernel_rfl) (.inl rfl) ?_
                        refine ⟨.bool false, fun _ h_ => r_ok (h_.on 12 95) (run_pick_f rfl (h_.d 19 102) rfl),
                         .bool false, fun _ h_ => r_ok (h_.on 8 91) (run_pick_f rfl (h_.d 12 95) (h_.d 24 107)),
                         .bool false, fun _ h_ => rk (run_pick_t rfl (h_.d 8 91) (h_.d 25 108)),
                         .bool false, fun _ h_ => ras (h_.d 26 109), ?_⟩
                        intro a20 hput
                        replace s1 := hput.o 1 s1
                        replace s2 : sl a20 2 = .bool false := hput.new 27 2 rfl
                        replace hz := hput.size.trans hz
                        replace hd := hput.defers.trans hd
                        clear hput s3
                        change Code.wp _ _ _ _ _
                        refine wp_ret ?_
                        refine ret1 (P := Try.prog) (fn := Try.f6) hd s2 (hR_ _ _ ?_)
                        exact ⟨_, rfl, (hS22.old (by simp))⟩
                    · rw [hg15]
                      refine seq_off (j := 15) (d := 98) (b := true) [16, 17] _ (by kernel_rfl) (.inl rfl) ?_
                      refine ⟨.bool false, fun _ h_ => r_ok (h_.on 12 95) (run_pick_f rfl (h_.d 15 98) rfl),
                       .bool false, fun _ h_ => r_ok (h_.on 12 95) (run_move rfl (h_.d 18 101)), ?_⟩
                      refine seq_off (j := 19) (d := 102) (b := true) [20, 21, 22, 23] _ (by kernel_rfl) (.inl rfl) ?_
                      refine ⟨.bool false, fun _ h_ => r_ok (h_.on 12 95) (run_pick_f rfl (h_.d 19 102) rfl),
                       .bool false, fun _ h_ => r_ok (h_.on 8 91) (run_pick_f rfl (h_.d 12 95) (h_.d 24 107)),
                       .bool false, fun _ h_ => rk (run_pick_t rfl (h_.d 8 91) (h_.d 25 108)),
                       .bool false, fun _ h_ => ras (h_.d 26 109), ?_⟩
                      intro a20 hput
                      replace s1 := hput.o 1 s1
                      replace s2 : sl a20 2 = .bool false := hput.new 27 2 rfl
                      replace hz := hput.size.trans hz
                      replace hd := hput.defers.trans hd
                      clear hput s3
                      change Code.wp _ _ _ _ _
                      refine wp_ret ?_
                      refine ret1 (P := Try.prog) (fn := Try.f6) hd s2 (hR_ _ _ ?_)
                      exact ⟨_, rfl, (hS22.old (by simp))⟩
                · rw [hg8]
                  refine seq_off (j := 8) (d := 91) (b := true) [9, 10, 11, 12] _ (by kernel_rfl) (.inl rfl) ?_
                  refine seq_off (j := 12) (d := 95) (b := false) [13, 14, 15] _ (by kernel_rfl) (.inr rfl) ?_
                  refine seq_off (j := 15) (d := 98) (b := true) [16, 17] _ (by kernel_rfl) (.inr rfl) ?_
                  refine seq_off (j := 12) (d := 95) (b := false) [18, 19] _ (by kernel_rfl) (.inr rfl) ?_
                  refine seq_off (j := 19) (d := 102) (b := true) [20, 21, 22, 23] _ (by kernel_rfl) (.inr rfl) ?_
                  refine seq_off (j := 12) (d := 95) (b := false) [24] _ (by kernel_rfl) (.inr rfl) ?_
                  refine seq_off (j := 8) (d := 91) (b := true) [25] _ (by kernel_rfl) (.inl rfl) ?_
                  refine ⟨.bool false, fun _ h_ => rk (run_pick_f rfl (h_.d 8 91) rfl),
                   .bool false, fun _ h_ => ras (h_.d 26 109), ?_⟩
                  intro a20 hput
                  replace s1 := hput.o 1 s1
                  replace s2 : sl a20 2 = .bool false := hput.new 27 2 rfl
                  replace hz := hput.size.trans hz
                  replace hd := hput.defers.trans hd
                  clear hput s3
                  change Code.wp _ _ _ _ _
                  refine wp_ret ?_
                  refine ret1 (P := Try.prog) (fn := Try.f6) hd s2 (hR_ _ _ ?_)
                  exact ⟨_, rfl, (hS22.old (by simp))⟩
              · rw [hg3]
                refine seq_off (j := 3) (d := 86) (b := true) [4, 5] _ (by kernel_rfl) (.inl rfl) ?_
                refine seq_offe (j := 3) (d := 86) (b := true) (by kernel_rfl) (.inl rfl) ?_
                refine ⟨.bool false, fun _ h_ => rk (run_pick_f rfl (h_.d 3 86) rfl),
                 .bool false, fun _ h_ => rmv (h_.d 7 90), ?_⟩
                refine seq_off (j := 8) (d := 91) (b := true) [9, 10, 11, 12] _ (by kernel_rfl) (.inl rfl) ?_
                refine seq_off (j := 12) (d := 95) (b := false) [13, 14, 15] _ (by kernel_rfl) (.inr rfl) ?_
                refine seq_off (j := 15) (d := 98) (b := true) [16, 17] _ (by kernel_rfl) (.inr rfl) ?_
                refine seq_off (j := 12) (d := 95) (b := false) [18, 19] _ (by kernel_rfl) (.inr rfl) ?_
                refine seq_off (j := 19) (d := 102) (b := true) [20, 21, 22, 23] _ (by kernel_rfl) (.inr rfl) ?_
                refine seq_off (j := 12) (d := 95) (b := false) [24] _ (by kernel_rfl) (.inr rfl) ?_
                refine seq_off (j := 8) (d := 91) (b := true) [25] _ (by kernel_rfl) (.inl rfl) ?_
                refine ⟨.bool false, fun _ h_ => rk (run_pick_f rfl (h_.d 8 91) rfl),
                 .bool false, fun _ h_ => ras (h_.d 26 109), ?_⟩
                intro a20 hput
                replace s1 := hput.o 1 s1
                replace s2 : sl a20 2 = .bool false := hput.new 27 2 rfl
                replace hz := hput.size.trans hz
                replace hd := hput.defers.trans hd
                clear hput s3
                change Code.wp _ _ _ _ _
                refine wp_ret ?_
                refine ret1 (P := Try.prog) (fn := Try.f6) hd s2 (hR_ _ _ ?_)
                exact ⟨_, rfl, (hS21.old (by simp))⟩
set_option maxRecDepth 100000 in
set_option maxHeartbeats 800000 in
theorem right05_3 (p : PkV) (q : PkP) (W : World) (hsm : PkSm p) (hok : PkOK W p q) :
    Calls Try.prog 6 #[.agg #[i6 3, i6 p.src, i6 p.every, i6 p.dead, i6 p.prio, i6 p.dr, i6 p.bdr, .slice q.sA p.seen.length q.sc, .bool p.init, .bool p.more, .bool p.master, i6 p.seq, .slice q.hA p.heads.length q.hc, .slice q.kA p.keys.length q.kc, .slice q.lA p.lsas.length q.lc, .slice q.aA p.acks.length q.ac]] W (fun r w' => ∃ b : Bool, r = .returned (.bool b) ∧ Below W.heap.size W w') := by
  obtain ⟨hsn, hhd, hky, hls, hak, _⟩ := id hsm
  have hS := S.start W
  refine calls_walk Try.func6 rfl fun R_ hR_ a hz hd hargs => ?_
  replace hz : a.tmps.size = 200 := hz.trans (by kernel_rfl)
  have s0 := hargs 0 _ rfl
  clear hargs
  refine wp_seq ?_
  refine seq_l [0] hz ?_
  refine ⟨fun a_ h_ => st_box (cells := #[i6 3, i6 p.src, i6 p.every, i6 p.dead, i6 p.prio, i6 p.dr, i6 p.bdr, .slice q.sA p.seen.length q.sc, .bool p.init, .bool p.more, .bool p.master, i6 p.seq, .slice q.hA p.heads.length q.hc, .slice q.kA p.keys.length q.kc, .slice q.lA p.lsas.length q.lc, .slice q.aA p.acks.length q.ac]) hS (on_none rfl) rfl (h_.b 0 s0) (by kernel_rfl) fun g3 w3 hS3 hb3 => ⟨_, rfl, ?_⟩, trivial⟩
  clear h_ a_ hS
  clear hb3
  refine ⟨.bool false, fun _ h_ => rk (run_assign rfl rfl), ?_⟩
  intro a2 hput
  have s1 : sl a2 1 = pt g3 0 := hput.new 0 1 rfl
  have s2 : sl a2 2 = .bool false := hput.new 1 2 rfl
  replace hz := hput.size.trans hz
  replace hd := hput.defers.trans hd
  clear hput s0
  change Code.wp _ _ _ _ _
  refine wp_seq ?_
  refine wp_seq ?_
  refine seq_l [2, 7] hz ?_
  refine ⟨pt g3 0, fun _ h_ => rk (fa 0 rfl (h_.b 1 s1)),
   i6 3, fun _ h_ => rk (ld hS3 0 rfl (h_.d 0 9)), ?_⟩
  refine ⟨fun a_ h_ => st_call (on_none rfl) (run_call rfl (map3 (h_.d 1 10) rfl rfl) rfl) (in05_any _ _ _ _) ?_, trivial⟩
  rintro e w5 ⟨b5, rfl, hb5⟩
  refine ⟨_, rfl, _, rfl, ?_⟩
  clear h_ a_
  have hS5 := hS3.below hb5
  clear hS3 hb5
  refine ⟨.bool (!b5), fun _ h_ => rk (run_not rfl (h_.d 2 11) rfl),
   .bool (!b5), fun _ h_ => rmv (h_.d 3 12), ?_⟩
  rcases bt (!b5) with hg4 | hg4
  · rw [hg4]
    refine seq_off (j := 4) (d := 13) (b := false) [5, 6] _ (by kernel_rfl) (.inl rfl) ?_
    refine seq_offe (j := 4) (d := 13) (b := false) (by kernel_rfl) (.inl rfl) ?_
    refine seq_off (j := 4) (d := 13) (b := false) [8] _ (by kernel_rfl) (.inl rfl) ?_
    refine ⟨.bool true, fun _ h_ => rk (run_pick_t rfl (h_.d 4 13) rfl), ?_⟩
    intro a4 hput
    replace s1 := hput.o 1 s1
    replace s2 := hput.o 2 s2
    have s18 : sl a4 18 = .bool true := hput.new 9 18 rfl
    replace hz := hput.size.trans hz
    replace hd := hput.defers.trans hd
    clear hput
    change Code.wp _ _ _ _ _
    refine wp_cond_true s18 ?_
    refine wp_seq ?_
    refine seq_l [] hz ?_
    refine ⟨.bool false, fun _ h_ => rk (run_assign rfl rfl), ?_⟩
    intro a6 hput
    replace s1 := hput.o 1 s1
    replace s2 : sl a6 2 = .bool false := hput.new 0 2 rfl
    replace hz := hput.size.trans hz
    replace hd := hput.defers.trans hd
    clear hput s18
    change Code.wp _ _ _ _ _
    refine wp_ret ?_
    refine ret1 (P := Try.prog) (fn := Try.f6) hd s2 (hR_ _ _ ?_)
    exact ⟨_, rfl, (hS5.old (by simp))⟩
  · rw [hg4]
    refine ⟨pt g3 1, fun _ h_ => r_ok (h_.on 4 13) (fa 1 rfl (h_.b 1 s1)),
     i6 p.src, fun _ h_ => r_ok (h_.on 4 13) (ld hS5 0 rfl (h_.d 5 14)), ?_⟩
    refine ⟨fun a_ h_ => st_call (h_.on 4 13) (run_call rfl (map3 (h_.d 6 15) rfl rfl) rfl) (in05_any _ _ _ _) ?_, trivial⟩
    rintro e w7 ⟨b7, rfl, hb7⟩
    refine ⟨_, rfl, _, rfl, ?_⟩
    clear h_ a_
    have hS7 := hS5.below hb7
    clear hS5 hb7
    refine ⟨.bool (!b7), fun _ h_ => r_ok (h_.on 4 13) (run_not rfl (h_.d 7 16) rfl),
     .bool (!b7), fun _ h_ => rk (run_pick_f rfl (h_.d 4 13) (h_.d 8 17)), ?_⟩
    intro a4 hput
    replace s1 := hput.o 1 s1
    replace s2 := hput.o 2 s2
    have s18 : sl a4 18 = .bool (!b7) := hput.new 9 18 rfl
    replace hz := hput.size.trans hz
    replace hd := hput.defers.trans hd
    clear hput
    change Code.wp _ _ _ _ _
    refine wp_cond_b s18 (fun hc18 => ?_) (fun hc18 => ?_)
    · clear s18
      replace hc18 := nbt hc18
      refine wp_seq ?_
      refine seq_l [] hz ?_
      refine ⟨.bool false, fun _ h_ => rk (run_assign rfl rfl), ?_⟩
      intro a8 hput
      replace s1 := hput.o 1 s1
      replace s2 : sl a8 2 = .bool false := hput.new 0 2 rfl
      replace hz := hput.size.trans hz
      replace hd := hput.defers.trans hd
      clear hput
      change Code.wp _ _ _ _ _
      refine wp_ret ?_
      refine ret1 (P := Try.prog) (fn := Try.f6) hd s2 (hR_ _ _ ?_)
      exact ⟨_, rfl, (hS7.old (by simp))⟩
    · clear s18
      replace hc18 := nbf hc18
      refine wp_skip ?_
      change Code.wp _ _ _ _ _
      refine wp_seq ?_
      refine wp_seq ?_
      refine seq_l [6, 16] hz ?_
      refine ⟨pt g3 0, fun _ h_ => rk (fa 0 rfl (h_.b 1 s1)),
       i6 3, fun _ h_ => rk (ld hS7 0 rfl (h_.d 0 19)),
       .bool true, fun _ h_ => rk (run_cmp rfl (h_.d 1 20) rfl rfl (by decide)),
       .bool true, fun _ h_ => rmv (h_.d 2 21),
       pt g3 2, fun _ h_ => r_ok (h_.on 3 22) (fa 2 rfl (h_.b 1 s1)),
       .agg #[i6 p.every, i6 p.dead, i6 p.prio, i6 p.dr, i6 p.bdr, .slice q.sA p.seen.length q.sc], fun _ h_ => r_ok (h_.on 3 22) (lbS 6 (hS7.blk (i := 0) rfl) rfl (h_.d 4 23)), ?_⟩
      refine ⟨fun a_ h_ => st_call (h_.on 3 22) (run_call rfl (map1 (h_.d 5 24)) rfl) (noHello05_any p q _ hsm (hok.below (hS7.old (by simp)))) ?_, trivial⟩
      rintro e w10 ⟨b10, rfl, hb10⟩
      refine ⟨_, rfl, _, rfl, ?_⟩
      clear h_ a_
      have hS10 := hS7.below hb10
      clear hS7 hb10
      refine ⟨.bool (!b10), fun _ h_ => r_ok (h_.on 3 22) (run_not rfl (h_.d 6 25) rfl),
       .bool (!b10), fun _ h_ => rk (run_pick_t rfl (h_.d 3 22) (h_.d 7 26)),
       .bool (!b10), fun _ h_ => rmv (h_.d 8 27), ?_⟩
      rcases bt (!b10) with hg9 | hg9
      · rw [hg9]
        refine seq_off (j := 9) (d := 28) (b := false) [10, 11, 12, 13] _ (by kernel_rfl) (.inl rfl) ?_
        refine seq_off (j := 13) (d := 32) (b := true) [14, 15] _ (by kernel_rfl) (.inr rfl) ?_
        refine seq_offe (j := 13) (d := 32) (b := true) (by kernel_rfl) (.inr rfl) ?_
        refine seq_off (j := 13) (d := 32) (b := true) [17] _ (by kernel_rfl) (.inr rfl) ?_
        refine seq_off (j := 9) (d := 28) (b := false) [18] _ (by kernel_rfl) (.inl rfl) ?_
        refine ⟨.bool true, fun _ h_ => rk (run_pick_t rfl (h_.d 9 28) rfl),
         .bool true, fun _ h_ => rmv (h_.d 19 38), ?_⟩
        refine seq_off (j := 20) (d := 39) (b := false) [21, 22, 23, 24] _ (by kernel_rfl) (.inl rfl) ?_
        refine seq_off (j := 24) (d := 43) (b := true) [25, 26, 27, 28] _ (by kernel_rfl) (.inr rfl) ?_
        refine seq_off (j := 20) (d := 39) (b := false) [29] _ (by kernel_rfl) (.inl rfl) ?_
        refine ⟨.bool true, fun _ h_ => rk (run_pick_t rfl (h_.d 20 39) rfl),
         .bool true, fun _ h_ => rmv (h_.d 30 49), ?_⟩
        refine seq_off (j := 31) (d := 50) (b := false) [32, 33, 34, 35] _ (by kernel_rfl) (.inl rfl) ?_
        refine seq_off (j := 35) (d := 54) (b := true) [36, 37, 38, 39] _ (by kernel_rfl) (.inr rfl) ?_
        refine seq_off (j := 31) (d := 50) (b := false) [40] _ (by kernel_rfl) (.inl rfl) ?_
        refine ⟨.bool true, fun _ h_ => rk (run_pick_t rfl (h_.d 31 50) rfl),
         .bool true, fun _ h_ => rmv (h_.d 41 60), ?_⟩
        refine seq_off (j := 42) (d := 61) (b := false) [43, 44, 45, 46] _ (by kernel_rfl) (.inl rfl) ?_
        refine seq_off (j := 46) (d := 65) (b := true) [47, 48, 49, 50] _ (by kernel_rfl) (.inr rfl) ?_
        refine seq_off (j := 42) (d := 61) (b := false) [51] _ (by kernel_rfl) (.inl rfl) ?_
        refine ⟨.bool true, fun _ h_ => rk (run_pick_t rfl (h_.d 42 61) rfl), ?_⟩
        intro a9 hput
        replace s1 := hput.o 1 s1
        replace s2 := hput.o 2 s2
        have s71 : sl a9 71 = .bool true := hput.new 52 71 rfl
        replace hz := hput.size.trans hz
        replace hd := hput.defers.trans hd
        clear hput
        change Code.wp _ _ _ _ _
        refine wp_cond_true s71 ?_
        refine wp_seq ?_
        refine seq_l [] hz ?_
        refine ⟨.bool false, fun _ h_ => rk (run_assign rfl rfl), ?_⟩
        intro a11 hput
        replace s1 := hput.o 1 s1
        replace s2 : sl a11 2 = .bool false := hput.new 0 2 rfl
        replace hz := hput.size.trans hz
        replace hd := hput.defers.trans hd
        clear hput s71
        change Code.wp _ _ _ _ _
        refine wp_ret ?_
        refine ret1 (P := Try.prog) (fn := Try.f6) hd s2 (hR_ _ _ ?_)
        exact ⟨_, rfl, (hS10.old (by simp))⟩
      · rw [hg9]
        refine ⟨pt g3 0, fun _ h_ => r_ok (h_.on 9 28) (fa 0 rfl (h_.b 1 s1)),
         i6 3, fun _ h_ => r_ok (h_.on 9 28) (ld hS10 0 rfl (h_.d 10 29)),
         .bool true, fun _ h_ => r_ok (h_.on 9 28) (run_cmp rfl (h_.d 11 30) rfl rfl (by decide)),
         .bool true, fun _ h_ => r_ok (h_.on 9 28) (run_move rfl (h_.d 12 31)),
         pt g3 8, fun _ h_ => r_ok (h_.on 13 32) (fa 8 rfl (h_.b 1 s1)),
         .agg #[.bool p.init, .bool p.more, .bool p.master, i6 p.seq, .slice q.hA p.heads.length q.hc], fun _ h_ => r_ok (h_.on 13 32) (lbS 5 (hS10.blk (i := 0) rfl) rfl (h_.d 14 33)), ?_⟩
        refine ⟨fun a_ h_ => st_call (h_.on 13 32) (run_call rfl (map1 (h_.d 15 34)) rfl) (noDd05_any p q _ hsm (hok.below (hS10.old (by simp)))) ?_, trivial⟩
        rintro e w12 ⟨b12, rfl, hb12⟩
        refine ⟨_, rfl, _, rfl, ?_⟩
        clear h_ a_
        have hS12 := hS10.below hb12
        clear hS10 hb12
        refine ⟨.bool (!b12), fun _ h_ => r_ok (h_.on 13 32) (run_not rfl (h_.d 16 35) rfl),
         .bool (!b12), fun _ h_ => r_ok (h_.on 9 28) (run_pick_t rfl (h_.d 13 32) (h_.d 17 36)),
         .bool (!b12), fun _ h_ => rk (run_pick_f rfl (h_.d 9 28) (h_.d 18 37)),
         .bool (!b12), fun _ h_ => rmv (h_.d 19 38), ?_⟩
        rcases bt (!b12) with hg20 | hg20
        · rw [hg20]
          refine seq_off (j := 20) (d := 39) (b := false) [21, 22, 23, 24] _ (by kernel_rfl) (.inl rfl) ?_
          refine seq_off (j := 24) (d := 43) (b := true) [25, 26, 27, 28] _ (by kernel_rfl) (.inr rfl) ?_
          refine seq_off (j := 20) (d := 39) (b := false) [29] _ (by kernel_rfl) (.inl rfl) ?_
          refine ⟨.bool true, fun _ h_ => rk (run_pick_t rfl (h_.d 20 39) rfl),
           .bool true, fun _ h_ => rmv (h_.d 30 49), ?_⟩
          refine seq_off (j := 31) (d := 50) (b := false) [32, 33, 34, 35] _ (by kernel_rfl) (.inl rfl) ?_
          refine seq_off (j := 35) (d := 54) (b := true) [36, 37, 38, 39] _ (by kernel_rfl) (.inr rfl) ?_
          refine seq_off (j := 31) (d := 50) (b := false) [40] _ (by kernel_rfl) (.inl rfl) ?_
          refine ⟨.bool true, fun _ h_ => rk (run_pick_t rfl (h_.d 31 50) rfl),
           .bool true, fun _ h_ => rmv (h_.d 41 60), ?_⟩
          refine seq_off (j := 42) (d := 61) (b := false) [43, 44, 45, 46] _ (by kernel_rfl) (.inl rfl) ?_
          refine seq_off (j := 46) (d := 65) (b := true) [47, 48, 49, 50] _ (by kernel_rfl) (.inr rfl) ?_
          refine seq_off (j := 42) (d := 61) (b := false) [51] _ (by kernel_rfl) (.inl rfl) ?_
          refine ⟨.bool true, fun _ h_ => rk (run_pick_t rfl (h_.d 42 61) rfl), ?_⟩
          intro a9 hput
          replace s1 := hput.o 1 s1
          replace s2 := hput.o 2 s2
          have s71 : sl a9 71 = .bool true := hput.new 52 71 rfl
          replace hz := hput.size.trans hz
          replace hd := hput.defers.trans hd
          clear hput
          change Code.wp _ _ _ _ _
          refine wp_cond_true s71 ?_
          refine wp_seq ?_
          refine seq_l [] hz ?_
          refine ⟨.bool false, fun _ h_ => rk (run_assign rfl rfl), ?_⟩
          intro a13 hput
          replace s1 := hput.o 1 s1
          replace s2 : sl a13 2 = .bool false := hput.new 0 2 rfl
          replace hz := hput.size.trans hz
          replace hd := hput.defers.trans hd
          clear hput s71
          change Code.wp _ _ _ _ _
          refine wp_ret ?_
          refine ret1 (P := Try.prog) (fn := Try.f6) hd s2 (hR_ _ _ ?_)
          exact ⟨_, rfl, (hS12.old (by simp))⟩
        · rw [hg20]
          refine ⟨pt g3 0, fun _ h_ => r_ok (h_.on 20 39) (fa 0 rfl (h_.b 1 s1)),
           i6 3, fun _ h_ => r_ok (h_.on 20 39) (ld hS12 0 rfl (h_.d 21 40)),
           .bool false, fun _ h_ => r_ok (h_.on 20 39) (run_cmp rfl (h_.d 22 41) rfl rfl (by decide)),
           .bool false, fun _ h_ => r_ok (h_.on 20 39) (run_move rfl (h_.d 23 42)), ?_⟩
          refine seq_off (j := 24) (d := 43) (b := true) [25, 26, 27, 28] _ (by kernel_rfl) (.inl rfl) ?_
          refine ⟨.bool false, fun _ h_ => r_ok (h_.on 20 39) (run_pick_f rfl (h_.d 24 43) rfl),
           .bool false, fun _ h_ => rk (run_pick_f rfl (h_.d 20 39) (h_.d 29 48)),
           .bool false, fun _ h_ => rmv (h_.d 30 49),
           pt g3 0, fun _ h_ => r_ok (h_.on 31 50) (fa 0 rfl (h_.b 1 s1)),
           i6 3, fun _ h_ => r_ok (h_.on 31 50) (ld hS12 0 rfl (h_.d 32 51)),
           .bool true, fun _ h_ => r_ok (h_.on 31 50) (run_cmp rfl (h_.d 33 52) rfl rfl (by decide)),
           .bool true, fun _ h_ => r_ok (h_.on 31 50) (run_move rfl (h_.d 34 53)),
           pt g3 14, fun _ h_ => r_ok (h_.on 35 54) (fa 14 rfl (h_.b 1 s1)),
           .slice q.lA p.lsas.length q.lc, fun _ h_ => r_ok (h_.on 35 54) (ld hS12 0 rfl (h_.d 36 55)),
           i6 p.lsas.length, fun _ h_ => r_ok (h_.on 35 54) (run_lenS rfl (h_.d 37 56) (by kernel_rfl)),
           .bool (decide ((0 : Int) < p.lsas.length)), fun _ h_ => r_ok (h_.on 35 54) (run_cmp rfl (h_.d 38 57) rfl rfl (by first | rfl | exact neq_dec _ _ | exact eq_dec _ _ | simp)),
           .bool (decide ((0 : Int) < p.lsas.length)), fun _ h_ => r_ok (h_.on 31 50) (run_pick_t rfl (h_.d 35 54) (h_.d 39 58)),
           .bool (decide ((0 : Int) < p.lsas.length)), fun _ h_ => rk (run_pick_f rfl (h_.d 31 50) (h_.d 40 59)),
           .bool (decide ((0 : Int) < p.lsas.length)), fun _ h_ => rmv (h_.d 41 60), ?_⟩
          rcases dt ((0 : Int) < p.lsas.length) with ⟨he, hg42⟩ | ⟨he, hg42⟩
          · rw [he]
            clear he
            refine seq_off (j := 42) (d := 61) (b := false) [43, 44, 45, 46] _ (by kernel_rfl) (.inl rfl) ?_
            refine seq_off (j := 46) (d := 65) (b := true) [47, 48, 49, 50] _ (by kernel_rfl) (.inr rfl) ?_
            refine seq_off (j := 42) (d := 61) (b := false) [51] _ (by kernel_rfl) (.inl rfl) ?_
            refine ⟨.bool true, fun _ h_ => rk (run_pick_t rfl (h_.d 42 61) rfl), ?_⟩
            intro a9 hput
            replace s1 := hput.o 1 s1
            replace s2 := hput.o 2 s2
            have s71 : sl a9 71 = .bool true := hput.new 52 71 rfl
            replace hz := hput.size.trans hz
            replace hd := hput.defers.trans hd
            clear hput
            change Code.wp _ _ _ _ _
            refine wp_cond_true s71 ?_
            refine wp_seq ?_
            refine seq_l [] hz ?_
            refine ⟨.bool false, fun _ h_ => rk (run_assign rfl rfl), ?_⟩
            intro a14 hput
            replace s1 := hput.o 1 s1
            replace s2 : sl a14 2 = .bool false := hput.new 0 2 rfl
            replace hz := hput.size.trans hz
            replace hd := hput.defers.trans hd
            clear hput s71
            change Code.wp _ _ _ _ _
            refine wp_ret ?_
            refine ret1 (P := Try.prog) (fn := Try.f6) hd s2 (hR_ _ _ ?_)
            exact ⟨_, rfl, (hS12.old (by simp))⟩
          · rw [he]
            clear he
            refine ⟨pt g3 0, fun _ h_ => r_ok (h_.on 42 61) (fa 0 rfl (h_.b 1 s1)),
             i6 3, fun _ h_ => r_ok (h_.on 42 61) (ld hS12 0 rfl (h_.d 43 62)),
             .bool true, fun _ h_ => r_ok (h_.on 42 61) (run_cmp rfl (h_.d 44 63) rfl rfl (by decide)),
             .bool true, fun _ h_ => r_ok (h_.on 42 61) (run_move rfl (h_.d 45 64)),
             pt g3 15, fun _ h_ => r_ok (h_.on 46 65) (fa 15 rfl (h_.b 1 s1)),
             .slice q.aA p.acks.length q.ac, fun _ h_ => r_ok (h_.on 46 65) (ld hS12 0 rfl (h_.d 47 66)),
             i6 p.acks.length, fun _ h_ => r_ok (h_.on 46 65) (run_lenS rfl (h_.d 48 67) (by kernel_rfl)),
             .bool (decide ((0 : Int) < p.acks.length)), fun _ h_ => r_ok (h_.on 46 65) (run_cmp rfl (h_.d 49 68) rfl rfl (by first | rfl | exact neq_dec _ _ | exact eq_dec _ _ | simp)),
             .bool (decide ((0 : Int) < p.acks.length)), fun _ h_ => r_ok (h_.on 42 61) (run_pick_t rfl (h_.d 46 65) (h_.d 50 69)),
             .bool (decide ((0 : Int) < p.acks.length)), fun _ h_ => rk (run_pick_f rfl (h_.d 42 61) (h_.d 51 70)), ?_⟩
            intro a9 hput
            replace s1 := hput.o 1 s1
            replace s2 := hput.o 2 s2
            have s71 : sl a9 71 = .bool (decide ((0 : Int) < p.acks.length)) := hput.new 52 71 rfl
            replace hz := hput.size.trans hz
            replace hd := hput.defers.trans hd
            clear hput
            change Code.wp _ _ _ _ _
            refine wp_cond_d s71 (fun hc71 => ?_) (fun hc71 => ?_)
            · clear s71
              refine wp_seq ?_
              refine seq_l [] hz ?_
              refine ⟨.bool false, fun _ h_ => rk (run_assign rfl rfl), ?_⟩
              intro a15 hput
              replace s1 := hput.o 1 s1
              replace s2 : sl a15 2 = .bool false := hput.new 0 2 rfl
              replace hz := hput.size.trans hz
              replace hd := hput.defers.trans hd
              clear hput
              change Code.wp _ _ _ _ _
              refine wp_ret ?_
              refine ret1 (P := Try.prog) (fn := Try.f6) hd s2 (hR_ _ _ ?_)
              exact ⟨_, rfl, (hS12.old (by simp))⟩
            · clear s71
              refine wp_skip ?_
              change Code.wp _ _ _ _ _
              refine wp_seq ?_
              refine wp_seq ?_
              refine seq_l [] hz ?_
              refine ⟨pt g3 0, fun _ h_ => rk (fa 0 rfl (h_.b 1 s1)),
               i6 3, fun _ h_ => rk (ld hS12 0 rfl (h_.d 0 72)),
               .bool false, fun _ h_ => rk (run_cmp rfl (h_.d 1 73) rfl rfl (by decide)), ?_⟩
              intro a16 hput
              replace s1 := hput.o 1 s1
              replace s2 := hput.o 2 s2
              have s74 : sl a16 74 = .bool false := hput.new 2 74 rfl
              replace hz := hput.size.trans hz
              replace hd := hput.defers.trans hd
              clear hput
              change Code.wp _ _ _ _ _
              refine wp_cond_false s74 ?_
              refine wp_skip ?_
              change Code.wp _ _ _ _ _
              refine wp_seq ?_
              refine wp_seq ?_
              refine seq_l [] hz ?_
              refine ⟨pt g3 0, fun _ h_ => rk (fa 0 rfl (h_.b 1 s1)),
               i6 3, fun _ h_ => rk (ld hS12 0 rfl (h_.d 0 78)),
               .bool false, fun _ h_ => rk (run_cmp rfl (h_.d 1 79) rfl rfl (by decide)), ?_⟩
              intro a17 hput
              replace s1 := hput.o 1 s1
              replace s2 := hput.o 2 s2
              have s80 : sl a17 80 = .bool false := hput.new 2 80 rfl
              replace hz := hput.size.trans hz
              replace hd := hput.defers.trans hd
              clear hput s74
              change Code.wp _ _ _ _ _
              refine wp_cond_false s80 ?_
              refine wp_skip ?_
              change Code.wp _ _ _ _ _
              refine wp_seq ?_
              refine wp_seq ?_
              refine seq_l [] hz ?_
              refine ⟨pt g3 0, fun _ h_ => rk (fa 0 rfl (h_.b 1 s1)),
               i6 3, fun _ h_ => rk (ld hS12 0 rfl (h_.d 0 110)),
               .bool true, fun _ h_ => rk (run_cmp rfl (h_.d 1 111) rfl rfl (by decide)), ?_⟩
              intro a18 hput
              replace s1 := hput.o 1 s1
              replace s2 := hput.o 2 s2
              have s112 : sl a18 112 = .bool true := hput.new 2 112 rfl
              replace hz := hput.size.trans hz
              replace hd := hput.defers.trans hd
              clear hput s80
              change Code.wp _ _ _ _ _
              refine wp_cond_true s112 ?_
              refine wp_seq ?_
              refine wp_seq ?_
              refine seq_l [] hz ?_
              refine ⟨i6 0, fun _ h_ => rk (run_assign rfl rfl), ?_⟩
              intro a19 hput
              replace s1 := hput.o 1 s1
              replace s2 := hput.o 2 s2
              have s4 : sl a19 4 = i6 0 := hput.new 0 4 rfl
              replace hz := hput.size.trans hz
              replace hd := hput.defers.trans hd
              clear hput s112
              change Code.wp _ _ _ _ _
              refine wp_block ?_
              refine wp_loop (fun a_ w_ => ∃ k : Nat, (k ≤ p.keys.length) ∧ a_.tmps.size = 200 ∧ a_.defers = [] ∧ sl a_ 1 = pt g3 0 ∧ sl a_ 2 = .bool false ∧ sl a_ 4 = i6 k ∧ S (kap W) ((blkA g3 31 #[i6 3, i6 p.src, i6 p.every, i6 p.dead, i6 p.prio, i6 p.dr, i6 p.bdr, .slice q.sA p.seen.length q.sc, .bool p.init, .bool p.more, .bool p.master, i6 p.seq, .slice q.hA p.heads.length q.hc, .slice q.kA p.keys.length q.kc, .slice q.lA p.lsas.length q.lc, .slice q.aA p.acks.length q.ac]) :: []) ((memA W W.heap.size) :: []) w_) (fun a_ _ => p.keys.length - (intOf (sl a_ 4)).toNat) ?_ ?_
              · exact ⟨0, Nat.zero_le _, hz, hd, s1, s2, s4, hS12⟩
              · clear hz hd s1 s2 s4 hS12
                rintro a20 w20 ⟨k, hc0_0, hz, hd, s1, s2, s4, hS20⟩
                have hmu0 := s4
                refine wp_seq ?_
                refine wp_seq ?_
                refine seq_l [] hz ?_
                refine ⟨i6 k, fun _ h_ => rmv (h_.b 4 s4),
                 pt g3 13, fun _ h_ => rk (fa 13 rfl (h_.b 1 s1)),
                 .slice q.kA p.keys.length q.kc, fun _ h_ => rk (ld hS20 0 rfl (h_.d 1 114)),
                 i6 p.keys.length, fun _ h_ => rk (run_lenS rfl (h_.d 2 115) (by kernel_rfl)),
                 .bool (decide ((k : Int) < p.keys.length)), fun _ h_ => rk (run_cmp rfl (h_.d 0 113) (h_.d 3 116) rfl (by first | rfl | exact neq_dec _ _ | exact eq_dec _ _ | simp)), ?_⟩
                intro a21 hput
                replace s1 := hput.o 1 s1
                replace s2 := hput.o 2 s2
                replace s4 := hput.o 4 s4
                have s113 : sl a21 113 = i6 k := hput.new 0 113 rfl
                have s114 : sl a21 114 = pt g3 13 := hput.new 1 114 rfl
                have s115 : sl a21 115 = .slice q.kA p.keys.length q.kc := hput.new 2 115 rfl
                have s116 : sl a21 116 = i6 p.keys.length := hput.new 3 116 rfl
                have s117 : sl a21 117 = .bool (decide ((k : Int) < p.keys.length)) := hput.new 4 117 rfl
                replace hz := hput.size.trans hz
                replace hd := hput.defers.trans hd
                clear hput
                change Code.wp _ _ _ _ _
                refine wp_cond_d s117 (fun hc117 => ?_) (fun hc117 => ?_)
                · clear s117
                  refine wp_skip ?_
                  change Code.wp _ _ _ _ _
                  refine wp_seq ?_
                  refine wp_block ?_
                  refine wp_seq ?_
                  refine seq_l [5, 6] hz ?_
                  refine ⟨pt g3 13, fun _ h_ => rk (fa 13 rfl (h_.b 1 s1)),
                   .slice q.kA p.keys.length q.kc, fun _ h_ => rk (ld hS20 0 rfl (h_.d 0 120)),
                   i6 k, fun _ h_ => rmv (h_.b 4 s4), ?_⟩
                  obtain ⟨b23, o23, z23, hA23, hb23, hz23, hq23⟩ := Reads.row_at KV.cells 3 KV.cells_len (k := k) ((hok.below (hS20.old (by simp))).keys) (by decide) (by omega)
                  refine ⟨pt b23 (o23 + k * 3), fun _ h_ => rk (run_indexV (size := 3) rfl (h_.d 1 121) hA23 (h_.d 2 122) (by kernel_rfl) (by omega) (by simp)),
                   .agg #[i6 z23.kind, i6 z23.id, i6 z23.adv], fun _ h_ => rk (run_loadV (size := 3) (cs := KV.cells z23) rfl (h_.d 3 123) (by kernel_rfl) rfl hq23), ?_⟩
                  refine ⟨fun a_ h_ => st_alloc (cells := #[i6 0, i6 0, i6 0]) hS20 (on_none rfl) rfl (by kernel_rfl) fun g24 w24 hS24 hb24 => ⟨_, rfl, ?_⟩, trivial⟩
                  clear h_ a_ hS20
                  clear hb24
                  refine ⟨fun a_ h_ => st_store (n := 3) (cells := #[i6 z23.kind, i6 z23.id, i6 z23.adv]) (cs' := #[i6 z23.kind, i6 z23.id, i6 z23.adv]) 0 hS24 rfl (on_none rfl) rfl (h_.d 5 5) (h_.d 4 124) rfl (by kernel_rfl) ⟨Nat.le_of_ble_eq_true rfl, rfl, by kernel_rfl⟩ rfl fun w25 hS25 he25 => ⟨_, rfl, ?_⟩, trivial⟩
                  clear h_ a_ he25 hS24
                  replace hS25 : S (kap W) ((blkA g24 66 #[i6 z23.kind, i6 z23.id, i6 z23.adv]) :: (blkA g3 31 #[i6 3, i6 p.src, i6 p.every, i6 p.dead, i6 p.prio, i6 p.dr, i6 p.bdr, .slice q.sA p.seen.length q.sc, .bool p.init, .bool p.more, .bool p.master, i6 p.seq, .slice q.hA p.heads.length q.hc, .slice q.kA p.keys.length q.kc, .slice q.lA p.lsas.length q.lc, .slice q.aA p.acks.length q.ac]) :: []) ((memA W W.heap.size) :: []) w25 := hS25
                  intro a22 hput
                  replace s1 := hput.o 1 s1
                  replace s2 := hput.o 2 s2
                  replace s4 := hput.o 4 s4
                  have s5 : sl a22 5 = pt g24 0 := hput.new 5 5 rfl
                  replace s113 := hput.o 113 s113
                  replace s114 := hput.o 114 s114
                  replace s115 := hput.o 115 s115
                  replace s116 := hput.o 116 s116
                  have s120 : sl a22 120 = pt g3 13 := hput.new 0 120 rfl
                  have s121 : sl a22 121 = .slice q.kA p.keys.length q.kc := hput.new 1 121 rfl
                  have s122 : sl a22 122 = i6 k := hput.new 2 122 rfl
                  have s123 : sl a22 123 = pt b23 (o23 + k * 3) := hput.new 3 123 rfl
                  have s124 : sl a22 124 = .agg #[i6 z23.kind, i6 z23.id, i6 z23.adv] := hput.new 4 124 rfl
                  replace hz := hput.size.trans hz
                  replace hd := hput.defers.trans hd
                  clear hput
                  change Code.wp _ _ _ _ _
                  refine wp_seq ?_
                  refine seq_l [2, 7, 13] hz ?_
                  refine ⟨pt g24 0, fun _ h_ => rk (fa 0 rfl (h_.b 5 s5)),
                   i6 z23.kind, fun _ h_ => rk (ld hS25 0 rfl (h_.d 0 125)), ?_⟩
                  refine ⟨fun a_ h_ => st_call (on_none rfl) (run_call rfl (map3 (h_.d 1 126) rfl rfl) rfl) (in05_any _ _ _ _) ?_, trivial⟩
                  rintro e w27 ⟨b27, rfl, hb27⟩
                  refine ⟨_, rfl, _, rfl, ?_⟩
                  clear h_ a_
                  have hS27 := hS25.below hb27
                  clear hS25 hb27
                  refine ⟨.bool (!b27), fun _ h_ => rk (run_not rfl (h_.d 2 127) rfl),
                   .bool (!b27), fun _ h_ => rmv (h_.d 3 128), ?_⟩
                  rcases bt (!b27) with hg4 | hg4
                  · rw [hg4]
                    refine seq_off (j := 4) (d := 129) (b := false) [5, 6] _ (by kernel_rfl) (.inl rfl) ?_
                    refine seq_offe (j := 4) (d := 129) (b := false) (by kernel_rfl) (.inl rfl) ?_
                    refine seq_off (j := 4) (d := 129) (b := false) [8] _ (by kernel_rfl) (.inl rfl) ?_
                    refine ⟨.bool true, fun _ h_ => rk (run_pick_t rfl (h_.d 4 129) rfl),
                     .bool true, fun _ h_ => rmv (h_.d 9 134), ?_⟩
                    refine seq_off (j := 10) (d := 135) (b := false) [11, 12] _ (by kernel_rfl) (.inl rfl) ?_
                    refine seq_offe (j := 10) (d := 135) (b := false) (by kernel_rfl) (.inl rfl) ?_
                    refine seq_off (j := 10) (d := 135) (b := false) [14] _ (by kernel_rfl) (.inl rfl) ?_
                    refine ⟨.bool true, fun _ h_ => rk (run_pick_t rfl (h_.d 10 135) rfl), ?_⟩
                    intro a26 hput
                    replace s1 := hput.o 1 s1
                    replace s2 := hput.o 2 s2
                    replace s4 := hput.o 4 s4
                    replace s5 := hput.o 5 s5
                    replace s113 := hput.o 113 s113
                    replace s114 := hput.o 114 s114
                    replace s115 := hput.o 115 s115
                    replace s116 := hput.o 116 s116
                    replace s120 := hput.o 120 s120
                    replace s121 := hput.o 121 s121
                    replace s122 := hput.o 122 s122
                    replace s123 := hput.o 123 s123
                    replace s124 := hput.o 124 s124
                    have s125 : sl a26 125 = pt g24 0 := hput.new 0 125 rfl
                    have s126 : sl a26 126 = i6 z23.kind := hput.new 1 126 rfl
                    have s127 : sl a26 127 = .bool b27 := hput.new 2 127 rfl
                    have s128 : sl a26 128 = .bool true := hput.new 3 128 rfl
                    have s129 : sl a26 129 = .bool true := hput.new 4 129 rfl
                    have s134 : sl a26 134 = .bool true := hput.new 9 134 rfl
                    have s135 : sl a26 135 = .bool true := hput.new 10 135 rfl
                    have s140 : sl a26 140 = .bool true := hput.new 15 140 rfl
                    replace hz := hput.size.trans hz
                    replace hd := hput.defers.trans hd
                    clear hput
                    change Code.wp _ _ _ _ _
                    refine wp_cond_true s140 ?_
                    refine wp_seq ?_
                    refine seq_l [] hz ?_
                    refine ⟨.bool false, fun _ h_ => rk (run_assign rfl rfl), ?_⟩
                    intro a28 hput
                    replace s1 := hput.o 1 s1
                    replace s2 : sl a28 2 = .bool false := hput.new 0 2 rfl
                    replace s4 := hput.o 4 s4
                    replace s5 := hput.o 5 s5
                    replace s113 := hput.o 113 s113
                    replace s114 := hput.o 114 s114
                    replace s115 := hput.o 115 s115
                    replace s116 := hput.o 116 s116
                    replace s120 := hput.o 120 s120
                    replace s121 := hput.o 121 s121
                    replace s122 := hput.o 122 s122
                    replace s123 := hput.o 123 s123
                    replace s124 := hput.o 124 s124
                    replace s125 := hput.o 125 s125
                    replace s126 := hput.o 126 s126
                    replace s127 := hput.o 127 s127
                    replace s128 := hput.o 128 s128
                    replace s129 := hput.o 129 s129
                    replace s134 := hput.o 134 s134
                    replace s135 := hput.o 135 s135
                    replace s140 := hput.o 140 s140
                    replace hz := hput.size.trans hz
                    replace hd := hput.defers.trans hd
                    clear hput
                    change Code.wp _ _ _ _ _
                    refine wp_ret ?_
                    refine ret1 (P := Try.prog) (fn := Try.f6) hd s2 (hR_ _ _ ?_)
                    exact ⟨_, rfl, (hS27.old (by simp))⟩
                  · rw [hg4]
                    refine ⟨pt g24 1, fun _ h_ => r_ok (h_.on 4 129) (fa 1 rfl (h_.b 5 s5)),
                     i6 z23.id, fun _ h_ => r_ok (h_.on 4 129) (ld hS27 0 rfl (h_.d 5 130)), ?_⟩
                    refine ⟨fun a_ h_ => st_call (h_.on 4 129) (run_call rfl (map3 (h_.d 6 131) rfl rfl) rfl) (in05_any _ _ _ _) ?_, trivial⟩
                    rintro e w29 ⟨b29, rfl, hb29⟩
                    refine ⟨_, rfl, _, rfl, ?_⟩
                    clear h_ a_
                    have hS29 := hS27.below hb29
                    clear hS27 hb29
                    refine ⟨.bool (!b29), fun _ h_ => r_ok (h_.on 4 129) (run_not rfl (h_.d 7 132) rfl),
                     .bool (!b29), fun _ h_ => rk (run_pick_f rfl (h_.d 4 129) (h_.d 8 133)),
                     .bool (!b29), fun _ h_ => rmv (h_.d 9 134), ?_⟩
                    rcases bt (!b29) with hg10 | hg10
                    · rw [hg10]
                      refine seq_off (j := 10) (d := 135) (b := false) [11, 12] _ (by kernel_rfl) (.inl rfl) ?_
                      refine seq_offe (j := 10) (d := 135) (b := false) (by kernel_rfl) (.inl rfl) ?_
                      refine seq_off (j := 10) (d := 135) (b := false) [14] _ (by kernel_rfl) (.inl rfl) ?_
                      refine ⟨.bool true, fun _ h_ => rk (run_pick_t rfl (h_.d 10 135) rfl), ?_⟩
                      intro a26 hput
                      replace s1 := hput.o 1 s1
                      replace s2 := hput.o 2 s2
                      replace s4 := hput.o 4 s4
                      replace s5 := hput.o 5 s5
                      replace s113 := hput.o 113 s113
                      replace s114 := hput.o 114 s114
                      replace s115 := hput.o 115 s115
                      replace s116 := hput.o 116 s116
                      replace s120 := hput.o 120 s120
                      replace s121 := hput.o 121 s121
                      replace s122 := hput.o 122 s122
                      replace s123 := hput.o 123 s123
                      replace s124 := hput.o 124 s124
                      have s125 : sl a26 125 = pt g24 0 := hput.new 0 125 rfl
                      have s126 : sl a26 126 = i6 z23.kind := hput.new 1 126 rfl
                      have s127 : sl a26 127 = .bool b27 := hput.new 2 127 rfl
                      have s128 : sl a26 128 = .bool false := hput.new 3 128 rfl
                      have s129 : sl a26 129 = .bool false := hput.new 4 129 rfl
                      have s130 : sl a26 130 = pt g24 1 := hput.new 5 130 rfl
                      have s131 : sl a26 131 = i6 z23.id := hput.new 6 131 rfl
                      have s132 : sl a26 132 = .bool b29 := hput.new 7 132 rfl
                      have s133 : sl a26 133 = .bool true := hput.new 8 133 rfl
                      have s134 : sl a26 134 = .bool true := hput.new 9 134 rfl
                      have s135 : sl a26 135 = .bool true := hput.new 10 135 rfl
                      have s140 : sl a26 140 = .bool true := hput.new 15 140 rfl
                      replace hz := hput.size.trans hz
                      replace hd := hput.defers.trans hd
                      clear hput
                      change Code.wp _ _ _ _ _
                      refine wp_cond_true s140 ?_
                      refine wp_seq ?_
                      refine seq_l [] hz ?_
                      refine ⟨.bool false, fun _ h_ => rk (run_assign rfl rfl), ?_⟩
                      intro a30 hput
                      replace s1 := hput.o 1 s1
                      replace s2 : sl a30 2 = .bool false := hput.new 0 2 rfl
                      replace s4 := hput.o 4 s4
                      replace s5 := hput.o 5 s5
                      replace s113 := hput.o 113 s113
                      replace s114 := hput.o 114 s114
                      replace s115 := hput.o 115 s115
                      replace s116 := hput.o 116 s116
                      replace s120 := hput.o 120 s120
                      replace s121 := hput.o 121 s121
                      replace s122 := hput.o 122 s122
                      replace s123 := hput.o 123 s123
                      replace s124 := hput.o 124 s124
                      replace s125 := hput.o 125 s125
                      replace s126 := hput.o 126 s126
                      replace s127 := hput.o 127 s127
                      replace s128 := hput.o 128 s128
                      replace s129 := hput.o 129 s129
                      replace s130 := hput.o 130 s130
                      replace s131 := hput.o 131 s131
                      replace s132 := hput.o 132 s132
                      replace s133 := hput.o 133 s133
                      replace s134 := hput.o 134 s134
                      replace s135 := hput.o 135 s135
                      replace s140 := hput.o 140 s140
                      replace hz := hput.size.trans hz
                      replace hd := hput.defers.trans hd
                      clear hput
                      change Code.wp _ _ _ _ _
                      refine wp_ret ?_
                      refine ret1 (P := Try.prog) (fn := Try.f6) hd s2 (hR_ _ _ ?_)
                      exact ⟨_, rfl, (hS29.old (by simp))⟩
                    · rw [hg10]
                      refine ⟨pt g24 2, fun _ h_ => r_ok (h_.on 10 135) (fa 2 rfl (h_.b 5 s5)),
                       i6 z23.adv, fun _ h_ => r_ok (h_.on 10 135) (ld hS29 0 rfl (h_.d 11 136)), ?_⟩
                      refine ⟨fun a_ h_ => st_call (h_.on 10 135) (run_call rfl (map3 (h_.d 12 137) rfl rfl) rfl) (in05_any _ _ _ _) ?_, trivial⟩
                      rintro e w31 ⟨b31, rfl, hb31⟩
                      refine ⟨_, rfl, _, rfl, ?_⟩
                      clear h_ a_
                      have hS31 := hS29.below hb31
                      clear hS29 hb31
                      refine ⟨.bool (!b31), fun _ h_ => r_ok (h_.on 10 135) (run_not rfl (h_.d 13 138) rfl),
                       .bool (!b31), fun _ h_ => rk (run_pick_f rfl (h_.d 10 135) (h_.d 14 139)), ?_⟩
                      intro a26 hput
                      replace s1 := hput.o 1 s1
                      replace s2 := hput.o 2 s2
                      replace s4 := hput.o 4 s4
                      replace s5 := hput.o 5 s5
                      replace s113 := hput.o 113 s113
                      replace s114 := hput.o 114 s114
                      replace s115 := hput.o 115 s115
                      replace s116 := hput.o 116 s116
                      replace s120 := hput.o 120 s120
                      replace s121 := hput.o 121 s121
                      replace s122 := hput.o 122 s122
                      replace s123 := hput.o 123 s123
                      replace s124 := hput.o 124 s124
                      have s125 : sl a26 125 = pt g24 0 := hput.new 0 125 rfl
                      have s126 : sl a26 126 = i6 z23.kind := hput.new 1 126 rfl
                      have s127 : sl a26 127 = .bool b27 := hput.new 2 127 rfl
                      have s128 : sl a26 128 = .bool false := hput.new 3 128 rfl
                      have s129 : sl a26 129 = .bool false := hput.new 4 129 rfl
                      have s130 : sl a26 130 = pt g24 1 := hput.new 5 130 rfl
                      have s131 : sl a26 131 = i6 z23.id := hput.new 6 131 rfl
                      have s132 : sl a26 132 = .bool b29 := hput.new 7 132 rfl
                      have s133 : sl a26 133 = .bool false := hput.new 8 133 rfl
                      have s134 : sl a26 134 = .bool false := hput.new 9 134 rfl
                      have s135 : sl a26 135 = .bool false := hput.new 10 135 rfl
                      have s136 : sl a26 136 = pt g24 2 := hput.new 11 136 rfl
                      have s137 : sl a26 137 = i6 z23.adv := hput.new 12 137 rfl
                      have s138 : sl a26 138 = .bool b31 := hput.new 13 138 rfl
                      have s139 : sl a26 139 = .bool (!b31) := hput.new 14 139 rfl
                      have s140 : sl a26 140 = .bool (!b31) := hput.new 15 140 rfl
                      replace hz := hput.size.trans hz
                      replace hd := hput.defers.trans hd
                      clear hput
                      change Code.wp _ _ _ _ _
                      refine wp_cond_b s140 (fun hc140 => ?_) (fun hc140 => ?_)
                      · clear s140
                        replace hc140 := nbt hc140
                        rw [hc140] at s138
                        refine wp_seq ?_
                        refine seq_l [] hz ?_
                        refine ⟨.bool false, fun _ h_ => rk (run_assign rfl rfl), ?_⟩
                        intro a32 hput
                        replace s1 := hput.o 1 s1
                        replace s2 : sl a32 2 = .bool false := hput.new 0 2 rfl
                        replace s4 := hput.o 4 s4
                        replace s5 := hput.o 5 s5
                        replace s113 := hput.o 113 s113
                        replace s114 := hput.o 114 s114
                        replace s115 := hput.o 115 s115
                        replace s116 := hput.o 116 s116
                        replace s120 := hput.o 120 s120
                        replace s121 := hput.o 121 s121
                        replace s122 := hput.o 122 s122
                        replace s123 := hput.o 123 s123
                        replace s124 := hput.o 124 s124
                        replace s125 := hput.o 125 s125
                        replace s126 := hput.o 126 s126
                        replace s127 := hput.o 127 s127
                        replace s128 := hput.o 128 s128
                        replace s129 := hput.o 129 s129
                        replace s130 := hput.o 130 s130
                        replace s131 := hput.o 131 s131
                        replace s132 := hput.o 132 s132
                        replace s133 := hput.o 133 s133
                        replace s134 := hput.o 134 s134
                        replace s135 := hput.o 135 s135
                        replace s136 := hput.o 136 s136
                        replace s137 := hput.o 137 s137
                        replace s138 := hput.o 138 s138
                        replace s139 := hput.o 139 s139
                        replace hz := hput.size.trans hz
                        replace hd := hput.defers.trans hd
                        clear hput
                        change Code.wp _ _ _ _ _
                        refine wp_ret ?_
                        refine ret1 (P := Try.prog) (fn := Try.f6) hd s2 (hR_ _ _ ?_)
                        exact ⟨_, rfl, (hS31.old (by simp))⟩
                      · clear s140
                        replace hc140 := nbf hc140
                        rw [hc140] at s138
                        refine wp_skip ?_
                        change Code.wp _ _ _ _ _
                        refine seq_l [] hz ?_
                        refine ⟨i6 k, fun _ h_ => rmv (h_.b 4 s4),
                         i6 (k + 1), fun _ h_ => rk (run_addI rfl (h_.d 0 118) rfl (by omega) rfl),
                         i6 (k + 1), fun _ h_ => ras (h_.d 1 119), ?_⟩
                        intro a33 hput
                        replace s1 := hput.o 1 s1
                        replace s2 := hput.o 2 s2
                        replace s4 : sl a33 4 = i6 (k + 1) := hput.new 2 4 rfl
                        replace s5 := hput.o 5 s5
                        replace s113 := hput.o 113 s113
                        replace s114 := hput.o 114 s114
                        replace s115 := hput.o 115 s115
                        replace s116 := hput.o 116 s116
                        have s118 : sl a33 118 = i6 k := hput.new 0 118 rfl
                        have s119 : sl a33 119 = i6 (k + 1) := hput.new 1 119 rfl
                        replace s120 := hput.o 120 s120
                        replace s121 := hput.o 121 s121
                        replace s122 := hput.o 122 s122
                        replace s123 := hput.o 123 s123
                        replace s124 := hput.o 124 s124
                        replace s125 := hput.o 125 s125
                        replace s126 := hput.o 126 s126
                        replace s127 := hput.o 127 s127
                        replace s128 := hput.o 128 s128
                        replace s129 := hput.o 129 s129
                        replace s130 := hput.o 130 s130
                        replace s131 := hput.o 131 s131
                        replace s132 := hput.o 132 s132
                        replace s133 := hput.o 133 s133
                        replace s134 := hput.o 134 s134
                        replace s135 := hput.o 135 s135
                        replace s136 := hput.o 136 s136
                        replace s137 := hput.o 137 s137
                        replace s138 := hput.o 138 s138
                        replace s139 := hput.o 139 s139
                        replace hz := hput.size.trans hz
                        replace hd := hput.defers.trans hd
                        clear hput
                        have hSd := hS31.drop
                        refine ⟨⟨k + 1, by omega, hz, hd, s1, s2, s4, hSd⟩, ?_⟩
                        show p.keys.length - (intOf (sl a33 4)).toNat < p.keys.length - (intOf (sl a20 4)).toNat
                        rw [show sl a33 4 = _ from s4, show sl a20 4 = _ from hmu0]
                        simp only [intOf]
                        omega
                · clear s117
                  refine wp_exit ?_
                  change Code.wp _ _ _ _ _
                  refine wp_seq ?_
                  refine seq_l [3] hz ?_
                  refine ⟨pt g3 13, fun _ h_ => rk (fa 13 rfl (h_.b 1 s1)),
                   .slice q.kA p.keys.length q.kc, fun _ h_ => rk (ld hS20 0 rfl (h_.d 0 141)),
                   i6 p.keys.length, fun _ h_ => rk (run_lenS rfl (h_.d 1 142) (by kernel_rfl)), ?_⟩
                  refine ⟨fun a_ h_ => st_call (on_none rfl) (run_call rfl (map3 (h_.d 2 143) rfl rfl) rfl) (in05_any _ _ _ _) ?_, trivial⟩
                  rintro e w35 ⟨b35, rfl, hb35⟩
                  refine ⟨_, rfl, _, rfl, ?_⟩
                  clear h_ a_
                  have hS35 := hS20.below hb35
                  clear hS20 hb35
                  refine ⟨.bool b35, fun _ h_ => ras (h_.d 3 144), ?_⟩
                  intro a34 hput
                  replace s1 := hput.o 1 s1
                  replace s2 : sl a34 2 = .bool b35 := hput.new 4 2 rfl
                  replace hz := hput.size.trans hz
                  replace hd := hput.defers.trans hd
                  clear hput s4 s113 s114 s115 s116
                  change Code.wp _ _ _ _ _
                  refine wp_ret ?_
                  refine ret1 (P := Try.prog) (fn := Try.f6) hd s2 (hR_ _ _ ?_)
                  exact ⟨_, rfl, (hS35.old (by simp))⟩
set_option maxRecDepth 100000 in
set_option maxHeartbeats 800000 in
theorem right05_4 (p : PkV) (q : PkP) (W : World) (hsm : PkSm p) (hok : PkOK W p q) :
    Calls Try.prog 6 #[.agg #[i6 4, i6 p.src, i6 p.every, i6 p.dead, i6 p.prio, i6 p.dr, i6 p.bdr, .slice q.sA p.seen.length q.sc, .bool p.init, .bool p.more, .bool p.master, i6 p.seq, .slice q.hA p.heads.length q.hc, .slice q.kA p.keys.length q.kc, .slice q.lA p.lsas.length q.lc, .slice q.aA p.acks.length q.ac]] W (fun r w' => ∃ b : Bool, r = .returned (.bool b) ∧ (b = true → ∀ x ∈ p.lsas, rightB x.1 = true) ∧ Below W.heap.size W w') := by
  obtain ⟨hsn, hhd, hky, hls, hak, _⟩ := id hsm
  have hS := S.start W
  refine calls_walk Try.func6 rfl fun R_ hR_ a hz hd hargs => ?_
  replace hz : a.tmps.size = 200 := hz.trans (by kernel_rfl)
  have s0 := hargs 0 _ rfl
  clear hargs
  refine wp_seq ?_
  refine seq_l [0] hz ?_
  refine ⟨fun a_ h_ => st_box (cells := #[i6 4, i6 p.src, i6 p.every, i6 p.dead, i6 p.prio, i6 p.dr, i6 p.bdr, .slice q.sA p.seen.length q.sc, .bool p.init, .bool p.more, .bool p.master, i6 p.seq, .slice q.hA p.heads.length q.hc, .slice q.kA p.keys.length q.kc, .slice q.lA p.lsas.length q.lc, .slice q.aA p.acks.length q.ac]) hS (on_none rfl) rfl (h_.b 0 s0) (by kernel_rfl) fun g3 w3 hS3 hb3 => ⟨_, rfl, ?_⟩, trivial⟩
  clear h_ a_ hS
  clear hb3
  refine ⟨.bool false, fun _ h_ => rk (run_assign rfl rfl), ?_⟩
  intro a2 hput
  have s1 : sl a2 1 = pt g3 0 := hput.new 0 1 rfl
  have s2 : sl a2 2 = .bool false := hput.new 1 2 rfl
  replace hz := hput.size.trans hz
  replace hd := hput.defers.trans hd
  clear hput s0
  change Code.wp _ _ _ _ _
  refine wp_seq ?_
  refine wp_seq ?_
  refine seq_l [2, 7] hz ?_
  refine ⟨pt g3 0, fun _ h_ => rk (fa 0 rfl (h_.b 1 s1)),
   i6 4, fun _ h_ => rk (ld hS3 0 rfl (h_.d 0 9)), ?_⟩
  refine ⟨fun a_ h_ => st_call (on_none rfl) (run_call rfl (map3 (h_.d 1 10) rfl rfl) rfl) (in05_any _ _ _ _) ?_, trivial⟩
  rintro e w5 ⟨b5, rfl, hb5⟩
  refine ⟨_, rfl, _, rfl, ?_⟩
  clear h_ a_
  have hS5 := hS3.below hb5
  clear hS3 hb5
  refine ⟨.bool (!b5), fun _ h_ => rk (run_not rfl (h_.d 2 11) rfl),
   .bool (!b5), fun _ h_ => rmv (h_.d 3 12), ?_⟩
  rcases bt (!b5) with hg4 | hg4
  · rw [hg4]
    refine seq_off (j := 4) (d := 13) (b := false) [5, 6] _ (by kernel_rfl) (.inl rfl) ?_
    refine seq_offe (j := 4) (d := 13) (b := false) (by kernel_rfl) (.inl rfl) ?_
    refine seq_off (j := 4) (d := 13) (b := false) [8] _ (by kernel_rfl) (.inl rfl) ?_
    refine ⟨.bool true, fun _ h_ => rk (run_pick_t rfl (h_.d 4 13) rfl), ?_⟩
    intro a4 hput
    replace s1 := hput.o 1 s1
    replace s2 := hput.o 2 s2
    have s18 : sl a4 18 = .bool true := hput.new 9 18 rfl
    replace hz := hput.size.trans hz
    replace hd := hput.defers.trans hd
    clear hput
    change Code.wp _ _ _ _ _
    refine wp_cond_true s18 ?_
    refine wp_seq ?_
    refine seq_l [] hz ?_
    refine ⟨.bool false, fun _ h_ => rk (run_assign rfl rfl), ?_⟩
    intro a6 hput
    replace s1 := hput.o 1 s1
    replace s2 : sl a6 2 = .bool false := hput.new 0 2 rfl
    replace hz := hput.size.trans hz
    replace hd := hput.defers.trans hd
    clear hput s18
    change Code.wp _ _ _ _ _
    refine wp_ret ?_
    refine ret1 (P := Try.prog) (fn := Try.f6) hd s2 (hR_ _ _ ?_)
    first | exact ⟨_, rfl, (fun _ => by rw [List.take_of_length_le (by omega)] at hc2_1; exact hc2_1), (hS5.old (by simp))⟩ | exact ⟨_, rfl, (fun h => by cases h), (hS5.old (by simp))⟩
  · rw [hg4]
    refine ⟨pt g3 1, fun _ h_ => r_ok (h_.on 4 13) (fa 1 rfl (h_.b 1 s1)),
     i6 p.src, fun _ h_ => r_ok (h_.on 4 13) (ld hS5 0 rfl (h_.d 5 14)), ?_⟩
    refine ⟨fun a_ h_ => st_call (h_.on 4 13) (run_call rfl (map3 (h_.d 6 15) rfl rfl) rfl) (in05_any _ _ _ _) ?_, trivial⟩
    rintro e w7 ⟨b7, rfl, hb7⟩
    refine ⟨_, rfl, _, rfl, ?_⟩
    clear h_ a_
    have hS7 := hS5.below hb7
    clear hS5 hb7
    refine ⟨.bool (!b7), fun _ h_ => r_ok (h_.on 4 13) (run_not rfl (h_.d 7 16) rfl),
     .bool (!b7), fun _ h_ => rk (run_pick_f rfl (h_.d 4 13) (h_.d 8 17)), ?_⟩
    intro a4 hput
    replace s1 := hput.o 1 s1
    replace s2 := hput.o 2 s2
    have s18 : sl a4 18 = .bool (!b7) := hput.new 9 18 rfl
    replace hz := hput.size.trans hz
    replace hd := hput.defers.trans hd
    clear hput
    change Code.wp _ _ _ _ _
    refine wp_cond_b s18 (fun hc18 => ?_) (fun hc18 => ?_)
    · clear s18
      replace hc18 := nbt hc18
      refine wp_seq ?_
      refine seq_l [] hz ?_
      refine ⟨.bool false, fun _ h_ => rk (run_assign rfl rfl), ?_⟩
      intro a8 hput
      replace s1 := hput.o 1 s1
      replace s2 : sl a8 2 = .bool false := hput.new 0 2 rfl
      replace hz := hput.size.trans hz
      replace hd := hput.defers.trans hd
      clear hput
      change Code.wp _ _ _ _ _
      refine wp_ret ?_
      refine ret1 (P := Try.prog) (fn := Try.f6) hd s2 (hR_ _ _ ?_)
      first | exact ⟨_, rfl, (fun _ => by rw [List.take_of_length_le (by omega)] at hc2_1; exact hc2_1), (hS7.old (by simp))⟩ | exact ⟨_, rfl, (fun h => by cases h), (hS7.old (by simp))⟩
    · clear s18
      replace hc18 := nbf hc18
      refine wp_skip ?_
      change Code.wp _ _ _ _ _
      refine wp_seq ?_
      refine wp_seq ?_
      refine seq_l [6, 16] hz ?_
      refine ⟨pt g3 0, fun _ h_ => rk (fa 0 rfl (h_.b 1 s1)),
       i6 4, fun _ h_ => rk (ld hS7 0 rfl (h_.d 0 19)),
       .bool true, fun _ h_ => rk (run_cmp rfl (h_.d 1 20) rfl rfl (by decide)),
       .bool true, fun _ h_ => rmv (h_.d 2 21),
       pt g3 2, fun _ h_ => r_ok (h_.on 3 22) (fa 2 rfl (h_.b 1 s1)),
       .agg #[i6 p.every, i6 p.dead, i6 p.prio, i6 p.dr, i6 p.bdr, .slice q.sA p.seen.length q.sc], fun _ h_ => r_ok (h_.on 3 22) (lbS 6 (hS7.blk (i := 0) rfl) rfl (h_.d 4 23)), ?_⟩
      refine ⟨fun a_ h_ => st_call (h_.on 3 22) (run_call rfl (map1 (h_.d 5 24)) rfl) (noHello05_any p q _ hsm (hok.below (hS7.old (by simp)))) ?_, trivial⟩
      rintro e w10 ⟨b10, rfl, hb10⟩
      refine ⟨_, rfl, _, rfl, ?_⟩
      clear h_ a_
      have hS10 := hS7.below hb10
      clear hS7 hb10
      refine ⟨.bool (!b10), fun _ h_ => r_ok (h_.on 3 22) (run_not rfl (h_.d 6 25) rfl),
       .bool (!b10), fun _ h_ => rk (run_pick_t rfl (h_.d 3 22) (h_.d 7 26)),
       .bool (!b10), fun _ h_ => rmv (h_.d 8 27), ?_⟩
      rcases bt (!b10) with hg9 | hg9
      · rw [hg9]
        refine seq_off (j := 9) (d := 28) (b := false) [10, 11, 12, 13] _ (by kernel_rfl) (.inl rfl) ?_
        refine seq_off (j := 13) (d := 32) (b := true) [14, 15] _ (by kernel_rfl) (.inr rfl) ?_
        refine seq_offe (j := 13) (d := 32) (b := true) (by kernel_rfl) (.inr rfl) ?_
        refine seq_off (j := 13) (d := 32) (b := true) [17] _ (by kernel_rfl) (.inr rfl) ?_
        refine seq_off (j := 9) (d := 28) (b := false) [18] _ (by kernel_rfl) (.inl rfl) ?_
        refine ⟨.bool true, fun _ h_ => rk (run_pick_t rfl (h_.d 9 28) rfl),
         .bool true, fun _ h_ => rmv (h_.d 19 38), ?_⟩
        refine seq_off (j := 20) (d := 39) (b := false) [21, 22, 23, 24] _ (by kernel_rfl) (.inl rfl) ?_
        refine seq_off (j := 24) (d := 43) (b := true) [25, 26, 27, 28] _ (by kernel_rfl) (.inr rfl) ?_
        refine seq_off (j := 20) (d := 39) (b := false) [29] _ (by kernel_rfl) (.inl rfl) ?_
        refine ⟨.bool true, fun _ h_ => rk (run_pick_t rfl (h_.d 20 39) rfl),
         .bool true, fun _ h_ => rmv (h_.d 30 49), ?_⟩
        refine seq_off (j := 31) (d := 50) (b := false) [32, 33, 34, 35] _ (by kernel_rfl) (.inl rfl) ?_
        refine seq_off (j := 35) (d := 54) (b := true) [36, 37, 38, 39] _ (by kernel_rfl) (.inr rfl) ?_
        refine seq_off (j := 31) (d := 50) (b := false) [40] _ (by kernel_rfl) (.inl rfl) ?_
        refine ⟨.bool true, fun _ h_ => rk (run_pick_t rfl (h_.d 31 50) rfl),
         .bool true, fun _ h_ => rmv (h_.d 41 60), ?_⟩
        refine seq_off (j := 42) (d := 61) (b := false) [43, 44, 45, 46] _ (by kernel_rfl) (.inl rfl) ?_
        refine seq_off (j := 46) (d := 65) (b := true) [47, 48, 49, 50] _ (by kernel_rfl) (.inr rfl) ?_
        refine seq_off (j := 42) (d := 61) (b := false) [51] _ (by kernel_rfl) (.inl rfl) ?_
        refine ⟨.bool true, fun _ h_ => rk (run_pick_t rfl (h_.d 42 61) rfl), ?_⟩
        intro a9 hput
        replace s1 := hput.o 1 s1
        replace s2 := hput.o 2 s2
        have s71 : sl a9 71 = .bool true := hput.new 52 71 rfl
        replace hz := hput.size.trans hz
        replace hd := hput.defers.trans hd
        clear hput
        change Code.wp _ _ _ _ _
        refine wp_cond_true s71 ?_
        refine wp_seq ?_
        refine seq_l [] hz ?_
        refine ⟨.bool false, fun _ h_ => rk (run_assign rfl rfl), ?_⟩
        intro a11 hput
        replace s1 := hput.o 1 s1
        replace s2 : sl a11 2 = .bool false := hput.new 0 2 rfl
        replace hz := hput.size.trans hz
        replace hd := hput.defers.trans hd
        clear hput s71
        change Code.wp _ _ _ _ _
        refine wp_ret ?_
        refine ret1 (P := Try.prog) (fn := Try.f6) hd s2 (hR_ _ _ ?_)
        first | exact ⟨_, rfl, (fun _ => by rw [List.take_of_length_le (by omega)] at hc2_1; exact hc2_1), (hS10.old (by simp))⟩ | exact ⟨_, rfl, (fun h => by cases h), (hS10.old (by simp))⟩
      · rw [hg9]
        refine ⟨pt g3 0, fun _ h_ => r_ok (h_.on 9 28) (fa 0 rfl (h_.b 1 s1)),
         i6 4, fun _ h_ => r_ok (h_.on 9 28) (ld hS10 0 rfl (h_.d 10 29)),
         .bool true, fun _ h_ => r_ok (h_.on 9 28) (run_cmp rfl (h_.d 11 30) rfl rfl (by decide)),
         .bool true, fun _ h_ => r_ok (h_.on 9 28) (run_move rfl (h_.d 12 31)),
         pt g3 8, fun _ h_ => r_ok (h_.on 13 32) (fa 8 rfl (h_.b 1 s1)),
         .agg #[.bool p.init, .bool p.more, .bool p.master, i6 p.seq, .slice q.hA p.heads.length q.hc], fun _ h_ => r_ok (h_.on 13 32) (lbS 5 (hS10.blk (i := 0) rfl) rfl (h_.d 14 33)), ?_⟩
        refine ⟨fun a_ h_ => st_call (h_.on 13 32) (run_call rfl (map1 (h_.d 15 34)) rfl) (noDd05_any p q _ hsm (hok.below (hS10.old (by simp)))) ?_, trivial⟩
        rintro e w12 ⟨b12, rfl, hb12⟩
        refine ⟨_, rfl, _, rfl, ?_⟩
        clear h_ a_
        have hS12 := hS10.below hb12
        clear hS10 hb12
        refine ⟨.bool (!b12), fun _ h_ => r_ok (h_.on 13 32) (run_not rfl (h_.d 16 35) rfl),
         .bool (!b12), fun _ h_ => r_ok (h_.on 9 28) (run_pick_t rfl (h_.d 13 32) (h_.d 17 36)),
         .bool (!b12), fun _ h_ => rk (run_pick_f rfl (h_.d 9 28) (h_.d 18 37)),
         .bool (!b12), fun _ h_ => rmv (h_.d 19 38), ?_⟩
        rcases bt (!b12) with hg20 | hg20
        · rw [hg20]
          refine seq_off (j := 20) (d := 39) (b := false) [21, 22, 23, 24] _ (by kernel_rfl) (.inl rfl) ?_
          refine seq_off (j := 24) (d := 43) (b := true) [25, 26, 27, 28] _ (by kernel_rfl) (.inr rfl) ?_
          refine seq_off (j := 20) (d := 39) (b := false) [29] _ (by kernel_rfl) (.inl rfl) ?_
          refine ⟨.bool true, fun _ h_ => rk (run_pick_t rfl (h_.d 20 39) rfl),
           .bool true, fun _ h_ => rmv (h_.d 30 49), ?_⟩
          refine seq_off (j := 31) (d := 50) (b := false) [32, 33, 34, 35] _ (by kernel_rfl) (.inl rfl) ?_
          refine seq_off (j := 35) (d := 54) (b := true) [36, 37, 38, 39] _ (by kernel_rfl) (.inr rfl) ?_
          refine seq_off (j := 31) (d := 50) (b := false) [40] _ (by kernel_rfl) (.inl rfl) ?_
          refine ⟨.bool true, fun _ h_ => rk (run_pick_t rfl (h_.d 31 50) rfl),
           .bool true, fun _ h_ => rmv (h_.d 41 60), ?_⟩
          refine seq_off (j := 42) (d := 61) (b := false) [43, 44, 45, 46] _ (by kernel_rfl) (.inl rfl) ?_
          refine seq_off (j := 46) (d := 65) (b := true) [47, 48, 49, 50] _ (by kernel_rfl) (.inr rfl) ?_
          refine seq_off (j := 42) (d := 61) (b := false) [51] _ (by kernel_rfl) (.inl rfl) ?_
          refine ⟨.bool true, fun _ h_ => rk (run_pick_t rfl (h_.d 42 61) rfl), ?_⟩
          intro a9 hput
          replace s1 := hput.o 1 s1
          replace s2 := hput.o 2 s2
          have s71 : sl a9 71 = .bool true := hput.new 52 71 rfl
          replace hz := hput.size.trans hz
          replace hd := hput.defers.trans hd
          clear hput
          change Code.wp _ _ _ _ _
          refine wp_cond_true s71 ?_
          refine wp_seq ?_
          refine seq_l [] hz ?_
          refine ⟨.bool false, fun _ h_ => rk (run_assign rfl rfl), ?_⟩
          intro a13 hput
          replace s1 := hput.o 1 s1
          replace s2 : sl a13 2 = .bool false := hput.new 0 2 rfl
          replace hz := hput.size.trans hz
          replace hd := hput.defers.trans hd
          clear hput s71
          change Code.wp _ _ _ _ _
          refine wp_ret ?_
          refine ret1 (P := Try.prog) (fn := Try.f6) hd s2 (hR_ _ _ ?_)
          first | exact ⟨_, rfl, (fun _ => by rw [List.take_of_length_le (by omega)] at hc2_1; exact hc2_1), (hS12.old (by simp))⟩ | exact ⟨_, rfl, (fun h => by cases h), (hS12.old (by simp))⟩
        · rw [hg20]
          refine ⟨pt g3 0, fun _ h_ => r_ok (h_.on 20 39) (fa 0 rfl (h_.b 1 s1)),
           i6 4, fun _ h_ => r_ok (h_.on 20 39) (ld hS12 0 rfl (h_.d 21 40)),
           .bool true, fun _ h_ => r_ok (h_.on 20 39) (run_cmp rfl (h_.d 22 41) rfl rfl (by decide)),
           .bool true, fun _ h_ => r_ok (h_.on 20 39) (run_move rfl (h_.d 23 42)),
           pt g3 13, fun _ h_ => r_ok (h_.on 24 43) (fa 13 rfl (h_.b 1 s1)),
           .slice q.kA p.keys.length q.kc, fun _ h_ => r_ok (h_.on 24 43) (ld hS12 0 rfl (h_.d 25 44)),
           i6 p.keys.length, fun _ h_ => r_ok (h_.on 24 43) (run_lenS rfl (h_.d 26 45) (by kernel_rfl)),
           .bool (decide ((0 : Int) < p.keys.length)), fun _ h_ => r_ok (h_.on 24 43) (run_cmp rfl (h_.d 27 46) rfl rfl (by first | rfl | exact neq_dec _ _ | exact eq_dec _ _ | simp)),
           .bool (decide ((0 : Int) < p.keys.length)), fun _ h_ => r_ok (h_.on 20 39) (run_pick_t rfl (h_.d 24 43) (h_.d 28 47)),
           .bool (decide ((0 : Int) < p.keys.length)), fun _ h_ => rk (run_pick_f rfl (h_.d 20 39) (h_.d 29 48)),
           .bool (decide ((0 : Int) < p.keys.length)), fun _ h_ => rmv (h_.d 30 49), ?_⟩
          rcases dt ((0 : Int) < p.keys.length) with ⟨he, hg31⟩ | ⟨he, hg31⟩
          · rw [he]
            clear he
            refine seq_off (j := 31) (d := 50) (b := false) [32, 33, 34, 35] _ (by kernel_rfl) (.inl rfl) ?_
            refine seq_off (j := 35) (d := 54) (b := true) [36, 37, 38, 39] _ (by kernel_rfl) (.inr rfl) ?_
            refine seq_off (j := 31) (d := 50) (b := false) [40] _ (by kernel_rfl) (.inl rfl) ?_
            refine ⟨.bool true, fun _ h_ => rk (run_pick_t rfl (h_.d 31 50) rfl),
             .bool true, fun _ h_ => rmv (h_.d 41 60), ?_⟩
            refine seq_off (j := 42) (d := 61) (b := false) [43, 44, 45, 46] _ (by kernel_rfl) (.inl rfl) ?_
            refine seq_off (j := 46) (d := 65) (b := true) [47, 48, 49, 50] _ (by kernel_rfl) (.inr rfl) ?_
            refine seq_off (j := 42) (d := 61) (b := false) [51] _ (by kernel_rfl) (.inl rfl) ?_
            refine ⟨.bool true, fun _ h_ => rk (run_pick_t rfl (h_.d 42 61) rfl), ?_⟩
            intro a9 hput
            replace s1 := hput.o 1 s1
            replace s2 := hput.o 2 s2
            have s71 : sl a9 71 = .bool true := hput.new 52 71 rfl
            replace hz := hput.size.trans hz
            replace hd := hput.defers.trans hd
            clear hput
            change Code.wp _ _ _ _ _
            refine wp_cond_true s71 ?_
            refine wp_seq ?_
            refine seq_l [] hz ?_
            refine ⟨.bool false, fun _ h_ => rk (run_assign rfl rfl), ?_⟩
            intro a14 hput
            replace s1 := hput.o 1 s1
            replace s2 : sl a14 2 = .bool false := hput.new 0 2 rfl
            replace hz := hput.size.trans hz
            replace hd := hput.defers.trans hd
            clear hput s71
            change Code.wp _ _ _ _ _
            refine wp_ret ?_
            refine ret1 (P := Try.prog) (fn := Try.f6) hd s2 (hR_ _ _ ?_)
            first | exact ⟨_, rfl, (fun _ => by rw [List.take_of_length_le (by omega)] at hc2_1; exact hc2_1), (hS12.old (by simp))⟩ | exact ⟨_, rfl, (fun h => by cases h), (hS12.old (by simp))⟩
          · rw [he]
            clear he
            refine ⟨pt g3 0, fun _ h_ => r_ok (h_.on 31 50) (fa 0 rfl (h_.b 1 s1)),
             i6 4, fun _ h_ => r_ok (h_.on 31 50) (ld hS12 0 rfl (h_.d 32 51)),
             .bool false, fun _ h_ => r_ok (h_.on 31 50) (run_cmp rfl (h_.d 33 52) rfl rfl (by decide)),
             .bool false, fun _ h_ => r_ok (h_.on 31 50) (run_move rfl (h_.d 34 53)), ?_⟩
            refine seq_off (j := 35) (d := 54) (b := true) [36, 37, 38, 39] _ (by kernel_rfl) (.inl rfl) ?_
            refine ⟨.bool false, fun _ h_ => r_ok (h_.on 31 50) (run_pick_f rfl (h_.d 35 54) rfl),
             .bool false, fun _ h_ => rk (run_pick_f rfl (h_.d 31 50) (h_.d 40 59)),
             .bool false, fun _ h_ => rmv (h_.d 41 60),
             pt g3 0, fun _ h_ => r_ok (h_.on 42 61) (fa 0 rfl (h_.b 1 s1)),
             i6 4, fun _ h_ => r_ok (h_.on 42 61) (ld hS12 0 rfl (h_.d 43 62)),
             .bool true, fun _ h_ => r_ok (h_.on 42 61) (run_cmp rfl (h_.d 44 63) rfl rfl (by decide)),
             .bool true, fun _ h_ => r_ok (h_.on 42 61) (run_move rfl (h_.d 45 64)),
             pt g3 15, fun _ h_ => r_ok (h_.on 46 65) (fa 15 rfl (h_.b 1 s1)),
             .slice q.aA p.acks.length q.ac, fun _ h_ => r_ok (h_.on 46 65) (ld hS12 0 rfl (h_.d 47 66)),
             i6 p.acks.length, fun _ h_ => r_ok (h_.on 46 65) (run_lenS rfl (h_.d 48 67) (by kernel_rfl)),
             .bool (decide ((0 : Int) < p.acks.length)), fun _ h_ => r_ok (h_.on 46 65) (run_cmp rfl (h_.d 49 68) rfl rfl (by first | rfl | exact neq_dec _ _ | exact eq_dec _ _ | simp)),
             .bool (decide ((0 : Int) < p.acks.length)), fun _ h_ => r_ok (h_.on 42 61) (run_pick_t rfl (h_.d 46 65) (h_.d 50 69)),
             .bool (decide ((0 : Int) < p.acks.length)), fun _ h_ => rk (run_pick_f rfl (h_.d 42 61) (h_.d 51 70)), ?_⟩
            intro a9 hput
            replace s1 := hput.o 1 s1
            replace s2 := hput.o 2 s2
            have s71 : sl a9 71 = .bool (decide ((0 : Int) < p.acks.length)) := hput.new 52 71 rfl
            replace hz := hput.size.trans hz
            replace hd := hput.defers.trans hd
            clear hput
            change Code.wp _ _ _ _ _
            refine wp_cond_d s71 (fun hc71 => ?_) (fun hc71 => ?_)
            · clear s71
              refine wp_seq ?_
              refine seq_l [] hz ?_
              refine ⟨.bool false, fun _ h_ => rk (run_assign rfl rfl), ?_⟩
              intro a15 hput
              replace s1 := hput.o 1 s1
              replace s2 : sl a15 2 = .bool false := hput.new 0 2 rfl
              replace hz := hput.size.trans hz
              replace hd := hput.defers.trans hd
              clear hput
              change Code.wp _ _ _ _ _
              refine wp_ret ?_
              refine ret1 (P := Try.prog) (fn := Try.f6) hd s2 (hR_ _ _ ?_)
              first | exact ⟨_, rfl, (fun _ => by rw [List.take_of_length_le (by omega)] at hc2_1; exact hc2_1), (hS12.old (by simp))⟩ | exact ⟨_, rfl, (fun h => by cases h), (hS12.old (by simp))⟩
            · clear s71
              refine wp_skip ?_
              change Code.wp _ _ _ _ _
              refine wp_seq ?_
              refine wp_seq ?_
              refine seq_l [] hz ?_
              refine ⟨pt g3 0, fun _ h_ => rk (fa 0 rfl (h_.b 1 s1)),
               i6 4, fun _ h_ => rk (ld hS12 0 rfl (h_.d 0 72)),
               .bool false, fun _ h_ => rk (run_cmp rfl (h_.d 1 73) rfl rfl (by decide)), ?_⟩
              intro a16 hput
              replace s1 := hput.o 1 s1
              replace s2 := hput.o 2 s2
              have s74 : sl a16 74 = .bool false := hput.new 2 74 rfl
              replace hz := hput.size.trans hz
              replace hd := hput.defers.trans hd
              clear hput
              change Code.wp _ _ _ _ _
              refine wp_cond_false s74 ?_
              refine wp_skip ?_
              change Code.wp _ _ _ _ _
              refine wp_seq ?_
              refine wp_seq ?_
              refine seq_l [] hz ?_
              refine ⟨pt g3 0, fun _ h_ => rk (fa 0 rfl (h_.b 1 s1)),
               i6 4, fun _ h_ => rk (ld hS12 0 rfl (h_.d 0 78)),
               .bool false, fun _ h_ => rk (run_cmp rfl (h_.d 1 79) rfl rfl (by decide)), ?_⟩
              intro a17 hput
              replace s1 := hput.o 1 s1
              replace s2 := hput.o 2 s2
              have s80 : sl a17 80 = .bool false := hput.new 2 80 rfl
              replace hz := hput.size.trans hz
              replace hd := hput.defers.trans hd
              clear hput s74
              change Code.wp _ _ _ _ _
              refine wp_cond_false s80 ?_
              refine wp_skip ?_
              change Code.wp _ _ _ _ _
              refine wp_seq ?_
              refine wp_seq ?_
              refine seq_l [] hz ?_
              refine ⟨pt g3 0, fun _ h_ => rk (fa 0 rfl (h_.b 1 s1)),
               i6 4, fun _ h_ => rk (ld hS12 0 rfl (h_.d 0 110)),
               .bool false, fun _ h_ => rk (run_cmp rfl (h_.d 1 111) rfl rfl (by decide)), ?_⟩
              intro a18 hput
              replace s1 := hput.o 1 s1
              replace s2 := hput.o 2 s2
              have s112 : sl a18 112 = .bool false := hput.new 2 112 rfl
              replace hz := hput.size.trans hz
              replace hd := hput.defers.trans hd
              clear hput s80
              change Code.wp _ _ _ _ _
              refine wp_cond_false s112 ?_
              refine wp_skip ?_
              change Code.wp _ _ _ _ _
              refine wp_seq ?_
              refine wp_seq ?_
              refine seq_l [] hz ?_
              refine ⟨pt g3 0, fun _ h_ => rk (fa 0 rfl (h_.b 1 s1)),
               i6 4, fun _ h_ => rk (ld hS12 0 rfl (h_.d 0 145)),
               .bool false, fun _ h_ => rk (run_cmp rfl (h_.d 1 146) rfl rfl (by decide)), ?_⟩
              intro a19 hput
              replace s1 := hput.o 1 s1
              replace s2 := hput.o 2 s2
              have s147 : sl a19 147 = .bool false := hput.new 2 147 rfl
              replace hz := hput.size.trans hz
              replace hd := hput.defers.trans hd
              clear hput s112
              change Code.wp _ _ _ _ _
              refine wp_cond_false s147 ?_
              refine wp_skip ?_
              change Code.wp _ _ _ _ _
              refine wp_seq ?_
              refine wp_seq ?_
              refine seq_l [] hz ?_
              refine ⟨i6 0, fun _ h_ => rk (run_assign rfl rfl), ?_⟩
              intro a20 hput
              replace s1 := hput.o 1 s1
              replace s2 := hput.o 2 s2
              have s6 : sl a20 6 = i6 0 := hput.new 0 6 rfl
              replace hz := hput.size.trans hz
              replace hd := hput.defers.trans hd
              clear hput s147
              change Code.wp _ _ _ _ _
              refine wp_block ?_
              refine wp_loop (fun a_ w_ => ∃ k : Nat, (k ≤ p.lsas.length) ∧ (∀ x ∈ p.lsas.take k, rightB x.1 = true) ∧ a_.tmps.size = 200 ∧ a_.defers = [] ∧ sl a_ 1 = pt g3 0 ∧ sl a_ 2 = .bool false ∧ sl a_ 6 = i6 k ∧ S (kap W) ((blkA g3 31 #[i6 4, i6 p.src, i6 p.every, i6 p.dead, i6 p.prio, i6 p.dr, i6 p.bdr, .slice q.sA p.seen.length q.sc, .bool p.init, .bool p.more, .bool p.master, i6 p.seq, .slice q.hA p.heads.length q.hc, .slice q.kA p.keys.length q.kc, .slice q.lA p.lsas.length q.lc, .slice q.aA p.acks.length q.ac]) :: []) ((memA W W.heap.size) :: []) w_) (fun a_ _ => p.lsas.length - (intOf (sl a_ 6)).toNat) ?_ ?_
              · exact ⟨0, Nat.zero_le _, (fun x hx => by simp at hx), hz, hd, s1, s2, s6, hS12⟩
              · clear hz hd s1 s2 s6 hS12
                rintro a21 w21 ⟨k, hc2_0, hc2_1, hz, hd, s1, s2, s6, hS21⟩
                have hmu2 := s6
                refine wp_seq ?_
                refine wp_seq ?_
                refine seq_l [] hz ?_
                refine ⟨i6 k, fun _ h_ => rmv (h_.b 6 s6),
                 pt g3 14, fun _ h_ => rk (fa 14 rfl (h_.b 1 s1)),
                 .slice q.lA p.lsas.length q.lc, fun _ h_ => rk (ld hS21 0 rfl (h_.d 1 158)),
                 i6 p.lsas.length, fun _ h_ => rk (run_lenS rfl (h_.d 2 159) (by kernel_rfl)),
                 .bool (decide ((k : Int) < p.lsas.length)), fun _ h_ => rk (run_cmp rfl (h_.d 0 157) (h_.d 3 160) rfl (by first | rfl | exact neq_dec _ _ | exact eq_dec _ _ | simp)), ?_⟩
                intro a22 hput
                replace s1 := hput.o 1 s1
                replace s2 := hput.o 2 s2
                replace s6 := hput.o 6 s6
                have s157 : sl a22 157 = i6 k := hput.new 0 157 rfl
                have s158 : sl a22 158 = pt g3 14 := hput.new 1 158 rfl
                have s159 : sl a22 159 = .slice q.lA p.lsas.length q.lc := hput.new 2 159 rfl
                have s160 : sl a22 160 = i6 p.lsas.length := hput.new 3 160 rfl
                have s161 : sl a22 161 = .bool (decide ((k : Int) < p.lsas.length)) := hput.new 4 161 rfl
                replace hz := hput.size.trans hz
                replace hd := hput.defers.trans hd
                clear hput
                change Code.wp _ _ _ _ _
                refine wp_cond_d s161 (fun hc161 => ?_) (fun hc161 => ?_)
                · clear s161
                  refine wp_skip ?_
                  change Code.wp _ _ _ _ _
                  refine wp_seq ?_
                  refine wp_block ?_
                  refine wp_seq ?_
                  refine wp_seq ?_
                  refine seq_l [5] hz ?_
                  refine ⟨pt g3 14, fun _ h_ => rk (fa 14 rfl (h_.b 1 s1)),
                   .slice q.lA p.lsas.length q.lc, fun _ h_ => rk (ld hS21 0 rfl (h_.d 0 164)),
                   i6 k, fun _ h_ => rmv (h_.b 6 s6), ?_⟩
                  obtain ⟨b24, o24, z24, hA24, hb24, hz24, hq24⟩ := Reads.row_at lsaC 9 lsaC_len (k := k) ((hok.below (hS21.old (by simp))).lsas) (by decide) (by omega)
                  have hmz := List.mem_of_getElem? hz24
                  obtain ⟨hz1, hz2⟩ := hsm.each _ hmz
                  refine ⟨pt b24 (o24 + k * 9), fun _ h_ => rk (run_indexV (size := 9) rfl (h_.d 1 165) hA24 (h_.d 2 166) (by kernel_rfl) (by omega) (by simp)),
                   .agg #[i6 z24.1.hd.age, i6 z24.1.hd.kind, i6 z24.1.hd.id, i6 z24.1.hd.adv, i6 z24.1.hd.seq, i6 z24.1.hd.sum, i6 z24.1.hd.long, .slice z24.2.A z24.1.links.length z24.2.c, .slice z24.2.B z24.1.mem.length z24.2.d], fun _ h_ => rk (run_loadV (size := 9) (cs := lsaC z24) rfl (h_.d 3 167) (by kernel_rfl) rfl hq24), ?_⟩
                  refine ⟨fun a_ h_ => st_call (on_none rfl) (run_call rfl (map1 (h_.d 4 168)) rfl) (right04_any z24.1 z24.2 _ (by omega) (by omega) ((hok.each _ hmz).below (hS21.old (by simp)))) ?_, trivial⟩
                  rintro e w25 ⟨rfl, hb25⟩
                  refine ⟨_, rfl, _, rfl, ?_⟩
                  clear h_ a_
                  have hS25 := hS21.below hb25
                  clear hS21 hb25
                  refine ⟨.bool (!(rightB z24.1)), fun _ h_ => rk (run_not rfl (h_.d 5 169) rfl), ?_⟩
                  intro a23 hput
                  replace s1 := hput.o 1 s1
                  replace s2 := hput.o 2 s2
                  replace s6 := hput.o 6 s6
                  replace s157 := hput.o 157 s157
                  replace s158 := hput.o 158 s158
                  replace s159 := hput.o 159 s159
                  replace s160 := hput.o 160 s160
                  have s164 : sl a23 164 = pt g3 14 := hput.new 0 164 rfl
                  have s165 : sl a23 165 = .slice q.lA p.lsas.length q.lc := hput.new 1 165 rfl
                  have s166 : sl a23 166 = i6 k := hput.new 2 166 rfl
                  have s167 : sl a23 167 = pt b24 (o24 + k * 9) := hput.new 3 167 rfl
                  have s168 : sl a23 168 = .agg #[i6 z24.1.hd.age, i6 z24.1.hd.kind, i6 z24.1.hd.id, i6 z24.1.hd.adv, i6 z24.1.hd.seq, i6 z24.1.hd.sum, i6 z24.1.hd.long, .slice z24.2.A z24.1.links.length z24.2.c, .slice z24.2.B z24.1.mem.length z24.2.d] := hput.new 4 168 rfl
                  have s169 : sl a23 169 = .bool (rightB z24.1) := hput.new 5 169 rfl
                  have s170 : sl a23 170 = .bool (!(rightB z24.1)) := hput.new 6 170 rfl
                  replace hz := hput.size.trans hz
                  replace hd := hput.defers.trans hd
                  clear hput
                  change Code.wp _ _ _ _ _
                  refine wp_cond_b s170 (fun hc170 => ?_) (fun hc170 => ?_)
                  · clear s170
                    replace hc170 := nbt hc170
                    rw [hc170] at s169
                    refine wp_seq ?_
                    refine seq_l [] hz ?_
                    refine ⟨.bool false, fun _ h_ => rk (run_assign rfl rfl), ?_⟩
                    intro a26 hput
                    replace s1 := hput.o 1 s1
                    replace s2 : sl a26 2 = .bool false := hput.new 0 2 rfl
                    replace s6 := hput.o 6 s6
                    replace s157 := hput.o 157 s157
                    replace s158 := hput.o 158 s158
                    replace s159 := hput.o 159 s159
                    replace s160 := hput.o 160 s160
                    replace s164 := hput.o 164 s164
                    replace s165 := hput.o 165 s165
                    replace s166 := hput.o 166 s166
                    replace s167 := hput.o 167 s167
                    replace s168 := hput.o 168 s168
                    replace s169 := hput.o 169 s169
                    replace hz := hput.size.trans hz
                    replace hd := hput.defers.trans hd
                    clear hput
                    change Code.wp _ _ _ _ _
                    refine wp_ret ?_
                    refine ret1 (P := Try.prog) (fn := Try.f6) hd s2 (hR_ _ _ ?_)
                    first | exact ⟨_, rfl, (fun _ => by rw [List.take_of_length_le (by omega)] at hc2_1; exact hc2_1), (hS25.old (by simp))⟩ | exact ⟨_, rfl, (fun h => by cases h), (hS25.old (by simp))⟩
                  · clear s170
                    replace hc170 := nbf hc170
                    rw [hc170] at s169
                    refine wp_skip ?_
                    change Code.wp _ _ _ _ _
                    refine wp_seq ?_
                    refine seq_l [5] hz ?_
                    refine ⟨pt g3 14, fun _ h_ => rk (fa 14 rfl (h_.b 1 s1)),
                     .slice q.lA p.lsas.length q.lc, fun _ h_ => rk (ld hS25 0 rfl (h_.d 0 171)),
                     i6 k, fun _ h_ => rmv (h_.b 6 s6), ?_⟩
                    obtain ⟨b28, o28, z28, hA28, hb28, hz28, hq28⟩ := Reads.row_at lsaC 9 lsaC_len (k := k) ((hok.below (hS25.old (by simp))).lsas) (by decide) (by omega)
                    obtain rfl : z24 = z28 := Option.some.inj (hz24.symm.trans hz28)
                    have hmz := List.mem_of_getElem? hz28
                    obtain ⟨hz1, hz2⟩ := hsm.each _ hmz
                    refine ⟨pt b28 (o28 + k * 9), fun _ h_ => rk (run_indexV (size := 9) rfl (h_.d 1 172) hA28 (h_.d 2 173) (by kernel_rfl) (by omega) (by simp)),
                     .agg #[i6 z24.1.hd.age, i6 z24.1.hd.kind, i6 z24.1.hd.id, i6 z24.1.hd.adv, i6 z24.1.hd.seq, i6 z24.1.hd.sum, i6 z24.1.hd.long, .slice z24.2.A z24.1.links.length z24.2.c, .slice z24.2.B z24.1.mem.length z24.2.d], fun _ h_ => rk (run_loadV (size := 9) (cs := lsaC z24) rfl (h_.d 3 174) (by kernel_rfl) rfl hq28), ?_⟩
                    refine ⟨fun a_ h_ => st_call (on_none rfl) (run_call rfl (map1 (h_.d 4 175)) rfl) (bytes04_any z24.1 z24.2 _ (by omega) (by omega) (right_one hc170) ((hok.each _ hmz).below (hS25.old (by simp)))) ?_, trivial⟩
                    rintro e w29 ⟨A29, c29, rfl, ho29, hb29⟩
                    refine ⟨_, rfl, _, rfl, ?_⟩
                    clear h_ a_
                    have hS29 := hS25.pushRowI hb29 ho29
                    clear hS25 hb29 ho29
                    refine ⟨.slice A29 ((lsaB z24.1).length) c29, fun _ h_ => ras (h_.d 5 176), ?_⟩
                    intro a27 hput
                    replace s1 := hput.o 1 s1
                    replace s2 := hput.o 2 s2
                    replace s6 := hput.o 6 s6
                    have s7 : sl a27 7 = .slice A29 ((lsaB z24.1).length) c29 := hput.new 6 7 rfl
                    replace s157 := hput.o 157 s157
                    replace s158 := hput.o 158 s158
                    replace s159 := hput.o 159 s159
                    replace s160 := hput.o 160 s160
                    replace s164 := hput.o 164 s164
                    replace s165 := hput.o 165 s165
                    replace s166 := hput.o 166 s166
                    replace s167 := hput.o 167 s167
                    replace s168 := hput.o 168 s168
                    replace s169 := hput.o 169 s169
                    have s171 : sl a27 171 = pt g3 14 := hput.new 0 171 rfl
                    have s172 : sl a27 172 = .slice q.lA p.lsas.length q.lc := hput.new 1 172 rfl
                    have s173 : sl a27 173 = i6 k := hput.new 2 173 rfl
                    have s174 : sl a27 174 = pt b28 (o28 + k * 9) := hput.new 3 174 rfl
                    have s175 : sl a27 175 = .agg #[i6 z24.1.hd.age, i6 z24.1.hd.kind, i6 z24.1.hd.id, i6 z24.1.hd.adv, i6 z24.1.hd.seq, i6 z24.1.hd.sum, i6 z24.1.hd.long, .slice z24.2.A z24.1.links.length z24.2.c, .slice z24.2.B z24.1.mem.length z24.2.d] := hput.new 4 175 rfl
                    have s176 : sl a27 176 = .slice A29 ((lsaB z24.1).length) c29 := hput.new 5 176 rfl
                    replace hz := hput.size.trans hz
                    replace hd := hput.defers.trans hd
                    clear hput
                    change Code.wp _ _ _ _ _
                    refine wp_seq ?_
                    refine seq_l [6, 7] hz ?_
                    refine ⟨pt g3 14, fun _ h_ => rk (fa 14 rfl (h_.b 1 s1)),
                     .slice q.lA p.lsas.length q.lc, fun _ h_ => rk (ld hS29 0 rfl (h_.d 0 177)),
                     i6 k, fun _ h_ => rmv (h_.b 6 s6), ?_⟩
                    obtain ⟨b31, o31, z31, hA31, hb31, hz31, hq31⟩ := Reads.row_at lsaC 9 lsaC_len (k := k) ((hok.below (hS29.old (by simp))).lsas) (by decide) (by omega)
                    obtain rfl : z24 = z31 := Option.some.inj (hz24.symm.trans hz31)
                    have hmz := List.mem_of_getElem? hz31
                    obtain ⟨hz1, hz2⟩ := hsm.each _ hmz
                    refine ⟨pt b31 (o31 + k * 9), fun _ h_ => rk (run_indexV (size := 9) rfl (h_.d 1 178) hA31 (h_.d 2 179) (by kernel_rfl) (by omega) (by simp)),
                     pt b31 (o31 + k * 9), fun _ h_ => rk (fa 0 rfl (h_.d 3 180)),
                     .agg #[i6 z24.1.hd.age, i6 z24.1.hd.kind, i6 z24.1.hd.id, i6 z24.1.hd.adv, i6 z24.1.hd.seq, i6 z24.1.hd.sum, i6 z24.1.hd.long], fun _ h_ => rk (run_loadV (size := 7) (cs := [i6 z24.1.hd.age, i6 z24.1.hd.kind, i6 z24.1.hd.id, i6 z24.1.hd.adv, i6 z24.1.hd.seq, i6 z24.1.hd.sum, i6 z24.1.hd.long]) rfl (h_.d 4 181) (by kernel_rfl) rfl (fun i u hi => sub_cells hq31 0 7 hi)), ?_⟩
                    refine ⟨fun a_ h_ => st_alloc (cells := #[i6 0, i6 0, i6 0, i6 0, i6 0, i6 0, i6 0]) hS29 (on_none rfl) rfl (by kernel_rfl) fun g32 w32 hS32 hb32 => ⟨_, rfl, ?_⟩, trivial⟩
                    clear h_ a_ hS29
                    clear hb32
                    refine ⟨fun a_ h_ => st_store (n := 7) (cells := #[i6 z24.1.hd.age, i6 z24.1.hd.kind, i6 z24.1.hd.id, i6 z24.1.hd.adv, i6 z24.1.hd.seq, i6 z24.1.hd.sum, i6 z24.1.hd.long]) (cs' := #[i6 z24.1.hd.age, i6 z24.1.hd.kind, i6 z24.1.hd.id, i6 z24.1.hd.adv, i6 z24.1.hd.seq, i6 z24.1.hd.sum, i6 z24.1.hd.long]) 0 hS32 rfl (on_none rfl) rfl (h_.d 6 8) (h_.d 5 182) rfl (by kernel_rfl) ⟨Nat.le_of_ble_eq_true rfl, rfl, by kernel_rfl⟩ rfl fun w33 hS33 he33 => ⟨_, rfl, ?_⟩, trivial⟩
                    clear h_ a_ he33 hS32
                    replace hS33 : S (kap W) ((blkA g32 34 #[i6 z24.1.hd.age, i6 z24.1.hd.kind, i6 z24.1.hd.id, i6 z24.1.hd.adv, i6 z24.1.hd.seq, i6 z24.1.hd.sum, i6 z24.1.hd.long]) :: (blkA g3 31 #[i6 4, i6 p.src, i6 p.every, i6 p.dead, i6 p.prio, i6 p.dr, i6 p.bdr, .slice q.sA p.seen.length q.sc, .bool p.init, .bool p.more, .bool p.master, i6 p.seq, .slice q.hA p.heads.length q.hc, .slice q.kA p.keys.length q.kc, .slice q.lA p.lsas.length q.lc, .slice q.aA p.acks.length q.ac]) :: []) ((rowA (.slice A29 ((lsaB z24.1).length) c29) 5 1 ((lsaB z24.1).length) (u8s (lsaB z24.1))) :: (memA W W.heap.size) :: []) w33 := hS33
                    intro a30 hput
                    replace s1 := hput.o 1 s1
                    replace s2 := hput.o 2 s2
                    replace s6 := hput.o 6 s6
                    replace s7 := hput.o 7 s7
                    have s8 : sl a30 8 = pt g32 0 := hput.new 6 8 rfl
                    replace s157 := hput.o 157 s157
                    replace s158 := hput.o 158 s158
                    replace s159 := hput.o 159 s159
                    replace s160 := hput.o 160 s160
                    replace s164 := hput.o 164 s164
                    replace s165 := hput.o 165 s165
                    replace s166 := hput.o 166 s166
                    replace s167 := hput.o 167 s167
                    replace s168 := hput.o 168 s168
                    replace s169 := hput.o 169 s169
                    replace s171 := hput.o 171 s171
                    replace s172 := hput.o 172 s172
                    replace s173 := hput.o 173 s173
                    replace s174 := hput.o 174 s174
                    replace s175 := hput.o 175 s175
                    replace s176 := hput.o 176 s176
                    have s177 : sl a30 177 = pt g3 14 := hput.new 0 177 rfl
                    have s178 : sl a30 178 = .slice q.lA p.lsas.length q.lc := hput.new 1 178 rfl
                    have s179 : sl a30 179 = i6 k := hput.new 2 179 rfl
                    have s180 : sl a30 180 = pt b31 (o31 + k * 9) := hput.new 3 180 rfl
                    have s181 : sl a30 181 = pt b31 (o31 + k * 9) := hput.new 4 181 rfl
                    have s182 : sl a30 182 = .agg #[i6 z24.1.hd.age, i6 z24.1.hd.kind, i6 z24.1.hd.id, i6 z24.1.hd.adv, i6 z24.1.hd.seq, i6 z24.1.hd.sum, i6 z24.1.hd.long] := hput.new 5 182 rfl
                    replace hz := hput.size.trans hz
                    replace hd := hput.defers.trans hd
                    clear hput
                    change Code.wp _ _ _ _ _
                    refine wp_seq ?_
                    refine seq_r [[], [0], [], [2], [0, 1, 2, 3], [0, 1, 2, 3, 4], [0, 1, 2, 3, 4, 5], [0, 1, 2, 3, 4, 5, 6], [0, 1, 2, 3, 4, 5], [0, 1, 2, 3, 4, 5, 8], [0, 1, 2, 3, 4, 5, 8, 9], [0, 1, 2, 3, 4, 5, 6, 7, 8, 9, 10], [0, 1, 2, 3, 4, 5, 6, 7, 8, 9, 10, 11]] [10] (.rd 0 (.rd 1 (.rd 2 (.rd 3 (.rd 4 (.rd 5 (.rd 6 (.rd 7 (.rd 8 (.rd 9 (.ef 10 (.ag 6 (.ag 7 (.rd 11 (.rd 12 (.fin))))) .non))))))))))) hz fun w34 hb34 => ?_
                    replace hS33 := hS33.below hb34
                    refine ⟨pt g32 6, fun _ h_ => rk (fa 6 rfl (h_.b 8 s8)),
                     i6 z24.1.hd.long, fun _ h_ => rk (ld hS33 0 rfl (h_.d 0 183)),
                     .slice A29 ((lsaB z24.1).length) c29, fun _ h_ => rmv (h_.b 7 s7),
                     i6 (((lsaB z24.1).length : Nat) : Int), fun _ h_ => rk (run_lenS rfl (h_.d 2 185) (by kernel_rfl)),
                     .bool (decide ((z24.1.hd.long : Int) ≠ (((lsaB z24.1).length : Nat) : Int))), fun _ h_ => rk (run_cmp rfl (h_.d 1 184) (h_.d 3 186) rfl (by first | rfl | exact neq_dec _ _ | exact eq_dec _ _ | simp)),
                     .bool (decide ((z24.1.hd.long : Int) ≠ (((lsaB z24.1).length : Nat) : Int))), fun _ h_ => rmv (h_.d 4 187), ?_⟩
                    rcases dt ((z24.1.hd.long : Int) ≠ (((lsaB z24.1).length : Nat) : Int)) with ⟨he, hg5⟩ | ⟨he, hg5⟩
                    · rw [he]
                      clear he
                      refine seq_off (j := 5) (d := 188) (b := false) [6, 7, 8, 9] _ (by kernel_rfl) (.inl rfl) ?_
                      refine seq_offe (j := 5) (d := 188) (b := false) (by kernel_rfl) (.inl rfl) ?_
                      refine ⟨fun _ h_ => r_off (isOff rfl (by kernel_rfl) (h_.d 5 188) (.inl rfl)) rfl,
                       fun _ h_ => r_off (isOff rfl (by kernel_rfl) (h_.d 5 188) (.inl rfl)) rfl, ?_⟩
                      refine seq_off (j := 5) (d := 188) (b := false) [11] _ (by kernel_rfl) (.inl rfl) ?_
                      refine ⟨.bool true, fun _ h_ => rk (run_pick_t rfl (h_.d 5 188) rfl), ?_⟩
                      intro a34 hput
                      replace s1 := hput.o 1 s1
                      replace s2 := hput.o 2 s2
                      replace s6 := hput.o 6 s6
                      replace s7 := hput.o 7 s7
                      replace s8 := hput.o 8 s8
                      replace s157 := hput.o 157 s157
                      replace s158 := hput.o 158 s158
                      replace s159 := hput.o 159 s159
                      replace s160 := hput.o 160 s160
                      replace s164 := hput.o 164 s164
                      replace s165 := hput.o 165 s165
                      replace s166 := hput.o 166 s166
                      replace s167 := hput.o 167 s167
                      replace s168 := hput.o 168 s168
                      replace s169 := hput.o 169 s169
                      replace s171 := hput.o 171 s171
                      replace s172 := hput.o 172 s172
                      replace s173 := hput.o 173 s173
                      replace s174 := hput.o 174 s174
                      replace s175 := hput.o 175 s175
                      replace s176 := hput.o 176 s176
                      replace s177 := hput.o 177 s177
                      replace s178 := hput.o 178 s178
                      replace s179 := hput.o 179 s179
                      replace s180 := hput.o 180 s180
                      replace s181 := hput.o 181 s181
                      replace s182 := hput.o 182 s182
                      have s183 : sl a34 183 = pt g32 6 := hput.new 0 183 rfl
                      have s184 : sl a34 184 = i6 z24.1.hd.long := hput.new 1 184 rfl
                      have s185 : sl a34 185 = .slice A29 ((lsaB z24.1).length) c29 := hput.new 2 185 rfl
                      have s186 : sl a34 186 = i6 (((lsaB z24.1).length : Nat) : Int) := hput.new 3 186 rfl
                      have s187 : sl a34 187 = .bool true := hput.new 4 187 rfl
                      have s188 : sl a34 188 = .bool true := hput.new 5 188 rfl
                      have s195 : sl a34 195 = .bool true := hput.new 12 195 rfl
                      replace hz := hput.size.trans hz
                      replace hd := hput.defers.trans hd
                      clear hput
                      change Code.wp _ _ _ _ _
                      refine wp_cond_true s195 ?_
                      refine wp_seq ?_
                      refine seq_l [] hz ?_
                      refine ⟨.bool false, fun _ h_ => rk (run_assign rfl rfl), ?_⟩
                      intro a35 hput
                      replace s1 := hput.o 1 s1
                      replace s2 : sl a35 2 = .bool false := hput.new 0 2 rfl
                      replace s6 := hput.o 6 s6
                      replace s7 := hput.o 7 s7
                      replace s8 := hput.o 8 s8
                      replace s157 := hput.o 157 s157
                      replace s158 := hput.o 158 s158
                      replace s159 := hput.o 159 s159
                      replace s160 := hput.o 160 s160
                      replace s164 := hput.o 164 s164
                      replace s165 := hput.o 165 s165
                      replace s166 := hput.o 166 s166
                      replace s167 := hput.o 167 s167
                      replace s168 := hput.o 168 s168
                      replace s169 := hput.o 169 s169
                      replace s171 := hput.o 171 s171
                      replace s172 := hput.o 172 s172
                      replace s173 := hput.o 173 s173
                      replace s174 := hput.o 174 s174
                      replace s175 := hput.o 175 s175
                      replace s176 := hput.o 176 s176
                      replace s177 := hput.o 177 s177
                      replace s178 := hput.o 178 s178
                      replace s179 := hput.o 179 s179
                      replace s180 := hput.o 180 s180
                      replace s181 := hput.o 181 s181
                      replace s182 := hput.o 182 s182
                      replace s183 := hput.o 183 s183
                      replace s184 := hput.o 184 s184
                      replace s185 := hput.o 185 s185
                      replace s186 := hput.o 186 s186
                      replace s187 := hput.o 187 s187
                      replace s188 := hput.o 188 s188
                      replace s195 := hput.o 195 s195
                      replace hz := hput.size.trans hz
                      replace hd := hput.defers.trans hd
                      clear hput
                      change Code.wp _ _ _ _ _
                      refine wp_ret ?_
                      refine ret1 (P := Try.prog) (fn := Try.f6) hd s2 (hR_ _ _ ?_)
                      first | exact ⟨_, rfl, (fun _ => by rw [List.take_of_length_le (by omega)] at hc2_1; exact hc2_1), (hS33.old (by simp))⟩ | exact ⟨_, rfl, (fun h => by cases h), (hS33.old (by simp))⟩
                    · rw [he]
                      clear he
                      refine ⟨pt g32 5, fun _ h_ => r_ok (h_.on 5 188) (fa 5 rfl (h_.b 8 s8)),
                       i6 z24.1.hd.sum, fun _ h_ => r_ok (h_.on 5 188) (ld hS33 0 rfl (h_.d 6 189)),
                       .slice A29 ((lsaB z24.1).length) c29, fun _ h_ => r_ok (h_.on 5 188) (run_move rfl (h_.b 7 s7)),
                       .slice (cutA A29 16 c29 1) (18 - 16) (c29 - 16), fun _ h_ => r_ok (h_.on 5 188) (run_cutLH rfl (h_.d 8 191) rfl rfl (by have := hS33.rowCapI (i := 0) rfl; have := lsaB_length z24.1; omega) rfl rfl), ?_⟩
                      refine ⟨fun a_ h_ => st_call (h_.on 5 188) (run_call rfl (map1 (h_.d 9 192)) rfl) (number01_any _ _ _ (((lsaB z24.1).drop 16).take (18 - 16)) _ (by omega) ((hS33.rdI (i := 0) rfl).cutU (l := 16) (h := 18) (by omega) (by have := lsaB_length z24.1; omega) (hS33.rowCapI (i := 0) rfl)) (fun z hz => lsaB_byte z24.1 z (List.mem_of_mem_drop (List.mem_of_mem_take hz)))) ?_, trivial⟩
                      rintro e w36 ⟨rfl, hb36⟩
                      refine ⟨_, rfl, _, rfl, ?_⟩
                      clear h_ a_
                      have hS36 := hS33.below hb36
                      clear hS33 hb36
                      refine ⟨fun _ h_ => r_ok (h_.on 5 188) (fa 5 rfl (h_.b 8 s8)),
                       fun _ h_ => r_ok (h_.on 5 188) (ld hS36 0 rfl (h_.d 6 189)),
                       .bool (decide ((z24.1.hd.sum : Int) ≠ numOf (((lsaB z24.1).drop 16).take 2))), fun _ h_ => r_ok (h_.on 5 188) (run_cmp rfl (h_.d 7 190) (h_.d 10 193) rfl (by first | rfl | exact neq_dec _ _ | exact eq_dec _ _ | simp)),
                       .bool (decide ((z24.1.hd.sum : Int) ≠ numOf (((lsaB z24.1).drop 16).take 2))), fun _ h_ => rk (run_pick_f rfl (h_.d 5 188) (h_.d 11 194)), ?_⟩
                      intro a34 hput
                      replace s1 := hput.o 1 s1
                      replace s2 := hput.o 2 s2
                      replace s6 := hput.o 6 s6
                      replace s7 := hput.o 7 s7
                      replace s8 := hput.o 8 s8
                      replace s157 := hput.o 157 s157
                      replace s158 := hput.o 158 s158
                      replace s159 := hput.o 159 s159
                      replace s160 := hput.o 160 s160
                      replace s164 := hput.o 164 s164
                      replace s165 := hput.o 165 s165
                      replace s166 := hput.o 166 s166
                      replace s167 := hput.o 167 s167
                      replace s168 := hput.o 168 s168
                      replace s169 := hput.o 169 s169
                      replace s171 := hput.o 171 s171
                      replace s172 := hput.o 172 s172
                      replace s173 := hput.o 173 s173
                      replace s174 := hput.o 174 s174
                      replace s175 := hput.o 175 s175
                      replace s176 := hput.o 176 s176
                      replace s177 := hput.o 177 s177
                      replace s178 := hput.o 178 s178
                      replace s179 := hput.o 179 s179
                      replace s180 := hput.o 180 s180
                      replace s181 := hput.o 181 s181
                      replace s182 := hput.o 182 s182
                      have s183 : sl a34 183 = pt g32 6 := hput.new 0 183 rfl
                      have s184 : sl a34 184 = i6 z24.1.hd.long := hput.new 1 184 rfl
                      have s185 : sl a34 185 = .slice A29 ((lsaB z24.1).length) c29 := hput.new 2 185 rfl
                      have s186 : sl a34 186 = i6 (((lsaB z24.1).length : Nat) : Int) := hput.new 3 186 rfl
                      have s187 : sl a34 187 = .bool false := hput.new 4 187 rfl
                      have s188 : sl a34 188 = .bool false := hput.new 5 188 rfl
                      have s189 : sl a34 189 = pt g32 5 := hput.new 6 189 rfl
                      have s190 : sl a34 190 = i6 z24.1.hd.sum := hput.new 7 190 rfl
                      have s191 : sl a34 191 = .slice A29 ((lsaB z24.1).length) c29 := hput.new 8 191 rfl
                      have s192 : sl a34 192 = .slice (cutA A29 16 c29 1) (18 - 16) (c29 - 16) := hput.new 9 192 rfl
                      have s193 : sl a34 193 = i6 (numOf (((lsaB z24.1).drop 16).take 2)) := hput.new 10 193 rfl
                      have s194 : sl a34 194 = .bool (decide ((z24.1.hd.sum : Int) ≠ numOf (((lsaB z24.1).drop 16).take 2))) := hput.new 11 194 rfl
                      have s195 : sl a34 195 = .bool (decide ((z24.1.hd.sum : Int) ≠ numOf (((lsaB z24.1).drop 16).take 2))) := hput.new 12 195 rfl
                      replace hz := hput.size.trans hz
                      replace hd := hput.defers.trans hd
                      clear hput
                      change Code.wp _ _ _ _ _
                      refine wp_cond_d s195 (fun hc195 => ?_) (fun hc195 => ?_)
                      · clear s195
                        refine wp_seq ?_
                        refine seq_l [] hz ?_
                        refine ⟨.bool false, fun _ h_ => rk (run_assign rfl rfl), ?_⟩
                        intro a37 hput
                        replace s1 := hput.o 1 s1
                        replace s2 : sl a37 2 = .bool false := hput.new 0 2 rfl
                        replace s6 := hput.o 6 s6
                        replace s7 := hput.o 7 s7
                        replace s8 := hput.o 8 s8
                        replace s157 := hput.o 157 s157
                        replace s158 := hput.o 158 s158
                        replace s159 := hput.o 159 s159
                        replace s160 := hput.o 160 s160
                        replace s164 := hput.o 164 s164
                        replace s165 := hput.o 165 s165
                        replace s166 := hput.o 166 s166
                        replace s167 := hput.o 167 s167
                        replace s168 := hput.o 168 s168
                        replace s169 := hput.o 169 s169
                        replace s171 := hput.o 171 s171
                        replace s172 := hput.o 172 s172
                        replace s173 := hput.o 173 s173
                        replace s174 := hput.o 174 s174
                        replace s175 := hput.o 175 s175
                        replace s176 := hput.o 176 s176
                        replace s177 := hput.o 177 s177
                        replace s178 := hput.o 178 s178
                        replace s179 := hput.o 179 s179
                        replace s180 := hput.o 180 s180
                        replace s181 := hput.o 181 s181
                        replace s182 := hput.o 182 s182
                        replace s183 := hput.o 183 s183
                        replace s184 := hput.o 184 s184
                        replace s185 := hput.o 185 s185
                        replace s186 := hput.o 186 s186
                        replace s187 := hput.o 187 s187
                        replace s188 := hput.o 188 s188
                        replace s189 := hput.o 189 s189
                        replace s190 := hput.o 190 s190
                        replace s191 := hput.o 191 s191
                        replace s192 := hput.o 192 s192
                        replace s193 := hput.o 193 s193
                        replace s194 := hput.o 194 s194
                        replace hz := hput.size.trans hz
                        replace hd := hput.defers.trans hd
                        clear hput
                        change Code.wp _ _ _ _ _
                        refine wp_ret ?_
                        refine ret1 (P := Try.prog) (fn := Try.f6) hd s2 (hR_ _ _ ?_)
                        first | exact ⟨_, rfl, (fun _ => by rw [List.take_of_length_le (by omega)] at hc2_1; exact hc2_1), (hS36.old (by simp))⟩ | exact ⟨_, rfl, (fun h => by cases h), (hS36.old (by simp))⟩
                      · clear s195
                        refine wp_skip ?_
                        change Code.wp _ _ _ _ _
                        refine seq_l [] hz ?_
                        refine ⟨i6 k, fun _ h_ => rmv (h_.b 6 s6),
                         i6 (k + 1), fun _ h_ => rk (run_addI rfl (h_.d 0 162) rfl (by omega) rfl),
                         i6 (k + 1), fun _ h_ => ras (h_.d 1 163), ?_⟩
                        intro a38 hput
                        replace s1 := hput.o 1 s1
                        replace s2 := hput.o 2 s2
                        replace s6 : sl a38 6 = i6 (k + 1) := hput.new 2 6 rfl
                        replace s7 := hput.o 7 s7
                        replace s8 := hput.o 8 s8
                        replace s157 := hput.o 157 s157
                        replace s158 := hput.o 158 s158
                        replace s159 := hput.o 159 s159
                        replace s160 := hput.o 160 s160
                        have s162 : sl a38 162 = i6 k := hput.new 0 162 rfl
                        have s163 : sl a38 163 = i6 (k + 1) := hput.new 1 163 rfl
                        replace s164 := hput.o 164 s164
                        replace s165 := hput.o 165 s165
                        replace s166 := hput.o 166 s166
                        replace s167 := hput.o 167 s167
                        replace s168 := hput.o 168 s168
                        replace s169 := hput.o 169 s169
                        replace s171 := hput.o 171 s171
                        replace s172 := hput.o 172 s172
                        replace s173 := hput.o 173 s173
                        replace s174 := hput.o 174 s174
                        replace s175 := hput.o 175 s175
                        replace s176 := hput.o 176 s176
                        replace s177 := hput.o 177 s177
                        replace s178 := hput.o 178 s178
                        replace s179 := hput.o 179 s179
                        replace s180 := hput.o 180 s180
                        replace s181 := hput.o 181 s181
                        replace s182 := hput.o 182 s182
                        replace s183 := hput.o 183 s183
                        replace s184 := hput.o 184 s184
                        replace s185 := hput.o 185 s185
                        replace s186 := hput.o 186 s186
                        replace s187 := hput.o 187 s187
                        replace s188 := hput.o 188 s188
                        replace s189 := hput.o 189 s189
                        replace s190 := hput.o 190 s190
                        replace s191 := hput.o 191 s191
                        replace s192 := hput.o 192 s192
                        replace s193 := hput.o 193 s193
                        replace s194 := hput.o 194 s194
                        replace hz := hput.size.trans hz
                        replace hd := hput.defers.trans hd
                        clear hput
                        have hSd := hS36.drop.dropI
                        refine ⟨⟨k + 1, by omega, all_more hc2_1 hz24 hc170, hz, hd, s1, s2, s6, hSd⟩, ?_⟩
                        show p.lsas.length - (intOf (sl a38 6)).toNat < p.lsas.length - (intOf (sl a21 6)).toNat
                        rw [show sl a38 6 = _ from s6, show sl a21 6 = _ from hmu2]
                        simp only [intOf]
                        omega
                · clear s161
                  refine wp_exit ?_
                  change Code.wp _ _ _ _ _
                  refine wp_seq ?_
                  refine seq_l [3] hz ?_
                  refine ⟨pt g3 14, fun _ h_ => rk (fa 14 rfl (h_.b 1 s1)),
                   .slice q.lA p.lsas.length q.lc, fun _ h_ => rk (ld hS21 0 rfl (h_.d 0 196)),
                   i6 p.lsas.length, fun _ h_ => rk (run_lenS rfl (h_.d 1 197) (by kernel_rfl)), ?_⟩
                  refine ⟨fun a_ h_ => st_call (on_none rfl) (run_call rfl (map3 (h_.d 2 198) rfl rfl) rfl) (in05_any _ _ _ _) ?_, trivial⟩
                  rintro e w40 ⟨b40, rfl, hb40⟩
                  refine ⟨_, rfl, _, rfl, ?_⟩
                  clear h_ a_
                  have hS40 := hS21.below hb40
                  clear hS21 hb40
                  refine ⟨.bool b40, fun _ h_ => ras (h_.d 3 199), ?_⟩
                  intro a39 hput
                  replace s2 : sl a39 2 = .bool b40 := hput.new 4 2 rfl
                  replace hz := hput.size.trans hz
                  replace hd := hput.defers.trans hd
                  clear hput s1 s6 s157 s158 s159 s160
                  change Code.wp _ _ _ _ _
                  refine wp_ret ?_
                  refine ret1 (P := Try.prog) (fn := Try.f6) hd s2 (hR_ _ _ ?_)
                  first | exact ⟨_, rfl, (fun _ => by rw [List.take_of_length_le (by omega)] at hc2_1; exact hc2_1), (hS40.old (by simp))⟩ | exact ⟨_, rfl, (fun h => by cases h), (hS40.old (by simp))⟩
set_option maxRecDepth 100000 in
set_option maxHeartbeats 800000 in
theorem right05_5 (p : PkV) (q : PkP) (W : World) (hsm : PkSm p) (hok : PkOK W p q) :
    Calls Try.prog 6 #[.agg #[i6 5, i6 p.src, i6 p.every, i6 p.dead, i6 p.prio, i6 p.dr, i6 p.bdr, .slice q.sA p.seen.length q.sc, .bool p.init, .bool p.more, .bool p.master, i6 p.seq, .slice q.hA p.heads.length q.hc, .slice q.kA p.keys.length q.kc, .slice q.lA p.lsas.length q.lc, .slice q.aA p.acks.length q.ac]] W (fun r w' => ∃ b : Bool, r = .returned (.bool b) ∧ Below W.heap.size W w') := by
  obtain ⟨hsn, hhd, hky, hls, hak, _⟩ := id hsm
  have hS := S.start W
  refine calls_walk Try.func6 rfl fun R_ hR_ a hz hd hargs => ?_
  replace hz : a.tmps.size = 200 := hz.trans (by kernel_rfl)
  have s0 := hargs 0 _ rfl
  clear hargs
  refine wp_seq ?_
  refine seq_l [0] hz ?_
  refine ⟨fun a_ h_ => st_box (cells := #[i6 5, i6 p.src, i6 p.every, i6 p.dead, i6 p.prio, i6 p.dr, i6 p.bdr, .slice q.sA p.seen.length q.sc, .bool p.init, .bool p.more, .bool p.master, i6 p.seq, .slice q.hA p.heads.length q.hc, .slice q.kA p.keys.length q.kc, .slice q.lA p.lsas.length q.lc, .slice q.aA p.acks.length q.ac]) hS (on_none rfl) rfl (h_.b 0 s0) (by kernel_rfl) fun g3 w3 hS3 hb3 => ⟨_, rfl, ?_⟩, trivial⟩
  clear h_ a_ hS
  clear hb3
  refine ⟨.bool false, fun _ h_ => rk (run_assign rfl rfl), ?_⟩
  intro a2 hput
  have s1 : sl a2 1 = pt g3 0 := hput.new 0 1 rfl
  have s2 : sl a2 2 = .bool false := hput.new 1 2 rfl
  replace hz := hput.size.trans hz
  replace hd := hput.defers.trans hd
  clear hput s0
  change Code.wp _ _ _ _ _
  refine wp_seq ?_
  refine wp_seq ?_
  refine seq_l [2, 7] hz ?_
  refine ⟨pt g3 0, fun _ h_ => rk (fa 0 rfl (h_.b 1 s1)),
   i6 5, fun _ h_ => rk (ld hS3 0 rfl (h_.d 0 9)), ?_⟩
  refine ⟨fun a_ h_ => st_call (on_none rfl) (run_call rfl (map3 (h_.d 1 10) rfl rfl) rfl) (in05_any _ _ _ _) ?_, trivial⟩
  rintro e w5 ⟨b5, rfl, hb5⟩
  refine ⟨_, rfl, _, rfl, ?_⟩
  clear h_ a_
  have hS5 := hS3.below hb5
  clear hS3 hb5
  refine ⟨.bool (!b5), fun _ h_ => rk (run_not rfl (h_.d 2 11) rfl),
   .bool (!b5), fun _ h_ => rmv (h_.d 3 12), ?_⟩
  rcases bt (!b5) with hg4 | hg4
  · rw [hg4]
    refine seq_off (j := 4) (d := 13) (b := false) [5, 6] _ (by kernel_rfl) (.inl rfl) ?_
    refine seq_offe (j := 4) (d := 13) (b := false) (by kernel_rfl) (.inl rfl) ?_
    refine seq_off (j := 4) (d := 13) (b := false) [8] _ (by kernel_rfl) (.inl rfl) ?_
    refine ⟨.bool true, fun _ h_ => rk (run_pick_t rfl (h_.d 4 13) rfl), ?_⟩
    intro a4 hput
    replace s1 := hput.o 1 s1
    replace s2 := hput.o 2 s2
    have s18 : sl a4 18 = .bool true := hput.new 9 18 rfl
    replace hz := hput.size.trans hz
    replace hd := hput.defers.trans hd
    clear hput
    change Code.wp _ _ _ _ _
    refine wp_cond_true s18 ?_
    refine wp_seq ?_
    refine seq_l [] hz ?_
    refine ⟨.bool false, fun _ h_ => rk (run_assign rfl rfl), ?_⟩
    intro a6 hput
    replace s1 := hput.o 1 s1
    replace s2 : sl a6 2 = .bool false := hput.new 0 2 rfl
    replace hz := hput.size.trans hz
    replace hd := hput.defers.trans hd
    clear hput s18
    change Code.wp _ _ _ _ _
    refine wp_ret ?_
    refine ret1 (P := Try.prog) (fn := Try.f6) hd s2 (hR_ _ _ ?_)
    exact ⟨_, rfl, (hS5.old (by simp))⟩
  · rw [hg4]
    refine ⟨pt g3 1, fun _ h_ => r_ok (h_.on 4 13) (fa 1 rfl (h_.b 1 s1)),
     i6 p.src, fun _ h_ => r_ok (h_.on 4 13) (ld hS5 0 rfl (h_.d 5 14)), ?_⟩
    refine ⟨fun a_ h_ => st_call (h_.on 4 13) (run_call rfl (map3 (h_.d 6 15) rfl rfl) rfl) (in05_any _ _ _ _) ?_, trivial⟩
    rintro e w7 ⟨b7, rfl, hb7⟩
    refine ⟨_, rfl, _, rfl, ?_⟩
    clear h_ a_
    have hS7 := hS5.below hb7
    clear hS5 hb7
    refine ⟨.bool (!b7), fun _ h_ => r_ok (h_.on 4 13) (run_not rfl (h_.d 7 16) rfl),
     .bool (!b7), fun _ h_ => rk (run_pick_f rfl (h_.d 4 13) (h_.d 8 17)), ?_⟩
    intro a4 hput
    replace s1 := hput.o 1 s1
    replace s2 := hput.o 2 s2
    have s18 : sl a4 18 = .bool (!b7) := hput.new 9 18 rfl
    replace hz := hput.size.trans hz
    replace hd := hput.defers.trans hd
    clear hput
    change Code.wp _ _ _ _ _
    refine wp_cond_b s18 (fun hc18 => ?_) (fun hc18 => ?_)
    · clear s18
      replace hc18 := nbt hc18
      refine wp_seq ?_
      refine seq_l [] hz ?_
      refine ⟨.bool false, fun _ h_ => rk (run_assign rfl rfl), ?_⟩
      intro a8 hput
      replace s1 := hput.o 1 s1
      replace s2 : sl a8 2 = .bool false := hput.new 0 2 rfl
      replace hz := hput.size.trans hz
      replace hd := hput.defers.trans hd
      clear hput
      change Code.wp _ _ _ _ _
      refine wp_ret ?_
      refine ret1 (P := Try.prog) (fn := Try.f6) hd s2 (hR_ _ _ ?_)
      exact ⟨_, rfl, (hS7.old (by simp))⟩
    · clear s18
      replace hc18 := nbf hc18
      refine wp_skip ?_
      change Code.wp _ _ _ _ _
      refine wp_seq ?_
      refine wp_seq ?_
      refine seq_l [6, 16] hz ?_
      refine ⟨pt g3 0, fun _ h_ => rk (fa 0 rfl (h_.b 1 s1)),
       i6 5, fun _ h_ => rk (ld hS7 0 rfl (h_.d 0 19)),
       .bool true, fun _ h_ => rk (run_cmp rfl (h_.d 1 20) rfl rfl (by decide)),
       .bool true, fun _ h_ => rmv (h_.d 2 21),
       pt g3 2, fun _ h_ => r_ok (h_.on 3 22) (fa 2 rfl (h_.b 1 s1)),
       .agg #[i6 p.every, i6 p.dead, i6 p.prio, i6 p.dr, i6 p.bdr, .slice q.sA p.seen.length q.sc], fun _ h_ => r_ok (h_.on 3 22) (lbS 6 (hS7.blk (i := 0) rfl) rfl (h_.d 4 23)), ?_⟩
      refine ⟨fun a_ h_ => st_call (h_.on 3 22) (run_call rfl (map1 (h_.d 5 24)) rfl) (noHello05_any p q _ hsm (hok.below (hS7.old (by simp)))) ?_, trivial⟩
      rintro e w10 ⟨b10, rfl, hb10⟩
      refine ⟨_, rfl, _, rfl, ?_⟩
      clear h_ a_
      have hS10 := hS7.below hb10
      clear hS7 hb10
      refine ⟨.bool (!b10), fun _ h_ => r_ok (h_.on 3 22) (run_not rfl (h_.d 6 25) rfl),
       .bool (!b10), fun _ h_ => rk (run_pick_t rfl (h_.d 3 22) (h_.d 7 26)),
       .bool (!b10), fun _ h_ => rmv (h_.d 8 27), ?_⟩
      rcases bt (!b10) with hg9 | hg9
      · rw [hg9]
        refine seq_off (j := 9) (d := 28) (b := false) [10, 11, 12, 13] _ (by kernel_rfl) (.inl rfl) ?_
        refine seq_off (j := 13) (d := 32) (b := true) [14, 15] _ (by kernel_rfl) (.inr rfl) ?_
        refine seq_offe (j := 13) (d := 32) (b := true) (by kernel_rfl) (.inr rfl) ?_
        refine seq_off (j := 13) (d := 32) (b := true) [17] _ (by kernel_rfl) (.inr rfl) ?_
        refine seq_off (j := 9) (d := 28) (b := false) [18] _ (by kernel_rfl) (.inl rfl) ?_
        refine ⟨.bool true, fun _ h_ => rk (run_pick_t rfl (h_.d 9 28) rfl),
         .bool true, fun _ h_ => rmv (h_.d 19 38), ?_⟩
        refine seq_off (j := 20) (d := 39) (b := false) [21, 22, 23, 24] _ (by kernel_rfl) (.inl rfl) ?_
        refine seq_off (j := 24) (d := 43) (b := true) [25, 26, 27, 28] _ (by kernel_rfl) (.inr rfl) ?_
        refine seq_off (j := 20) (d := 39) (b := false) [29] _ (by kernel_rfl) (.inl rfl) ?_
        refine ⟨.bool true, fun _ h_ => rk (run_pick_t rfl (h_.d 20 39) rfl),
         .bool true, fun _ h_ => rmv (h_.d 30 49), ?_⟩
        refine seq_off (j := 31) (d := 50) (b := false) [32, 33, 34, 35] _ (by kernel_rfl) (.inl rfl) ?_
        refine seq_off (j := 35) (d := 54) (b := true) [36, 37, 38, 39] _ (by kernel_rfl) (.inr rfl) ?_
        refine seq_off (j := 31) (d := 50) (b := false) [40] _ (by kernel_rfl) (.inl rfl) ?_
        refine ⟨.bool true, fun _ h_ => rk (run_pick_t rfl (h_.d 31 50) rfl),
         .bool true, fun _ h_ => rmv (h_.d 41 60), ?_⟩
        refine seq_off (j := 42) (d := 61) (b := false) [43, 44, 45, 46] _ (by kernel_rfl) (.inl rfl) ?_
        refine seq_off (j := 46) (d := 65) (b := true) [47, 48, 49, 50] _ (by kernel_rfl) (.inr rfl) ?_
        refine seq_off (j := 42) (d := 61) (b := false) [51] _ (by kernel_rfl) (.inl rfl) ?_
        refine ⟨.bool true, fun _ h_ => rk (run_pick_t rfl (h_.d 42 61) rfl), ?_⟩
        intro a9 hput
        replace s1 := hput.o 1 s1
        replace s2 := hput.o 2 s2
        have s71 : sl a9 71 = .bool true := hput.new 52 71 rfl
        replace hz := hput.size.trans hz
        replace hd := hput.defers.trans hd
        clear hput
        change Code.wp _ _ _ _ _
        refine wp_cond_true s71 ?_
        refine wp_seq ?_
        refine seq_l [] hz ?_
        refine ⟨.bool false, fun _ h_ => rk (run_assign rfl rfl), ?_⟩
        intro a11 hput
        replace s1 := hput.o 1 s1
        replace s2 : sl a11 2 = .bool false := hput.new 0 2 rfl
        replace hz := hput.size.trans hz
        replace hd := hput.defers.trans hd
        clear hput s71
        change Code.wp _ _ _ _ _
        refine wp_ret ?_
        refine ret1 (P := Try.prog) (fn := Try.f6) hd s2 (hR_ _ _ ?_)
        exact ⟨_, rfl, (hS10.old (by simp))⟩
      · rw [hg9]
        refine ⟨pt g3 0, fun _ h_ => r_ok (h_.on 9 28) (fa 0 rfl (h_.b 1 s1)),
         i6 5, fun _ h_ => r_ok (h_.on 9 28) (ld hS10 0 rfl (h_.d 10 29)),
         .bool true, fun _ h_ => r_ok (h_.on 9 28) (run_cmp rfl (h_.d 11 30) rfl rfl (by decide)),
         .bool true, fun _ h_ => r_ok (h_.on 9 28) (run_move rfl (h_.d 12 31)),
         pt g3 8, fun _ h_ => r_ok (h_.on 13 32) (fa 8 rfl (h_.b 1 s1)),
         .agg #[.bool p.init, .bool p.more, .bool p.master, i6 p.seq, .slice q.hA p.heads.length q.hc], fun _ h_ => r_ok (h_.on 13 32) (lbS 5 (hS10.blk (i := 0) rfl) rfl (h_.d 14 33)), ?_⟩
        refine ⟨fun a_ h_ => st_call (h_.on 13 32) (run_call rfl (map1 (h_.d 15 34)) rfl) (noDd05_any p q _ hsm (hok.below (hS10.old (by simp)))) ?_, trivial⟩
        rintro e w12 ⟨b12, rfl, hb12⟩
        refine ⟨_, rfl, _, rfl, ?_⟩
        clear h_ a_
        have hS12 := hS10.below hb12
        clear hS10 hb12
        refine ⟨.bool (!b12), fun _ h_ => r_ok (h_.on 13 32) (run_not rfl (h_.d 16 35) rfl),
         .bool (!b12), fun _ h_ => r_ok (h_.on 9 28) (run_pick_t rfl (h_.d 13 32) (h_.d 17 36)),
         .bool (!b12), fun _ h_ => rk (run_pick_f rfl (h_.d 9 28) (h_.d 18 37)),
         .bool (!b12), fun _ h_ => rmv (h_.d 19 38), ?_⟩
        rcases bt (!b12) with hg20 | hg20
        · rw [hg20]
          refine seq_off (j := 20) (d := 39) (b := false) [21, 22, 23, 24] _ (by kernel_rfl) (.inl rfl) ?_
          refine seq_off (j := 24) (d := 43) (b := true) [25, 26, 27, 28] _ (by kernel_rfl) (.inr rfl) ?_
          refine seq_off (j := 20) (d := 39) (b := false) [29] _ (by kernel_rfl) (.inl rfl) ?_
          refine ⟨.bool true, fun _ h_ => rk (run_pick_t rfl (h_.d 20 39) rfl),
           .bool true, fun _ h_ => rmv (h_.d 30 49), ?_⟩
          refine seq_off (j := 31) (d := 50) (b := false) [32, 33, 34, 35] _ (by kernel_rfl) (.inl rfl) ?_
          refine seq_off (j := 35) (d := 54) (b := true) [36, 37, 38, 39] _ (by kernel_rfl) (.inr rfl) ?_
          refine seq_off (j := 31) (d := 50) (b := false) [40] _ (by kernel_rfl) (.inl rfl) ?_
          refine ⟨.bool true, fun _ h_ => rk (run_pick_t rfl (h_.d 31 50) rfl),
           .bool true, fun _ h_ => rmv (h_.d 41 60), ?_⟩
          refine seq_off (j := 42) (d := 61) (b := false) [43, 44, 45, 46] _ (by kernel_rfl) (.inl rfl) ?_
          refine seq_off (j := 46) (d := 65) (b := true) [47, 48, 49, 50] _ (by kernel_rfl) (.inr rfl) ?_
          refine seq_off (j := 42) (d := 61) (b := false) [51] _ (by kernel_rfl) (.inl rfl) ?_
          refine ⟨.bool true, fun _ h_ => rk (run_pick_t rfl (h_.d 42 61) rfl), ?_⟩
          intro a9 hput
          replace s1 := hput.o 1 s1
          replace s2 := hput.o 2 s2
          have s71 : sl a9 71 = .bool true := hput.new 52 71 rfl
          replace hz := hput.size.trans hz
          replace hd := hput.defers.trans hd
          clear hput
          change Code.wp _ _ _ _ _
          refine wp_cond_true s71 ?_
          refine wp_seq ?_
          refine seq_l [] hz ?_
          refine ⟨.bool false, fun _ h_ => rk (run_assign rfl rfl), ?_⟩
          intro a13 hput
          replace s1 := hput.o 1 s1
          replace s2 : sl a13 2 = .bool false := hput.new 0 2 rfl
          replace hz := hput.size.trans hz
          replace hd := hput.defers.trans hd
          clear hput s71
          change Code.wp _ _ _ _ _
          refine wp_ret ?_
          refine ret1 (P := Try.prog) (fn := Try.f6) hd s2 (hR_ _ _ ?_)
          exact ⟨_, rfl, (hS12.old (by simp))⟩
        · rw [hg20]
          refine ⟨pt g3 0, fun _ h_ => r_ok (h_.on 20 39) (fa 0 rfl (h_.b 1 s1)),
           i6 5, fun _ h_ => r_ok (h_.on 20 39) (ld hS12 0 rfl (h_.d 21 40)),
           .bool true, fun _ h_ => r_ok (h_.on 20 39) (run_cmp rfl (h_.d 22 41) rfl rfl (by decide)),
           .bool true, fun _ h_ => r_ok (h_.on 20 39) (run_move rfl (h_.d 23 42)),
           pt g3 13, fun _ h_ => r_ok (h_.on 24 43) (fa 13 rfl (h_.b 1 s1)),
           .slice q.kA p.keys.length q.kc, fun _ h_ => r_ok (h_.on 24 43) (ld hS12 0 rfl (h_.d 25 44)),
           i6 p.keys.length, fun _ h_ => r_ok (h_.on 24 43) (run_lenS rfl (h_.d 26 45) (by kernel_rfl)),
           .bool (decide ((0 : Int) < p.keys.length)), fun _ h_ => r_ok (h_.on 24 43) (run_cmp rfl (h_.d 27 46) rfl rfl (by first | rfl | exact neq_dec _ _ | exact eq_dec _ _ | simp)),
           .bool (decide ((0 : Int) < p.keys.length)), fun _ h_ => r_ok (h_.on 20 39) (run_pick_t rfl (h_.d 24 43) (h_.d 28 47)),
           .bool (decide ((0 : Int) < p.keys.length)), fun _ h_ => rk (run_pick_f rfl (h_.d 20 39) (h_.d 29 48)),
           .bool (decide ((0 : Int) < p.keys.length)), fun _ h_ => rmv (h_.d 30 49), ?_⟩
          rcases dt ((0 : Int) < p.keys.length) with ⟨he, hg31⟩ | ⟨he, hg31⟩
          · rw [he]
            clear he
            refine seq_off (j := 31) (d := 50) (b := false) [32, 33, 34, 35] _ (by kernel_rfl) (.inl rfl) ?_
            refine seq_off (j := 35) (d := 54) (b := true) [36, 37, 38, 39] _ (by kernel_rfl) (.inr rfl) ?_
            refine seq_off (j := 31) (d := 50) (b := false) [40] _ (by kernel_rfl) (.inl rfl) ?_
            refine ⟨.bool true, fun _ h_ => rk (run_pick_t rfl (h_.d 31 50) rfl),
             .bool true, fun _ h_ => rmv (h_.d 41 60), ?_⟩
            refine seq_off (j := 42) (d := 61) (b := false) [43, 44, 45, 46] _ (by kernel_rfl) (.inl rfl) ?_
            refine seq_off (j := 46) (d := 65) (b := true) [47, 48, 49, 50] _ (by kernel_rfl) (.inr rfl) ?_
            refine seq_off (j := 42) (d := 61) (b := false) [51] _ (by kernel_rfl) (.inl rfl) ?_
            refine ⟨.bool true, fun _ h_ => rk (run_pick_t rfl (h_.d 42 61) rfl), ?_⟩
            intro a9 hput
            replace s1 := hput.o 1 s1
            replace s2 := hput.o 2 s2
            have s71 : sl a9 71 = .bool true := hput.new 52 71 rfl
            replace hz := hput.size.trans hz
            replace hd := hput.defers.trans hd
            clear hput
            change Code.wp _ _ _ _ _
            refine wp_cond_true s71 ?_
            refine wp_seq ?_
            refine seq_l [] hz ?_
            refine ⟨.bool false, fun _ h_ => rk (run_assign rfl rfl), ?_⟩
            intro a14 hput
            replace s1 := hput.o 1 s1
            replace s2 : sl a14 2 = .bool false := hput.new 0 2 rfl
            replace hz := hput.size.trans hz
            replace hd := hput.defers.trans hd
            clear hput s71
            change Code.wp _ _ _ _ _
            refine wp_ret ?_
            refine ret1 (P := Try.prog) (fn := Try.f6) hd s2 (hR_ _ _ ?_)
            exact ⟨_, rfl, (hS12.old (by simp))⟩
          · rw [he]
            clear he
            refine ⟨pt g3 0, fun _ h_ => r_ok (h_.on 31 50) (fa 0 rfl (h_.b 1 s1)),
             i6 5, fun _ h_ => r_ok (h_.on 31 50) (ld hS12 0 rfl (h_.d 32 51)),
             .bool true, fun _ h_ => r_ok (h_.on 31 50) (run_cmp rfl (h_.d 33 52) rfl rfl (by decide)),
             .bool true, fun _ h_ => r_ok (h_.on 31 50) (run_move rfl (h_.d 34 53)),
             pt g3 14, fun _ h_ => r_ok (h_.on 35 54) (fa 14 rfl (h_.b 1 s1)),
             .slice q.lA p.lsas.length q.lc, fun _ h_ => r_ok (h_.on 35 54) (ld hS12 0 rfl (h_.d 36 55)),
             i6 p.lsas.length, fun _ h_ => r_ok (h_.on 35 54) (run_lenS rfl (h_.d 37 56) (by kernel_rfl)),
             .bool (decide ((0 : Int) < p.lsas.length)), fun _ h_ => r_ok (h_.on 35 54) (run_cmp rfl (h_.d 38 57) rfl rfl (by first | rfl | exact neq_dec _ _ | exact eq_dec _ _ | simp)),
             .bool (decide ((0 : Int) < p.lsas.length)), fun _ h_ => r_ok (h_.on 31 50) (run_pick_t rfl (h_.d 35 54) (h_.d 39 58)),
             .bool (decide ((0 : Int) < p.lsas.length)), fun _ h_ => rk (run_pick_f rfl (h_.d 31 50) (h_.d 40 59)),
             .bool (decide ((0 : Int) < p.lsas.length)), fun _ h_ => rmv (h_.d 41 60), ?_⟩
            rcases dt ((0 : Int) < p.lsas.length) with ⟨he, hg42⟩ | ⟨he, hg42⟩
            · rw [he]
              clear he
              refine seq_off (j := 42) (d := 61) (b := false) [43, 44, 45, 46] _ (by kernel_rfl) (.inl rfl) ?_
              refine seq_off (j := 46) (d := 65) (b := true) [47, 48, 49, 50] _ (by kernel_rfl) (.inr rfl) ?_
              refine seq_off (j := 42) (d := 61) (b := false) [51] _ (by kernel_rfl) (.inl rfl) ?_
              refine ⟨.bool true, fun _ h_ => rk (run_pick_t rfl (h_.d 42 61) rfl), ?_⟩
              intro a9 hput
              replace s1 := hput.o 1 s1
              replace s2 := hput.o 2 s2
              have s71 : sl a9 71 = .bool true := hput.new 52 71 rfl
              replace hz := hput.size.trans hz
              replace hd := hput.defers.trans hd
              clear hput
              change Code.wp _ _ _ _ _
              refine wp_cond_true s71 ?_
              refine wp_seq ?_
              refine seq_l [] hz ?_
              refine ⟨.bool false, fun _ h_ => rk (run_assign rfl rfl), ?_⟩
              intro a15 hput
              replace s1 := hput.o 1 s1
              replace s2 : sl a15 2 = .bool false := hput.new 0 2 rfl
              replace hz := hput.size.trans hz
              replace hd := hput.defers.trans hd
              clear hput s71
              change Code.wp _ _ _ _ _
              refine wp_ret ?_
              refine ret1 (P := Try.prog) (fn := Try.f6) hd s2 (hR_ _ _ ?_)
              exact ⟨_, rfl, (hS12.old (by simp))⟩
            · rw [he]
              clear he
              refine ⟨pt g3 0, fun _ h_ => r_ok (h_.on 42 61) (fa 0 rfl (h_.b 1 s1)),
               i6 5, fun _ h_ => r_ok (h_.on 42 61) (ld hS12 0 rfl (h_.d 43 62)),
               .bool false, fun _ h_ => r_ok (h_.on 42 61) (run_cmp rfl (h_.d 44 63) rfl rfl (by decide)),
               .bool false, fun _ h_ => r_ok (h_.on 42 61) (run_move rfl (h_.d 45 64)), ?_⟩
              refine seq_off (j := 46) (d := 65) (b := true) [47, 48, 49, 50] _ (by kernel_rfl) (.inl rfl) ?_
              refine ⟨.bool false, fun _ h_ => r_ok (h_.on 42 61) (run_pick_f rfl (h_.d 46 65) rfl),
               .bool false, fun _ h_ => rk (run_pick_f rfl (h_.d 42 61) (h_.d 51 70)), ?_⟩
              intro a9 hput
              replace s1 := hput.o 1 s1
              replace s2 := hput.o 2 s2
              have s71 : sl a9 71 = .bool false := hput.new 52 71 rfl
              replace hz := hput.size.trans hz
              replace hd := hput.defers.trans hd
              clear hput
              change Code.wp _ _ _ _ _
              refine wp_cond_false s71 ?_
              refine wp_skip ?_
              change Code.wp _ _ _ _ _
              refine wp_seq ?_
              refine wp_seq ?_
              refine seq_l [] hz ?_
              refine ⟨pt g3 0, fun _ h_ => rk (fa 0 rfl (h_.b 1 s1)),
               i6 5, fun _ h_ => rk (ld hS12 0 rfl (h_.d 0 72)),
               .bool false, fun _ h_ => rk (run_cmp rfl (h_.d 1 73) rfl rfl (by decide)), ?_⟩
              intro a16 hput
              replace s1 := hput.o 1 s1
              replace s2 := hput.o 2 s2
              have s74 : sl a16 74 = .bool false := hput.new 2 74 rfl
              replace hz := hput.size.trans hz
              replace hd := hput.defers.trans hd
              clear hput s71
              change Code.wp _ _ _ _ _
              refine wp_cond_false s74 ?_
              refine wp_skip ?_
              change Code.wp _ _ _ _ _
              refine wp_seq ?_
              refine wp_seq ?_
              refine seq_l [] hz ?_
              refine ⟨pt g3 0, fun _ h_ => rk (fa 0 rfl (h_.b 1 s1)),
               i6 5, fun _ h_ => rk (ld hS12 0 rfl (h_.d 0 78)),
               .bool false, fun _ h_ => rk (run_cmp rfl (h_.d 1 79) rfl rfl (by decide)), ?_⟩
              intro a17 hput
              replace s1 := hput.o 1 s1
              replace s2 := hput.o 2 s2
              have s80 : sl a17 80 = .bool false := hput.new 2 80 rfl
              replace hz := hput.size.trans hz
              replace hd := hput.defers.trans hd
              clear hput s74
              change Code.wp _ _ _ _ _
              refine wp_cond_false s80 ?_
              refine wp_skip ?_
              change Code.wp _ _ _ _ _
              refine wp_seq ?_
              refine wp_seq ?_
              refine seq_l [] hz ?_
              refine ⟨pt g3 0, fun _ h_ => rk (fa 0 rfl (h_.b 1 s1)),
               i6 5, fun _ h_ => rk (ld hS12 0 rfl (h_.d 0 110)),
               .bool false, fun _ h_ => rk (run_cmp rfl (h_.d 1 111) rfl rfl (by decide)), ?_⟩
              intro a18 hput
              replace s1 := hput.o 1 s1
              replace s2 := hput.o 2 s2
              have s112 : sl a18 112 = .bool false := hput.new 2 112 rfl
              replace hz := hput.size.trans hz
              replace hd := hput.defers.trans hd
              clear hput s80
              change Code.wp _ _ _ _ _
              refine wp_cond_false s112 ?_
              refine wp_skip ?_
              change Code.wp _ _ _ _ _
              refine wp_seq ?_
              refine wp_seq ?_
              refine seq_l [] hz ?_
              refine ⟨pt g3 0, fun _ h_ => rk (fa 0 rfl (h_.b 1 s1)),
               i6 5, fun _ h_ => rk (ld hS12 0 rfl (h_.d 0 145)),
               .bool true, fun _ h_ => rk (run_cmp rfl (h_.d 1 146) rfl rfl (by decide)), ?_⟩
              intro a19 hput
              replace s1 := hput.o 1 s1
              replace s2 := hput.o 2 s2
              have s147 : sl a19 147 = .bool true := hput.new 2 147 rfl
              replace hz := hput.size.trans hz
              replace hd := hput.defers.trans hd
              clear hput s112
              change Code.wp _ _ _ _ _
              refine wp_cond_true s147 ?_
              refine wp_seq ?_
              refine seq_l [7] hz ?_
              refine ⟨pt g3 15, fun _ h_ => rk (fa 15 rfl (h_.b 1 s1)),
               .slice q.aA p.acks.length q.ac, fun _ h_ => rk (ld hS12 0 rfl (h_.d 0 148)),
               i6 p.acks.length, fun _ h_ => rk (run_lenS rfl (h_.d 1 149) (by kernel_rfl)),
               .bool (decide ((0 : Int) < p.acks.length)), fun _ h_ => rk (run_cmp rfl (h_.d 2 150) rfl rfl (by first | rfl | exact neq_dec _ _ | exact eq_dec _ _ | simp)),
               .bool (decide ((0 : Int) < p.acks.length)), fun _ h_ => rmv (h_.d 3 151), ?_⟩
              rcases dt ((0 : Int) < p.acks.length) with ⟨he, hg4⟩ | ⟨he, hg4⟩
              · rw [he]
                clear he
                refine ⟨pt g3 15, fun _ h_ => r_ok (h_.on 4 152) (fa 15 rfl (h_.b 1 s1)),
                 .slice q.aA p.acks.length q.ac, fun _ h_ => r_ok (h_.on 4 152) (ld hS12 0 rfl (h_.d 5 153)), ?_⟩
                refine ⟨fun a_ h_ => st_call (h_.on 4 152) (run_call rfl (map1 (h_.d 6 154)) rfl) (heads05_any _ _ p.acks _ (by omega) (hok.below (hS12.old (by simp))).acks) ?_, trivial⟩
                rintro e w21 ⟨b21, rfl, hb21⟩
                refine ⟨_, rfl, _, rfl, ?_⟩
                clear h_ a_
                have hS21 := hS12.below hb21
                clear hS12 hb21
                refine ⟨.bool b21, fun _ h_ => rk (run_pick_t rfl (h_.d 4 152) (h_.d 7 155)),
                 .bool b21, fun _ h_ => ras (h_.d 8 156), ?_⟩
                intro a20 hput
                replace s1 := hput.o 1 s1
                replace s2 : sl a20 2 = .bool b21 := hput.new 9 2 rfl
                replace hz := hput.size.trans hz
                replace hd := hput.defers.trans hd
                clear hput s147
                change Code.wp _ _ _ _ _
                refine wp_ret ?_
                refine ret1 (P := Try.prog) (fn := Try.f6) hd s2 (hR_ _ _ ?_)
                exact ⟨_, rfl, (hS21.old (by simp))⟩
              · rw [he]
                clear he
                refine seq_off (j := 4) (d := 152) (b := true) [5, 6] _ (by kernel_rfl) (.inl rfl) ?_
                refine seq_offe (j := 4) (d := 152) (b := true) (by kernel_rfl) (.inl rfl) ?_
                refine ⟨.bool false, fun _ h_ => rk (run_pick_f rfl (h_.d 4 152) rfl),
                 .bool false, fun _ h_ => ras (h_.d 8 156), ?_⟩
                intro a20 hput
                replace s1 := hput.o 1 s1
                replace s2 : sl a20 2 = .bool false := hput.new 9 2 rfl
                replace hz := hput.size.trans hz
                replace hd := hput.defers.trans hd
                clear hput s147
                change Code.wp _ _ _ _ _
                refine wp_ret ?_
                refine ret1 (P := Try.prog) (fn := Try.f6) hd s2 (hR_ _ _ ?_)
                exact ⟨_, rfl, (hS12.old (by simp))⟩
set_option maxRecDepth 100000 in
set_option maxHeartbeats 800000 in
theorem right05_no (p : PkV) (q : PkP) (W : World) (hsm : PkSm p) (hok : PkOK W p q) (hk : ¬(1 ≤ p.kind ∧ p.kind ≤ 5)) :
    Calls Try.prog 6 #[.agg #[i6 p.kind, i6 p.src, i6 p.every, i6 p.dead, i6 p.prio, i6 p.dr, i6 p.bdr, .slice q.sA p.seen.length q.sc, .bool p.init, .bool p.more, .bool p.master, i6 p.seq, .slice q.hA p.heads.length q.hc, .slice q.kA p.keys.length q.kc, .slice q.lA p.lsas.length q.lc, .slice q.aA p.acks.length q.ac]] W (fun r w' => ∃ b : Bool, r = .returned (.bool b) ∧ Below W.heap.size W w') := by
  obtain ⟨hsn, hhd, hky, hls, hak, _⟩ := id hsm
  have hS := S.start W
  refine calls_walk Try.func6 rfl fun R_ hR_ a hz hd hargs => ?_
  replace hz : a.tmps.size = 200 := hz.trans (by kernel_rfl)
  have s0 := hargs 0 _ rfl
  clear hargs
  refine wp_seq ?_
  refine seq_l [0] hz ?_
  refine ⟨fun a_ h_ => st_box (cells := #[i6 p.kind, i6 p.src, i6 p.every, i6 p.dead, i6 p.prio, i6 p.dr, i6 p.bdr, .slice q.sA p.seen.length q.sc, .bool p.init, .bool p.more, .bool p.master, i6 p.seq, .slice q.hA p.heads.length q.hc, .slice q.kA p.keys.length q.kc, .slice q.lA p.lsas.length q.lc, .slice q.aA p.acks.length q.ac]) hS (on_none rfl) rfl (h_.b 0 s0) (by kernel_rfl) fun g3 w3 hS3 hb3 => ⟨_, rfl, ?_⟩, trivial⟩
  clear h_ a_ hS
  clear hb3
  refine ⟨.bool false, fun _ h_ => rk (run_assign rfl rfl), ?_⟩
  intro a2 hput
  have s1 : sl a2 1 = pt g3 0 := hput.new 0 1 rfl
  have s2 : sl a2 2 = .bool false := hput.new 1 2 rfl
  replace hz := hput.size.trans hz
  replace hd := hput.defers.trans hd
  clear hput s0
  change Code.wp _ _ _ _ _
  refine wp_seq ?_
  refine wp_seq ?_
  refine seq_l [2, 7] hz ?_
  refine ⟨pt g3 0, fun _ h_ => rk (fa 0 rfl (h_.b 1 s1)),
   i6 p.kind, fun _ h_ => rk (ld hS3 0 rfl (h_.d 0 9)), ?_⟩
  refine ⟨fun a_ h_ => st_call (on_none rfl) (run_call rfl (map3 (h_.d 1 10) rfl rfl) rfl) (in05_no _ _ _ _ hk) ?_, trivial⟩
  rintro e w5 ⟨rfl, hb5⟩
  refine ⟨_, rfl, _, rfl, ?_⟩
  clear h_ a_
  have hS5 := hS3.below hb5
  clear hS3 hb5
  refine ⟨.bool true, fun _ h_ => rk (run_not rfl (h_.d 2 11) rfl),
   .bool true, fun _ h_ => rmv (h_.d 3 12), ?_⟩
  refine seq_off (j := 4) (d := 13) (b := false) [5, 6] _ (by kernel_rfl) (.inl rfl) ?_
  refine seq_offe (j := 4) (d := 13) (b := false) (by kernel_rfl) (.inl rfl) ?_
  refine seq_off (j := 4) (d := 13) (b := false) [8] _ (by kernel_rfl) (.inl rfl) ?_
  refine ⟨.bool true, fun _ h_ => rk (run_pick_t rfl (h_.d 4 13) rfl), ?_⟩
  intro a4 hput
  replace s1 := hput.o 1 s1
  replace s2 := hput.o 2 s2
  have s18 : sl a4 18 = .bool true := hput.new 9 18 rfl
  replace hz := hput.size.trans hz
  replace hd := hput.defers.trans hd
  clear hput
  change Code.wp _ _ _ _ _
  refine wp_cond_true s18 ?_
  refine wp_seq ?_
  refine seq_l [] hz ?_
  refine ⟨.bool false, fun _ h_ => rk (run_assign rfl rfl), ?_⟩
  intro a6 hput
  replace s1 := hput.o 1 s1
  replace s2 : sl a6 2 = .bool false := hput.new 0 2 rfl
  replace hz := hput.size.trans hz
  replace hd := hput.defers.trans hd
  clear hput s18
  change Code.wp _ _ _ _ _
  refine wp_ret ?_
  refine ret1 (P := Try.prog) (fn := Try.f6) hd s2 (hR_ _ _ ?_)
  exact ⟨_, rfl, (hS5.old (by simp))⟩
theorem right05_any (p : PkV) (q : PkP) (W : World) (hsm : PkSm p) (hok : PkOK W p q) :
    Calls Try.prog 6 #[.agg (pkA p q)] W (fun r w' => ∃ b : Bool, r = .returned (.bool b) ∧ (b = true → p.kind = 4 → ∀ x ∈ p.lsas, rightB x.1 = true) ∧ Below W.heap.size W w') := by
  by_cases hk : 1 ≤ p.kind ∧ p.kind ≤ 5
  · obtain ⟨kind, src, every, dead, prio, dr, bdr, seen, init, more, master, seq, heads, keys, lsas, acks⟩ := p
    simp only at hk
    rcases (by omega : kind = 1 ∨ kind = 2 ∨ kind = 3 ∨ kind = 4 ∨ kind = 5) with rfl | rfl | rfl | rfl | rfl
    · exact (right05_1 _ q W hsm hok).mono fun _ _ ⟨b, h1, h2⟩ => ⟨b, h1, (fun _ h => by cases h), h2⟩
    · exact (right05_2 _ q W hsm hok).mono fun _ _ ⟨b, h1, h2⟩ => ⟨b, h1, (fun _ h => by cases h), h2⟩
    · exact (right05_3 _ q W hsm hok).mono fun _ _ ⟨b, h1, h2⟩ => ⟨b, h1, (fun _ h => by cases h), h2⟩
    · exact (right05_4 _ q W hsm hok).mono fun _ _ ⟨b, h1, h3, h2⟩ => ⟨b, h1, fun hb _ => h3 hb, h2⟩
    · exact (right05_5 _ q W hsm hok).mono fun _ _ ⟨b, h1, h2⟩ => ⟨b, h1, (fun _ h => by cases h), h2⟩
  · exact (right05_no p q W hsm hok hk).mono fun _ _ ⟨b, h1, h2⟩ => ⟨b, h1, fun _ h => absurd ⟨by omega, by omega⟩ hk, h2⟩
end Go.Proofs.Ytdenfgnkbfbpmaa
