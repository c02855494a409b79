/-
  The reference's comparison of descriptions.
-/
import Derived.Test.YtmklebkldailnaaSep
import Derived.Test.YtmklebkldailnaaEqual
import Derived.Test.YtmklebkldailnaaLife
namespace Go.Proofs.Ytmklebkldailnaa
open Go.RowKit
set_option linter.unusedSimpArgs false
set_option linter.unusedVariables false

theorem neq_head (x y : HD) (w : World) : (binOp .neq 23 (.agg x.cells.toArray) (.agg y.cells.toArray)).run Try.prog w = .ok (.bool (decide (x ≠ y))) w := by
  obtain ⟨a1, a2, a3, a4, a5, a6, a7⟩ := x
  obtain ⟨b1, b2, b3, b4, b5, b6, b7⟩ := y
  dsimp only [HD.cells]
  go_simp
  repeat' split
  all_goals simp_all
theorem lv_eq {x y : LV} : x = y ↔ x.hd = y.hd ∧ x.links = y.links ∧ x.mem = y.mem := by cases x; cases y; simp
theorem take_all {α : Type} {l l' : List α} {k : Nat} (h : l.take k = l'.take k) (h1 : l.length ≤ k) (h2 : l.length = l'.length) : l = l' := by
  rw [List.take_of_length_le h1, List.take_of_length_le (by omega)] at h; exact h
theorem take_next {α : Type} {l l' : List α} {k : Nat} {x : α} (h : l.take k = l'.take k) (h1 : l[k]? = some x) (h2 : l'[k]? = some x) : l.take (k + 1) = l'.take (k + 1) := by
  rw [take_snoc l k x h1, take_snoc l' k x h2, h]
set_option maxRecDepth 100000 in
set_option maxHeartbeats 4000000 in
theorem same04_any (x y : LV) (p q : LP) (W : World) (hx : LOK W x p) (hy : LOK W y q) (h1 : x.links.length ≤ 5000) (h2 : y.links.length ≤ 5000) (h3 : x.mem.length ≤ 5000) (h4 : y.mem.length ≤ 5000) :
    Calls Try.prog 28 #[.agg (lsaA x p), .agg (lsaA y q)] W (fun r w' => r = .returned (.bool (decide (x = y))) ∧ Below W.heap.size W w') := by
  have hS := S.start W
  refine calls_walk Try.func28 rfl fun R_ hR_ a hz hd hargs => ?_
  replace hz : a.tmps.size = 46 := hz.trans (by kernel_rfl)
  have s0 := hargs 0 _ rfl
  have s1 := hargs 1 _ rfl
  clear hargs
  refine wp_seq ?_
  refine seq_l [0, 1] hz ?_
  refine ⟨fun a_ h_ => st_box (cells := #[i6 x.hd.age, i6 x.hd.kind, i6 x.hd.id, i6 x.hd.adv, i6 x.hd.seq, i6 x.hd.sum, i6 x.hd.long, .slice p.A x.links.length p.c, .slice p.B x.mem.length p.d]) hS (on_none rfl) rfl (h_.b 0 s0) (by kernel_rfl) fun g3 w3 hS3 hb3 => ⟨_, rfl, ?_⟩, trivial⟩
  clear h_ a_ hS
  clear hb3
  refine ⟨fun a_ h_ => st_box (cells := #[i6 y.hd.age, i6 y.hd.kind, i6 y.hd.id, i6 y.hd.adv, i6 y.hd.seq, i6 y.hd.sum, i6 y.hd.long, .slice q.A y.links.length q.c, .slice q.B y.mem.length q.d]) hS3 (on_none rfl) rfl (h_.b 1 s1) (by kernel_rfl) fun g4 w4 hS4 hb4 => ⟨_, rfl, ?_⟩, trivial⟩
  clear h_ a_ hS3
  clear hb4
  refine ⟨.bool false, fun _ h_ => rk (run_assign rfl rfl), ?_⟩
  intro a2 hput
  have s2 : sl a2 2 = pt g3 0 := hput.new 0 2 rfl
  have s3 : sl a2 3 = pt g4 0 := hput.new 1 3 rfl
  have s4 : sl a2 4 = .bool false := hput.new 2 4 rfl
  replace hz := hput.size.trans hz
  replace hd := hput.defers.trans hd
  clear hput s0 s1
  change Code.wp _ _ _ _ _
  refine wp_seq ?_
  refine wp_seq ?_
  refine seq_l [10] hz ?_
  refine ⟨pt g3 0, fun _ h_ => rk (fa 0 rfl (h_.b 2 s2)),
   .agg #[i6 x.hd.age, i6 x.hd.kind, i6 x.hd.id, i6 x.hd.adv, i6 x.hd.seq, i6 x.hd.sum, i6 x.hd.long], fun _ h_ => rk (lbS 7 (hS4.blk (i := 1) rfl) rfl (h_.d 0 6)),
   pt g4 0, fun _ h_ => rk (fa 0 rfl (h_.b 3 s3)),
   .agg #[i6 y.hd.age, i6 y.hd.kind, i6 y.hd.id, i6 y.hd.adv, i6 y.hd.seq, i6 y.hd.sum, i6 y.hd.long], fun _ h_ => rk (lbS 7 (hS4.blk (i := 0) rfl) rfl (h_.d 2 8)),
   .bool (decide (x.hd ≠ y.hd)), fun _ h_ => rk (run_bin2 rfl (h_.d 1 7) (h_.d 3 9) (fun _ => by kernel_rfl) (neq_head x.hd y.hd)),
   .bool (decide (x.hd ≠ y.hd)), fun _ h_ => rmv (h_.d 4 10), ?_⟩
  rcases dt (x.hd ≠ y.hd) with ⟨he, hg5⟩ | ⟨he, hg5⟩
  · rw [he]
    clear he
    refine seq_off (j := 5) (d := 11) (b := false) [6, 7, 8, 9] _ (by kernel_rfl) (.inl rfl) ?_
    refine seq_offe (j := 5) (d := 11) (b := false) (by kernel_rfl) (.inl rfl) ?_
    refine seq_off (j := 5) (d := 11) (b := false) [11] _ (by kernel_rfl) (.inl rfl) ?_
    refine ⟨.bool true, fun _ h_ => rk (run_pick_t rfl (h_.d 5 11) rfl),
     .bool true, fun _ h_ => rmv (h_.d 12 18), ?_⟩
    refine seq_off (j := 13) (d := 19) (b := false) [14, 15, 16, 17, 18, 19, 20] _ (by kernel_rfl) (.inl rfl) ?_
    refine ⟨.bool true, fun _ h_ => rk (run_pick_t rfl (h_.d 13 19) rfl), ?_⟩
    intro a5 hput
    replace s2 := hput.o 2 s2
    replace s3 := hput.o 3 s3
    replace s4 := hput.o 4 s4
    have s27 : sl a5 27 = .bool true := hput.new 21 27 rfl
    replace hz := hput.size.trans hz
    replace hd := hput.defers.trans hd
    clear hput
    change Code.wp _ _ _ _ _
    refine wp_cond_true s27 ?_
    refine wp_seq ?_
    refine seq_l [] hz ?_
    refine ⟨.bool false, fun _ h_ => rk (run_assign rfl rfl), ?_⟩
    intro a6 hput
    replace s2 := hput.o 2 s2
    replace s3 := hput.o 3 s3
    replace s4 : sl a6 4 = .bool false := hput.new 0 4 rfl
    replace hz := hput.size.trans hz
    replace hd := hput.defers.trans hd
    clear hput s27
    change Code.wp _ _ _ _ _
    refine wp_ret ?_
    refine ret1 (P := Try.prog) (fn := Try.f28) hd s4 (hR_ _ _ ?_)
    refine ⟨?_, (hS4.old (by simp))⟩
    congr 2
    exact (decide_eq_false fun e => by rw [lv_eq] at e; simp_all).symm
  · rw [he]
    clear he
    refine ⟨pt g3 8, fun _ h_ => r_ok (h_.on 5 11) (fa 8 rfl (h_.b 2 s2)),
     .slice p.B x.mem.length p.d, fun _ h_ => r_ok (h_.on 5 11) (ld hS4 1 rfl (h_.d 6 12)),
     pt g4 8, fun _ h_ => r_ok (h_.on 5 11) (fa 8 rfl (h_.b 3 s3)),
     .slice q.B y.mem.length q.d, fun _ h_ => r_ok (h_.on 5 11) (ld hS4 0 rfl (h_.d 8 14)), ?_⟩
    refine ⟨fun a_ h_ => st_call (h_.on 5 11) (run_call rfl (map2 (h_.d 7 13) (h_.d 9 15)) rfl) (refInts_any _ _ _ x.mem _ _ _ y.mem _ (by omega) (by omega) (hx.below (hS4.old (by simp))).mem (hy.below (hS4.old (by simp))).mem) ?_, trivial⟩
    rintro e w7 ⟨rfl, hb7⟩
    refine ⟨_, rfl, _, rfl, ?_⟩
    clear h_ a_
    have hS7 := hS4.below hb7
    clear hS4 hb7
    refine ⟨.bool (!(decide (x.mem = y.mem))), fun _ h_ => r_ok (h_.on 5 11) (run_not rfl (h_.d 10 16) rfl),
     .bool (!(decide (x.mem = y.mem))), fun _ h_ => rk (run_pick_f rfl (h_.d 5 11) (h_.d 11 17)),
     .bool (!(decide (x.mem = y.mem))), fun _ h_ => rmv (h_.d 12 18), ?_⟩
    rcases nt (x.mem = y.mem) with ⟨he, hg13⟩ | ⟨he, hg13⟩
    · rw [he]
      clear he
      refine seq_off (j := 13) (d := 19) (b := false) [14, 15, 16, 17, 18, 19, 20] _ (by kernel_rfl) (.inl rfl) ?_
      refine ⟨.bool true, fun _ h_ => rk (run_pick_t rfl (h_.d 13 19) rfl), ?_⟩
      intro a5 hput
      replace s2 := hput.o 2 s2
      replace s3 := hput.o 3 s3
      replace s4 := hput.o 4 s4
      have s27 : sl a5 27 = .bool true := hput.new 21 27 rfl
      replace hz := hput.size.trans hz
      replace hd := hput.defers.trans hd
      clear hput
      change Code.wp _ _ _ _ _
      refine wp_cond_true s27 ?_
      refine wp_seq ?_
      refine seq_l [] hz ?_
      refine ⟨.bool false, fun _ h_ => rk (run_assign rfl rfl), ?_⟩
      intro a8 hput
      replace s2 := hput.o 2 s2
      replace s3 := hput.o 3 s3
      replace s4 : sl a8 4 = .bool false := hput.new 0 4 rfl
      replace hz := hput.size.trans hz
      replace hd := hput.defers.trans hd
      clear hput s27
      change Code.wp _ _ _ _ _
      refine wp_ret ?_
      refine ret1 (P := Try.prog) (fn := Try.f28) hd s4 (hR_ _ _ ?_)
      refine ⟨?_, (hS7.old (by simp))⟩
      congr 2
      exact (decide_eq_false fun e => by rw [lv_eq] at e; simp_all).symm
    · rw [he]
      clear he
      refine ⟨pt g3 7, fun _ h_ => r_ok (h_.on 13 19) (fa 7 rfl (h_.b 2 s2)),
       .slice p.A x.links.length p.c, fun _ h_ => r_ok (h_.on 13 19) (ld hS7 1 rfl (h_.d 14 20)),
       i6 x.links.length, fun _ h_ => r_ok (h_.on 13 19) (run_lenS rfl (h_.d 15 21) (by kernel_rfl)),
       pt g4 7, fun _ h_ => r_ok (h_.on 13 19) (fa 7 rfl (h_.b 3 s3)),
       .slice q.A y.links.length q.c, fun _ h_ => r_ok (h_.on 13 19) (ld hS7 0 rfl (h_.d 17 23)),
       i6 y.links.length, fun _ h_ => r_ok (h_.on 13 19) (run_lenS rfl (h_.d 18 24) (by kernel_rfl)),
       .bool (decide ((x.links.length : Int) ≠ y.links.length)), fun _ h_ => r_ok (h_.on 13 19) (run_cmp rfl (h_.d 16 22) (h_.d 19 25) rfl (by first | rfl | exact neq_dec _ _ | exact eq_dec _ _ | simp)),
       .bool (decide ((x.links.length : Int) ≠ y.links.length)), fun _ h_ => rk (run_pick_f rfl (h_.d 13 19) (h_.d 20 26)), ?_⟩
      intro a5 hput
      replace s2 := hput.o 2 s2
      replace s3 := hput.o 3 s3
      replace s4 := hput.o 4 s4
      have s27 : sl a5 27 = .bool (decide ((x.links.length : Int) ≠ y.links.length)) := hput.new 21 27 rfl
      replace hz := hput.size.trans hz
      replace hd := hput.defers.trans hd
      clear hput
      change Code.wp _ _ _ _ _
      refine wp_cond_d s27 (fun hc27 => ?_) (fun hc27 => ?_)
      · clear s27
        refine wp_seq ?_
        refine seq_l [] hz ?_
        refine ⟨.bool false, fun _ h_ => rk (run_assign rfl rfl), ?_⟩
        intro a9 hput
        replace s2 := hput.o 2 s2
        replace s3 := hput.o 3 s3
        replace s4 : sl a9 4 = .bool false := hput.new 0 4 rfl
        replace hz := hput.size.trans hz
        replace hd := hput.defers.trans hd
        clear hput
        change Code.wp _ _ _ _ _
        refine wp_ret ?_
        refine ret1 (P := Try.prog) (fn := Try.f28) hd s4 (hR_ _ _ ?_)
        refine ⟨?_, (hS7.old (by simp))⟩
        congr 2
        exact (decide_eq_false fun e => by rw [lv_eq] at e; simp_all).symm
      · clear s27
        have hlen : x.links.length = y.links.length := by omega
        have hmm : x.mem = y.mem := by simpa using hg13
        refine wp_skip ?_
        change Code.wp _ _ _ _ _
        refine wp_seq ?_
        refine wp_seq ?_
        refine seq_l [] hz ?_
        refine ⟨i6 0, fun _ h_ => rk (run_assign rfl rfl), ?_⟩
        intro a10 hput
        replace s2 := hput.o 2 s2
        replace s3 := hput.o 3 s3
        replace s4 := hput.o 4 s4
        have s5 : sl a10 5 = i6 0 := hput.new 0 5 rfl
        replace hz := hput.size.trans hz
        replace hd := hput.defers.trans hd
        clear hput
        change Code.wp _ _ _ _ _
        refine wp_block ?_
        refine wp_loop (fun a w => ∃ k : Nat, (k ≤ x.links.length) ∧ (x.links.take k = y.links.take k) ∧ a.tmps.size = 46 ∧ a.defers = [] ∧ sl a 2 = pt g3 0 ∧ sl a 3 = pt g4 0 ∧ sl a 4 = .bool false ∧ sl a 5 = i6 k ∧ S (kap W) ((blkA g4 27 #[i6 y.hd.age, i6 y.hd.kind, i6 y.hd.id, i6 y.hd.adv, i6 y.hd.seq, i6 y.hd.sum, i6 y.hd.long, .slice q.A y.links.length q.c, .slice q.B y.mem.length q.d]) :: (blkA g3 27 #[i6 x.hd.age, i6 x.hd.kind, i6 x.hd.id, i6 x.hd.adv, i6 x.hd.seq, i6 x.hd.sum, i6 x.hd.long, .slice p.A x.links.length p.c, .slice p.B x.mem.length p.d]) :: []) ((memA W W.heap.size) :: []) w) (fun a _ => x.links.length - (intOf (sl a 5)).toNat) ?_ ?_
        · exact ⟨0, Nat.zero_le _, rfl, hz, hd, s2, s3, s4, s5, hS7⟩
        · clear hz hd s2 s3 s4 s5 hS7
          rintro a11 w11 ⟨k, hc0_0, hc0_1, hz, hd, s2, s3, s4, s5, hS11⟩
          have hmu0 := s5
          refine wp_seq ?_
          refine wp_seq ?_
          refine seq_l [] hz ?_
          refine ⟨i6 k, fun _ h_ => rmv (h_.b 5 s5),
           pt g3 7, fun _ h_ => rk (fa 7 rfl (h_.b 2 s2)),
           .slice p.A x.links.length p.c, fun _ h_ => rk (ld hS11 1 rfl (h_.d 1 29)),
           i6 x.links.length, fun _ h_ => rk (run_lenS rfl (h_.d 2 30) (by kernel_rfl)),
           .bool (decide ((k : Int) < x.links.length)), fun _ h_ => rk (run_cmp rfl (h_.d 0 28) (h_.d 3 31) rfl (by first | rfl | exact neq_dec _ _ | exact eq_dec _ _ | simp)), ?_⟩
          intro a12 hput
          replace s2 := hput.o 2 s2
          replace s3 := hput.o 3 s3
          replace s4 := hput.o 4 s4
          replace s5 := hput.o 5 s5
          have s28 : sl a12 28 = i6 k := hput.new 0 28 rfl
          have s29 : sl a12 29 = pt g3 7 := hput.new 1 29 rfl
          have s30 : sl a12 30 = .slice p.A x.links.length p.c := hput.new 2 30 rfl
          have s31 : sl a12 31 = i6 x.links.length := hput.new 3 31 rfl
          have s32 : sl a12 32 = .bool (decide ((k : Int) < x.links.length)) := hput.new 4 32 rfl
          replace hz := hput.size.trans hz
          replace hd := hput.defers.trans hd
          clear hput
          change Code.wp _ _ _ _ _
          refine wp_cond_d s32 (fun hc32 => ?_) (fun hc32 => ?_)
          · clear s32
            refine wp_skip ?_
            change Code.wp _ _ _ _ _
            refine wp_seq ?_
            refine wp_block ?_
            refine wp_seq ?_
            refine seq_r [[], [0], [], [0, 1, 2], [0, 1, 2, 3], [], [5], [], [5, 6, 7], [5, 6, 7, 8], [0, 1, 2, 3, 4, 5, 6, 7, 8, 9]] [] (.rd 0 (.rd 1 (.rd 2 (.rd 3 (.rd 4 (.rd 5 (.rd 6 (.rd 7 (.rd 8 (.rd 9 (.rd 10 (.fin)))))))))))) hz fun w13 hb13 => ?_
            replace hS11 := hS11.below hb13
            refine ⟨pt g3 7, fun _ h_ => rk (fa 7 rfl (h_.b 2 s2)),
             .slice p.A x.links.length p.c, fun _ h_ => rk (ld hS11 1 rfl (h_.d 0 35)),
             i6 k, fun _ h_ => rmv (h_.b 5 s5), ?_⟩
            obtain ⟨b14, o14, z14, hA14, hb14, hz14, hq14⟩ := Reads.row_at Lk.cells 4 Lk.cells_len (k := k) ((hx.below (hS11.old (by simp))).links) (by decide) (by omega)
            refine ⟨pt b14 (o14 + k * 4), fun _ h_ => rk (run_indexV (size := 4) rfl (h_.d 1 36) hA14 (h_.d 2 37) (by kernel_rfl) (by omega) (by simp)),
             .agg #[i6 z14.kind, i6 z14.id, i6 z14.data, i6 z14.cost], fun _ h_ => rk (run_loadV (size := 4) (cs := Lk.cells z14) rfl (h_.d 3 38) (by kernel_rfl) rfl hq14),
             pt g4 7, fun _ h_ => rk (fa 7 rfl (h_.b 3 s3)),
             .slice q.A y.links.length q.c, fun _ h_ => rk (ld hS11 0 rfl (h_.d 5 40)),
             i6 k, fun _ h_ => rmv (h_.b 5 s5), ?_⟩
            obtain ⟨b15, o15, z15, hA15, hb15, hz15, hq15⟩ := Reads.row_at Lk.cells 4 Lk.cells_len (k := k) ((hy.below (hS11.old (by simp))).links) (by decide) (by omega)
            refine ⟨pt b15 (o15 + k * 4), fun _ h_ => rk (run_indexV (size := 4) rfl (h_.d 6 41) hA15 (h_.d 7 42) (by kernel_rfl) (by omega) (by simp)),
             .agg #[i6 z15.kind, i6 z15.id, i6 z15.data, i6 z15.cost], fun _ h_ => rk (run_loadV (size := 4) (cs := Lk.cells z15) rfl (h_.d 8 43) (by kernel_rfl) rfl hq15),
             .bool (decide (z14 ≠ z15)), fun _ h_ => rk (run_bin2 rfl (h_.d 4 39) (h_.d 9 44) (fun _ => by kernel_rfl) (neq_link z14 z15)), ?_⟩
            intro a13 hput
            replace s2 := hput.o 2 s2
            replace s3 := hput.o 3 s3
            replace s4 := hput.o 4 s4
            replace s5 := hput.o 5 s5
            replace s28 := hput.o 28 s28
            replace s29 := hput.o 29 s29
            replace s30 := hput.o 30 s30
            replace s31 := hput.o 31 s31
            have s35 : sl a13 35 = pt g3 7 := hput.new 0 35 rfl
            have s36 : sl a13 36 = .slice p.A x.links.length p.c := hput.new 1 36 rfl
            have s37 : sl a13 37 = i6 k := hput.new 2 37 rfl
            have s38 : sl a13 38 = pt b14 (o14 + k * 4) := hput.new 3 38 rfl
            have s39 : sl a13 39 = .agg #[i6 z14.kind, i6 z14.id, i6 z14.data, i6 z14.cost] := hput.new 4 39 rfl
            have s40 : sl a13 40 = pt g4 7 := hput.new 5 40 rfl
            have s41 : sl a13 41 = .slice q.A y.links.length q.c := hput.new 6 41 rfl
            have s42 : sl a13 42 = i6 k := hput.new 7 42 rfl
            have s43 : sl a13 43 = pt b15 (o15 + k * 4) := hput.new 8 43 rfl
            have s44 : sl a13 44 = .agg #[i6 z15.kind, i6 z15.id, i6 z15.data, i6 z15.cost] := hput.new 9 44 rfl
            have s45 : sl a13 45 = .bool (decide (z14 ≠ z15)) := hput.new 10 45 rfl
            replace hz := hput.size.trans hz
            replace hd := hput.defers.trans hd
            clear hput
            change Code.wp _ _ _ _ _
            refine wp_cond_d s45 (fun hc45 => ?_) (fun hc45 => ?_)
            · clear s45
              refine wp_seq ?_
              refine seq_l [] hz ?_
              refine ⟨.bool false, fun _ h_ => rk (run_assign rfl rfl), ?_⟩
              intro a16 hput
              replace s2 := hput.o 2 s2
              replace s3 := hput.o 3 s3
              replace s4 : sl a16 4 = .bool false := hput.new 0 4 rfl
              replace s5 := hput.o 5 s5
              replace s28 := hput.o 28 s28
              replace s29 := hput.o 29 s29
              replace s30 := hput.o 30 s30
              replace s31 := hput.o 31 s31
              replace s35 := hput.o 35 s35
              replace s36 := hput.o 36 s36
              replace s37 := hput.o 37 s37
              replace s38 := hput.o 38 s38
              replace s39 := hput.o 39 s39
              replace s40 := hput.o 40 s40
              replace s41 := hput.o 41 s41
              replace s42 := hput.o 42 s42
              replace s43 := hput.o 43 s43
              replace s44 := hput.o 44 s44
              replace hz := hput.size.trans hz
              replace hd := hput.defers.trans hd
              clear hput
              change Code.wp _ _ _ _ _
              refine wp_ret ?_
              refine ret1 (P := Try.prog) (fn := Try.f28) hd s4 (hR_ _ _ ?_)
              refine ⟨?_, (hS11.old (by simp))⟩
              congr 2
              exact (decide_eq_false fun e => by rw [lv_eq] at e; simp_all).symm
            · clear s45
              refine wp_skip ?_
              change Code.wp _ _ _ _ _
              refine seq_l [] hz ?_
              refine ⟨i6 k, fun _ h_ => rmv (h_.b 5 s5),
               i6 (k + 1), fun _ h_ => rk (run_addI rfl (h_.d 0 33) rfl (by omega) rfl),
               i6 (k + 1), fun _ h_ => ras (h_.d 1 34), ?_⟩
              intro a17 hput
              replace s2 := hput.o 2 s2
              replace s3 := hput.o 3 s3
              replace s4 := hput.o 4 s4
              replace s5 : sl a17 5 = i6 (k + 1) := hput.new 2 5 rfl
              replace s28 := hput.o 28 s28
              replace s29 := hput.o 29 s29
              replace s30 := hput.o 30 s30
              replace s31 := hput.o 31 s31
              have s33 : sl a17 33 = i6 k := hput.new 0 33 rfl
              have s34 : sl a17 34 = i6 (k + 1) := hput.new 1 34 rfl
              replace s35 := hput.o 35 s35
              replace s36 := hput.o 36 s36
              replace s37 := hput.o 37 s37
              replace s38 := hput.o 38 s38
              replace s39 := hput.o 39 s39
              replace s40 := hput.o 40 s40
              replace s41 := hput.o 41 s41
              replace s42 := hput.o 42 s42
              replace s43 := hput.o 43 s43
              replace s44 := hput.o 44 s44
              replace hz := hput.size.trans hz
              replace hd := hput.defers.trans hd
              clear hput
              refine ⟨⟨k + 1, by omega, take_next hc0_1 hz14 (by rw [hz15]; exact congrArg some (Classical.not_not.1 hc45).symm), hz, hd, s2, s3, s4, s5, hS11⟩, ?_⟩
              show x.links.length - (intOf (sl a17 5)).toNat < x.links.length - (intOf (sl a11 5)).toNat
              rw [show sl a17 5 = _ from s5, show sl a11 5 = _ from hmu0]
              simp only [intOf]
              omega
          · clear s32
            refine wp_exit ?_
            change Code.wp _ _ _ _ _
            refine wp_seq ?_
            refine seq_l [] hz ?_
            refine ⟨.bool true, fun _ h_ => rk (run_assign rfl rfl), ?_⟩
            intro a18 hput
            replace s4 : sl a18 4 = .bool true := hput.new 0 4 rfl
            replace hz := hput.size.trans hz
            replace hd := hput.defers.trans hd
            clear hput s2 s3 s5 s28 s29 s30 s31
            change Code.wp _ _ _ _ _
            refine wp_ret ?_
            refine ret1 (P := Try.prog) (fn := Try.f28) hd s4 (hR_ _ _ ?_)
            exact ⟨by rw [decide_eq_true (lv_eq.2 ⟨by simpa using hg5, take_all hc0_1 (by omega) hlen, hmm⟩)], (hS11.old (by simp))⟩
set_option maxRecDepth 100000 in
set_option maxHeartbeats 4000000 in
theorem same19_any (x y : LV) (p q : LP) (W : World) (hx : LOK W x p) (hy : LOK W y q) (h1 : x.links.length ≤ 5000) (h2 : y.links.length ≤ 5000) (h3 : x.mem.length ≤ 5000) (h4 : y.mem.length ≤ 5000) :
    Calls Try.prog 13 #[.agg (lsaA x p), .agg (lsaA y q)] W (fun r w' => r = .returned (.bool (decide (x = y))) ∧ Below W.heap.size W w') := by
  have hS := S.start W
  refine calls_walk Try.func13 rfl fun R_ hR_ a hz hd hargs => ?_
  replace hz : a.tmps.size = 8 := hz.trans (by kernel_rfl)
  have s0 := hargs 0 _ rfl
  have s1 := hargs 1 _ rfl
  clear hargs
  refine wp_seq ?_
  refine seq_l [0, 1] hz ?_
  refine ⟨fun a_ h_ => st_box (cells := #[i6 x.hd.age, i6 x.hd.kind, i6 x.hd.id, i6 x.hd.adv, i6 x.hd.seq, i6 x.hd.sum, i6 x.hd.long, .slice p.A x.links.length p.c, .slice p.B x.mem.length p.d]) hS (on_none rfl) rfl (h_.b 0 s0) (by kernel_rfl) fun g3 w3 hS3 hb3 => ⟨_, rfl, ?_⟩, trivial⟩
  clear h_ a_ hS
  clear hb3
  refine ⟨fun a_ h_ => st_box (cells := #[i6 y.hd.age, i6 y.hd.kind, i6 y.hd.id, i6 y.hd.adv, i6 y.hd.seq, i6 y.hd.sum, i6 y.hd.long, .slice q.A y.links.length q.c, .slice q.B y.mem.length q.d]) hS3 (on_none rfl) rfl (h_.b 1 s1) (by kernel_rfl) fun g4 w4 hS4 hb4 => ⟨_, rfl, ?_⟩, trivial⟩
  clear h_ a_ hS3
  clear hb4
  refine ⟨.bool false, fun _ h_ => rk (run_assign rfl rfl), ?_⟩
  intro a2 hput
  have s2 : sl a2 2 = pt g3 0 := hput.new 0 2 rfl
  have s3 : sl a2 3 = pt g4 0 := hput.new 1 3 rfl
  have s4 : sl a2 4 = .bool false := hput.new 2 4 rfl
  replace hz := hput.size.trans hz
  replace hd := hput.defers.trans hd
  clear hput s0 s1
  change Code.wp _ _ _ _ _
  refine wp_seq ?_
  refine seq_l [2] hz ?_
  refine ⟨.agg #[i6 x.hd.age, i6 x.hd.kind, i6 x.hd.id, i6 x.hd.adv, i6 x.hd.seq, i6 x.hd.sum, i6 x.hd.long, .slice p.A x.links.length p.c, .slice p.B x.mem.length p.d], fun _ h_ => rk (lbS 9 (hS4.blk (i := 1) rfl) rfl (h_.b 2 s2)),
   .agg #[i6 y.hd.age, i6 y.hd.kind, i6 y.hd.id, i6 y.hd.adv, i6 y.hd.seq, i6 y.hd.sum, i6 y.hd.long, .slice q.A y.links.length q.c, .slice q.B y.mem.length q.d], fun _ h_ => rk (lbS 9 (hS4.blk (i := 0) rfl) rfl (h_.b 3 s3)), ?_⟩
  refine ⟨fun a_ h_ => st_call (on_none rfl) (run_call rfl (map2 (h_.d 0 5) (h_.d 1 6)) rfl) (same04_any x y p q _ (hx.below (hS4.old (by simp))) (hy.below (hS4.old (by simp))) h1 h2 h3 h4) ?_, trivial⟩
  rintro e w6 ⟨rfl, hb6⟩
  refine ⟨_, rfl, _, rfl, ?_⟩
  clear h_ a_
  have hS6 := hS4.below hb6
  clear hS4 hb6
  refine ⟨.bool (decide (x = y)), fun _ h_ => ras (h_.d 2 7), ?_⟩
  intro a5 hput
  replace s4 : sl a5 4 = .bool (decide (x = y)) := hput.new 3 4 rfl
  replace hz := hput.size.trans hz
  replace hd := hput.defers.trans hd
  clear hput s2 s3
  change Code.wp _ _ _ _ _
  refine wp_ret ?_
  refine ret1 (P := Try.prog) (fn := Try.f13) hd s4 (hR_ _ _ ?_)
  exact ⟨rfl, (hS6.old (by simp))⟩
end Go.Proofs.Ytmklebkldailnaa
