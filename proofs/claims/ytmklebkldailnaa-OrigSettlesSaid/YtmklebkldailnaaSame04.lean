/-
  The reference's comparison of descriptions.
-/
import Derived.Test.YtmklebkldailnaaSep
import Derived.Test.YtmklebkldailnaaEqual
import Derived.Test.YtmklebkldailnaaLife
namespace Go.Proofs.Ytmklebkldailnaa
open Go.RowKit
set_option linter.unusedSimpArgs false
set_option linter.unusedVariables false

theorem neq_head (x y : HD) (w : World) : (binOp .neq 23 (.agg x.cells.toArray) (.agg y.cells.toArray)).run Try.prog w = .ok (.bool (decide (x ≠ y))) w := by
  obtain ⟨a1, a2, a3, a4, a5, a6, a7⟩ := x
  obtain ⟨b1, b2, b3, b4, b5, b6, b7⟩ := y
  dsimp only [HD.cells]
  go_simp
  repeat' split
  all_goals simp_all
theorem lv_eq {x y : LV} : x = y ↔ x.hd = y.hd ∧ x.links = y.links ∧ x.mem = y.mem := by cases x; cases y; simp
theorem take_all {α : Type} {l l' : List α} {k : Nat} (h : l.take k = l'.take k) (h1 : l.length ≤ k) (h2 : l.length = l'.length) : l = l' := by
  rw [List.take_of_length_le h1, List.take_of_length_le (by omega)] at h; exact h
theorem take_next {α : Type} {l l' : List α} {k : Nat} {x : α} (h : l.take k = l'.take k) (h1 : l[k]? = some x) (h2 : l'[k]? = some x) : l.take (k + 1) = l'.take (k + 1) := by
  rw [take_snoc l k x h1, take_snoc l' k x h2, h]
set_option maxRecDepth 100000 in
set_option maxHeartbeats 4000000 in
theorem same04_any (x y : LV) (p q : LP) (W : World) (hx : LOK W x p) (hy : LOK W y q) (h1 : x.links.length ≤ 5000) (h2 : y.links.length ≤ 5000) (h3 : x.mem.length ≤ 5000) (h4 : y.mem.length ≤ 5000) :
    Calls Try.prog 28 #[.agg (lsaA x p), .agg (lsaA y q)] W (fun r w' => r = .returned (.bool (decide (x = y))) ∧ Below W.heap.size W w') := by
  have hS := S.start W
  refine calls_walk (R := (fun r w' => r = .returned (.bool (decide (x = y))) ∧ Below W.heap.size W w')) Try.func28 rfl fun a hz hd hargs => ?_
  replace hz : a.tmps.size = 46 := hz.trans (by kernel_rfl)
  have s0 : a.tmps.getD 0 undef = .agg (List.toArray [.int .i64 x.hd.age, .int .i64 x.hd.kind, .int .i64 x.hd.id, .int .i64 x.hd.adv, .int .i64 x.hd.seq, .int .i64 x.hd.sum, .int .i64 x.hd.long, .slice p.A x.links.length p.c, .slice p.B x.mem.length p.d]) := hargs 0 _ rfl
  have s1 : a.tmps.getD 1 undef = .agg (List.toArray [.int .i64 y.hd.age, .int .i64 y.hd.kind, .int .i64 y.hd.id, .int .i64 y.hd.adv, .int .i64 y.hd.seq, .int .i64 y.hd.sum, .int .i64 y.hd.long, .slice q.A y.links.length q.c, .slice q.B y.mem.length q.d]) := hargs 1 _ rfl
  clear hargs
  refine wp_seq ?_
  refine seq_lit (.ef 0 (.ef 1 (.rd 2 (.fin)) .non) .non) (by kernel_rfl) hz (by kernel_rfl) (by kernel_rfl) ?_
  refine ⟨fun a hat => st_box (cells := #[.int .i64 x.hd.age, .int .i64 x.hd.kind, .int .i64 x.hd.id, .int .i64 x.hd.adv, .int .i64 x.hd.seq, .int .i64 x.hd.sum, .int .i64 x.hd.long, .slice p.A x.links.length p.c, .slice p.B x.mem.length p.d]) hS (on_none rfl) rfl ((hat.base 0 (by kernel_rfl)).trans s0) (by kernel_rfl) fun g3 w3 hS3 hb3 => ⟨_, rfl, ?_⟩, trivial⟩
  clear hat a hS
  refine ⟨fun a hat => st_box (cells := #[.int .i64 y.hd.age, .int .i64 y.hd.kind, .int .i64 y.hd.id, .int .i64 y.hd.adv, .int .i64 y.hd.seq, .int .i64 y.hd.sum, .int .i64 y.hd.long, .slice q.A y.links.length q.c, .slice q.B y.mem.length q.d]) hS3 (on_none rfl) rfl ((hat.base 1 (by kernel_rfl)).trans s1) (by kernel_rfl) fun g4 w4 hS4 hb4 => ⟨_, rfl, ?_⟩, trivial⟩
  clear hat a hS3
  refine ⟨.bool false, fun a hat => r_ok (on_none rfl) (run_assign rfl rfl), ?_⟩
  intro a2 hput
  have s2 : a2.tmps.getD 2 undef = .pointer (some ⟨g3, 0, none⟩) := hput.new 0 2 rfl
  have s3 : a2.tmps.getD 3 undef = .pointer (some ⟨g4, 0, none⟩) := hput.new 1 3 rfl
  have s4 : a2.tmps.getD 4 undef = .bool false := hput.new 2 4 rfl
  replace hz := hput.size.trans hz
  replace hd := hput.defers.trans hd
  clear hput s0 s1
  change Code.wp _ _ _ _ _
  refine wp_seq ?_
  refine wp_seq ?_
  refine seq_lit (.rd 0 (.rd 1 (.rd 2 (.rd 3 (.rd 4 (.rd 5 (.rd 6 (.rd 7 (.rd 8 (.rd 9 (.ef 10 (.rd 11 (.rd 12 (.rd 13 (.rd 14 (.rd 15 (.rd 16 (.rd 17 (.rd 18 (.rd 19 (.rd 20 (.rd 21 (.fin)))))))))))) .non))))))))))) (by kernel_rfl) hz (by kernel_rfl) (by kernel_rfl) ?_
  refine ⟨.pointer (some ⟨g3, 0, none⟩), fun a hat => r_ok (on_none rfl) (run_fieldAddr (m := 0) rfl ((hat.base 2 (by kernel_rfl)).trans s2) (by kernel_rfl) rfl),
   .agg (List.toArray [.int .i64 x.hd.age, .int .i64 x.hd.kind, .int .i64 x.hd.id, .int .i64 x.hd.adv, .int .i64 x.hd.seq, .int .i64 x.hd.sum, .int .i64 x.hd.long]), fun a hat => r_ok (on_none rfl) (run_loadS (n := 7) (out := [.int .i64 x.hd.age, .int .i64 x.hd.kind, .int .i64 x.hd.id, .int .i64 x.hd.adv, .int .i64 x.hd.seq, .int .i64 x.hd.sum, .int .i64 x.hd.long]) rfl (hat.dep 0 6 (by kernel_rfl) (by kernel_rfl)) (by kernel_rfl) (hS4.blk (i := 1) rfl) rfl rfl),
   .pointer (some ⟨g4, 0, none⟩), fun a hat => r_ok (on_none rfl) (run_fieldAddr (m := 0) rfl ((hat.base 3 (by kernel_rfl)).trans s3) (by kernel_rfl) rfl),
   .agg (List.toArray [.int .i64 y.hd.age, .int .i64 y.hd.kind, .int .i64 y.hd.id, .int .i64 y.hd.adv, .int .i64 y.hd.seq, .int .i64 y.hd.sum, .int .i64 y.hd.long]), fun a hat => r_ok (on_none rfl) (run_loadS (n := 7) (out := [.int .i64 y.hd.age, .int .i64 y.hd.kind, .int .i64 y.hd.id, .int .i64 y.hd.adv, .int .i64 y.hd.seq, .int .i64 y.hd.sum, .int .i64 y.hd.long]) rfl (hat.dep 2 8 (by kernel_rfl) (by kernel_rfl)) (by kernel_rfl) (hS4.blk (i := 0) rfl) rfl rfl),
   .bool (decide (x.hd ≠ y.hd)), fun a hat => r_ok (on_none rfl) (run_bin2 rfl (hat.dep 1 7 (by kernel_rfl) (by kernel_rfl)) (hat.dep 3 9 (by kernel_rfl) (by kernel_rfl)) (fun _ => by kernel_rfl) (neq_head x.hd y.hd)),
   .bool (decide (x.hd ≠ y.hd)), fun a hat => r_ok (on_none rfl) (run_move rfl (hat.dep 4 10 (by kernel_rfl) (by kernel_rfl))), ?_⟩
  rcases Bool.eq_false_or_eq_true (decide (x.hd ≠ y.hd)) with hg5 | hg5
  · rw [hg5]
    replace hg5 := of_decide_eq_true hg5
    refine ⟨undef, fun a hat => r_off (off_dep (b := false) (d := 11) rfl (by kernel_rfl) (hat.dep 5 11 (by kernel_rfl) (by kernel_rfl))) rfl,
     undef, fun a hat => r_off (off_dep (b := false) (d := 11) rfl (by kernel_rfl) (hat.dep 5 11 (by kernel_rfl) (by kernel_rfl))) rfl,
     undef, fun a hat => r_off (off_dep (b := false) (d := 11) rfl (by kernel_rfl) (hat.dep 5 11 (by kernel_rfl) (by kernel_rfl))) rfl,
     undef, fun a hat => r_off (off_dep (b := false) (d := 11) rfl (by kernel_rfl) (hat.dep 5 11 (by kernel_rfl) (by kernel_rfl))) rfl, ?_⟩
    refine ⟨fun a hat => step_off (off_dep (b := false) (d := 11) rfl (by kernel_rfl) (hat.dep 5 11 (by kernel_rfl) (by kernel_rfl))) ?_, trivial⟩
    clear hat a
    refine ⟨undef, fun a hat => r_off (off_dep (b := false) (d := 11) rfl (by kernel_rfl) (hat.dep 5 11 (by kernel_rfl) (by kernel_rfl))) rfl,
     .bool true, fun a hat => r_ok (on_none rfl) (run_pick_t rfl (hat.dep 5 11 (by kernel_rfl) (by kernel_rfl)) rfl),
     .bool true, fun a hat => r_ok (on_none rfl) (run_move rfl (hat.dep 12 18 (by kernel_rfl) (by kernel_rfl))),
     undef, fun a hat => r_off (off_dep (b := false) (d := 19) rfl (by kernel_rfl) (hat.dep 13 19 (by kernel_rfl) (by kernel_rfl))) rfl,
     undef, fun a hat => r_off (off_dep (b := false) (d := 19) rfl (by kernel_rfl) (hat.dep 13 19 (by kernel_rfl) (by kernel_rfl))) rfl,
     undef, fun a hat => r_off (off_dep (b := false) (d := 19) rfl (by kernel_rfl) (hat.dep 13 19 (by kernel_rfl) (by kernel_rfl))) rfl,
     undef, fun a hat => r_off (off_dep (b := false) (d := 19) rfl (by kernel_rfl) (hat.dep 13 19 (by kernel_rfl) (by kernel_rfl))) rfl,
     undef, fun a hat => r_off (off_dep (b := false) (d := 19) rfl (by kernel_rfl) (hat.dep 13 19 (by kernel_rfl) (by kernel_rfl))) rfl,
     undef, fun a hat => r_off (off_dep (b := false) (d := 19) rfl (by kernel_rfl) (hat.dep 13 19 (by kernel_rfl) (by kernel_rfl))) rfl,
     undef, fun a hat => r_off (off_dep (b := false) (d := 19) rfl (by kernel_rfl) (hat.dep 13 19 (by kernel_rfl) (by kernel_rfl))) rfl,
     .bool true, fun a hat => r_ok (on_none rfl) (run_pick_t rfl (hat.dep 13 19 (by kernel_rfl) (by kernel_rfl)) rfl), ?_⟩
    intro a5 hput
    replace s2 : a5.tmps.getD 2 undef = .pointer (some ⟨g3, 0, none⟩) := (hput.old 2 (by kernel_rfl)).trans s2
    replace s3 : a5.tmps.getD 3 undef = .pointer (some ⟨g4, 0, none⟩) := (hput.old 3 (by kernel_rfl)).trans s3
    replace s4 : a5.tmps.getD 4 undef = .bool false := (hput.old 4 (by kernel_rfl)).trans s4
    have s27 : a5.tmps.getD 27 undef = .bool true := hput.new 21 27 rfl
    replace hz := hput.size.trans hz
    replace hd := hput.defers.trans hd
    clear hput
    change Code.wp _ _ _ _ _
    refine wp_cond_true s27 ?_
    refine wp_seq ?_
    refine seq_lit (.rd 0 (.fin)) (by kernel_rfl) hz (by kernel_rfl) (by kernel_rfl) ?_
    refine ⟨.bool false, fun a hat => r_ok (on_none rfl) (run_assign rfl rfl), ?_⟩
    intro a6 hput
    replace s2 : a6.tmps.getD 2 undef = .pointer (some ⟨g3, 0, none⟩) := (hput.old 2 (by kernel_rfl)).trans s2
    replace s3 : a6.tmps.getD 3 undef = .pointer (some ⟨g4, 0, none⟩) := (hput.old 3 (by kernel_rfl)).trans s3
    replace s4 : a6.tmps.getD 4 undef = .bool false := hput.new 0 4 rfl
    replace hz := hput.size.trans hz
    replace hd := hput.defers.trans hd
    clear hput s27
    change Code.wp _ _ _ _ _
    refine wp_ret ?_
    refine bodyPost_ret (P := Try.prog) (fn := Try.f28) (R := (fun r w' => r = .returned (.bool (decide (x = y))) ∧ Below W.heap.size W w')) (v := .bool false) (by rw [results_tmp (t := 4) (by kernel_rfl), s4]) hd ?_
    refine ⟨?_, (hS4.old (by simp))⟩
    congr 2
    exact (decide_eq_false fun e => by rw [lv_eq] at e; simp_all).symm
  · rw [hg5]
    replace hg5 := of_decide_eq_false hg5
    refine ⟨.pointer (some ⟨g3, 8, none⟩), fun a hat => r_ok (on_dep (b := false) (d := 11) rfl (by kernel_rfl) (hat.dep 5 11 (by kernel_rfl) (by kernel_rfl))) (run_fieldAddr (m := 8) rfl ((hat.base 2 (by kernel_rfl)).trans s2) (by kernel_rfl) rfl),
     .slice p.B x.mem.length p.d, fun a hat => r_ok (on_dep (b := false) (d := 11) rfl (by kernel_rfl) (hat.dep 5 11 (by kernel_rfl) (by kernel_rfl))) (run_load rfl (hat.dep 6 12 (by kernel_rfl) (by kernel_rfl)) (by kernel_rfl) (show w4.cell? ⟨g3, 8, none⟩ = some (.slice p.B x.mem.length p.d) from Blk.cell (hS4.blk (i := 1) rfl) 8)),
     .pointer (some ⟨g4, 8, none⟩), fun a hat => r_ok (on_dep (b := false) (d := 11) rfl (by kernel_rfl) (hat.dep 5 11 (by kernel_rfl) (by kernel_rfl))) (run_fieldAddr (m := 8) rfl ((hat.base 3 (by kernel_rfl)).trans s3) (by kernel_rfl) rfl),
     .slice q.B y.mem.length q.d, fun a hat => r_ok (on_dep (b := false) (d := 11) rfl (by kernel_rfl) (hat.dep 5 11 (by kernel_rfl) (by kernel_rfl))) (run_load rfl (hat.dep 8 14 (by kernel_rfl) (by kernel_rfl)) (by kernel_rfl) (show w4.cell? ⟨g4, 8, none⟩ = some (.slice q.B y.mem.length q.d) from Blk.cell (hS4.blk (i := 0) rfl) 8)), ?_⟩
    refine ⟨fun a hat => st_call (on_dep (b := false) (d := 11) rfl (by kernel_rfl) (hat.dep 5 11 (by kernel_rfl) (by kernel_rfl))) (run_call rfl (map2 (hat.dep 7 13 (by kernel_rfl) (by kernel_rfl)) (hat.dep 9 15 (by kernel_rfl) (by kernel_rfl))) rfl) (refInts_any _ _ _ x.mem _ _ _ y.mem _ (by omega) (by omega) (hx.below (hS4.old (by simp))).mem (hy.below (hS4.old (by simp))).mem) ?_, trivial⟩
    rintro e w7 ⟨rfl, hb7⟩
    refine ⟨_, rfl, _, rfl, ?_⟩
    clear hat a
    have hS7 := hS4.below hb7
    clear hS4 hb7
    refine ⟨.bool (!(decide (x.mem = y.mem))), fun a hat => r_ok (on_dep (b := false) (d := 11) rfl (by kernel_rfl) (hat.dep 5 11 (by kernel_rfl) (by kernel_rfl))) (run_not rfl (hat.dep 10 16 (by kernel_rfl) (by kernel_rfl)) rfl),
     .bool (!(decide (x.mem = y.mem))), fun a hat => r_ok (on_none rfl) (run_pick_f rfl (hat.dep 5 11 (by kernel_rfl) (by kernel_rfl)) (hat.dep 11 17 (by kernel_rfl) (by kernel_rfl))),
     .bool (!(decide (x.mem = y.mem))), fun a hat => r_ok (on_none rfl) (run_move rfl (hat.dep 12 18 (by kernel_rfl) (by kernel_rfl))), ?_⟩
    rcases Bool.eq_false_or_eq_true (!(decide (x.mem = y.mem))) with hg13 | hg13
    · rw [hg13]
      replace hg13 : (decide (x.mem = y.mem)) = false := by simpa using hg13
      refine ⟨undef, fun a hat => r_off (off_dep (b := false) (d := 19) rfl (by kernel_rfl) (hat.dep 13 19 (by kernel_rfl) (by kernel_rfl))) rfl,
       undef, fun a hat => r_off (off_dep (b := false) (d := 19) rfl (by kernel_rfl) (hat.dep 13 19 (by kernel_rfl) (by kernel_rfl))) rfl,
       undef, fun a hat => r_off (off_dep (b := false) (d := 19) rfl (by kernel_rfl) (hat.dep 13 19 (by kernel_rfl) (by kernel_rfl))) rfl,
       undef, fun a hat => r_off (off_dep (b := false) (d := 19) rfl (by kernel_rfl) (hat.dep 13 19 (by kernel_rfl) (by kernel_rfl))) rfl,
       undef, fun a hat => r_off (off_dep (b := false) (d := 19) rfl (by kernel_rfl) (hat.dep 13 19 (by kernel_rfl) (by kernel_rfl))) rfl,
       undef, fun a hat => r_off (off_dep (b := false) (d := 19) rfl (by kernel_rfl) (hat.dep 13 19 (by kernel_rfl) (by kernel_rfl))) rfl,
       undef, fun a hat => r_off (off_dep (b := false) (d := 19) rfl (by kernel_rfl) (hat.dep 13 19 (by kernel_rfl) (by kernel_rfl))) rfl,
       .bool true, fun a hat => r_ok (on_none rfl) (run_pick_t rfl (hat.dep 13 19 (by kernel_rfl) (by kernel_rfl)) rfl), ?_⟩
      intro a5 hput
      replace s2 : a5.tmps.getD 2 undef = .pointer (some ⟨g3, 0, none⟩) := (hput.old 2 (by kernel_rfl)).trans s2
      replace s3 : a5.tmps.getD 3 undef = .pointer (some ⟨g4, 0, none⟩) := (hput.old 3 (by kernel_rfl)).trans s3
      replace s4 : a5.tmps.getD 4 undef = .bool false := (hput.old 4 (by kernel_rfl)).trans s4
      have s27 : a5.tmps.getD 27 undef = .bool true := hput.new 21 27 rfl
      replace hz := hput.size.trans hz
      replace hd := hput.defers.trans hd
      clear hput
      change Code.wp _ _ _ _ _
      refine wp_cond_true s27 ?_
      refine wp_seq ?_
      refine seq_lit (.rd 0 (.fin)) (by kernel_rfl) hz (by kernel_rfl) (by kernel_rfl) ?_
      refine ⟨.bool false, fun a hat => r_ok (on_none rfl) (run_assign rfl rfl), ?_⟩
      intro a8 hput
      replace s2 : a8.tmps.getD 2 undef = .pointer (some ⟨g3, 0, none⟩) := (hput.old 2 (by kernel_rfl)).trans s2
      replace s3 : a8.tmps.getD 3 undef = .pointer (some ⟨g4, 0, none⟩) := (hput.old 3 (by kernel_rfl)).trans s3
      replace s4 : a8.tmps.getD 4 undef = .bool false := hput.new 0 4 rfl
      replace hz := hput.size.trans hz
      replace hd := hput.defers.trans hd
      clear hput s27
      change Code.wp _ _ _ _ _
      refine wp_ret ?_
      refine bodyPost_ret (P := Try.prog) (fn := Try.f28) (R := (fun r w' => r = .returned (.bool (decide (x = y))) ∧ Below W.heap.size W w')) (v := .bool false) (by rw [results_tmp (t := 4) (by kernel_rfl), s4]) hd ?_
      refine ⟨?_, (hS7.old (by simp))⟩
      congr 2
      exact (decide_eq_false fun e => by rw [lv_eq] at e; simp_all).symm
    · rw [hg13]
      replace hg13 : (decide (x.mem = y.mem)) = true := by simpa using hg13
      refine ⟨.pointer (some ⟨g3, 7, none⟩), fun a hat => r_ok (on_dep (b := false) (d := 19) rfl (by kernel_rfl) (hat.dep 13 19 (by kernel_rfl) (by kernel_rfl))) (run_fieldAddr (m := 7) rfl ((hat.base 2 (by kernel_rfl)).trans s2) (by kernel_rfl) rfl),
       .slice p.A x.links.length p.c, fun a hat => r_ok (on_dep (b := false) (d := 19) rfl (by kernel_rfl) (hat.dep 13 19 (by kernel_rfl) (by kernel_rfl))) (run_load rfl (hat.dep 14 20 (by kernel_rfl) (by kernel_rfl)) (by kernel_rfl) (show w7.cell? ⟨g3, 7, none⟩ = some (.slice p.A x.links.length p.c) from Blk.cell (hS7.blk (i := 1) rfl) 7)),
       .int .i64 x.links.length, fun a hat => r_ok (on_dep (b := false) (d := 19) rfl (by kernel_rfl) (hat.dep 13 19 (by kernel_rfl) (by kernel_rfl))) (run_lenS rfl (hat.dep 15 21 (by kernel_rfl) (by kernel_rfl)) (by kernel_rfl)),
       .pointer (some ⟨g4, 7, none⟩), fun a hat => r_ok (on_dep (b := false) (d := 19) rfl (by kernel_rfl) (hat.dep 13 19 (by kernel_rfl) (by kernel_rfl))) (run_fieldAddr (m := 7) rfl ((hat.base 3 (by kernel_rfl)).trans s3) (by kernel_rfl) rfl),
       .slice q.A y.links.length q.c, fun a hat => r_ok (on_dep (b := false) (d := 19) rfl (by kernel_rfl) (hat.dep 13 19 (by kernel_rfl) (by kernel_rfl))) (run_load rfl (hat.dep 17 23 (by kernel_rfl) (by kernel_rfl)) (by kernel_rfl) (show w7.cell? ⟨g4, 7, none⟩ = some (.slice q.A y.links.length q.c) from Blk.cell (hS7.blk (i := 0) rfl) 7)),
       .int .i64 y.links.length, fun a hat => r_ok (on_dep (b := false) (d := 19) rfl (by kernel_rfl) (hat.dep 13 19 (by kernel_rfl) (by kernel_rfl))) (run_lenS rfl (hat.dep 18 24 (by kernel_rfl) (by kernel_rfl)) (by kernel_rfl)),
       .bool (decide ((x.links.length : Int) ≠ y.links.length)), fun a hat => r_ok (on_dep (b := false) (d := 19) rfl (by kernel_rfl) (hat.dep 13 19 (by kernel_rfl) (by kernel_rfl))) (run_cmp rfl (hat.dep 16 22 (by kernel_rfl) (by kernel_rfl)) (hat.dep 19 25 (by kernel_rfl) (by kernel_rfl)) rfl (by first | rfl | exact neq_dec _ _ | exact eq_dec _ _ | simp)),
       .bool (decide ((x.links.length : Int) ≠ y.links.length)), fun a hat => r_ok (on_none rfl) (run_pick_f rfl (hat.dep 13 19 (by kernel_rfl) (by kernel_rfl)) (hat.dep 20 26 (by kernel_rfl) (by kernel_rfl))), ?_⟩
      intro a5 hput
      replace s2 : a5.tmps.getD 2 undef = .pointer (some ⟨g3, 0, none⟩) := (hput.old 2 (by kernel_rfl)).trans s2
      replace s3 : a5.tmps.getD 3 undef = .pointer (some ⟨g4, 0, none⟩) := (hput.old 3 (by kernel_rfl)).trans s3
      replace s4 : a5.tmps.getD 4 undef = .bool false := (hput.old 4 (by kernel_rfl)).trans s4
      have s27 : a5.tmps.getD 27 undef = .bool (decide ((x.links.length : Int) ≠ y.links.length)) := hput.new 21 27 rfl
      replace hz := hput.size.trans hz
      replace hd := hput.defers.trans hd
      clear hput
      change Code.wp _ _ _ _ _
      rcases Bool.eq_false_or_eq_true (decide ((x.links.length : Int) ≠ y.links.length)) with hc27 | hc27
      · rw [hc27] at s27
        replace hc27 := of_decide_eq_true hc27
        refine wp_cond_true s27 ?_
        refine wp_seq ?_
        refine seq_lit (.rd 0 (.fin)) (by kernel_rfl) hz (by kernel_rfl) (by kernel_rfl) ?_
        refine ⟨.bool false, fun a hat => r_ok (on_none rfl) (run_assign rfl rfl), ?_⟩
        intro a9 hput
        replace s2 : a9.tmps.getD 2 undef = .pointer (some ⟨g3, 0, none⟩) := (hput.old 2 (by kernel_rfl)).trans s2
        replace s3 : a9.tmps.getD 3 undef = .pointer (some ⟨g4, 0, none⟩) := (hput.old 3 (by kernel_rfl)).trans s3
        replace s4 : a9.tmps.getD 4 undef = .bool false := hput.new 0 4 rfl
        replace hz := hput.size.trans hz
        replace hd := hput.defers.trans hd
        clear hput s27
        change Code.wp _ _ _ _ _
        refine wp_ret ?_
        refine bodyPost_ret (P := Try.prog) (fn := Try.f28) (R := (fun r w' => r = .returned (.bool (decide (x = y))) ∧ Below W.heap.size W w')) (v := .bool false) (by rw [results_tmp (t := 4) (by kernel_rfl), s4]) hd ?_
        refine ⟨?_, (hS7.old (by simp))⟩
        congr 2
        exact (decide_eq_false fun e => by rw [lv_eq] at e; simp_all).symm
      · rw [hc27] at s27
        replace hc27 := of_decide_eq_false hc27
        have hlen : x.links.length = y.links.length := by omega
        have hmm : x.mem = y.mem := by simpa using hg13
        refine wp_cond_false s27 ?_
        refine wp_skip ?_
        change Code.wp _ _ _ _ _
        refine wp_seq ?_
        refine wp_seq ?_
        refine seq_lit (.rd 0 (.fin)) (by kernel_rfl) hz (by kernel_rfl) (by kernel_rfl) ?_
        refine ⟨.int .i64 0, fun a hat => r_ok (on_none rfl) (run_assign rfl rfl), ?_⟩
        intro a10 hput
        replace s2 : a10.tmps.getD 2 undef = .pointer (some ⟨g3, 0, none⟩) := (hput.old 2 (by kernel_rfl)).trans s2
        replace s3 : a10.tmps.getD 3 undef = .pointer (some ⟨g4, 0, none⟩) := (hput.old 3 (by kernel_rfl)).trans s3
        replace s4 : a10.tmps.getD 4 undef = .bool false := (hput.old 4 (by kernel_rfl)).trans s4
        have s5 : a10.tmps.getD 5 undef = .int .i64 0 := hput.new 0 5 rfl
        replace hz := hput.size.trans hz
        replace hd := hput.defers.trans hd
        clear hput s27
        change Code.wp _ _ _ _ _
        refine wp_block ?_
        refine wp_loop (fun a w => ∃ k : Nat, k ≤ x.links.length ∧ x.links.take k = y.links.take k ∧ a.tmps.size = 46 ∧ a.defers = [] ∧ a.tmps.getD 2 undef = .pointer (some ⟨g3, 0, none⟩) ∧ a.tmps.getD 3 undef = .pointer (some ⟨g4, 0, none⟩) ∧ a.tmps.getD 4 undef = .bool false ∧ a.tmps.getD 5 undef = .int .i64 k ∧ S (kap W) ((blkA g4 27 #[.int .i64 y.hd.age, .int .i64 y.hd.kind, .int .i64 y.hd.id, .int .i64 y.hd.adv, .int .i64 y.hd.seq, .int .i64 y.hd.sum, .int .i64 y.hd.long, .slice q.A y.links.length q.c, .slice q.B y.mem.length q.d]) :: (blkA g3 27 #[.int .i64 x.hd.age, .int .i64 x.hd.kind, .int .i64 x.hd.id, .int .i64 x.hd.adv, .int .i64 x.hd.seq, .int .i64 x.hd.sum, .int .i64 x.hd.long, .slice p.A x.links.length p.c, .slice p.B x.mem.length p.d]) :: []) ((memA W W.heap.size) :: []) w) (fun a _ => x.links.length - (intOf (a.tmps.getD 5 undef)).toNat) ?_ ?_
        · exact ⟨0, Nat.zero_le _, rfl, hz, hd, s2, s3, s4, s5, hS7⟩
        · clear hz hd s2 s3 s4 s5 hS7
          rintro a11 w11 ⟨k, hc0_0, hc0_1, hz, hd, s2, s3, s4, s5, hS11⟩
          have hmu0 := s5
          refine wp_seq ?_
          refine wp_seq ?_
          refine seq_lit (.rd 0 (.rd 1 (.rd 2 (.rd 3 (.rd 4 (.fin)))))) (by kernel_rfl) hz (by kernel_rfl) (by kernel_rfl) ?_
          refine ⟨.int .i64 k, fun a hat => r_ok (on_none rfl) (run_move rfl ((hat.base 5 (by kernel_rfl)).trans s5)),
           .pointer (some ⟨g3, 7, none⟩), fun a hat => r_ok (on_none rfl) (run_fieldAddr (m := 7) rfl ((hat.base 2 (by kernel_rfl)).trans s2) (by kernel_rfl) rfl),
           .slice p.A x.links.length p.c, fun a hat => r_ok (on_none rfl) (run_load rfl (hat.dep 1 29 (by kernel_rfl) (by kernel_rfl)) (by kernel_rfl) (show w11.cell? ⟨g3, 7, none⟩ = some (.slice p.A x.links.length p.c) from Blk.cell (hS11.blk (i := 1) rfl) 7)),
           .int .i64 x.links.length, fun a hat => r_ok (on_none rfl) (run_lenS rfl (hat.dep 2 30 (by kernel_rfl) (by kernel_rfl)) (by kernel_rfl)),
           .bool (decide ((k : Int) < x.links.length)), fun a hat => r_ok (on_none rfl) (run_cmp rfl (hat.dep 0 28 (by kernel_rfl) (by kernel_rfl)) (hat.dep 3 31 (by kernel_rfl) (by kernel_rfl)) rfl (by first | rfl | exact neq_dec _ _ | exact eq_dec _ _ | simp)), ?_⟩
          intro a12 hput
          replace s2 : a12.tmps.getD 2 undef = .pointer (some ⟨g3, 0, none⟩) := (hput.old 2 (by kernel_rfl)).trans s2
          replace s3 : a12.tmps.getD 3 undef = .pointer (some ⟨g4, 0, none⟩) := (hput.old 3 (by kernel_rfl)).trans s3
          replace s4 : a12.tmps.getD 4 undef = .bool false := (hput.old 4 (by kernel_rfl)).trans s4
          replace s5 : a12.tmps.getD 5 undef = .int .i64 k := (hput.old 5 (by kernel_rfl)).trans s5
          have s28 : a12.tmps.getD 28 undef = .int .i64 k := hput.new 0 28 rfl
          have s29 : a12.tmps.getD 29 undef = .pointer (some ⟨g3, 7, none⟩) := hput.new 1 29 rfl
          have s30 : a12.tmps.getD 30 undef = .slice p.A x.links.length p.c := hput.new 2 30 rfl
          have s31 : a12.tmps.getD 31 undef = .int .i64 x.links.length := hput.new 3 31 rfl
          have s32 : a12.tmps.getD 32 undef = .bool (decide ((k : Int) < x.links.length)) := hput.new 4 32 rfl
          replace hz := hput.size.trans hz
          replace hd := hput.defers.trans hd
          clear hput
          change Code.wp _ _ _ _ _
          rcases Bool.eq_false_or_eq_true (decide ((k : Int) < x.links.length)) with hc32 | hc32
          · rw [hc32] at s32
            replace hc32 := of_decide_eq_true hc32
            refine wp_cond_true s32 ?_
            refine wp_skip ?_
            change Code.wp _ _ _ _ _
            refine wp_seq ?_
            refine wp_block ?_
            refine wp_seq ?_
            refine seq_region [[], [0], [], [0, 1, 2], [0, 1, 2, 3], [], [5], [], [5, 6, 7], [5, 6, 7, 8], [0, 1, 2, 3, 4, 5, 6, 7, 8, 9]] [] (.rd 0 (.rd 1 (.rd 2 (.rd 3 (.rd 4 (.rd 5 (.rd 6 (.rd 7 (.rd 8 (.rd 9 (.rd 10 (.fin)))))))))))) (by kernel_rfl) (by kernel_rfl) (by kernel_rfl) hz (by kernel_rfl) (by kernel_rfl) (by kernel_rfl) fun w13 hb13 => ?_
            replace hS11 := hS11.below hb13
            refine ⟨.pointer (some ⟨g3, 7, none⟩), fun a hat => r_ok (on_none rfl) (run_fieldAddr (m := 7) rfl ((hat.base 2 (by kernel_rfl)).trans s2) (by kernel_rfl) rfl),
             .slice p.A x.links.length p.c, fun a hat => r_ok (on_none rfl) (run_load rfl (hat.dep 0 35 (by kernel_rfl) (by kernel_rfl)) (by kernel_rfl) (show w13.cell? ⟨g3, 7, none⟩ = some (.slice p.A x.links.length p.c) from Blk.cell (hS11.blk (i := 1) rfl) 7)),
             .int .i64 k, fun a hat => r_ok (on_none rfl) (run_move rfl ((hat.base 5 (by kernel_rfl)).trans s5)), ?_⟩
            obtain ⟨b14, o14, z14, hA14, hb14, hz14, hq14⟩ := Reads.row_at Lk.cells 4 Lk.cells_len (k := k) ((hx.below (hS11.old (by simp))).links) (by decide) (by omega)
            refine ⟨.pointer (some ⟨b14, o14 + k * 4, none⟩), fun a hat => r_ok (on_none rfl) (run_indexV (size := 4) rfl (hat.dep 1 36 (by kernel_rfl) (by kernel_rfl)) hA14 (hat.dep 2 37 (by kernel_rfl) (by kernel_rfl)) (by kernel_rfl) (by omega) (by simp)),
             .agg (List.toArray [.int .i64 z14.kind, .int .i64 z14.id, .int .i64 z14.data, .int .i64 z14.cost]), fun a hat => r_ok (on_none rfl) (run_loadV (size := 4) (cs := Lk.cells z14) rfl (hat.dep 3 38 (by kernel_rfl) (by kernel_rfl)) (by kernel_rfl) rfl hq14),
             .pointer (some ⟨g4, 7, none⟩), fun a hat => r_ok (on_none rfl) (run_fieldAddr (m := 7) rfl ((hat.base 3 (by kernel_rfl)).trans s3) (by kernel_rfl) rfl),
             .slice q.A y.links.length q.c, fun a hat => r_ok (on_none rfl) (run_load rfl (hat.dep 5 40 (by kernel_rfl) (by kernel_rfl)) (by kernel_rfl) (show w13.cell? ⟨g4, 7, none⟩ = some (.slice q.A y.links.length q.c) from Blk.cell (hS11.blk (i := 0) rfl) 7)),
             .int .i64 k, fun a hat => r_ok (on_none rfl) (run_move rfl ((hat.base 5 (by kernel_rfl)).trans s5)), ?_⟩
            obtain ⟨b15, o15, z15, hA15, hb15, hz15, hq15⟩ := Reads.row_at Lk.cells 4 Lk.cells_len (k := k) ((hy.below (hS11.old (by simp))).links) (by decide) (by omega)
            refine ⟨.pointer (some ⟨b15, o15 + k * 4, none⟩), fun a hat => r_ok (on_none rfl) (run_indexV (size := 4) rfl (hat.dep 6 41 (by kernel_rfl) (by kernel_rfl)) hA15 (hat.dep 7 42 (by kernel_rfl) (by kernel_rfl)) (by kernel_rfl) (by omega) (by simp)),
             .agg (List.toArray [.int .i64 z15.kind, .int .i64 z15.id, .int .i64 z15.data, .int .i64 z15.cost]), fun a hat => r_ok (on_none rfl) (run_loadV (size := 4) (cs := Lk.cells z15) rfl (hat.dep 8 43 (by kernel_rfl) (by kernel_rfl)) (by kernel_rfl) rfl hq15),
             .bool (decide (z14 ≠ z15)), fun a hat => r_ok (on_none rfl) (run_bin2 rfl (hat.dep 4 39 (by kernel_rfl) (by kernel_rfl)) (hat.dep 9 44 (by kernel_rfl) (by kernel_rfl)) (fun _ => by kernel_rfl) (neq_link z14 z15)), ?_⟩
            intro a13 hput
            replace s2 : a13.tmps.getD 2 undef = .pointer (some ⟨g3, 0, none⟩) := (hput.old 2 (by kernel_rfl)).trans s2
            replace s3 : a13.tmps.getD 3 undef = .pointer (some ⟨g4, 0, none⟩) := (hput.old 3 (by kernel_rfl)).trans s3
            replace s4 : a13.tmps.getD 4 undef = .bool false := (hput.old 4 (by kernel_rfl)).trans s4
            replace s5 : a13.tmps.getD 5 undef = .int .i64 k := (hput.old 5 (by kernel_rfl)).trans s5
            replace s28 : a13.tmps.getD 28 undef = .int .i64 k := (hput.old 28 (by kernel_rfl)).trans s28
            replace s29 : a13.tmps.getD 29 undef = .pointer (some ⟨g3, 7, none⟩) := (hput.old 29 (by kernel_rfl)).trans s29
            replace s30 : a13.tmps.getD 30 undef = .slice p.A x.links.length p.c := (hput.old 30 (by kernel_rfl)).trans s30
            replace s31 : a13.tmps.getD 31 undef = .int .i64 x.links.length := (hput.old 31 (by kernel_rfl)).trans s31
            replace s32 : a13.tmps.getD 32 undef = .bool true := (hput.old 32 (by kernel_rfl)).trans s32
            have s35 : a13.tmps.getD 35 undef = .pointer (some ⟨g3, 7, none⟩) := hput.new 0 35 rfl
            have s36 : a13.tmps.getD 36 undef = .slice p.A x.links.length p.c := hput.new 1 36 rfl
            have s37 : a13.tmps.getD 37 undef = .int .i64 k := hput.new 2 37 rfl
            have s38 : a13.tmps.getD 38 undef = .pointer (some ⟨b14, o14 + k * 4, none⟩) := hput.new 3 38 rfl
            have s39 : a13.tmps.getD 39 undef = .agg (List.toArray [.int .i64 z14.kind, .int .i64 z14.id, .int .i64 z14.data, .int .i64 z14.cost]) := hput.new 4 39 rfl
            have s40 : a13.tmps.getD 40 undef = .pointer (some ⟨g4, 7, none⟩) := hput.new 5 40 rfl
            have s41 : a13.tmps.getD 41 undef = .slice q.A y.links.length q.c := hput.new 6 41 rfl
            have s42 : a13.tmps.getD 42 undef = .int .i64 k := hput.new 7 42 rfl
            have s43 : a13.tmps.getD 43 undef = .pointer (some ⟨b15, o15 + k * 4, none⟩) := hput.new 8 43 rfl
            have s44 : a13.tmps.getD 44 undef = .agg (List.toArray [.int .i64 z15.kind, .int .i64 z15.id, .int .i64 z15.data, .int .i64 z15.cost]) := hput.new 9 44 rfl
            have s45 : a13.tmps.getD 45 undef = .bool (decide (z14 ≠ z15)) := hput.new 10 45 rfl
            replace hz := hput.size.trans hz
            replace hd := hput.defers.trans hd
            clear hput
            change Code.wp _ _ _ _ _
            rcases Bool.eq_false_or_eq_true (decide (z14 ≠ z15)) with hc45 | hc45
            · rw [hc45] at s45
              replace hc45 := of_decide_eq_true hc45
              refine wp_cond_true s45 ?_
              refine wp_seq ?_
              refine seq_lit (.rd 0 (.fin)) (by kernel_rfl) hz (by kernel_rfl) (by kernel_rfl) ?_
              refine ⟨.bool false, fun a hat => r_ok (on_none rfl) (run_assign rfl rfl), ?_⟩
              intro a16 hput
              replace s2 : a16.tmps.getD 2 undef = .pointer (some ⟨g3, 0, none⟩) := (hput.old 2 (by kernel_rfl)).trans s2
              replace s3 : a16.tmps.getD 3 undef = .pointer (some ⟨g4, 0, none⟩) := (hput.old 3 (by kernel_rfl)).trans s3
              replace s4 : a16.tmps.getD 4 undef = .bool false := hput.new 0 4 rfl
              replace s5 : a16.tmps.getD 5 undef = .int .i64 k := (hput.old 5 (by kernel_rfl)).trans s5
              replace s28 : a16.tmps.getD 28 undef = .int .i64 k := (hput.old 28 (by kernel_rfl)).trans s28
              replace s29 : a16.tmps.getD 29 undef = .pointer (some ⟨g3, 7, none⟩) := (hput.old 29 (by kernel_rfl)).trans s29
              replace s30 : a16.tmps.getD 30 undef = .slice p.A x.links.length p.c := (hput.old 30 (by kernel_rfl)).trans s30
              replace s31 : a16.tmps.getD 31 undef = .int .i64 x.links.length := (hput.old 31 (by kernel_rfl)).trans s31
              replace s32 : a16.tmps.getD 32 undef = .bool true := (hput.old 32 (by kernel_rfl)).trans s32
              replace s35 : a16.tmps.getD 35 undef = .pointer (some ⟨g3, 7, none⟩) := (hput.old 35 (by kernel_rfl)).trans s35
              replace s36 : a16.tmps.getD 36 undef = .slice p.A x.links.length p.c := (hput.old 36 (by kernel_rfl)).trans s36
              replace s37 : a16.tmps.getD 37 undef = .int .i64 k := (hput.old 37 (by kernel_rfl)).trans s37
              replace s38 : a16.tmps.getD 38 undef = .pointer (some ⟨b14, o14 + k * 4, none⟩) := (hput.old 38 (by kernel_rfl)).trans s38
              replace s39 : a16.tmps.getD 39 undef = .agg (List.toArray [.int .i64 z14.kind, .int .i64 z14.id, .int .i64 z14.data, .int .i64 z14.cost]) := (hput.old 39 (by kernel_rfl)).trans s39
              replace s40 : a16.tmps.getD 40 undef = .pointer (some ⟨g4, 7, none⟩) := (hput.old 40 (by kernel_rfl)).trans s40
              replace s41 : a16.tmps.getD 41 undef = .slice q.A y.links.length q.c := (hput.old 41 (by kernel_rfl)).trans s41
              replace s42 : a16.tmps.getD 42 undef = .int .i64 k := (hput.old 42 (by kernel_rfl)).trans s42
              replace s43 : a16.tmps.getD 43 undef = .pointer (some ⟨b15, o15 + k * 4, none⟩) := (hput.old 43 (by kernel_rfl)).trans s43
              replace s44 : a16.tmps.getD 44 undef = .agg (List.toArray [.int .i64 z15.kind, .int .i64 z15.id, .int .i64 z15.data, .int .i64 z15.cost]) := (hput.old 44 (by kernel_rfl)).trans s44
              replace s45 : a16.tmps.getD 45 undef = .bool true := (hput.old 45 (by kernel_rfl)).trans s45
              replace hz := hput.size.trans hz
              replace hd := hput.defers.trans hd
              clear hput
              change Code.wp _ _ _ _ _
              refine wp_ret ?_
              refine bodyPost_ret (P := Try.prog) (fn := Try.f28) (R := (fun r w' => r = .returned (.bool (decide (x = y))) ∧ Below W.heap.size W w')) (v := .bool false) (by rw [results_tmp (t := 4) (by kernel_rfl), s4]) hd ?_
              refine ⟨?_, (hS11.old (by simp))⟩
              congr 2
              exact (decide_eq_false fun e => by rw [lv_eq] at e; simp_all).symm
            · rw [hc45] at s45
              replace hc45 := of_decide_eq_false hc45
              refine wp_cond_false s45 ?_
              refine wp_skip ?_
              change Code.wp _ _ _ _ _
              refine seq_lit (.rd 0 (.rd 1 (.rd 2 (.fin)))) (by kernel_rfl) hz (by kernel_rfl) (by kernel_rfl) ?_
              refine ⟨.int .i64 k, fun a hat => r_ok (on_none rfl) (run_move rfl ((hat.base 5 (by kernel_rfl)).trans s5)),
               .int .i64 (k + 1), fun a hat => r_ok (on_none rfl) (run_addI rfl (hat.dep 0 33 (by kernel_rfl) (by kernel_rfl)) rfl (by omega) rfl),
               .int .i64 (k + 1), fun a hat => r_ok (on_none rfl) (run_assign rfl (hat.dep 1 34 (by kernel_rfl) (by kernel_rfl))), ?_⟩
              intro a17 hput
              replace s2 : a17.tmps.getD 2 undef = .pointer (some ⟨g3, 0, none⟩) := (hput.old 2 (by kernel_rfl)).trans s2
              replace s3 : a17.tmps.getD 3 undef = .pointer (some ⟨g4, 0, none⟩) := (hput.old 3 (by kernel_rfl)).trans s3
              replace s4 : a17.tmps.getD 4 undef = .bool false := (hput.old 4 (by kernel_rfl)).trans s4
              replace s5 : a17.tmps.getD 5 undef = .int .i64 (k + 1) := hput.new 2 5 rfl
              replace s28 : a17.tmps.getD 28 undef = .int .i64 k := (hput.old 28 (by kernel_rfl)).trans s28
              replace s29 : a17.tmps.getD 29 undef = .pointer (some ⟨g3, 7, none⟩) := (hput.old 29 (by kernel_rfl)).trans s29
              replace s30 : a17.tmps.getD 30 undef = .slice p.A x.links.length p.c := (hput.old 30 (by kernel_rfl)).trans s30
              replace s31 : a17.tmps.getD 31 undef = .int .i64 x.links.length := (hput.old 31 (by kernel_rfl)).trans s31
              replace s32 : a17.tmps.getD 32 undef = .bool true := (hput.old 32 (by kernel_rfl)).trans s32
              have s33 : a17.tmps.getD 33 undef = .int .i64 k := hput.new 0 33 rfl
              have s34 : a17.tmps.getD 34 undef = .int .i64 (k + 1) := hput.new 1 34 rfl
              replace s35 : a17.tmps.getD 35 undef = .pointer (some ⟨g3, 7, none⟩) := (hput.old 35 (by kernel_rfl)).trans s35
              replace s36 : a17.tmps.getD 36 undef = .slice p.A x.links.length p.c := (hput.old 36 (by kernel_rfl)).trans s36
              replace s37 : a17.tmps.getD 37 undef = .int .i64 k := (hput.old 37 (by kernel_rfl)).trans s37
              replace s38 : a17.tmps.getD 38 undef = .pointer (some ⟨b14, o14 + k * 4, none⟩) := (hput.old 38 (by kernel_rfl)).trans s38
              replace s39 : a17.tmps.getD 39 undef = .agg (List.toArray [.int .i64 z14.kind, .int .i64 z14.id, .int .i64 z14.data, .int .i64 z14.cost]) := (hput.old 39 (by kernel_rfl)).trans s39
              replace s40 : a17.tmps.getD 40 undef = .pointer (some ⟨g4, 7, none⟩) := (hput.old 40 (by kernel_rfl)).trans s40
              replace s41 : a17.tmps.getD 41 undef = .slice q.A y.links.length q.c := (hput.old 41 (by kernel_rfl)).trans s41
              replace s42 : a17.tmps.getD 42 undef = .int .i64 k := (hput.old 42 (by kernel_rfl)).trans s42
              replace s43 : a17.tmps.getD 43 undef = .pointer (some ⟨b15, o15 + k * 4, none⟩) := (hput.old 43 (by kernel_rfl)).trans s43
              replace s44 : a17.tmps.getD 44 undef = .agg (List.toArray [.int .i64 z15.kind, .int .i64 z15.id, .int .i64 z15.data, .int .i64 z15.cost]) := (hput.old 44 (by kernel_rfl)).trans s44
              replace s45 : a17.tmps.getD 45 undef = .bool false := (hput.old 45 (by kernel_rfl)).trans s45
              replace hz := hput.size.trans hz
              replace hd := hput.defers.trans hd
              clear hput
              refine ⟨⟨k + 1, by omega, take_next hc0_1 hz14 (by rw [hz15]; exact congrArg some (Classical.not_not.1 hc45).symm), hz, hd, s2, s3, s4, s5, hS11⟩, ?_⟩
              show x.links.length - (intOf (a17.tmps.getD 5 undef)).toNat < x.links.length - (intOf (a11.tmps.getD 5 undef)).toNat
              rw [s5, hmu0]
              simp only [intOf]
              omega
          · rw [hc32] at s32
            replace hc32 := of_decide_eq_false hc32
            refine wp_cond_false s32 ?_
            refine wp_exit ?_
            change Code.wp _ _ _ _ _
            refine wp_seq ?_
            refine seq_lit (.rd 0 (.fin)) (by kernel_rfl) hz (by kernel_rfl) (by kernel_rfl) ?_
            refine ⟨.bool true, fun a hat => r_ok (on_none rfl) (run_assign rfl rfl), ?_⟩
            intro a18 hput
            replace s4 : a18.tmps.getD 4 undef = .bool true := hput.new 0 4 rfl
            replace hz := hput.size.trans hz
            replace hd := hput.defers.trans hd
            clear hput s2 s3 s5 s28 s29 s30 s31 s32
            change Code.wp _ _ _ _ _
            refine wp_ret ?_
            refine bodyPost_ret (P := Try.prog) (fn := Try.f28) (R := (fun r w' => r = .returned (.bool (decide (x = y))) ∧ Below W.heap.size W w')) (v := .bool true) (by rw [results_tmp (t := 4) (by kernel_rfl), s4]) hd ?_
            exact ⟨by rw [decide_eq_true (lv_eq.2 ⟨by simpa using hg5, take_all hc0_1 (by omega) hlen, hmm⟩)], (hS11.old (by simp))⟩
set_option maxRecDepth 100000 in
set_option maxHeartbeats 4000000 in
theorem same19_any (x y : LV) (p q : LP) (W : World) (hx : LOK W x p) (hy : LOK W y q) (h1 : x.links.length ≤ 5000) (h2 : y.links.length ≤ 5000) (h3 : x.mem.length ≤ 5000) (h4 : y.mem.length ≤ 5000) :
    Calls Try.prog 13 #[.agg (lsaA x p), .agg (lsaA y q)] W (fun r w' => r = .returned (.bool (decide (x = y))) ∧ Below W.heap.size W w') := by
  have hS := S.start W
  refine calls_walk (R := (fun r w' => r = .returned (.bool (decide (x = y))) ∧ Below W.heap.size W w')) Try.func13 rfl fun a hz hd hargs => ?_
  replace hz : a.tmps.size = 8 := hz.trans (by kernel_rfl)
  have s0 : a.tmps.getD 0 undef = .agg (List.toArray [.int .i64 x.hd.age, .int .i64 x.hd.kind, .int .i64 x.hd.id, .int .i64 x.hd.adv, .int .i64 x.hd.seq, .int .i64 x.hd.sum, .int .i64 x.hd.long, .slice p.A x.links.length p.c, .slice p.B x.mem.length p.d]) := hargs 0 _ rfl
  have s1 : a.tmps.getD 1 undef = .agg (List.toArray [.int .i64 y.hd.age, .int .i64 y.hd.kind, .int .i64 y.hd.id, .int .i64 y.hd.adv, .int .i64 y.hd.seq, .int .i64 y.hd.sum, .int .i64 y.hd.long, .slice q.A y.links.length q.c, .slice q.B y.mem.length q.d]) := hargs 1 _ rfl
  clear hargs
  refine wp_seq ?_
  refine seq_lit (.ef 0 (.ef 1 (.rd 2 (.fin)) .non) .non) (by kernel_rfl) hz (by kernel_rfl) (by kernel_rfl) ?_
  refine ⟨fun a hat => st_box (cells := #[.int .i64 x.hd.age, .int .i64 x.hd.kind, .int .i64 x.hd.id, .int .i64 x.hd.adv, .int .i64 x.hd.seq, .int .i64 x.hd.sum, .int .i64 x.hd.long, .slice p.A x.links.length p.c, .slice p.B x.mem.length p.d]) hS (on_none rfl) rfl ((hat.base 0 (by kernel_rfl)).trans s0) (by kernel_rfl) fun g3 w3 hS3 hb3 => ⟨_, rfl, ?_⟩, trivial⟩
  clear hat a hS
  refine ⟨fun a hat => st_box (cells := #[.int .i64 y.hd.age, .int .i64 y.hd.kind, .int .i64 y.hd.id, .int .i64 y.hd.adv, .int .i64 y.hd.seq, .int .i64 y.hd.sum, .int .i64 y.hd.long, .slice q.A y.links.length q.c, .slice q.B y.mem.length q.d]) hS3 (on_none rfl) rfl ((hat.base 1 (by kernel_rfl)).trans s1) (by kernel_rfl) fun g4 w4 hS4 hb4 => ⟨_, rfl, ?_⟩, trivial⟩
  clear hat a hS3
  refine ⟨.bool false, fun a hat => r_ok (on_none rfl) (run_assign rfl rfl), ?_⟩
  intro a2 hput
  have s2 : a2.tmps.getD 2 undef = .pointer (some ⟨g3, 0, none⟩) := hput.new 0 2 rfl
  have s3 : a2.tmps.getD 3 undef = .pointer (some ⟨g4, 0, none⟩) := hput.new 1 3 rfl
  have s4 : a2.tmps.getD 4 undef = .bool false := hput.new 2 4 rfl
  replace hz := hput.size.trans hz
  replace hd := hput.defers.trans hd
  clear hput s0 s1
  change Code.wp _ _ _ _ _
  refine wp_seq ?_
  refine seq_lit (.rd 0 (.rd 1 (.ef 2 (.rd 3 (.fin)) .non))) (by kernel_rfl) hz (by kernel_rfl) (by kernel_rfl) ?_
  refine ⟨.agg (List.toArray [.int .i64 x.hd.age, .int .i64 x.hd.kind, .int .i64 x.hd.id, .int .i64 x.hd.adv, .int .i64 x.hd.seq, .int .i64 x.hd.sum, .int .i64 x.hd.long, .slice p.A x.links.length p.c, .slice p.B x.mem.length p.d]), fun a hat => r_ok (on_none rfl) (run_loadS (n := 9) (out := [.int .i64 x.hd.age, .int .i64 x.hd.kind, .int .i64 x.hd.id, .int .i64 x.hd.adv, .int .i64 x.hd.seq, .int .i64 x.hd.sum, .int .i64 x.hd.long, .slice p.A x.links.length p.c, .slice p.B x.mem.length p.d]) rfl ((hat.base 2 (by kernel_rfl)).trans s2) (by kernel_rfl) (hS4.blk (i := 1) rfl) rfl rfl),
   .agg (List.toArray [.int .i64 y.hd.age, .int .i64 y.hd.kind, .int .i64 y.hd.id, .int .i64 y.hd.adv, .int .i64 y.hd.seq, .int .i64 y.hd.sum, .int .i64 y.hd.long, .slice q.A y.links.length q.c, .slice q.B y.mem.length q.d]), fun a hat => r_ok (on_none rfl) (run_loadS (n := 9) (out := [.int .i64 y.hd.age, .int .i64 y.hd.kind, .int .i64 y.hd.id, .int .i64 y.hd.adv, .int .i64 y.hd.seq, .int .i64 y.hd.sum, .int .i64 y.hd.long, .slice q.A y.links.length q.c, .slice q.B y.mem.length q.d]) rfl ((hat.base 3 (by kernel_rfl)).trans s3) (by kernel_rfl) (hS4.blk (i := 0) rfl) rfl rfl), ?_⟩
  refine ⟨fun a hat => st_call (on_none rfl) (run_call rfl (map2 (hat.dep 0 5 (by kernel_rfl) (by kernel_rfl)) (hat.dep 1 6 (by kernel_rfl) (by kernel_rfl))) rfl) (same04_any x y p q _ (hx.below (hS4.old (by simp))) (hy.below (hS4.old (by simp))) h1 h2 h3 h4) ?_, trivial⟩
  rintro e w6 ⟨rfl, hb6⟩
  refine ⟨_, rfl, _, rfl, ?_⟩
  clear hat a
  have hS6 := hS4.below hb6
  clear hS4 hb6
  refine ⟨.bool (decide (x = y)), fun a hat => r_ok (on_none rfl) (run_assign rfl (hat.dep 2 7 (by kernel_rfl) (by kernel_rfl))), ?_⟩
  intro a5 hput
  replace s4 : a5.tmps.getD 4 undef = .bool (decide (x = y)) := hput.new 3 4 rfl
  replace hz := hput.size.trans hz
  replace hd := hput.defers.trans hd
  clear hput s2 s3
  change Code.wp _ _ _ _ _
  refine wp_ret ?_
  refine bodyPost_ret (P := Try.prog) (fn := Try.f13) (R := (fun r w' => r = .returned (.bool (decide (x = y))) ∧ Below W.heap.size W w')) (v := .bool (decide (x = y))) (by rw [results_tmp (t := 4) (by kernel_rfl), s4]) hd ?_
  exact ⟨rfl, (hS6.old (by simp))⟩
end Go.Proofs.Ytmklebkldailnaa
