/-
  The reference's plan.
-/
import Derived.Test.YtmklebkldailnaaRef19
namespace Go.Proofs.Ytmklebkldailnaa
open Go.RowKit
set_option linter.unusedSimpArgs false
set_option linter.unusedVariables false

set_option maxRecDepth 100000 in
set_option maxHeartbeats 800000 in
theorem plan19_ff (m : MV) (p q : LP) (now : Int) (W : World) (hn : -1099511627776 ≤ now ∧ now ≤ 1099511627776) (ha : -1099511627776 ≤ m.at_ ∧ m.at_ ≤ 1099511627776) (hl : -9223372036854775808 ≤ m.last) (hq : -9223372036854775808 ≤ m.held.hd.seq) (hw1 : m.want.links.length ≤ 20) (hw2 : m.want.mem.length ≤ 20) (hh1 : m.held.links.length ≤ 20) (hh2 : m.held.mem.length ≤ 20) (hok : MOK W m p q) :
    Calls Try.prog 12 #[.agg #[i6 m.want.hd.age, i6 m.want.hd.kind, i6 m.want.hd.id, i6 m.want.hd.adv, i6 m.want.hd.seq, i6 m.want.hd.sum, i6 m.want.hd.long, .slice p.A m.want.links.length p.c, .slice p.B m.want.mem.length p.d, .bool false, i6 m.held.hd.age, i6 m.held.hd.kind, i6 m.held.hd.id, i6 m.held.hd.adv, i6 m.held.hd.seq, i6 m.held.hd.sum, i6 m.held.hd.long, .slice q.A m.held.links.length q.c, .slice q.B m.held.mem.length q.d, .bool false, i6 m.last, i6 m.at_, .bool m.ever], i6 now] W (fun r w' => ∃ q, r = .returned (.agg (doneA (planF ({ m with wanted := false, is_ := false } : MV) now).1 q (planF ({ m with wanted := false, is_ := false } : MV) now).2)) ∧ LOwn w' W.heap.size (planF ({ m with wanted := false, is_ := false } : MV) now).1 q ∧ Below W.heap.size W w') := by
  have hS := S.start W
  refine calls_walk Try.func12 rfl fun R_ hR_ a hz hd hargs => ?_
  replace hz : a.tmps.size = 108 := hz.trans (by kernel_rfl)
  have s0 := hargs 0 _ rfl
  have s1 := hargs 1 _ rfl
  clear hargs
  refine wp_seq ?_
  refine seq_l [0, 1] hz ?_
  refine ⟨fun a_ h_ => st_box (cells := #[i6 m.want.hd.age, i6 m.want.hd.kind, i6 m.want.hd.id, i6 m.want.hd.adv, i6 m.want.hd.seq, i6 m.want.hd.sum, i6 m.want.hd.long, .slice p.A m.want.links.length p.c, .slice p.B m.want.mem.length p.d, .bool false, i6 m.held.hd.age, i6 m.held.hd.kind, i6 m.held.hd.id, i6 m.held.hd.adv, i6 m.held.hd.seq, i6 m.held.hd.sum, i6 m.held.hd.long, .slice q.A m.held.links.length q.c, .slice q.B m.held.mem.length q.d, .bool false, i6 m.last, i6 m.at_, .bool m.ever]) hS (on_none rfl) rfl (h_.b 0 s0) (by kernel_rfl) fun g3 w3 hS3 hb3 => ⟨_, rfl, ?_⟩, trivial⟩
  clear h_ a_ hS
  clear hb3
  refine ⟨fun a_ h_ => st_alloc (cells := #[i6 0, i6 0, i6 0, i6 0, i6 0, i6 0, i6 0, .slice none 0 0, .slice none 0 0, i6 0]) hS3 (on_none rfl) rfl (by kernel_rfl) fun g4 w4 hS4 hb4 => ⟨_, rfl, ?_⟩, trivial⟩
  clear h_ a_ hS3
  clear hb4
  intro a2 hput
  replace s1 := hput.o 1 s1
  have s2 : sl a2 2 = pt g3 0 := hput.new 0 2 rfl
  have s4 : sl a2 4 = pt g4 0 := hput.new 1 4 rfl
  replace hz := hput.size.trans hz
  replace hd := hput.defers.trans hd
  clear hput s0
  change Code.wp _ _ _ _ _
  refine wp_seq ?_
  refine seq_l [6, 8, 9] hz ?_
  refine ⟨pt g3 10, fun _ h_ => rk (fa 10 rfl (h_.b 2 s2)),
   .agg #[i6 m.held.hd.age, i6 m.held.hd.kind, i6 m.held.hd.id, i6 m.held.hd.adv, i6 m.held.hd.seq, i6 m.held.hd.sum, i6 m.held.hd.long, .slice q.A m.held.links.length q.c, .slice q.B m.held.mem.length q.d], fun _ h_ => rk (lbS 9 (hS4.blk (i := 1) rfl) rfl (h_.d 0 8)),
   pt g3 10, fun _ h_ => rk (fa 10 rfl (h_.b 2 s2)),
   pt g3 10, fun _ h_ => rk (fa 0 rfl (h_.d 2 10)),
   pt g3 14, fun _ h_ => rk (fa 4 rfl (h_.d 3 11)),
   i6 m.held.hd.seq, fun _ h_ => rk (ld hS4 1 rfl (h_.d 4 12)), ?_⟩
  refine ⟨fun a_ h_ => st_call (on_none rfl) (run_call rfl (map3 (h_.d 1 9) rfl (h_.d 5 13)) rfl) (with19_any m.held q 60 m.held.hd.seq _ (by omega) (by omega) (hok.below (hS4.old (by simp))).held) ?_, trivial⟩
  rintro e w6 ⟨q6, rfl, hO, hb6⟩
  refine ⟨_, rfl, _, rfl, ?_⟩
  clear h_ a_
  have hS6 := hS4.pushLB (hS4.old (by simp)).size hb6 hO
  clear hO hb6 hS4
  refine ⟨.agg #[i6 ((withF m.held 60 m.held.hd.seq).hd.age), i6 ((withF m.held 60 m.held.hd.seq).hd.kind), i6 ((withF m.held 60 m.held.hd.seq).hd.id), i6 ((withF m.held 60 m.held.hd.seq).hd.adv), i6 ((withF m.held 60 m.held.hd.seq).hd.seq), i6 ((withF m.held 60 m.held.hd.seq).hd.sum), i6 ((withF m.held 60 m.held.hd.seq).hd.long), .slice q6.A ((withF m.held 60 m.held.hd.seq).links.length) q6.c, .slice q6.B ((withF m.held 60 m.held.hd.seq).mem.length) q6.d, i6 2], fun _ h_ => rk (run_build (vals := #[(0, .agg #[i6 ((withF m.held 60 m.held.hd.seq).hd.age), i6 ((withF m.held 60 m.held.hd.seq).hd.kind), i6 ((withF m.held 60 m.held.hd.seq).hd.id), i6 ((withF m.held 60 m.held.hd.seq).hd.adv), i6 ((withF m.held 60 m.held.hd.seq).hd.seq), i6 ((withF m.held 60 m.held.hd.seq).hd.sum), i6 ((withF m.held 60 m.held.hd.seq).hd.long), .slice q6.A ((withF m.held 60 m.held.hd.seq).links.length) q6.c, .slice q6.B ((withF m.held 60 m.held.hd.seq).mem.length) q6.d]), (1, i6 2)]) (r := .agg #[i6 ((withF m.held 60 m.held.hd.seq).hd.age), i6 ((withF m.held 60 m.held.hd.seq).hd.kind), i6 ((withF m.held 60 m.held.hd.seq).hd.id), i6 ((withF m.held 60 m.held.hd.seq).hd.adv), i6 ((withF m.held 60 m.held.hd.seq).hd.seq), i6 ((withF m.held 60 m.held.hd.seq).hd.sum), i6 ((withF m.held 60 m.held.hd.seq).hd.long), .slice q6.A ((withF m.held 60 m.held.hd.seq).links.length) q6.c, .slice q6.B ((withF m.held 60 m.held.hd.seq).mem.length) q6.d, i6 2]) rfl (bp2 (h_.d 6 14) rfl) (by kernel_rfl)), ?_⟩
  refine ⟨fun a_ h_ => st_alloc (cells := #[i6 0, i6 0, i6 0, i6 0, i6 0, i6 0, i6 0, .slice none 0 0, .slice none 0 0, i6 0]) hS6 (on_none rfl) rfl (by kernel_rfl) fun g7 w7 hS7 hb7 => ⟨_, rfl, ?_⟩, trivial⟩
  clear h_ a_ hS6
  clear hb7
  refine ⟨fun a_ h_ => st_store (n := 10) (cells := #[i6 ((withF m.held 60 m.held.hd.seq).hd.age), i6 ((withF m.held 60 m.held.hd.seq).hd.kind), i6 ((withF m.held 60 m.held.hd.seq).hd.id), i6 ((withF m.held 60 m.held.hd.seq).hd.adv), i6 ((withF m.held 60 m.held.hd.seq).hd.seq), i6 ((withF m.held 60 m.held.hd.seq).hd.sum), i6 ((withF m.held 60 m.held.hd.seq).hd.long), .slice q6.A ((withF m.held 60 m.held.hd.seq).links.length) q6.c, .slice q6.B ((withF m.held 60 m.held.hd.seq).mem.length) q6.d, i6 2]) (cs' := #[i6 ((withF m.held 60 m.held.hd.seq).hd.age), i6 ((withF m.held 60 m.held.hd.seq).hd.kind), i6 ((withF m.held 60 m.held.hd.seq).hd.id), i6 ((withF m.held 60 m.held.hd.seq).hd.adv), i6 ((withF m.held 60 m.held.hd.seq).hd.seq), i6 ((withF m.held 60 m.held.hd.seq).hd.sum), i6 ((withF m.held 60 m.held.hd.seq).hd.long), .slice q6.A ((withF m.held 60 m.held.hd.seq).links.length) q6.c, .slice q6.B ((withF m.held 60 m.held.hd.seq).mem.length) q6.d, i6 2]) 0 hS7 rfl (on_none rfl) rfl (h_.d 8 5) (h_.d 7 15) rfl (by kernel_rfl) ⟨Nat.le_of_ble_eq_true rfl, rfl, by kernel_rfl⟩ rfl fun w8 hS8 he8 => ⟨_, rfl, ?_⟩, trivial⟩
  clear h_ a_ he8 hS7
  replace hS8 : S (kap W) ((blkA g7 36 #[i6 ((withF m.held 60 m.held.hd.seq).hd.age), i6 ((withF m.held 60 m.held.hd.seq).hd.kind), i6 ((withF m.held 60 m.held.hd.seq).hd.id), i6 ((withF m.held 60 m.held.hd.seq).hd.adv), i6 ((withF m.held 60 m.held.hd.seq).hd.seq), i6 ((withF m.held 60 m.held.hd.seq).hd.sum), i6 ((withF m.held 60 m.held.hd.seq).hd.long), .slice q6.A ((withF m.held 60 m.held.hd.seq).links.length) q6.c, .slice q6.B ((withF m.held 60 m.held.hd.seq).mem.length) q6.d, i6 2]) :: (blkA g4 36 #[i6 0, i6 0, i6 0, i6 0, i6 0, i6 0, i6 0, .slice none 0 0, .slice none 0 0, i6 0]) :: (blkA g3 29 #[i6 m.want.hd.age, i6 m.want.hd.kind, i6 m.want.hd.id, i6 m.want.hd.adv, i6 m.want.hd.seq, i6 m.want.hd.sum, i6 m.want.hd.long, .slice p.A m.want.links.length p.c, .slice p.B m.want.mem.length p.d, .bool false, i6 m.held.hd.age, i6 m.held.hd.kind, i6 m.held.hd.id, i6 m.held.hd.adv, i6 m.held.hd.seq, i6 m.held.hd.sum, i6 m.held.hd.long, .slice q.A m.held.links.length q.c, .slice q.B m.held.mem.length q.d, .bool false, i6 m.last, i6 m.at_, .bool m.ever]) :: []) ((rowB W.heap.size (.slice q6.A (withF m.held 60 m.held.hd.seq).links.length q6.c) 69 4 (withF m.held 60 m.held.hd.seq).links.length (rowC Lk.cells (withF m.held 60 m.held.hd.seq).links)) :: (rowB W.heap.size (.slice q6.B (withF m.held 60 m.held.hd.seq).mem.length q6.d) 3 1 (withF m.held 60 m.held.hd.seq).mem.length (ints (withF m.held 60 m.held.hd.seq).mem)) :: (memA W W.heap.size) :: []) w8 := hS8
  intro a5 hput
  replace s1 := hput.o 1 s1
  replace s2 := hput.o 2 s2
  replace s4 := hput.o 4 s4
  have s5 : sl a5 5 = pt g7 0 := hput.new 8 5 rfl
  replace hz := hput.size.trans hz
  replace hd := hput.defers.trans hd
  clear hput
  change Code.wp _ _ _ _ _
  refine wp_seq ?_
  refine seq_l [] hz ?_
  refine ⟨pt g3 19, fun _ h_ => rk (fa 19 rfl (h_.b 2 s2)),
   .bool false, fun _ h_ => rk (ld hS8 2 rfl (h_.d 0 16)),
   .bool false, fun _ h_ => rmv (h_.d 1 17), ?_⟩
  refine seq_off (j := 2) (d := 18) (b := true) [3, 4, 5, 6, 7] _ (by kernel_rfl) (.inl rfl) ?_
  refine ⟨.bool false, fun _ h_ => rk (run_pick_f rfl (h_.d 2 18) rfl),
   .bool false, fun _ h_ => ras (h_.d 8 24), ?_⟩
  intro a9 hput
  replace s1 := hput.o 1 s1
  replace s2 := hput.o 2 s2
  replace s4 := hput.o 4 s4
  replace s5 := hput.o 5 s5
  have s6 : sl a9 6 = .bool false := hput.new 9 6 rfl
  replace hz := hput.size.trans hz
  replace hd := hput.defers.trans hd
  clear hput
  change Code.wp _ _ _ _ _
  refine wp_seq ?_
  refine wp_seq ?_
  refine seq_l [] hz ?_
  refine ⟨pt g3 9, fun _ h_ => rk (fa 9 rfl (h_.b 2 s2)),
   .bool false, fun _ h_ => rk (ld hS8 2 rfl (h_.d 0 25)),
   .bool true, fun _ h_ => rk (run_not rfl (h_.d 1 26) rfl),
   .bool true, fun _ h_ => rmv (h_.d 2 27),
   .bool false, fun _ h_ => r_ok (h_.on 3 28) (run_move rfl (h_.b 6 s6)),
   .bool false, fun _ h_ => rk (run_pick_t rfl (h_.d 3 28) (h_.d 4 29)), ?_⟩
  intro a10 hput
  replace s1 := hput.o 1 s1
  replace s2 := hput.o 2 s2
  replace s4 := hput.o 4 s4
  replace s5 := hput.o 5 s5
  replace s6 := hput.o 6 s6
  have s30 : sl a10 30 = .bool false := hput.new 5 30 rfl
  replace hz := hput.size.trans hz
  replace hd := hput.defers.trans hd
  clear hput
  change Code.wp _ _ _ _ _
  refine wp_cond_false s30 ?_
  refine wp_skip ?_
  change Code.wp _ _ _ _ _
  refine wp_seq ?_
  refine wp_seq ?_
  refine seq_l [18] hz ?_
  refine ⟨pt g3 9, fun _ h_ => rk (fa 9 rfl (h_.b 2 s2)),
   .bool false, fun _ h_ => rk (ld hS8 2 rfl (h_.d 0 32)),
   .bool true, fun _ h_ => rk (run_not rfl (h_.d 1 33) rfl),
   .bool true, fun _ h_ => rmv (h_.d 2 34), ?_⟩
  refine seq_off (j := 3) (d := 35) (b := false) [4, 5, 6] _ (by kernel_rfl) (.inl rfl) ?_
  refine seq_off (j := 6) (d := 38) (b := true) [7, 8, 9, 10, 11] _ (by kernel_rfl) (.inr rfl) ?_
  refine seq_off (j := 3) (d := 35) (b := false) [12, 13] _ (by kernel_rfl) (.inl rfl) ?_
  refine seq_off (j := 13) (d := 45) (b := true) [14, 15, 16, 17] _ (by kernel_rfl) (.inr rfl) ?_
  refine seq_offe (j := 13) (d := 45) (b := true) (by kernel_rfl) (.inr rfl) ?_
  refine seq_off (j := 3) (d := 35) (b := false) [19] _ (by kernel_rfl) (.inl rfl) ?_
  refine ⟨.bool true, fun _ h_ => rk (run_pick_t rfl (h_.d 3 35) rfl), ?_⟩
  intro a11 hput
  replace s1 := hput.o 1 s1
  replace s2 := hput.o 2 s2
  replace s4 := hput.o 4 s4
  replace s5 := hput.o 5 s5
  replace s6 := hput.o 6 s6
  have s52 : sl a11 52 = .bool true := hput.new 20 52 rfl
  replace hz := hput.size.trans hz
  replace hd := hput.defers.trans hd
  clear hput s30
  change Code.wp _ _ _ _ _
  refine wp_cond_true s52 ?_
  refine wp_seq ?_
  refine seq_l [1] hz ?_
  refine ⟨.agg #[i6 0, i6 0, i6 0, i6 0, i6 0, i6 0, i6 0, .slice none 0 0, .slice none 0 0, i6 0], fun _ h_ => rk (run_build (vals := #[]) (r := .agg #[i6 0, i6 0, i6 0, i6 0, i6 0, i6 0, i6 0, .slice none 0 0, .slice none 0 0, i6 0]) rfl (by simp) (by kernel_rfl)), ?_⟩
  refine ⟨fun a_ h_ => st_store (n := 10) (cells := #[i6 0, i6 0, i6 0, i6 0, i6 0, i6 0, i6 0, .slice none 0 0, .slice none 0 0, i6 0]) (cs' := #[i6 0, i6 0, i6 0, i6 0, i6 0, i6 0, i6 0, .slice none 0 0, .slice none 0 0, i6 0]) 1 hS8 rfl (on_none rfl) rfl (h_.b 4 s4) (h_.d 0 53) rfl (by kernel_rfl) ⟨Nat.le_of_ble_eq_true rfl, rfl, by kernel_rfl⟩ rfl fun w13 hS13 he13 => ⟨_, rfl, ?_⟩, trivial⟩
  clear h_ a_ he13 hS8
  replace hS13 : S (kap W) ((blkA g7 36 #[i6 ((withF m.held 60 m.held.hd.seq).hd.age), i6 ((withF m.held 60 m.held.hd.seq).hd.kind), i6 ((withF m.held 60 m.held.hd.seq).hd.id), i6 ((withF m.held 60 m.held.hd.seq).hd.adv), i6 ((withF m.held 60 m.held.hd.seq).hd.seq), i6 ((withF m.held 60 m.held.hd.seq).hd.sum), i6 ((withF m.held 60 m.held.hd.seq).hd.long), .slice q6.A ((withF m.held 60 m.held.hd.seq).links.length) q6.c, .slice q6.B ((withF m.held 60 m.held.hd.seq).mem.length) q6.d, i6 2]) :: (blkA g4 36 #[i6 0, i6 0, i6 0, i6 0, i6 0, i6 0, i6 0, .slice none 0 0, .slice none 0 0, i6 0]) :: (blkA g3 29 #[i6 m.want.hd.age, i6 m.want.hd.kind, i6 m.want.hd.id, i6 m.want.hd.adv, i6 m.want.hd.seq, i6 m.want.hd.sum, i6 m.want.hd.long, .slice p.A m.want.links.length p.c, .slice p.B m.want.mem.length p.d, .bool false, i6 m.held.hd.age, i6 m.held.hd.kind, i6 m.held.hd.id, i6 m.held.hd.adv, i6 m.held.hd.seq, i6 m.held.hd.sum, i6 m.held.hd.long, .slice q.A m.held.links.length q.c, .slice q.B m.held.mem.length q.d, .bool false, i6 m.last, i6 m.at_, .bool m.ever]) :: []) ((rowB W.heap.size (.slice q6.A (withF m.held 60 m.held.hd.seq).links.length q6.c) 69 4 (withF m.held 60 m.held.hd.seq).links.length (rowC Lk.cells (withF m.held 60 m.held.hd.seq).links)) :: (rowB W.heap.size (.slice q6.B (withF m.held 60 m.held.hd.seq).mem.length q6.d) 3 1 (withF m.held 60 m.held.hd.seq).mem.length (ints (withF m.held 60 m.held.hd.seq).mem)) :: (memA W W.heap.size) :: []) w13 := hS13
  intro a12 hput
  replace s1 := hput.o 1 s1
  replace s2 := hput.o 2 s2
  replace s4 := hput.o 4 s4
  replace s5 := hput.o 5 s5
  replace s6 := hput.o 6 s6
  replace hz := hput.size.trans hz
  replace hd := hput.defers.trans hd
  clear hput s52
  change Code.wp _ _ _ _ _
  refine wp_ret ?_
  refine retC (P := Try.prog) (fn := Try.f12) hd s4 (hS13.blk (i := 1) rfl) (hR_ _ _ ?_) Try.underlying36
  have hf : planF ({ m with wanted := false, is_ := false } : MV) now = ((default : LV), 0) := by simp only [planF, restF, livesF, numberF, flushF, withF] <;> first | rfl | (simp_all; done) | (simp_all; omega) | grind
  rw [hf]
  exact ⟨⟨none, 0, none, 0⟩, rfl, LOwn.none_ _ _, (hS13.old (by simp))⟩
set_option maxRecDepth 100000 in
set_option maxHeartbeats 800000 in
theorem plan19_ft (m : MV) (p q : LP) (now : Int) (W : World) (hn : -1099511627776 ≤ now ∧ now ≤ 1099511627776) (ha : -1099511627776 ≤ m.at_ ∧ m.at_ ≤ 1099511627776) (hl : -9223372036854775808 ≤ m.last) (hq : -9223372036854775808 ≤ m.held.hd.seq) (hw1 : m.want.links.length ≤ 20) (hw2 : m.want.mem.length ≤ 20) (hh1 : m.held.links.length ≤ 20) (hh2 : m.held.mem.length ≤ 20) (hok : MOK W m p q) :
    Calls Try.prog 12 #[.agg #[i6 m.want.hd.age, i6 m.want.hd.kind, i6 m.want.hd.id, i6 m.want.hd.adv, i6 m.want.hd.seq, i6 m.want.hd.sum, i6 m.want.hd.long, .slice p.A m.want.links.length p.c, .slice p.B m.want.mem.length p.d, .bool false, i6 m.held.hd.age, i6 m.held.hd.kind, i6 m.held.hd.id, i6 m.held.hd.adv, i6 m.held.hd.seq, i6 m.held.hd.sum, i6 m.held.hd.long, .slice q.A m.held.links.length q.c, .slice q.B m.held.mem.length q.d, .bool true, i6 m.last, i6 m.at_, .bool m.ever], i6 now] W (fun r w' => ∃ q, r = .returned (.agg (doneA (planF ({ m with wanted := false, is_ := true } : MV) now).1 q (planF ({ m with wanted := false, is_ := true } : MV) now).2)) ∧ LOwn w' W.heap.size (planF ({ m with wanted := false, is_ := true } : MV) now).1 q ∧ Below W.heap.size W w') := by
  have hS := S.start W
  refine calls_walk Try.func12 rfl fun R_ hR_ a hz hd hargs => ?_
  replace hz : a.tmps.size = 108 := hz.trans (by kernel_rfl)
  have s0 := hargs 0 _ rfl
  have s1 := hargs 1 _ rfl
  clear hargs
  refine wp_seq ?_
  refine seq_l [0, 1] hz ?_
  refine ⟨fun a_ h_ => st_box (cells := #[i6 m.want.hd.age, i6 m.want.hd.kind, i6 m.want.hd.id, i6 m.want.hd.adv, i6 m.want.hd.seq, i6 m.want.hd.sum, i6 m.want.hd.long, .slice p.A m.want.links.length p.c, .slice p.B m.want.mem.length p.d, .bool false, i6 m.held.hd.age, i6 m.held.hd.kind, i6 m.held.hd.id, i6 m.held.hd.adv, i6 m.held.hd.seq, i6 m.held.hd.sum, i6 m.held.hd.long, .slice q.A m.held.links.length q.c, .slice q.B m.held.mem.length q.d, .bool true, i6 m.last, i6 m.at_, .bool m.ever]) hS (on_none rfl) rfl (h_.b 0 s0) (by kernel_rfl) fun g3 w3 hS3 hb3 => ⟨_, rfl, ?_⟩, trivial⟩
  clear h_ a_ hS
  clear hb3
  refine ⟨fun a_ h_ => st_alloc (cells := #[i6 0, i6 0, i6 0, i6 0, i6 0, i6 0, i6 0, .slice none 0 0, .slice none 0 0, i6 0]) hS3 (on_none rfl) rfl (by kernel_rfl) fun g4 w4 hS4 hb4 => ⟨_, rfl, ?_⟩, trivial⟩
  clear h_ a_ hS3
  clear hb4
  intro a2 hput
  replace s1 := hput.o 1 s1
  have s2 : sl a2 2 = pt g3 0 := hput.new 0 2 rfl
  have s4 : sl a2 4 = pt g4 0 := hput.new 1 4 rfl
  replace hz := hput.size.trans hz
  replace hd := hput.defers.trans hd
  clear hput s0
  change Code.wp _ _ _ _ _
  refine wp_seq ?_
  refine seq_l [6, 8, 9] hz ?_
  refine ⟨pt g3 10, fun _ h_ => rk (fa 10 rfl (h_.b 2 s2)),
   .agg #[i6 m.held.hd.age, i6 m.held.hd.kind, i6 m.held.hd.id, i6 m.held.hd.adv, i6 m.held.hd.seq, i6 m.held.hd.sum, i6 m.held.hd.long, .slice q.A m.held.links.length q.c, .slice q.B m.held.mem.length q.d], fun _ h_ => rk (lbS 9 (hS4.blk (i := 1) rfl) rfl (h_.d 0 8)),
   pt g3 10, fun _ h_ => rk (fa 10 rfl (h_.b 2 s2)),
   pt g3 10, fun _ h_ => rk (fa 0 rfl (h_.d 2 10)),
   pt g3 14, fun _ h_ => rk (fa 4 rfl (h_.d 3 11)),
   i6 m.held.hd.seq, fun _ h_ => rk (ld hS4 1 rfl (h_.d 4 12)), ?_⟩
  refine ⟨fun a_ h_ => st_call (on_none rfl) (run_call rfl (map3 (h_.d 1 9) rfl (h_.d 5 13)) rfl) (with19_any m.held q 60 m.held.hd.seq _ (by omega) (by omega) (hok.below (hS4.old (by simp))).held) ?_, trivial⟩
  rintro e w6 ⟨q6, rfl, hO, hb6⟩
  refine ⟨_, rfl, _, rfl, ?_⟩
  clear h_ a_
  have hS6 := hS4.pushLB (hS4.old (by simp)).size hb6 hO
  clear hO hb6 hS4
  refine ⟨.agg #[i6 ((withF m.held 60 m.held.hd.seq).hd.age), i6 ((withF m.held 60 m.held.hd.seq).hd.kind), i6 ((withF m.held 60 m.held.hd.seq).hd.id), i6 ((withF m.held 60 m.held.hd.seq).hd.adv), i6 ((withF m.held 60 m.held.hd.seq).hd.seq), i6 ((withF m.held 60 m.held.hd.seq).hd.sum), i6 ((withF m.held 60 m.held.hd.seq).hd.long), .slice q6.A ((withF m.held 60 m.held.hd.seq).links.length) q6.c, .slice q6.B ((withF m.held 60 m.held.hd.seq).mem.length) q6.d, i6 2], fun _ h_ => rk (run_build (vals := #[(0, .agg #[i6 ((withF m.held 60 m.held.hd.seq).hd.age), i6 ((withF m.held 60 m.held.hd.seq).hd.kind), i6 ((withF m.held 60 m.held.hd.seq).hd.id), i6 ((withF m.held 60 m.held.hd.seq).hd.adv), i6 ((withF m.held 60 m.held.hd.seq).hd.seq), i6 ((withF m.held 60 m.held.hd.seq).hd.sum), i6 ((withF m.held 60 m.held.hd.seq).hd.long), .slice q6.A ((withF m.held 60 m.held.hd.seq).links.length) q6.c, .slice q6.B ((withF m.held 60 m.held.hd.seq).mem.length) q6.d]), (1, i6 2)]) (r := .agg #[i6 ((withF m.held 60 m.held.hd.seq).hd.age), i6 ((withF m.held 60 m.held.hd.seq).hd.kind), i6 ((withF m.held 60 m.held.hd.seq).hd.id), i6 ((withF m.held 60 m.held.hd.seq).hd.adv), i6 ((withF m.held 60 m.held.hd.seq).hd.seq), i6 ((withF m.held 60 m.held.hd.seq).hd.sum), i6 ((withF m.held 60 m.held.hd.seq).hd.long), .slice q6.A ((withF m.held 60 m.held.hd.seq).links.length) q6.c, .slice q6.B ((withF m.held 60 m.held.hd.seq).mem.length) q6.d, i6 2]) rfl (bp2 (h_.d 6 14) rfl) (by kernel_rfl)), ?_⟩
  refine ⟨fun a_ h_ => st_alloc (cells := #[i6 0, i6 0, i6 0, i6 0, i6 0, i6 0, i6 0, .slice none 0 0, .slice none 0 0, i6 0]) hS6 (on_none rfl) rfl (by kernel_rfl) fun g7 w7 hS7 hb7 => ⟨_, rfl, ?_⟩, trivial⟩
  clear h_ a_ hS6
  clear hb7
  refine ⟨fun a_ h_ => st_store (n := 10) (cells := #[i6 ((withF m.held 60 m.held.hd.seq).hd.age), i6 ((withF m.held 60 m.held.hd.seq).hd.kind), i6 ((withF m.held 60 m.held.hd.seq).hd.id), i6 ((withF m.held 60 m.held.hd.seq).hd.adv), i6 ((withF m.held 60 m.held.hd.seq).hd.seq), i6 ((withF m.held 60 m.held.hd.seq).hd.sum), i6 ((withF m.held 60 m.held.hd.seq).hd.long), .slice q6.A ((withF m.held 60 m.held.hd.seq).links.length) q6.c, .slice q6.B ((withF m.held 60 m.held.hd.seq).mem.length) q6.d, i6 2]) (cs' := #[i6 ((withF m.held 60 m.held.hd.seq).hd.age), i6 ((withF m.held 60 m.held.hd.seq).hd.kind), i6 ((withF m.held 60 m.held.hd.seq).hd.id), i6 ((withF m.held 60 m.held.hd.seq).hd.adv), i6 ((withF m.held 60 m.held.hd.seq).hd.seq), i6 ((withF m.held 60 m.held.hd.seq).hd.sum), i6 ((withF m.held 60 m.held.hd.seq).hd.long), .slice q6.A ((withF m.held 60 m.held.hd.seq).links.length) q6.c, .slice q6.B ((withF m.held 60 m.held.hd.seq).mem.length) q6.d, i6 2]) 0 hS7 rfl (on_none rfl) rfl (h_.d 8 5) (h_.d 7 15) rfl (by kernel_rfl) ⟨Nat.le_of_ble_eq_true rfl, rfl, by kernel_rfl⟩ rfl fun w8 hS8 he8 => ⟨_, rfl, ?_⟩, trivial⟩
  clear h_ a_ he8 hS7
  replace hS8 : S (kap W) ((blkA g7 36 #[i6 ((withF m.held 60 m.held.hd.seq).hd.age), i6 ((withF m.held 60 m.held.hd.seq).hd.kind), i6 ((withF m.held 60 m.held.hd.seq).hd.id), i6 ((withF m.held 60 m.held.hd.seq).hd.adv), i6 ((withF m.held 60 m.held.hd.seq).hd.seq), i6 ((withF m.held 60 m.held.hd.seq).hd.sum), i6 ((withF m.held 60 m.held.hd.seq).hd.long), .slice q6.A ((withF m.held 60 m.held.hd.seq).links.length) q6.c, .slice q6.B ((withF m.held 60 m.held.hd.seq).mem.length) q6.d, i6 2]) :: (blkA g4 36 #[i6 0, i6 0, i6 0, i6 0, i6 0, i6 0, i6 0, .slice none 0 0, .slice none 0 0, i6 0]) :: (blkA g3 29 #[i6 m.want.hd.age, i6 m.want.hd.kind, i6 m.want.hd.id, i6 m.want.hd.adv, i6 m.want.hd.seq, i6 m.want.hd.sum, i6 m.want.hd.long, .slice p.A m.want.links.length p.c, .slice p.B m.want.mem.length p.d, .bool false, i6 m.held.hd.age, i6 m.held.hd.kind, i6 m.held.hd.id, i6 m.held.hd.adv, i6 m.held.hd.seq, i6 m.held.hd.sum, i6 m.held.hd.long, .slice q.A m.held.links.length q.c, .slice q.B m.held.mem.length q.d, .bool true, i6 m.last, i6 m.at_, .bool m.ever]) :: []) ((rowB W.heap.size (.slice q6.A (withF m.held 60 m.held.hd.seq).links.length q6.c) 69 4 (withF m.held 60 m.held.hd.seq).links.length (rowC Lk.cells (withF m.held 60 m.held.hd.seq).links)) :: (rowB W.heap.size (.slice q6.B (withF m.held 60 m.held.hd.seq).mem.length q6.d) 3 1 (withF m.held 60 m.held.hd.seq).mem.length (ints (withF m.held 60 m.held.hd.seq).mem)) :: (memA W W.heap.size) :: []) w8 := hS8
  intro a5 hput
  replace s1 := hput.o 1 s1
  replace s2 := hput.o 2 s2
  replace s4 := hput.o 4 s4
  have s5 : sl a5 5 = pt g7 0 := hput.new 8 5 rfl
  replace hz := hput.size.trans hz
  replace hd := hput.defers.trans hd
  clear hput
  change Code.wp _ _ _ _ _
  refine wp_seq ?_
  refine seq_l [] hz ?_
  refine ⟨pt g3 19, fun _ h_ => rk (fa 19 rfl (h_.b 2 s2)),
   .bool true, fun _ h_ => rk (ld hS8 2 rfl (h_.d 0 16)),
   .bool true, fun _ h_ => rmv (h_.d 1 17),
   pt g3 10, fun _ h_ => r_ok (h_.on 2 18) (fa 10 rfl (h_.b 2 s2)),
   pt g3 10, fun _ h_ => r_ok (h_.on 2 18) (fa 0 rfl (h_.d 3 19)),
   pt g3 10, fun _ h_ => r_ok (h_.on 2 18) (fa 0 rfl (h_.d 4 20)),
   i6 m.held.hd.age, fun _ h_ => r_ok (h_.on 2 18) (ld hS8 2 rfl (h_.d 5 21)),
   .bool (decide ((m.held.hd.age : Int) ≠ 60)), fun _ h_ => r_ok (h_.on 2 18) (run_cmp rfl (h_.d 6 22) rfl rfl (by first | rfl | exact neq_dec _ _ | exact eq_dec _ _ | simp)),
   .bool (decide ((m.held.hd.age : Int) ≠ 60)), fun _ h_ => rk (run_pick_t rfl (h_.d 2 18) (h_.d 7 23)),
   .bool (decide ((m.held.hd.age : Int) ≠ 60)), fun _ h_ => ras (h_.d 8 24), ?_⟩
  intro a9 hput
  replace s1 := hput.o 1 s1
  replace s2 := hput.o 2 s2
  replace s4 := hput.o 4 s4
  replace s5 := hput.o 5 s5
  have s6 : sl a9 6 = .bool (decide ((m.held.hd.age : Int) ≠ 60)) := hput.new 9 6 rfl
  replace hz := hput.size.trans hz
  replace hd := hput.defers.trans hd
  clear hput
  change Code.wp _ _ _ _ _
  refine wp_seq ?_
  refine wp_seq ?_
  refine seq_l [] hz ?_
  refine ⟨pt g3 9, fun _ h_ => rk (fa 9 rfl (h_.b 2 s2)),
   .bool false, fun _ h_ => rk (ld hS8 2 rfl (h_.d 0 25)),
   .bool true, fun _ h_ => rk (run_not rfl (h_.d 1 26) rfl),
   .bool true, fun _ h_ => rmv (h_.d 2 27),
   .bool (decide ((m.held.hd.age : Int) ≠ 60)), fun _ h_ => r_ok (h_.on 3 28) (run_move rfl (h_.b 6 s6)),
   .bool (decide ((m.held.hd.age : Int) ≠ 60)), fun _ h_ => rk (run_pick_t rfl (h_.d 3 28) (h_.d 4 29)), ?_⟩
  intro a10 hput
  replace s1 := hput.o 1 s1
  replace s2 := hput.o 2 s2
  replace s4 := hput.o 4 s4
  replace s5 := hput.o 5 s5
  replace s6 := hput.o 6 s6
  have s30 : sl a10 30 = .bool (decide ((m.held.hd.age : Int) ≠ 60)) := hput.new 5 30 rfl
  replace hz := hput.size.trans hz
  replace hd := hput.defers.trans hd
  clear hput
  change Code.wp _ _ _ _ _
  refine wp_cond_d s30 (fun hc30 => ?_) (fun hc30 => ?_)
  · clear s30
    refine wp_seq ?_
    refine seq_l [1] hz ?_
    refine ⟨.agg #[i6 ((withF m.held 60 m.held.hd.seq).hd.age), i6 ((withF m.held 60 m.held.hd.seq).hd.kind), i6 ((withF m.held 60 m.held.hd.seq).hd.id), i6 ((withF m.held 60 m.held.hd.seq).hd.adv), i6 ((withF m.held 60 m.held.hd.seq).hd.seq), i6 ((withF m.held 60 m.held.hd.seq).hd.sum), i6 ((withF m.held 60 m.held.hd.seq).hd.long), .slice q6.A ((withF m.held 60 m.held.hd.seq).links.length) q6.c, .slice q6.B ((withF m.held 60 m.held.hd.seq).mem.length) q6.d, i6 2], fun _ h_ => rk (lbS 10 (hS8.blk (i := 0) rfl) rfl (h_.b 5 s5)), ?_⟩
    refine ⟨fun a_ h_ => st_store (n := 10) (cells := #[i6 ((withF m.held 60 m.held.hd.seq).hd.age), i6 ((withF m.held 60 m.held.hd.seq).hd.kind), i6 ((withF m.held 60 m.held.hd.seq).hd.id), i6 ((withF m.held 60 m.held.hd.seq).hd.adv), i6 ((withF m.held 60 m.held.hd.seq).hd.seq), i6 ((withF m.held 60 m.held.hd.seq).hd.sum), i6 ((withF m.held 60 m.held.hd.seq).hd.long), .slice q6.A ((withF m.held 60 m.held.hd.seq).links.length) q6.c, .slice q6.B ((withF m.held 60 m.held.hd.seq).mem.length) q6.d, i6 2]) (cs' := #[i6 ((withF m.held 60 m.held.hd.seq).hd.age), i6 ((withF m.held 60 m.held.hd.seq).hd.kind), i6 ((withF m.held 60 m.held.hd.seq).hd.id), i6 ((withF m.held 60 m.held.hd.seq).hd.adv), i6 ((withF m.held 60 m.held.hd.seq).hd.seq), i6 ((withF m.held 60 m.held.hd.seq).hd.sum), i6 ((withF m.held 60 m.held.hd.seq).hd.long), .slice q6.A ((withF m.held 60 m.held.hd.seq).links.length) q6.c, .slice q6.B ((withF m.held 60 m.held.hd.seq).mem.length) q6.d, i6 2]) 1 hS8 rfl (on_none rfl) rfl (h_.b 4 s4) (h_.d 0 31) rfl (by kernel_rfl) ⟨Nat.le_of_ble_eq_true rfl, rfl, by kernel_rfl⟩ rfl fun w12 hS12 he12 => ⟨_, rfl, ?_⟩, trivial⟩
    clear h_ a_ he12 hS8
    replace hS12 : S (kap W) ((blkA g7 36 #[i6 ((withF m.held 60 m.held.hd.seq).hd.age), i6 ((withF m.held 60 m.held.hd.seq).hd.kind), i6 ((withF m.held 60 m.held.hd.seq).hd.id), i6 ((withF m.held 60 m.held.hd.seq).hd.adv), i6 ((withF m.held 60 m.held.hd.seq).hd.seq), i6 ((withF m.held 60 m.held.hd.seq).hd.sum), i6 ((withF m.held 60 m.held.hd.seq).hd.long), .slice q6.A ((withF m.held 60 m.held.hd.seq).links.length) q6.c, .slice q6.B ((withF m.held 60 m.held.hd.seq).mem.length) q6.d, i6 2]) :: (blkA g4 36 #[i6 ((withF m.held 60 m.held.hd.seq).hd.age), i6 ((withF m.held 60 m.held.hd.seq).hd.kind), i6 ((withF m.held 60 m.held.hd.seq).hd.id), i6 ((withF m.held 60 m.held.hd.seq).hd.adv), i6 ((withF m.held 60 m.held.hd.seq).hd.seq), i6 ((withF m.held 60 m.held.hd.seq).hd.sum), i6 ((withF m.held 60 m.held.hd.seq).hd.long), .slice q6.A ((withF m.held 60 m.held.hd.seq).links.length) q6.c, .slice q6.B ((withF m.held 60 m.held.hd.seq).mem.length) q6.d, i6 2]) :: (blkA g3 29 #[i6 m.want.hd.age, i6 m.want.hd.kind, i6 m.want.hd.id, i6 m.want.hd.adv, i6 m.want.hd.seq, i6 m.want.hd.sum, i6 m.want.hd.long, .slice p.A m.want.links.length p.c, .slice p.B m.want.mem.length p.d, .bool false, i6 m.held.hd.age, i6 m.held.hd.kind, i6 m.held.hd.id, i6 m.held.hd.adv, i6 m.held.hd.seq, i6 m.held.hd.sum, i6 m.held.hd.long, .slice q.A m.held.links.length q.c, .slice q.B m.held.mem.length q.d, .bool true, i6 m.last, i6 m.at_, .bool m.ever]) :: []) ((rowB W.heap.size (.slice q6.A (withF m.held 60 m.held.hd.seq).links.length q6.c) 69 4 (withF m.held 60 m.held.hd.seq).links.length (rowC Lk.cells (withF m.held 60 m.held.hd.seq).links)) :: (rowB W.heap.size (.slice q6.B (withF m.held 60 m.held.hd.seq).mem.length q6.d) 3 1 (withF m.held 60 m.held.hd.seq).mem.length (ints (withF m.held 60 m.held.hd.seq).mem)) :: (memA W W.heap.size) :: []) w12 := hS12
    intro a11 hput
    replace s1 := hput.o 1 s1
    replace s2 := hput.o 2 s2
    replace s4 := hput.o 4 s4
    replace s5 := hput.o 5 s5
    replace s6 := hput.o 6 s6
    replace hz := hput.size.trans hz
    replace hd := hput.defers.trans hd
    clear hput
    change Code.wp _ _ _ _ _
    refine wp_ret ?_
    refine retC (P := Try.prog) (fn := Try.f12) hd s4 (hS12.blk (i := 1) rfl) (hR_ _ _ ?_) Try.underlying36
    have hf : planF ({ m with wanted := false, is_ := true } : MV) now = ((withF m.held 60 m.held.hd.seq), 2) := by simp only [planF, restF, livesF, numberF, flushF, withF] <;> first | rfl | (simp_all; done) | (simp_all; omega) | grind
    rw [hf]
    exact ⟨q6, rfl, lown_of (l := (withF m.held 60 m.held.hd.seq)) hS12 0, (hS12.old (by simp))⟩
  · clear s30
    refine wp_skip ?_
    change Code.wp _ _ _ _ _
    refine wp_seq ?_
    refine wp_seq ?_
    refine seq_l [18] hz ?_
    refine ⟨pt g3 9, fun _ h_ => rk (fa 9 rfl (h_.b 2 s2)),
     .bool false, fun _ h_ => rk (ld hS8 2 rfl (h_.d 0 32)),
     .bool true, fun _ h_ => rk (run_not rfl (h_.d 1 33) rfl),
     .bool true, fun _ h_ => rmv (h_.d 2 34), ?_⟩
    refine seq_off (j := 3) (d := 35) (b := false) [4, 5, 6] _ (by kernel_rfl) (.inl rfl) ?_
    refine seq_off (j := 6) (d := 38) (b := true) [7, 8, 9, 10, 11] _ (by kernel_rfl) (.inr rfl) ?_
    refine seq_off (j := 3) (d := 35) (b := false) [12, 13] _ (by kernel_rfl) (.inl rfl) ?_
    refine seq_off (j := 13) (d := 45) (b := true) [14, 15, 16, 17] _ (by kernel_rfl) (.inr rfl) ?_
    refine seq_offe (j := 13) (d := 45) (b := true) (by kernel_rfl) (.inr rfl) ?_
    refine seq_off (j := 3) (d := 35) (b := false) [19] _ (by kernel_rfl) (.inl rfl) ?_
    refine ⟨.bool true, fun _ h_ => rk (run_pick_t rfl (h_.d 3 35) rfl), ?_⟩
    intro a13 hput
    replace s1 := hput.o 1 s1
    replace s2 := hput.o 2 s2
    replace s4 := hput.o 4 s4
    replace s5 := hput.o 5 s5
    replace s6 := hput.o 6 s6
    have s52 : sl a13 52 = .bool true := hput.new 20 52 rfl
    replace hz := hput.size.trans hz
    replace hd := hput.defers.trans hd
    clear hput
    change Code.wp _ _ _ _ _
    refine wp_cond_true s52 ?_
    refine wp_seq ?_
    refine seq_l [1] hz ?_
    refine ⟨.agg #[i6 0, i6 0, i6 0, i6 0, i6 0, i6 0, i6 0, .slice none 0 0, .slice none 0 0, i6 0], fun _ h_ => rk (run_build (vals := #[]) (r := .agg #[i6 0, i6 0, i6 0, i6 0, i6 0, i6 0, i6 0, .slice none 0 0, .slice none 0 0, i6 0]) rfl (by simp) (by kernel_rfl)), ?_⟩
    refine ⟨fun a_ h_ => st_store (n := 10) (cells := #[i6 0, i6 0, i6 0, i6 0, i6 0, i6 0, i6 0, .slice none 0 0, .slice none 0 0, i6 0]) (cs' := #[i6 0, i6 0, i6 0, i6 0, i6 0, i6 0, i6 0, .slice none 0 0, .slice none 0 0, i6 0]) 1 hS8 rfl (on_none rfl) rfl (h_.b 4 s4) (h_.d 0 53) rfl (by kernel_rfl) ⟨Nat.le_of_ble_eq_true rfl, rfl, by kernel_rfl⟩ rfl fun w15 hS15 he15 => ⟨_, rfl, ?_⟩, trivial⟩
    clear h_ a_ he15 hS8
    replace hS15 : S (kap W) ((blkA g7 36 #[i6 ((withF m.held 60 m.held.hd.seq).hd.age), i6 ((withF m.held 60 m.held.hd.seq).hd.kind), i6 ((withF m.held 60 m.held.hd.seq).hd.id), i6 ((withF m.held 60 m.held.hd.seq).hd.adv), i6 ((withF m.held 60 m.held.hd.seq).hd.seq), i6 ((withF m.held 60 m.held.hd.seq).hd.sum), i6 ((withF m.held 60 m.held.hd.seq).hd.long), .slice q6.A ((withF m.held 60 m.held.hd.seq).links.length) q6.c, .slice q6.B ((withF m.held 60 m.held.hd.seq).mem.length) q6.d, i6 2]) :: (blkA g4 36 #[i6 0, i6 0, i6 0, i6 0, i6 0, i6 0, i6 0, .slice none 0 0, .slice none 0 0, i6 0]) :: (blkA g3 29 #[i6 m.want.hd.age, i6 m.want.hd.kind, i6 m.want.hd.id, i6 m.want.hd.adv, i6 m.want.hd.seq, i6 m.want.hd.sum, i6 m.want.hd.long, .slice p.A m.want.links.length p.c, .slice p.B m.want.mem.length p.d, .bool false, i6 m.held.hd.age, i6 m.held.hd.kind, i6 m.held.hd.id, i6 m.held.hd.adv, i6 m.held.hd.seq, i6 m.held.hd.sum, i6 m.held.hd.long, .slice q.A m.held.links.length q.c, .slice q.B m.held.mem.length q.d, .bool true, i6 m.last, i6 m.at_, .bool m.ever]) :: []) ((rowB W.heap.size (.slice q6.A (withF m.held 60 m.held.hd.seq).links.length q6.c) 69 4 (withF m.held 60 m.held.hd.seq).links.length (rowC Lk.cells (withF m.held 60 m.held.hd.seq).links)) :: (rowB W.heap.size (.slice q6.B (withF m.held 60 m.held.hd.seq).mem.length q6.d) 3 1 (withF m.held 60 m.held.hd.seq).mem.length (ints (withF m.held 60 m.held.hd.seq).mem)) :: (memA W W.heap.size) :: []) w15 := hS15
    intro a14 hput
    replace s1 := hput.o 1 s1
    replace s2 := hput.o 2 s2
    replace s4 := hput.o 4 s4
    replace s5 := hput.o 5 s5
    replace s6 := hput.o 6 s6
    replace hz := hput.size.trans hz
    replace hd := hput.defers.trans hd
    clear hput s52
    change Code.wp _ _ _ _ _
    refine wp_ret ?_
    refine retC (P := Try.prog) (fn := Try.f12) hd s4 (hS15.blk (i := 1) rfl) (hR_ _ _ ?_) Try.underlying36
    have hf : planF ({ m with wanted := false, is_ := true } : MV) now = ((default : LV), 0) := by simp only [planF, restF, livesF, numberF, flushF, withF] <;> first | rfl | (simp_all; done) | (simp_all; omega) | grind
    rw [hf]
    exact ⟨⟨none, 0, none, 0⟩, rfl, LOwn.none_ _ _, (hS15.old (by simp))⟩
set_option maxRecDepth 100000 in
set_option maxHeartbeats 800000 in
theorem plan19_tff (m : MV) (p q : LP) (now : Int) (W : World) (hn : -1099511627776 ≤ now ∧ now ≤ 1099511627776) (ha : -1099511627776 ≤ m.at_ ∧ m.at_ ≤ 1099511627776) (hl : -9223372036854775808 ≤ m.last) (hq : -9223372036854775808 ≤ m.held.hd.seq) (hw1 : m.want.links.length ≤ 20) (hw2 : m.want.mem.length ≤ 20) (hh1 : m.held.links.length ≤ 20) (hh2 : m.held.mem.length ≤ 20) (hok : MOK W m p q) :
    Calls Try.prog 12 #[.agg #[i6 m.want.hd.age, i6 m.want.hd.kind, i6 m.want.hd.id, i6 m.want.hd.adv, i6 m.want.hd.seq, i6 m.want.hd.sum, i6 m.want.hd.long, .slice p.A m.want.links.length p.c, .slice p.B m.want.mem.length p.d, .bool true, i6 m.held.hd.age, i6 m.held.hd.kind, i6 m.held.hd.id, i6 m.held.hd.adv, i6 m.held.hd.seq, i6 m.held.hd.sum, i6 m.held.hd.long, .slice q.A m.held.links.length q.c, .slice q.B m.held.mem.length q.d, .bool false, i6 m.last, i6 m.at_, .bool false], i6 now] W (fun r w' => ∃ q, r = .returned (.agg (doneA (planF ({ m with wanted := true, is_ := false, ever := false } : MV) now).1 q (planF ({ m with wanted := true, is_ := false, ever := false } : MV) now).2)) ∧ LOwn w' W.heap.size (planF ({ m with wanted := true, is_ := false, ever := false } : MV) now).1 q ∧ Below W.heap.size W w') := by
  have hS := S.start W
  refine calls_walk Try.func12 rfl fun R_ hR_ a hz hd hargs => ?_
  replace hz : a.tmps.size = 108 := hz.trans (by kernel_rfl)
  have s0 := hargs 0 _ rfl
  have s1 := hargs 1 _ rfl
  clear hargs
  refine wp_seq ?_
  refine seq_l [0, 1] hz ?_
  refine ⟨fun a_ h_ => st_box (cells := #[i6 m.want.hd.age, i6 m.want.hd.kind, i6 m.want.hd.id, i6 m.want.hd.adv, i6 m.want.hd.seq, i6 m.want.hd.sum, i6 m.want.hd.long, .slice p.A m.want.links.length p.c, .slice p.B m.want.mem.length p.d, .bool true, i6 m.held.hd.age, i6 m.held.hd.kind, i6 m.held.hd.id, i6 m.held.hd.adv, i6 m.held.hd.seq, i6 m.held.hd.sum, i6 m.held.hd.long, .slice q.A m.held.links.length q.c, .slice q.B m.held.mem.length q.d, .bool false, i6 m.last, i6 m.at_, .bool false]) hS (on_none rfl) rfl (h_.b 0 s0) (by kernel_rfl) fun g3 w3 hS3 hb3 => ⟨_, rfl, ?_⟩, trivial⟩
  clear h_ a_ hS
  clear hb3
  refine ⟨fun a_ h_ => st_alloc (cells := #[i6 0, i6 0, i6 0, i6 0, i6 0, i6 0, i6 0, .slice none 0 0, .slice none 0 0, i6 0]) hS3 (on_none rfl) rfl (by kernel_rfl) fun g4 w4 hS4 hb4 => ⟨_, rfl, ?_⟩, trivial⟩
  clear h_ a_ hS3
  clear hb4
  intro a2 hput
  replace s1 := hput.o 1 s1
  have s2 : sl a2 2 = pt g3 0 := hput.new 0 2 rfl
  have s4 : sl a2 4 = pt g4 0 := hput.new 1 4 rfl
  replace hz := hput.size.trans hz
  replace hd := hput.defers.trans hd
  clear hput s0
  change Code.wp _ _ _ _ _
  refine wp_seq ?_
  refine seq_l [6, 8, 9] hz ?_
  refine ⟨pt g3 10, fun _ h_ => rk (fa 10 rfl (h_.b 2 s2)),
   .agg #[i6 m.held.hd.age, i6 m.held.hd.kind, i6 m.held.hd.id, i6 m.held.hd.adv, i6 m.held.hd.seq, i6 m.held.hd.sum, i6 m.held.hd.long, .slice q.A m.held.links.length q.c, .slice q.B m.held.mem.length q.d], fun _ h_ => rk (lbS 9 (hS4.blk (i := 1) rfl) rfl (h_.d 0 8)),
   pt g3 10, fun _ h_ => rk (fa 10 rfl (h_.b 2 s2)),
   pt g3 10, fun _ h_ => rk (fa 0 rfl (h_.d 2 10)),
   pt g3 14, fun _ h_ => rk (fa 4 rfl (h_.d 3 11)),
   i6 m.held.hd.seq, fun _ h_ => rk (ld hS4 1 rfl (h_.d 4 12)), ?_⟩
  refine ⟨fun a_ h_ => st_call (on_none rfl) (run_call rfl (map3 (h_.d 1 9) rfl (h_.d 5 13)) rfl) (with19_any m.held q 60 m.held.hd.seq _ (by omega) (by omega) (hok.below (hS4.old (by simp))).held) ?_, trivial⟩
  rintro e w6 ⟨q6, rfl, hO, hb6⟩
  refine ⟨_, rfl, _, rfl, ?_⟩
  clear h_ a_
  have hS6 := hS4.pushLB (hS4.old (by simp)).size hb6 hO
  clear hO hb6 hS4
  refine ⟨.agg #[i6 ((withF m.held 60 m.held.hd.seq).hd.age), i6 ((withF m.held 60 m.held.hd.seq).hd.kind), i6 ((withF m.held 60 m.held.hd.seq).hd.id), i6 ((withF m.held 60 m.held.hd.seq).hd.adv), i6 ((withF m.held 60 m.held.hd.seq).hd.seq), i6 ((withF m.held 60 m.held.hd.seq).hd.sum), i6 ((withF m.held 60 m.held.hd.seq).hd.long), .slice q6.A ((withF m.held 60 m.held.hd.seq).links.length) q6.c, .slice q6.B ((withF m.held 60 m.held.hd.seq).mem.length) q6.d, i6 2], fun _ h_ => rk (run_build (vals := #[(0, .agg #[i6 ((withF m.held 60 m.held.hd.seq).hd.age), i6 ((withF m.held 60 m.held.hd.seq).hd.kind), i6 ((withF m.held 60 m.held.hd.seq).hd.id), i6 ((withF m.held 60 m.held.hd.seq).hd.adv), i6 ((withF m.held 60 m.held.hd.seq).hd.seq), i6 ((withF m.held 60 m.held.hd.seq).hd.sum), i6 ((withF m.held 60 m.held.hd.seq).hd.long), .slice q6.A ((withF m.held 60 m.held.hd.seq).links.length) q6.c, .slice q6.B ((withF m.held 60 m.held.hd.seq).mem.length) q6.d]), (1, i6 2)]) (r := .agg #[i6 ((withF m.held 60 m.held.hd.seq).hd.age), i6 ((withF m.held 60 m.held.hd.seq).hd.kind), i6 ((withF m.held 60 m.held.hd.seq).hd.id), i6 ((withF m.held 60 m.held.hd.seq).hd.adv), i6 ((withF m.held 60 m.held.hd.seq).hd.seq), i6 ((withF m.held 60 m.held.hd.seq).hd.sum), i6 ((withF m.held 60 m.held.hd.seq).hd.long), .slice q6.A ((withF m.held 60 m.held.hd.seq).links.length) q6.c, .slice q6.B ((withF m.held 60 m.held.hd.seq).mem.length) q6.d, i6 2]) rfl (bp2 (h_.d 6 14) rfl) (by kernel_rfl)), ?_⟩
  refine ⟨fun a_ h_ => st_alloc (cells := #[i6 0, i6 0, i6 0, i6 0, i6 0, i6 0, i6 0, .slice none 0 0, .slice none 0 0, i6 0]) hS6 (on_none rfl) rfl (by kernel_rfl) fun g7 w7 hS7 hb7 => ⟨_, rfl, ?_⟩, trivial⟩
  clear h_ a_ hS6
  clear hb7
  refine ⟨fun a_ h_ => st_store (n := 10) (cells := #[i6 ((withF m.held 60 m.held.hd.seq).hd.age), i6 ((withF m.held 60 m.held.hd.seq).hd.kind), i6 ((withF m.held 60 m.held.hd.seq).hd.id), i6 ((withF m.held 60 m.held.hd.seq).hd.adv), i6 ((withF m.held 60 m.held.hd.seq).hd.seq), i6 ((withF m.held 60 m.held.hd.seq).hd.sum), i6 ((withF m.held 60 m.held.hd.seq).hd.long), .slice q6.A ((withF m.held 60 m.held.hd.seq).links.length) q6.c, .slice q6.B ((withF m.held 60 m.held.hd.seq).mem.length) q6.d, i6 2]) (cs' := #[i6 ((withF m.held 60 m.held.hd.seq).hd.age), i6 ((withF m.held 60 m.held.hd.seq).hd.kind), i6 ((withF m.held 60 m.held.hd.seq).hd.id), i6 ((withF m.held 60 m.held.hd.seq).hd.adv), i6 ((withF m.held 60 m.held.hd.seq).hd.seq), i6 ((withF m.held 60 m.held.hd.seq).hd.sum), i6 ((withF m.held 60 m.held.hd.seq).hd.long), .slice q6.A ((withF m.held 60 m.held.hd.seq).links.length) q6.c, .slice q6.B ((withF m.held 60 m.held.hd.seq).mem.length) q6.d, i6 2]) 0 hS7 rfl (on_none rfl) rfl (h_.d 8 5) (h_.d 7 15) rfl (by kernel_rfl) ⟨Nat.le_of_ble_eq_true rfl, rfl, by kernel_rfl⟩ rfl fun w8 hS8 he8 => ⟨_, rfl, ?_⟩, trivial⟩
  clear h_ a_ he8 hS7
  replace hS8 : S (kap W) ((blkA g7 36 #[i6 ((withF m.held 60 m.held.hd.seq).hd.age), i6 ((withF m.held 60 m.held.hd.seq).hd.kind), i6 ((withF m.held 60 m.held.hd.seq).hd.id), i6 ((withF m.held 60 m.held.hd.seq).hd.adv), i6 ((withF m.held 60 m.held.hd.seq).hd.seq), i6 ((withF m.held 60 m.held.hd.seq).hd.sum), i6 ((withF m.held 60 m.held.hd.seq).hd.long), .slice q6.A ((withF m.held 60 m.held.hd.seq).links.length) q6.c, .slice q6.B ((withF m.held 60 m.held.hd.seq).mem.length) q6.d, i6 2]) :: (blkA g4 36 #[i6 0, i6 0, i6 0, i6 0, i6 0, i6 0, i6 0, .slice none 0 0, .slice none 0 0, i6 0]) :: (blkA g3 29 #[i6 m.want.hd.age, i6 m.want.hd.kind, i6 m.want.hd.id, i6 m.want.hd.adv, i6 m.want.hd.seq, i6 m.want.hd.sum, i6 m.want.hd.long, .slice p.A m.want.links.length p.c, .slice p.B m.want.mem.length p.d, .bool true, i6 m.held.hd.age, i6 m.held.hd.kind, i6 m.held.hd.id, i6 m.held.hd.adv, i6 m.held.hd.seq, i6 m.held.hd.sum, i6 m.held.hd.long, .slice q.A m.held.links.length q.c, .slice q.B m.held.mem.length q.d, .bool false, i6 m.last, i6 m.at_, .bool false]) :: []) ((rowB W.heap.size (.slice q6.A (withF m.held 60 m.held.hd.seq).links.length q6.c) 69 4 (withF m.held 60 m.held.hd.seq).links.length (rowC Lk.cells (withF m.held 60 m.held.hd.seq).links)) :: (rowB W.heap.size (.slice q6.B (withF m.held 60 m.held.hd.seq).mem.length q6.d) 3 1 (withF m.held 60 m.held.hd.seq).mem.length (ints (withF m.held 60 m.held.hd.seq).mem)) :: (memA W W.heap.size) :: []) w8 := hS8
  intro a5 hput
  replace s1 := hput.o 1 s1
  replace s2 := hput.o 2 s2
  replace s4 := hput.o 4 s4
  have s5 : sl a5 5 = pt g7 0 := hput.new 8 5 rfl
  replace hz := hput.size.trans hz
  replace hd := hput.defers.trans hd
  clear hput
  change Code.wp _ _ _ _ _
  refine wp_seq ?_
  refine seq_l [] hz ?_
  refine ⟨pt g3 19, fun _ h_ => rk (fa 19 rfl (h_.b 2 s2)),
   .bool false, fun _ h_ => rk (ld hS8 2 rfl (h_.d 0 16)),
   .bool false, fun _ h_ => rmv (h_.d 1 17), ?_⟩
  refine seq_off (j := 2) (d := 18) (b := true) [3, 4, 5, 6, 7] _ (by kernel_rfl) (.inl rfl) ?_
  refine ⟨.bool false, fun _ h_ => rk (run_pick_f rfl (h_.d 2 18) rfl),
   .bool false, fun _ h_ => ras (h_.d 8 24), ?_⟩
  intro a9 hput
  replace s1 := hput.o 1 s1
  replace s2 := hput.o 2 s2
  replace s4 := hput.o 4 s4
  replace s5 := hput.o 5 s5
  have s6 : sl a9 6 = .bool false := hput.new 9 6 rfl
  replace hz := hput.size.trans hz
  replace hd := hput.defers.trans hd
  clear hput
  change Code.wp _ _ _ _ _
  refine wp_seq ?_
  refine wp_seq ?_
  refine seq_l [] hz ?_
  refine ⟨pt g3 9, fun _ h_ => rk (fa 9 rfl (h_.b 2 s2)),
   .bool true, fun _ h_ => rk (ld hS8 2 rfl (h_.d 0 25)),
   .bool false, fun _ h_ => rk (run_not rfl (h_.d 1 26) rfl),
   .bool false, fun _ h_ => rmv (h_.d 2 27), ?_⟩
  refine seq_off (j := 3) (d := 28) (b := true) [4] _ (by kernel_rfl) (.inl rfl) ?_
  refine ⟨.bool false, fun _ h_ => rk (run_pick_f rfl (h_.d 3 28) rfl), ?_⟩
  intro a10 hput
  replace s1 := hput.o 1 s1
  replace s2 := hput.o 2 s2
  replace s4 := hput.o 4 s4
  replace s5 := hput.o 5 s5
  replace s6 := hput.o 6 s6
  have s30 : sl a10 30 = .bool false := hput.new 5 30 rfl
  replace hz := hput.size.trans hz
  replace hd := hput.defers.trans hd
  clear hput
  change Code.wp _ _ _ _ _
  refine wp_cond_false s30 ?_
  refine wp_skip ?_
  change Code.wp _ _ _ _ _
  refine wp_seq ?_
  refine wp_seq ?_
  refine seq_l [18] hz ?_
  refine ⟨pt g3 9, fun _ h_ => rk (fa 9 rfl (h_.b 2 s2)),
   .bool true, fun _ h_ => rk (ld hS8 2 rfl (h_.d 0 32)),
   .bool false, fun _ h_ => rk (run_not rfl (h_.d 1 33) rfl),
   .bool false, fun _ h_ => rmv (h_.d 2 34),
   pt g3 19, fun _ h_ => r_ok (h_.on 3 35) (fa 19 rfl (h_.b 2 s2)),
   .bool false, fun _ h_ => r_ok (h_.on 3 35) (ld hS8 2 rfl (h_.d 4 36)),
   .bool false, fun _ h_ => r_ok (h_.on 3 35) (run_move rfl (h_.d 5 37)), ?_⟩
  refine seq_off (j := 6) (d := 38) (b := true) [7, 8, 9, 10, 11] _ (by kernel_rfl) (.inl rfl) ?_
  refine ⟨.bool false, fun _ h_ => r_ok (h_.on 3 35) (run_pick_f rfl (h_.d 6 38) rfl),
   .bool false, fun _ h_ => r_ok (h_.on 3 35) (run_move rfl (h_.d 12 44)), ?_⟩
  refine seq_off (j := 13) (d := 45) (b := true) [14, 15, 16, 17] _ (by kernel_rfl) (.inl rfl) ?_
  refine seq_offe (j := 13) (d := 45) (b := true) (by kernel_rfl) (.inl rfl) ?_
  refine ⟨.bool false, fun _ h_ => r_ok (h_.on 3 35) (run_pick_f rfl (h_.d 13 45) rfl),
   .bool false, fun _ h_ => rk (run_pick_f rfl (h_.d 3 35) (h_.d 19 51)), ?_⟩
  intro a11 hput
  replace s1 := hput.o 1 s1
  replace s2 := hput.o 2 s2
  replace s4 := hput.o 4 s4
  replace s5 := hput.o 5 s5
  replace s6 := hput.o 6 s6
  have s52 : sl a11 52 = .bool false := hput.new 20 52 rfl
  replace hz := hput.size.trans hz
  replace hd := hput.defers.trans hd
  clear hput s30
  change Code.wp _ _ _ _ _
  refine wp_cond_false s52 ?_
  refine wp_skip ?_
  change Code.wp _ _ _ _ _
  refine wp_seq ?_
  refine wp_seq ?_
  refine seq_l [] hz ?_
  refine ⟨pt g3 22, fun _ h_ => rk (fa 22 rfl (h_.b 2 s2)),
   .bool false, fun _ h_ => rk (ld hS8 2 rfl (h_.d 0 54)),
   .bool false, fun _ h_ => rmv (h_.d 1 55), ?_⟩
  refine seq_off (j := 2) (d := 56) (b := true) [3, 4, 5, 6, 7] _ (by kernel_rfl) (.inl rfl) ?_
  refine ⟨.bool false, fun _ h_ => rk (run_pick_f rfl (h_.d 2 56) rfl), ?_⟩
  intro a12 hput
  replace s2 := hput.o 2 s2
  replace s4 := hput.o 4 s4
  replace s5 := hput.o 5 s5
  replace s6 := hput.o 6 s6
  have s62 : sl a12 62 = .bool false := hput.new 8 62 rfl
  replace hz := hput.size.trans hz
  replace hd := hput.defers.trans hd
  clear hput s1 s52
  change Code.wp _ _ _ _ _
  refine wp_cond_false s62 ?_
  refine wp_skip ?_
  change Code.wp _ _ _ _ _
  refine wp_seq ?_
  refine wp_seq ?_
  refine seq_l [] hz ?_
  refine ⟨pt g3 19, fun _ h_ => rk (fa 19 rfl (h_.b 2 s2)),
   .bool false, fun _ h_ => rk (ld hS8 2 rfl (h_.d 0 64)),
   .bool true, fun _ h_ => rk (run_not rfl (h_.d 1 65) rfl),
   .bool true, fun _ h_ => rmv (h_.d 2 66),
   pt g3 22, fun _ h_ => r_ok (h_.on 3 67) (fa 22 rfl (h_.b 2 s2)),
   .bool false, fun _ h_ => r_ok (h_.on 3 67) (ld hS8 2 rfl (h_.d 4 68)),
   .bool true, fun _ h_ => r_ok (h_.on 3 67) (run_not rfl (h_.d 5 69) rfl),
   .bool true, fun _ h_ => rk (run_pick_t rfl (h_.d 3 67) (h_.d 6 70)), ?_⟩
  intro a13 hput
  replace s2 := hput.o 2 s2
  replace s4 := hput.o 4 s4
  replace s5 := hput.o 5 s5
  replace s6 := hput.o 6 s6
  have s71 : sl a13 71 = .bool true := hput.new 7 71 rfl
  replace hz := hput.size.trans hz
  replace hd := hput.defers.trans hd
  clear hput s62
  change Code.wp _ _ _ _ _
  refine wp_cond_true s71 ?_
  refine wp_seq ?_
  refine seq_l [1, 2] hz ?_
  refine ⟨.agg #[i6 m.want.hd.age, i6 m.want.hd.kind, i6 m.want.hd.id, i6 m.want.hd.adv, i6 m.want.hd.seq, i6 m.want.hd.sum, i6 m.want.hd.long, .slice p.A m.want.links.length p.c, .slice p.B m.want.mem.length p.d, .bool true, i6 m.held.hd.age, i6 m.held.hd.kind, i6 m.held.hd.id, i6 m.held.hd.adv, i6 m.held.hd.seq, i6 m.held.hd.sum, i6 m.held.hd.long, .slice q.A m.held.links.length q.c, .slice q.B m.held.mem.length q.d, .bool false, i6 m.last, i6 m.at_, .bool false], fun _ h_ => rk (lbS 23 (hS8.blk (i := 2) rfl) rfl (h_.b 2 s2)), ?_⟩
  refine ⟨fun a_ h_ => st_call (on_none rfl) (run_call rfl (map2 (h_.d 0 72) rfl) rfl) (told19_any ({ m with wanted := true, is_ := false, ever := false } : MV) p q (-2147483647) _ hw1 hw2 hh1 hh2 (⟨(hok.below (hS8.old (by simp))).want, (hok.below (hS8.old (by simp))).held⟩ : MOK _ ({ m with wanted := true, is_ := false, ever := false } : MV) p q)) ?_, trivial⟩
  rintro e w15 ⟨q15, rfl, hO, hb15⟩
  refine ⟨_, rfl, _, rfl, ?_⟩
  clear h_ a_
  have hS15 := hS8.pushLB (hS8.old (by simp)).size hb15 hO
  clear hO hb15 hS8
  refine ⟨fun a_ h_ => st_store (n := 10) (cells := #[i6 ((tellF ({ m with wanted := true, is_ := false, ever := false } : MV) (-2147483647)).hd.age), i6 ((tellF ({ m with wanted := true, is_ := false, ever := false } : MV) (-2147483647)).hd.kind), i6 ((tellF ({ m with wanted := true, is_ := false, ever := false } : MV) (-2147483647)).hd.id), i6 ((tellF ({ m with wanted := true, is_ := false, ever := false } : MV) (-2147483647)).hd.adv), i6 ((tellF ({ m with wanted := true, is_ := false, ever := false } : MV) (-2147483647)).hd.seq), i6 ((tellF ({ m with wanted := true, is_ := false, ever := false } : MV) (-2147483647)).hd.sum), i6 ((tellF ({ m with wanted := true, is_ := false, ever := false } : MV) (-2147483647)).hd.long), .slice q15.A ((tellF ({ m with wanted := true, is_ := false, ever := false } : MV) (-2147483647)).links.length) q15.c, .slice q15.B ((tellF ({ m with wanted := true, is_ := false, ever := false } : MV) (-2147483647)).mem.length) q15.d, i6 1]) (cs' := #[i6 ((tellF ({ m with wanted := true, is_ := false, ever := false } : MV) (-2147483647)).hd.age), i6 ((tellF ({ m with wanted := true, is_ := false, ever := false } : MV) (-2147483647)).hd.kind), i6 ((tellF ({ m with wanted := true, is_ := false, ever := false } : MV) (-2147483647)).hd.id), i6 ((tellF ({ m with wanted := true, is_ := false, ever := false } : MV) (-2147483647)).hd.adv), i6 ((tellF ({ m with wanted := true, is_ := false, ever := false } : MV) (-2147483647)).hd.seq), i6 ((tellF ({ m with wanted := true, is_ := false, ever := false } : MV) (-2147483647)).hd.sum), i6 ((tellF ({ m with wanted := true, is_ := false, ever := false } : MV) (-2147483647)).hd.long), .slice q15.A ((tellF ({ m with wanted := true, is_ := false, ever := false } : MV) (-2147483647)).links.length) q15.c, .slice q15.B ((tellF ({ m with wanted := true, is_ := false, ever := false } : MV) (-2147483647)).mem.length) q15.d, i6 1]) 1 hS15 rfl (on_none rfl) rfl (h_.b 4 s4) (h_.d 1 73) rfl (by kernel_rfl) ⟨Nat.le_of_ble_eq_true rfl, rfl, by kernel_rfl⟩ rfl fun w16 hS16 he16 => ⟨_, rfl, ?_⟩, trivial⟩
  clear h_ a_ he16 hS15
  replace hS16 : S (kap W) ((blkA g7 36 #[i6 ((withF m.held 60 m.held.hd.seq).hd.age), i6 ((withF m.held 60 m.held.hd.seq).hd.kind), i6 ((withF m.held 60 m.held.hd.seq).hd.id), i6 ((withF m.held 60 m.held.hd.seq).hd.adv), i6 ((withF m.held 60 m.held.hd.seq).hd.seq), i6 ((withF m.held 60 m.held.hd.seq).hd.sum), i6 ((withF m.held 60 m.held.hd.seq).hd.long), .slice q6.A ((withF m.held 60 m.held.hd.seq).links.length) q6.c, .slice q6.B ((withF m.held 60 m.held.hd.seq).mem.length) q6.d, i6 2]) :: (blkA g4 36 #[i6 ((tellF ({ m with wanted := true, is_ := false, ever := false } : MV) (-2147483647)).hd.age), i6 ((tellF ({ m with wanted := true, is_ := false, ever := false } : MV) (-2147483647)).hd.kind), i6 ((tellF ({ m with wanted := true, is_ := false, ever := false } : MV) (-2147483647)).hd.id), i6 ((tellF ({ m with wanted := true, is_ := false, ever := false } : MV) (-2147483647)).hd.adv), i6 ((tellF ({ m with wanted := true, is_ := false, ever := false } : MV) (-2147483647)).hd.seq), i6 ((tellF ({ m with wanted := true, is_ := false, ever := false } : MV) (-2147483647)).hd.sum), i6 ((tellF ({ m with wanted := true, is_ := false, ever := false } : MV) (-2147483647)).hd.long), .slice q15.A ((tellF ({ m with wanted := true, is_ := false, ever := false } : MV) (-2147483647)).links.length) q15.c, .slice q15.B ((tellF ({ m with wanted := true, is_ := false, ever := false } : MV) (-2147483647)).mem.length) q15.d, i6 1]) :: (blkA g3 29 #[i6 m.want.hd.age, i6 m.want.hd.kind, i6 m.want.hd.id, i6 m.want.hd.adv, i6 m.want.hd.seq, i6 m.want.hd.sum, i6 m.want.hd.long, .slice p.A m.want.links.length p.c, .slice p.B m.want.mem.length p.d, .bool true, i6 m.held.hd.age, i6 m.held.hd.kind, i6 m.held.hd.id, i6 m.held.hd.adv, i6 m.held.hd.seq, i6 m.held.hd.sum, i6 m.held.hd.long, .slice q.A m.held.links.length q.c, .slice q.B m.held.mem.length q.d, .bool false, i6 m.last, i6 m.at_, .bool false]) :: []) ((rowB W.heap.size (.slice q15.A (tellF ({ m with wanted := true, is_ := false, ever := false } : MV) (-2147483647)).links.length q15.c) 69 4 (tellF ({ m with wanted := true, is_ := false, ever := false } : MV) (-2147483647)).links.length (rowC Lk.cells (tellF ({ m with wanted := true, is_ := false, ever := false } : MV) (-2147483647)).links)) :: (rowB W.heap.size (.slice q15.B (tellF ({ m with wanted := true, is_ := false, ever := false } : MV) (-2147483647)).mem.length q15.d) 3 1 (tellF ({ m with wanted := true, is_ := false, ever := false } : MV) (-2147483647)).mem.length (ints (tellF ({ m with wanted := true, is_ := false, ever := false } : MV) (-2147483647)).mem)) :: (rowB W.heap.size (.slice q6.A (withF m.held 60 m.held.hd.seq).links.length q6.c) 69 4 (withF m.held 60 m.held.hd.seq).links.length (rowC Lk.cells (withF m.held 60 m.held.hd.seq).links)) :: (rowB W.heap.size (.slice q6.B (withF m.held 60 m.held.hd.seq).mem.length q6.d) 3 1 (withF m.held 60 m.held.hd.seq).mem.length (ints (withF m.held 60 m.held.hd.seq).mem)) :: (memA W W.heap.size) :: []) w16 := hS16
  intro a14 hput
  replace s2 := hput.o 2 s2
  replace s4 := hput.o 4 s4
  replace s5 := hput.o 5 s5
  replace s6 := hput.o 6 s6
  replace hz := hput.size.trans hz
  replace hd := hput.defers.trans hd
  clear hput s71
  change Code.wp _ _ _ _ _
  refine wp_ret ?_
  refine retC (P := Try.prog) (fn := Try.f12) hd s4 (hS16.blk (i := 1) rfl) (hR_ _ _ ?_) Try.underlying36
  have hf : planF ({ m with wanted := true, is_ := false, ever := false } : MV) now = ((tellF ({ m with wanted := true, is_ := false, ever := false } : MV) (-2147483647)), 1) := by simp only [planF, restF, livesF, numberF, flushF, withF] <;> first | rfl | (simp_all; done) | (simp_all; omega) | grind
  rw [hf]
  exact ⟨q15, rfl, lown_of (l := (tellF ({ m with wanted := true, is_ := false, ever := false } : MV) (-2147483647))) hS16 0, (hS16.old (by simp))⟩
set_option maxRecDepth 100000 in
set_option maxHeartbeats 800000 in
theorem plan19_tft (m : MV) (p q : LP) (now : Int) (W : World) (hn : -1099511627776 ≤ now ∧ now ≤ 1099511627776) (ha : -1099511627776 ≤ m.at_ ∧ m.at_ ≤ 1099511627776) (hl : -9223372036854775808 ≤ m.last) (hq : -9223372036854775808 ≤ m.held.hd.seq) (hw1 : m.want.links.length ≤ 20) (hw2 : m.want.mem.length ≤ 20) (hh1 : m.held.links.length ≤ 20) (hh2 : m.held.mem.length ≤ 20) (hok : MOK W m p q) :
    Calls Try.prog 12 #[.agg #[i6 m.want.hd.age, i6 m.want.hd.kind, i6 m.want.hd.id, i6 m.want.hd.adv, i6 m.want.hd.seq, i6 m.want.hd.sum, i6 m.want.hd.long, .slice p.A m.want.links.length p.c, .slice p.B m.want.mem.length p.d, .bool true, i6 m.held.hd.age, i6 m.held.hd.kind, i6 m.held.hd.id, i6 m.held.hd.adv, i6 m.held.hd.seq, i6 m.held.hd.sum, i6 m.held.hd.long, .slice q.A m.held.links.length q.c, .slice q.B m.held.mem.length q.d, .bool false, i6 m.last, i6 m.at_, .bool true], i6 now] W (fun r w' => ∃ q, r = .returned (.agg (doneA (planF ({ m with wanted := true, is_ := false, ever := true } : MV) now).1 q (planF ({ m with wanted := true, is_ := false, ever := true } : MV) now).2)) ∧ LOwn w' W.heap.size (planF ({ m with wanted := true, is_ := false, ever := true } : MV) now).1 q ∧ Below W.heap.size W w') := by
  have hS := S.start W
  refine calls_walk Try.func12 rfl fun R_ hR_ a hz hd hargs => ?_
  replace hz : a.tmps.size = 108 := hz.trans (by kernel_rfl)
  have s0 := hargs 0 _ rfl
  have s1 := hargs 1 _ rfl
  clear hargs
  refine wp_seq ?_
  refine seq_l [0, 1] hz ?_
  refine ⟨fun a_ h_ => st_box (cells := #[i6 m.want.hd.age, i6 m.want.hd.kind, i6 m.want.hd.id, i6 m.want.hd.adv, i6 m.want.hd.seq, i6 m.want.hd.sum, i6 m.want.hd.long, .slice p.A m.want.links.length p.c, .slice p.B m.want.mem.length p.d, .bool true, i6 m.held.hd.age, i6 m.held.hd.kind, i6 m.held.hd.id, i6 m.held.hd.adv, i6 m.held.hd.seq, i6 m.held.hd.sum, i6 m.held.hd.long, .slice q.A m.held.links.length q.c, .slice q.B m.held.mem.length q.d, .bool false, i6 m.last, i6 m.at_, .bool true]) hS (on_none rfl) rfl (h_.b 0 s0) (by kernel_rfl) fun g3 w3 hS3 hb3 => ⟨_, rfl, ?_⟩, trivial⟩
  clear h_ a_ hS
  clear hb3
  refine ⟨fun a_ h_ => st_alloc (cells := #[i6 0, i6 0, i6 0, i6 0, i6 0, i6 0, i6 0, .slice none 0 0, .slice none 0 0, i6 0]) hS3 (on_none rfl) rfl (by kernel_rfl) fun g4 w4 hS4 hb4 => ⟨_, rfl, ?_⟩, trivial⟩
  clear h_ a_ hS3
  clear hb4
  intro a2 hput
  replace s1 := hput.o 1 s1
  have s2 : sl a2 2 = pt g3 0 := hput.new 0 2 rfl
  have s4 : sl a2 4 = pt g4 0 := hput.new 1 4 rfl
  replace hz := hput.size.trans hz
  replace hd := hput.defers.trans hd
  clear hput s0
  change Code.wp _ _ _ _ _
  refine wp_seq ?_
  refine seq_l [6, 8, 9] hz ?_
  refine ⟨pt g3 10, fun _ h_ => rk (fa 10 rfl (h_.b 2 s2)),
   .agg #[i6 m.held.hd.age, i6 m.held.hd.kind, i6 m.held.hd.id, i6 m.held.hd.adv, i6 m.held.hd.seq, i6 m.held.hd.sum, i6 m.held.hd.long, .slice q.A m.held.links.length q.c, .slice q.B m.held.mem.length q.d], fun _ h_ => rk (lbS 9 (hS4.blk (i := 1) rfl) rfl (h_.d 0 8)),
   pt g3 10, fun _ h_ => rk (fa 10 rfl (h_.b 2 s2)),
   pt g3 10, fun _ h_ => rk (fa 0 rfl (h_.d 2 10)),
   pt g3 14, fun _ h_ => rk (fa 4 rfl (h_.d 3 11)),
   i6 m.held.hd.seq, fun _ h_ => rk (ld hS4 1 rfl (h_.d 4 12)), ?_⟩
  refine ⟨fun a_ h_ => st_call (on_none rfl) (run_call rfl (map3 (h_.d 1 9) rfl (h_.d 5 13)) rfl) (with19_any m.held q 60 m.held.hd.seq _ (by omega) (by omega) (hok.below (hS4.old (by simp))).held) ?_, trivial⟩
  rintro e w6 ⟨q6, rfl, hO, hb6⟩
  refine ⟨_, rfl, _, rfl, ?_⟩
  clear h_ a_
  have hS6 := hS4.pushLB (hS4.old (by simp)).size hb6 hO
  clear hO hb6 hS4
  refine ⟨.agg #[i6 ((withF m.held 60 m.held.hd.seq).hd.age), i6 ((withF m.held 60 m.held.hd.seq).hd.kind), i6 ((withF m.held 60 m.held.hd.seq).hd.id), i6 ((withF m.held 60 m.held.hd.seq).hd.adv), i6 ((withF m.held 60 m.held.hd.seq).hd.seq), i6 ((withF m.held 60 m.held.hd.seq).hd.sum), i6 ((withF m.held 60 m.held.hd.seq).hd.long), .slice q6.A ((withF m.held 60 m.held.hd.seq).links.length) q6.c, .slice q6.B ((withF m.held 60 m.held.hd.seq).mem.length) q6.d, i6 2], fun _ h_ => rk (run_build (vals := #[(0, .agg #[i6 ((withF m.held 60 m.held.hd.seq).hd.age), i6 ((withF m.held 60 m.held.hd.seq).hd.kind), i6 ((withF m.held 60 m.held.hd.seq).hd.id), i6 ((withF m.held 60 m.held.hd.seq).hd.adv), i6 ((withF m.held 60 m.held.hd.seq).hd.seq), i6 ((withF m.held 60 m.held.hd.seq).hd.sum), i6 ((withF m.held 60 m.held.hd.seq).hd.long), .slice q6.A ((withF m.held 60 m.held.hd.seq).links.length) q6.c, .slice q6.B ((withF m.held 60 m.held.hd.seq).mem.length) q6.d]), (1, i6 2)]) (r := .agg #[i6 ((withF m.held 60 m.held.hd.seq).hd.age), i6 ((withF m.held 60 m.held.hd.seq).hd.kind), i6 ((withF m.held 60 m.held.hd.seq).hd.id), i6 ((withF m.held 60 m.held.hd.seq).hd.adv), i6 ((withF m.held 60 m.held.hd.seq).hd.seq), i6 ((withF m.held 60 m.held.hd.seq).hd.sum), i6 ((withF m.held 60 m.held.hd.seq).hd.long), .slice q6.A ((withF m.held 60 m.held.hd.seq).links.length) q6.c, .slice q6.B ((withF m.held 60 m.held.hd.seq).mem.length) q6.d, i6 2]) rfl (bp2 (h_.d 6 14) rfl) (by kernel_rfl)), ?_⟩
  refine ⟨fun a_ h_ => st_alloc (cells := #[i6 0, i6 0, i6 0, i6 0, i6 0, i6 0, i6 0, .slice none 0 0, .slice none 0 0, i6 0]) hS6 (on_none rfl) rfl (by kernel_rfl) fun g7 w7 hS7 hb7 => ⟨_, rfl, ?_⟩, trivial⟩
  clear h_ a_ hS6
  clear hb7
  refine ⟨fun a_ h_ => st_store (n := 10) (cells := #[i6 ((withF m.held 60 m.held.hd.seq).hd.age), i6 ((withF m.held 60 m.held.hd.seq).hd.kind), i6 ((withF m.held 60 m.held.hd.seq).hd.id), i6 ((withF m.held 60 m.held.hd.seq).hd.adv), i6 ((withF m.held 60 m.held.hd.seq).hd.seq), i6 ((withF m.held 60 m.held.hd.seq).hd.sum), i6 ((withF m.held 60 m.held.hd.seq).hd.long), .slice q6.A ((withF m.held 60 m.held.hd.seq).links.length) q6.c, .slice q6.B ((withF m.held 60 m.held.hd.seq).mem.length) q6.d, i6 2]) (cs' := #[i6 ((withF m.held 60 m.held.hd.seq).hd.age), i6 ((withF m.held 60 m.held.hd.seq).hd.kind), i6 ((withF m.held 60 m.held.hd.seq).hd.id), i6 ((withF m.held 60 m.held.hd.seq).hd.adv), i6 ((withF m.held 60 m.held.hd.seq).hd.seq), i6 ((withF m.held 60 m.held.hd.seq).hd.sum), i6 ((withF m.held 60 m.held.hd.seq).hd.long), .slice q6.A ((withF m.held 60 m.held.hd.seq).links.length) q6.c, .slice q6.B ((withF m.held 60 m.held.hd.seq).mem.length) q6.d, i6 2]) 0 hS7 rfl (on_none rfl) rfl (h_.d 8 5) (h_.d 7 15) rfl (by kernel_rfl) ⟨Nat.le_of_ble_eq_true rfl, rfl, by kernel_rfl⟩ rfl fun w8 hS8 he8 => ⟨_, rfl, ?_⟩, trivial⟩
  clear h_ a_ he8 hS7
  replace hS8 : S (kap W) ((blkA g7 36 #[i6 ((withF m.held 60 m.held.hd.seq).hd.age), i6 ((withF m.held 60 m.held.hd.seq).hd.kind), i6 ((withF m.held 60 m.held.hd.seq).hd.id), i6 ((withF m.held 60 m.held.hd.seq).hd.adv), i6 ((withF m.held 60 m.held.hd.seq).hd.seq), i6 ((withF m.held 60 m.held.hd.seq).hd.sum), i6 ((withF m.held 60 m.held.hd.seq).hd.long), .slice q6.A ((withF m.held 60 m.held.hd.seq).links.length) q6.c, .slice q6.B ((withF m.held 60 m.held.hd.seq).mem.length) q6.d, i6 2]) :: (blkA g4 36 #[i6 0, i6 0, i6 0, i6 0, i6 0, i6 0, i6 0, .slice none 0 0, .slice none 0 0, i6 0]) :: (blkA g3 29 #[i6 m.want.hd.age, i6 m.want.hd.kind, i6 m.want.hd.id, i6 m.want.hd.adv, i6 m.want.hd.seq, i6 m.want.hd.sum, i6 m.want.hd.long, .slice p.A m.want.links.length p.c, .slice p.B m.want.mem.length p.d, .bool true, i6 m.held.hd.age, i6 m.held.hd.kind, i6 m.held.hd.id, i6 m.held.hd.adv, i6 m.held.hd.seq, i6 m.held.hd.sum, i6 m.held.hd.long, .slice q.A m.held.links.length q.c, .slice q.B m.held.mem.length q.d, .bool false, i6 m.last, i6 m.at_, .bool true]) :: []) ((rowB W.heap.size (.slice q6.A (withF m.held 60 m.held.hd.seq).links.length q6.c) 69 4 (withF m.held 60 m.held.hd.seq).links.length (rowC Lk.cells (withF m.held 60 m.held.hd.seq).links)) :: (rowB W.heap.size (.slice q6.B (withF m.held 60 m.held.hd.seq).mem.length q6.d) 3 1 (withF m.held 60 m.held.hd.seq).mem.length (ints (withF m.held 60 m.held.hd.seq).mem)) :: (memA W W.heap.size) :: []) w8 := hS8
  intro a5 hput
  replace s1 := hput.o 1 s1
  replace s2 := hput.o 2 s2
  replace s4 := hput.o 4 s4
  have s5 : sl a5 5 = pt g7 0 := hput.new 8 5 rfl
  replace hz := hput.size.trans hz
  replace hd := hput.defers.trans hd
  clear hput
  change Code.wp _ _ _ _ _
  refine wp_seq ?_
  refine seq_l [] hz ?_
  refine ⟨pt g3 19, fun _ h_ => rk (fa 19 rfl (h_.b 2 s2)),
   .bool false, fun _ h_ => rk (ld hS8 2 rfl (h_.d 0 16)),
   .bool false, fun _ h_ => rmv (h_.d 1 17), ?_⟩
  refine seq_off (j := 2) (d := 18) (b := true) [3, 4, 5, 6, 7] _ (by kernel_rfl) (.inl rfl) ?_
  refine ⟨.bool false, fun _ h_ => rk (run_pick_f rfl (h_.d 2 18) rfl),
   .bool false, fun _ h_ => ras (h_.d 8 24), ?_⟩
  intro a9 hput
  replace s1 := hput.o 1 s1
  replace s2 := hput.o 2 s2
  replace s4 := hput.o 4 s4
  replace s5 := hput.o 5 s5
  have s6 : sl a9 6 = .bool false := hput.new 9 6 rfl
  replace hz := hput.size.trans hz
  replace hd := hput.defers.trans hd
  clear hput
  change Code.wp _ _ _ _ _
  refine wp_seq ?_
  refine wp_seq ?_
  refine seq_l [] hz ?_
  refine ⟨pt g3 9, fun _ h_ => rk (fa 9 rfl (h_.b 2 s2)),
   .bool true, fun _ h_ => rk (ld hS8 2 rfl (h_.d 0 25)),
   .bool false, fun _ h_ => rk (run_not rfl (h_.d 1 26) rfl),
   .bool false, fun _ h_ => rmv (h_.d 2 27), ?_⟩
  refine seq_off (j := 3) (d := 28) (b := true) [4] _ (by kernel_rfl) (.inl rfl) ?_
  refine ⟨.bool false, fun _ h_ => rk (run_pick_f rfl (h_.d 3 28) rfl), ?_⟩
  intro a10 hput
  replace s1 := hput.o 1 s1
  replace s2 := hput.o 2 s2
  replace s4 := hput.o 4 s4
  replace s5 := hput.o 5 s5
  replace s6 := hput.o 6 s6
  have s30 : sl a10 30 = .bool false := hput.new 5 30 rfl
  replace hz := hput.size.trans hz
  replace hd := hput.defers.trans hd
  clear hput
  change Code.wp _ _ _ _ _
  refine wp_cond_false s30 ?_
  refine wp_skip ?_
  change Code.wp _ _ _ _ _
  refine wp_seq ?_
  refine wp_seq ?_
  refine seq_l [18] hz ?_
  refine ⟨pt g3 9, fun _ h_ => rk (fa 9 rfl (h_.b 2 s2)),
   .bool true, fun _ h_ => rk (ld hS8 2 rfl (h_.d 0 32)),
   .bool false, fun _ h_ => rk (run_not rfl (h_.d 1 33) rfl),
   .bool false, fun _ h_ => rmv (h_.d 2 34),
   pt g3 19, fun _ h_ => r_ok (h_.on 3 35) (fa 19 rfl (h_.b 2 s2)),
   .bool false, fun _ h_ => r_ok (h_.on 3 35) (ld hS8 2 rfl (h_.d 4 36)),
   .bool false, fun _ h_ => r_ok (h_.on 3 35) (run_move rfl (h_.d 5 37)), ?_⟩
  refine seq_off (j := 6) (d := 38) (b := true) [7, 8, 9, 10, 11] _ (by kernel_rfl) (.inl rfl) ?_
  refine ⟨.bool false, fun _ h_ => r_ok (h_.on 3 35) (run_pick_f rfl (h_.d 6 38) rfl),
   .bool false, fun _ h_ => r_ok (h_.on 3 35) (run_move rfl (h_.d 12 44)), ?_⟩
  refine seq_off (j := 13) (d := 45) (b := true) [14, 15, 16, 17] _ (by kernel_rfl) (.inl rfl) ?_
  refine seq_offe (j := 13) (d := 45) (b := true) (by kernel_rfl) (.inl rfl) ?_
  refine ⟨.bool false, fun _ h_ => r_ok (h_.on 3 35) (run_pick_f rfl (h_.d 13 45) rfl),
   .bool false, fun _ h_ => rk (run_pick_f rfl (h_.d 3 35) (h_.d 19 51)), ?_⟩
  intro a11 hput
  replace s1 := hput.o 1 s1
  replace s2 := hput.o 2 s2
  replace s4 := hput.o 4 s4
  replace s5 := hput.o 5 s5
  replace s6 := hput.o 6 s6
  have s52 : sl a11 52 = .bool false := hput.new 20 52 rfl
  replace hz := hput.size.trans hz
  replace hd := hput.defers.trans hd
  clear hput s30
  change Code.wp _ _ _ _ _
  refine wp_cond_false s52 ?_
  refine wp_skip ?_
  change Code.wp _ _ _ _ _
  refine wp_seq ?_
  refine wp_seq ?_
  refine seq_l [] hz ?_
  refine ⟨pt g3 22, fun _ h_ => rk (fa 22 rfl (h_.b 2 s2)),
   .bool true, fun _ h_ => rk (ld hS8 2 rfl (h_.d 0 54)),
   .bool true, fun _ h_ => rmv (h_.d 1 55),
   i6 now, fun _ h_ => r_ok (h_.on 2 56) (run_move rfl (h_.b 1 s1)),
   pt g3 21, fun _ h_ => r_ok (h_.on 2 56) (fa 21 rfl (h_.b 2 s2)),
   i6 m.at_, fun _ h_ => r_ok (h_.on 2 56) (ld hS8 2 rfl (h_.d 4 58)),
   i6 (now - m.at_), fun _ h_ => r_ok (h_.on 2 56) (run_subI rfl (h_.d 3 57) (h_.d 5 59) (by omega) rfl),
   .bool (decide ((now - m.at_ : Int) < 2)), fun _ h_ => r_ok (h_.on 2 56) (run_cmp rfl (h_.d 6 60) rfl rfl (by first | rfl | exact neq_dec _ _ | exact eq_dec _ _ | simp)),
   .bool (decide ((now - m.at_ : Int) < 2)), fun _ h_ => rk (run_pick_t rfl (h_.d 2 56) (h_.d 7 61)), ?_⟩
  intro a12 hput
  replace s2 := hput.o 2 s2
  replace s4 := hput.o 4 s4
  replace s5 := hput.o 5 s5
  replace s6 := hput.o 6 s6
  have s62 : sl a12 62 = .bool (decide ((now - m.at_ : Int) < 2)) := hput.new 8 62 rfl
  replace hz := hput.size.trans hz
  replace hd := hput.defers.trans hd
  clear hput s1 s52
  change Code.wp _ _ _ _ _
  refine wp_cond_d s62 (fun hc62 => ?_) (fun hc62 => ?_)
  · clear s62
    refine wp_seq ?_
    refine seq_l [1] hz ?_
    refine ⟨.agg #[i6 0, i6 0, i6 0, i6 0, i6 0, i6 0, i6 0, .slice none 0 0, .slice none 0 0, i6 3], fun _ h_ => rk (run_build (vals := #[(1, i6 3)]) (r := .agg #[i6 0, i6 0, i6 0, i6 0, i6 0, i6 0, i6 0, .slice none 0 0, .slice none 0 0, i6 3]) rfl (bp1 rfl) (by kernel_rfl)), ?_⟩
    refine ⟨fun a_ h_ => st_store (n := 10) (cells := #[i6 0, i6 0, i6 0, i6 0, i6 0, i6 0, i6 0, .slice none 0 0, .slice none 0 0, i6 3]) (cs' := #[i6 0, i6 0, i6 0, i6 0, i6 0, i6 0, i6 0, .slice none 0 0, .slice none 0 0, i6 3]) 1 hS8 rfl (on_none rfl) rfl (h_.b 4 s4) (h_.d 0 63) rfl (by kernel_rfl) ⟨Nat.le_of_ble_eq_true rfl, rfl, by kernel_rfl⟩ rfl fun w14 hS14 he14 => ⟨_, rfl, ?_⟩, trivial⟩
    clear h_ a_ he14 hS8
    replace hS14 : S (kap W) ((blkA g7 36 #[i6 ((withF m.held 60 m.held.hd.seq).hd.age), i6 ((withF m.held 60 m.held.hd.seq).hd.kind), i6 ((withF m.held 60 m.held.hd.seq).hd.id), i6 ((withF m.held 60 m.held.hd.seq).hd.adv), i6 ((withF m.held 60 m.held.hd.seq).hd.seq), i6 ((withF m.held 60 m.held.hd.seq).hd.sum), i6 ((withF m.held 60 m.held.hd.seq).hd.long), .slice q6.A ((withF m.held 60 m.held.hd.seq).links.length) q6.c, .slice q6.B ((withF m.held 60 m.held.hd.seq).mem.length) q6.d, i6 2]) :: (blkA g4 36 #[i6 0, i6 0, i6 0, i6 0, i6 0, i6 0, i6 0, .slice none 0 0, .slice none 0 0, i6 3]) :: (blkA g3 29 #[i6 m.want.hd.age, i6 m.want.hd.kind, i6 m.want.hd.id, i6 m.want.hd.adv, i6 m.want.hd.seq, i6 m.want.hd.sum, i6 m.want.hd.long, .slice p.A m.want.links.length p.c, .slice p.B m.want.mem.length p.d, .bool true, i6 m.held.hd.age, i6 m.held.hd.kind, i6 m.held.hd.id, i6 m.held.hd.adv, i6 m.held.hd.seq, i6 m.held.hd.sum, i6 m.held.hd.long, .slice q.A m.held.links.length q.c, .slice q.B m.held.mem.length q.d, .bool false, i6 m.last, i6 m.at_, .bool true]) :: []) ((rowB W.heap.size (.slice q6.A (withF m.held 60 m.held.hd.seq).links.length q6.c) 69 4 (withF m.held 60 m.held.hd.seq).links.length (rowC Lk.cells (withF m.held 60 m.held.hd.seq).links)) :: (rowB W.heap.size (.slice q6.B (withF m.held 60 m.held.hd.seq).mem.length q6.d) 3 1 (withF m.held 60 m.held.hd.seq).mem.length (ints (withF m.held 60 m.held.hd.seq).mem)) :: (memA W W.heap.size) :: []) w14 := hS14
    intro a13 hput
    replace s2 := hput.o 2 s2
    replace s4 := hput.o 4 s4
    replace s5 := hput.o 5 s5
    replace s6 := hput.o 6 s6
    replace hz := hput.size.trans hz
    replace hd := hput.defers.trans hd
    clear hput
    change Code.wp _ _ _ _ _
    refine wp_ret ?_
    refine retC (P := Try.prog) (fn := Try.f12) hd s4 (hS14.blk (i := 1) rfl) (hR_ _ _ ?_) Try.underlying36
    have hf : planF ({ m with wanted := true, is_ := false, ever := true } : MV) now = ((default : LV), 3) := by simp only [planF, restF, livesF, numberF, flushF, withF] <;> first | rfl | (simp_all; done) | (simp_all; omega) | grind
    rw [hf]
    exact ⟨⟨none, 0, none, 0⟩, rfl, LOwn.none_ _ _, (hS14.old (by simp))⟩
  · clear s62
    refine wp_skip ?_
    change Code.wp _ _ _ _ _
    refine wp_seq ?_
    refine wp_seq ?_
    refine seq_l [] hz ?_
    refine ⟨pt g3 19, fun _ h_ => rk (fa 19 rfl (h_.b 2 s2)),
     .bool false, fun _ h_ => rk (ld hS8 2 rfl (h_.d 0 64)),
     .bool true, fun _ h_ => rk (run_not rfl (h_.d 1 65) rfl),
     .bool true, fun _ h_ => rmv (h_.d 2 66),
     pt g3 22, fun _ h_ => r_ok (h_.on 3 67) (fa 22 rfl (h_.b 2 s2)),
     .bool true, fun _ h_ => r_ok (h_.on 3 67) (ld hS8 2 rfl (h_.d 4 68)),
     .bool false, fun _ h_ => r_ok (h_.on 3 67) (run_not rfl (h_.d 5 69) rfl),
     .bool false, fun _ h_ => rk (run_pick_t rfl (h_.d 3 67) (h_.d 6 70)), ?_⟩
    intro a15 hput
    replace s2 := hput.o 2 s2
    replace s4 := hput.o 4 s4
    replace s5 := hput.o 5 s5
    replace s6 := hput.o 6 s6
    have s71 : sl a15 71 = .bool false := hput.new 7 71 rfl
    replace hz := hput.size.trans hz
    replace hd := hput.defers.trans hd
    clear hput
    change Code.wp _ _ _ _ _
    refine wp_cond_false s71 ?_
    refine wp_skip ?_
    change Code.wp _ _ _ _ _
    refine wp_seq ?_
    refine seq_l [] hz ?_
    refine ⟨pt g3 20, fun _ h_ => rk (fa 20 rfl (h_.b 2 s2)),
     i6 m.last, fun _ h_ => rk (ld hS8 2 rfl (h_.d 0 74)),
     i6 m.last, fun _ h_ => ras (h_.d 1 75), ?_⟩
    intro a16 hput
    replace s2 := hput.o 2 s2
    replace s4 := hput.o 4 s4
    replace s5 := hput.o 5 s5
    replace s6 := hput.o 6 s6
    have s7 : sl a16 7 = i6 m.last := hput.new 2 7 rfl
    replace hz := hput.size.trans hz
    replace hd := hput.defers.trans hd
    clear hput s71
    change Code.wp _ _ _ _ _
    refine wp_seq ?_
    refine wp_seq ?_
    refine seq_l [] hz ?_
    refine ⟨pt g3 22, fun _ h_ => rk (fa 22 rfl (h_.b 2 s2)),
     .bool true, fun _ h_ => rk (ld hS8 2 rfl (h_.d 0 76)),
     .bool false, fun _ h_ => rk (run_not rfl (h_.d 1 77) rfl),
     .bool false, fun _ h_ => rmv (h_.d 2 78),
     pt g3 19, fun _ h_ => r_ok (h_.on 3 79) (fa 19 rfl (h_.b 2 s2)),
     .bool false, fun _ h_ => r_ok (h_.on 3 79) (ld hS8 2 rfl (h_.d 4 80)),
     .bool false, fun _ h_ => r_ok (h_.on 3 79) (run_move rfl (h_.d 5 81)), ?_⟩
    refine seq_off (j := 6) (d := 82) (b := true) [7, 8, 9, 10, 11, 12] _ (by kernel_rfl) (.inl rfl) ?_
    refine ⟨.bool false, fun _ h_ => r_ok (h_.on 3 79) (run_pick_f rfl (h_.d 6 82) rfl),
     .bool false, fun _ h_ => rk (run_pick_f rfl (h_.d 3 79) (h_.d 13 89)), ?_⟩
    intro a17 hput
    replace s2 := hput.o 2 s2
    replace s4 := hput.o 4 s4
    replace s5 := hput.o 5 s5
    replace s6 := hput.o 6 s6
    replace s7 := hput.o 7 s7
    have s90 : sl a17 90 = .bool false := hput.new 14 90 rfl
    replace hz := hput.size.trans hz
    replace hd := hput.defers.trans hd
    clear hput
    change Code.wp _ _ _ _ _
    refine wp_cond_false s90 ?_
    refine wp_skip ?_
    change Code.wp _ _ _ _ _
    refine wp_seq ?_
    refine wp_seq ?_
    refine seq_l [] hz ?_
    refine ⟨i6 m.last, fun _ h_ => rmv (h_.b 7 s7),
     .bool (decide ((m.last : Int) < 2147483647)), fun _ h_ => rk (run_cmp rfl (h_.d 0 95) rfl rfl (by first | rfl | exact neq_dec _ _ | exact eq_dec _ _ | simp)), ?_⟩
    intro a18 hput
    replace s2 := hput.o 2 s2
    replace s4 := hput.o 4 s4
    replace s5 := hput.o 5 s5
    replace s6 := hput.o 6 s6
    replace s7 := hput.o 7 s7
    have s96 : sl a18 96 = .bool (decide ((m.last : Int) < 2147483647)) := hput.new 1 96 rfl
    replace hz := hput.size.trans hz
    replace hd := hput.defers.trans hd
    clear hput s90
    change Code.wp _ _ _ _ _
    refine wp_cond_d s96 (fun hc96 => ?_) (fun hc96 => ?_)
    · clear s96
      refine wp_seq ?_
      refine seq_l [3, 4] hz ?_
      refine ⟨.agg #[i6 m.want.hd.age, i6 m.want.hd.kind, i6 m.want.hd.id, i6 m.want.hd.adv, i6 m.want.hd.seq, i6 m.want.hd.sum, i6 m.want.hd.long, .slice p.A m.want.links.length p.c, .slice p.B m.want.mem.length p.d, .bool true, i6 m.held.hd.age, i6 m.held.hd.kind, i6 m.held.hd.id, i6 m.held.hd.adv, i6 m.held.hd.seq, i6 m.held.hd.sum, i6 m.held.hd.long, .slice q.A m.held.links.length q.c, .slice q.B m.held.mem.length q.d, .bool false, i6 m.last, i6 m.at_, .bool true], fun _ h_ => rk (lbS 23 (hS8.blk (i := 2) rfl) rfl (h_.b 2 s2)),
       i6 m.last, fun _ h_ => rmv (h_.b 7 s7),
       i6 (m.last + 1), fun _ h_ => rk (run_addI rfl (h_.d 1 98) rfl (by omega) rfl), ?_⟩
      refine ⟨fun a_ h_ => st_call (on_none rfl) (run_call rfl (map2 (h_.d 0 97) (h_.d 2 99)) rfl) (told19_any ({ m with wanted := true, is_ := false, ever := true } : MV) p q (m.last + 1) _ hw1 hw2 hh1 hh2 (⟨(hok.below (hS8.old (by simp))).want, (hok.below (hS8.old (by simp))).held⟩ : MOK _ ({ m with wanted := true, is_ := false, ever := true } : MV) p q)) ?_, trivial⟩
      rintro e w20 ⟨q20, rfl, hO, hb20⟩
      refine ⟨_, rfl, _, rfl, ?_⟩
      clear h_ a_
      have hS20 := hS8.pushLB (hS8.old (by simp)).size hb20 hO
      clear hO hb20 hS8
      refine ⟨fun a_ h_ => st_store (n := 10) (cells := #[i6 ((tellF ({ m with wanted := true, is_ := false, ever := true } : MV) (m.last + 1)).hd.age), i6 ((tellF ({ m with wanted := true, is_ := false, ever := true } : MV) (m.last + 1)).hd.kind), i6 ((tellF ({ m with wanted := true, is_ := false, ever := true } : MV) (m.last + 1)).hd.id), i6 ((tellF ({ m with wanted := true, is_ := false, ever := true } : MV) (m.last + 1)).hd.adv), i6 ((tellF ({ m with wanted := true, is_ := false, ever := true } : MV) (m.last + 1)).hd.seq), i6 ((tellF ({ m with wanted := true, is_ := false, ever := true } : MV) (m.last + 1)).hd.sum), i6 ((tellF ({ m with wanted := true, is_ := false, ever := true } : MV) (m.last + 1)).hd.long), .slice q20.A ((tellF ({ m with wanted := true, is_ := false, ever := true } : MV) (m.last + 1)).links.length) q20.c, .slice q20.B ((tellF ({ m with wanted := true, is_ := false, ever := true } : MV) (m.last + 1)).mem.length) q20.d, i6 1]) (cs' := #[i6 ((tellF ({ m with wanted := true, is_ := false, ever := true } : MV) (m.last + 1)).hd.age), i6 ((tellF ({ m with wanted := true, is_ := false, ever := true } : MV) (m.last + 1)).hd.kind), i6 ((tellF ({ m with wanted := true, is_ := false, ever := true } : MV) (m.last + 1)).hd.id), i6 ((tellF ({ m with wanted := true, is_ := false, ever := true } : MV) (m.last + 1)).hd.adv), i6 ((tellF ({ m with wanted := true, is_ := false, ever := true } : MV) (m.last + 1)).hd.seq), i6 ((tellF ({ m with wanted := true, is_ := false, ever := true } : MV) (m.last + 1)).hd.sum), i6 ((tellF ({ m with wanted := true, is_ := false, ever := true } : MV) (m.last + 1)).hd.long), .slice q20.A ((tellF ({ m with wanted := true, is_ := false, ever := true } : MV) (m.last + 1)).links.length) q20.c, .slice q20.B ((tellF ({ m with wanted := true, is_ := false, ever := true } : MV) (m.last + 1)).mem.length) q20.d, i6 1]) 1 hS20 rfl (on_none rfl) rfl (h_.b 4 s4) (h_.d 3 100) rfl (by kernel_rfl) ⟨Nat.le_of_ble_eq_true rfl, rfl, by kernel_rfl⟩ rfl fun w21 hS21 he21 => ⟨_, rfl, ?_⟩, trivial⟩
      clear h_ a_ he21 hS20
      replace hS21 : S (kap W) ((blkA g7 36 #[i6 ((withF m.held 60 m.held.hd.seq).hd.age), i6 ((withF m.held 60 m.held.hd.seq).hd.kind), i6 ((withF m.held 60 m.held.hd.seq).hd.id), i6 ((withF m.held 60 m.held.hd.seq).hd.adv), i6 ((withF m.held 60 m.held.hd.seq).hd.seq), i6 ((withF m.held 60 m.held.hd.seq).hd.sum), i6 ((withF m.held 60 m.held.hd.seq).hd.long), .slice q6.A ((withF m.held 60 m.held.hd.seq).links.length) q6.c, .slice q6.B ((withF m.held 60 m.held.hd.seq).mem.length) q6.d, i6 2]) :: (blkA g4 36 #[i6 ((tellF ({ m with wanted := true, is_ := false, ever := true } : MV) (m.last + 1)).hd.age), i6 ((tellF ({ m with wanted := true, is_ := false, ever := true } : MV) (m.last + 1)).hd.kind), i6 ((tellF ({ m with wanted := true, is_ := false, ever := true } : MV) (m.last + 1)).hd.id), i6 ((tellF ({ m with wanted := true, is_ := false, ever := true } : MV) (m.last + 1)).hd.adv), i6 ((tellF ({ m with wanted := true, is_ := false, ever := true } : MV) (m.last + 1)).hd.seq), i6 ((tellF ({ m with wanted := true, is_ := false, ever := true } : MV) (m.last + 1)).hd.sum), i6 ((tellF ({ m with wanted := true, is_ := false, ever := true } : MV) (m.last + 1)).hd.long), .slice q20.A ((tellF ({ m with wanted := true, is_ := false, ever := true } : MV) (m.last + 1)).links.length) q20.c, .slice q20.B ((tellF ({ m with wanted := true, is_ := false, ever := true } : MV) (m.last + 1)).mem.length) q20.d, i6 1]) :: (blkA g3 29 #[i6 m.want.hd.age, i6 m.want.hd.kind, i6 m.want.hd.id, i6 m.want.hd.adv, i6 m.want.hd.seq, i6 m.want.hd.sum, i6 m.want.hd.long, .slice p.A m.want.links.length p.c, .slice p.B m.want.mem.length p.d, .bool true, i6 m.held.hd.age, i6 m.held.hd.kind, i6 m.held.hd.id, i6 m.held.hd.adv, i6 m.held.hd.seq, i6 m.held.hd.sum, i6 m.held.hd.long, .slice q.A m.held.links.length q.c, .slice q.B m.held.mem.length q.d, .bool false, i6 m.last, i6 m.at_, .bool true]) :: []) ((rowB W.heap.size (.slice q20.A (tellF ({ m with wanted := true, is_ := false, ever := true } : MV) (m.last + 1)).links.length q20.c) 69 4 (tellF ({ m with wanted := true, is_ := false, ever := true } : MV) (m.last + 1)).links.length (rowC Lk.cells (tellF ({ m with wanted := true, is_ := false, ever := true } : MV) (m.last + 1)).links)) :: (rowB W.heap.size (.slice q20.B (tellF ({ m with wanted := true, is_ := false, ever := true } : MV) (m.last + 1)).mem.length q20.d) 3 1 (tellF ({ m with wanted := true, is_ := false, ever := true } : MV) (m.last + 1)).mem.length (ints (tellF ({ m with wanted := true, is_ := false, ever := true } : MV) (m.last + 1)).mem)) :: (rowB W.heap.size (.slice q6.A (withF m.held 60 m.held.hd.seq).links.length q6.c) 69 4 (withF m.held 60 m.held.hd.seq).links.length (rowC Lk.cells (withF m.held 60 m.held.hd.seq).links)) :: (rowB W.heap.size (.slice q6.B (withF m.held 60 m.held.hd.seq).mem.length q6.d) 3 1 (withF m.held 60 m.held.hd.seq).mem.length (ints (withF m.held 60 m.held.hd.seq).mem)) :: (memA W W.heap.size) :: []) w21 := hS21
      intro a19 hput
      replace s2 := hput.o 2 s2
      replace s4 := hput.o 4 s4
      replace s5 := hput.o 5 s5
      replace s6 := hput.o 6 s6
      replace hz := hput.size.trans hz
      replace hd := hput.defers.trans hd
      clear hput s7
      change Code.wp _ _ _ _ _
      refine wp_ret ?_
      refine retC (P := Try.prog) (fn := Try.f12) hd s4 (hS21.blk (i := 1) rfl) (hR_ _ _ ?_) Try.underlying36
      have hf : planF ({ m with wanted := true, is_ := false, ever := true } : MV) now = ((tellF ({ m with wanted := true, is_ := false, ever := true } : MV) (m.last + 1)), 1) := by simp only [planF, restF, livesF, numberF, flushF, withF] <;> first | rfl | (simp_all; done) | (simp_all; omega) | grind
      rw [hf]
      exact ⟨q20, rfl, lown_of (l := (tellF ({ m with wanted := true, is_ := false, ever := true } : MV) (m.last + 1))) hS21 0, (hS21.old (by simp))⟩
    · clear s96
      refine wp_skip ?_
      change Code.wp _ _ _ _ _
      refine wp_seq ?_
      refine wp_seq ?_
      refine seq_l [] hz ?_
      refine ⟨.bool false, fun _ h_ => rmv (h_.b 6 s6), ?_⟩
      intro a22 hput
      replace s2 := hput.o 2 s2
      replace s4 := hput.o 4 s4
      replace s5 := hput.o 5 s5
      have s101 : sl a22 101 = .bool false := hput.new 0 101 rfl
      replace hz := hput.size.trans hz
      replace hd := hput.defers.trans hd
      clear hput s6 s7
      change Code.wp _ _ _ _ _
      refine wp_cond_false s101 ?_
      refine wp_skip ?_
      change Code.wp _ _ _ _ _
      refine wp_seq ?_
      refine wp_seq ?_
      refine seq_l [] hz ?_
      refine ⟨pt g3 19, fun _ h_ => rk (fa 19 rfl (h_.b 2 s2)),
       .bool false, fun _ h_ => rk (ld hS8 2 rfl (h_.d 0 103)), ?_⟩
      intro a23 hput
      replace s2 := hput.o 2 s2
      replace s4 := hput.o 4 s4
      have s104 : sl a23 104 = .bool false := hput.new 1 104 rfl
      replace hz := hput.size.trans hz
      replace hd := hput.defers.trans hd
      clear hput s5 s101
      change Code.wp _ _ _ _ _
      refine wp_cond_false s104 ?_
      refine wp_skip ?_
      change Code.wp _ _ _ _ _
      refine wp_seq ?_
      refine seq_l [1, 2] hz ?_
      refine ⟨.agg #[i6 m.want.hd.age, i6 m.want.hd.kind, i6 m.want.hd.id, i6 m.want.hd.adv, i6 m.want.hd.seq, i6 m.want.hd.sum, i6 m.want.hd.long, .slice p.A m.want.links.length p.c, .slice p.B m.want.mem.length p.d, .bool true, i6 m.held.hd.age, i6 m.held.hd.kind, i6 m.held.hd.id, i6 m.held.hd.adv, i6 m.held.hd.seq, i6 m.held.hd.sum, i6 m.held.hd.long, .slice q.A m.held.links.length q.c, .slice q.B m.held.mem.length q.d, .bool false, i6 m.last, i6 m.at_, .bool true], fun _ h_ => rk (lbS 23 (hS8.blk (i := 2) rfl) rfl (h_.b 2 s2)), ?_⟩
      refine ⟨fun a_ h_ => st_call (on_none rfl) (run_call rfl (map2 (h_.d 0 106) rfl) rfl) (told19_any ({ m with wanted := true, is_ := false, ever := true } : MV) p q (-2147483647) _ hw1 hw2 hh1 hh2 (⟨(hok.below (hS8.old (by simp))).want, (hok.below (hS8.old (by simp))).held⟩ : MOK _ ({ m with wanted := true, is_ := false, ever := true } : MV) p q)) ?_, trivial⟩
      rintro e w25 ⟨q25, rfl, hO, hb25⟩
      refine ⟨_, rfl, _, rfl, ?_⟩
      clear h_ a_
      have hS25 := hS8.pushLB (hS8.old (by simp)).size hb25 hO
      clear hO hb25 hS8
      refine ⟨fun a_ h_ => st_store (n := 10) (cells := #[i6 ((tellF ({ m with wanted := true, is_ := false, ever := true } : MV) (-2147483647)).hd.age), i6 ((tellF ({ m with wanted := true, is_ := false, ever := true } : MV) (-2147483647)).hd.kind), i6 ((tellF ({ m with wanted := true, is_ := false, ever := true } : MV) (-2147483647)).hd.id), i6 ((tellF ({ m with wanted := true, is_ := false, ever := true } : MV) (-2147483647)).hd.adv), i6 ((tellF ({ m with wanted := true, is_ := false, ever := true } : MV) (-2147483647)).hd.seq), i6 ((tellF ({ m with wanted := true, is_ := false, ever := true } : MV) (-2147483647)).hd.sum), i6 ((tellF ({ m with wanted := true, is_ := false, ever := true } : MV) (-2147483647)).hd.long), .slice q25.A ((tellF ({ m with wanted := true, is_ := false, ever := true } : MV) (-2147483647)).links.length) q25.c, .slice q25.B ((tellF ({ m with wanted := true, is_ := false, ever := true } : MV) (-2147483647)).mem.length) q25.d, i6 1]) (cs' := #[i6 ((tellF ({ m with wanted := true, is_ := false, ever := true } : MV) (-2147483647)).hd.age), i6 ((tellF ({ m with wanted := true, is_ := false, ever := true } : MV) (-2147483647)).hd.kind), i6 ((tellF ({ m with wanted := true, is_ := false, ever := true } : MV) (-2147483647)).hd.id), i6 ((tellF ({ m with wanted := true, is_ := false, ever := true } : MV) (-2147483647)).hd.adv), i6 ((tellF ({ m with wanted := true, is_ := false, ever := true } : MV) (-2147483647)).hd.seq), i6 ((tellF ({ m with wanted := true, is_ := false, ever := true } : MV) (-2147483647)).hd.sum), i6 ((tellF ({ m with wanted := true, is_ := false, ever := true } : MV) (-2147483647)).hd.long), .slice q25.A ((tellF ({ m with wanted := true, is_ := false, ever := true } : MV) (-2147483647)).links.length) q25.c, .slice q25.B ((tellF ({ m with wanted := true, is_ := false, ever := true } : MV) (-2147483647)).mem.length) q25.d, i6 1]) 1 hS25 rfl (on_none rfl) rfl (h_.b 4 s4) (h_.d 1 107) rfl (by kernel_rfl) ⟨Nat.le_of_ble_eq_true rfl, rfl, by kernel_rfl⟩ rfl fun w26 hS26 he26 => ⟨_, rfl, ?_⟩, trivial⟩
      clear h_ a_ he26 hS25
      replace hS26 : S (kap W) ((blkA g7 36 #[i6 ((withF m.held 60 m.held.hd.seq).hd.age), i6 ((withF m.held 60 m.held.hd.seq).hd.kind), i6 ((withF m.held 60 m.held.hd.seq).hd.id), i6 ((withF m.held 60 m.held.hd.seq).hd.adv), i6 ((withF m.held 60 m.held.hd.seq).hd.seq), i6 ((withF m.held 60 m.held.hd.seq).hd.sum), i6 ((withF m.held 60 m.held.hd.seq).hd.long), .slice q6.A ((withF m.held 60 m.held.hd.seq).links.length) q6.c, .slice q6.B ((withF m.held 60 m.held.hd.seq).mem.length) q6.d, i6 2]) :: (blkA g4 36 #[i6 ((tellF ({ m with wanted := true, is_ := false, ever := true } : MV) (-2147483647)).hd.age), i6 ((tellF ({ m with wanted := true, is_ := false, ever := true } : MV) (-2147483647)).hd.kind), i6 ((tellF ({ m with wanted := true, is_ := false, ever := true } : MV) (-2147483647)).hd.id), i6 ((tellF ({ m with wanted := true, is_ := false, ever := true } : MV) (-2147483647)).hd.adv), i6 ((tellF ({ m with wanted := true, is_ := false, ever := true } : MV) (-2147483647)).hd.seq), i6 ((tellF ({ m with wanted := true, is_ := false, ever := true } : MV) (-2147483647)).hd.sum), i6 ((tellF ({ m with wanted := true, is_ := false, ever := true } : MV) (-2147483647)).hd.long), .slice q25.A ((tellF ({ m with wanted := true, is_ := false, ever := true } : MV) (-2147483647)).links.length) q25.c, .slice q25.B ((tellF ({ m with wanted := true, is_ := false, ever := true } : MV) (-2147483647)).mem.length) q25.d, i6 1]) :: (blkA g3 29 #[i6 m.want.hd.age, i6 m.want.hd.kind, i6 m.want.hd.id, i6 m.want.hd.adv, i6 m.want.hd.seq, i6 m.want.hd.sum, i6 m.want.hd.long, .slice p.A m.want.links.length p.c, .slice p.B m.want.mem.length p.d, .bool true, i6 m.held.hd.age, i6 m.held.hd.kind, i6 m.held.hd.id, i6 m.held.hd.adv, i6 m.held.hd.seq, i6 m.held.hd.sum, i6 m.held.hd.long, .slice q.A m.held.links.length q.c, .slice q.B m.held.mem.length q.d, .bool false, i6 m.last, i6 m.at_, .bool true]) :: []) ((rowB W.heap.size (.slice q25.A (tellF ({ m with wanted := true, is_ := false, ever := true } : MV) (-2147483647)).links.length q25.c) 69 4 (tellF ({ m with wanted := true, is_ := false, ever := true } : MV) (-2147483647)).links.length (rowC Lk.cells (tellF ({ m with wanted := true, is_ := false, ever := true } : MV) (-2147483647)).links)) :: (rowB W.heap.size (.slice q25.B (tellF ({ m with wanted := true, is_ := false, ever := true } : MV) (-2147483647)).mem.length q25.d) 3 1 (tellF ({ m with wanted := true, is_ := false, ever := true } : MV) (-2147483647)).mem.length (ints (tellF ({ m with wanted := true, is_ := false, ever := true } : MV) (-2147483647)).mem)) :: (rowB W.heap.size (.slice q6.A (withF m.held 60 m.held.hd.seq).links.length q6.c) 69 4 (withF m.held 60 m.held.hd.seq).links.length (rowC Lk.cells (withF m.held 60 m.held.hd.seq).links)) :: (rowB W.heap.size (.slice q6.B (withF m.held 60 m.held.hd.seq).mem.length q6.d) 3 1 (withF m.held 60 m.held.hd.seq).mem.length (ints (withF m.held 60 m.held.hd.seq).mem)) :: (memA W W.heap.size) :: []) w26 := hS26
      intro a24 hput
      replace s4 := hput.o 4 s4
      replace hz := hput.size.trans hz
      replace hd := hput.defers.trans hd
      clear hput s2 s104
      change Code.wp _ _ _ _ _
      refine wp_ret ?_
      refine retC (P := Try.prog) (fn := Try.f12) hd s4 (hS26.blk (i := 1) rfl) (hR_ _ _ ?_) Try.underlying36
      have hf : planF ({ m with wanted := true, is_ := false, ever := true } : MV) now = ((tellF ({ m with wanted := true, is_ := false, ever := true } : MV) (-2147483647)), 1) := by simp only [planF, restF, livesF, numberF, flushF, withF] <;> first | rfl | (simp_all; done) | (simp_all; omega) | grind
      rw [hf]
      exact ⟨q25, rfl, lown_of (l := (tellF ({ m with wanted := true, is_ := false, ever := true } : MV) (-2147483647))) hS26 0, (hS26.old (by simp))⟩
set_option maxRecDepth 100000 in
set_option maxHeartbeats 800000 in
theorem plan19_ttf (m : MV) (p q : LP) (now : Int) (W : World) (hn : -1099511627776 ≤ now ∧ now ≤ 1099511627776) (ha : -1099511627776 ≤ m.at_ ∧ m.at_ ≤ 1099511627776) (hl : -9223372036854775808 ≤ m.last) (hq : -9223372036854775808 ≤ m.held.hd.seq) (hw1 : m.want.links.length ≤ 20) (hw2 : m.want.mem.length ≤ 20) (hh1 : m.held.links.length ≤ 20) (hh2 : m.held.mem.length ≤ 20) (hok : MOK W m p q) :
    Calls Try.prog 12 #[.agg #[i6 m.want.hd.age, i6 m.want.hd.kind, i6 m.want.hd.id, i6 m.want.hd.adv, i6 m.want.hd.seq, i6 m.want.hd.sum, i6 m.want.hd.long, .slice p.A m.want.links.length p.c, .slice p.B m.want.mem.length p.d, .bool true, i6 m.held.hd.age, i6 m.held.hd.kind, i6 m.held.hd.id, i6 m.held.hd.adv, i6 m.held.hd.seq, i6 m.held.hd.sum, i6 m.held.hd.long, .slice q.A m.held.links.length q.c, .slice q.B m.held.mem.length q.d, .bool true, i6 m.last, i6 m.at_, .bool false], i6 now] W (fun r w' => ∃ q, r = .returned (.agg (doneA (planF ({ m with wanted := true, is_ := true, ever := false } : MV) now).1 q (planF ({ m with wanted := true, is_ := true, ever := false } : MV) now).2)) ∧ LOwn w' W.heap.size (planF ({ m with wanted := true, is_ := true, ever := false } : MV) now).1 q ∧ Below W.heap.size W w') := by
  have hS := S.start W
  refine calls_walk Try.func12 rfl fun R_ hR_ a hz hd hargs => ?_
  replace hz : a.tmps.size = 108 := hz.trans (by kernel_rfl)
  have s0 := hargs 0 _ rfl
  have s1 := hargs 1 _ rfl
  clear hargs
  refine wp_seq ?_
  refine seq_l [0, 1] hz ?_
  refine ⟨fun a_ h_ => st_box (cells := #[i6 m.want.hd.age, i6 m.want.hd.kind, i6 m.want.hd.id, i6 m.want.hd.adv, i6 m.want.hd.seq, i6 m.want.hd.sum, i6 m.want.hd.long, .slice p.A m.want.links.length p.c, .slice p.B m.want.mem.length p.d, .bool true, i6 m.held.hd.age, i6 m.held.hd.kind, i6 m.held.hd.id, i6 m.held.hd.adv, i6 m.held.hd.seq, i6 m.held.hd.sum, i6 m.held.hd.long, .slice q.A m.held.links.length q.c, .slice q.B m.held.mem.length q.d, .bool true, i6 m.last, i6 m.at_, .bool false]) hS (on_none rfl) rfl (h_.b 0 s0) (by kernel_rfl) fun g3 w3 hS3 hb3 => ⟨_, rfl, ?_⟩, trivial⟩
  clear h_ a_ hS
  clear hb3
  refine ⟨fun a_ h_ => st_alloc (cells := #[i6 0, i6 0, i6 0, i6 0, i6 0, i6 0, i6 0, .slice none 0 0, .slice none 0 0, i6 0]) hS3 (on_none rfl) rfl (by kernel_rfl) fun g4 w4 hS4 hb4 => ⟨_, rfl, ?_⟩, trivial⟩
  clear h_ a_ hS3
  clear hb4
  intro a2 hput
  replace s1 := hput.o 1 s1
  have s2 : sl a2 2 = pt g3 0 := hput.new 0 2 rfl
  have s4 : sl a2 4 = pt g4 0 := hput.new 1 4 rfl
  replace hz := hput.size.trans hz
  replace hd := hput.defers.trans hd
  clear hput s0
  change Code.wp _ _ _ _ _
  refine wp_seq ?_
  refine seq_l [6, 8, 9] hz ?_
  refine ⟨pt g3 10, fun _ h_ => rk (fa 10 rfl (h_.b 2 s2)),
   .agg #[i6 m.held.hd.age, i6 m.held.hd.kind, i6 m.held.hd.id, i6 m.held.hd.adv, i6 m.held.hd.seq, i6 m.held.hd.sum, i6 m.held.hd.long, .slice q.A m.held.links.length q.c, .slice q.B m.held.mem.length q.d], fun _ h_ => rk (lbS 9 (hS4.blk (i := 1) rfl) rfl (h_.d 0 8)),
   pt g3 10, fun _ h_ => rk (fa 10 rfl (h_.b 2 s2)),
   pt g3 10, fun _ h_ => rk (fa 0 rfl (h_.d 2 10)),
   pt g3 14, fun _ h_ => rk (fa 4 rfl (h_.d 3 11)),
   i6 m.held.hd.seq, fun _ h_ => rk (ld hS4 1 rfl (h_.d 4 12)), ?_⟩
  refine ⟨fun a_ h_ => st_call (on_none rfl) (run_call rfl (map3 (h_.d 1 9) rfl (h_.d 5 13)) rfl) (with19_any m.held q 60 m.held.hd.seq _ (by omega) (by omega) (hok.below (hS4.old (by simp))).held) ?_, trivial⟩
  rintro e w6 ⟨q6, rfl, hO, hb6⟩
  refine ⟨_, rfl, _, rfl, ?_⟩
  clear h_ a_
  have hS6 := hS4.pushLB (hS4.old (by simp)).size hb6 hO
  clear hO hb6 hS4
  refine ⟨.agg #[i6 ((withF m.held 60 m.held.hd.seq).hd.age), i6 ((withF m.held 60 m.held.hd.seq).hd.kind), i6 ((withF m.held 60 m.held.hd.seq).hd.id), i6 ((withF m.held 60 m.held.hd.seq).hd.adv), i6 ((withF m.held 60 m.held.hd.seq).hd.seq), i6 ((withF m.held 60 m.held.hd.seq).hd.sum), i6 ((withF m.held 60 m.held.hd.seq).hd.long), .slice q6.A ((withF m.held 60 m.held.hd.seq).links.length) q6.c, .slice q6.B ((withF m.held 60 m.held.hd.seq).mem.length) q6.d, i6 2], fun _ h_ => rk (run_build (vals := #[(0, .agg #[i6 ((withF m.held 60 m.held.hd.seq).hd.age), i6 ((withF m.held 60 m.held.hd.seq).hd.kind), i6 ((withF m.held 60 m.held.hd.seq).hd.id), i6 ((withF m.held 60 m.held.hd.seq).hd.adv), i6 ((withF m.held 60 m.held.hd.seq).hd.seq), i6 ((withF m.held 60 m.held.hd.seq).hd.sum), i6 ((withF m.held 60 m.held.hd.seq).hd.long), .slice q6.A ((withF m.held 60 m.held.hd.seq).links.length) q6.c, .slice q6.B ((withF m.held 60 m.held.hd.seq).mem.length) q6.d]), (1, i6 2)]) (r := .agg #[i6 ((withF m.held 60 m.held.hd.seq).hd.age), i6 ((withF m.held 60 m.held.hd.seq).hd.kind), i6 ((withF m.held 60 m.held.hd.seq).hd.id), i6 ((withF m.held 60 m.held.hd.seq).hd.adv), i6 ((withF m.held 60 m.held.hd.seq).hd.seq), i6 ((withF m.held 60 m.held.hd.seq).hd.sum), i6 ((withF m.held 60 m.held.hd.seq).hd.long), .slice q6.A ((withF m.held 60 m.held.hd.seq).links.length) q6.c, .slice q6.B ((withF m.held 60 m.held.hd.seq).mem.length) q6.d, i6 2]) rfl (bp2 (h_.d 6 14) rfl) (by kernel_rfl)), ?_⟩
  refine ⟨fun a_ h_ => st_alloc (cells := #[i6 0, i6 0, i6 0, i6 0, i6 0, i6 0, i6 0, .slice none 0 0, .slice none 0 0, i6 0]) hS6 (on_none rfl) rfl (by kernel_rfl) fun g7 w7 hS7 hb7 => ⟨_, rfl, ?_⟩, trivial⟩
  clear h_ a_ hS6
  clear hb7
  refine ⟨fun a_ h_ => st_store (n := 10) (cells := #[i6 ((withF m.held 60 m.held.hd.seq).hd.age), i6 ((withF m.held 60 m.held.hd.seq).hd.kind), i6 ((withF m.held 60 m.held.hd.seq).hd.id), i6 ((withF m.held 60 m.held.hd.seq).hd.adv), i6 ((withF m.held 60 m.held.hd.seq).hd.seq), i6 ((withF m.held 60 m.held.hd.seq).hd.sum), i6 ((withF m.held 60 m.held.hd.seq).hd.long), .slice q6.A ((withF m.held 60 m.held.hd.seq).links.length) q6.c, .slice q6.B ((withF m.held 60 m.held.hd.seq).mem.length) q6.d, i6 2]) (cs' := #[i6 ((withF m.held 60 m.held.hd.seq).hd.age), i6 ((withF m.held 60 m.held.hd.seq).hd.kind), i6 ((withF m.held 60 m.held.hd.seq).hd.id), i6 ((withF m.held 60 m.held.hd.seq).hd.adv), i6 ((withF m.held 60 m.held.hd.seq).hd.seq), i6 ((withF m.held 60 m.held.hd.seq).hd.sum), i6 ((withF m.held 60 m.held.hd.seq).hd.long), .slice q6.A ((withF m.held 60 m.held.hd.seq).links.length) q6.c, .slice q6.B ((withF m.held 60 m.held.hd.seq).mem.length) q6.d, i6 2]) 0 hS7 rfl (on_none rfl) rfl (h_.d 8 5) (h_.d 7 15) rfl (by kernel_rfl) ⟨Nat.le_of_ble_eq_true rfl, rfl, by kernel_rfl⟩ rfl fun w8 hS8 he8 => ⟨_, rfl, ?_⟩, trivial⟩
  clear h_ a_ he8 hS7
  replace hS8 : S (kap W) ((blkA g7 36 #[i6 ((withF m.held 60 m.held.hd.seq).hd.age), i6 ((withF m.held 60 m.held.hd.seq).hd.kind), i6 ((withF m.held 60 m.held.hd.seq).hd.id), i6 ((withF m.held 60 m.held.hd.seq).hd.adv), i6 ((withF m.held 60 m.held.hd.seq).hd.seq), i6 ((withF m.held 60 m.held.hd.seq).hd.sum), i6 ((withF m.held 60 m.held.hd.seq).hd.long), .slice q6.A ((withF m.held 60 m.held.hd.seq).links.length) q6.c, .slice q6.B ((withF m.held 60 m.held.hd.seq).mem.length) q6.d, i6 2]) :: (blkA g4 36 #[i6 0, i6 0, i6 0, i6 0, i6 0, i6 0, i6 0, .slice none 0 0, .slice none 0 0, i6 0]) :: (blkA g3 29 #[i6 m.want.hd.age, i6 m.want.hd.kind, i6 m.want.hd.id, i6 m.want.hd.adv, i6 m.want.hd.seq, i6 m.want.hd.sum, i6 m.want.hd.long, .slice p.A m.want.links.length p.c, .slice p.B m.want.mem.length p.d, .bool true, i6 m.held.hd.age, i6 m.held.hd.kind, i6 m.held.hd.id, i6 m.held.hd.adv, i6 m.held.hd.seq, i6 m.held.hd.sum, i6 m.held.hd.long, .slice q.A m.held.links.length q.c, .slice q.B m.held.mem.length q.d, .bool true, i6 m.last, i6 m.at_, .bool false]) :: []) ((rowB W.heap.size (.slice q6.A (withF m.held 60 m.held.hd.seq).links.length q6.c) 69 4 (withF m.held 60 m.held.hd.seq).links.length (rowC Lk.cells (withF m.held 60 m.held.hd.seq).links)) :: (rowB W.heap.size (.slice q6.B (withF m.held 60 m.held.hd.seq).mem.length q6.d) 3 1 (withF m.held 60 m.held.hd.seq).mem.length (ints (withF m.held 60 m.held.hd.seq).mem)) :: (memA W W.heap.size) :: []) w8 := hS8
  intro a5 hput
  replace s1 := hput.o 1 s1
  replace s2 := hput.o 2 s2
  replace s4 := hput.o 4 s4
  have s5 : sl a5 5 = pt g7 0 := hput.new 8 5 rfl
  replace hz := hput.size.trans hz
  replace hd := hput.defers.trans hd
  clear hput
  change Code.wp _ _ _ _ _
  refine wp_seq ?_
  refine seq_l [] hz ?_
  refine ⟨pt g3 19, fun _ h_ => rk (fa 19 rfl (h_.b 2 s2)),
   .bool true, fun _ h_ => rk (ld hS8 2 rfl (h_.d 0 16)),
   .bool true, fun _ h_ => rmv (h_.d 1 17),
   pt g3 10, fun _ h_ => r_ok (h_.on 2 18) (fa 10 rfl (h_.b 2 s2)),
   pt g3 10, fun _ h_ => r_ok (h_.on 2 18) (fa 0 rfl (h_.d 3 19)),
   pt g3 10, fun _ h_ => r_ok (h_.on 2 18) (fa 0 rfl (h_.d 4 20)),
   i6 m.held.hd.age, fun _ h_ => r_ok (h_.on 2 18) (ld hS8 2 rfl (h_.d 5 21)),
   .bool (decide ((m.held.hd.age : Int) ≠ 60)), fun _ h_ => r_ok (h_.on 2 18) (run_cmp rfl (h_.d 6 22) rfl rfl (by first | rfl | exact neq_dec _ _ | exact eq_dec _ _ | simp)),
   .bool (decide ((m.held.hd.age : Int) ≠ 60)), fun _ h_ => rk (run_pick_t rfl (h_.d 2 18) (h_.d 7 23)),
   .bool (decide ((m.held.hd.age : Int) ≠ 60)), fun _ h_ => ras (h_.d 8 24), ?_⟩
  intro a9 hput
  replace s1 := hput.o 1 s1
  replace s2 := hput.o 2 s2
  replace s4 := hput.o 4 s4
  replace s5 := hput.o 5 s5
  have s6 : sl a9 6 = .bool (decide ((m.held.hd.age : Int) ≠ 60)) := hput.new 9 6 rfl
  replace hz := hput.size.trans hz
  replace hd := hput.defers.trans hd
  clear hput
  change Code.wp _ _ _ _ _
  refine wp_seq ?_
  refine wp_seq ?_
  refine seq_l [] hz ?_
  refine ⟨pt g3 9, fun _ h_ => rk (fa 9 rfl (h_.b 2 s2)),
   .bool true, fun _ h_ => rk (ld hS8 2 rfl (h_.d 0 25)),
   .bool false, fun _ h_ => rk (run_not rfl (h_.d 1 26) rfl),
   .bool false, fun _ h_ => rmv (h_.d 2 27), ?_⟩
  refine seq_off (j := 3) (d := 28) (b := true) [4] _ (by kernel_rfl) (.inl rfl) ?_
  refine ⟨.bool false, fun _ h_ => rk (run_pick_f rfl (h_.d 3 28) rfl), ?_⟩
  intro a10 hput
  replace s1 := hput.o 1 s1
  replace s2 := hput.o 2 s2
  replace s4 := hput.o 4 s4
  replace s5 := hput.o 5 s5
  replace s6 := hput.o 6 s6
  have s30 : sl a10 30 = .bool false := hput.new 5 30 rfl
  replace hz := hput.size.trans hz
  replace hd := hput.defers.trans hd
  clear hput
  change Code.wp _ _ _ _ _
  refine wp_cond_false s30 ?_
  refine wp_skip ?_
  change Code.wp _ _ _ _ _
  refine wp_seq ?_
  refine wp_seq ?_
  refine seq_l [18] hz ?_
  refine ⟨pt g3 9, fun _ h_ => rk (fa 9 rfl (h_.b 2 s2)),
   .bool true, fun _ h_ => rk (ld hS8 2 rfl (h_.d 0 32)),
   .bool false, fun _ h_ => rk (run_not rfl (h_.d 1 33) rfl),
   .bool false, fun _ h_ => rmv (h_.d 2 34),
   pt g3 19, fun _ h_ => r_ok (h_.on 3 35) (fa 19 rfl (h_.b 2 s2)),
   .bool true, fun _ h_ => r_ok (h_.on 3 35) (ld hS8 2 rfl (h_.d 4 36)),
   .bool true, fun _ h_ => r_ok (h_.on 3 35) (run_move rfl (h_.d 5 37)),
   pt g3 10, fun _ h_ => r_ok (h_.on 6 38) (fa 10 rfl (h_.b 2 s2)),
   pt g3 10, fun _ h_ => r_ok (h_.on 6 38) (fa 0 rfl (h_.d 7 39)),
   pt g3 10, fun _ h_ => r_ok (h_.on 6 38) (fa 0 rfl (h_.d 8 40)),
   i6 m.held.hd.age, fun _ h_ => r_ok (h_.on 6 38) (ld hS8 2 rfl (h_.d 9 41)),
   .bool (decide ((m.held.hd.age : Int) < 20)), fun _ h_ => r_ok (h_.on 6 38) (run_cmp rfl (h_.d 10 42) rfl rfl (by first | rfl | exact neq_dec _ _ | exact eq_dec _ _ | simp)),
   .bool (decide ((m.held.hd.age : Int) < 20)), fun _ h_ => r_ok (h_.on 3 35) (run_pick_t rfl (h_.d 6 38) (h_.d 11 43)),
   .bool (decide ((m.held.hd.age : Int) < 20)), fun _ h_ => r_ok (h_.on 3 35) (run_move rfl (h_.d 12 44)), ?_⟩
  rcases dt ((m.held.hd.age : Int) < 20) with ⟨he, hg13⟩ | ⟨he, hg13⟩
  · rw [he]
    clear he
    refine ⟨pt g3 10, fun _ h_ => r_ok (h_.on 13 45) (fa 10 rfl (h_.b 2 s2)),
     .agg #[i6 m.held.hd.age, i6 m.held.hd.kind, i6 m.held.hd.id, i6 m.held.hd.adv, i6 m.held.hd.seq, i6 m.held.hd.sum, i6 m.held.hd.long, .slice q.A m.held.links.length q.c, .slice q.B m.held.mem.length q.d], fun _ h_ => r_ok (h_.on 13 45) (lbS 9 (hS8.blk (i := 2) rfl) rfl (h_.d 14 46)),
     pt g3 0, fun _ h_ => r_ok (h_.on 13 45) (fa 0 rfl (h_.b 2 s2)),
     .agg #[i6 m.want.hd.age, i6 m.want.hd.kind, i6 m.want.hd.id, i6 m.want.hd.adv, i6 m.want.hd.seq, i6 m.want.hd.sum, i6 m.want.hd.long, .slice p.A m.want.links.length p.c, .slice p.B m.want.mem.length p.d], fun _ h_ => r_ok (h_.on 13 45) (lbS 9 (hS8.blk (i := 2) rfl) rfl (h_.d 16 48)), ?_⟩
    refine ⟨fun a_ h_ => st_call (h_.on 13 45) (run_call rfl (map2 (h_.d 15 47) (h_.d 17 49)) rfl) (alike19_any m.held m.want q p _ (by omega) (by omega) (hok.below (hS8.old (by simp))).held (by omega) (by omega) (hok.below (hS8.old (by simp))).want) ?_, trivial⟩
    rintro e w12 ⟨rfl, hb12⟩
    refine ⟨_, rfl, _, rfl, ?_⟩
    clear h_ a_
    have hS12 := hS8.below hb12
    clear hS8 hb12
    refine ⟨.bool (decide (m.held.links = m.want.links) && decide (m.held.mem = m.want.mem)), fun _ h_ => r_ok (h_.on 3 35) (run_pick_t rfl (h_.d 13 45) (h_.d 18 50)),
     .bool (decide (m.held.links = m.want.links) && decide (m.held.mem = m.want.mem)), fun _ h_ => rk (run_pick_f rfl (h_.d 3 35) (h_.d 19 51)), ?_⟩
    intro a11 hput
    replace s1 := hput.o 1 s1
    replace s2 := hput.o 2 s2
    replace s4 := hput.o 4 s4
    replace s5 := hput.o 5 s5
    replace s6 := hput.o 6 s6
    have s52 : sl a11 52 = .bool (decide (m.held.links = m.want.links) && decide (m.held.mem = m.want.mem)) := hput.new 20 52 rfl
    replace hz := hput.size.trans hz
    replace hd := hput.defers.trans hd
    clear hput s30
    change Code.wp _ _ _ _ _
    refine wp_cond_b s52 (fun hc52 => ?_) (fun hc52 => ?_)
    · clear s52
      refine wp_seq ?_
      refine seq_l [1] hz ?_
      refine ⟨.agg #[i6 0, i6 0, i6 0, i6 0, i6 0, i6 0, i6 0, .slice none 0 0, .slice none 0 0, i6 0], fun _ h_ => rk (run_build (vals := #[]) (r := .agg #[i6 0, i6 0, i6 0, i6 0, i6 0, i6 0, i6 0, .slice none 0 0, .slice none 0 0, i6 0]) rfl (by simp) (by kernel_rfl)), ?_⟩
      refine ⟨fun a_ h_ => st_store (n := 10) (cells := #[i6 0, i6 0, i6 0, i6 0, i6 0, i6 0, i6 0, .slice none 0 0, .slice none 0 0, i6 0]) (cs' := #[i6 0, i6 0, i6 0, i6 0, i6 0, i6 0, i6 0, .slice none 0 0, .slice none 0 0, i6 0]) 1 hS12 rfl (on_none rfl) rfl (h_.b 4 s4) (h_.d 0 53) rfl (by kernel_rfl) ⟨Nat.le_of_ble_eq_true rfl, rfl, by kernel_rfl⟩ rfl fun w14 hS14 he14 => ⟨_, rfl, ?_⟩, trivial⟩
      clear h_ a_ he14 hS12
      replace hS14 : S (kap W) ((blkA g7 36 #[i6 ((withF m.held 60 m.held.hd.seq).hd.age), i6 ((withF m.held 60 m.held.hd.seq).hd.kind), i6 ((withF m.held 60 m.held.hd.seq).hd.id), i6 ((withF m.held 60 m.held.hd.seq).hd.adv), i6 ((withF m.held 60 m.held.hd.seq).hd.seq), i6 ((withF m.held 60 m.held.hd.seq).hd.sum), i6 ((withF m.held 60 m.held.hd.seq).hd.long), .slice q6.A ((withF m.held 60 m.held.hd.seq).links.length) q6.c, .slice q6.B ((withF m.held 60 m.held.hd.seq).mem.length) q6.d, i6 2]) :: (blkA g4 36 #[i6 0, i6 0, i6 0, i6 0, i6 0, i6 0, i6 0, .slice none 0 0, .slice none 0 0, i6 0]) :: (blkA g3 29 #[i6 m.want.hd.age, i6 m.want.hd.kind, i6 m.want.hd.id, i6 m.want.hd.adv, i6 m.want.hd.seq, i6 m.want.hd.sum, i6 m.want.hd.long, .slice p.A m.want.links.length p.c, .slice p.B m.want.mem.length p.d, .bool true, i6 m.held.hd.age, i6 m.held.hd.kind, i6 m.held.hd.id, i6 m.held.hd.adv, i6 m.held.hd.seq, i6 m.held.hd.sum, i6 m.held.hd.long, .slice q.A m.held.links.length q.c, .slice q.B m.held.mem.length q.d, .bool true, i6 m.last, i6 m.at_, .bool false]) :: []) ((rowB W.heap.size (.slice q6.A (withF m.held 60 m.held.hd.seq).links.length q6.c) 69 4 (withF m.held 60 m.held.hd.seq).links.length (rowC Lk.cells (withF m.held 60 m.held.hd.seq).links)) :: (rowB W.heap.size (.slice q6.B (withF m.held 60 m.held.hd.seq).mem.length q6.d) 3 1 (withF m.held 60 m.held.hd.seq).mem.length (ints (withF m.held 60 m.held.hd.seq).mem)) :: (memA W W.heap.size) :: []) w14 := hS14
      intro a13 hput
      replace s1 := hput.o 1 s1
      replace s2 := hput.o 2 s2
      replace s4 := hput.o 4 s4
      replace s5 := hput.o 5 s5
      replace s6 := hput.o 6 s6
      replace hz := hput.size.trans hz
      replace hd := hput.defers.trans hd
      clear hput
      change Code.wp _ _ _ _ _
      refine wp_ret ?_
      refine retC (P := Try.prog) (fn := Try.f12) hd s4 (hS14.blk (i := 1) rfl) (hR_ _ _ ?_) Try.underlying36
      have hf : planF ({ m with wanted := true, is_ := true, ever := false } : MV) now = ((default : LV), 0) := by simp only [planF, restF, livesF, numberF, flushF, withF] <;> first | rfl | (simp_all; done) | (simp_all; omega) | grind
      rw [hf]
      exact ⟨⟨none, 0, none, 0⟩, rfl, LOwn.none_ _ _, (hS14.old (by simp))⟩
    · clear s52
      refine wp_skip ?_
      change Code.wp _ _ _ _ _
      refine wp_seq ?_
      refine wp_seq ?_
      refine seq_l [] hz ?_
      refine ⟨pt g3 22, fun _ h_ => rk (fa 22 rfl (h_.b 2 s2)),
       .bool false, fun _ h_ => rk (ld hS12 2 rfl (h_.d 0 54)),
       .bool false, fun _ h_ => rmv (h_.d 1 55), ?_⟩
      refine seq_off (j := 2) (d := 56) (b := true) [3, 4, 5, 6, 7] _ (by kernel_rfl) (.inl rfl) ?_
      refine ⟨.bool false, fun _ h_ => rk (run_pick_f rfl (h_.d 2 56) rfl), ?_⟩
      intro a15 hput
      replace s2 := hput.o 2 s2
      replace s4 := hput.o 4 s4
      replace s5 := hput.o 5 s5
      replace s6 := hput.o 6 s6
      have s62 : sl a15 62 = .bool false := hput.new 8 62 rfl
      replace hz := hput.size.trans hz
      replace hd := hput.defers.trans hd
      clear hput s1
      change Code.wp _ _ _ _ _
      refine wp_cond_false s62 ?_
      refine wp_skip ?_
      change Code.wp _ _ _ _ _
      refine wp_seq ?_
      refine wp_seq ?_
      refine seq_l [] hz ?_
      refine ⟨pt g3 19, fun _ h_ => rk (fa 19 rfl (h_.b 2 s2)),
       .bool true, fun _ h_ => rk (ld hS12 2 rfl (h_.d 0 64)),
       .bool false, fun _ h_ => rk (run_not rfl (h_.d 1 65) rfl),
       .bool false, fun _ h_ => rmv (h_.d 2 66), ?_⟩
      refine seq_off (j := 3) (d := 67) (b := true) [4, 5, 6] _ (by kernel_rfl) (.inl rfl) ?_
      refine ⟨.bool false, fun _ h_ => rk (run_pick_f rfl (h_.d 3 67) rfl), ?_⟩
      intro a16 hput
      replace s2 := hput.o 2 s2
      replace s4 := hput.o 4 s4
      replace s5 := hput.o 5 s5
      replace s6 := hput.o 6 s6
      have s71 : sl a16 71 = .bool false := hput.new 7 71 rfl
      replace hz := hput.size.trans hz
      replace hd := hput.defers.trans hd
      clear hput s62
      change Code.wp _ _ _ _ _
      refine wp_cond_false s71 ?_
      refine wp_skip ?_
      change Code.wp _ _ _ _ _
      refine wp_seq ?_
      refine seq_l [] hz ?_
      refine ⟨pt g3 20, fun _ h_ => rk (fa 20 rfl (h_.b 2 s2)),
       i6 m.last, fun _ h_ => rk (ld hS12 2 rfl (h_.d 0 74)),
       i6 m.last, fun _ h_ => ras (h_.d 1 75), ?_⟩
      intro a17 hput
      replace s2 := hput.o 2 s2
      replace s4 := hput.o 4 s4
      replace s5 := hput.o 5 s5
      replace s6 := hput.o 6 s6
      have s7 : sl a17 7 = i6 m.last := hput.new 2 7 rfl
      replace hz := hput.size.trans hz
      replace hd := hput.defers.trans hd
      clear hput s71
      change Code.wp _ _ _ _ _
      refine wp_seq ?_
      refine wp_seq ?_
      refine seq_l [] hz ?_
      refine ⟨pt g3 22, fun _ h_ => rk (fa 22 rfl (h_.b 2 s2)),
       .bool false, fun _ h_ => rk (ld hS12 2 rfl (h_.d 0 76)),
       .bool true, fun _ h_ => rk (run_not rfl (h_.d 1 77) rfl),
       .bool true, fun _ h_ => rmv (h_.d 2 78), ?_⟩
      refine seq_off (j := 3) (d := 79) (b := false) [4, 5, 6] _ (by kernel_rfl) (.inl rfl) ?_
      refine seq_off (j := 6) (d := 82) (b := true) [7, 8, 9, 10, 11, 12] _ (by kernel_rfl) (.inr rfl) ?_
      refine seq_off (j := 3) (d := 79) (b := false) [13] _ (by kernel_rfl) (.inl rfl) ?_
      refine ⟨.bool true, fun _ h_ => rk (run_pick_t rfl (h_.d 3 79) rfl), ?_⟩
      intro a18 hput
      replace s2 := hput.o 2 s2
      replace s4 := hput.o 4 s4
      replace s5 := hput.o 5 s5
      replace s6 := hput.o 6 s6
      replace s7 := hput.o 7 s7
      have s90 : sl a18 90 = .bool true := hput.new 14 90 rfl
      replace hz := hput.size.trans hz
      replace hd := hput.defers.trans hd
      clear hput
      change Code.wp _ _ _ _ _
      refine wp_cond_true s90 ?_
      refine seq_l [] hz ?_
      refine ⟨pt g3 10, fun _ h_ => rk (fa 10 rfl (h_.b 2 s2)),
       pt g3 10, fun _ h_ => rk (fa 0 rfl (h_.d 0 91)),
       pt g3 14, fun _ h_ => rk (fa 4 rfl (h_.d 1 92)),
       i6 m.held.hd.seq, fun _ h_ => rk (ld hS12 2 rfl (h_.d 2 93)),
       i6 m.held.hd.seq, fun _ h_ => ras (h_.d 3 94), ?_⟩
      intro a19 hput
      replace s2 := hput.o 2 s2
      replace s4 := hput.o 4 s4
      replace s5 := hput.o 5 s5
      replace s6 := hput.o 6 s6
      replace s7 : sl a19 7 = i6 m.held.hd.seq := hput.new 4 7 rfl
      replace hz := hput.size.trans hz
      replace hd := hput.defers.trans hd
      clear hput s90
      change Code.wp _ _ _ _ _
      refine wp_seq ?_
      refine wp_seq ?_
      refine seq_l [] hz ?_
      refine ⟨i6 m.held.hd.seq, fun _ h_ => rmv (h_.b 7 s7),
       .bool (decide ((m.held.hd.seq : Int) < 2147483647)), fun _ h_ => rk (run_cmp rfl (h_.d 0 95) rfl rfl (by first | rfl | exact neq_dec _ _ | exact eq_dec _ _ | simp)), ?_⟩
      intro a20 hput
      replace s2 := hput.o 2 s2
      replace s4 := hput.o 4 s4
      replace s5 := hput.o 5 s5
      replace s6 := hput.o 6 s6
      replace s7 := hput.o 7 s7
      have s96 : sl a20 96 = .bool (decide ((m.held.hd.seq : Int) < 2147483647)) := hput.new 1 96 rfl
      replace hz := hput.size.trans hz
      replace hd := hput.defers.trans hd
      clear hput
      change Code.wp _ _ _ _ _
      refine wp_cond_d s96 (fun hc96 => ?_) (fun hc96 => ?_)
      · clear s96
        refine wp_seq ?_
        refine seq_l [3, 4] hz ?_
        refine ⟨.agg #[i6 m.want.hd.age, i6 m.want.hd.kind, i6 m.want.hd.id, i6 m.want.hd.adv, i6 m.want.hd.seq, i6 m.want.hd.sum, i6 m.want.hd.long, .slice p.A m.want.links.length p.c, .slice p.B m.want.mem.length p.d, .bool true, i6 m.held.hd.age, i6 m.held.hd.kind, i6 m.held.hd.id, i6 m.held.hd.adv, i6 m.held.hd.seq, i6 m.held.hd.sum, i6 m.held.hd.long, .slice q.A m.held.links.length q.c, .slice q.B m.held.mem.length q.d, .bool true, i6 m.last, i6 m.at_, .bool false], fun _ h_ => rk (lbS 23 (hS12.blk (i := 2) rfl) rfl (h_.b 2 s2)),
         i6 m.held.hd.seq, fun _ h_ => rmv (h_.b 7 s7),
         i6 (m.held.hd.seq + 1), fun _ h_ => rk (run_addI rfl (h_.d 1 98) rfl (by omega) rfl), ?_⟩
        refine ⟨fun a_ h_ => st_call (on_none rfl) (run_call rfl (map2 (h_.d 0 97) (h_.d 2 99)) rfl) (told19_any ({ m with wanted := true, is_ := true, ever := false } : MV) p q (m.held.hd.seq + 1) _ hw1 hw2 hh1 hh2 (⟨(hok.below (hS12.old (by simp))).want, (hok.below (hS12.old (by simp))).held⟩ : MOK _ ({ m with wanted := true, is_ := true, ever := false } : MV) p q)) ?_, trivial⟩
        rintro e w22 ⟨q22, rfl, hO, hb22⟩
        refine ⟨_, rfl, _, rfl, ?_⟩
        clear h_ a_
        have hS22 := hS12.pushLB (hS12.old (by simp)).size hb22 hO
        clear hO hb22 hS12
        refine ⟨fun a_ h_ => st_store (n := 10) (cells := #[i6 ((tellF ({ m with wanted := true, is_ := true, ever := false } : MV) (m.held.hd.seq + 1)).hd.age), i6 ((tellF ({ m with wanted := true, is_ := true, ever := false } : MV) (m.held.hd.seq + 1)).hd.kind), i6 ((tellF ({ m with wanted := true, is_ := true, ever := false } : MV) (m.held.hd.seq + 1)).hd.id), i6 ((tellF ({ m with wanted := true, is_ := true, ever := false } : MV) (m.held.hd.seq + 1)).hd.adv), i6 ((tellF ({ m with wanted := true, is_ := true, ever := false } : MV) (m.held.hd.seq + 1)).hd.seq), i6 ((tellF ({ m with wanted := true, is_ := true, ever := false } : MV) (m.held.hd.seq + 1)).hd.sum), i6 ((tellF ({ m with wanted := true, is_ := true, ever := false } : MV) (m.held.hd.seq + 1)).hd.long), .slice q22.A ((tellF ({ m with wanted := true, is_ := true, ever := false } : MV) (m.held.hd.seq + 1)).links.length) q22.c, .slice q22.B ((tellF ({ m with wanted := true, is_ := true, ever := false } : MV) (m.held.hd.seq + 1)).mem.length) q22.d, i6 1]) (cs' := #[i6 ((tellF ({ m with wanted := true, is_ := true, ever := false } : MV) (m.held.hd.seq + 1)).hd.age), i6 ((tellF ({ m with wanted := true, is_ := true, ever := false } : MV) (m.held.hd.seq + 1)).hd.kind), i6 ((tellF ({ m with wanted := true, is_ := true, ever := false } : MV) (m.held.hd.seq + 1)).hd.id), i6 ((tellF ({ m with wanted := true, is_ := true, ever := false } : MV) (m.held.hd.seq + 1)).hd.adv), i6 ((tellF ({ m with wanted := true, is_ := true, ever := false } : MV) (m.held.hd.seq + 1)).hd.seq), i6 ((tellF ({ m with wanted := true, is_ := true, ever := false } : MV) (m.held.hd.seq + 1)).hd.sum), i6 ((tellF ({ m with wanted := true, is_ := true, ever := false } : MV) (m.held.hd.seq + 1)).hd.long), .slice q22.A ((tellF ({ m with wanted := true, is_ := true, ever := false } : MV) (m.held.hd.seq + 1)).links.length) q22.c, .slice q22.B ((tellF ({ m with wanted := true, is_ := true, ever := false } : MV) (m.held.hd.seq + 1)).mem.length) q22.d, i6 1]) 1 hS22 rfl (on_none rfl) rfl (h_.b 4 s4) (h_.d 3 100) rfl (by kernel_rfl) ⟨Nat.le_of_ble_eq_true rfl, rfl, by kernel_rfl⟩ rfl fun w23 hS23 he23 => ⟨_, rfl, ?_⟩, trivial⟩
        clear h_ a_ he23 hS22
        replace hS23 : S (kap W) ((blkA g7 36 #[i6 ((withF m.held 60 m.held.hd.seq).hd.age), i6 ((withF m.held 60 m.held.hd.seq).hd.kind), i6 ((withF m.held 60 m.held.hd.seq).hd.id), i6 ((withF m.held 60 m.held.hd.seq).hd.adv), i6 ((withF m.held 60 m.held.hd.seq).hd.seq), i6 ((withF m.held 60 m.held.hd.seq).hd.sum), i6 ((withF m.held 60 m.held.hd.seq).hd.long), .slice q6.A ((withF m.held 60 m.held.hd.seq).links.length) q6.c, .slice q6.B ((withF m.held 60 m.held.hd.seq).mem.length) q6.d, i6 2]) :: (blkA g4 36 #[i6 ((tellF ({ m with wanted := true, is_ := true, ever := false } : MV) (m.held.hd.seq + 1)).hd.age), i6 ((tellF ({ m with wanted := true, is_ := true, ever := false } : MV) (m.held.hd.seq + 1)).hd.kind), i6 ((tellF ({ m with wanted := true, is_ := true, ever := false } : MV) (m.held.hd.seq + 1)).hd.id), i6 ((tellF ({ m with wanted := true, is_ := true, ever := false } : MV) (m.held.hd.seq + 1)).hd.adv), i6 ((tellF ({ m with wanted := true, is_ := true, ever := false } : MV) (m.held.hd.seq + 1)).hd.seq), i6 ((tellF ({ m with wanted := true, is_ := true, ever := false } : MV) (m.held.hd.seq + 1)).hd.sum), i6 ((tellF ({ m with wanted := true, is_ := true, ever := false } : MV) (m.held.hd.seq + 1)).hd.long), .slice q22.A ((tellF ({ m with wanted := true, is_ := true, ever := false } : MV) (m.held.hd.seq + 1)).links.length) q22.c, .slice q22.B ((tellF ({ m with wanted := true, is_ := true, ever := false } : MV) (m.held.hd.seq + 1)).mem.length) q22.d, i6 1]) :: (blkA g3 29 #[i6 m.want.hd.age, i6 m.want.hd.kind, i6 m.want.hd.id, i6 m.want.hd.adv, i6 m.want.hd.seq, i6 m.want.hd.sum, i6 m.want.hd.long, .slice p.A m.want.links.length p.c, .slice p.B m.want.mem.length p.d, .bool true, i6 m.held.hd.age, i6 m.held.hd.kind, i6 m.held.hd.id, i6 m.held.hd.adv, i6 m.held.hd.seq, i6 m.held.hd.sum, i6 m.held.hd.long, .slice q.A m.held.links.length q.c, .slice q.B m.held.mem.length q.d, .bool true, i6 m.last, i6 m.at_, .bool false]) :: []) ((rowB W.heap.size (.slice q22.A (tellF ({ m with wanted := true, is_ := true, ever := false } : MV) (m.held.hd.seq + 1)).links.length q22.c) 69 4 (tellF ({ m with wanted := true, is_ := true, ever := false } : MV) (m.held.hd.seq + 1)).links.length (rowC Lk.cells (tellF ({ m with wanted := true, is_ := true, ever := false } : MV) (m.held.hd.seq + 1)).links)) :: (rowB W.heap.size (.slice q22.B (tellF ({ m with wanted := true, is_ := true, ever := false } : MV) (m.held.hd.seq + 1)).mem.length q22.d) 3 1 (tellF ({ m with wanted := true, is_ := true, ever := false } : MV) (m.held.hd.seq + 1)).mem.length (ints (tellF ({ m with wanted := true, is_ := true, ever := false } : MV) (m.held.hd.seq + 1)).mem)) :: (rowB W.heap.size (.slice q6.A (withF m.held 60 m.held.hd.seq).links.length q6.c) 69 4 (withF m.held 60 m.held.hd.seq).links.length (rowC Lk.cells (withF m.held 60 m.held.hd.seq).links)) :: (rowB W.heap.size (.slice q6.B (withF m.held 60 m.held.hd.seq).mem.length q6.d) 3 1 (withF m.held 60 m.held.hd.seq).mem.length (ints (withF m.held 60 m.held.hd.seq).mem)) :: (memA W W.heap.size) :: []) w23 := hS23
        intro a21 hput
        replace s2 := hput.o 2 s2
        replace s4 := hput.o 4 s4
        replace s5 := hput.o 5 s5
        replace s6 := hput.o 6 s6
        replace hz := hput.size.trans hz
        replace hd := hput.defers.trans hd
        clear hput s7
        change Code.wp _ _ _ _ _
        refine wp_ret ?_
        refine retC (P := Try.prog) (fn := Try.f12) hd s4 (hS23.blk (i := 1) rfl) (hR_ _ _ ?_) Try.underlying36
        have hf : planF ({ m with wanted := true, is_ := true, ever := false } : MV) now = ((tellF ({ m with wanted := true, is_ := true, ever := false } : MV) (m.held.hd.seq + 1)), 1) := by simp only [planF, restF, livesF, numberF, flushF, withF] <;> first | rfl | (simp_all; done) | (simp_all; omega) | grind
        rw [hf]
        exact ⟨q22, rfl, lown_of (l := (tellF ({ m with wanted := true, is_ := true, ever := false } : MV) (m.held.hd.seq + 1))) hS23 0, (hS23.old (by simp))⟩
      · clear s96
        refine wp_skip ?_
        change Code.wp _ _ _ _ _
        refine wp_seq ?_
        refine wp_seq ?_
        refine seq_l [] hz ?_
        refine ⟨.bool (decide ((m.held.hd.age : Int) ≠ 60)), fun _ h_ => rmv (h_.b 6 s6), ?_⟩
        intro a24 hput
        replace s2 := hput.o 2 s2
        replace s4 := hput.o 4 s4
        replace s5 := hput.o 5 s5
        have s101 : sl a24 101 = .bool (decide ((m.held.hd.age : Int) ≠ 60)) := hput.new 0 101 rfl
        replace hz := hput.size.trans hz
        replace hd := hput.defers.trans hd
        clear hput s6 s7
        change Code.wp _ _ _ _ _
        refine wp_cond_d s101 (fun hc101 => ?_) (fun hc101 => ?_)
        · clear s101
          refine wp_seq ?_
          refine seq_l [1] hz ?_
          refine ⟨.agg #[i6 ((withF m.held 60 m.held.hd.seq).hd.age), i6 ((withF m.held 60 m.held.hd.seq).hd.kind), i6 ((withF m.held 60 m.held.hd.seq).hd.id), i6 ((withF m.held 60 m.held.hd.seq).hd.adv), i6 ((withF m.held 60 m.held.hd.seq).hd.seq), i6 ((withF m.held 60 m.held.hd.seq).hd.sum), i6 ((withF m.held 60 m.held.hd.seq).hd.long), .slice q6.A ((withF m.held 60 m.held.hd.seq).links.length) q6.c, .slice q6.B ((withF m.held 60 m.held.hd.seq).mem.length) q6.d, i6 2], fun _ h_ => rk (lbS 10 (hS12.blk (i := 0) rfl) rfl (h_.b 5 s5)), ?_⟩
          refine ⟨fun a_ h_ => st_store (n := 10) (cells := #[i6 ((withF m.held 60 m.held.hd.seq).hd.age), i6 ((withF m.held 60 m.held.hd.seq).hd.kind), i6 ((withF m.held 60 m.held.hd.seq).hd.id), i6 ((withF m.held 60 m.held.hd.seq).hd.adv), i6 ((withF m.held 60 m.held.hd.seq).hd.seq), i6 ((withF m.held 60 m.held.hd.seq).hd.sum), i6 ((withF m.held 60 m.held.hd.seq).hd.long), .slice q6.A ((withF m.held 60 m.held.hd.seq).links.length) q6.c, .slice q6.B ((withF m.held 60 m.held.hd.seq).mem.length) q6.d, i6 2]) (cs' := #[i6 ((withF m.held 60 m.held.hd.seq).hd.age), i6 ((withF m.held 60 m.held.hd.seq).hd.kind), i6 ((withF m.held 60 m.held.hd.seq).hd.id), i6 ((withF m.held 60 m.held.hd.seq).hd.adv), i6 ((withF m.held 60 m.held.hd.seq).hd.seq), i6 ((withF m.held 60 m.held.hd.seq).hd.sum), i6 ((withF m.held 60 m.held.hd.seq).hd.long), .slice q6.A ((withF m.held 60 m.held.hd.seq).links.length) q6.c, .slice q6.B ((withF m.held 60 m.held.hd.seq).mem.length) q6.d, i6 2]) 1 hS12 rfl (on_none rfl) rfl (h_.b 4 s4) (h_.d 0 102) rfl (by kernel_rfl) ⟨Nat.le_of_ble_eq_true rfl, rfl, by kernel_rfl⟩ rfl fun w26 hS26 he26 => ⟨_, rfl, ?_⟩, trivial⟩
          clear h_ a_ he26 hS12
          replace hS26 : S (kap W) ((blkA g7 36 #[i6 ((withF m.held 60 m.held.hd.seq).hd.age), i6 ((withF m.held 60 m.held.hd.seq).hd.kind), i6 ((withF m.held 60 m.held.hd.seq).hd.id), i6 ((withF m.held 60 m.held.hd.seq).hd.adv), i6 ((withF m.held 60 m.held.hd.seq).hd.seq), i6 ((withF m.held 60 m.held.hd.seq).hd.sum), i6 ((withF m.held 60 m.held.hd.seq).hd.long), .slice q6.A ((withF m.held 60 m.held.hd.seq).links.length) q6.c, .slice q6.B ((withF m.held 60 m.held.hd.seq).mem.length) q6.d, i6 2]) :: (blkA g4 36 #[i6 ((withF m.held 60 m.held.hd.seq).hd.age), i6 ((withF m.held 60 m.held.hd.seq).hd.kind), i6 ((withF m.held 60 m.held.hd.seq).hd.id), i6 ((withF m.held 60 m.held.hd.seq).hd.adv), i6 ((withF m.held 60 m.held.hd.seq).hd.seq), i6 ((withF m.held 60 m.held.hd.seq).hd.sum), i6 ((withF m.held 60 m.held.hd.seq).hd.long), .slice q6.A ((withF m.held 60 m.held.hd.seq).links.length) q6.c, .slice q6.B ((withF m.held 60 m.held.hd.seq).mem.length) q6.d, i6 2]) :: (blkA g3 29 #[i6 m.want.hd.age, i6 m.want.hd.kind, i6 m.want.hd.id, i6 m.want.hd.adv, i6 m.want.hd.seq, i6 m.want.hd.sum, i6 m.want.hd.long, .slice p.A m.want.links.length p.c, .slice p.B m.want.mem.length p.d, .bool true, i6 m.held.hd.age, i6 m.held.hd.kind, i6 m.held.hd.id, i6 m.held.hd.adv, i6 m.held.hd.seq, i6 m.held.hd.sum, i6 m.held.hd.long, .slice q.A m.held.links.length q.c, .slice q.B m.held.mem.length q.d, .bool true, i6 m.last, i6 m.at_, .bool false]) :: []) ((rowB W.heap.size (.slice q6.A (withF m.held 60 m.held.hd.seq).links.length q6.c) 69 4 (withF m.held 60 m.held.hd.seq).links.length (rowC Lk.cells (withF m.held 60 m.held.hd.seq).links)) :: (rowB W.heap.size (.slice q6.B (withF m.held 60 m.held.hd.seq).mem.length q6.d) 3 1 (withF m.held 60 m.held.hd.seq).mem.length (ints (withF m.held 60 m.held.hd.seq).mem)) :: (memA W W.heap.size) :: []) w26 := hS26
          intro a25 hput
          replace s2 := hput.o 2 s2
          replace s4 := hput.o 4 s4
          replace hz := hput.size.trans hz
          replace hd := hput.defers.trans hd
          clear hput s5
          change Code.wp _ _ _ _ _
          refine wp_ret ?_
          refine retC (P := Try.prog) (fn := Try.f12) hd s4 (hS26.blk (i := 1) rfl) (hR_ _ _ ?_) Try.underlying36
          have hf : planF ({ m with wanted := true, is_ := true, ever := false } : MV) now = ((withF m.held 60 m.held.hd.seq), 2) := by simp only [planF, restF, livesF, numberF, flushF, withF] <;> first | rfl | (simp_all; done) | (simp_all; omega) | grind
          rw [hf]
          exact ⟨q6, rfl, lown_of (l := (withF m.held 60 m.held.hd.seq)) hS26 0, (hS26.old (by simp))⟩
        · clear s101
          refine wp_skip ?_
          change Code.wp _ _ _ _ _
          refine wp_seq ?_
          refine wp_seq ?_
          refine seq_l [] hz ?_
          refine ⟨pt g3 19, fun _ h_ => rk (fa 19 rfl (h_.b 2 s2)),
           .bool true, fun _ h_ => rk (ld hS12 2 rfl (h_.d 0 103)), ?_⟩
          intro a27 hput
          replace s2 := hput.o 2 s2
          replace s4 := hput.o 4 s4
          have s104 : sl a27 104 = .bool true := hput.new 1 104 rfl
          replace hz := hput.size.trans hz
          replace hd := hput.defers.trans hd
          clear hput s5
          change Code.wp _ _ _ _ _
          refine wp_cond_true s104 ?_
          refine wp_seq ?_
          refine seq_l [1] hz ?_
          refine ⟨.agg #[i6 0, i6 0, i6 0, i6 0, i6 0, i6 0, i6 0, .slice none 0 0, .slice none 0 0, i6 3], fun _ h_ => rk (run_build (vals := #[(1, i6 3)]) (r := .agg #[i6 0, i6 0, i6 0, i6 0, i6 0, i6 0, i6 0, .slice none 0 0, .slice none 0 0, i6 3]) rfl (bp1 rfl) (by kernel_rfl)), ?_⟩
          refine ⟨fun a_ h_ => st_store (n := 10) (cells := #[i6 0, i6 0, i6 0, i6 0, i6 0, i6 0, i6 0, .slice none 0 0, .slice none 0 0, i6 3]) (cs' := #[i6 0, i6 0, i6 0, i6 0, i6 0, i6 0, i6 0, .slice none 0 0, .slice none 0 0, i6 3]) 1 hS12 rfl (on_none rfl) rfl (h_.b 4 s4) (h_.d 0 105) rfl (by kernel_rfl) ⟨Nat.le_of_ble_eq_true rfl, rfl, by kernel_rfl⟩ rfl fun w29 hS29 he29 => ⟨_, rfl, ?_⟩, trivial⟩
          clear h_ a_ he29 hS12
          replace hS29 : S (kap W) ((blkA g7 36 #[i6 ((withF m.held 60 m.held.hd.seq).hd.age), i6 ((withF m.held 60 m.held.hd.seq).hd.kind), i6 ((withF m.held 60 m.held.hd.seq).hd.id), i6 ((withF m.held 60 m.held.hd.seq).hd.adv), i6 ((withF m.held 60 m.held.hd.seq).hd.seq), i6 ((withF m.held 60 m.held.hd.seq).hd.sum), i6 ((withF m.held 60 m.held.hd.seq).hd.long), .slice q6.A ((withF m.held 60 m.held.hd.seq).links.length) q6.c, .slice q6.B ((withF m.held 60 m.held.hd.seq).mem.length) q6.d, i6 2]) :: (blkA g4 36 #[i6 0, i6 0, i6 0, i6 0, i6 0, i6 0, i6 0, .slice none 0 0, .slice none 0 0, i6 3]) :: (blkA g3 29 #[i6 m.want.hd.age, i6 m.want.hd.kind, i6 m.want.hd.id, i6 m.want.hd.adv, i6 m.want.hd.seq, i6 m.want.hd.sum, i6 m.want.hd.long, .slice p.A m.want.links.length p.c, .slice p.B m.want.mem.length p.d, .bool true, i6 m.held.hd.age, i6 m.held.hd.kind, i6 m.held.hd.id, i6 m.held.hd.adv, i6 m.held.hd.seq, i6 m.held.hd.sum, i6 m.held.hd.long, .slice q.A m.held.links.length q.c, .slice q.B m.held.mem.length q.d, .bool true, i6 m.last, i6 m.at_, .bool false]) :: []) ((rowB W.heap.size (.slice q6.A (withF m.held 60 m.held.hd.seq).links.length q6.c) 69 4 (withF m.held 60 m.held.hd.seq).links.length (rowC Lk.cells (withF m.held 60 m.held.hd.seq).links)) :: (rowB W.heap.size (.slice q6.B (withF m.held 60 m.held.hd.seq).mem.length q6.d) 3 1 (withF m.held 60 m.held.hd.seq).mem.length (ints (withF m.held 60 m.held.hd.seq).mem)) :: (memA W W.heap.size) :: []) w29 := hS29
          intro a28 hput
          replace s2 := hput.o 2 s2
          replace s4 := hput.o 4 s4
          replace hz := hput.size.trans hz
          replace hd := hput.defers.trans hd
          clear hput s104
          change Code.wp _ _ _ _ _
          refine wp_ret ?_
          refine retC (P := Try.prog) (fn := Try.f12) hd s4 (hS29.blk (i := 1) rfl) (hR_ _ _ ?_) Try.underlying36
          have hf : planF ({ m with wanted := true, is_ := true, ever := false } : MV) now = ((default : LV), 3) := by simp only [planF, restF, livesF, numberF, flushF, withF] <;> first | rfl | (simp_all; done) | (simp_all; omega) | grind
          rw [hf]
          exact ⟨⟨none, 0, none, 0⟩, rfl, LOwn.none_ _ _, (hS29.old (by simp))⟩
  · rw [he]
    clear he
    refine seq_off (j := 13) (d := 45) (b := true) [14, 15, 16, 17] _ (by kernel_rfl) (.inl rfl) ?_
    refine seq_offe (j := 13) (d := 45) (b := true) (by kernel_rfl) (.inl rfl) ?_
    refine ⟨.bool false, fun _ h_ => r_ok (h_.on 3 35) (run_pick_f rfl (h_.d 13 45) rfl),
     .bool false, fun _ h_ => rk (run_pick_f rfl (h_.d 3 35) (h_.d 19 51)), ?_⟩
    intro a11 hput
    replace s1 := hput.o 1 s1
    replace s2 := hput.o 2 s2
    replace s4 := hput.o 4 s4
    replace s5 := hput.o 5 s5
    replace s6 := hput.o 6 s6
    have s52 : sl a11 52 = .bool false := hput.new 20 52 rfl
    replace hz := hput.size.trans hz
    replace hd := hput.defers.trans hd
    clear hput s30
    change Code.wp _ _ _ _ _
    refine wp_cond_false s52 ?_
    refine wp_skip ?_
    change Code.wp _ _ _ _ _
    refine wp_seq ?_
    refine wp_seq ?_
    refine seq_l [] hz ?_
    refine ⟨pt g3 22, fun _ h_ => rk (fa 22 rfl (h_.b 2 s2)),
     .bool false, fun _ h_ => rk (ld hS8 2 rfl (h_.d 0 54)),
     .bool false, fun _ h_ => rmv (h_.d 1 55), ?_⟩
    refine seq_off (j := 2) (d := 56) (b := true) [3, 4, 5, 6, 7] _ (by kernel_rfl) (.inl rfl) ?_
    refine ⟨.bool false, fun _ h_ => rk (run_pick_f rfl (h_.d 2 56) rfl), ?_⟩
    intro a30 hput
    replace s2 := hput.o 2 s2
    replace s4 := hput.o 4 s4
    replace s5 := hput.o 5 s5
    replace s6 := hput.o 6 s6
    have s62 : sl a30 62 = .bool false := hput.new 8 62 rfl
    replace hz := hput.size.trans hz
    replace hd := hput.defers.trans hd
    clear hput s1 s52
    change Code.wp _ _ _ _ _
    refine wp_cond_false s62 ?_
    refine wp_skip ?_
    change Code.wp _ _ _ _ _
    refine wp_seq ?_
    refine wp_seq ?_
    refine seq_l [] hz ?_
    refine ⟨pt g3 19, fun _ h_ => rk (fa 19 rfl (h_.b 2 s2)),
     .bool true, fun _ h_ => rk (ld hS8 2 rfl (h_.d 0 64)),
     .bool false, fun _ h_ => rk (run_not rfl (h_.d 1 65) rfl),
     .bool false, fun _ h_ => rmv (h_.d 2 66), ?_⟩
    refine seq_off (j := 3) (d := 67) (b := true) [4, 5, 6] _ (by kernel_rfl) (.inl rfl) ?_
    refine ⟨.bool false, fun _ h_ => rk (run_pick_f rfl (h_.d 3 67) rfl), ?_⟩
    intro a31 hput
    replace s2 := hput.o 2 s2
    replace s4 := hput.o 4 s4
    replace s5 := hput.o 5 s5
    replace s6 := hput.o 6 s6
    have s71 : sl a31 71 = .bool false := hput.new 7 71 rfl
    replace hz := hput.size.trans hz
    replace hd := hput.defers.trans hd
    clear hput s62
    change Code.wp _ _ _ _ _
    refine wp_cond_false s71 ?_
    refine wp_skip ?_
    change Code.wp _ _ _ _ _
    refine wp_seq ?_
    refine seq_l [] hz ?_
    refine ⟨pt g3 20, fun _ h_ => rk (fa 20 rfl (h_.b 2 s2)),
     i6 m.last, fun _ h_ => rk (ld hS8 2 rfl (h_.d 0 74)),
     i6 m.last, fun _ h_ => ras (h_.d 1 75), ?_⟩
    intro a32 hput
    replace s2 := hput.o 2 s2
    replace s4 := hput.o 4 s4
    replace s5 := hput.o 5 s5
    replace s6 := hput.o 6 s6
    have s7 : sl a32 7 = i6 m.last := hput.new 2 7 rfl
    replace hz := hput.size.trans hz
    replace hd := hput.defers.trans hd
    clear hput s71
    change Code.wp _ _ _ _ _
    refine wp_seq ?_
    refine wp_seq ?_
    refine seq_l [] hz ?_
    refine ⟨pt g3 22, fun _ h_ => rk (fa 22 rfl (h_.b 2 s2)),
     .bool false, fun _ h_ => rk (ld hS8 2 rfl (h_.d 0 76)),
     .bool true, fun _ h_ => rk (run_not rfl (h_.d 1 77) rfl),
     .bool true, fun _ h_ => rmv (h_.d 2 78), ?_⟩
    refine seq_off (j := 3) (d := 79) (b := false) [4, 5, 6] _ (by kernel_rfl) (.inl rfl) ?_
    refine seq_off (j := 6) (d := 82) (b := true) [7, 8, 9, 10, 11, 12] _ (by kernel_rfl) (.inr rfl) ?_
    refine seq_off (j := 3) (d := 79) (b := false) [13] _ (by kernel_rfl) (.inl rfl) ?_
    refine ⟨.bool true, fun _ h_ => rk (run_pick_t rfl (h_.d 3 79) rfl), ?_⟩
    intro a33 hput
    replace s2 := hput.o 2 s2
    replace s4 := hput.o 4 s4
    replace s5 := hput.o 5 s5
    replace s6 := hput.o 6 s6
    replace s7 := hput.o 7 s7
    have s90 : sl a33 90 = .bool true := hput.new 14 90 rfl
    replace hz := hput.size.trans hz
    replace hd := hput.defers.trans hd
    clear hput
    change Code.wp _ _ _ _ _
    refine wp_cond_true s90 ?_
    refine seq_l [] hz ?_
    refine ⟨pt g3 10, fun _ h_ => rk (fa 10 rfl (h_.b 2 s2)),
     pt g3 10, fun _ h_ => rk (fa 0 rfl (h_.d 0 91)),
     pt g3 14, fun _ h_ => rk (fa 4 rfl (h_.d 1 92)),
     i6 m.held.hd.seq, fun _ h_ => rk (ld hS8 2 rfl (h_.d 2 93)),
     i6 m.held.hd.seq, fun _ h_ => ras (h_.d 3 94), ?_⟩
    intro a34 hput
    replace s2 := hput.o 2 s2
    replace s4 := hput.o 4 s4
    replace s5 := hput.o 5 s5
    replace s6 := hput.o 6 s6
    replace s7 : sl a34 7 = i6 m.held.hd.seq := hput.new 4 7 rfl
    replace hz := hput.size.trans hz
    replace hd := hput.defers.trans hd
    clear hput s90
    change Code.wp _ _ _ _ _
    refine wp_seq ?_
    refine wp_seq ?_
    refine seq_l [] hz ?_
    refine ⟨i6 m.held.hd.seq, fun _ h_ => rmv (h_.b 7 s7),
     .bool (decide ((m.held.hd.seq : Int) < 2147483647)), fun _ h_ => rk (run_cmp rfl (h_.d 0 95) rfl rfl (by first | rfl | exact neq_dec _ _ | exact eq_dec _ _ | simp)), ?_⟩
    intro a35 hput
    replace s2 := hput.o 2 s2
    replace s4 := hput.o 4 s4
    replace s5 := hput.o 5 s5
    replace s6 := hput.o 6 s6
    replace s7 := hput.o 7 s7
    have s96 : sl a35 96 = .bool (decide ((m.held.hd.seq : Int) < 2147483647)) := hput.new 1 96 rfl
    replace hz := hput.size.trans hz
    replace hd := hput.defers.trans hd
    clear hput
    change Code.wp _ _ _ _ _
    refine wp_cond_d s96 (fun hc96 => ?_) (fun hc96 => ?_)
    · clear s96
      refine wp_seq ?_
      refine seq_l [3, 4] hz ?_
      refine ⟨.agg #[i6 m.want.hd.age, i6 m.want.hd.kind, i6 m.want.hd.id, i6 m.want.hd.adv, i6 m.want.hd.seq, i6 m.want.hd.sum, i6 m.want.hd.long, .slice p.A m.want.links.length p.c, .slice p.B m.want.mem.length p.d, .bool true, i6 m.held.hd.age, i6 m.held.hd.kind, i6 m.held.hd.id, i6 m.held.hd.adv, i6 m.held.hd.seq, i6 m.held.hd.sum, i6 m.held.hd.long, .slice q.A m.held.links.length q.c, .slice q.B m.held.mem.length q.d, .bool true, i6 m.last, i6 m.at_, .bool false], fun _ h_ => rk (lbS 23 (hS8.blk (i := 2) rfl) rfl (h_.b 2 s2)),
       i6 m.held.hd.seq, fun _ h_ => rmv (h_.b 7 s7),
       i6 (m.held.hd.seq + 1), fun _ h_ => rk (run_addI rfl (h_.d 1 98) rfl (by omega) rfl), ?_⟩
      refine ⟨fun a_ h_ => st_call (on_none rfl) (run_call rfl (map2 (h_.d 0 97) (h_.d 2 99)) rfl) (told19_any ({ m with wanted := true, is_ := true, ever := false } : MV) p q (m.held.hd.seq + 1) _ hw1 hw2 hh1 hh2 (⟨(hok.below (hS8.old (by simp))).want, (hok.below (hS8.old (by simp))).held⟩ : MOK _ ({ m with wanted := true, is_ := true, ever := false } : MV) p q)) ?_, trivial⟩
      rintro e w37 ⟨q37, rfl, hO, hb37⟩
      refine ⟨_, rfl, _, rfl, ?_⟩
      clear h_ a_
      have hS37 := hS8.pushLB (hS8.old (by simp)).size hb37 hO
      clear hO hb37 hS8
      refine ⟨fun a_ h_ => st_store (n := 10) (cells := #[i6 ((tellF ({ m with wanted := true, is_ := true, ever := false } : MV) (m.held.hd.seq + 1)).hd.age), i6 ((tellF ({ m with wanted := true, is_ := true, ever := false } : MV) (m.held.hd.seq + 1)).hd.kind), i6 ((tellF ({ m with wanted := true, is_ := true, ever := false } : MV) (m.held.hd.seq + 1)).hd.id), i6 ((tellF ({ m with wanted := true, is_ := true, ever := false } : MV) (m.held.hd.seq + 1)).hd.adv), i6 ((tellF ({ m with wanted := true, is_ := true, ever := false } : MV) (m.held.hd.seq + 1)).hd.seq), i6 ((tellF ({ m with wanted := true, is_ := true, ever := false } : MV) (m.held.hd.seq + 1)).hd.sum), i6 ((tellF ({ m with wanted := true, is_ := true, ever := false } : MV) (m.held.hd.seq + 1)).hd.long), .slice q37.A ((tellF ({ m with wanted := true, is_ := true, ever := false } : MV) (m.held.hd.seq + 1)).links.length) q37.c, .slice q37.B ((tellF ({ m with wanted := true, is_ := true, ever := false } : MV) (m.held.hd.seq + 1)).mem.length) q37.d, i6 1]) (cs' := #[i6 ((tellF ({ m with wanted := true, is_ := true, ever := false } : MV) (m.held.hd.seq + 1)).hd.age), i6 ((tellF ({ m with wanted := true, is_ := true, ever := false } : MV) (m.held.hd.seq + 1)).hd.kind), i6 ((tellF ({ m with wanted := true, is_ := true, ever := false } : MV) (m.held.hd.seq + 1)).hd.id), i6 ((tellF ({ m with wanted := true, is_ := true, ever := false } : MV) (m.held.hd.seq + 1)).hd.adv), i6 ((tellF ({ m with wanted := true, is_ := true, ever := false } : MV) (m.held.hd.seq + 1)).hd.seq), i6 ((tellF ({ m with wanted := true, is_ := true, ever := false } : MV) (m.held.hd.seq + 1)).hd.sum), i6 ((tellF ({ m with wanted := true, is_ := true, ever := false } : MV) (m.held.hd.seq + 1)).hd.long), .slice q37.A ((tellF ({ m with wanted := true, is_ := true, ever := false } : MV) (m.held.hd.seq + 1)).links.length) q37.c, .slice q37.B ((tellF ({ m with wanted := true, is_ := true, ever := false } : MV) (m.held.hd.seq + 1)).mem.length) q37.d, i6 1]) 1 hS37 rfl (on_none rfl) rfl (h_.b 4 s4) (h_.d 3 100) rfl (by kernel_rfl) ⟨Nat.le_of_ble_eq_true rfl, rfl, by kernel_rfl⟩ rfl fun w38 hS38 he38 => ⟨_, rfl, ?_⟩, trivial⟩
      clear h_ a_ he38 hS37
      replace hS38 : S (kap W) ((blkA g7 36 #[i6 ((withF m.held 60 m.held.hd.seq).hd.age), i6 ((withF m.held 60 m.held.hd.seq).hd.kind), i6 ((withF m.held 60 m.held.hd.seq).hd.id), i6 ((withF m.held 60 m.held.hd.seq).hd.adv), i6 ((withF m.held 60 m.held.hd.seq).hd.seq), i6 ((withF m.held 60 m.held.hd.seq).hd.sum), i6 ((withF m.held 60 m.held.hd.seq).hd.long), .slice q6.A ((withF m.held 60 m.held.hd.seq).links.length) q6.c, .slice q6.B ((withF m.held 60 m.held.hd.seq).mem.length) q6.d, i6 2]) :: (blkA g4 36 #[i6 ((tellF ({ m with wanted := true, is_ := true, ever := false } : MV) (m.held.hd.seq + 1)).hd.age), i6 ((tellF ({ m with wanted := true, is_ := true, ever := false } : MV) (m.held.hd.seq + 1)).hd.kind), i6 ((tellF ({ m with wanted := true, is_ := true, ever := false } : MV) (m.held.hd.seq + 1)).hd.id), i6 ((tellF ({ m with wanted := true, is_ := true, ever := false } : MV) (m.held.hd.seq + 1)).hd.adv), i6 ((tellF ({ m with wanted := true, is_ := true, ever := false } : MV) (m.held.hd.seq + 1)).hd.seq), i6 ((tellF ({ m with wanted := true, is_ := true, ever := false } : MV) (m.held.hd.seq + 1)).hd.sum), i6 ((tellF ({ m with wanted := true, is_ := true, ever := false } : MV) (m.held.hd.seq + 1)).hd.long), .slice q37.A ((tellF ({ m with wanted := true, is_ := true, ever := false } : MV) (m.held.hd.seq + 1)).links.length) q37.c, .slice q37.B ((tellF ({ m with wanted := true, is_ := true, ever := false } : MV) (m.held.hd.seq + 1)).mem.length) q37.d, i6 1]) :: (blkA g3 29 #[i6 m.want.hd.age, i6 m.want.hd.kind, i6 m.want.hd.id, i6 m.want.hd.adv, i6 m.want.hd.seq, i6 m.want.hd.sum, i6 m.want.hd.long, .slice p.A m.want.links.length p.c, .slice p.B m.want.mem.length p.d, .bool true, i6 m.held.hd.age, i6 m.held.hd.kind, i6 m.held.hd.id, i6 m.held.hd.adv, i6 m.held.hd.seq, i6 m.held.hd.sum, i6 m.held.hd.long, .slice q.A m.held.links.length q.c, .slice q.B m.held.mem.length q.d, .bool true, i6 m.last, i6 m.at_, .bool false]) :: []) ((rowB W.heap.size (.slice q37.A (tellF ({ m with wanted := true, is_ := true, ever := false } : MV) (m.held.hd.seq + 1)).links.length q37.c) 69 4 (tellF ({ m with wanted := true, is_ := true, ever := false } : MV) (m.held.hd.seq + 1)).links.length (rowC Lk.cells (tellF ({ m with wanted := true, is_ := true, ever := false } : MV) (m.held.hd.seq + 1)).links)) :: (rowB W.heap.size (.slice q37.B (tellF ({ m with wanted := true, is_ := true, ever := false } : MV) (m.held.hd.seq + 1)).mem.length q37.d) 3 1 (tellF ({ m with wanted := true, is_ := true, ever := false } : MV) (m.held.hd.seq + 1)).mem.length (ints (tellF ({ m with wanted := true, is_ := true, ever := false } : MV) (m.held.hd.seq + 1)).mem)) :: (rowB W.heap.size (.slice q6.A (withF m.held 60 m.held.hd.seq).links.length q6.c) 69 4 (withF m.held 60 m.held.hd.seq).links.length (rowC Lk.cells (withF m.held 60 m.held.hd.seq).links)) :: (rowB W.heap.size (.slice q6.B (withF m.held 60 m.held.hd.seq).mem.length q6.d) 3 1 (withF m.held 60 m.held.hd.seq).mem.length (ints (withF m.held 60 m.held.hd.seq).mem)) :: (memA W W.heap.size) :: []) w38 := hS38
      intro a36 hput
      replace s2 := hput.o 2 s2
      replace s4 := hput.o 4 s4
      replace s5 := hput.o 5 s5
      replace s6 := hput.o 6 s6
      replace hz := hput.size.trans hz
      replace hd := hput.defers.trans hd
      clear hput s7
      change Code.wp _ _ _ _ _
      refine wp_ret ?_
      refine retC (P := Try.prog) (fn := Try.f12) hd s4 (hS38.blk (i := 1) rfl) (hR_ _ _ ?_) Try.underlying36
      have hf : planF ({ m with wanted := true, is_ := true, ever := false } : MV) now = ((tellF ({ m with wanted := true, is_ := true, ever := false } : MV) (m.held.hd.seq + 1)), 1) := by simp only [planF, restF, livesF, numberF, flushF, withF] <;> first | rfl | (simp_all; done) | (simp_all; omega) | grind
      rw [hf]
      exact ⟨q37, rfl, lown_of (l := (tellF ({ m with wanted := true, is_ := true, ever := false } : MV) (m.held.hd.seq + 1))) hS38 0, (hS38.old (by simp))⟩
    · clear s96
      refine wp_skip ?_
      change Code.wp _ _ _ _ _
      refine wp_seq ?_
      refine wp_seq ?_
      refine seq_l [] hz ?_
      refine ⟨.bool (decide ((m.held.hd.age : Int) ≠ 60)), fun _ h_ => rmv (h_.b 6 s6), ?_⟩
      intro a39 hput
      replace s2 := hput.o 2 s2
      replace s4 := hput.o 4 s4
      replace s5 := hput.o 5 s5
      have s101 : sl a39 101 = .bool (decide ((m.held.hd.age : Int) ≠ 60)) := hput.new 0 101 rfl
      replace hz := hput.size.trans hz
      replace hd := hput.defers.trans hd
      clear hput s6 s7
      change Code.wp _ _ _ _ _
      refine wp_cond_d s101 (fun hc101 => ?_) (fun hc101 => ?_)
      · clear s101
        refine wp_seq ?_
        refine seq_l [1] hz ?_
        refine ⟨.agg #[i6 ((withF m.held 60 m.held.hd.seq).hd.age), i6 ((withF m.held 60 m.held.hd.seq).hd.kind), i6 ((withF m.held 60 m.held.hd.seq).hd.id), i6 ((withF m.held 60 m.held.hd.seq).hd.adv), i6 ((withF m.held 60 m.held.hd.seq).hd.seq), i6 ((withF m.held 60 m.held.hd.seq).hd.sum), i6 ((withF m.held 60 m.held.hd.seq).hd.long), .slice q6.A ((withF m.held 60 m.held.hd.seq).links.length) q6.c, .slice q6.B ((withF m.held 60 m.held.hd.seq).mem.length) q6.d, i6 2], fun _ h_ => rk (lbS 10 (hS8.blk (i := 0) rfl) rfl (h_.b 5 s5)), ?_⟩
        refine ⟨fun a_ h_ => st_store (n := 10) (cells := #[i6 ((withF m.held 60 m.held.hd.seq).hd.age), i6 ((withF m.held 60 m.held.hd.seq).hd.kind), i6 ((withF m.held 60 m.held.hd.seq).hd.id), i6 ((withF m.held 60 m.held.hd.seq).hd.adv), i6 ((withF m.held 60 m.held.hd.seq).hd.seq), i6 ((withF m.held 60 m.held.hd.seq).hd.sum), i6 ((withF m.held 60 m.held.hd.seq).hd.long), .slice q6.A ((withF m.held 60 m.held.hd.seq).links.length) q6.c, .slice q6.B ((withF m.held 60 m.held.hd.seq).mem.length) q6.d, i6 2]) (cs' := #[i6 ((withF m.held 60 m.held.hd.seq).hd.age), i6 ((withF m.held 60 m.held.hd.seq).hd.kind), i6 ((withF m.held 60 m.held.hd.seq).hd.id), i6 ((withF m.held 60 m.held.hd.seq).hd.adv), i6 ((withF m.held 60 m.held.hd.seq).hd.seq), i6 ((withF m.held 60 m.held.hd.seq).hd.sum), i6 ((withF m.held 60 m.held.hd.seq).hd.long), .slice q6.A ((withF m.held 60 m.held.hd.seq).links.length) q6.c, .slice q6.B ((withF m.held 60 m.held.hd.seq).mem.length) q6.d, i6 2]) 1 hS8 rfl (on_none rfl) rfl (h_.b 4 s4) (h_.d 0 102) rfl (by kernel_rfl) ⟨Nat.le_of_ble_eq_true rfl, rfl, by kernel_rfl⟩ rfl fun w41 hS41 he41 => ⟨_, rfl, ?_⟩, trivial⟩
        clear h_ a_ he41 hS8
        replace hS41 : S (kap W) ((blkA g7 36 #[i6 ((withF m.held 60 m.held.hd.seq).hd.age), i6 ((withF m.held 60 m.held.hd.seq).hd.kind), i6 ((withF m.held 60 m.held.hd.seq).hd.id), i6 ((withF m.held 60 m.held.hd.seq).hd.adv), i6 ((withF m.held 60 m.held.hd.seq).hd.seq), i6 ((withF m.held 60 m.held.hd.seq).hd.sum), i6 ((withF m.held 60 m.held.hd.seq).hd.long), .slice q6.A ((withF m.held 60 m.held.hd.seq).links.length) q6.c, .slice q6.B ((withF m.held 60 m.held.hd.seq).mem.length) q6.d, i6 2]) :: (blkA g4 36 #[i6 ((withF m.held 60 m.held.hd.seq).hd.age), i6 ((withF m.held 60 m.held.hd.seq).hd.kind), i6 ((withF m.held 60 m.held.hd.seq).hd.id), i6 ((withF m.held 60 m.held.hd.seq).hd.adv), i6 ((withF m.held 60 m.held.hd.seq).hd.seq), i6 ((withF m.held 60 m.held.hd.seq).hd.sum), i6 ((withF m.held 60 m.held.hd.seq).hd.long), .slice q6.A ((withF m.held 60 m.held.hd.seq).links.length) q6.c, .slice q6.B ((withF m.held 60 m.held.hd.seq).mem.length) q6.d, i6 2]) :: (blkA g3 29 #[i6 m.want.hd.age, i6 m.want.hd.kind, i6 m.want.hd.id, i6 m.want.hd.adv, i6 m.want.hd.seq, i6 m.want.hd.sum, i6 m.want.hd.long, .slice p.A m.want.links.length p.c, .slice p.B m.want.mem.length p.d, .bool true, i6 m.held.hd.age, i6 m.held.hd.kind, i6 m.held.hd.id, i6 m.held.hd.adv, i6 m.held.hd.seq, i6 m.held.hd.sum, i6 m.held.hd.long, .slice q.A m.held.links.length q.c, .slice q.B m.held.mem.length q.d, .bool true, i6 m.last, i6 m.at_, .bool false]) :: []) ((rowB W.heap.size (.slice q6.A (withF m.held 60 m.held.hd.seq).links.length q6.c) 69 4 (withF m.held 60 m.held.hd.seq).links.length (rowC Lk.cells (withF m.held 60 m.held.hd.seq).links)) :: (rowB W.heap.size (.slice q6.B (withF m.held 60 m.held.hd.seq).mem.length q6.d) 3 1 (withF m.held 60 m.held.hd.seq).mem.length (ints (withF m.held 60 m.held.hd.seq).mem)) :: (memA W W.heap.size) :: []) w41 := hS41
        intro a40 hput
        replace s2 := hput.o 2 s2
        replace s4 := hput.o 4 s4
        replace hz := hput.size.trans hz
        replace hd := hput.defers.trans hd
        clear hput s5
        change Code.wp _ _ _ _ _
        refine wp_ret ?_
        refine retC (P := Try.prog) (fn := Try.f12) hd s4 (hS41.blk (i := 1) rfl) (hR_ _ _ ?_) Try.underlying36
        have hf : planF ({ m with wanted := true, is_ := true, ever := false } : MV) now = ((withF m.held 60 m.held.hd.seq), 2) := by simp only [planF, restF, livesF, numberF, flushF, withF] <;> first | rfl | (simp_all; done) | (simp_all; omega) | grind
        rw [hf]
        exact ⟨q6, rfl, lown_of (l := (withF m.held 60 m.held.hd.seq)) hS41 0, (hS41.old (by simp))⟩
      · clear s101
        refine wp_skip ?_
        change Code.wp _ _ _ _ _
        refine wp_seq ?_
        refine wp_seq ?_
        refine seq_l [] hz ?_
        refine ⟨pt g3 19, fun _ h_ => rk (fa 19 rfl (h_.b 2 s2)),
         .bool true, fun _ h_ => rk (ld hS8 2 rfl (h_.d 0 103)), ?_⟩
        intro a42 hput
        replace s2 := hput.o 2 s2
        replace s4 := hput.o 4 s4
        have s104 : sl a42 104 = .bool true := hput.new 1 104 rfl
        replace hz := hput.size.trans hz
        replace hd := hput.defers.trans hd
        clear hput s5
        change Code.wp _ _ _ _ _
        refine wp_cond_true s104 ?_
        refine wp_seq ?_
        refine seq_l [1] hz ?_
        refine ⟨.agg #[i6 0, i6 0, i6 0, i6 0, i6 0, i6 0, i6 0, .slice none 0 0, .slice none 0 0, i6 3], fun _ h_ => rk (run_build (vals := #[(1, i6 3)]) (r := .agg #[i6 0, i6 0, i6 0, i6 0, i6 0, i6 0, i6 0, .slice none 0 0, .slice none 0 0, i6 3]) rfl (bp1 rfl) (by kernel_rfl)), ?_⟩
        refine ⟨fun a_ h_ => st_store (n := 10) (cells := #[i6 0, i6 0, i6 0, i6 0, i6 0, i6 0, i6 0, .slice none 0 0, .slice none 0 0, i6 3]) (cs' := #[i6 0, i6 0, i6 0, i6 0, i6 0, i6 0, i6 0, .slice none 0 0, .slice none 0 0, i6 3]) 1 hS8 rfl (on_none rfl) rfl (h_.b 4 s4) (h_.d 0 105) rfl (by kernel_rfl) ⟨Nat.le_of_ble_eq_true rfl, rfl, by kernel_rfl⟩ rfl fun w44 hS44 he44 => ⟨_, rfl, ?_⟩, trivial⟩
        clear h_ a_ he44 hS8
        replace hS44 : S (kap W) ((blkA g7 36 #[i6 ((withF m.held 60 m.held.hd.seq).hd.age), i6 ((withF m.held 60 m.held.hd.seq).hd.kind), i6 ((withF m.held 60 m.held.hd.seq).hd.id), i6 ((withF m.held 60 m.held.hd.seq).hd.adv), i6 ((withF m.held 60 m.held.hd.seq).hd.seq), i6 ((withF m.held 60 m.held.hd.seq).hd.sum), i6 ((withF m.held 60 m.held.hd.seq).hd.long), .slice q6.A ((withF m.held 60 m.held.hd.seq).links.length) q6.c, .slice q6.B ((withF m.held 60 m.held.hd.seq).mem.length) q6.d, i6 2]) :: (blkA g4 36 #[i6 0, i6 0, i6 0, i6 0, i6 0, i6 0, i6 0, .slice none 0 0, .slice none 0 0, i6 3]) :: (blkA g3 29 #[i6 m.want.hd.age, i6 m.want.hd.kind, i6 m.want.hd.id, i6 m.want.hd.adv, i6 m.want.hd.seq, i6 m.want.hd.sum, i6 m.want.hd.long, .slice p.A m.want.links.length p.c, .slice p.B m.want.mem.length p.d, .bool true, i6 m.held.hd.age, i6 m.held.hd.kind, i6 m.held.hd.id, i6 m.held.hd.adv, i6 m.held.hd.seq, i6 m.held.hd.sum, i6 m.held.hd.long, .slice q.A m.held.links.length q.c, .slice q.B m.held.mem.length q.d, .bool true, i6 m.last, i6 m.at_, .bool false]) :: []) ((rowB W.heap.size (.slice q6.A (withF m.held 60 m.held.hd.seq).links.length q6.c) 69 4 (withF m.held 60 m.held.hd.seq).links.length (rowC Lk.cells (withF m.held 60 m.held.hd.seq).links)) :: (rowB W.heap.size (.slice q6.B (withF m.held 60 m.held.hd.seq).mem.length q6.d) 3 1 (withF m.held 60 m.held.hd.seq).mem.length (ints (withF m.held 60 m.held.hd.seq).mem)) :: (memA W W.heap.size) :: []) w44 := hS44
        intro a43 hput
        replace s2 := hput.o 2 s2
        replace s4 := hput.o 4 s4
        replace hz := hput.size.trans hz
        replace hd := hput.defers.trans hd
        clear hput s104
        change Code.wp _ _ _ _ _
        refine wp_ret ?_
        refine retC (P := Try.prog) (fn := Try.f12) hd s4 (hS44.blk (i := 1) rfl) (hR_ _ _ ?_) Try.underlying36
        have hf : planF ({ m with wanted := true, is_ := true, ever := false } : MV) now = ((default : LV), 3) := by simp only [planF, restF, livesF, numberF, flushF, withF] <;> first | rfl | (simp_all; done) | (simp_all; omega) | grind
        rw [hf]
        exact ⟨⟨none, 0, none, 0⟩, rfl, LOwn.none_ _ _, (hS44.old (by simp))⟩
set_option maxRecDepth 100000 in
set_option maxHeartbeats 800000 in
theorem plan19_ttt (m : MV) (p q : LP) (now : Int) (W : World) (hn : -1099511627776 ≤ now ∧ now ≤ 1099511627776) (ha : -1099511627776 ≤ m.at_ ∧ m.at_ ≤ 1099511627776) (hl : -9223372036854775808 ≤ m.last) (hq : -9223372036854775808 ≤ m.held.hd.seq) (hw1 : m.want.links.length ≤ 20) (hw2 : m.want.mem.length ≤ 20) (hh1 : m.held.links.length ≤ 20) (hh2 : m.held.mem.length ≤ 20) (hok : MOK W m p q) :
    Calls Try.prog 12 #[.agg #[i6 m.want.hd.age, i6 m.want.hd.kind, i6 m.want.hd.id, i6 m.want.hd.adv, i6 m.want.hd.seq, i6 m.want.hd.sum, i6 m.want.hd.long, .slice p.A m.want.links.length p.c, .slice p.B m.want.mem.length p.d, .bool true, i6 m.held.hd.age, i6 m.held.hd.kind, i6 m.held.hd.id, i6 m.held.hd.adv, i6 m.held.hd.seq, i6 m.held.hd.sum, i6 m.held.hd.long, .slice q.A m.held.links.length q.c, .slice q.B m.held.mem.length q.d, .bool true, i6 m.last, i6 m.at_, .bool true], i6 now] W (fun r w' => ∃ q, r = .returned (.agg (doneA (planF ({ m with wanted := true, is_ := true, ever := true } : MV) now).1 q (planF ({ m with wanted := true, is_ := true, ever := true } : MV) now).2)) ∧ LOwn w' W.heap.size (planF ({ m with wanted := true, is_ := true, ever := true } : MV) now).1 q ∧ Below W.heap.size W w') := by
  have hS := S.start W
  refine calls_walk Try.func12 rfl fun R_ hR_ a hz hd hargs => ?_
  replace hz : a.tmps.size = 108 := hz.trans (by kernel_rfl)
  have s0 := hargs 0 _ rfl
  have s1 := hargs 1 _ rfl
  clear hargs
  refine wp_seq ?_
  refine seq_l [0, 1] hz ?_
  refine ⟨fun a_ h_ => st_box (cells := #[i6 m.want.hd.age, i6 m.want.hd.kind, i6 m.want.hd.id, i6 m.want.hd.adv, i6 m.want.hd.seq, i6 m.want.hd.sum, i6 m.want.hd.long, .slice p.A m.want.links.length p.c, .slice p.B m.want.mem.length p.d, .bool true, i6 m.held.hd.age, i6 m.held.hd.kind, i6 m.held.hd.id, i6 m.held.hd.adv, i6 m.held.hd.seq, i6 m.held.hd.sum, i6 m.held.hd.long, .slice q.A m.held.links.length q.c, .slice q.B m.held.mem.length q.d, .bool true, i6 m.last, i6 m.at_, .bool true]) hS (on_none rfl) rfl (h_.b 0 s0) (by kernel_rfl) fun g3 w3 hS3 hb3 => ⟨_, rfl, ?_⟩, trivial⟩
  clear h_ a_ hS
  clear hb3
  refine ⟨fun a_ h_ => st_alloc (cells := #[i6 0, i6 0, i6 0, i6 0, i6 0, i6 0, i6 0, .slice none 0 0, .slice none 0 0, i6 0]) hS3 (on_none rfl) rfl (by kernel_rfl) fun g4 w4 hS4 hb4 => ⟨_, rfl, ?_⟩, trivial⟩
  clear h_ a_ hS3
  clear hb4
  intro a2 hput
  replace s1 := hput.o 1 s1
  have s2 : sl a2 2 = pt g3 0 := hput.new 0 2 rfl
  have s4 : sl a2 4 = pt g4 0 := hput.new 1 4 rfl
  replace hz := hput.size.trans hz
  replace hd := hput.defers.trans hd
  clear hput s0
  change Code.wp _ _ _ _ _
  refine wp_seq ?_
  refine seq_l [6, 8, 9] hz ?_
  refine ⟨pt g3 10, fun _ h_ => rk (fa 10 rfl (h_.b 2 s2)),
   .agg #[i6 m.held.hd.age, i6 m.held.hd.kind, i6 m.held.hd.id, i6 m.held.hd.adv, i6 m.held.hd.seq, i6 m.held.hd.sum, i6 m.held.hd.long, .slice q.A m.held.links.length q.c, .slice q.B m.held.mem.length q.d], fun _ h_ => rk (lbS 9 (hS4.blk (i := 1) rfl) rfl (h_.d 0 8)),
   pt g3 10, fun _ h_ => rk (fa 10 rfl (h_.b 2 s2)),
   pt g3 10, fun _ h_ => rk (fa 0 rfl (h_.d 2 10)),
   pt g3 14, fun _ h_ => rk (fa 4 rfl (h_.d 3 11)),
   i6 m.held.hd.seq, fun _ h_ => rk (ld hS4 1 rfl (h_.d 4 12)), ?_⟩
  refine ⟨fun a_ h_ => st_call (on_none rfl) (run_call rfl (map3 (h_.d 1 9) rfl (h_.d 5 13)) rfl) (with19_any m.held q 60 m.held.hd.seq _ (by omega) (by omega) (hok.below (hS4.old (by simp))).held) ?_, trivial⟩
  rintro e w6 ⟨q6, rfl, hO, hb6⟩
  refine ⟨_, rfl, _, rfl, ?_⟩
  clear h_ a_
  have hS6 := hS4.pushLB (hS4.old (by simp)).size hb6 hO
  clear hO hb6 hS4
  refine ⟨.agg #[i6 ((withF m.held 60 m.held.hd.seq).hd.age), i6 ((withF m.held 60 m.held.hd.seq).hd.kind), i6 ((withF m.held 60 m.held.hd.seq).hd.id), i6 ((withF m.held 60 m.held.hd.seq).hd.adv), i6 ((withF m.held 60 m.held.hd.seq).hd.seq), i6 ((withF m.held 60 m.held.hd.seq).hd.sum), i6 ((withF m.held 60 m.held.hd.seq).hd.long), .slice q6.A ((withF m.held 60 m.held.hd.seq).links.length) q6.c, .slice q6.B ((withF m.held 60 m.held.hd.seq).mem.length) q6.d, i6 2], fun _ h_ => rk (run_build (vals := #[(0, .agg #[i6 ((withF m.held 60 m.held.hd.seq).hd.age), i6 ((withF m.held 60 m.held.hd.seq).hd.kind), i6 ((withF m.held 60 m.held.hd.seq).hd.id), i6 ((withF m.held 60 m.held.hd.seq).hd.adv), i6 ((withF m.held 60 m.held.hd.seq).hd.seq), i6 ((withF m.held 60 m.held.hd.seq).hd.sum), i6 ((withF m.held 60 m.held.hd.seq).hd.long), .slice q6.A ((withF m.held 60 m.held.hd.seq).links.length) q6.c, .slice q6.B ((withF m.held 60 m.held.hd.seq).mem.length) q6.d]), (1, i6 2)]) (r := .agg #[i6 ((withF m.held 60 m.held.hd.seq).hd.age), i6 ((withF m.held 60 m.held.hd.seq).hd.kind), i6 ((withF m.held 60 m.held.hd.seq).hd.id), i6 ((withF m.held 60 m.held.hd.seq).hd.adv), i6 ((withF m.held 60 m.held.hd.seq).hd.seq), i6 ((withF m.held 60 m.held.hd.seq).hd.sum), i6 ((withF m.held 60 m.held.hd.seq).hd.long), .slice q6.A ((withF m.held 60 m.held.hd.seq).links.length) q6.c, .slice q6.B ((withF m.held 60 m.held.hd.seq).mem.length) q6.d, i6 2]) rfl (bp2 (h_.d 6 14) rfl) (by kernel_rfl)), ?_⟩
  refine ⟨fun a_ h_ => st_alloc (cells := #[i6 0, i6 0, i6 0, i6 0, i6 0, i6 0, i6 0, .slice none 0 0, .slice none 0 0, i6 0]) hS6 (on_none rfl) rfl (by kernel_rfl) fun g7 w7 hS7 hb7 => ⟨_, rfl, ?_⟩, trivial⟩
  clear h_ a_ hS6
  clear hb7
  refine ⟨fun a_ h_ => st_store (n := 10) (cells := #[i6 ((withF m.held 60 m.held.hd.seq).hd.age), i6 ((withF m.held 60 m.held.hd.seq).hd.kind), i6 ((withF m.held 60 m.held.hd.seq).hd.id), i6 ((withF m.held 60 m.held.hd.seq).hd.adv), i6 ((withF m.held 60 m.held.hd.seq).hd.seq), i6 ((withF m.held 60 m.held.hd.seq).hd.sum), i6 ((withF m.held 60 m.held.hd.seq).hd.long), .slice q6.A ((withF m.held 60 m.held.hd.seq).links.length) q6.c, .slice q6.B ((withF m.held 60 m.held.hd.seq).mem.length) q6.d, i6 2]) (cs' := #[i6 ((withF m.held 60 m.held.hd.seq).hd.age), i6 ((withF m.held 60 m.held.hd.seq).hd.kind), i6 ((withF m.held 60 m.held.hd.seq).hd.id), i6 ((withF m.held 60 m.held.hd.seq).hd.adv), i6 ((withF m.held 60 m.held.hd.seq).hd.seq), i6 ((withF m.held 60 m.held.hd.seq).hd.sum), i6 ((withF m.held 60 m.held.hd.seq).hd.long), .slice q6.A ((withF m.held 60 m.held.hd.seq).links.length) q6.c, .slice q6.B ((withF m.held 60 m.held.hd.seq).mem.length) q6.d, i6 2]) 0 hS7 rfl (on_none rfl) rfl (h_.d 8 5) (h_.d 7 15) rfl (by kernel_rfl) ⟨Nat.le_of_ble_eq_true rfl, rfl, by kernel_rfl⟩ rfl fun w8 hS8 he8 => ⟨_, rfl, ?_⟩, trivial⟩
  clear h_ a_ he8 hS7
  replace hS8 : S (kap W) ((blkA g7 36 #[i6 ((withF m.held 60 m.held.hd.seq).hd.age), i6 ((withF m.held 60 m.held.hd.seq).hd.kind), i6 ((withF m.held 60 m.held.hd.seq).hd.id), i6 ((withF m.held 60 m.held.hd.seq).hd.adv), i6 ((withF m.held 60 m.held.hd.seq).hd.seq), i6 ((withF m.held 60 m.held.hd.seq).hd.sum), i6 ((withF m.held 60 m.held.hd.seq).hd.long), .slice q6.A ((withF m.held 60 m.held.hd.seq).links.length) q6.c, .slice q6.B ((withF m.held 60 m.held.hd.seq).mem.length) q6.d, i6 2]) :: (blkA g4 36 #[i6 0, i6 0, i6 0, i6 0, i6 0, i6 0, i6 0, .slice none 0 0, .slice none 0 0, i6 0]) :: (blkA g3 29 #[i6 m.want.hd.age, i6 m.want.hd.kind, i6 m.want.hd.id, i6 m.want.hd.adv, i6 m.want.hd.seq, i6 m.want.hd.sum, i6 m.want.hd.long, .slice p.A m.want.links.length p.c, .slice p.B m.want.mem.length p.d, .bool true, i6 m.held.hd.age, i6 m.held.hd.kind, i6 m.held.hd.id, i6 m.held.hd.adv, i6 m.held.hd.seq, i6 m.held.hd.sum, i6 m.held.hd.long, .slice q.A m.held.links.length q.c, .slice q.B m.held.mem.length q.d, .bool true, i6 m.last, i6 m.at_, .bool true]) :: []) ((rowB W.heap.size (.slice q6.A (withF m.held 60 m.held.hd.seq).links.length q6.c) 69 4 (withF m.held 60 m.held.hd.seq).links.length (rowC Lk.cells (withF m.held 60 m.held.hd.seq).links)) :: (rowB W.heap.size (.slice q6.B (withF m.held 60 m.held.hd.seq).mem.length q6.d) 3 1 (withF m.held 60 m.held.hd.seq).mem.length (ints (withF m.held 60 m.held.hd.seq).mem)) :: (memA W W.heap.size) :: []) w8 := hS8
  intro a5 hput
  replace s1 := hput.o 1 s1
  replace s2 := hput.o 2 s2
  replace s4 := hput.o 4 s4
  have s5 : sl a5 5 = pt g7 0 := hput.new 8 5 rfl
  replace hz := hput.size.trans hz
  replace hd := hput.defers.trans hd
  clear hput
  change Code.wp _ _ _ _ _
  refine wp_seq ?_
  refine seq_l [] hz ?_
  refine ⟨pt g3 19, fun _ h_ => rk (fa 19 rfl (h_.b 2 s2)),
   .bool true, fun _ h_ => rk (ld hS8 2 rfl (h_.d 0 16)),
   .bool true, fun _ h_ => rmv (h_.d 1 17),
   pt g3 10, fun _ h_ => r_ok (h_.on 2 18) (fa 10 rfl (h_.b 2 s2)),
   pt g3 10, fun _ h_ => r_ok (h_.on 2 18) (fa 0 rfl (h_.d 3 19)),
   pt g3 10, fun _ h_ => r_ok (h_.on 2 18) (fa 0 rfl (h_.d 4 20)),
   i6 m.held.hd.age, fun _ h_ => r_ok (h_.on 2 18) (ld hS8 2 rfl (h_.d 5 21)),
   .bool (decide ((m.held.hd.age : Int) ≠ 60)), fun _ h_ => r_ok (h_.on 2 18) (run_cmp rfl (h_.d 6 22) rfl rfl (by first | rfl | exact neq_dec _ _ | exact eq_dec _ _ | simp)),
   .bool (decide ((m.held.hd.age : Int) ≠ 60)), fun _ h_ => rk (run_pick_t rfl (h_.d 2 18) (h_.d 7 23)),
   .bool (decide ((m.held.hd.age : Int) ≠ 60)), fun _ h_ => ras (h_.d 8 24), ?_⟩
  intro a9 hput
  replace s1 := hput.o 1 s1
  replace s2 := hput.o 2 s2
  replace s4 := hput.o 4 s4
  replace s5 := hput.o 5 s5
  have s6 : sl a9 6 = .bool (decide ((m.held.hd.age : Int) ≠ 60)) := hput.new 9 6 rfl
  replace hz := hput.size.trans hz
  replace hd := hput.defers.trans hd
  clear hput
  change Code.wp _ _ _ _ _
  refine wp_seq ?_
  refine wp_seq ?_
  refine seq_l [] hz ?_
  refine ⟨pt g3 9, fun _ h_ => rk (fa 9 rfl (h_.b 2 s2)),
   .bool true, fun _ h_ => rk (ld hS8 2 rfl (h_.d 0 25)),
   .bool false, fun _ h_ => rk (run_not rfl (h_.d 1 26) rfl),
   .bool false, fun _ h_ => rmv (h_.d 2 27), ?_⟩
  refine seq_off (j := 3) (d := 28) (b := true) [4] _ (by kernel_rfl) (.inl rfl) ?_
  refine ⟨.bool false, fun _ h_ => rk (run_pick_f rfl (h_.d 3 28) rfl), ?_⟩
  intro a10 hput
  replace s1 := hput.o 1 s1
  replace s2 := hput.o 2 s2
  replace s4 := hput.o 4 s4
  replace s5 := hput.o 5 s5
  replace s6 := hput.o 6 s6
  have s30 : sl a10 30 = .bool false := hput.new 5 30 rfl
  replace hz := hput.size.trans hz
  replace hd := hput.defers.trans hd
  clear hput
  change Code.wp _ _ _ _ _
  refine wp_cond_false s30 ?_
  refine wp_skip ?_
  change Code.wp _ _ _ _ _
  refine wp_seq ?_
  refine wp_seq ?_
  refine seq_l [18] hz ?_
  refine ⟨pt g3 9, fun _ h_ => rk (fa 9 rfl (h_.b 2 s2)),
   .bool true, fun _ h_ => rk (ld hS8 2 rfl (h_.d 0 32)),
   .bool false, fun _ h_ => rk (run_not rfl (h_.d 1 33) rfl),
   .bool false, fun _ h_ => rmv (h_.d 2 34),
   pt g3 19, fun _ h_ => r_ok (h_.on 3 35) (fa 19 rfl (h_.b 2 s2)),
   .bool true, fun _ h_ => r_ok (h_.on 3 35) (ld hS8 2 rfl (h_.d 4 36)),
   .bool true, fun _ h_ => r_ok (h_.on 3 35) (run_move rfl (h_.d 5 37)),
   pt g3 10, fun _ h_ => r_ok (h_.on 6 38) (fa 10 rfl (h_.b 2 s2)),
   pt g3 10, fun _ h_ => r_ok (h_.on 6 38) (fa 0 rfl (h_.d 7 39)),
   pt g3 10, fun _ h_ => r_ok (h_.on 6 38) (fa 0 rfl (h_.d 8 40)),
   i6 m.held.hd.age, fun _ h_ => r_ok (h_.on 6 38) (ld hS8 2 rfl (h_.d 9 41)),
   .bool (decide ((m.held.hd.age : Int) < 20)), fun _ h_ => r_ok (h_.on 6 38) (run_cmp rfl (h_.d 10 42) rfl rfl (by first | rfl | exact neq_dec _ _ | exact eq_dec _ _ | simp)),
   .bool (decide ((m.held.hd.age : Int) < 20)), fun _ h_ => r_ok (h_.on 3 35) (run_pick_t rfl (h_.d 6 38) (h_.d 11 43)),
   .bool (decide ((m.held.hd.age : Int) < 20)), fun _ h_ => r_ok (h_.on 3 35) (run_move rfl (h_.d 12 44)), ?_⟩
  rcases dt ((m.held.hd.age : Int) < 20) with ⟨he, hg13⟩ | ⟨he, hg13⟩
  · rw [he]
    clear he
    refine ⟨pt g3 10, fun _ h_ => r_ok (h_.on 13 45) (fa 10 rfl (h_.b 2 s2)),
     .agg #[i6 m.held.hd.age, i6 m.held.hd.kind, i6 m.held.hd.id, i6 m.held.hd.adv, i6 m.held.hd.seq, i6 m.held.hd.sum, i6 m.held.hd.long, .slice q.A m.held.links.length q.c, .slice q.B m.held.mem.length q.d], fun _ h_ => r_ok (h_.on 13 45) (lbS 9 (hS8.blk (i := 2) rfl) rfl (h_.d 14 46)),
     pt g3 0, fun _ h_ => r_ok (h_.on 13 45) (fa 0 rfl (h_.b 2 s2)),
     .agg #[i6 m.want.hd.age, i6 m.want.hd.kind, i6 m.want.hd.id, i6 m.want.hd.adv, i6 m.want.hd.seq, i6 m.want.hd.sum, i6 m.want.hd.long, .slice p.A m.want.links.length p.c, .slice p.B m.want.mem.length p.d], fun _ h_ => r_ok (h_.on 13 45) (lbS 9 (hS8.blk (i := 2) rfl) rfl (h_.d 16 48)), ?_⟩
    refine ⟨fun a_ h_ => st_call (h_.on 13 45) (run_call rfl (map2 (h_.d 15 47) (h_.d 17 49)) rfl) (alike19_any m.held m.want q p _ (by omega) (by omega) (hok.below (hS8.old (by simp))).held (by omega) (by omega) (hok.below (hS8.old (by simp))).want) ?_, trivial⟩
    rintro e w12 ⟨rfl, hb12⟩
    refine ⟨_, rfl, _, rfl, ?_⟩
    clear h_ a_
    have hS12 := hS8.below hb12
    clear hS8 hb12
    refine ⟨.bool (decide (m.held.links = m.want.links) && decide (m.held.mem = m.want.mem)), fun _ h_ => r_ok (h_.on 3 35) (run_pick_t rfl (h_.d 13 45) (h_.d 18 50)),
     .bool (decide (m.held.links = m.want.links) && decide (m.held.mem = m.want.mem)), fun _ h_ => rk (run_pick_f rfl (h_.d 3 35) (h_.d 19 51)), ?_⟩
    intro a11 hput
    replace s1 := hput.o 1 s1
    replace s2 := hput.o 2 s2
    replace s4 := hput.o 4 s4
    replace s5 := hput.o 5 s5
    replace s6 := hput.o 6 s6
    have s52 : sl a11 52 = .bool (decide (m.held.links = m.want.links) && decide (m.held.mem = m.want.mem)) := hput.new 20 52 rfl
    replace hz := hput.size.trans hz
    replace hd := hput.defers.trans hd
    clear hput s30
    change Code.wp _ _ _ _ _
    refine wp_cond_b s52 (fun hc52 => ?_) (fun hc52 => ?_)
    · clear s52
      refine wp_seq ?_
      refine seq_l [1] hz ?_
      refine ⟨.agg #[i6 0, i6 0, i6 0, i6 0, i6 0, i6 0, i6 0, .slice none 0 0, .slice none 0 0, i6 0], fun _ h_ => rk (run_build (vals := #[]) (r := .agg #[i6 0, i6 0, i6 0, i6 0, i6 0, i6 0, i6 0, .slice none 0 0, .slice none 0 0, i6 0]) rfl (by simp) (by kernel_rfl)), ?_⟩
      refine ⟨fun a_ h_ => st_store (n := 10) (cells := #[i6 0, i6 0, i6 0, i6 0, i6 0, i6 0, i6 0, .slice none 0 0, .slice none 0 0, i6 0]) (cs' := #[i6 0, i6 0, i6 0, i6 0, i6 0, i6 0, i6 0, .slice none 0 0, .slice none 0 0, i6 0]) 1 hS12 rfl (on_none rfl) rfl (h_.b 4 s4) (h_.d 0 53) rfl (by kernel_rfl) ⟨Nat.le_of_ble_eq_true rfl, rfl, by kernel_rfl⟩ rfl fun w14 hS14 he14 => ⟨_, rfl, ?_⟩, trivial⟩
      clear h_ a_ he14 hS12
      replace hS14 : S (kap W) ((blkA g7 36 #[i6 ((withF m.held 60 m.held.hd.seq).hd.age), i6 ((withF m.held 60 m.held.hd.seq).hd.kind), i6 ((withF m.held 60 m.held.hd.seq).hd.id), i6 ((withF m.held 60 m.held.hd.seq).hd.adv), i6 ((withF m.held 60 m.held.hd.seq).hd.seq), i6 ((withF m.held 60 m.held.hd.seq).hd.sum), i6 ((withF m.held 60 m.held.hd.seq).hd.long), .slice q6.A ((withF m.held 60 m.held.hd.seq).links.length) q6.c, .slice q6.B ((withF m.held 60 m.held.hd.seq).mem.length) q6.d, i6 2]) :: (blkA g4 36 #[i6 0, i6 0, i6 0, i6 0, i6 0, i6 0, i6 0, .slice none 0 0, .slice none 0 0, i6 0]) :: (blkA g3 29 #[i6 m.want.hd.age, i6 m.want.hd.kind, i6 m.want.hd.id, i6 m.want.hd.adv, i6 m.want.hd.seq, i6 m.want.hd.sum, i6 m.want.hd.long, .slice p.A m.want.links.length p.c, .slice p.B m.want.mem.length p.d, .bool true, i6 m.held.hd.age, i6 m.held.hd.kind, i6 m.held.hd.id, i6 m.held.hd.adv, i6 m.held.hd.seq, i6 m.held.hd.sum, i6 m.held.hd.long, .slice q.A m.held.links.length q.c, .slice q.B m.held.mem.length q.d, .bool true, i6 m.last, i6 m.at_, .bool true]) :: []) ((rowB W.heap.size (.slice q6.A (withF m.held 60 m.held.hd.seq).links.length q6.c) 69 4 (withF m.held 60 m.held.hd.seq).links.length (rowC Lk.cells (withF m.held 60 m.held.hd.seq).links)) :: (rowB W.heap.size (.slice q6.B (withF m.held 60 m.held.hd.seq).mem.length q6.d) 3 1 (withF m.held 60 m.held.hd.seq).mem.length (ints (withF m.held 60 m.held.hd.seq).mem)) :: (memA W W.heap.size) :: []) w14 := hS14
      intro a13 hput
      replace s1 := hput.o 1 s1
      replace s2 := hput.o 2 s2
      replace s4 := hput.o 4 s4
      replace s5 := hput.o 5 s5
      replace s6 := hput.o 6 s6
      replace hz := hput.size.trans hz
      replace hd := hput.defers.trans hd
      clear hput
      change Code.wp _ _ _ _ _
      refine wp_ret ?_
      refine retC (P := Try.prog) (fn := Try.f12) hd s4 (hS14.blk (i := 1) rfl) (hR_ _ _ ?_) Try.underlying36
      have hf : planF ({ m with wanted := true, is_ := true, ever := true } : MV) now = ((default : LV), 0) := by simp only [planF, restF, livesF, numberF, flushF, withF] <;> first | rfl | (simp_all; done) | (simp_all; omega) | grind
      rw [hf]
      exact ⟨⟨none, 0, none, 0⟩, rfl, LOwn.none_ _ _, (hS14.old (by simp))⟩
    · clear s52
      refine wp_skip ?_
      change Code.wp _ _ _ _ _
      refine wp_seq ?_
      refine wp_seq ?_
      refine seq_l [] hz ?_
      refine ⟨pt g3 22, fun _ h_ => rk (fa 22 rfl (h_.b 2 s2)),
       .bool true, fun _ h_ => rk (ld hS12 2 rfl (h_.d 0 54)),
       .bool true, fun _ h_ => rmv (h_.d 1 55),
       i6 now, fun _ h_ => r_ok (h_.on 2 56) (run_move rfl (h_.b 1 s1)),
       pt g3 21, fun _ h_ => r_ok (h_.on 2 56) (fa 21 rfl (h_.b 2 s2)),
       i6 m.at_, fun _ h_ => r_ok (h_.on 2 56) (ld hS12 2 rfl (h_.d 4 58)),
       i6 (now - m.at_), fun _ h_ => r_ok (h_.on 2 56) (run_subI rfl (h_.d 3 57) (h_.d 5 59) (by omega) rfl),
       .bool (decide ((now - m.at_ : Int) < 2)), fun _ h_ => r_ok (h_.on 2 56) (run_cmp rfl (h_.d 6 60) rfl rfl (by first | rfl | exact neq_dec _ _ | exact eq_dec _ _ | simp)),
       .bool (decide ((now - m.at_ : Int) < 2)), fun _ h_ => rk (run_pick_t rfl (h_.d 2 56) (h_.d 7 61)), ?_⟩
      intro a15 hput
      replace s2 := hput.o 2 s2
      replace s4 := hput.o 4 s4
      replace s5 := hput.o 5 s5
      replace s6 := hput.o 6 s6
      have s62 : sl a15 62 = .bool (decide ((now - m.at_ : Int) < 2)) := hput.new 8 62 rfl
      replace hz := hput.size.trans hz
      replace hd := hput.defers.trans hd
      clear hput s1
      change Code.wp _ _ _ _ _
      refine wp_cond_d s62 (fun hc62 => ?_) (fun hc62 => ?_)
      · clear s62
        refine wp_seq ?_
        refine seq_l [1] hz ?_
        refine ⟨.agg #[i6 0, i6 0, i6 0, i6 0, i6 0, i6 0, i6 0, .slice none 0 0, .slice none 0 0, i6 3], fun _ h_ => rk (run_build (vals := #[(1, i6 3)]) (r := .agg #[i6 0, i6 0, i6 0, i6 0, i6 0, i6 0, i6 0, .slice none 0 0, .slice none 0 0, i6 3]) rfl (bp1 rfl) (by kernel_rfl)), ?_⟩
        refine ⟨fun a_ h_ => st_store (n := 10) (cells := #[i6 0, i6 0, i6 0, i6 0, i6 0, i6 0, i6 0, .slice none 0 0, .slice none 0 0, i6 3]) (cs' := #[i6 0, i6 0, i6 0, i6 0, i6 0, i6 0, i6 0, .slice none 0 0, .slice none 0 0, i6 3]) 1 hS12 rfl (on_none rfl) rfl (h_.b 4 s4) (h_.d 0 63) rfl (by kernel_rfl) ⟨Nat.le_of_ble_eq_true rfl, rfl, by kernel_rfl⟩ rfl fun w17 hS17 he17 => ⟨_, rfl, ?_⟩, trivial⟩
        clear h_ a_ he17 hS12
        replace hS17 : S (kap W) ((blkA g7 36 #[i6 ((withF m.held 60 m.held.hd.seq).hd.age), i6 ((withF m.held 60 m.held.hd.seq).hd.kind), i6 ((withF m.held 60 m.held.hd.seq).hd.id), i6 ((withF m.held 60 m.held.hd.seq).hd.adv), i6 ((withF m.held 60 m.held.hd.seq).hd.seq), i6 ((withF m.held 60 m.held.hd.seq).hd.sum), i6 ((withF m.held 60 m.held.hd.seq).hd.long), .slice q6.A ((withF m.held 60 m.held.hd.seq).links.length) q6.c, .slice q6.B ((withF m.held 60 m.held.hd.seq).mem.length) q6.d, i6 2]) :: (blkA g4 36 #[i6 0, i6 0, i6 0, i6 0, i6 0, i6 0, i6 0, .slice none 0 0, .slice none 0 0, i6 3]) :: (blkA g3 29 #[i6 m.want.hd.age, i6 m.want.hd.kind, i6 m.want.hd.id, i6 m.want.hd.adv, i6 m.want.hd.seq, i6 m.want.hd.sum, i6 m.want.hd.long, .slice p.A m.want.links.length p.c, .slice p.B m.want.mem.length p.d, .bool true, i6 m.held.hd.age, i6 m.held.hd.kind, i6 m.held.hd.id, i6 m.held.hd.adv, i6 m.held.hd.seq, i6 m.held.hd.sum, i6 m.held.hd.long, .slice q.A m.held.links.length q.c, .slice q.B m.held.mem.length q.d, .bool true, i6 m.last, i6 m.at_, .bool true]) :: []) ((rowB W.heap.size (.slice q6.A (withF m.held 60 m.held.hd.seq).links.length q6.c) 69 4 (withF m.held 60 m.held.hd.seq).links.length (rowC Lk.cells (withF m.held 60 m.held.hd.seq).links)) :: (rowB W.heap.size (.slice q6.B (withF m.held 60 m.held.hd.seq).mem.length q6.d) 3 1 (withF m.held 60 m.held.hd.seq).mem.length (ints (withF m.held 60 m.held.hd.seq).mem)) :: (memA W W.heap.size) :: []) w17 := hS17
        intro a16 hput
        replace s2 := hput.o 2 s2
        replace s4 := hput.o 4 s4
        replace s5 := hput.o 5 s5
        replace s6 := hput.o 6 s6
        replace hz := hput.size.trans hz
        replace hd := hput.defers.trans hd
        clear hput
        change Code.wp _ _ _ _ _
        refine wp_ret ?_
        refine retC (P := Try.prog) (fn := Try.f12) hd s4 (hS17.blk (i := 1) rfl) (hR_ _ _ ?_) Try.underlying36
        have hf : planF ({ m with wanted := true, is_ := true, ever := true } : MV) now = ((default : LV), 3) := by simp only [planF, restF, livesF, numberF, flushF, withF] <;> first | rfl | (simp_all; done) | (simp_all; omega) | grind
        rw [hf]
        exact ⟨⟨none, 0, none, 0⟩, rfl, LOwn.none_ _ _, (hS17.old (by simp))⟩
      · clear s62
        refine wp_skip ?_
        change Code.wp _ _ _ _ _
        refine wp_seq ?_
        refine wp_seq ?_
        refine seq_l [] hz ?_
        refine ⟨pt g3 19, fun _ h_ => rk (fa 19 rfl (h_.b 2 s2)),
         .bool true, fun _ h_ => rk (ld hS12 2 rfl (h_.d 0 64)),
         .bool false, fun _ h_ => rk (run_not rfl (h_.d 1 65) rfl),
         .bool false, fun _ h_ => rmv (h_.d 2 66), ?_⟩
        refine seq_off (j := 3) (d := 67) (b := true) [4, 5, 6] _ (by kernel_rfl) (.inl rfl) ?_
        refine ⟨.bool false, fun _ h_ => rk (run_pick_f rfl (h_.d 3 67) rfl), ?_⟩
        intro a18 hput
        replace s2 := hput.o 2 s2
        replace s4 := hput.o 4 s4
        replace s5 := hput.o 5 s5
        replace s6 := hput.o 6 s6
        have s71 : sl a18 71 = .bool false := hput.new 7 71 rfl
        replace hz := hput.size.trans hz
        replace hd := hput.defers.trans hd
        clear hput
        change Code.wp _ _ _ _ _
        refine wp_cond_false s71 ?_
        refine wp_skip ?_
        change Code.wp _ _ _ _ _
        refine wp_seq ?_
        refine seq_l [] hz ?_
        refine ⟨pt g3 20, fun _ h_ => rk (fa 20 rfl (h_.b 2 s2)),
         i6 m.last, fun _ h_ => rk (ld hS12 2 rfl (h_.d 0 74)),
         i6 m.last, fun _ h_ => ras (h_.d 1 75), ?_⟩
        intro a19 hput
        replace s2 := hput.o 2 s2
        replace s4 := hput.o 4 s4
        replace s5 := hput.o 5 s5
        replace s6 := hput.o 6 s6
        have s7 : sl a19 7 = i6 m.last := hput.new 2 7 rfl
        replace hz := hput.size.trans hz
        replace hd := hput.defers.trans hd
        clear hput s71
        change Code.wp _ _ _ _ _
        refine wp_seq ?_
        refine wp_seq ?_
        refine seq_l [] hz ?_
        refine ⟨pt g3 22, fun _ h_ => rk (fa 22 rfl (h_.b 2 s2)),
         .bool true, fun _ h_ => rk (ld hS12 2 rfl (h_.d 0 76)),
         .bool false, fun _ h_ => rk (run_not rfl (h_.d 1 77) rfl),
         .bool false, fun _ h_ => rmv (h_.d 2 78),
         pt g3 19, fun _ h_ => r_ok (h_.on 3 79) (fa 19 rfl (h_.b 2 s2)),
         .bool true, fun _ h_ => r_ok (h_.on 3 79) (ld hS12 2 rfl (h_.d 4 80)),
         .bool true, fun _ h_ => r_ok (h_.on 3 79) (run_move rfl (h_.d 5 81)),
         pt g3 10, fun _ h_ => r_ok (h_.on 6 82) (fa 10 rfl (h_.b 2 s2)),
         pt g3 10, fun _ h_ => r_ok (h_.on 6 82) (fa 0 rfl (h_.d 7 83)),
         pt g3 14, fun _ h_ => r_ok (h_.on 6 82) (fa 4 rfl (h_.d 8 84)),
         i6 m.held.hd.seq, fun _ h_ => r_ok (h_.on 6 82) (ld hS12 2 rfl (h_.d 9 85)),
         i6 m.last, fun _ h_ => r_ok (h_.on 6 82) (run_move rfl (h_.b 7 s7)),
         .bool (decide ((m.last : Int) < m.held.hd.seq)), fun _ h_ => r_ok (h_.on 6 82) (run_cmp rfl (h_.d 10 86) (h_.d 11 87) rfl (by first | rfl | exact neq_dec _ _ | exact eq_dec _ _ | simp)),
         .bool (decide ((m.last : Int) < m.held.hd.seq)), fun _ h_ => r_ok (h_.on 3 79) (run_pick_t rfl (h_.d 6 82) (h_.d 12 88)),
         .bool (decide ((m.last : Int) < m.held.hd.seq)), fun _ h_ => rk (run_pick_f rfl (h_.d 3 79) (h_.d 13 89)), ?_⟩
        intro a20 hput
        replace s2 := hput.o 2 s2
        replace s4 := hput.o 4 s4
        replace s5 := hput.o 5 s5
        replace s6 := hput.o 6 s6
        replace s7 := hput.o 7 s7
        have s90 : sl a20 90 = .bool (decide ((m.last : Int) < m.held.hd.seq)) := hput.new 14 90 rfl
        replace hz := hput.size.trans hz
        replace hd := hput.defers.trans hd
        clear hput
        change Code.wp _ _ _ _ _
        refine wp_cond_d s90 (fun hc90 => ?_) (fun hc90 => ?_)
        · clear s90
          refine seq_l [] hz ?_
          refine ⟨pt g3 10, fun _ h_ => rk (fa 10 rfl (h_.b 2 s2)),
           pt g3 10, fun _ h_ => rk (fa 0 rfl (h_.d 0 91)),
           pt g3 14, fun _ h_ => rk (fa 4 rfl (h_.d 1 92)),
           i6 m.held.hd.seq, fun _ h_ => rk (ld hS12 2 rfl (h_.d 2 93)),
           i6 m.held.hd.seq, fun _ h_ => ras (h_.d 3 94), ?_⟩
          intro a21 hput
          replace s2 := hput.o 2 s2
          replace s4 := hput.o 4 s4
          replace s5 := hput.o 5 s5
          replace s6 := hput.o 6 s6
          replace s7 : sl a21 7 = i6 m.held.hd.seq := hput.new 4 7 rfl
          replace hz := hput.size.trans hz
          replace hd := hput.defers.trans hd
          clear hput
          change Code.wp _ _ _ _ _
          refine wp_seq ?_
          refine wp_seq ?_
          refine seq_l [] hz ?_
          refine ⟨i6 m.held.hd.seq, fun _ h_ => rmv (h_.b 7 s7),
           .bool (decide ((m.held.hd.seq : Int) < 2147483647)), fun _ h_ => rk (run_cmp rfl (h_.d 0 95) rfl rfl (by first | rfl | exact neq_dec _ _ | exact eq_dec _ _ | simp)), ?_⟩
          intro a22 hput
          replace s2 := hput.o 2 s2
          replace s4 := hput.o 4 s4
          replace s5 := hput.o 5 s5
          replace s6 := hput.o 6 s6
          replace s7 := hput.o 7 s7
          have s96 : sl a22 96 = .bool (decide ((m.held.hd.seq : Int) < 2147483647)) := hput.new 1 96 rfl
          replace hz := hput.size.trans hz
          replace hd := hput.defers.trans hd
          clear hput
          change Code.wp _ _ _ _ _
          refine wp_cond_d s96 (fun hc96 => ?_) (fun hc96 => ?_)
          · clear s96
            refine wp_seq ?_
            refine seq_l [3, 4] hz ?_
            refine ⟨.agg #[i6 m.want.hd.age, i6 m.want.hd.kind, i6 m.want.hd.id, i6 m.want.hd.adv, i6 m.want.hd.seq, i6 m.want.hd.sum, i6 m.want.hd.long, .slice p.A m.want.links.length p.c, .slice p.B m.want.mem.length p.d, .bool true, i6 m.held.hd.age, i6 m.held.hd.kind, i6 m.held.hd.id, i6 m.held.hd.adv, i6 m.held.hd.seq, i6 m.held.hd.sum, i6 m.held.hd.long, .slice q.A m.held.links.length q.c, .slice q.B m.held.mem.length q.d, .bool true, i6 m.last, i6 m.at_, .bool true], fun _ h_ => rk (lbS 23 (hS12.blk (i := 2) rfl) rfl (h_.b 2 s2)),
             i6 m.held.hd.seq, fun _ h_ => rmv (h_.b 7 s7),
             i6 (m.held.hd.seq + 1), fun _ h_ => rk (run_addI rfl (h_.d 1 98) rfl (by omega) rfl), ?_⟩
            refine ⟨fun a_ h_ => st_call (on_none rfl) (run_call rfl (map2 (h_.d 0 97) (h_.d 2 99)) rfl) (told19_any ({ m with wanted := true, is_ := true, ever := true } : MV) p q (m.held.hd.seq + 1) _ hw1 hw2 hh1 hh2 (⟨(hok.below (hS12.old (by simp))).want, (hok.below (hS12.old (by simp))).held⟩ : MOK _ ({ m with wanted := true, is_ := true, ever := true } : MV) p q)) ?_, trivial⟩
            rintro e w24 ⟨q24, rfl, hO, hb24⟩
            refine ⟨_, rfl, _, rfl, ?_⟩
            clear h_ a_
            have hS24 := hS12.pushLB (hS12.old (by simp)).size hb24 hO
            clear hO hb24 hS12
            refine ⟨fun a_ h_ => st_store (n := 10) (cells := #[i6 ((tellF ({ m with wanted := true, is_ := true, ever := true } : MV) (m.held.hd.seq + 1)).hd.age), i6 ((tellF ({ m with wanted := true, is_ := true, ever := true } : MV) (m.held.hd.seq + 1)).hd.kind), i6 ((tellF ({ m with wanted := true, is_ := true, ever := true } : MV) (m.held.hd.seq + 1)).hd.id), i6 ((tellF ({ m with wanted := true, is_ := true, ever := true } : MV) (m.held.hd.seq + 1)).hd.adv), i6 ((tellF ({ m with wanted := true, is_ := true, ever := true } : MV) (m.held.hd.seq + 1)).hd.seq), i6 ((tellF ({ m with wanted := true, is_ := true, ever := true } : MV) (m.held.hd.seq + 1)).hd.sum), i6 ((tellF ({ m with wanted := true, is_ := true, ever := true } : MV) (m.held.hd.seq + 1)).hd.long), .slice q24.A ((tellF ({ m with wanted := true, is_ := true, ever := true } : MV) (m.held.hd.seq + 1)).links.length) q24.c, .slice q24.B ((tellF ({ m with wanted := true, is_ := true, ever := true } : MV) (m.held.hd.seq + 1)).mem.length) q24.d, i6 1]) (cs' := #[i6 ((tellF ({ m with wanted := true, is_ := true, ever := true } : MV) (m.held.hd.seq + 1)).hd.age), i6 ((tellF ({ m with wanted := true, is_ := true, ever := true } : MV) (m.held.hd.seq + 1)).hd.kind), i6 ((tellF ({ m with wanted := true, is_ := true, ever := true } : MV) (m.held.hd.seq + 1)).hd.id), i6 ((tellF ({ m with wanted := true, is_ := true, ever := true } : MV) (m.held.hd.seq + 1)).hd.adv), i6 ((tellF ({ m with wanted := true, is_ := true, ever := true } : MV) (m.held.hd.seq + 1)).hd.seq), i6 ((tellF ({ m with wanted := true, is_ := true, ever := true } : MV) (m.held.hd.seq + 1)).hd.sum), i6 ((tellF ({ m with wanted := true, is_ := true, ever := true } : MV) (m.held.hd.seq + 1)).hd.long), .slice q24.A ((tellF ({ m with wanted := true, is_ := true, ever := true } : MV) (m.held.hd.seq + 1)).links.length) q24.c, .slice q24.B ((tellF ({ m with wanted := true, is_ := true, ever := true } : MV) (m.held.hd.seq + 1)).mem.length) q24.d, i6 1]) 1 hS24 rfl (on_none rfl) rfl (h_.b 4 s4) (h_.d 3 100) rfl (by kernel_rfl) ⟨Nat.le_of_ble_eq_true rfl, rfl, by kernel_rfl⟩ rfl fun w25 hS25 he25 => ⟨_, rfl, ?_⟩, trivial⟩
            clear h_ a_ he25 hS24
            replace hS25 : S (kap W) ((blkA g7 36 #[i6 ((withF m.held 60 m.held.hd.seq).hd.age), i6 ((withF m.held 60 m.held.hd.seq).hd.kind), i6 ((withF m.held 60 m.held.hd.seq).hd.id), i6 ((withF m.held 60 m.held.hd.seq).hd.adv), i6 ((withF m.held 60 m.held.hd.seq).hd.seq), i6 ((withF m.held 60 m.held.hd.seq).hd.sum), i6 ((withF m.held 60 m.held.hd.seq).hd.long), .slice q6.A ((withF m.held 60 m.held.hd.seq).links.length) q6.c, .slice q6.B ((withF m.held 60 m.held.hd.seq).mem.length) q6.d, i6 2]) :: (blkA g4 36 #[i6 ((tellF ({ m with wanted := true, is_ := true, ever := true } : MV) (m.held.hd.seq + 1)).hd.age), i6 ((tellF ({ m with wanted := true, is_ := true, ever := true } : MV) (m.held.hd.seq + 1)).hd.kind), i6 ((tellF ({ m with wanted := true, is_ := true, ever := true } : MV) (m.held.hd.seq + 1)).hd.id), i6 ((tellF ({ m with wanted := true, is_ := true, ever := true } : MV) (m.held.hd.seq + 1)).hd.adv), i6 ((tellF ({ m with wanted := true, is_ := true, ever := true } : MV) (m.held.hd.seq + 1)).hd.seq), i6 ((tellF ({ m with wanted := true, is_ := true, ever := true } : MV) (m.held.hd.seq + 1)).hd.sum), i6 ((tellF ({ m with wanted := true, is_ := true, ever := true } : MV) (m.held.hd.seq + 1)).hd.long), .slice q24.A ((tellF ({ m with wanted := true, is_ := true, ever := true } : MV) (m.held.hd.seq + 1)).links.length) q24.c, .slice q24.B ((tellF ({ m with wanted := true, is_ := true, ever := true } : MV) (m.held.hd.seq + 1)).mem.length) q24.d, i6 1]) :: (blkA g3 29 #[i6 m.want.hd.age, i6 m.want.hd.kind, i6 m.want.hd.id, i6 m.want.hd.adv, i6 m.want.hd.seq, i6 m.want.hd.sum, i6 m.want.hd.long, .slice p.A m.want.links.length p.c, .slice p.B m.want.mem.length p.d, .bool true, i6 m.held.hd.age, i6 m.held.hd.kind, i6 m.held.hd.id, i6 m.held.hd.adv, i6 m.held.hd.seq, i6 m.held.hd.sum, i6 m.held.hd.long, .slice q.A m.held.links.length q.c, .slice q.B m.held.mem.length q.d, .bool true, i6 m.last, i6 m.at_, .bool true]) :: []) ((rowB W.heap.size (.slice q24.A (tellF ({ m with wanted := true, is_ := true, ever := true } : MV) (m.held.hd.seq + 1)).links.length q24.c) 69 4 (tellF ({ m with wanted := true, is_ := true, ever := true } : MV) (m.held.hd.seq + 1)).links.length (rowC Lk.cells (tellF ({ m with wanted := true, is_ := true, ever := true } : MV) (m.held.hd.seq + 1)).links)) :: (rowB W.heap.size (.slice q24.B (tellF ({ m with wanted := true, is_ := true, ever := true } : MV) (m.held.hd.seq + 1)).mem.length q24.d) 3 1 (tellF ({ m with wanted := true, is_ := true, ever := true } : MV) (m.held.hd.seq + 1)).mem.length (ints (tellF ({ m with wanted := true, is_ := true, ever := true } : MV) (m.held.hd.seq + 1)).mem)) :: (rowB W.heap.size (.slice q6.A (withF m.held 60 m.held.hd.seq).links.length q6.c) 69 4 (withF m.held 60 m.held.hd.seq).links.length (rowC Lk.cells (withF m.held 60 m.held.hd.seq).links)) :: (rowB W.heap.size (.slice q6.B (withF m.held 60 m.held.hd.seq).mem.length q6.d) 3 1 (withF m.held 60 m.held.hd.seq).mem.length (ints (withF m.held 60 m.held.hd.seq).mem)) :: (memA W W.heap.size) :: []) w25 := hS25
            intro a23 hput
            replace s2 := hput.o 2 s2
            replace s4 := hput.o 4 s4
            replace s5 := hput.o 5 s5
            replace s6 := hput.o 6 s6
            replace hz := hput.size.trans hz
            replace hd := hput.defers.trans hd
            clear hput s7
            change Code.wp _ _ _ _ _
            refine wp_ret ?_
            refine retC (P := Try.prog) (fn := Try.f12) hd s4 (hS25.blk (i := 1) rfl) (hR_ _ _ ?_) Try.underlying36
            have hf : planF ({ m with wanted := true, is_ := true, ever := true } : MV) now = ((tellF ({ m with wanted := true, is_ := true, ever := true } : MV) (m.held.hd.seq + 1)), 1) := by simp only [planF, restF, livesF, numberF, flushF, withF] <;> first | rfl | (simp_all; done) | (simp_all; omega) | grind
            rw [hf]
            exact ⟨q24, rfl, lown_of (l := (tellF ({ m with wanted := true, is_ := true, ever := true } : MV) (m.held.hd.seq + 1))) hS25 0, (hS25.old (by simp))⟩
          · clear s96
            refine wp_skip ?_
            change Code.wp _ _ _ _ _
            refine wp_seq ?_
            refine wp_seq ?_
            refine seq_l [] hz ?_
            refine ⟨.bool (decide ((m.held.hd.age : Int) ≠ 60)), fun _ h_ => rmv (h_.b 6 s6), ?_⟩
            intro a26 hput
            replace s2 := hput.o 2 s2
            replace s4 := hput.o 4 s4
            replace s5 := hput.o 5 s5
            have s101 : sl a26 101 = .bool (decide ((m.held.hd.age : Int) ≠ 60)) := hput.new 0 101 rfl
            replace hz := hput.size.trans hz
            replace hd := hput.defers.trans hd
            clear hput s6 s7
            change Code.wp _ _ _ _ _
            refine wp_cond_d s101 (fun hc101 => ?_) (fun hc101 => ?_)
            · clear s101
              refine wp_seq ?_
              refine seq_l [1] hz ?_
              refine ⟨.agg #[i6 ((withF m.held 60 m.held.hd.seq).hd.age), i6 ((withF m.held 60 m.held.hd.seq).hd.kind), i6 ((withF m.held 60 m.held.hd.seq).hd.id), i6 ((withF m.held 60 m.held.hd.seq).hd.adv), i6 ((withF m.held 60 m.held.hd.seq).hd.seq), i6 ((withF m.held 60 m.held.hd.seq).hd.sum), i6 ((withF m.held 60 m.held.hd.seq).hd.long), .slice q6.A ((withF m.held 60 m.held.hd.seq).links.length) q6.c, .slice q6.B ((withF m.held 60 m.held.hd.seq).mem.length) q6.d, i6 2], fun _ h_ => rk (lbS 10 (hS12.blk (i := 0) rfl) rfl (h_.b 5 s5)), ?_⟩
              refine ⟨fun a_ h_ => st_store (n := 10) (cells := #[i6 ((withF m.held 60 m.held.hd.seq).hd.age), i6 ((withF m.held 60 m.held.hd.seq).hd.kind), i6 ((withF m.held 60 m.held.hd.seq).hd.id), i6 ((withF m.held 60 m.held.hd.seq).hd.adv), i6 ((withF m.held 60 m.held.hd.seq).hd.seq), i6 ((withF m.held 60 m.held.hd.seq).hd.sum), i6 ((withF m.held 60 m.held.hd.seq).hd.long), .slice q6.A ((withF m.held 60 m.held.hd.seq).links.length) q6.c, .slice q6.B ((withF m.held 60 m.held.hd.seq).mem.length) q6.d, i6 2]) (cs' := #[i6 ((withF m.held 60 m.held.hd.seq).hd.age), i6 ((withF m.held 60 m.held.hd.seq).hd.kind), i6 ((withF m.held 60 m.held.hd.seq).hd.id), i6 ((withF m.held 60 m.held.hd.seq).hd.adv), i6 ((withF m.held 60 m.held.hd.seq).hd.seq), i6 ((withF m.held 60 m.held.hd.seq).hd.sum), i6 ((withF m.held 60 m.held.hd.seq).hd.long), .slice q6.A ((withF m.held 60 m.held.hd.seq).links.length) q6.c, .slice q6.B ((withF m.held 60 m.held.hd.seq).mem.length) q6.d, i6 2]) 1 hS12 rfl (on_none rfl) rfl (h_.b 4 s4) (h_.d 0 102) rfl (by kernel_rfl) ⟨Nat.le_of_ble_eq_true rfl, rfl, by kernel_rfl⟩ rfl fun w28 hS28 he28 => ⟨_, rfl, ?_⟩, trivial⟩
              clear h_ a_ he28 hS12
              replace hS28 : S (kap W) ((blkA g7 36 #[i6 ((withF m.held 60 m.held.hd.seq).hd.age), i6 ((withF m.held 60 m.held.hd.seq).hd.kind), i6 ((withF m.held 60 m.held.hd.seq).hd.id), i6 ((withF m.held 60 m.held.hd.seq).hd.adv), i6 ((withF m.held 60 m.held.hd.seq).hd.seq), i6 ((withF m.held 60 m.held.hd.seq).hd.sum), i6 ((withF m.held 60 m.held.hd.seq).hd.long), .slice q6.A ((withF m.held 60 m.held.hd.seq).links.length) q6.c, .slice q6.B ((withF m.held 60 m.held.hd.seq).mem.length) q6.d, i6 2]) :: (blkA g4 36 #[i6 ((withF m.held 60 m.held.hd.seq).hd.age), i6 ((withF m.held 60 m.held.hd.seq).hd.kind), i6 ((withF m.held 60 m.held.hd.seq).hd.id), i6 ((withF m.held 60 m.held.hd.seq).hd.adv), i6 ((withF m.held 60 m.held.hd.seq).hd.seq), i6 ((withF m.held 60 m.held.hd.seq).hd.sum), i6 ((withF m.held 60 m.held.hd.seq).hd.long), .slice q6.A ((withF m.held 60 m.held.hd.seq).links.length) q6.c, .slice q6.B ((withF m.held 60 m.held.hd.seq).mem.length) q6.d, i6 2]) :: (blkA g3 29 #[i6 m.want.hd.age, i6 m.want.hd.kind, i6 m.want.hd.id, i6 m.want.hd.adv, i6 m.want.hd.seq, i6 m.want.hd.sum, i6 m.want.hd.long, .slice p.A m.want.links.length p.c, .slice p.B m.want.mem.length p.d, .bool true, i6 m.held.hd.age, i6 m.held.hd.kind, i6 m.held.hd.id, i6 m.held.hd.adv, i6 m.held.hd.seq, i6 m.held.hd.sum, i6 m.held.hd.long, .slice q.A m.held.links.length q.c, .slice q.B m.held.mem.length q.d, .bool true, i6 m.last, i6 m.at_, .bool true]) :: []) ((rowB W.heap.size (.slice q6.A (withF m.held 60 m.held.hd.seq).links.length q6.c) 69 4 (withF m.held 60 m.held.hd.seq).links.length (rowC Lk.cells (withF m.held 60 m.held.hd.seq).links)) :: (rowB W.heap.size (.slice q6.B (withF m.held 60 m.held.hd.seq).mem.length q6.d) 3 1 (withF m.held 60 m.held.hd.seq).mem.length (ints (withF m.held 60 m.held.hd.seq).mem)) :: (memA W W.heap.size) :: []) w28 := hS28
              intro a27 hput
              replace s2 := hput.o 2 s2
              replace s4 := hput.o 4 s4
              replace hz := hput.size.trans hz
              replace hd := hput.defers.trans hd
              clear hput s5
              change Code.wp _ _ _ _ _
              refine wp_ret ?_
              refine retC (P := Try.prog) (fn := Try.f12) hd s4 (hS28.blk (i := 1) rfl) (hR_ _ _ ?_) Try.underlying36
              have hf : planF ({ m with wanted := true, is_ := true, ever := true } : MV) now = ((withF m.held 60 m.held.hd.seq), 2) := by simp only [planF, restF, livesF, numberF, flushF, withF] <;> first | rfl | (simp_all; done) | (simp_all; omega) | grind
              rw [hf]
              exact ⟨q6, rfl, lown_of (l := (withF m.held 60 m.held.hd.seq)) hS28 0, (hS28.old (by simp))⟩
            · clear s101
              refine wp_skip ?_
              change Code.wp _ _ _ _ _
              refine wp_seq ?_
              refine wp_seq ?_
              refine seq_l [] hz ?_
              refine ⟨pt g3 19, fun _ h_ => rk (fa 19 rfl (h_.b 2 s2)),
               .bool true, fun _ h_ => rk (ld hS12 2 rfl (h_.d 0 103)), ?_⟩
              intro a29 hput
              replace s2 := hput.o 2 s2
              replace s4 := hput.o 4 s4
              have s104 : sl a29 104 = .bool true := hput.new 1 104 rfl
              replace hz := hput.size.trans hz
              replace hd := hput.defers.trans hd
              clear hput s5
              change Code.wp _ _ _ _ _
              refine wp_cond_true s104 ?_
              refine wp_seq ?_
              refine seq_l [1] hz ?_
              refine ⟨.agg #[i6 0, i6 0, i6 0, i6 0, i6 0, i6 0, i6 0, .slice none 0 0, .slice none 0 0, i6 3], fun _ h_ => rk (run_build (vals := #[(1, i6 3)]) (r := .agg #[i6 0, i6 0, i6 0, i6 0, i6 0, i6 0, i6 0, .slice none 0 0, .slice none 0 0, i6 3]) rfl (bp1 rfl) (by kernel_rfl)), ?_⟩
              refine ⟨fun a_ h_ => st_store (n := 10) (cells := #[i6 0, i6 0, i6 0, i6 0, i6 0, i6 0, i6 0, .slice none 0 0, .slice none 0 0, i6 3]) (cs' := #[i6 0, i6 0, i6 0, i6 0, i6 0, i6 0, i6 0, .slice none 0 0, .slice none 0 0, i6 3]) 1 hS12 rfl (on_none rfl) rfl (h_.b 4 s4) (h_.d 0 105) rfl (by kernel_rfl) ⟨Nat.le_of_ble_eq_true rfl, rfl, by kernel_rfl⟩ rfl fun w31 hS31 he31 => ⟨_, rfl, ?_⟩, trivial⟩
              clear h_ a_ he31 hS12
              replace hS31 : S (kap W) ((blkA g7 36 #[i6 ((withF m.held 60 m.held.hd.seq).hd.age), i6 ((withF m.held 60 m.held.hd.seq).hd.kind), i6 ((withF m.held 60 m.held.hd.seq).hd.id), i6 ((withF m.held 60 m.held.hd.seq).hd.adv), i6 ((withF m.held 60 m.held.hd.seq).hd.seq), i6 ((withF m.held 60 m.held.hd.seq).hd.sum), i6 ((withF m.held 60 m.held.hd.seq).hd.long), .slice q6.A ((withF m.held 60 m.held.hd.seq).links.length) q6.c, .slice q6.B ((withF m.held 60 m.held.hd.seq).mem.length) q6.d, i6 2]) :: (blkA g4 36 #[i6 0, i6 0, i6 0, i6 0, i6 0, i6 0, i6 0, .slice none 0 0, .slice none 0 0, i6 3]) :: (blkA g3 29 #[i6 m.want.hd.age, i6 m.want.hd.kind, i6 m.want.hd.id, i6 m.want.hd.adv, i6 m.want.hd.seq, i6 m.want.hd.sum, i6 m.want.hd.long, .slice p.A m.want.links.length p.c, .slice p.B m.want.mem.length p.d, .bool true, i6 m.held.hd.age, i6 m.held.hd.kind, i6 m.held.hd.id, i6 m.held.hd.adv, i6 m.held.hd.seq, i6 m.held.hd.sum, i6 m.held.hd.long, .slice q.A m.held.links.length q.c, .slice q.B m.held.mem.length q.d, .bool true, i6 m.last, i6 m.at_, .bool true]) :: []) ((rowB W.heap.size (.slice q6.A (withF m.held 60 m.held.hd.seq).links.length q6.c) 69 4 (withF m.held 60 m.held.hd.seq).links.length (rowC Lk.cells (withF m.held 60 m.held.hd.seq).links)) :: (rowB W.heap.size (.slice q6.B (withF m.held 60 m.held.hd.seq).mem.length q6.d) 3 1 (withF m.held 60 m.held.hd.seq).mem.length (ints (withF m.held 60 m.held.hd.seq).mem)) :: (memA W W.heap.size) :: []) w31 := hS31
              intro a30 hput
              replace s2 := hput.o 2 s2
              replace s4 := hput.o 4 s4
              replace hz := hput.size.trans hz
              replace hd := hput.defers.trans hd
              clear hput s104
              change Code.wp _ _ _ _ _
              refine wp_ret ?_
              refine retC (P := Try.prog) (fn := Try.f12) hd s4 (hS31.blk (i := 1) rfl) (hR_ _ _ ?_) Try.underlying36
              have hf : planF ({ m with wanted := true, is_ := true, ever := true } : MV) now = ((default : LV), 3) := by simp only [planF, restF, livesF, numberF, flushF, withF] <;> first | rfl | (simp_all; done) | (simp_all; omega) | grind
              rw [hf]
              exact ⟨⟨none, 0, none, 0⟩, rfl, LOwn.none_ _ _, (hS31.old (by simp))⟩
        · clear s90
          refine wp_skip ?_
          change Code.wp _ _ _ _ _
          refine wp_seq ?_
          refine wp_seq ?_
          refine seq_l [] hz ?_
          refine ⟨i6 m.last, fun _ h_ => rmv (h_.b 7 s7),
           .bool (decide ((m.last : Int) < 2147483647)), fun _ h_ => rk (run_cmp rfl (h_.d 0 95) rfl rfl (by first | rfl | exact neq_dec _ _ | exact eq_dec _ _ | simp)), ?_⟩
          intro a32 hput
          replace s2 := hput.o 2 s2
          replace s4 := hput.o 4 s4
          replace s5 := hput.o 5 s5
          replace s6 := hput.o 6 s6
          replace s7 := hput.o 7 s7
          have s96 : sl a32 96 = .bool (decide ((m.last : Int) < 2147483647)) := hput.new 1 96 rfl
          replace hz := hput.size.trans hz
          replace hd := hput.defers.trans hd
          clear hput
          change Code.wp _ _ _ _ _
          refine wp_cond_d s96 (fun hc96 => ?_) (fun hc96 => ?_)
          · clear s96
            refine wp_seq ?_
            refine seq_l [3, 4] hz ?_
            refine ⟨.agg #[i6 m.want.hd.age, i6 m.want.hd.kind, i6 m.want.hd.id, i6 m.want.hd.adv, i6 m.want.hd.seq, i6 m.want.hd.sum, i6 m.want.hd.long, .slice p.A m.want.links.length p.c, .slice p.B m.want.mem.length p.d, .bool true, i6 m.held.hd.age, i6 m.held.hd.kind, i6 m.held.hd.id, i6 m.held.hd.adv, i6 m.held.hd.seq, i6 m.held.hd.sum, i6 m.held.hd.long, .slice q.A m.held.links.length q.c, .slice q.B m.held.mem.length q.d, .bool true, i6 m.last, i6 m.at_, .bool true], fun _ h_ => rk (lbS 23 (hS12.blk (i := 2) rfl) rfl (h_.b 2 s2)),
             i6 m.last, fun _ h_ => rmv (h_.b 7 s7),
             i6 (m.last + 1), fun _ h_ => rk (run_addI rfl (h_.d 1 98) rfl (by omega) rfl), ?_⟩
            refine ⟨fun a_ h_ => st_call (on_none rfl) (run_call rfl (map2 (h_.d 0 97) (h_.d 2 99)) rfl) (told19_any ({ m with wanted := true, is_ := true, ever := true } : MV) p q (m.last + 1) _ hw1 hw2 hh1 hh2 (⟨(hok.below (hS12.old (by simp))).want, (hok.below (hS12.old (by simp))).held⟩ : MOK _ ({ m with wanted := true, is_ := true, ever := true } : MV) p q)) ?_, trivial⟩
            rintro e w34 ⟨q34, rfl, hO, hb34⟩
            refine ⟨_, rfl, _, rfl, ?_⟩
            clear h_ a_
            have hS34 := hS12.pushLB (hS12.old (by simp)).size hb34 hO
            clear hO hb34 hS12
            refine ⟨fun a_ h_ => st_store (n := 10) (cells := #[i6 ((tellF ({ m with wanted := true, is_ := true, ever := true } : MV) (m.last + 1)).hd.age), i6 ((tellF ({ m with wanted := true, is_ := true, ever := true } : MV) (m.last + 1)).hd.kind), i6 ((tellF ({ m with wanted := true, is_ := true, ever := true } : MV) (m.last + 1)).hd.id), i6 ((tellF ({ m with wanted := true, is_ := true, ever := true } : MV) (m.last + 1)).hd.adv), i6 ((tellF ({ m with wanted := true, is_ := true, ever := true } : MV) (m.last + 1)).hd.seq), i6 ((tellF ({ m with wanted := true, is_ := true, ever := true } : MV) (m.last + 1)).hd.sum), i6 ((tellF ({ m with wanted := true, is_ := true, ever := true } : MV) (m.last + 1)).hd.long), .slice q34.A ((tellF ({ m with wanted := true, is_ := true, ever := true } : MV) (m.last + 1)).links.length) q34.c, .slice q34.B ((tellF ({ m with wanted := true, is_ := true, ever := true } : MV) (m.last + 1)).mem.length) q34.d, i6 1]) (cs' := #[i6 ((tellF ({ m with wanted := true, is_ := true, ever := true } : MV) (m.last + 1)).hd.age), i6 ((tellF ({ m with wanted := true, is_ := true, ever := true } : MV) (m.last + 1)).hd.kind), i6 ((tellF ({ m with wanted := true, is_ := true, ever := true } : MV) (m.last + 1)).hd.id), i6 ((tellF ({ m with wanted := true, is_ := true, ever := true } : MV) (m.last + 1)).hd.adv), i6 ((tellF ({ m with wanted := true, is_ := true, ever := true } : MV) (m.last + 1)).hd.seq), i6 ((tellF ({ m with wanted := true, is_ := true, ever := true } : MV) (m.last + 1)).hd.sum), i6 ((tellF ({ m with wanted := true, is_ := true, ever := true } : MV) (m.last + 1)).hd.long), .slice q34.A ((tellF ({ m with wanted := true, is_ := true, ever := true } : MV) (m.last + 1)).links.length) q34.c, .slice q34.B ((tellF ({ m with wanted := true, is_ := true, ever := true } : MV) (m.last + 1)).mem.length) q34.d, i6 1]) 1 hS34 rfl (on_none rfl) rfl (h_.b 4 s4) (h_.d 3 100) rfl (by kernel_rfl) ⟨Nat.le_of_ble_eq_true rfl, rfl, by kernel_rfl⟩ rfl fun w35 hS35 he35 => ⟨_, rfl, ?_⟩, trivial⟩
            clear h_ a_ he35 hS34
            replace hS35 : S (kap W) ((blkA g7 36 #[i6 ((withF m.held 60 m.held.hd.seq).hd.age), i6 ((withF m.held 60 m.held.hd.seq).hd.kind), i6 ((withF m.held 60 m.held.hd.seq).hd.id), i6 ((withF m.held 60 m.held.hd.seq).hd.adv), i6 ((withF m.held 60 m.held.hd.seq).hd.seq), i6 ((withF m.held 60 m.held.hd.seq).hd.sum), i6 ((withF m.held 60 m.held.hd.seq).hd.long), .slice q6.A ((withF m.held 60 m.held.hd.seq).links.length) q6.c, .slice q6.B ((withF m.held 60 m.held.hd.seq).mem.length) q6.d, i6 2]) :: (blkA g4 36 #[i6 ((tellF ({ m with wanted := true, is_ := true, ever := true } : MV) (m.last + 1)).hd.age), i6 ((tellF ({ m with wanted := true, is_ := true, ever := true } : MV) (m.last + 1)).hd.kind), i6 ((tellF ({ m with wanted := true, is_ := true, ever := true } : MV) (m.last + 1)).hd.id), i6 ((tellF ({ m with wanted := true, is_ := true, ever := true } : MV) (m.last + 1)).hd.adv), i6 ((tellF ({ m with wanted := true, is_ := true, ever := true } : MV) (m.last + 1)).hd.seq), i6 ((tellF ({ m with wanted := true, is_ := true, ever := true } : MV) (m.last + 1)).hd.sum), i6 ((tellF ({ m with wanted := true, is_ := true, ever := true } : MV) (m.last + 1)).hd.long), .slice q34.A ((tellF ({ m with wanted := true, is_ := true, ever := true } : MV) (m.last + 1)).links.length) q34.c, .slice q34.B ((tellF ({ m with wanted := true, is_ := true, ever := true } : MV) (m.last + 1)).mem.length) q34.d, i6 1]) :: (blkA g3 29 #[i6 m.want.hd.age, i6 m.want.hd.kind, i6 m.want.hd.id, i6 m.want.hd.adv, i6 m.want.hd.seq, i6 m.want.hd.sum, i6 m.want.hd.long, .slice p.A m.want.links.length p.c, .slice p.B m.want.mem.length p.d, .bool true, i6 m.held.hd.age, i6 m.held.hd.kind, i6 m.held.hd.id, i6 m.held.hd.adv, i6 m.held.hd.seq, i6 m.held.hd.sum, i6 m.held.hd.long, .slice q.A m.held.links.length q.c, .slice q.B m.held.mem.length q.d, .bool true, i6 m.last, i6 m.at_, .bool true]) :: []) ((rowB W.heap.size (.slice q34.A (tellF ({ m with wanted := true, is_ := true, ever := true } : MV) (m.last + 1)).links.length q34.c) 69 4 (tellF ({ m with wanted := true, is_ := true, ever := true } : MV) (m.last + 1)).links.length (rowC Lk.cells (tellF ({ m with wanted := true, is_ := true, ever := true } : MV) (m.last + 1)).links)) :: (rowB W.heap.size (.slice q34.B (tellF ({ m with wanted := true, is_ := true, ever := true } : MV) (m.last + 1)).mem.length q34.d) 3 1 (tellF ({ m with wanted := true, is_ := true, ever := true } : MV) (m.last + 1)).mem.length (ints (tellF ({ m with wanted := true, is_ := true, ever := true } : MV) (m.last + 1)).mem)) :: (rowB W.heap.size (.slice q6.A (withF m.held 60 m.held.hd.seq).links.length q6.c) 69 4 (withF m.held 60 m.held.hd.seq).links.length (rowC Lk.cells (withF m.held 60 m.held.hd.seq).links)) :: (rowB W.heap.size (.slice q6.B (withF m.held 60 m.held.hd.seq).mem.length q6.d) 3 1 (withF m.held 60 m.held.hd.seq).mem.length (ints (withF m.held 60 m.held.hd.seq).mem)) :: (memA W W.heap.size) :: []) w35 := hS35
            intro a33 hput
            replace s2 := hput.o 2 s2
            replace s4 := hput.o 4 s4
            replace s5 := hput.o 5 s5
            replace s6 := hput.o 6 s6
            replace hz := hput.size.trans hz
            replace hd := hput.defers.trans hd
            clear hput s7
            change Code.wp _ _ _ _ _
            refine wp_ret ?_
            refine retC (P := Try.prog) (fn := Try.f12) hd s4 (hS35.blk (i := 1) rfl) (hR_ _ _ ?_) Try.underlying36
            have hf : planF ({ m with wanted := true, is_ := true, ever := true } : MV) now = ((tellF ({ m with wanted := true, is_ := true, ever := true } : MV) (m.last + 1)), 1) := by simp only [planF, restF, livesF, numberF, flushF, withF] <;> first | rfl | (simp_all; done) | (simp_all; omega) | grind
            rw [hf]
            exact ⟨q34, rfl, lown_of (l := (tellF ({ m with wanted := true, is_ := true, ever := true } : MV) (m.last + 1))) hS35 0, (hS35.old (by simp))⟩
          · clear s96
            refine wp_skip ?_
            change Code.wp _ _ _ _ _
            refine wp_seq ?_
            refine wp_seq ?_
            refine seq_l [] hz ?_
            refine ⟨.bool (decide ((m.held.hd.age : Int) ≠ 60)), fun _ h_ => rmv (h_.b 6 s6), ?_⟩
            intro a36 hput
            replace s2 := hput.o 2 s2
            replace s4 := hput.o 4 s4
            replace s5 := hput.o 5 s5
            have s101 : sl a36 101 = .bool (decide ((m.held.hd.age : Int) ≠ 60)) := hput.new 0 101 rfl
            replace hz := hput.size.trans hz
            replace hd := hput.defers.trans hd
            clear hput s6 s7
            change Code.wp _ _ _ _ _
            refine wp_cond_d s101 (fun hc101 => ?_) (fun hc101 => ?_)
            · clear s101
              refine wp_seq ?_
              refine seq_l [1] hz ?_
              refine ⟨.agg #[i6 ((withF m.held 60 m.held.hd.seq).hd.age), i6 ((withF m.held 60 m.held.hd.seq).hd.kind), i6 ((withF m.held 60 m.held.hd.seq).hd.id), i6 ((withF m.held 60 m.held.hd.seq).hd.adv), i6 ((withF m.held 60 m.held.hd.seq).hd.seq), i6 ((withF m.held 60 m.held.hd.seq).hd.sum), i6 ((withF m.held 60 m.held.hd.seq).hd.long), .slice q6.A ((withF m.held 60 m.held.hd.seq).links.length) q6.c, .slice q6.B ((withF m.held 60 m.held.hd.seq).mem.length) q6.d, i6 2], fun _ h_ => rk (lbS 10 (hS12.blk (i := 0) rfl) rfl (h_.b 5 s5)), ?_⟩
              refine ⟨fun a_ h_ => st_store (n := 10) (cells := #[i6 ((withF m.held 60 m.held.hd.seq).hd.age), i6 ((withF m.held 60 m.held.hd.seq).hd.kind), i6 ((withF m.held 60 m.held.hd.seq).hd.id), i6 ((withF m.held 60 m.held.hd.seq).hd.adv), i6 ((withF m.held 60 m.held.hd.seq).hd.seq), i6 ((withF m.held 60 m.held.hd.seq).hd.sum), i6 ((withF m.held 60 m.held.hd.seq).hd.long), .slice q6.A ((withF m.held 60 m.held.hd.seq).links.length) q6.c, .slice q6.B ((withF m.held 60 m.held.hd.seq).mem.length) q6.d, i6 2]) (cs' := #[i6 ((withF m.held 60 m.held.hd.seq).hd.age), i6 ((withF m.held 60 m.held.hd.seq).hd.kind), i6 ((withF m.held 60 m.held.hd.seq).hd.id), i6 ((withF m.held 60 m.held.hd.seq).hd.adv), i6 ((withF m.held 60 m.held.hd.seq).hd.seq), i6 ((withF m.held 60 m.held.hd.seq).hd.sum), i6 ((withF m.held 60 m.held.hd.seq).hd.long), .slice q6.A ((withF m.held 60 m.held.hd.seq).links.length) q6.c, .slice q6.B ((withF m.held 60 m.held.hd.seq).mem.length) q6.d, i6 2]) 1 hS12 rfl (on_none rfl) rfl (h_.b 4 s4) (h_.d 0 102) rfl (by kernel_rfl) ⟨Nat.le_of_ble_eq_true rfl, rfl, by kernel_rfl⟩ rfl fun w38 hS38 he38 => ⟨_, rfl, ?_⟩, trivial⟩
              clear h_ a_ he38 hS12
              replace hS38 : S (kap W) ((blkA g7 36 #[i6 ((withF m.held 60 m.held.hd.seq).hd.age), i6 ((withF m.held 60 m.held.hd.seq).hd.kind), i6 ((withF m.held 60 m.held.hd.seq).hd.id), i6 ((withF m.held 60 m.held.hd.seq).hd.adv), i6 ((withF m.held 60 m.held.hd.seq).hd.seq), i6 ((withF m.held 60 m.held.hd.seq).hd.sum), i6 ((withF m.held 60 m.held.hd.seq).hd.long), .slice q6.A ((withF m.held 60 m.held.hd.seq).links.length) q6.c, .slice q6.B ((withF m.held 60 m.held.hd.seq).mem.length) q6.d, i6 2]) :: (blkA g4 36 #[i6 ((withF m.held 60 m.held.hd.seq).hd.age), i6 ((withF m.held 60 m.held.hd.seq).hd.kind), i6 ((withF m.held 60 m.held.hd.seq).hd.id), i6 ((withF m.held 60 m.held.hd.seq).hd.adv), i6 ((withF m.held 60 m.held.hd.seq).hd.seq), i6 ((withF m.held 60 m.held.hd.seq).hd.sum), i6 ((withF m.held 60 m.held.hd.seq).hd.long), .slice q6.A ((withF m.held 60 m.held.hd.seq).links.length) q6.c, .slice q6.B ((withF m.held 60 m.held.hd.seq).mem.length) q6.d, i6 2]) :: (blkA g3 29 #[i6 m.want.hd.age, i6 m.want.hd.kind, i6 m.want.hd.id, i6 m.want.hd.adv, i6 m.want.hd.seq, i6 m.want.hd.sum, i6 m.want.hd.long, .slice p.A m.want.links.length p.c, .slice p.B m.want.mem.length p.d, .bool true, i6 m.held.hd.age, i6 m.held.hd.kind, i6 m.held.hd.id, i6 m.held.hd.adv, i6 m.held.hd.seq, i6 m.held.hd.sum, i6 m.held.hd.long, .slice q.A m.held.links.length q.c, .slice q.B m.held.mem.length q.d, .bool true, i6 m.last, i6 m.at_, .bool true]) :: []) ((rowB W.heap.size (.slice q6.A (withF m.held 60 m.held.hd.seq).links.length q6.c) 69 4 (withF m.held 60 m.held.hd.seq).links.length (rowC Lk.cells (withF m.held 60 m.held.hd.seq).links)) :: (rowB W.heap.size (.slice q6.B (withF m.held 60 m.held.hd.seq).mem.length q6.d) 3 1 (withF m.held 60 m.held.hd.seq).mem.length (ints (withF m.held 60 m.held.hd.seq).mem)) :: (memA W W.heap.size) :: []) w38 := hS38
              intro a37 hput
              replace s2 := hput.o 2 s2
              replace s4 := hput.o 4 s4
              replace hz := hput.size.trans hz
              replace hd := hput.defers.trans hd
              clear hput s5
              change Code.wp _ _ _ _ _
              refine wp_ret ?_
              refine retC (P := Try.prog) (fn := Try.f12) hd s4 (hS38.blk (i := 1) rfl) (hR_ _ _ ?_) Try.underlying36
              have hf : planF ({ m with wanted := true, is_ := true, ever := true } : MV) now = ((withF m.held 60 m.held.hd.seq), 2) := by simp only [planF, restF, livesF, numberF, flushF, withF] <;> first | rfl | (simp_all; done) | (simp_all; omega) | grind
              rw [hf]
              exact ⟨q6, rfl, lown_of (l := (withF m.held 60 m.held.hd.seq)) hS38 0, (hS38.old (by simp))⟩
            · clear s101
              refine wp_skip ?_
              change Code.wp _ _ _ _ _
              refine wp_seq ?_
              refine wp_seq ?_
              refine seq_l [] hz ?_
              refine ⟨pt g3 19, fun _ h_ => rk (fa 19 rfl (h_.b 2 s2)),
               .bool true, fun _ h_ => rk (ld hS12 2 rfl (h_.d 0 103)), ?_⟩
              intro a39 hput
              replace s2 := hput.o 2 s2
              replace s4 := hput.o 4 s4
              have s104 : sl a39 104 = .bool true := hput.new 1 104 rfl
              replace hz := hput.size.trans hz
              replace hd := hput.defers.trans hd
              clear hput s5
              change Code.wp _ _ _ _ _
              refine wp_cond_true s104 ?_
              refine wp_seq ?_
              refine seq_l [1] hz ?_
              refine ⟨.agg #[i6 0, i6 0, i6 0, i6 0, i6 0, i6 0, i6 0, .slice none 0 0, .slice none 0 0, i6 3], fun _ h_ => rk (run_build (vals := #[(1, i6 3)]) (r := .agg #[i6 0, i6 0, i6 0, i6 0, i6 0, i6 0, i6 0, .slice none 0 0, .slice none 0 0, i6 3]) rfl (bp1 rfl) (by kernel_rfl)), ?_⟩
              refine ⟨fun a_ h_ => st_store (n := 10) (cells := #[i6 0, i6 0, i6 0, i6 0, i6 0, i6 0, i6 0, .slice none 0 0, .slice none 0 0, i6 3]) (cs' := #[i6 0, i6 0, i6 0, i6 0, i6 0, i6 0, i6 0, .slice none 0 0, .slice none 0 0, i6 3]) 1 hS12 rfl (on_none rfl) rfl (h_.b 4 s4) (h_.d 0 105) rfl (by kernel_rfl) ⟨Nat.le_of_ble_eq_true rfl, rfl, by kernel_rfl⟩ rfl fun w41 hS41 he41 => ⟨_, rfl, ?_⟩, trivial⟩
              clear h_ a_ he41 hS12
              replace hS41 : S (kap W) ((blkA g7 36 #[i6 ((withF m.held 60 m.held.hd.seq).hd.age), i6 ((withF m.held 60 m.held.hd.seq).hd.kind), i6 ((withF m.held 60 m.held.hd.seq).hd.id), i6 ((withF m.held 60 m.held.hd.seq).hd.adv), i6 ((withF m.held 60 m.held.hd.seq).hd.seq), i6 ((withF m.held 60 m.held.hd.seq).hd.sum), i6 ((withF m.held 60 m.held.hd.seq).hd.long), .slice q6.A ((withF m.held 60 m.held.hd.seq).links.length) q6.c, .slice q6.B ((withF m.held 60 m.held.hd.seq).mem.length) q6.d, i6 2]) :: (blkA g4 36 #[i6 0, i6 0, i6 0, i6 0, i6 0, i6 0, i6 0, .slice none 0 0, .slice none 0 0, i6 3]) :: (blkA g3 29 #[i6 m.want.hd.age, i6 m.want.hd.kind, i6 m.want.hd.id, i6 m.want.hd.adv, i6 m.want.hd.seq, i6 m.want.hd.sum, i6 m.want.hd.long, .slice p.A m.want.links.length p.c, .slice p.B m.want.mem.length p.d, .bool true, i6 m.held.hd.age, i6 m.held.hd.kind, i6 m.held.hd.id, i6 m.held.hd.adv, i6 m.held.hd.seq, i6 m.held.hd.sum, i6 m.held.hd.long, .slice q.A m.held.links.length q.c, .slice q.B m.held.mem.length q.d, .bool true, i6 m.last, i6 m.at_, .bool true]) :: []) ((rowB W.heap.size (.slice q6.A (withF m.held 60 m.held.hd.seq).links.length q6.c) 69 4 (withF m.held 60 m.held.hd.seq).links.length (rowC Lk.cells (withF m.held 60 m.held.hd.seq).links)) :: (rowB W.heap.size (.slice q6.B (withF m.held 60 m.held.hd.seq).mem.length q6.d) 3 1 (withF m.held 60 m.held.hd.seq).mem.length (ints (withF m.held 60 m.held.hd.seq).mem)) :: (memA W W.heap.size) :: []) w41 := hS41
              intro a40 hput
              replace s2 := hput.o 2 s2
              replace s4 := hput.o 4 s4
              replace hz := hput.size.trans hz
              replace hd := hput.defers.trans hd
              clear hput s104
              change Code.wp _ _ _ _ _
              refine wp_ret ?_
              refine retC (P := Try.prog) (fn := Try.f12) hd s4 (hS41.blk (i := 1) rfl) (hR_ _ _ ?_) Try.underlying36
              have hf : planF ({ m with wanted := true, is_ := true, ever := true } : MV) now = ((default : LV), 3) := by simp only [planF, restF, livesF, numberF, flushF, withF] <;> first | rfl | (simp_all; done) | (simp_all; omega) | grind
              rw [hf]
              exact ⟨⟨none, 0, none, 0⟩, rfl, LOwn.none_ _ _, (hS41.old (by simp))⟩
  · rw [he]
    clear he
    refine seq_off (j := 13) (d := 45) (b := true) [14, 15, 16, 17] _ (by kernel_rfl) (.inl rfl) ?_
    refine seq_offe (j := 13) (d := 45) (b := true) (by kernel_rfl) (.inl rfl) ?_
    refine ⟨.bool false, fun _ h_ => r_ok (h_.on 3 35) (run_pick_f rfl (h_.d 13 45) rfl),
     .bool false, fun _ h_ => rk (run_pick_f rfl (h_.d 3 35) (h_.d 19 51)), ?_⟩
    intro a11 hput
    replace s1 := hput.o 1 s1
    replace s2 := hput.o 2 s2
    replace s4 := hput.o 4 s4
    replace s5 := hput.o 5 s5
    replace s6 := hput.o 6 s6
    have s52 : sl a11 52 = .bool false := hput.new 20 52 rfl
    replace hz := hput.size.trans hz
    replace hd := hput.defers.trans hd
    clear hput s30
    change Code.wp _ _ _ _ _
    refine wp_cond_false s52 ?_
    refine wp_skip ?_
    change Code.wp _ _ _ _ _
    refine wp_seq ?_
    refine wp_seq ?_
    refine seq_l [] hz ?_
    refine ⟨pt g3 22, fun _ h_ => rk (fa 22 rfl (h_.b 2 s2)),
     .bool true, fun _ h_ => rk (ld hS8 2 rfl (h_.d 0 54)),
     .bool true, fun _ h_ => rmv (h_.d 1 55),
     i6 now, fun _ h_ => r_ok (h_.on 2 56) (run_move rfl (h_.b 1 s1)),
     pt g3 21, fun _ h_ => r_ok (h_.on 2 56) (fa 21 rfl (h_.b 2 s2)),
     i6 m.at_, fun _ h_ => r_ok (h_.on 2 56) (ld hS8 2 rfl (h_.d 4 58)),
     i6 (now - m.at_), fun _ h_ => r_ok (h_.on 2 56) (run_subI rfl (h_.d 3 57) (h_.d 5 59) (by omega) rfl),
     .bool (decide ((now - m.at_ : Int) < 2)), fun _ h_ => r_ok (h_.on 2 56) (run_cmp rfl (h_.d 6 60) rfl rfl (by first | rfl | exact neq_dec _ _ | exact eq_dec _ _ | simp)),
     .bool (decide ((now - m.at_ : Int) < 2)), fun _ h_ => rk (run_pick_t rfl (h_.d 2 56) (h_.d 7 61)), ?_⟩
    intro a42 hput
    replace s2 := hput.o 2 s2
    replace s4 := hput.o 4 s4
    replace s5 := hput.o 5 s5
    replace s6 := hput.o 6 s6
    have s62 : sl a42 62 = .bool (decide ((now - m.at_ : Int) < 2)) := hput.new 8 62 rfl
    replace hz := hput.size.trans hz
    replace hd := hput.defers.trans hd
    clear hput s1 s52
    change Code.wp _ _ _ _ _
    refine wp_cond_d s62 (fun hc62 => ?_) (fun hc62 => ?_)
    · clear s62
      refine wp_seq ?_
      refine seq_l [1] hz ?_
      refine ⟨.agg #[i6 0, i6 0, i6 0, i6 0, i6 0, i6 0, i6 0, .slice none 0 0, .slice none 0 0, i6 3], fun _ h_ => rk (run_build (vals := #[(1, i6 3)]) (r := .agg #[i6 0, i6 0, i6 0, i6 0, i6 0, i6 0, i6 0, .slice none 0 0, .slice none 0 0, i6 3]) rfl (bp1 rfl) (by kernel_rfl)), ?_⟩
      refine ⟨fun a_ h_ => st_store (n := 10) (cells := #[i6 0, i6 0, i6 0, i6 0, i6 0, i6 0, i6 0, .slice none 0 0, .slice none 0 0, i6 3]) (cs' := #[i6 0, i6 0, i6 0, i6 0, i6 0, i6 0, i6 0, .slice none 0 0, .slice none 0 0, i6 3]) 1 hS8 rfl (on_none rfl) rfl (h_.b 4 s4) (h_.d 0 63) rfl (by kernel_rfl) ⟨Nat.le_of_ble_eq_true rfl, rfl, by kernel_rfl⟩ rfl fun w44 hS44 he44 => ⟨_, rfl, ?_⟩, trivial⟩
      clear h_ a_ he44 hS8
      replace hS44 : S (kap W) ((blkA g7 36 #[i6 ((withF m.held 60 m.held.hd.seq).hd.age), i6 ((withF m.held 60 m.held.hd.seq).hd.kind), i6 ((withF m.held 60 m.held.hd.seq).hd.id), i6 ((withF m.held 60 m.held.hd.seq).hd.adv), i6 ((withF m.held 60 m.held.hd.seq).hd.seq), i6 ((withF m.held 60 m.held.hd.seq).hd.sum), i6 ((withF m.held 60 m.held.hd.seq).hd.long), .slice q6.A ((withF m.held 60 m.held.hd.seq).links.length) q6.c, .slice q6.B ((withF m.held 60 m.held.hd.seq).mem.length) q6.d, i6 2]) :: (blkA g4 36 #[i6 0, i6 0, i6 0, i6 0, i6 0, i6 0, i6 0, .slice none 0 0, .slice none 0 0, i6 3]) :: (blkA g3 29 #[i6 m.want.hd.age, i6 m.want.hd.kind, i6 m.want.hd.id, i6 m.want.hd.adv, i6 m.want.hd.seq, i6 m.want.hd.sum, i6 m.want.hd.long, .slice p.A m.want.links.length p.c, .slice p.B m.want.mem.length p.d, .bool true, i6 m.held.hd.age, i6 m.held.hd.kind, i6 m.held.hd.id, i6 m.held.hd.adv, i6 m.held.hd.seq, i6 m.held.hd.sum, i6 m.held.hd.long, .slice q.A m.held.links.length q.c, .slice q.B m.held.mem.length q.d, .bool true, i6 m.last, i6 m.at_, .bool true]) :: []) ((rowB W.heap.size (.slice q6.A (withF m.held 60 m.held.hd.seq).links.length q6.c) 69 4 (withF m.held 60 m.held.hd.seq).links.length (rowC Lk.cells (withF m.held 60 m.held.hd.seq).links)) :: (rowB W.heap.size (.slice q6.B (withF m.held 60 m.held.hd.seq).mem.length q6.d) 3 1 (withF m.held 60 m.held.hd.seq).mem.length (ints (withF m.held 60 m.held.hd.seq).mem)) :: (memA W W.heap.size) :: []) w44 := hS44
      intro a43 hput
      replace s2 := hput.o 2 s2
      replace s4 := hput.o 4 s4
      replace s5 := hput.o 5 s5
      replace s6 := hput.o 6 s6
      replace hz := hput.size.trans hz
      replace hd := hput.defers.trans hd
      clear hput
      change Code.wp _ _ _ _ _
      refine wp_ret ?_
      refine retC (P := Try.prog) (fn := Try.f12) hd s4 (hS44.blk (i := 1) rfl) (hR_ _ _ ?_) Try.underlying36
      have hf : planF ({ m with wanted := true, is_ := true, ever := true } : MV) now = ((default : LV), 3) := by simp only [planF, restF, livesF, numberF, flushF, withF] <;> first | rfl | (simp_all; done) | (simp_all; omega) | grind
      rw [hf]
      exact ⟨⟨none, 0, none, 0⟩, rfl, LOwn.none_ _ _, (hS44.old (by simp))⟩
    · clear s62
      refine wp_skip ?_
      change Code.wp _ _ _ _ _
      refine wp_seq ?_
      refine wp_seq ?_
      refine seq_l [] hz ?_
      refine ⟨pt g3 19, fun _ h_ => rk (fa 19 rfl (h_.b 2 s2)),
       .bool true, fun _ h_ => rk (ld hS8 2 rfl (h_.d 0 64)),
       .bool false, fun _ h_ => rk (run_not rfl (h_.d 1 65) rfl),
       .bool false, fun _ h_ => rmv (h_.d 2 66), ?_⟩
      refine seq_off (j := 3) (d := 67) (b := true) [4, 5, 6] _ (by kernel_rfl) (.inl rfl) ?_
      refine ⟨.bool false, fun _ h_ => rk (run_pick_f rfl (h_.d 3 67) rfl), ?_⟩
      intro a45 hput
      replace s2 := hput.o 2 s2
      replace s4 := hput.o 4 s4
      replace s5 := hput.o 5 s5
      replace s6 := hput.o 6 s6
      have s71 : sl a45 71 = .bool false := hput.new 7 71 rfl
      replace hz := hput.size.trans hz
      replace hd := hput.defers.trans hd
      clear hput
      change Code.wp _ _ _ _ _
      refine wp_cond_false s71 ?_
      refine wp_skip ?_
      change Code.wp _ _ _ _ _
      refine wp_seq ?_
      refine seq_l [] hz ?_
      refine ⟨pt g3 20, fun _ h_ => rk (fa 20 rfl (h_.b 2 s2)),
       i6 m.last, fun _ h_ => rk (ld hS8 2 rfl (h_.d 0 74)),
       i6 m.last, fun _ h_ => ras (h_.d 1 75), ?_⟩
      intro a46 hput
      replace s2 := hput.o 2 s2
      replace s4 := hput.o 4 s4
      replace s5 := hput.o 5 s5
      replace s6 := hput.o 6 s6
      have s7 : sl a46 7 = i6 m.last := hput.new 2 7 rfl
      replace hz := hput.size.trans hz
      replace hd := hput.defers.trans hd
      clear hput s71
      change Code.wp _ _ _ _ _
      refine wp_seq ?_
      refine wp_seq ?_
      refine seq_l [] hz ?_
      refine ⟨pt g3 22, fun _ h_ => rk (fa 22 rfl (h_.b 2 s2)),
       .bool true, fun _ h_ => rk (ld hS8 2 rfl (h_.d 0 76)),
       .bool false, fun _ h_ => rk (run_not rfl (h_.d 1 77) rfl),
       .bool false, fun _ h_ => rmv (h_.d 2 78),
       pt g3 19, fun _ h_ => r_ok (h_.on 3 79) (fa 19 rfl (h_.b 2 s2)),
       .bool true, fun _ h_ => r_ok (h_.on 3 79) (ld hS8 2 rfl (h_.d 4 80)),
       .bool true, fun _ h_ => r_ok (h_.on 3 79) (run_move rfl (h_.d 5 81)),
       pt g3 10, fun _ h_ => r_ok (h_.on 6 82) (fa 10 rfl (h_.b 2 s2)),
       pt g3 10, fun _ h_ => r_ok (h_.on 6 82) (fa 0 rfl (h_.d 7 83)),
       pt g3 14, fun _ h_ => r_ok (h_.on 6 82) (fa 4 rfl (h_.d 8 84)),
       i6 m.held.hd.seq, fun _ h_ => r_ok (h_.on 6 82) (ld hS8 2 rfl (h_.d 9 85)),
       i6 m.last, fun _ h_ => r_ok (h_.on 6 82) (run_move rfl (h_.b 7 s7)),
       .bool (decide ((m.last : Int) < m.held.hd.seq)), fun _ h_ => r_ok (h_.on 6 82) (run_cmp rfl (h_.d 10 86) (h_.d 11 87) rfl (by first | rfl | exact neq_dec _ _ | exact eq_dec _ _ | simp)),
       .bool (decide ((m.last : Int) < m.held.hd.seq)), fun _ h_ => r_ok (h_.on 3 79) (run_pick_t rfl (h_.d 6 82) (h_.d 12 88)),
       .bool (decide ((m.last : Int) < m.held.hd.seq)), fun _ h_ => rk (run_pick_f rfl (h_.d 3 79) (h_.d 13 89)), ?_⟩
      intro a47 hput
      replace s2 := hput.o 2 s2
      replace s4 := hput.o 4 s4
      replace s5 := hput.o 5 s5
      replace s6 := hput.o 6 s6
      replace s7 := hput.o 7 s7
      have s90 : sl a47 90 = .bool (decide ((m.last : Int) < m.held.hd.seq)) := hput.new 14 90 rfl
      replace hz := hput.size.trans hz
      replace hd := hput.defers.trans hd
      clear hput
      change Code.wp _ _ _ _ _
      refine wp_cond_d s90 (fun hc90 => ?_) (fun hc90 => ?_)
      · clear s90
        refine seq_l [] hz ?_
        refine ⟨pt g3 10, fun _ h_ => rk (fa 10 rfl (h_.b 2 s2)),
         pt g3 10, fun _ h_ => rk (fa 0 rfl (h_.d 0 91)),
         pt g3 14, fun _ h_ => rk (fa 4 rfl (h_.d 1 92)),
         i6 m.held.hd.seq, fun _ h_ => rk (ld hS8 2 rfl (h_.d 2 93)),
         i6 m.held.hd.seq, fun _ h_ => ras (h_.d 3 94), ?_⟩
        intro a48 hput
        replace s2 := hput.o 2 s2
        replace s4 := hput.o 4 s4
        replace s5 := hput.o 5 s5
        replace s6 := hput.o 6 s6
        replace s7 : sl a48 7 = i6 m.held.hd.seq := hput.new 4 7 rfl
        replace hz := hput.size.trans hz
        replace hd := hput.defers.trans hd
        clear hput
        change Code.wp _ _ _ _ _
        refine wp_seq ?_
        refine wp_seq ?_
        refine seq_l [] hz ?_
        refine ⟨i6 m.held.hd.seq, fun _ h_ => rmv (h_.b 7 s7),
         .bool (decide ((m.held.hd.seq : Int) < 2147483647)), fun _ h_ => rk (run_cmp rfl (h_.d 0 95) rfl rfl (by first | rfl | exact neq_dec _ _ | exact eq_dec _ _ | simp)), ?_⟩
        intro a49 hput
        replace s2 := hput.o 2 s2
        replace s4 := hput.o 4 s4
        replace s5 := hput.o 5 s5
        replace s6 := hput.o 6 s6
        replace s7 := hput.o 7 s7
        have s96 : sl a49 96 = .bool (decide ((m.held.hd.seq : Int) < 2147483647)) := hput.new 1 96 rfl
        replace hz := hput.size.trans hz
        replace hd := hput.defers.trans hd
        clear hput
        change Code.wp _ _ _ _ _
        refine wp_cond_d s96 (fun hc96 => ?_) (fun hc96 => ?_)
        · clear s96
          refine wp_seq ?_
          refine seq_l [3, 4] hz ?_
          refine ⟨.agg #[i6 m.want.hd.age, i6 m.want.hd.kind, i6 m.want.hd.id, i6 m.want.hd.adv, i6 m.want.hd.seq, i6 m.want.hd.sum, i6 m.want.hd.long, .slice p.A m.want.links.length p.c, .slice p.B m.want.mem.length p.d, .bool true, i6 m.held.hd.age, i6 m.held.hd.kind, i6 m.held.hd.id, i6 m.held.hd.adv, i6 m.held.hd.seq, i6 m.held.hd.sum, i6 m.held.hd.long, .slice q.A m.held.links.length q.c, .slice q.B m.held.mem.length q.d, .bool true, i6 m.last, i6 m.at_, .bool true], fun _ h_ => rk (lbS 23 (hS8.blk (i := 2) rfl) rfl (h_.b 2 s2)),
           i6 m.held.hd.seq, fun _ h_ => rmv (h_.b 7 s7),
           i6 (m.held.hd.seq + 1), fun _ h_ => rk (run_addI rfl (h_.d 1 98) rfl (by omega) rfl), ?_⟩
          refine ⟨fun a_ h_ => st_call (on_none rfl) (run_call rfl (map2 (h_.d 0 97) (h_.d 2 99)) rfl) (told19_any ({ m with wanted := true, is_ := true, ever := true } : MV) p q (m.held.hd.seq + 1) _ hw1 hw2 hh1 hh2 (⟨(hok.below (hS8.old (by simp))).want, (hok.below (hS8.old (by simp))).held⟩ : MOK _ ({ m with wanted := true, is_ := true, ever := true } : MV) p q)) ?_, trivial⟩
          rintro e w51 ⟨q51, rfl, hO, hb51⟩
          refine ⟨_, rfl, _, rfl, ?_⟩
          clear h_ a_
          have hS51 := hS8.pushLB (hS8.old (by simp)).size hb51 hO
          clear hO hb51 hS8
          refine ⟨fun a_ h_ => st_store (n := 10) (cells := #[i6 ((tellF ({ m with wanted := true, is_ := true, ever := true } : MV) (m.held.hd.seq + 1)).hd.age), i6 ((tellF ({ m with wanted := true, is_ := true, ever := true } : MV) (m.held.hd.seq + 1)).hd.kind), i6 ((tellF ({ m with wanted := true, is_ := true, ever := true } : MV) (m.held.hd.seq + 1)).hd.id), i6 ((tellF ({ m with wanted := true, is_ := true, ever := true } : MV) (m.held.hd.seq + 1)).hd.adv), i6 ((tellF ({ m with wanted := true, is_ := true, ever := true } : MV) (m.held.hd.seq + 1)).hd.seq), i6 ((tellF ({ m with wanted := true, is_ := true, ever := true } : MV) (m.held.hd.seq + 1)).hd.sum), i6 ((tellF ({ m with wanted := true, is_ := true, ever := true } : MV) (m.held.hd.seq + 1)).hd.long), .slice q51.A ((tellF ({ m with wanted := true, is_ := true, ever := true } : MV) (m.held.hd.seq + 1)).links.length) q51.c, .slice q51.B ((tellF ({ m with wanted := true, is_ := true, ever := true } : MV) (m.held.hd.seq + 1)).mem.length) q51.d, i6 1]) (cs' := #[i6 ((tellF ({ m with wanted := true, is_ := true, ever := true } : MV) (m.held.hd.seq + 1)).hd.age), i6 ((tellF ({ m with wanted := true, is_ := true, ever := true } : MV) (m.held.hd.seq + 1)).hd.kind), i6 ((tellF ({ m with wanted := true, is_ := true, ever := true } : MV) (m.held.hd.seq + 1)).hd.id), i6 ((tellF ({ m with wanted := true, is_ := true, ever := true } : MV) (m.held.hd.seq + 1)).hd.adv), i6 ((tellF ({ m with wanted := true, is_ := true, ever := true } : MV) (m.held.hd.seq + 1)).hd.seq), i6 ((tellF ({ m with wanted := true, is_ := true, ever := true } : MV) (m.held.hd.seq + 1)).hd.sum), i6 ((tellF ({ m with wanted := true, is_ := true, ever := true } : MV) (m.held.hd.seq + 1)).hd.long), .slice q51.A ((tellF ({ m with wanted := true, is_ := true, ever := true } : MV) (m.held.hd.seq + 1)).links.length) q51.c, .slice q51.B ((tellF ({ m with wanted := true, is_ := true, ever := true } : MV) (m.held.hd.seq + 1)).mem.length) q51.d, i6 1]) 1 hS51 rfl (on_none rfl) rfl (h_.b 4 s4) (h_.d 3 100) rfl (by kernel_rfl) ⟨Nat.le_of_ble_eq_true rfl, rfl, by kernel_rfl⟩ rfl fun w52 hS52 he52 => ⟨_, rfl, ?_⟩, trivial⟩
          clear h_ a_ he52 hS51
          replace hS52 : S (kap W) ((blkA g7 36 #[i6 ((withF m.held 60 m.held.hd.seq).hd.age), i6 ((withF m.held 60 m.held.hd.seq).hd.kind), i6 ((withF m.held 60 m.held.hd.seq).hd.id), i6 ((withF m.held 60 m.held.hd.seq).hd.adv), i6 ((withF m.held 60 m.held.hd.seq).hd.seq), i6 ((withF m.held 60 m.held.hd.seq).hd.sum), i6 ((withF m.held 60 m.held.hd.seq).hd.long), .slice q6.A ((withF m.held 60 m.held.hd.seq).links.length) q6.c, .slice q6.B ((withF m.held 60 m.held.hd.seq).mem.length) q6.d, i6 2]) :: (blkA g4 36 #[i6 ((tellF ({ m with wanted := true, is_ := true, ever := true } : MV) (m.held.hd.seq + 1)).hd.age), i6 ((tellF ({ m with wanted := true, is_ := true, ever := true } : MV) (m.held.hd.seq + 1)).hd.kind), i6 ((tellF ({ m with wanted := true, is_ := true, ever := true } : MV) (m.held.hd.seq + 1)).hd.id), i6 ((tellF ({ m with wanted := true, is_ := true, ever := true } : MV) (m.held.hd.seq + 1)).hd.adv), i6 ((tellF ({ m with wanted := true, is_ := true, ever := true } : MV) (m.held.hd.seq + 1)).hd.seq), i6 ((tellF ({ m with wanted := true, is_ := true, ever := true } : MV) (m.held.hd.seq + 1)).hd.sum), i6 ((tellF ({ m with wanted := true, is_ := true, ever := true } : MV) (m.held.hd.seq + 1)).hd.long), .slice q51.A ((tellF ({ m with wanted := true, is_ := true, ever := true } : MV) (m.held.hd.seq + 1)).links.length) q51.c, .slice q51.B ((tellF ({ m with wanted := true, is_ := true, ever := true } : MV) (m.held.hd.seq + 1)).mem.length) q51.d, i6 1]) :: (blkA g3 29 #[i6 m.want.hd.age, i6 m.want.hd.kind, i6 m.want.hd.id, i6 m.want.hd.adv, i6 m.want.hd.seq, i6 m.want.hd.sum, i6 m.want.hd.long, .slice p.A m.want.links.length p.c, .slice p.B m.want.mem.length p.d, .bool true, i6 m.held.hd.age, i6 m.held.hd.kind, i6 m.held.hd.id, i6 m.held.hd.adv, i6 m.held.hd.seq, i6 m.held.hd.sum, i6 m.held.hd.long, .slice q.A m.held.links.length q.c, .slice q.B m.held.mem.length q.d, .bool true, i6 m.last, i6 m.at_, .bool true]) :: []) ((rowB W.heap.size (.slice q51.A (tellF ({ m with wanted := true, is_ := true, ever := true } : MV) (m.held.hd.seq + 1)).links.length q51.c) 69 4 (tellF ({ m with wanted := true, is_ := true, ever := true } : MV) (m.held.hd.seq + 1)).links.length (rowC Lk.cells (tellF ({ m with wanted := true, is_ := true, ever := true } : MV) (m.held.hd.seq + 1)).links)) :: (rowB W.heap.size (.slice q51.B (tellF ({ m with wanted := true, is_ := true, ever := true } : MV) (m.held.hd.seq + 1)).mem.length q51.d) 3 1 (tellF ({ m with wanted := true, is_ := true, ever := true } : MV) (m.held.hd.seq + 1)).mem.length (ints (tellF ({ m with wanted := true, is_ := true, ever := true } : MV) (m.held.hd.seq + 1)).mem)) :: (rowB W.heap.size (.slice q6.A (withF m.held 60 m.held.hd.seq).links.length q6.c) 69 4 (withF m.held 60 m.held.hd.seq).links.length (rowC Lk.cells (withF m.held 60 m.held.hd.seq).links)) :: (rowB W.heap.size (.slice q6.B (withF m.held 60 m.held.hd.seq).mem.length q6.d) 3 1 (withF m.held 60 m.held.hd.seq).mem.length (ints (withF m.held 60 m.held.hd.seq).mem)) :: (memA W W.heap.size) :: []) w52 := hS52
          intro a50 hput
          replace s2 := hput.o 2 s2
          replace s4 := hput.o 4 s4
          replace s5 := hput.o 5 s5
          replace s6 := hput.o 6 s6
          replace hz := hput.size.trans hz
          replace hd := hput.defers.trans hd
          clear hput s7
          change Code.wp _ _ _ _ _
          refine wp_ret ?_
          refine retC (P := Try.prog) (fn := Try.f12) hd s4 (hS52.blk (i := 1) rfl) (hR_ _ _ ?_) Try.underlying36
          have hf : planF ({ m with wanted := true, is_ := true, ever := true } : MV) now = ((tellF ({ m with wanted := true, is_ := true, ever := true } : MV) (m.held.hd.seq + 1)), 1) := by simp only [planF, restF, livesF, numberF, flushF, withF] <;> first | rfl | (simp_all; done) | (simp_all; omega) | grind
          rw [hf]
          exact ⟨q51, rfl, lown_of (l := (tellF ({ m with wanted := true, is_ := true, ever := true } : MV) (m.held.hd.seq + 1))) hS52 0, (hS52.old (by simp))⟩
        · clear s96
          refine wp_skip ?_
          change Code.wp _ _ _ _ _
          refine wp_seq ?_
          refine wp_seq ?_
          refine seq_l [] hz ?_
          refine ⟨.bool (decide ((m.held.hd.age : Int) ≠ 60)), fun _ h_ => rmv (h_.b 6 s6), ?_⟩
          intro a53 hput
          replace s2 := hput.o 2 s2
          replace s4 := hput.o 4 s4
          replace s5 := hput.o 5 s5
          have s101 : sl a53 101 = .bool (decide ((m.held.hd.age : Int) ≠ 60)) := hput.new 0 101 rfl
          replace hz := hput.size.trans hz
          replace hd := hput.defers.trans hd
          clear hput s6 s7
          change Code.wp _ _ _ _ _
          refine wp_cond_d s101 (fun hc101 => ?_) (fun hc101 => ?_)
          · clear s101
            refine wp_seq ?_
            refine seq_l [1] hz ?_
            refine ⟨.agg #[i6 ((withF m.held 60 m.held.hd.seq).hd.age), i6 ((withF m.held 60 m.held.hd.seq).hd.kind), i6 ((withF m.held 60 m.held.hd.seq).hd.id), i6 ((withF m.held 60 m.held.hd.seq).hd.adv), i6 ((withF m.held 60 m.held.hd.seq).hd.seq), i6 ((withF m.held 60 m.held.hd.seq).hd.sum), i6 ((withF m.held 60 m.held.hd.seq).hd.long), .slice q6.A ((withF m.held 60 m.held.hd.seq).links.length) q6.c, .slice q6.B ((withF m.held 60 m.held.hd.seq).mem.length) q6.d, i6 2], fun _ h_ => rk (lbS 10 (hS8.blk (i := 0) rfl) rfl (h_.b 5 s5)), ?_⟩
            refine ⟨fun a_ h_ => st_store (n := 10) (cells := #[i6 ((withF m.held 60 m.held.hd.seq).hd.age), i6 ((withF m.held 60 m.held.hd.seq).hd.kind), i6 ((withF m.held 60 m.held.hd.seq).hd.id), i6 ((withF m.held 60 m.held.hd.seq).hd.adv), i6 ((withF m.held 60 m.held.hd.seq).hd.seq), i6 ((withF m.held 60 m.held.hd.seq).hd.sum), i6 ((withF m.held 60 m.held.hd.seq).hd.long), .slice q6.A ((withF m.held 60 m.held.hd.seq).links.length) q6.c, .slice q6.B ((withF m.held 60 m.held.hd.seq).mem.length) q6.d, i6 2]) (cs' := #[i6 ((withF m.held 60 m.held.hd.seq).hd.age), i6 ((withF m.held 60 m.held.hd.seq).hd.kind), i6 ((withF m.held 60 m.held.hd.seq).hd.id), i6 ((withF m.held 60 m.held.hd.seq).hd.adv), i6 ((withF m.held 60 m.held.hd.seq).hd.seq), i6 ((withF m.held 60 m.held.hd.seq).hd.sum), i6 ((withF m.held 60 m.held.hd.seq).hd.long), .slice q6.A ((withF m.held 60 m.held.hd.seq).links.length) q6.c, .slice q6.B ((withF m.held 60 m.held.hd.seq).mem.length) q6.d, i6 2]) 1 hS8 rfl (on_none rfl) rfl (h_.b 4 s4) (h_.d 0 102) rfl (by kernel_rfl) ⟨Nat.le_of_ble_eq_true rfl, rfl, by kernel_rfl⟩ rfl fun w55 hS55 he55 => ⟨_, rfl, ?_⟩, trivial⟩
            clear h_ a_ he55 hS8
            replace hS55 : S (kap W) ((blkA g7 36 #[i6 ((withF m.held 60 m.held.hd.seq).hd.age), i6 ((withF m.held 60 m.held.hd.seq).hd.kind), i6 ((withF m.held 60 m.held.hd.seq).hd.id), i6 ((withF m.held 60 m.held.hd.seq).hd.adv), i6 ((withF m.held 60 m.held.hd.seq).hd.seq), i6 ((withF m.held 60 m.held.hd.seq).hd.sum), i6 ((withF m.held 60 m.held.hd.seq).hd.long), .slice q6.A ((withF m.held 60 m.held.hd.seq).links.length) q6.c, .slice q6.B ((withF m.held 60 m.held.hd.seq).mem.length) q6.d, i6 2]) :: (blkA g4 36 #[i6 ((withF m.held 60 m.held.hd.seq).hd.age), i6 ((withF m.held 60 m.held.hd.seq).hd.kind), i6 ((withF m.held 60 m.held.hd.seq).hd.id), i6 ((withF m.held 60 m.held.hd.seq).hd.adv), i6 ((withF m.held 60 m.held.hd.seq).hd.seq), i6 ((withF m.held 60 m.held.hd.seq).hd.sum), i6 ((withF m.held 60 m.held.hd.seq).hd.long), .slice q6.A ((withF m.held 60 m.held.hd.seq).links.length) q6.c, .slice q6.B ((withF m.held 60 m.held.hd.seq).mem.length) q6.d, i6 2]) :: (blkA g3 29 #[i6 m.want.hd.age, i6 m.want.hd.kind, i6 m.want.hd.id, i6 m.want.hd.adv, i6 m.want.hd.seq, i6 m.want.hd.sum, i6 m.want.hd.long, .slice p.A m.want.links.length p.c, .slice p.B m.want.mem.length p.d, .bool true, i6 m.held.hd.age, i6 m.held.hd.kind, i6 m.held.hd.id, i6 m.held.hd.adv, i6 m.held.hd.seq, i6 m.held.hd.sum, i6 m.held.hd.long, .slice q.A m.held.links.length q.c, .slice q.B m.held.mem.length q.d, .bool true, i6 m.last, i6 m.at_, .bool true]) :: []) ((rowB W.heap.size (.slice q6.A (withF m.held 60 m.held.hd.seq).links.length q6.c) 69 4 (withF m.held 60 m.held.hd.seq).links.length (rowC Lk.cells (withF m.held 60 m.held.hd.seq).links)) :: (rowB W.heap.size (.slice q6.B (withF m.held 60 m.held.hd.seq).mem.length q6.d) 3 1 (withF m.held 60 m.held.hd.seq).mem.length (ints (withF m.held 60 m.held.hd.seq).mem)) :: (memA W W.heap.size) :: []) w55 := hS55
            intro a54 hput
            replace s2 := hput.o 2 s2
            replace s4 := hput.o 4 s4
            replace hz := hput.size.trans hz
            replace hd := hput.defers.trans hd
            clear hput s5
            change Code.wp _ _ _ _ _
            refine wp_ret ?_
            refine retC (P := Try.prog) (fn := Try.f12) hd s4 (hS55.blk (i := 1) rfl) (hR_ _ _ ?_) Try.underlying36
            have hf : planF ({ m with wanted := true, is_ := true, ever := true } : MV) now = ((withF m.held 60 m.held.hd.seq), 2) := by simp only [planF, restF, livesF, numberF, flushF, withF] <;> first | rfl | (simp_all; done) | (simp_all; omega) | grind
            rw [hf]
            exact ⟨q6, rfl, lown_of (l := (withF m.held 60 m.held.hd.seq)) hS55 0, (hS55.old (by simp))⟩
          · clear s101
            refine wp_skip ?_
            change Code.wp _ _ _ _ _
            refine wp_seq ?_
            refine wp_seq ?_
            refine seq_l [] hz ?_
            refine ⟨pt g3 19, fun _ h_ => rk (fa 19 rfl (h_.b 2 s2)),
             .bool true, fun _ h_ => rk (ld hS8 2 rfl (h_.d 0 103)), ?_⟩
            intro a56 hput
            replace s2 := hput.o 2 s2
            replace s4 := hput.o 4 s4
            have s104 : sl a56 104 = .bool true := hput.new 1 104 rfl
            replace hz := hput.size.trans hz
            replace hd := hput.defers.trans hd
            clear hput s5
            change Code.wp _ _ _ _ _
            refine wp_cond_true s104 ?_
            refine wp_seq ?_
            refine seq_l [1] hz ?_
            refine ⟨.agg #[i6 0, i6 0, i6 0, i6 0, i6 0, i6 0, i6 0, .slice none 0 0, .slice none 0 0, i6 3], fun _ h_ => rk (run_build (vals := #[(1, i6 3)]) (r := .agg #[i6 0, i6 0, i6 0, i6 0, i6 0, i6 0, i6 0, .slice none 0 0, .slice none 0 0, i6 3]) rfl (bp1 rfl) (by kernel_rfl)), ?_⟩
            refine ⟨fun a_ h_ => st_store (n := 10) (cells := #[i6 0, i6 0, i6 0, i6 0, i6 0, i6 0, i6 0, .slice none 0 0, .slice none 0 0, i6 3]) (cs' := #[i6 0, i6 0, i6 0, i6 0, i6 0, i6 0, i6 0, .slice none 0 0, .slice none 0 0, i6 3]) 1 hS8 rfl (on_none rfl) rfl (h_.b 4 s4) (h_.d 0 105) rfl (by kernel_rfl) ⟨Nat.le_of_ble_eq_true rfl, rfl, by kernel_rfl⟩ rfl fun w58 hS58 he58 => ⟨_, rfl, ?_⟩, trivial⟩
            clear h_ a_ he58 hS8
            replace hS58 : S (kap W) ((blkA g7 36 #[i6 ((withF m.held 60 m.held.hd.seq).hd.age), i6 ((withF m.held 60 m.held.hd.seq).hd.kind), i6 ((withF m.held 60 m.held.hd.seq).hd.id), i6 ((withF m.held 60 m.held.hd.seq).hd.adv), i6 ((withF m.held 60 m.held.hd.seq).hd.seq), i6 ((withF m.held 60 m.held.hd.seq).hd.sum), i6 ((withF m.held 60 m.held.hd.seq).hd.long), .slice q6.A ((withF m.held 60 m.held.hd.seq).links.length) q6.c, .slice q6.B ((withF m.held 60 m.held.hd.seq).mem.length) q6.d, i6 2]) :: (blkA g4 36 #[i6 0, i6 0, i6 0, i6 0, i6 0, i6 0, i6 0, .slice none 0 0, .slice none 0 0, i6 3]) :: (blkA g3 29 #[i6 m.want.hd.age, i6 m.want.hd.kind, i6 m.want.hd.id, i6 m.want.hd.adv, i6 m.want.hd.seq, i6 m.want.hd.sum, i6 m.want.hd.long, .slice p.A m.want.links.length p.c, .slice p.B m.want.mem.length p.d, .bool true, i6 m.held.hd.age, i6 m.held.hd.kind, i6 m.held.hd.id, i6 m.held.hd.adv, i6 m.held.hd.seq, i6 m.held.hd.sum, i6 m.held.hd.long, .slice q.A m.held.links.length q.c, .slice q.B m.held.mem.length q.d, .bool true, i6 m.last, i6 m.at_, .bool true]) :: []) ((rowB W.heap.size (.slice q6.A (withF m.held 60 m.held.hd.seq).links.length q6.c) 69 4 (withF m.held 60 m.held.hd.seq).links.length (rowC Lk.cells (withF m.held 60 m.held.hd.seq).links)) :: (rowB W.heap.size (.slice q6.B (withF m.held 60 m.held.hd.seq).mem.length q6.d) 3 1 (withF m.held 60 m.held.hd.seq).mem.length (ints (withF m.held 60 m.held.hd.seq).mem)) :: (memA W W.heap.size) :: []) w58 := hS58
            intro a57 hput
            replace s2 := hput.o 2 s2
            replace s4 := hput.o 4 s4
            replace hz := hput.size.trans hz
            replace hd := hput.defers.trans hd
            clear hput s104
            change Code.wp _ _ _ _ _
            refine wp_ret ?_
            refine retC (P := Try.prog) (fn := Try.f12) hd s4 (hS58.blk (i := 1) rfl) (hR_ _ _ ?_) Try.underlying36
            have hf : planF ({ m with wanted := true, is_ := true, ever := true } : MV) now = ((default : LV), 3) := by simp only [planF, restF, livesF, numberF, flushF, withF] <;> first | rfl | (simp_all; done) | (simp_all; omega) | grind
            rw [hf]
            exact ⟨⟨none, 0, none, 0⟩, rfl, LOwn.none_ _ _, (hS58.old (by simp))⟩
      · clear s90
        refine wp_skip ?_
        change Code.wp _ _ _ _ _
        refine wp_seq ?_
        refine wp_seq ?_
        refine seq_l [] hz ?_
        refine ⟨i6 m.last, fun _ h_ => rmv (h_.b 7 s7),
         .bool (decide ((m.last : Int) < 2147483647)), fun _ h_ => rk (run_cmp rfl (h_.d 0 95) rfl rfl (by first | rfl | exact neq_dec _ _ | exact eq_dec _ _ | simp)), ?_⟩
        intro a59 hput
        replace s2 := hput.o 2 s2
        replace s4 := hput.o 4 s4
        replace s5 := hput.o 5 s5
        replace s6 := hput.o 6 s6
        replace s7 := hput.o 7 s7
        have s96 : sl a59 96 = .bool (decide ((m.last : Int) < 2147483647)) := hput.new 1 96 rfl
        replace hz := hput.size.trans hz
        replace hd := hput.defers.trans hd
        clear hput
        change Code.wp _ _ _ _ _
        refine wp_cond_d s96 (fun hc96 => ?_) (fun hc96 => ?_)
        · clear s96
          refine wp_seq ?_
          refine seq_l [3, 4] hz ?_
          refine ⟨.agg #[i6 m.want.hd.age, i6 m.want.hd.kind, i6 m.want.hd.id, i6 m.want.hd.adv, i6 m.want.hd.seq, i6 m.want.hd.sum, i6 m.want.hd.long, .slice p.A m.want.links.length p.c, .slice p.B m.want.mem.length p.d, .bool true, i6 m.held.hd.age, i6 m.held.hd.kind, i6 m.held.hd.id, i6 m.held.hd.adv, i6 m.held.hd.seq, i6 m.held.hd.sum, i6 m.held.hd.long, .slice q.A m.held.links.length q.c, .slice q.B m.held.mem.length q.d, .bool true, i6 m.last, i6 m.at_, .bool true], fun _ h_ => rk (lbS 23 (hS8.blk (i := 2) rfl) rfl (h_.b 2 s2)),
           i6 m.last, fun _ h_ => rmv (h_.b 7 s7),
           i6 (m.last + 1), fun _ h_ => rk (run_addI rfl (h_.d 1 98) rfl (by omega) rfl), ?_⟩
          refine ⟨fun a_ h_ => st_call (on_none rfl) (run_call rfl (map2 (h_.d 0 97) (h_.d 2 99)) rfl) (told19_any ({ m with wanted := true, is_ := true, ever := true } : MV) p q (m.last + 1) _ hw1 hw2 hh1 hh2 (⟨(hok.below (hS8.old (by simp))).want, (hok.below (hS8.old (by simp))).held⟩ : MOK _ ({ m with wanted := true, is_ := true, ever := true } : MV) p q)) ?_, trivial⟩
          rintro e w61 ⟨q61, rfl, hO, hb61⟩
          refine ⟨_, rfl, _, rfl, ?_⟩
          clear h_ a_
          have hS61 := hS8.pushLB (hS8.old (by simp)).size hb61 hO
          clear hO hb61 hS8
          refine ⟨fun a_ h_ => st_store (n := 10) (cells := #[i6 ((tellF ({ m with wanted := true, is_ := true, ever := true } : MV) (m.last + 1)).hd.age), i6 ((tellF ({ m with wanted := true, is_ := true, ever := true } : MV) (m.last + 1)).hd.kind), i6 ((tellF ({ m with wanted := true, is_ := true, ever := true } : MV) (m.last + 1)).hd.id), i6 ((tellF ({ m with wanted := true, is_ := true, ever := true } : MV) (m.last + 1)).hd.adv), i6 ((tellF ({ m with wanted := true, is_ := true, ever := true } : MV) (m.last + 1)).hd.seq), i6 ((tellF ({ m with wanted := true, is_ := true, ever := true } : MV) (m.last + 1)).hd.sum), i6 ((tellF ({ m with wanted := true, is_ := true, ever := true } : MV) (m.last + 1)).hd.long), .slice q61.A ((tellF ({ m with wanted := true, is_ := true, ever := true } : MV) (m.last + 1)).links.length) q61.c, .slice q61.B ((tellF ({ m with wanted := true, is_ := true, ever := true } : MV) (m.last + 1)).mem.length) q61.d, i6 1]) (cs' := #[i6 ((tellF ({ m with wanted := true, is_ := true, ever := true } : MV) (m.last + 1)).hd.age), i6 ((tellF ({ m with wanted := true, is_ := true, ever := true } : MV) (m.last + 1)).hd.kind), i6 ((tellF ({ m with wanted := true, is_ := true, ever := true } : MV) (m.last + 1)).hd.id), i6 ((tellF ({ m with wanted := true, is_ := true, ever := true } : MV) (m.last + 1)).hd.adv), i6 ((tellF ({ m with wanted := true, is_ := true, ever := true } : MV) (m.last + 1)).hd.seq), i6 ((tellF ({ m with wanted := true, is_ := true, ever := true } : MV) (m.last + 1)).hd.sum), i6 ((tellF ({ m with wanted := true, is_ := true, ever := true } : MV) (m.last + 1)).hd.long), .slice q61.A ((tellF ({ m with wanted := true, is_ := true, ever := true } : MV) (m.last + 1)).links.length) q61.c, .slice q61.B ((tellF ({ m with wanted := true, is_ := true, ever := true } : MV) (m.last + 1)).mem.length) q61.d, i6 1]) 1 hS61 rfl (on_none rfl) rfl (h_.b 4 s4) (h_.d 3 100) rfl (by kernel_rfl) ⟨Nat.le_of_ble_eq_true rfl, rfl, by kernel_rfl⟩ rfl fun w62 hS62 he62 => ⟨_, rfl, ?_⟩, trivial⟩
          clear h_ a_ he62 hS61
          replace hS62 : S (kap W) ((blkA g7 36 #[i6 ((withF m.held 60 m.held.hd.seq).hd.age), i6 ((withF m.held 60 m.held.hd.seq).hd.kind), i6 ((withF m.held 60 m.held.hd.seq).hd.id), i6 ((withF m.held 60 m.held.hd.seq).hd.adv), i6 ((withF m.held 60 m.held.hd.seq).hd.seq), i6 ((withF m.held 60 m.held.hd.seq).hd.sum), i6 ((withF m.held 60 m.held.hd.seq).hd.long), .slice q6.A ((withF m.held 60 m.held.hd.seq).links.length) q6.c, .slice q6.B ((withF m.held 60 m.held.hd.seq).mem.length) q6.d, i6 2]) :: (blkA g4 36 #[i6 ((tellF ({ m with wanted := true, is_ := true, ever := true } : MV) (m.last + 1)).hd.age), i6 ((tellF ({ m with wanted := true, is_ := true, ever := true } : MV) (m.last + 1)).hd.kind), i6 ((tellF ({ m with wanted := true, is_ := true, ever := true } : MV) (m.last + 1)).hd.id), i6 ((tellF ({ m with wanted := true, is_ := true, ever := true } : MV) (m.last + 1)).hd.adv), i6 ((tellF ({ m with wanted := true, is_ := true, ever := true } : MV) (m.last + 1)).hd.seq), i6 ((tellF ({ m with wanted := true, is_ := true, ever := true } : MV) (m.last + 1)).hd.sum), i6 ((tellF ({ m with wanted := true, is_ := true, ever := true } : MV) (m.last + 1)).hd.long), .slice q61.A ((tellF ({ m with wanted := true, is_ := true, ever := true } : MV) (m.last + 1)).links.length) q61.c, .slice q61.B ((tellF ({ m with wanted := true, is_ := true, ever := true } : MV) (m.last + 1)).mem.length) q61.d, i6 1]) :: (blkA g3 29 #[i6 m.want.hd.age, i6 m.want.hd.kind, i6 m.want.hd.id, i6 m.want.hd.adv, i6 m.want.hd.seq, i6 m.want.hd.sum, i6 m.want.hd.long, .slice p.A m.want.links.length p.c, .slice p.B m.want.mem.length p.d, .bool true, i6 m.held.hd.age, i6 m.held.hd.kind, i6 m.held.hd.id, i6 m.held.hd.adv, i6 m.held.hd.seq, i6 m.held.hd.sum, i6 m.held.hd.long, .slice q.A m.held.links.length q.c, .slice q.B m.held.mem.length q.d, .bool true, i6 m.last, i6 m.at_, .bool true]) :: []) ((rowB W.heap.size (.slice q61.A (tellF ({ m with wanted := true, is_ := true, ever := true } : MV) (m.last + 1)).links.length q61.c) 69 4 (tellF ({ m with wanted := true, is_ := true, ever := true } : MV) (m.last + 1)).links.length (rowC Lk.cells (tellF ({ m with wanted := true, is_ := true, ever := true } : MV) (m.last + 1)).links)) :: (rowB W.heap.size (.slice q61.B (tellF ({ m with wanted := true, is_ := true, ever := true } : MV) (m.last + 1)).mem.length q61.d) 3 1 (tellF ({ m with wanted := true, is_ := true, ever := true } : MV) (m.last + 1)).mem.length (ints (tellF ({ m with wanted := true, is_ := true, ever := true } : MV) (m.last + 1)).mem)) :: (rowB W.heap.size (.slice q6.A (withF m.held 60 m.held.hd.seq).links.length q6.c) 69 4 (withF m.held 60 m.held.hd.seq).links.length (rowC Lk.cells (withF m.held 60 m.held.hd.seq).links)) :: (rowB W.heap.size (.slice q6.B (withF m.held 60 m.held.hd.seq).mem.length q6.d) 3 1 (withF m.held 60 m.held.hd.seq).mem.length (ints (withF m.held 60 m.held.hd.seq).mem)) :: (memA W W.heap.size) :: []) w62 := hS62
          intro a60 hput
          replace s2 := hput.o 2 s2
          replace s4 := hput.o 4 s4
          replace s5 := hput.o 5 s5
          replace s6 := hput.o 6 s6
          replace hz := hput.size.trans hz
          replace hd := hput.defers.trans hd
          clear hput s7
          change Code.wp _ _ _ _ _
          refine wp_ret ?_
          refine retC (P := Try.prog) (fn := Try.f12) hd s4 (hS62.blk (i := 1) rfl) (hR_ _ _ ?_) Try.underlying36
          have hf : planF ({ m with wanted := true, is_ := true, ever := true } : MV) now = ((tellF ({ m with wanted := true, is_ := true, ever := true } : MV) (m.last + 1)), 1) := by simp only [planF, restF, livesF, numberF, flushF, withF] <;> first | rfl | (simp_all; done) | (simp_all; omega) | grind
          rw [hf]
          exact ⟨q61, rfl, lown_of (l := (tellF ({ m with wanted := true, is_ := true, ever := true } : MV) (m.last + 1))) hS62 0, (hS62.old (by simp))⟩
        · clear s96
          refine wp_skip ?_
          change Code.wp _ _ _ _ _
          refine wp_seq ?_
          refine wp_seq ?_
          refine seq_l [] hz ?_
          refine ⟨.bool (decide ((m.held.hd.age : Int) ≠ 60)), fun _ h_ => rmv (h_.b 6 s6), ?_⟩
          intro a63 hput
          replace s2 := hput.o 2 s2
          replace s4 := hput.o 4 s4
          replace s5 := hput.o 5 s5
          have s101 : sl a63 101 = .bool (decide ((m.held.hd.age : Int) ≠ 60)) := hput.new 0 101 rfl
          replace hz := hput.size.trans hz
          replace hd := hput.defers.trans hd
          clear hput s6 s7
          change Code.wp _ _ _ _ _
          refine wp_cond_d s101 (fun hc101 => ?_) (fun hc101 => ?_)
          · clear s101
            refine wp_seq ?_
            refine seq_l [1] hz ?_
            refine ⟨.agg #[i6 ((withF m.held 60 m.held.hd.seq).hd.age), i6 ((withF m.held 60 m.held.hd.seq).hd.kind), i6 ((withF m.held 60 m.held.hd.seq).hd.id), i6 ((withF m.held 60 m.held.hd.seq).hd.adv), i6 ((withF m.held 60 m.held.hd.seq).hd.seq), i6 ((withF m.held 60 m.held.hd.seq).hd.sum), i6 ((withF m.held 60 m.held.hd.seq).hd.long), .slice q6.A ((withF m.held 60 m.held.hd.seq).links.length) q6.c, .slice q6.B ((withF m.held 60 m.held.hd.seq).mem.length) q6.d, i6 2], fun _ h_ => rk (lbS 10 (hS8.blk (i := 0) rfl) rfl (h_.b 5 s5)), ?_⟩
            refine ⟨fun a_ h_ => st_store (n := 10) (cells := #[i6 ((withF m.held 60 m.held.hd.seq).hd.age), i6 ((withF m.held 60 m.held.hd.seq).hd.kind), i6 ((withF m.held 60 m.held.hd.seq).hd.id), i6 ((withF m.held 60 m.held.hd.seq).hd.adv), i6 ((withF m.held 60 m.held.hd.seq).hd.seq), i6 ((withF m.held 60 m.held.hd.seq).hd.sum), i6 ((withF m.held 60 m.held.hd.seq).hd.long), .slice q6.A ((withF m.held 60 m.held.hd.seq).links.length) q6.c, .slice q6.B ((withF m.held 60 m.held.hd.seq).mem.length) q6.d, i6 2]) (cs' := #[i6 ((withF m.held 60 m.held.hd.seq).hd.age), i6 ((withF m.held 60 m.held.hd.seq).hd.kind), i6 ((withF m.held 60 m.held.hd.seq).hd.id), i6 ((withF m.held 60 m.held.hd.seq).hd.adv), i6 ((withF m.held 60 m.held.hd.seq).hd.seq), i6 ((withF m.held 60 m.held.hd.seq).hd.sum), i6 ((withF m.held 60 m.held.hd.seq).hd.long), .slice q6.A ((withF m.held 60 m.held.hd.seq).links.length) q6.c, .slice q6.B ((withF m.held 60 m.held.hd.seq).mem.length) q6.d, i6 2]) 1 hS8 rfl (on_none rfl) rfl (h_.b 4 s4) (h_.d 0 102) rfl (by kernel_rfl) ⟨Nat.le_of_ble_eq_true rfl, rfl, by kernel_rfl⟩ rfl fun w65 hS65 he65 => ⟨_, rfl, ?_⟩, trivial⟩
            clear h_ a_ he65 hS8
            replace hS65 : S (kap W) ((blkA g7 36 #[i6 ((withF m.held 60 m.held.hd.seq).hd.age), i6 ((withF m.held 60 m.held.hd.seq).hd.kind), i6 ((withF m.held 60 m.held.hd.seq).hd.id), i6 ((withF m.held 60 m.held.hd.seq).hd.adv), i6 ((withF m.held 60 m.held.hd.seq).hd.seq), i6 ((withF m.held 60 m.held.hd.seq).hd.sum), i6 ((withF m.held 60 m.held.hd.seq).hd.long), .slice q6.A ((withF m.held 60 m.held.hd.seq).links.length) q6.c, .slice q6.B ((withF m.held 60 m.held.hd.seq).mem.length) q6.d, i6 2]) :: (blkA g4 36 #[i6 ((withF m.held 60 m.held.hd.seq).hd.age), i6 ((withF m.held 60 m.held.hd.seq).hd.kind), i6 ((withF m.held 60 m.held.hd.seq).hd.id), i6 ((withF m.held 60 m.held.hd.seq).hd.adv), i6 ((withF m.held 60 m.held.hd.seq).hd.seq), i6 ((withF m.held 60 m.held.hd.seq).hd.sum), i6 ((withF m.held 60 m.held.hd.seq).hd.long), .slice q6.A ((withF m.held 60 m.held.hd.seq).links.length) q6.c, .slice q6.B ((withF m.held 60 m.held.hd.seq).mem.length) q6.d, i6 2]) :: (blkA g3 29 #[i6 m.want.hd.age, i6 m.want.hd.kind, i6 m.want.hd.id, i6 m.want.hd.adv, i6 m.want.hd.seq, i6 m.want.hd.sum, i6 m.want.hd.long, .slice p.A m.want.links.length p.c, .slice p.B m.want.mem.length p.d, .bool true, i6 m.held.hd.age, i6 m.held.hd.kind, i6 m.held.hd.id, i6 m.held.hd.adv, i6 m.held.hd.seq, i6 m.held.hd.sum, i6 m.held.hd.long, .slice q.A m.held.links.length q.c, .slice q.B m.held.mem.length q.d, .bool true, i6 m.last, i6 m.at_, .bool true]) :: []) ((rowB W.heap.size (.slice q6.A (withF m.held 60 m.held.hd.seq).links.length q6.c) 69 4 (withF m.held 60 m.held.hd.seq).links.length (rowC Lk.cells (withF m.held 60 m.held.hd.seq).links)) :: (rowB W.heap.size (.slice q6.B (withF m.held 60 m.held.hd.seq).mem.length q6.d) 3 1 (withF m.held 60 m.held.hd.seq).mem.length (ints (withF m.held 60 m.held.hd.seq).mem)) :: (memA W W.heap.size) :: []) w65 := hS65
            intro a64 hput
            replace s2 := hput.o 2 s2
            replace s4 := hput.o 4 s4
            replace hz := hput.size.trans hz
            replace hd := hput.defers.trans hd
            clear hput s5
            change Code.wp _ _ _ _ _
            refine wp_ret ?_
            refine retC (P := Try.prog) (fn := Try.f12) hd s4 (hS65.blk (i := 1) rfl) (hR_ _ _ ?_) Try.underlying36
            have hf : planF ({ m with wanted := true, is_ := true, ever := true } : MV) now = ((withF m.held 60 m.held.hd.seq), 2) := by simp only [planF, restF, livesF, numberF, flushF, withF] <;> first | rfl | (simp_all; done) | (simp_all; omega) | grind
            rw [hf]
            exact ⟨q6, rfl, lown_of (l := (withF m.held 60 m.held.hd.seq)) hS65 0, (hS65.old (by simp))⟩
          · clear s101
            refine wp_skip ?_
            change Code.wp _ _ _ _ _
            refine wp_seq ?_
            refine wp_seq ?_
            refine seq_l [] hz ?_
            refine ⟨pt g3 19, fun _ h_ => rk (fa 19 rfl (h_.b 2 s2)),
             .bool true, fun _ h_ => rk (ld hS8 2 rfl (h_.d 0 103)), ?_⟩
            intro a66 hput
            replace s2 := hput.o 2 s2
            replace s4 := hput.o 4 s4
            have s104 : sl a66 104 = .bool true := hput.new 1 104 rfl
            replace hz := hput.size.trans hz
            replace hd := hput.defers.trans hd
            clear hput s5
            change Code.wp _ _ _ _ _
            refine wp_cond_true s104 ?_
            refine wp_seq ?_
            refine seq_l [1] hz ?_
            refine ⟨.agg #[i6 0, i6 0, i6 0, i6 0, i6 0, i6 0, i6 0, .slice none 0 0, .slice none 0 0, i6 3], fun _ h_ => rk (run_build (vals := #[(1, i6 3)]) (r := .agg #[i6 0, i6 0, i6 0, i6 0, i6 0, i6 0, i6 0, .slice none 0 0, .slice none 0 0, i6 3]) rfl (bp1 rfl) (by kernel_rfl)), ?_⟩
            refine ⟨fun a_ h_ => st_store (n := 10) (cells := #[i6 0, i6 0, i6 0, i6 0, i6 0, i6 0, i6 0, .slice none 0 0, .slice none 0 0, i6 3]) (cs' := #[i6 0, i6 0, i6 0, i6 0, i6 0, i6 0, i6 0, .slice none 0 0, .slice none 0 0, i6 3]) 1 hS8 rfl (on_none rfl) rfl (h_.b 4 s4) (h_.d 0 105) rfl (by kernel_rfl) ⟨Nat.le_of_ble_eq_true rfl, rfl, by kernel_rfl⟩ rfl fun w68 hS68 he68 => ⟨_, rfl, ?_⟩, trivial⟩
            clear h_ a_ he68 hS8
            replace hS68 : S (kap W) ((blkA g7 36 #[i6 ((withF m.held 60 m.held.hd.seq).hd.age), i6 ((withF m.held 60 m.held.hd.seq).hd.kind), i6 ((withF m.held 60 m.held.hd.seq).hd.id), i6 ((withF m.held 60 m.held.hd.seq).hd.adv), i6 ((withF m.held 60 m.held.hd.seq).hd.seq), i6 ((withF m.held 60 m.held.hd.seq).hd.sum), i6 ((withF m.held 60 m.held.hd.seq).hd.long), .slice q6.A ((withF m.held 60 m.held.hd.seq).links.length) q6.c, .slice q6.B ((withF m.held 60 m.held.hd.seq).mem.length) q6.d, i6 2]) :: (blkA g4 36 #[i6 0, i6 0, i6 0, i6 0, i6 0, i6 0, i6 0, .slice none 0 0, .slice none 0 0, i6 3]) :: (blkA g3 29 #[i6 m.want.hd.age, i6 m.want.hd.kind, i6 m.want.hd.id, i6 m.want.hd.adv, i6 m.want.hd.seq, i6 m.want.hd.sum, i6 m.want.hd.long, .slice p.A m.want.links.length p.c, .slice p.B m.want.mem.length p.d, .bool true, i6 m.held.hd.age, i6 m.held.hd.kind, i6 m.held.hd.id, i6 m.held.hd.adv, i6 m.held.hd.seq, i6 m.held.hd.sum, i6 m.held.hd.long, .slice q.A m.held.links.length q.c, .slice q.B m.held.mem.length q.d, .bool true, i6 m.last, i6 m.at_, .bool true]) :: []) ((rowB W.heap.size (.slice q6.A (withF m.held 60 m.held.hd.seq).links.length q6.c) 69 4 (withF m.held 60 m.held.hd.seq).links.length (rowC Lk.cells (withF m.held 60 m.held.hd.seq).links)) :: (rowB W.heap.size (.slice q6.B (withF m.held 60 m.held.hd.seq).mem.length q6.d) 3 1 (withF m.held 60 m.held.hd.seq).mem.length (ints (withF m.held 60 m.held.hd.seq).mem)) :: (memA W W.heap.size) :: []) w68 := hS68
            intro a67 hput
            replace s2 := hput.o 2 s2
            replace s4 := hput.o 4 s4
            replace hz := hput.size.trans hz
            replace hd := hput.defers.trans hd
            clear hput s104
            change Code.wp _ _ _ _ _
            refine wp_ret ?_
            refine retC (P := Try.prog) (fn := Try.f12) hd s4 (hS68.blk (i := 1) rfl) (hR_ _ _ ?_) Try.underlying36
            have hf : planF ({ m with wanted := true, is_ := true, ever := true } : MV) now = ((default : LV), 3) := by simp only [planF, restF, livesF, numberF, flushF, withF] <;> first | rfl | (simp_all; done) | (simp_all; omega) | grind
            rw [hf]
            exact ⟨⟨none, 0, none, 0⟩, rfl, LOwn.none_ _ _, (hS68.old (by simp))⟩
theorem plan19_any (m : MV) (p q : LP) (now : Int) (W : World) (hn : -1099511627776 ≤ now ∧ now ≤ 1099511627776) (ha : -1099511627776 ≤ m.at_ ∧ m.at_ ≤ 1099511627776) (hl : -9223372036854775808 ≤ m.last) (hq : -9223372036854775808 ≤ m.held.hd.seq) (hw1 : m.want.links.length ≤ 20) (hw2 : m.want.mem.length ≤ 20) (hh1 : m.held.links.length ≤ 20) (hh2 : m.held.mem.length ≤ 20) (hok : MOK W m p q) :
    Calls Try.prog 12 #[.agg (mineA m p q), .int .i64 now] W (fun r w' => ∃ q, r = .returned (.agg (doneA (planF m now).1 q (planF m now).2)) ∧ LOwn w' W.heap.size (planF m now).1 q ∧ Below W.heap.size W w') := by
  obtain ⟨want, wanted, held, is_, last, at_, ever⟩ := m
  cases wanted
  · cases is_
    · exact plan19_ff ⟨want, false, held, false, last, at_, ever⟩ p q now W hn ha hl hq hw1 hw2 hh1 hh2 hok
    · exact plan19_ft ⟨want, false, held, true, last, at_, ever⟩ p q now W hn ha hl hq hw1 hw2 hh1 hh2 hok
  · cases is_ <;> cases ever
    · exact plan19_tff ⟨want, true, held, false, last, at_, false⟩ p q now W hn ha hl hq hw1 hw2 hh1 hh2 hok
    · exact plan19_tft ⟨want, true, held, false, last, at_, true⟩ p q now W hn ha hl hq hw1 hw2 hh1 hh2 hok
    · exact plan19_ttf ⟨want, true, held, true, last, at_, false⟩ p q now W hn ha hl hq hw1 hw2 hh1 hh2 hok
    · exact plan19_ttt ⟨want, true, held, true, last, at_, true⟩ p q now W hn ha hl hq hw1 hw2 hh1 hh2 hok
end Go.Proofs.Ytmklebkldailnaa
