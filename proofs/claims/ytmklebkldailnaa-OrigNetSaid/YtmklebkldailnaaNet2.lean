/-
  A network's description: orig.Net, and the reference's.
-/
import Derived.Test.YtmklebkldailnaaNet
import Derived.Laws.BitsLemmas
import Derived.Test.YtmklebkldailnaaLife
namespace Go.Proofs.Ytmklebkldailnaa
open Go.RowKit
set_option linter.unusedSimpArgs false
set_option linter.unusedVariables false

theorem or16 (l i : Int) (h0 : 0 ≤ l) (h1 : l ≤ 3) (h2 : 0 ≤ i) (h3 : i < 16) : bits .or .i64 (l * 16) i = l * 16 + i :=
  bits_join .i64 62 (by decide) (fun n h₀ h₁ => by rw [IntKind.wrap_i64]; omega) 4 (l * 16) i (by omega) (by omega) (by omega) h2 (by omega) (by omega)
theorem addr_any (l i : Int) (W : World) (h0 : 0 ≤ l) (h1 : l ≤ 3) (h2 : 0 ≤ i) (h3 : i < 16) : Calls Try.prog 30 #[.int .i64 l, .int .i64 i] W fun r w' => r = .returned (.int .i64 (l * 16 + i)) ∧ Below W.heap.size W w' := by
  have H := hide (or16 l i h0 h1 h2 h3)
  go_enter Try.func30, Try.ntmps30
  go_wp2
  go_ret
  exact ⟨ret_int (H.out), Below.refl _ _⟩
set_option maxRecDepth 100000 in
set_option maxHeartbeats 800000 in
theorem has_any (v : VV) (p : VP) (W : World) (hv : VOK W v p) (hn : v.peers.length ≤ 30) :
    Calls Try.prog 17 #[.agg #[i6 v.lan, i6 v.cost, i6 v.self, i6 v.prio, i6 v.state, i6 v.dr, i6 v.bdr, .slice p.A v.peers.length p.c, .slice p.B p.m p.d]] W (fun r w' => r = .returned (.bool (decide (v.state = 4) && v.peers.any (fullB 0))) ∧ Below W.heap.size W w') := by
  have hS := S.start W
  refine calls_walk Try.func17 rfl fun R_ hR_ a hz hd hargs => ?_
  replace hz : a.tmps.size = 11 := hz.trans (by kernel_rfl)
  have s0 := hargs 0 _ rfl
  clear hargs
  refine wp_seq ?_
  refine seq_l [0] hz ?_
  refine ⟨fun a_ h_ => st_box (cells := #[i6 v.lan, i6 v.cost, i6 v.self, i6 v.prio, i6 v.state, i6 v.dr, i6 v.bdr, .slice p.A v.peers.length p.c, .slice p.B p.m p.d]) hS (on_none rfl) rfl (h_.b 0 s0) (by kernel_rfl) fun g3 w3 hS3 hb3 => ⟨_, rfl, ?_⟩, trivial⟩
  clear h_ a_ hS
  clear hb3
  refine ⟨.bool false, fun _ h_ => rk (run_assign rfl rfl), ?_⟩
  intro a2 hput
  have s1 : sl a2 1 = pt g3 0 := hput.new 0 1 rfl
  have s2 : sl a2 2 = .bool false := hput.new 1 2 rfl
  replace hz := hput.size.trans hz
  replace hd := hput.defers.trans hd
  clear hput s0
  change Code.wp _ _ _ _ _
  refine wp_seq ?_
  refine seq_l [6] hz ?_
  refine ⟨pt g3 2, fun _ h_ => rk (fa 2 rfl (h_.b 1 s1)),
   pt g3 4, fun _ h_ => rk (fa 2 rfl (h_.d 0 3)),
   i6 v.state, fun _ h_ => rk (ld hS3 0 rfl (h_.d 1 4)),
   .bool (decide ((v.state : Int) = 4)), fun _ h_ => rk (run_cmp rfl (h_.d 2 5) rfl rfl (by first | rfl | exact neq_dec _ _ | exact eq_dec _ _ | simp)),
   .bool (decide ((v.state : Int) = 4)), fun _ h_ => rmv (h_.d 3 6), ?_⟩
  rcases dt ((v.state : Int) = 4) with ⟨he, hg4⟩ | ⟨he, hg4⟩
  · rw [he]
    clear he
    refine ⟨.agg #[i6 v.lan, i6 v.cost, i6 v.self, i6 v.prio, i6 v.state, i6 v.dr, i6 v.bdr, .slice p.A v.peers.length p.c, .slice p.B p.m p.d], fun _ h_ => r_ok (h_.on 4 7) (lbS 9 (hS3.blk (i := 0) rfl) rfl (h_.b 1 s1)), ?_⟩
    refine ⟨fun a_ h_ => st_call (h_.on 4 7) (run_call rfl (map2 (h_.d 5 8) rfl) rfl) (refFull_any v p 0 _ (Reads.old hv (hS3.old (by simp))) hn) ?_, trivial⟩
    rintro e w5 ⟨rfl, hb5⟩
    refine ⟨_, rfl, _, rfl, ?_⟩
    clear h_ a_
    have hS5 := hS3.below hb5
    clear hS3 hb5
    refine ⟨.bool (v.peers.any (fullB 0)), fun _ h_ => rk (run_pick_t rfl (h_.d 4 7) (h_.d 6 9)),
     .bool (v.peers.any (fullB 0)), fun _ h_ => ras (h_.d 7 10), ?_⟩
    intro a4 hput
    replace s2 : sl a4 2 = .bool (v.peers.any (fullB 0)) := hput.new 8 2 rfl
    replace hz := hput.size.trans hz
    replace hd := hput.defers.trans hd
    clear hput s1
    change Code.wp _ _ _ _ _
    refine wp_ret ?_
    refine ret1 (P := Try.prog) (fn := Try.f17) hd s2 (hR_ _ _ ?_)
    exact ⟨by simp_all, (hS5.old (by simp))⟩
  · rw [he]
    clear he
    refine seq_off (j := 4) (d := 7) (b := true) [5] _ (by kernel_rfl) (.inl rfl) ?_
    refine seq_offe (j := 4) (d := 7) (b := true) (by kernel_rfl) (.inl rfl) ?_
    refine ⟨.bool false, fun _ h_ => rk (run_pick_f rfl (h_.d 4 7) rfl),
     .bool false, fun _ h_ => ras (h_.d 7 10), ?_⟩
    intro a4 hput
    replace s2 : sl a4 2 = .bool false := hput.new 8 2 rfl
    replace hz := hput.size.trans hz
    replace hd := hput.defers.trans hd
    clear hput s1
    change Code.wp _ _ _ _ _
    refine wp_ret ?_
    refine ret1 (P := Try.prog) (fn := Try.f17) hd s2 (hR_ _ _ ?_)
    exact ⟨by simp_all, (hS3.old (by simp))⟩
def vpC (x : VV × VP) : List Value := (viewA x.1 x.2).toList
theorem vpC_len (x : VV × VP) : (vpC x).length = 9 := rfl
def greatB (x : VV × VP) : Bool := decide (30 < (x.1.peers.length : Int)) || (decide (x.1.lan < 0) || decide (3 < x.1.lan))
theorem vp_len {w : World} {B n : Nat} {A : Option Addr} {l : List (VV × VP)} (h : Reads w B 9 A n (rowC vpC l)) : l.length = n := by have := h.1; rw [rowC_length vpC 9 vpC_len] at this; omega
set_option maxRecDepth 100000 in
set_option maxHeartbeats 800000 in
theorem great_any (A : Option Addr) (n c : Nat) (l : List (VV × VP)) (W : World) (hn : n ≤ 100000) (hR : Reads W W.heap.size 9 A n (rowC vpC l)) :
    Calls Try.prog 15 #[.slice A n c] W (fun r w' => r = .returned (.bool (l.any greatB || decide (10 < (n : Int)))) ∧ Below W.heap.size W w') := by
  have hS := S.start W
  refine calls_walk Try.func15 rfl fun R_ hR_ a hz hd hargs => ?_
  replace hz : a.tmps.size = 29 := hz.trans (by kernel_rfl)
  have s0 := hargs 0 _ rfl
  clear hargs
  refine wp_seq ?_
  refine seq_l [] hz ?_
  refine ⟨.bool false, fun _ h_ => rk (run_assign rfl rfl), ?_⟩
  intro a2 hput
  replace s0 := hput.o 0 s0
  have s2 : sl a2 2 = .bool false := hput.new 0 2 rfl
  replace hz := hput.size.trans hz
  replace hd := hput.defers.trans hd
  clear hput
  change Code.wp _ _ _ _ _
  refine wp_seq ?_
  refine wp_seq ?_
  refine seq_l [] hz ?_
  refine ⟨.slice A n c, fun _ h_ => rmv (h_.b 0 s0),
   i6 n, fun _ h_ => rk (run_lenS rfl (h_.d 0 5) (by kernel_rfl)),
   i6 0, fun _ h_ => rk (run_move rfl rfl), ?_⟩
  intro a3 hput
  replace s0 := hput.o 0 s0
  replace s2 := hput.o 2 s2
  have s5 : sl a3 5 = .slice A n c := hput.new 0 5 rfl
  have s6 : sl a3 6 = i6 n := hput.new 1 6 rfl
  have s7 : sl a3 7 = i6 0 := hput.new 2 7 rfl
  replace hz := hput.size.trans hz
  replace hd := hput.defers.trans hd
  clear hput
  change Code.wp _ _ _ _ _
  refine wp_block ?_
  refine wp_loop (fun a w => ∃ k : Nat, (k ≤ n) ∧ ((l.take k).any greatB = false) ∧ a.tmps.size = 29 ∧ a.defers = [] ∧ sl a 0 = .slice A n c ∧ sl a 2 = .bool false ∧ sl a 5 = .slice A n c ∧ sl a 6 = i6 n ∧ sl a 7 = i6 k ∧ S (kap W) ([]) ((memA W W.heap.size) :: []) w) (fun a _ => n - (intOf (sl a 7)).toNat) ?_ ?_
  · exact ⟨0, Nat.zero_le _, rfl, hz, hd, s0, s2, s5, s6, s7, hS⟩
  · clear hz hd s0 s2 s5 s6 s7 hS
    rintro a4 w4 ⟨k, hc0_0, hc0_1, hz, hd, s0, s2, s5, s6, s7, hS4⟩
    have hmu0 := s7
    refine wp_seq ?_
    refine seq_l [] hz ?_
    refine ⟨.bool (decide ((k : Int) < n)), fun _ h_ => rk (run_cmp rfl (h_.b 7 s7) (h_.b 6 s6) rfl (by first | rfl | exact neq_dec _ _ | exact eq_dec _ _ | simp)), ?_⟩
    intro a5 hput
    replace s0 := hput.o 0 s0
    replace s2 := hput.o 2 s2
    replace s5 := hput.o 5 s5
    replace s6 := hput.o 6 s6
    replace s7 := hput.o 7 s7
    have s8 : sl a5 8 = .bool (decide ((k : Int) < n)) := hput.new 0 8 rfl
    replace hz := hput.size.trans hz
    replace hd := hput.defers.trans hd
    clear hput
    change Code.wp _ _ _ _ _
    refine wp_seq ?_
    refine wp_cond_d s8 (fun hc8 => ?_) (fun hc8 => ?_)
    · clear s8
      refine wp_skip ?_
      change Code.wp _ _ _ _ _
      refine wp_seq ?_
      refine wp_block ?_
      refine wp_seq ?_
      refine seq_l [2, 3] hz ?_
      obtain ⟨b7, o7, z7, hA7, hb7, hz7, hq7⟩ := Reads.row_at vpC 9 vpC_len (k := k) (hR.old (hS4.old (by simp))) (by decide) (by omega)
      refine ⟨pt b7 (o7 + k * 9), fun _ h_ => rk (run_indexV (size := 9) rfl (h_.b 5 s5) hA7 (h_.b 7 s7) (by kernel_rfl) (by omega) (by simp)),
       .agg #[i6 z7.1.lan, i6 z7.1.cost, i6 z7.1.self, i6 z7.1.prio, i6 z7.1.state, i6 z7.1.dr, i6 z7.1.bdr, .slice z7.2.A z7.1.peers.length z7.2.c, .slice z7.2.B z7.2.m z7.2.d], fun _ h_ => rk (run_loadV (size := 9) (cs := vpC z7) rfl (h_.d 0 9) (by kernel_rfl) rfl hq7), ?_⟩
      refine ⟨fun a_ h_ => st_alloc (cells := #[i6 0, i6 0, i6 0, i6 0, i6 0, i6 0, i6 0, .slice none 0 0, .slice none 0 0]) hS4 (on_none rfl) rfl (by kernel_rfl) fun g8 w8 hS8 hb8 => ⟨_, rfl, ?_⟩, trivial⟩
      clear h_ a_ hS4
      clear hb8
      refine ⟨fun a_ h_ => st_store (n := 9) (cells := #[i6 z7.1.lan, i6 z7.1.cost, i6 z7.1.self, i6 z7.1.prio, i6 z7.1.state, i6 z7.1.dr, i6 z7.1.bdr, .slice z7.2.A z7.1.peers.length z7.2.c, .slice z7.2.B z7.2.m z7.2.d]) (cs' := #[i6 z7.1.lan, i6 z7.1.cost, i6 z7.1.self, i6 z7.1.prio, i6 z7.1.state, i6 z7.1.dr, i6 z7.1.bdr, .slice z7.2.A z7.1.peers.length z7.2.c, .slice z7.2.B z7.2.m z7.2.d]) 0 hS8 rfl (on_none rfl) rfl (h_.d 2 4) (h_.d 1 10) rfl (by kernel_rfl) ⟨Nat.le_of_ble_eq_true rfl, rfl, by kernel_rfl⟩ rfl fun w9 hS9 he9 => ⟨_, rfl, ?_⟩, trivial⟩
      clear h_ a_ he9 hS8
      replace hS9 : S (kap W) ((blkA g8 48 #[i6 z7.1.lan, i6 z7.1.cost, i6 z7.1.self, i6 z7.1.prio, i6 z7.1.state, i6 z7.1.dr, i6 z7.1.bdr, .slice z7.2.A z7.1.peers.length z7.2.c, .slice z7.2.B z7.2.m z7.2.d]) :: []) ((memA W W.heap.size) :: []) w9 := hS9
      intro a6 hput
      replace s0 := hput.o 0 s0
      replace s2 := hput.o 2 s2
      have s4 : sl a6 4 = pt g8 0 := hput.new 2 4 rfl
      replace s5 := hput.o 5 s5
      replace s6 := hput.o 6 s6
      replace s7 := hput.o 7 s7
      have s9 : sl a6 9 = pt b7 (o7 + k * 9) := hput.new 0 9 rfl
      have s10 : sl a6 10 = .agg #[i6 z7.1.lan, i6 z7.1.cost, i6 z7.1.self, i6 z7.1.prio, i6 z7.1.state, i6 z7.1.dr, i6 z7.1.bdr, .slice z7.2.A z7.1.peers.length z7.2.c, .slice z7.2.B z7.2.m z7.2.d] := hput.new 1 10 rfl
      replace hz := hput.size.trans hz
      replace hd := hput.defers.trans hd
      clear hput
      change Code.wp _ _ _ _ _
      refine wp_seq ?_
      refine seq_l [] hz ?_
      refine ⟨pt g8 7, fun _ h_ => rk (fa 7 rfl (h_.b 4 s4)),
       .slice z7.2.A z7.1.peers.length z7.2.c, fun _ h_ => rk (ld hS9 0 rfl (h_.d 0 11)),
       i6 z7.1.peers.length, fun _ h_ => rk (run_lenS rfl (h_.d 1 12) (by kernel_rfl)),
       .bool (decide ((30 : Int) < z7.1.peers.length)), fun _ h_ => rk (run_cmp rfl (h_.d 2 13) rfl rfl (by first | rfl | exact neq_dec _ _ | exact eq_dec _ _ | simp)),
       .bool (decide ((30 : Int) < z7.1.peers.length)), fun _ h_ => rmv (h_.d 3 14), ?_⟩
      rcases dt ((30 : Int) < z7.1.peers.length) with ⟨he, hg4⟩ | ⟨he, hg4⟩
      · rw [he]
        clear he
        refine seq_off (j := 4) (d := 15) (b := false) [5, 6, 7] _ (by kernel_rfl) (.inl rfl) ?_
        refine ⟨.bool true, fun _ h_ => rk (run_pick_t rfl (h_.d 4 15) rfl),
         .bool true, fun _ h_ => rmv (h_.d 8 19), ?_⟩
        refine seq_off (j := 9) (d := 20) (b := false) [10, 11, 12] _ (by kernel_rfl) (.inl rfl) ?_
        refine ⟨.bool true, fun _ h_ => rk (run_pick_t rfl (h_.d 9 20) rfl), ?_⟩
        intro a10 hput
        replace s0 := hput.o 0 s0
        replace s2 := hput.o 2 s2
        replace s4 := hput.o 4 s4
        replace s5 := hput.o 5 s5
        replace s6 := hput.o 6 s6
        replace s7 := hput.o 7 s7
        replace s9 := hput.o 9 s9
        replace s10 := hput.o 10 s10
        have s11 : sl a10 11 = pt g8 7 := hput.new 0 11 rfl
        have s12 : sl a10 12 = .slice z7.2.A z7.1.peers.length z7.2.c := hput.new 1 12 rfl
        have s13 : sl a10 13 = i6 z7.1.peers.length := hput.new 2 13 rfl
        have s14 : sl a10 14 = .bool true := hput.new 3 14 rfl
        have s15 : sl a10 15 = .bool true := hput.new 4 15 rfl
        have s19 : sl a10 19 = .bool true := hput.new 8 19 rfl
        have s20 : sl a10 20 = .bool true := hput.new 9 20 rfl
        have s24 : sl a10 24 = .bool true := hput.new 13 24 rfl
        replace hz := hput.size.trans hz
        replace hd := hput.defers.trans hd
        clear hput
        change Code.wp _ _ _ _ _
        refine wp_cond_true s24 ?_
        refine wp_seq ?_
        refine seq_l [] hz ?_
        refine ⟨.bool true, fun _ h_ => rk (run_assign rfl rfl), ?_⟩
        intro a11 hput
        replace s0 := hput.o 0 s0
        replace s2 : sl a11 2 = .bool true := hput.new 0 2 rfl
        replace s4 := hput.o 4 s4
        replace s5 := hput.o 5 s5
        replace s6 := hput.o 6 s6
        replace s7 := hput.o 7 s7
        replace s9 := hput.o 9 s9
        replace s10 := hput.o 10 s10
        replace s11 := hput.o 11 s11
        replace s12 := hput.o 12 s12
        replace s13 := hput.o 13 s13
        replace s14 := hput.o 14 s14
        replace s15 := hput.o 15 s15
        replace s19 := hput.o 19 s19
        replace s20 := hput.o 20 s20
        replace s24 := hput.o 24 s24
        replace hz := hput.size.trans hz
        replace hd := hput.defers.trans hd
        clear hput
        change Code.wp _ _ _ _ _
        refine wp_ret ?_
        refine ret1 (P := Try.prog) (fn := Try.f15) hd s2 (hR_ _ _ ?_)
        exact ⟨by rw [any_hit hz7 (by unfold greatB; simp; omega)]; rfl, (hS9.old (by simp))⟩
      · rw [he]
        clear he
        refine ⟨pt g8 0, fun _ h_ => r_ok (h_.on 4 15) (fa 0 rfl (h_.b 4 s4)),
         i6 z7.1.lan, fun _ h_ => r_ok (h_.on 4 15) (ld hS9 0 rfl (h_.d 5 16)),
         .bool (decide ((z7.1.lan : Int) < 0)), fun _ h_ => r_ok (h_.on 4 15) (run_cmp rfl (h_.d 6 17) rfl rfl (by first | rfl | exact neq_dec _ _ | exact eq_dec _ _ | simp)),
         .bool (decide ((z7.1.lan : Int) < 0)), fun _ h_ => rk (run_pick_f rfl (h_.d 4 15) (h_.d 7 18)),
         .bool (decide ((z7.1.lan : Int) < 0)), fun _ h_ => rmv (h_.d 8 19), ?_⟩
        rcases dt ((z7.1.lan : Int) < 0) with ⟨he, hg9⟩ | ⟨he, hg9⟩
        · rw [he]
          clear he
          refine seq_off (j := 9) (d := 20) (b := false) [10, 11, 12] _ (by kernel_rfl) (.inl rfl) ?_
          refine ⟨.bool true, fun _ h_ => rk (run_pick_t rfl (h_.d 9 20) rfl), ?_⟩
          intro a10 hput
          replace s0 := hput.o 0 s0
          replace s2 := hput.o 2 s2
          replace s4 := hput.o 4 s4
          replace s5 := hput.o 5 s5
          replace s6 := hput.o 6 s6
          replace s7 := hput.o 7 s7
          replace s9 := hput.o 9 s9
          replace s10 := hput.o 10 s10
          have s11 : sl a10 11 = pt g8 7 := hput.new 0 11 rfl
          have s12 : sl a10 12 = .slice z7.2.A z7.1.peers.length z7.2.c := hput.new 1 12 rfl
          have s13 : sl a10 13 = i6 z7.1.peers.length := hput.new 2 13 rfl
          have s14 : sl a10 14 = .bool false := hput.new 3 14 rfl
          have s15 : sl a10 15 = .bool false := hput.new 4 15 rfl
          have s16 : sl a10 16 = pt g8 0 := hput.new 5 16 rfl
          have s17 : sl a10 17 = i6 z7.1.lan := hput.new 6 17 rfl
          have s18 : sl a10 18 = .bool true := hput.new 7 18 rfl
          have s19 : sl a10 19 = .bool true := hput.new 8 19 rfl
          have s20 : sl a10 20 = .bool true := hput.new 9 20 rfl
          have s24 : sl a10 24 = .bool true := hput.new 13 24 rfl
          replace hz := hput.size.trans hz
          replace hd := hput.defers.trans hd
          clear hput
          change Code.wp _ _ _ _ _
          refine wp_cond_true s24 ?_
          refine wp_seq ?_
          refine seq_l [] hz ?_
          refine ⟨.bool true, fun _ h_ => rk (run_assign rfl rfl), ?_⟩
          intro a12 hput
          replace s0 := hput.o 0 s0
          replace s2 : sl a12 2 = .bool true := hput.new 0 2 rfl
          replace s4 := hput.o 4 s4
          replace s5 := hput.o 5 s5
          replace s6 := hput.o 6 s6
          replace s7 := hput.o 7 s7
          replace s9 := hput.o 9 s9
          replace s10 := hput.o 10 s10
          replace s11 := hput.o 11 s11
          replace s12 := hput.o 12 s12
          replace s13 := hput.o 13 s13
          replace s14 := hput.o 14 s14
          replace s15 := hput.o 15 s15
          replace s16 := hput.o 16 s16
          replace s17 := hput.o 17 s17
          replace s18 := hput.o 18 s18
          replace s19 := hput.o 19 s19
          replace s20 := hput.o 20 s20
          replace s24 := hput.o 24 s24
          replace hz := hput.size.trans hz
          replace hd := hput.defers.trans hd
          clear hput
          change Code.wp _ _ _ _ _
          refine wp_ret ?_
          refine ret1 (P := Try.prog) (fn := Try.f15) hd s2 (hR_ _ _ ?_)
          exact ⟨by rw [any_hit hz7 (by unfold greatB; simp; omega)]; rfl, (hS9.old (by simp))⟩
        · rw [he]
          clear he
          refine ⟨pt g8 0, fun _ h_ => r_ok (h_.on 9 20) (fa 0 rfl (h_.b 4 s4)),
           i6 z7.1.lan, fun _ h_ => r_ok (h_.on 9 20) (ld hS9 0 rfl (h_.d 10 21)),
           .bool (decide ((3 : Int) < z7.1.lan)), fun _ h_ => r_ok (h_.on 9 20) (run_cmp rfl (h_.d 11 22) rfl rfl (by first | rfl | exact neq_dec _ _ | exact eq_dec _ _ | simp)),
           .bool (decide ((3 : Int) < z7.1.lan)), fun _ h_ => rk (run_pick_f rfl (h_.d 9 20) (h_.d 12 23)), ?_⟩
          intro a10 hput
          replace s0 := hput.o 0 s0
          replace s2 := hput.o 2 s2
          replace s4 := hput.o 4 s4
          replace s5 := hput.o 5 s5
          replace s6 := hput.o 6 s6
          replace s7 := hput.o 7 s7
          replace s9 := hput.o 9 s9
          replace s10 := hput.o 10 s10
          have s11 : sl a10 11 = pt g8 7 := hput.new 0 11 rfl
          have s12 : sl a10 12 = .slice z7.2.A z7.1.peers.length z7.2.c := hput.new 1 12 rfl
          have s13 : sl a10 13 = i6 z7.1.peers.length := hput.new 2 13 rfl
          have s14 : sl a10 14 = .bool false := hput.new 3 14 rfl
          have s15 : sl a10 15 = .bool false := hput.new 4 15 rfl
          have s16 : sl a10 16 = pt g8 0 := hput.new 5 16 rfl
          have s17 : sl a10 17 = i6 z7.1.lan := hput.new 6 17 rfl
          have s18 : sl a10 18 = .bool false := hput.new 7 18 rfl
          have s19 : sl a10 19 = .bool false := hput.new 8 19 rfl
          have s20 : sl a10 20 = .bool false := hput.new 9 20 rfl
          have s21 : sl a10 21 = pt g8 0 := hput.new 10 21 rfl
          have s22 : sl a10 22 = i6 z7.1.lan := hput.new 11 22 rfl
          have s23 : sl a10 23 = .bool (decide ((3 : Int) < z7.1.lan)) := hput.new 12 23 rfl
          have s24 : sl a10 24 = .bool (decide ((3 : Int) < z7.1.lan)) := hput.new 13 24 rfl
          replace hz := hput.size.trans hz
          replace hd := hput.defers.trans hd
          clear hput
          change Code.wp _ _ _ _ _
          refine wp_cond_d s24 (fun hc24 => ?_) (fun hc24 => ?_)
          · clear s24
            refine wp_seq ?_
            refine seq_l [] hz ?_
            refine ⟨.bool true, fun _ h_ => rk (run_assign rfl rfl), ?_⟩
            intro a13 hput
            replace s0 := hput.o 0 s0
            replace s2 : sl a13 2 = .bool true := hput.new 0 2 rfl
            replace s4 := hput.o 4 s4
            replace s5 := hput.o 5 s5
            replace s6 := hput.o 6 s6
            replace s7 := hput.o 7 s7
            replace s9 := hput.o 9 s9
            replace s10 := hput.o 10 s10
            replace s11 := hput.o 11 s11
            replace s12 := hput.o 12 s12
            replace s13 := hput.o 13 s13
            replace s14 := hput.o 14 s14
            replace s15 := hput.o 15 s15
            replace s16 := hput.o 16 s16
            replace s17 := hput.o 17 s17
            replace s18 := hput.o 18 s18
            replace s19 := hput.o 19 s19
            replace s20 := hput.o 20 s20
            replace s21 := hput.o 21 s21
            replace s22 := hput.o 22 s22
            replace s23 := hput.o 23 s23
            replace hz := hput.size.trans hz
            replace hd := hput.defers.trans hd
            clear hput
            change Code.wp _ _ _ _ _
            refine wp_ret ?_
            refine ret1 (P := Try.prog) (fn := Try.f15) hd s2 (hR_ _ _ ?_)
            exact ⟨by rw [any_hit hz7 (by unfold greatB; simp; omega)]; rfl, (hS9.old (by simp))⟩
          · clear s24
            refine wp_skip ?_
            change Code.wp _ _ _ _ _
            refine seq_l [] hz ?_
            refine ⟨i6 (k + 1), fun _ h_ => rk (run_addI rfl (h_.b 7 s7) rfl (by omega) rfl),
             i6 (k + 1), fun _ h_ => rmv (h_.d 0 25), ?_⟩
            intro a14 hput
            replace s0 := hput.o 0 s0
            replace s2 := hput.o 2 s2
            replace s4 := hput.o 4 s4
            replace s5 := hput.o 5 s5
            replace s6 := hput.o 6 s6
            replace s7 : sl a14 7 = i6 (k + 1) := hput.new 1 7 rfl
            replace s9 := hput.o 9 s9
            replace s10 := hput.o 10 s10
            replace s11 := hput.o 11 s11
            replace s12 := hput.o 12 s12
            replace s13 := hput.o 13 s13
            replace s14 := hput.o 14 s14
            replace s15 := hput.o 15 s15
            replace s16 := hput.o 16 s16
            replace s17 := hput.o 17 s17
            replace s18 := hput.o 18 s18
            replace s19 := hput.o 19 s19
            replace s20 := hput.o 20 s20
            replace s21 := hput.o 21 s21
            replace s22 := hput.o 22 s22
            replace s23 := hput.o 23 s23
            have s25 : sl a14 25 = i6 (k + 1) := hput.new 0 25 rfl
            replace hz := hput.size.trans hz
            replace hd := hput.defers.trans hd
            clear hput
            have hSd := hS9.drop
            refine ⟨⟨k + 1, by omega, any_next hc0_1 hz7 (by unfold greatB; simp; omega), hz, hd, s0, s2, s5, s6, s7, hSd⟩, ?_⟩
            show n - (intOf (sl a14 7)).toNat < n - (intOf (sl a4 7)).toNat
            rw [show sl a14 7 = _ from s7, show sl a4 7 = _ from hmu0]
            simp only [intOf]
            omega
    · clear s8
      refine wp_exit ?_
      change Code.wp _ _ _ _ _
      refine wp_seq ?_
      refine seq_l [] hz ?_
      refine ⟨.slice A n c, fun _ h_ => rmv (h_.b 0 s0),
       i6 n, fun _ h_ => rk (run_lenS rfl (h_.d 0 26) (by kernel_rfl)),
       .bool (decide ((10 : Int) < n)), fun _ h_ => rk (run_cmp rfl (h_.d 1 27) rfl rfl (by first | rfl | exact neq_dec _ _ | exact eq_dec _ _ | simp)),
       .bool (decide ((10 : Int) < n)), fun _ h_ => ras (h_.d 2 28), ?_⟩
      intro a15 hput
      replace s2 : sl a15 2 = .bool (decide ((10 : Int) < n)) := hput.new 3 2 rfl
      replace hz := hput.size.trans hz
      replace hd := hput.defers.trans hd
      clear hput s0 s5 s6 s7
      change Code.wp _ _ _ _ _
      refine wp_ret ?_
      refine ret1 (P := Try.prog) (fn := Try.f15) hd s2 (hR_ _ _ ?_)
      exact ⟨by rw [← List.take_of_length_le (l := l) (i := k) (by have := vp_len hR; omega), hc0_1]; rfl, (hS4.old (by simp))⟩
/-- the members of a network -/
def netM (self : Int) (v : VV) : List Nat → List Int
  | [] => []
  | k :: l => (if (k : Int) = self ∨ (k ≠ 0 ∧ v.peers.any (fullB k) = true) then [(k : Int)] else []) ++ netM self v l
def upto (k : Nat) : List Nat := List.range k
theorem netM_snoc (self : Int) (v : VV) (l : List Nat) (k : Nat) : netM self v (l ++ [k]) = netM self v l ++ (if (k : Int) = self ∨ (k ≠ 0 ∧ v.peers.any (fullB k) = true) then [(k : Int)] else []) := by
  induction l with
  | nil => simp [netM]
  | cons x l ih => rw [List.cons_append, netM, netM, ih, List.append_assoc]
theorem netM_len (self : Int) (v : VV) (l : List Nat) : (netM self v l).length ≤ l.length := by
  induction l with
  | nil => exact Nat.le_refl _
  | cons x l ih => rw [netM, List.length_append, List.length_cons]; split <;> simp <;> omega
/-- its description -/
def netF (self : Int) (v : VV) : LV := ⟨⟨0, 2, v.lan * 16 + self, self, 0, 0, 0⟩, [], netM self v (List.range 16)⟩
theorem netM_next (self : Int) (v : VV) (k : Nat) (xs : List Value) (h : xs = ints (netM self v (List.range k))) (hc : (k : Int) = self ∨ (k ≠ 0 ∧ v.peers.any (fullB k) = true)) : xs ++ [Value.int .i64 k] = ints (netM self v (List.range (k + 1))) := by
  rw [List.range_succ, netM_snoc, if_pos hc, ints_append, h]; rfl
theorem netM_skip (self : Int) (v : VV) (k : Nat) (xs : List Value) (h : xs = ints (netM self v (List.range k))) (hc : ¬ ((k : Int) = self ∨ (k ≠ 0 ∧ v.peers.any (fullB k) = true))) : xs = ints (netM self v (List.range (k + 1))) := by
  rw [List.range_succ, netM_snoc, if_neg hc, List.append_nil, h]
theorem netM_one (self : Int) (v : VV) (hs : 1 ≤ self) : ints (netM self v (List.range 1)) = [] := by
  show ints (netM self v [0]) = []
  rw [netM, if_neg (by rintro (h | ⟨h, _⟩); have : (0 : Int) = self := h; omega; exact h rfl)]
  rfl
theorem row_len {w : World} {B e m : Nat} {v : Value} {zs : List Int} (h : w.ownsRow B e 1 v m (ints zs)) : m = zs.length := by have := h.1; simpa [ints] using this.symm
set_option maxRecDepth 100000 in
set_option maxHeartbeats 800000 in
theorem refNet_any (self : Int) (v : VV) (p : VP) (W : World) (hv : VOK W v p) (hn : v.peers.length ≤ 30) (hs : 1 ≤ self ∧ self ≤ 15) (hl : 0 ≤ v.lan ∧ v.lan ≤ 3) :
    Calls Try.prog 18 #[i6 self, .agg #[i6 v.lan, i6 v.cost, i6 v.self, i6 v.prio, i6 v.state, i6 v.dr, i6 v.bdr, .slice p.A v.peers.length p.c, .slice p.B p.m p.d]] W (fun r w' => ∃ q, r = .returned (.agg (lsaA (netF self v) q)) ∧ LOwn w' W.heap.size (netF self v) q ∧ Below W.heap.size W w') := by
  have hS := S.start W
  refine calls_walk Try.func18 rfl fun R_ hR_ a hz hd hargs => ?_
  replace hz : a.tmps.size = 33 := hz.trans (by kernel_rfl)
  have s0 := hargs 0 _ rfl
  have s1 := hargs 1 _ rfl
  clear hargs
  refine wp_seq ?_
  refine seq_l [0, 1] hz ?_
  refine ⟨fun a_ h_ => st_box (cells := #[i6 v.lan, i6 v.cost, i6 v.self, i6 v.prio, i6 v.state, i6 v.dr, i6 v.bdr, .slice p.A v.peers.length p.c, .slice p.B p.m p.d]) hS (on_none rfl) rfl (h_.b 1 s1) (by kernel_rfl) fun g3 w3 hS3 hb3 => ⟨_, rfl, ?_⟩, trivial⟩
  clear h_ a_ hS
  clear hb3
  refine ⟨fun a_ h_ => st_alloc (cells := #[i6 0, i6 0, i6 0, i6 0, i6 0, i6 0, i6 0, .slice none 0 0, .slice none 0 0]) hS3 (on_none rfl) rfl (by kernel_rfl) fun g4 w4 hS4 hb4 => ⟨_, rfl, ?_⟩, trivial⟩
  clear h_ a_ hS3
  clear hb4
  intro a2 hput
  replace s0 := hput.o 0 s0
  have s3 : sl a2 3 = pt g3 0 := hput.new 0 3 rfl
  have s4 : sl a2 4 = pt g4 0 := hput.new 1 4 rfl
  replace hz := hput.size.trans hz
  replace hd := hput.defers.trans hd
  clear hput s1
  change Code.wp _ _ _ _ _
  refine wp_seq ?_
  refine seq_l [3, 7, 8] hz ?_
  refine ⟨pt g3 0, fun _ h_ => rk (fa 0 rfl (h_.b 3 s3)),
   i6 v.lan, fun _ h_ => rk (ld hS4 1 rfl (h_.d 0 7)),
   i6 self, fun _ h_ => rmv (h_.b 0 s0), ?_⟩
  refine ⟨fun a_ h_ => st_call (on_none rfl) (run_call rfl (map2 (h_.d 1 8) (h_.d 2 9)) rfl) (addr_any v.lan self _ hl.1 hl.2 (by omega) (by omega)) ?_, trivial⟩
  rintro e w6 ⟨rfl, hb6⟩
  refine ⟨_, rfl, _, rfl, ?_⟩
  clear h_ a_
  have hS6 := hS4.below hb6
  clear hS4 hb6
  refine ⟨i6 self, fun _ h_ => rmv (h_.b 0 s0),
   .agg #[i6 0, i6 2, i6 (v.lan * 16 + self), i6 self, i6 0, i6 0, i6 0], fun _ h_ => rk (run_build (vals := #[(1, i6 2), (2, i6 (v.lan * 16 + self)), (3, i6 self)]) (r := .agg #[i6 0, i6 2, i6 (v.lan * 16 + self), i6 self, i6 0, i6 0, i6 0]) rfl (bp3 rfl (h_.d 3 10) (h_.d 4 11)) (by kernel_rfl)),
   .agg #[i6 0, i6 2, i6 (v.lan * 16 + self), i6 self, i6 0, i6 0, i6 0, .slice none 0 0, .slice none 0 0], fun _ h_ => rk (run_build (vals := #[(0, .agg #[i6 0, i6 2, i6 (v.lan * 16 + self), i6 self, i6 0, i6 0, i6 0])]) (r := .agg #[i6 0, i6 2, i6 (v.lan * 16 + self), i6 self, i6 0, i6 0, i6 0, .slice none 0 0, .slice none 0 0]) rfl (bp1 (h_.d 5 12)) (by kernel_rfl)), ?_⟩
  refine ⟨fun a_ h_ => st_alloc (cells := #[i6 0, i6 0, i6 0, i6 0, i6 0, i6 0, i6 0, .slice none 0 0, .slice none 0 0]) hS6 (on_none rfl) rfl (by kernel_rfl) fun g7 w7 hS7 hb7 => ⟨_, rfl, ?_⟩, trivial⟩
  clear h_ a_ hS6
  clear hb7
  refine ⟨fun a_ h_ => st_store (n := 9) (cells := #[i6 0, i6 2, i6 (v.lan * 16 + self), i6 self, i6 0, i6 0, i6 0, .slice none 0 0, .slice none 0 0]) (cs' := #[i6 0, i6 2, i6 (v.lan * 16 + self), i6 self, i6 0, i6 0, i6 0, .slice none 0 0, .slice none 0 0]) 0 hS7 rfl (on_none rfl) rfl (h_.d 7 5) (h_.d 6 13) rfl (by kernel_rfl) ⟨Nat.le_of_ble_eq_true rfl, rfl, by kernel_rfl⟩ rfl fun w8 hS8 he8 => ⟨_, rfl, ?_⟩, trivial⟩
  clear h_ a_ he8 hS7
  replace hS8 : S (kap W) ((blkA g7 27 #[i6 0, i6 2, i6 (v.lan * 16 + self), i6 self, i6 0, i6 0, i6 0, .slice none 0 0, .slice none 0 0]) :: (blkA g4 27 #[i6 0, i6 0, i6 0, i6 0, i6 0, i6 0, i6 0, .slice none 0 0, .slice none 0 0]) :: (blkA g3 48 #[i6 v.lan, i6 v.cost, i6 v.self, i6 v.prio, i6 v.state, i6 v.dr, i6 v.bdr, .slice p.A v.peers.length p.c, .slice p.B p.m p.d]) :: []) ((memA W W.heap.size) :: []) w8 := hS8
  intro a5 hput
  replace s0 := hput.o 0 s0
  replace s3 := hput.o 3 s3
  replace s4 := hput.o 4 s4
  have s5 : sl a5 5 = pt g7 0 := hput.new 7 5 rfl
  replace hz := hput.size.trans hz
  replace hd := hput.defers.trans hd
  clear hput
  change Code.wp _ _ _ _ _
  refine wp_seq ?_
  refine wp_seq ?_
  refine seq_l [] hz ?_
  refine ⟨i6 1, fun _ h_ => rk (run_assign rfl rfl), ?_⟩
  intro a9 hput
  replace s0 := hput.o 0 s0
  replace s3 := hput.o 3 s3
  replace s4 := hput.o 4 s4
  replace s5 := hput.o 5 s5
  have s6 : sl a9 6 = i6 1 := hput.new 0 6 rfl
  replace hz := hput.size.trans hz
  replace hd := hput.defers.trans hd
  clear hput
  change Code.wp _ _ _ _ _
  refine wp_block ?_
  refine wp_loop (fun a w => ∃ k : Nat, ∃ m : Nat, ∃ A : Option Addr, ∃ c : Nat, ∃ xs : List Value, (1 ≤ k) ∧ (k ≤ 16) ∧ (m ≤ k) ∧ (xs = ints (netM self v (List.range k))) ∧ a.tmps.size = 33 ∧ a.defers = [] ∧ sl a 0 = i6 self ∧ sl a 3 = pt g3 0 ∧ sl a 4 = pt g4 0 ∧ sl a 5 = pt g7 0 ∧ sl a 6 = i6 k ∧ S (kap W) ((rowA (.slice A m c) 3 1 m xs) :: (blkA g7 27 #[i6 0, i6 2, i6 (v.lan * 16 + self), i6 self, i6 0, i6 0, i6 0, .slice none 0 0, .slice A m c]) :: (blkA g4 27 #[i6 0, i6 0, i6 0, i6 0, i6 0, i6 0, i6 0, .slice none 0 0, .slice none 0 0]) :: (blkA g3 48 #[i6 v.lan, i6 v.cost, i6 v.self, i6 v.prio, i6 v.state, i6 v.dr, i6 v.bdr, .slice p.A v.peers.length p.c, .slice p.B p.m p.d]) :: []) ((memA W W.heap.size) :: []) w) (fun a _ => 16 - (intOf (sl a 6)).toNat) ?_ ?_
  · have hSn := hS8.nilrow 3 1
    exact ⟨1, 0, none, 0, [], by omega, by omega, by omega, (netM_one self v hs.1).symm, hz, hd, s0, s3, s4, s5, s6, hSn⟩
  · clear hz hd s0 s3 s4 s5 s6 hS8
    rintro a10 w10 ⟨k, m, A, c, xs, hc0_0, hc0_1, hc0_2, hc0_3, hz, hd, s0, s3, s4, s5, s6, hS10⟩
    have hmu0 := s6
    refine wp_seq ?_
    refine wp_seq ?_
    refine seq_l [] hz ?_
    refine ⟨i6 k, fun _ h_ => rmv (h_.b 6 s6),
     .bool (decide ((k : Int) ≤ 15)), fun _ h_ => rk (run_cmp rfl (h_.d 0 14) rfl rfl (by first | rfl | exact neq_dec _ _ | exact eq_dec _ _ | simp)), ?_⟩
    intro a11 hput
    replace s0 := hput.o 0 s0
    replace s3 := hput.o 3 s3
    replace s4 := hput.o 4 s4
    replace s5 := hput.o 5 s5
    replace s6 := hput.o 6 s6
    have s14 : sl a11 14 = i6 k := hput.new 0 14 rfl
    have s15 : sl a11 15 = .bool (decide ((k : Int) ≤ 15)) := hput.new 1 15 rfl
    replace hz := hput.size.trans hz
    replace hd := hput.defers.trans hd
    clear hput
    change Code.wp _ _ _ _ _
    refine wp_cond_d s15 (fun hc15 => ?_) (fun hc15 => ?_)
    · clear s15
      refine wp_skip ?_
      change Code.wp _ _ _ _ _
      refine wp_seq ?_
      refine wp_block ?_
      refine wp_seq ?_
      refine seq_l [6] hz ?_
      refine ⟨i6 k, fun _ h_ => rmv (h_.b 6 s6),
       i6 self, fun _ h_ => rmv (h_.b 0 s0),
       .bool (decide ((k : Int) = self)), fun _ h_ => rk (run_cmp rfl (h_.d 0 18) (h_.d 1 19) rfl (by first | rfl | exact neq_dec _ _ | exact eq_dec _ _ | simp)),
       .bool (decide ((k : Int) = self)), fun _ h_ => rmv (h_.d 2 20), ?_⟩
      rcases dt ((k : Int) = self) with ⟨he, hg3⟩ | ⟨he, hg3⟩
      · rw [he]
        clear he
        refine seq_off (j := 3) (d := 21) (b := false) [4, 5] _ (by kernel_rfl) (.inl rfl) ?_
        refine seq_offe (j := 3) (d := 21) (b := false) (by kernel_rfl) (.inl rfl) ?_
        refine ⟨.bool true, fun _ h_ => rk (run_pick_t rfl (h_.d 3 21) rfl), ?_⟩
        intro a12 hput
        replace s0 := hput.o 0 s0
        replace s3 := hput.o 3 s3
        replace s4 := hput.o 4 s4
        replace s5 := hput.o 5 s5
        replace s6 := hput.o 6 s6
        replace s14 := hput.o 14 s14
        have s18 : sl a12 18 = i6 k := hput.new 0 18 rfl
        have s19 : sl a12 19 = i6 self := hput.new 1 19 rfl
        have s20 : sl a12 20 = .bool true := hput.new 2 20 rfl
        have s21 : sl a12 21 = .bool true := hput.new 3 21 rfl
        have s25 : sl a12 25 = .bool true := hput.new 7 25 rfl
        replace hz := hput.size.trans hz
        replace hd := hput.defers.trans hd
        clear hput
        change Code.wp _ _ _ _ _
        refine wp_cond_true s25 ?_
        refine seq_l [3, 4, 6] hz ?_
        refine ⟨pt g7 8, fun _ h_ => rk (fa 8 rfl (h_.b 5 s5)),
         .slice A m c, fun _ h_ => rk (ld hS10 1 rfl (h_.d 0 26)),
         i6 k, fun _ h_ => rmv (h_.b 6 s6), ?_⟩
        refine ⟨fun a_ h_ => st_lit (e := 3) (vals := [(0, i6 k)]) (cells := #[i6 k]) hS10 (on_none rfl) rfl (parts1 (h_.d 2 28)) fun g14 w14 hS14 hb14 => ⟨_, rfl, ?_⟩, trivial⟩
        clear h_ a_ hS10
        clear hb14
        refine ⟨fun a_ h_ => sap (bytes := 8) (news := [i6 k]) hS14 1 (on_none rfl) rfl (h_.d 1 27) (h_.d 3 29) (reads_blk (hS14.blk (i := 0) rfl) rfl) (by simp [Value.oneCell']) (by (try unfold maxLen); omega) (by (try unfold maxLen); omega) fun A15 c15 w15 hS15 => ⟨_, rfl, ?_⟩, trivial⟩
        clear h_ a_ hS14
        replace hS15 : S (kap W) ((blkA g14 3 #[i6 k]) :: (rowA (.slice A15 (m + 1) c15) 3 1 (m + 1) (xs ++ [i6 k])) :: (blkA g7 27 #[i6 0, i6 2, i6 (v.lan * 16 + self), i6 self, i6 0, i6 0, i6 0, .slice none 0 0, .slice A m c]) :: (blkA g4 27 #[i6 0, i6 0, i6 0, i6 0, i6 0, i6 0, i6 0, .slice none 0 0, .slice none 0 0]) :: (blkA g3 48 #[i6 v.lan, i6 v.cost, i6 v.self, i6 v.prio, i6 v.state, i6 v.dr, i6 v.bdr, .slice p.A v.peers.length p.c, .slice p.B p.m p.d]) :: []) ((memA W W.heap.size) :: []) w15 := hS15
        refine ⟨pt g7 8, fun _ h_ => rk (fa 8 rfl (h_.b 5 s5)), ?_⟩
        refine ⟨fun a_ h_ => st_store (n := 1) (cells := #[.slice A15 (m + 1) c15]) (cs' := #[i6 0, i6 2, i6 (v.lan * 16 + self), i6 self, i6 0, i6 0, i6 0, .slice none 0 0, .slice A15 (m + 1) c15]) 2 hS15 rfl (on_none rfl) rfl (h_.d 5 31) (h_.d 4 30) rfl (by kernel_rfl) ⟨Nat.le_of_ble_eq_true rfl, rfl, by kernel_rfl⟩ rfl fun w16 hS16 he16 => ⟨_, rfl, ?_⟩, trivial⟩
        clear h_ a_ he16 hS15
        replace hS16 : S (kap W) ((blkA g14 3 #[i6 k]) :: (rowA (.slice A15 (m + 1) c15) 3 1 (m + 1) (xs ++ [i6 k])) :: (blkA g7 27 #[i6 0, i6 2, i6 (v.lan * 16 + self), i6 self, i6 0, i6 0, i6 0, .slice none 0 0, .slice A15 (m + 1) c15]) :: (blkA g4 27 #[i6 0, i6 0, i6 0, i6 0, i6 0, i6 0, i6 0, .slice none 0 0, .slice none 0 0]) :: (blkA g3 48 #[i6 v.lan, i6 v.cost, i6 v.self, i6 v.prio, i6 v.state, i6 v.dr, i6 v.bdr, .slice p.A v.peers.length p.c, .slice p.B p.m p.d]) :: []) ((memA W W.heap.size) :: []) w16 := hS16
        intro a13 hput
        replace s0 := hput.o 0 s0
        replace s3 := hput.o 3 s3
        replace s4 := hput.o 4 s4
        replace s5 := hput.o 5 s5
        replace s6 := hput.o 6 s6
        replace s14 := hput.o 14 s14
        replace s18 := hput.o 18 s18
        replace s19 := hput.o 19 s19
        replace s20 := hput.o 20 s20
        replace s21 := hput.o 21 s21
        replace s25 := hput.o 25 s25
        have s26 : sl a13 26 = pt g7 8 := hput.new 0 26 rfl
        have s27 : sl a13 27 = .slice A m c := hput.new 1 27 rfl
        have s28 : sl a13 28 = i6 k := hput.new 2 28 rfl
        have s29 : sl a13 29 = .slice (some ⟨g14, 0, none⟩) 1 1 := hput.new 3 29 rfl
        have s30 : sl a13 30 = .slice A15 (m + 1) c15 := hput.new 4 30 rfl
        have s31 : sl a13 31 = pt g7 8 := hput.new 5 31 rfl
        replace hz := hput.size.trans hz
        replace hd := hput.defers.trans hd
        clear hput
        change Code.wp _ _ _ _ _
        refine seq_l [] hz ?_
        refine ⟨i6 k, fun _ h_ => rmv (h_.b 6 s6),
         i6 (k + 1), fun _ h_ => rk (run_addI rfl (h_.d 0 16) rfl (by omega) rfl),
         i6 (k + 1), fun _ h_ => ras (h_.d 1 17), ?_⟩
        intro a17 hput
        replace s0 := hput.o 0 s0
        replace s3 := hput.o 3 s3
        replace s4 := hput.o 4 s4
        replace s5 := hput.o 5 s5
        replace s6 : sl a17 6 = i6 (k + 1) := hput.new 2 6 rfl
        replace s14 := hput.o 14 s14
        have s16 : sl a17 16 = i6 k := hput.new 0 16 rfl
        have s17 : sl a17 17 = i6 (k + 1) := hput.new 1 17 rfl
        replace s18 := hput.o 18 s18
        replace s19 := hput.o 19 s19
        replace s20 := hput.o 20 s20
        replace s21 := hput.o 21 s21
        replace s25 := hput.o 25 s25
        replace s26 := hput.o 26 s26
        replace s27 := hput.o 27 s27
        replace s28 := hput.o 28 s28
        replace s29 := hput.o 29 s29
        replace s30 := hput.o 30 s30
        replace s31 := hput.o 31 s31
        replace hz := hput.size.trans hz
        replace hd := hput.defers.trans hd
        clear hput
        have hSd := hS16.drop
        refine ⟨⟨k + 1, m + 1, A15, c15, (xs ++ [i6 k]), by omega, by omega, by omega, netM_next self v k xs hc0_3 (by first | exact .inl (by assumption) | exact .inr ⟨by omega, by assumption⟩), hz, hd, s0, s3, s4, s5, s6, hSd⟩, ?_⟩
        show 16 - (intOf (sl a17 6)).toNat < 16 - (intOf (sl a10 6)).toNat
        rw [show sl a17 6 = _ from s6, show sl a10 6 = _ from hmu0]
        simp only [intOf]
        omega
      · rw [he]
        clear he
        refine ⟨.agg #[i6 v.lan, i6 v.cost, i6 v.self, i6 v.prio, i6 v.state, i6 v.dr, i6 v.bdr, .slice p.A v.peers.length p.c, .slice p.B p.m p.d], fun _ h_ => r_ok (h_.on 3 21) (lbS 9 (hS10.blk (i := 3) rfl) rfl (h_.b 3 s3)),
         i6 k, fun _ h_ => r_ok (h_.on 3 21) (run_move rfl (h_.b 6 s6)), ?_⟩
        refine ⟨fun a_ h_ => st_call (h_.on 3 21) (run_call rfl (map2 (h_.d 4 22) (h_.d 5 23)) rfl) (refFull_any v p (k : Int) _ (Reads.old hv (hS10.old (by simp))) hn) ?_, trivial⟩
        rintro e w18 ⟨rfl, hb18⟩
        refine ⟨_, rfl, _, rfl, ?_⟩
        clear h_ a_
        have hS18 := hS10.below hb18
        clear hS10 hb18
        refine ⟨.bool (v.peers.any (fullB (k : Int))), fun _ h_ => rk (run_pick_f rfl (h_.d 3 21) (h_.d 6 24)), ?_⟩
        intro a12 hput
        replace s0 := hput.o 0 s0
        replace s3 := hput.o 3 s3
        replace s4 := hput.o 4 s4
        replace s5 := hput.o 5 s5
        replace s6 := hput.o 6 s6
        replace s14 := hput.o 14 s14
        have s18 : sl a12 18 = i6 k := hput.new 0 18 rfl
        have s19 : sl a12 19 = i6 self := hput.new 1 19 rfl
        have s20 : sl a12 20 = .bool false := hput.new 2 20 rfl
        have s21 : sl a12 21 = .bool false := hput.new 3 21 rfl
        have s22 : sl a12 22 = .agg #[i6 v.lan, i6 v.cost, i6 v.self, i6 v.prio, i6 v.state, i6 v.dr, i6 v.bdr, .slice p.A v.peers.length p.c, .slice p.B p.m p.d] := hput.new 4 22 rfl
        have s23 : sl a12 23 = i6 k := hput.new 5 23 rfl
        have s24 : sl a12 24 = .bool (v.peers.any (fullB (k : Int))) := hput.new 6 24 rfl
        have s25 : sl a12 25 = .bool (v.peers.any (fullB (k : Int))) := hput.new 7 25 rfl
        replace hz := hput.size.trans hz
        replace hd := hput.defers.trans hd
        clear hput
        change Code.wp _ _ _ _ _
        refine wp_cond_b s25 (fun hc25 => ?_) (fun hc25 => ?_)
        · clear s25
          refine seq_l [3, 4, 6] hz ?_
          refine ⟨pt g7 8, fun _ h_ => rk (fa 8 rfl (h_.b 5 s5)),
           .slice A m c, fun _ h_ => rk (ld hS18 1 rfl (h_.d 0 26)),
           i6 k, fun _ h_ => rmv (h_.b 6 s6), ?_⟩
          refine ⟨fun a_ h_ => st_lit (e := 3) (vals := [(0, i6 k)]) (cells := #[i6 k]) hS18 (on_none rfl) rfl (parts1 (h_.d 2 28)) fun g20 w20 hS20 hb20 => ⟨_, rfl, ?_⟩, trivial⟩
          clear h_ a_ hS18
          clear hb20
          refine ⟨fun a_ h_ => sap (bytes := 8) (news := [i6 k]) hS20 1 (on_none rfl) rfl (h_.d 1 27) (h_.d 3 29) (reads_blk (hS20.blk (i := 0) rfl) rfl) (by simp [Value.oneCell']) (by (try unfold maxLen); omega) (by (try unfold maxLen); omega) fun A21 c21 w21 hS21 => ⟨_, rfl, ?_⟩, trivial⟩
          clear h_ a_ hS20
          replace hS21 : S (kap W) ((blkA g20 3 #[i6 k]) :: (rowA (.slice A21 (m + 1) c21) 3 1 (m + 1) (xs ++ [i6 k])) :: (blkA g7 27 #[i6 0, i6 2, i6 (v.lan * 16 + self), i6 self, i6 0, i6 0, i6 0, .slice none 0 0, .slice A m c]) :: (blkA g4 27 #[i6 0, i6 0, i6 0, i6 0, i6 0, i6 0, i6 0, .slice none 0 0, .slice none 0 0]) :: (blkA g3 48 #[i6 v.lan, i6 v.cost, i6 v.self, i6 v.prio, i6 v.state, i6 v.dr, i6 v.bdr, .slice p.A v.peers.length p.c, .slice p.B p.m p.d]) :: []) ((memA W W.heap.size) :: []) w21 := hS21
          refine ⟨pt g7 8, fun _ h_ => rk (fa 8 rfl (h_.b 5 s5)), ?_⟩
          refine ⟨fun a_ h_ => st_store (n := 1) (cells := #[.slice A21 (m + 1) c21]) (cs' := #[i6 0, i6 2, i6 (v.lan * 16 + self), i6 self, i6 0, i6 0, i6 0, .slice none 0 0, .slice A21 (m + 1) c21]) 2 hS21 rfl (on_none rfl) rfl (h_.d 5 31) (h_.d 4 30) rfl (by kernel_rfl) ⟨Nat.le_of_ble_eq_true rfl, rfl, by kernel_rfl⟩ rfl fun w22 hS22 he22 => ⟨_, rfl, ?_⟩, trivial⟩
          clear h_ a_ he22 hS21
          replace hS22 : S (kap W) ((blkA g20 3 #[i6 k]) :: (rowA (.slice A21 (m + 1) c21) 3 1 (m + 1) (xs ++ [i6 k])) :: (blkA g7 27 #[i6 0, i6 2, i6 (v.lan * 16 + self), i6 self, i6 0, i6 0, i6 0, .slice none 0 0, .slice A21 (m + 1) c21]) :: (blkA g4 27 #[i6 0, i6 0, i6 0, i6 0, i6 0, i6 0, i6 0, .slice none 0 0, .slice none 0 0]) :: (blkA g3 48 #[i6 v.lan, i6 v.cost, i6 v.self, i6 v.prio, i6 v.state, i6 v.dr, i6 v.bdr, .slice p.A v.peers.length p.c, .slice p.B p.m p.d]) :: []) ((memA W W.heap.size) :: []) w22 := hS22
          intro a19 hput
          replace s0 := hput.o 0 s0
          replace s3 := hput.o 3 s3
          replace s4 := hput.o 4 s4
          replace s5 := hput.o 5 s5
          replace s6 := hput.o 6 s6
          replace s14 := hput.o 14 s14
          replace s18 := hput.o 18 s18
          replace s19 := hput.o 19 s19
          replace s20 := hput.o 20 s20
          replace s21 := hput.o 21 s21
          replace s22 := hput.o 22 s22
          replace s23 := hput.o 23 s23
          replace s24 := hput.o 24 s24
          have s26 : sl a19 26 = pt g7 8 := hput.new 0 26 rfl
          have s27 : sl a19 27 = .slice A m c := hput.new 1 27 rfl
          have s28 : sl a19 28 = i6 k := hput.new 2 28 rfl
          have s29 : sl a19 29 = .slice (some ⟨g20, 0, none⟩) 1 1 := hput.new 3 29 rfl
          have s30 : sl a19 30 = .slice A21 (m + 1) c21 := hput.new 4 30 rfl
          have s31 : sl a19 31 = pt g7 8 := hput.new 5 31 rfl
          replace hz := hput.size.trans hz
          replace hd := hput.defers.trans hd
          clear hput
          change Code.wp _ _ _ _ _
          refine seq_l [] hz ?_
          refine ⟨i6 k, fun _ h_ => rmv (h_.b 6 s6),
           i6 (k + 1), fun _ h_ => rk (run_addI rfl (h_.d 0 16) rfl (by omega) rfl),
           i6 (k + 1), fun _ h_ => ras (h_.d 1 17), ?_⟩
          intro a23 hput
          replace s0 := hput.o 0 s0
          replace s3 := hput.o 3 s3
          replace s4 := hput.o 4 s4
          replace s5 := hput.o 5 s5
          replace s6 : sl a23 6 = i6 (k + 1) := hput.new 2 6 rfl
          replace s14 := hput.o 14 s14
          have s16 : sl a23 16 = i6 k := hput.new 0 16 rfl
          have s17 : sl a23 17 = i6 (k + 1) := hput.new 1 17 rfl
          replace s18 := hput.o 18 s18
          replace s19 := hput.o 19 s19
          replace s20 := hput.o 20 s20
          replace s21 := hput.o 21 s21
          replace s22 := hput.o 22 s22
          replace s23 := hput.o 23 s23
          replace s24 := hput.o 24 s24
          replace s26 := hput.o 26 s26
          replace s27 := hput.o 27 s27
          replace s28 := hput.o 28 s28
          replace s29 := hput.o 29 s29
          replace s30 := hput.o 30 s30
          replace s31 := hput.o 31 s31
          replace hz := hput.size.trans hz
          replace hd := hput.defers.trans hd
          clear hput
          have hSd := hS22.drop
          refine ⟨⟨k + 1, m + 1, A21, c21, (xs ++ [i6 k]), by omega, by omega, by omega, netM_next self v k xs hc0_3 (by first | exact .inl (by assumption) | exact .inr ⟨by omega, by assumption⟩), hz, hd, s0, s3, s4, s5, s6, hSd⟩, ?_⟩
          show 16 - (intOf (sl a23 6)).toNat < 16 - (intOf (sl a10 6)).toNat
          rw [show sl a23 6 = _ from s6, show sl a10 6 = _ from hmu0]
          simp only [intOf]
          omega
        · clear s25
          refine wp_skip ?_
          change Code.wp _ _ _ _ _
          refine seq_l [] hz ?_
          refine ⟨i6 k, fun _ h_ => rmv (h_.b 6 s6),
           i6 (k + 1), fun _ h_ => rk (run_addI rfl (h_.d 0 16) rfl (by omega) rfl),
           i6 (k + 1), fun _ h_ => ras (h_.d 1 17), ?_⟩
          intro a24 hput
          replace s0 := hput.o 0 s0
          replace s3 := hput.o 3 s3
          replace s4 := hput.o 4 s4
          replace s5 := hput.o 5 s5
          replace s6 : sl a24 6 = i6 (k + 1) := hput.new 2 6 rfl
          replace s14 := hput.o 14 s14
          have s16 : sl a24 16 = i6 k := hput.new 0 16 rfl
          have s17 : sl a24 17 = i6 (k + 1) := hput.new 1 17 rfl
          replace s18 := hput.o 18 s18
          replace s19 := hput.o 19 s19
          replace s20 := hput.o 20 s20
          replace s21 := hput.o 21 s21
          replace s22 := hput.o 22 s22
          replace s23 := hput.o 23 s23
          replace s24 := hput.o 24 s24
          replace hz := hput.size.trans hz
          replace hd := hput.defers.trans hd
          clear hput
          refine ⟨⟨k + 1, m, A, c, xs, by omega, by omega, by omega, netM_skip self v k xs hc0_3 (by rintro (h | ⟨_, h⟩) <;> simp_all), hz, hd, s0, s3, s4, s5, s6, hS18⟩, ?_⟩
          show 16 - (intOf (sl a24 6)).toNat < 16 - (intOf (sl a10 6)).toNat
          rw [show sl a24 6 = _ from s6, show sl a10 6 = _ from hmu0]
          simp only [intOf]
          omega
    · clear s15
      refine wp_exit ?_
      change Code.wp _ _ _ _ _
      refine wp_seq ?_
      refine seq_l [1] hz ?_
      refine ⟨.agg #[i6 0, i6 2, i6 (v.lan * 16 + self), i6 self, i6 0, i6 0, i6 0, .slice none 0 0, .slice A m c], fun _ h_ => rk (lbS 9 (hS10.blk (i := 1) rfl) rfl (h_.b 5 s5)), ?_⟩
      refine ⟨fun a_ h_ => st_store (n := 9) (cells := #[i6 0, i6 2, i6 (v.lan * 16 + self), i6 self, i6 0, i6 0, i6 0, .slice none 0 0, .slice A m c]) (cs' := #[i6 0, i6 2, i6 (v.lan * 16 + self), i6 self, i6 0, i6 0, i6 0, .slice none 0 0, .slice A m c]) 2 hS10 rfl (on_none rfl) rfl (h_.b 4 s4) (h_.d 0 32) rfl (by kernel_rfl) ⟨Nat.le_of_ble_eq_true rfl, rfl, by kernel_rfl⟩ rfl fun w26 hS26 he26 => ⟨_, rfl, ?_⟩, trivial⟩
      clear h_ a_ he26 hS10
      replace hS26 : S (kap W) ((rowA (.slice A m c) 3 1 m xs) :: (blkA g7 27 #[i6 0, i6 2, i6 (v.lan * 16 + self), i6 self, i6 0, i6 0, i6 0, .slice none 0 0, .slice A m c]) :: (blkA g4 27 #[i6 0, i6 2, i6 (v.lan * 16 + self), i6 self, i6 0, i6 0, i6 0, .slice none 0 0, .slice A m c]) :: (blkA g3 48 #[i6 v.lan, i6 v.cost, i6 v.self, i6 v.prio, i6 v.state, i6 v.dr, i6 v.bdr, .slice p.A v.peers.length p.c, .slice p.B p.m p.d]) :: []) ((memA W W.heap.size) :: []) w26 := hS26
      intro a25 hput
      replace s4 := hput.o 4 s4
      replace hz := hput.size.trans hz
      replace hd := hput.defers.trans hd
      clear hput s0 s3 s5 s6 s14
      change Code.wp _ _ _ _ _
      refine wp_ret ?_
      refine retC (P := Try.prog) (fn := Try.f18) hd s4 (hS26.blk (i := 2) rfl) (hR_ _ _ ?_) Try.underlying27
      have hr := hS26.rowBase (i := 0) rfl (by simp : memA W W.heap.size ∈ _)
      obtain rfl : k = 16 := by omega
      subst hc0_3
      obtain rfl := row_len hr
      exact ⟨⟨none, 0, A, c⟩, rfl, ⟨World.ownsRow_nil _ _ _ _, hr⟩, (hS26.old (by simp))⟩
def onB (z : PV) : Bool := decide (z.state = 6) && (decide (0 < z.id) && decide (z.id ≤ 15))
def onF (l : List PV) (i : Nat) : Bool := l.any fun z => onB z && decide (z.id = i)
def onV (l : List PV) : List Value := (List.range 16).map fun i => .bool (onF l i)
theorem onV_at (l : List PV) (k : Nat) (h : k < 16) : (onV l).toArray[k]? = some (.bool (onF l k)) := by simp [onV, h]
theorem onF_next (l : List PV) (k i : Nat) (z : PV) (hz : l[k]? = some z) : onF (l.take (k + 1)) i = (onF (l.take k) i || (onB z && decide (z.id = i))) := by
  unfold onF; rw [take_snoc l k z hz, List.any_append]; simp
theorem on_skip {l : List PV} {k : Nat} {z : PV} (hz : l[k]? = some z) (h : onB z = false) : onV (l.take (k + 1)) = onV (l.take k) := by
  unfold onV
  congr 1
  funext i
  rw [onF_next l k i z hz, h]; simp
theorem on_set {l : List PV} {k : Nat} {z : PV} (hz : l[k]? = some z) (h : onB z = true) : (onV (l.take k)).toArray.setIfInBounds z.id.toNat (.bool true) = (onV (l.take (k + 1))).toArray := by
  have hb : 0 < z.id ∧ z.id ≤ 15 := by unfold onB at h; simp at h; omega
  apply Array.ext_getElem?
  intro i
  rw [Array.getElem?_setIfInBounds]
  by_cases hi : i < 16
  · rw [onV_at _ _ hi, onV_at _ _ hi, onF_next l k i z hz, h]
    by_cases he : z.id.toNat = i
    · rw [if_pos he, if_pos (by simp [onV]; omega)]
      have : z.id = i := by omega
      simp [this]
    · rw [if_neg he]
      have : ¬ z.id = i := by omega
      simp [this]
  · rw [Array.getElem?_eq_none (by simp [onV]; omega), Array.getElem?_eq_none (by simp [onV]; omega)]
    rw [if_neg (by omega)]
theorem onB_false {z : PV} (h : ¬(z.state = 6 ∧ 0 < z.id ∧ z.id ≤ 15)) : onB z = false := by
  unfold onB
  by_cases h1 : z.state = 6
  · by_cases h2 : 0 < z.id
    · have : ¬ z.id ≤ 15 := by omega
      simp [this]
    · simp [h2]
  · simp [h1]
theorem onB_true {z : PV} (h : z.state = 6 ∧ 0 < z.id ∧ z.id ≤ 15) : onB z = true := by unfold onB; simp [h]
theorem onF_full (l : List PV) (k : Nat) (h : k < 16) (h0 : k ≠ 0) : onF l k = l.any (fullB k) := by
  unfold onF
  congr 1
  funext z
  unfold onB fullB
  have : ¬ (k : Int) = 0 := by omega
  by_cases hz : z.id = k
  · simp [hz, this, h0]; omega
  · simp [hz, this, h0]
theorem onF_zero (l : List PV) : onF l 0 = false := by
  unfold onF
  rw [List.any_eq_false]
  intro z _
  unfold onB
  simp
  omega
theorem on_cond (self : Int) (v : VV) (k : Nat) (h : k < 16) (hs : 1 ≤ self) : (onF v.peers k = true ∨ ((k : Int) = self ∧ 0 < (k : Int))) ↔ ((k : Int) = self ∨ (k ≠ 0 ∧ v.peers.any (fullB k) = true)) := by
  by_cases h0 : k = 0
  · subst h0; rw [onF_zero]; simp; omega
  · rw [onF_full v.peers k h h0]
    constructor
    · rintro (h1 | h1)
      · exact .inr ⟨h0, h1⟩
      · exact .inl h1.1
    · rintro (h1 | h1)
      · exact .inr ⟨h1, by omega⟩
      · exact .inl h1.2
def hasB (v : VV) : Bool := decide (v.state = 4) && v.peers.any (fullB 0)
def netR (self : Int) (v : VV) : LV := if hasB v then netF self v else default
set_option maxRecDepth 100000 in
set_option maxHeartbeats 800000 in
theorem net_any (self : Int) (v : VV) (p : VP) (W : World) (hv : VOK W v p) (hn : v.peers.length ≤ 30) (hs : 1 ≤ self ∧ self ≤ 15) (hl : 0 ≤ v.lan ∧ v.lan ≤ 3) :
    Calls Try.prog 16 #[i6 self, .agg #[i6 v.lan, i6 v.cost, i6 v.self, i6 v.prio, i6 v.state, i6 v.dr, i6 v.bdr, .slice p.A v.peers.length p.c, .slice p.B p.m p.d]] W (fun r w' => ∃ q, r = .returned (.tuple #[.agg (lsaA (netR self v) q), .bool (hasB v)]) ∧ LOwn w' W.heap.size (netR self v) q ∧ Below W.heap.size W w') := by
  have hS := S.start W
  refine calls_walk Try.func16 rfl fun R_ hR_ a hz hd hargs => ?_
  replace hz : a.tmps.size = 76 := hz.trans (by kernel_rfl)
  have s0 := hargs 0 _ rfl
  have s1 := hargs 1 _ rfl
  clear hargs
  refine wp_seq ?_
  refine seq_l [0, 1] hz ?_
  refine ⟨fun a_ h_ => st_box (cells := #[i6 v.lan, i6 v.cost, i6 v.self, i6 v.prio, i6 v.state, i6 v.dr, i6 v.bdr, .slice p.A v.peers.length p.c, .slice p.B p.m p.d]) hS (on_none rfl) rfl (h_.b 1 s1) (by kernel_rfl) fun g3 w3 hS3 hb3 => ⟨_, rfl, ?_⟩, trivial⟩
  clear h_ a_ hS
  clear hb3
  refine ⟨fun a_ h_ => st_alloc (cells := #[i6 0, i6 0, i6 0, i6 0, i6 0, i6 0, i6 0, .slice none 0 0, .slice none 0 0]) hS3 (on_none rfl) rfl (by kernel_rfl) fun g4 w4 hS4 hb4 => ⟨_, rfl, ?_⟩, trivial⟩
  clear h_ a_ hS3
  clear hb4
  refine ⟨.bool false, fun _ h_ => rk (run_assign rfl rfl), ?_⟩
  intro a2 hput
  replace s0 := hput.o 0 s0
  have s3 : sl a2 3 = pt g3 0 := hput.new 0 3 rfl
  have s4 : sl a2 4 = pt g4 0 := hput.new 1 4 rfl
  have s5 : sl a2 5 = .bool false := hput.new 2 5 rfl
  replace hz := hput.size.trans hz
  replace hd := hput.defers.trans hd
  clear hput s1
  change Code.wp _ _ _ _ _
  refine wp_seq ?_
  refine wp_seq ?_
  refine seq_l [6] hz ?_
  refine ⟨pt g3 2, fun _ h_ => rk (fa 2 rfl (h_.b 3 s3)),
   pt g3 4, fun _ h_ => rk (fa 2 rfl (h_.d 0 12)),
   i6 v.state, fun _ h_ => rk (ld hS4 1 rfl (h_.d 1 13)),
   .bool (decide ((v.state : Int) ≠ 4)), fun _ h_ => rk (run_cmp rfl (h_.d 2 14) rfl rfl (by first | rfl | exact neq_dec _ _ | exact eq_dec _ _ | simp)),
   .bool (decide ((v.state : Int) ≠ 4)), fun _ h_ => rmv (h_.d 3 15), ?_⟩
  rcases dt ((v.state : Int) ≠ 4) with ⟨he, hg4⟩ | ⟨he, hg4⟩
  · rw [he]
    clear he
    refine seq_off (j := 4) (d := 16) (b := false) [5] _ (by kernel_rfl) (.inl rfl) ?_
    refine seq_offe (j := 4) (d := 16) (b := false) (by kernel_rfl) (.inl rfl) ?_
    refine seq_off (j := 4) (d := 16) (b := false) [7] _ (by kernel_rfl) (.inl rfl) ?_
    refine ⟨.bool true, fun _ h_ => rk (run_pick_t rfl (h_.d 4 16) rfl), ?_⟩
    intro a5 hput
    replace s0 := hput.o 0 s0
    replace s3 := hput.o 3 s3
    replace s4 := hput.o 4 s4
    replace s5 := hput.o 5 s5
    have s20 : sl a5 20 = .bool true := hput.new 8 20 rfl
    replace hz := hput.size.trans hz
    replace hd := hput.defers.trans hd
    clear hput
    change Code.wp _ _ _ _ _
    refine wp_cond_true s20 ?_
    refine wp_seq ?_
    refine seq_l [1] hz ?_
    refine ⟨.agg #[i6 0, i6 0, i6 0, i6 0, i6 0, i6 0, i6 0, .slice none 0 0, .slice none 0 0], fun _ h_ => rk (run_build (vals := #[]) (r := .agg #[i6 0, i6 0, i6 0, i6 0, i6 0, i6 0, i6 0, .slice none 0 0, .slice none 0 0]) rfl (by simp) (by kernel_rfl)), ?_⟩
    refine ⟨fun a_ h_ => st_store (n := 9) (cells := #[i6 0, i6 0, i6 0, i6 0, i6 0, i6 0, i6 0, .slice none 0 0, .slice none 0 0]) (cs' := #[i6 0, i6 0, i6 0, i6 0, i6 0, i6 0, i6 0, .slice none 0 0, .slice none 0 0]) 0 hS4 rfl (on_none rfl) rfl (h_.b 4 s4) (h_.d 0 21) rfl (by kernel_rfl) ⟨Nat.le_of_ble_eq_true rfl, rfl, by kernel_rfl⟩ rfl fun w7 hS7 he7 => ⟨_, rfl, ?_⟩, trivial⟩
    clear h_ a_ he7 hS4
    replace hS7 : S (kap W) ((blkA g4 27 #[i6 0, i6 0, i6 0, i6 0, i6 0, i6 0, i6 0, .slice none 0 0, .slice none 0 0]) :: (blkA g3 48 #[i6 v.lan, i6 v.cost, i6 v.self, i6 v.prio, i6 v.state, i6 v.dr, i6 v.bdr, .slice p.A v.peers.length p.c, .slice p.B p.m p.d]) :: []) ((memA W W.heap.size) :: []) w7 := hS7
    refine ⟨.bool false, fun _ h_ => rk (run_assign rfl rfl), ?_⟩
    intro a6 hput
    replace s0 := hput.o 0 s0
    replace s3 := hput.o 3 s3
    replace s4 := hput.o 4 s4
    replace s5 : sl a6 5 = .bool false := hput.new 2 5 rfl
    replace hz := hput.size.trans hz
    replace hd := hput.defers.trans hd
    clear hput s20
    change Code.wp _ _ _ _ _
    refine wp_ret ?_
    refine retCT (P := Try.prog) (fn := Try.f16) hd s4 s5 (hS7.blk (i := 0) rfl) (hR_ _ _ ?_) Try.underlying27
    have hf : hasB v = false := by unfold hasB; simp_all
    have hn : netR self v = default := by unfold netR; rw [hf]; rfl
    rw [hf, hn]
    exact ⟨⟨none, 0, none, 0⟩, rfl, LOwn.none_ _ _, (hS7.old (by simp))⟩
  · rw [he]
    clear he
    refine ⟨.agg #[i6 v.lan, i6 v.cost, i6 v.self, i6 v.prio, i6 v.state, i6 v.dr, i6 v.bdr, .slice p.A v.peers.length p.c, .slice p.B p.m p.d], fun _ h_ => r_ok (h_.on 4 16) (lbS 9 (hS4.blk (i := 1) rfl) rfl (h_.b 3 s3)), ?_⟩
    refine ⟨fun a_ h_ => st_call (h_.on 4 16) (run_call rfl (map2 (h_.d 5 17) rfl) rfl) (full_any v p 0 _ (Reads.old hv (hS4.old (by simp))) hn) ?_, trivial⟩
    rintro e w8 ⟨rfl, hb8⟩
    refine ⟨_, rfl, _, rfl, ?_⟩
    clear h_ a_
    have hS8 := hS4.below hb8
    clear hS4 hb8
    refine ⟨.bool (!(v.peers.any (fullB 0))), fun _ h_ => r_ok (h_.on 4 16) (run_not rfl (h_.d 6 18) rfl),
     .bool (!(v.peers.any (fullB 0))), fun _ h_ => rk (run_pick_f rfl (h_.d 4 16) (h_.d 7 19)), ?_⟩
    intro a5 hput
    replace s0 := hput.o 0 s0
    replace s3 := hput.o 3 s3
    replace s4 := hput.o 4 s4
    replace s5 := hput.o 5 s5
    have s20 : sl a5 20 = .bool (!(v.peers.any (fullB 0))) := hput.new 8 20 rfl
    replace hz := hput.size.trans hz
    replace hd := hput.defers.trans hd
    clear hput
    change Code.wp _ _ _ _ _
    refine wp_cond_b s20 (fun hc20 => ?_) (fun hc20 => ?_)
    · clear s20
      replace hc20 := nbt hc20
      refine wp_seq ?_
      refine seq_l [1] hz ?_
      refine ⟨.agg #[i6 0, i6 0, i6 0, i6 0, i6 0, i6 0, i6 0, .slice none 0 0, .slice none 0 0], fun _ h_ => rk (run_build (vals := #[]) (r := .agg #[i6 0, i6 0, i6 0, i6 0, i6 0, i6 0, i6 0, .slice none 0 0, .slice none 0 0]) rfl (by simp) (by kernel_rfl)), ?_⟩
      refine ⟨fun a_ h_ => st_store (n := 9) (cells := #[i6 0, i6 0, i6 0, i6 0, i6 0, i6 0, i6 0, .slice none 0 0, .slice none 0 0]) (cs' := #[i6 0, i6 0, i6 0, i6 0, i6 0, i6 0, i6 0, .slice none 0 0, .slice none 0 0]) 0 hS8 rfl (on_none rfl) rfl (h_.b 4 s4) (h_.d 0 21) rfl (by kernel_rfl) ⟨Nat.le_of_ble_eq_true rfl, rfl, by kernel_rfl⟩ rfl fun w10 hS10 he10 => ⟨_, rfl, ?_⟩, trivial⟩
      clear h_ a_ he10 hS8
      replace hS10 : S (kap W) ((blkA g4 27 #[i6 0, i6 0, i6 0, i6 0, i6 0, i6 0, i6 0, .slice none 0 0, .slice none 0 0]) :: (blkA g3 48 #[i6 v.lan, i6 v.cost, i6 v.self, i6 v.prio, i6 v.state, i6 v.dr, i6 v.bdr, .slice p.A v.peers.length p.c, .slice p.B p.m p.d]) :: []) ((memA W W.heap.size) :: []) w10 := hS10
      refine ⟨.bool false, fun _ h_ => rk (run_assign rfl rfl), ?_⟩
      intro a9 hput
      replace s0 := hput.o 0 s0
      replace s3 := hput.o 3 s3
      replace s4 := hput.o 4 s4
      replace s5 : sl a9 5 = .bool false := hput.new 2 5 rfl
      replace hz := hput.size.trans hz
      replace hd := hput.defers.trans hd
      clear hput
      change Code.wp _ _ _ _ _
      refine wp_ret ?_
      refine retCT (P := Try.prog) (fn := Try.f16) hd s4 s5 (hS10.blk (i := 0) rfl) (hR_ _ _ ?_) Try.underlying27
      have hf : hasB v = false := by unfold hasB; simp_all
      have hn : netR self v = default := by unfold netR; rw [hf]; rfl
      rw [hf, hn]
      exact ⟨⟨none, 0, none, 0⟩, rfl, LOwn.none_ _ _, (hS10.old (by simp))⟩
    · clear s20
      replace hc20 := nbf hc20
      refine wp_skip ?_
      change Code.wp _ _ _ _ _
      refine wp_seq ?_
      refine seq_l [0] hz ?_
      refine ⟨fun a_ h_ => st_alloc (cells := #[.bool false, .bool false, .bool false, .bool false, .bool false, .bool false, .bool false, .bool false, .bool false, .bool false, .bool false, .bool false, .bool false, .bool false, .bool false, .bool false]) hS8 (on_none rfl) rfl (by kernel_rfl) fun g12 w12 hS12 hb12 => ⟨_, rfl, ?_⟩, trivial⟩
      clear h_ a_ hS8
      clear hb12
      intro a11 hput
      replace s0 := hput.o 0 s0
      replace s3 := hput.o 3 s3
      replace s4 := hput.o 4 s4
      replace s5 := hput.o 5 s5
      have s6 : sl a11 6 = pt g12 0 := hput.new 0 6 rfl
      replace hz := hput.size.trans hz
      replace hd := hput.defers.trans hd
      clear hput
      change Code.wp _ _ _ _ _
      refine wp_seq ?_
      refine wp_seq ?_
      refine seq_l [] hz ?_
      refine ⟨pt g3 7, fun _ h_ => rk (fa 7 rfl (h_.b 3 s3)),
       .slice p.A v.peers.length p.c, fun _ h_ => rk (ld hS12 2 rfl (h_.d 0 22)),
       i6 v.peers.length, fun _ h_ => rk (run_lenS rfl (h_.d 1 23) (by kernel_rfl)),
       i6 0, fun _ h_ => rk (run_move rfl rfl), ?_⟩
      intro a13 hput
      replace s0 := hput.o 0 s0
      replace s3 := hput.o 3 s3
      replace s4 := hput.o 4 s4
      replace s5 := hput.o 5 s5
      replace s6 := hput.o 6 s6
      have s23 : sl a13 23 = .slice p.A v.peers.length p.c := hput.new 1 23 rfl
      have s24 : sl a13 24 = i6 v.peers.length := hput.new 2 24 rfl
      have s25 : sl a13 25 = i6 0 := hput.new 3 25 rfl
      replace hz := hput.size.trans hz
      replace hd := hput.defers.trans hd
      clear hput
      change Code.wp _ _ _ _ _
      refine wp_block ?_
      refine wp_loop (fun a w => ∃ k : Nat, (k ≤ v.peers.length) ∧ a.tmps.size = 76 ∧ a.defers = [] ∧ sl a 0 = i6 self ∧ sl a 3 = pt g3 0 ∧ sl a 4 = pt g4 0 ∧ sl a 5 = .bool false ∧ sl a 6 = pt g12 0 ∧ sl a 23 = .slice p.A v.peers.length p.c ∧ sl a 24 = i6 v.peers.length ∧ sl a 25 = i6 k ∧ S (kap W) ((blkA g12 71 ((onV (v.peers.take k)).toArray)) :: (blkA g4 27 #[i6 0, i6 0, i6 0, i6 0, i6 0, i6 0, i6 0, .slice none 0 0, .slice none 0 0]) :: (blkA g3 48 #[i6 v.lan, i6 v.cost, i6 v.self, i6 v.prio, i6 v.state, i6 v.dr, i6 v.bdr, .slice p.A v.peers.length p.c, .slice p.B p.m p.d]) :: []) ((memA W W.heap.size) :: []) w) (fun a _ => v.peers.length - (intOf (sl a 25)).toNat) ?_ ?_
      · exact ⟨0, Nat.zero_le _, hz, hd, s0, s3, s4, s5, s6, s23, s24, s25, hS12⟩
      · clear hz hd s0 s3 s4 s5 s6 s23 s24 s25 hS12
        rintro a14 w14 ⟨k, hc0_0, hz, hd, s0, s3, s4, s5, s6, s23, s24, s25, hS14⟩
        have hmu0 := s25
        refine wp_seq ?_
        refine seq_l [] hz ?_
        refine ⟨.bool (decide ((k : Int) < v.peers.length)), fun _ h_ => rk (run_cmp rfl (h_.b 25 s25) (h_.b 24 s24) rfl (by first | rfl | exact neq_dec _ _ | exact eq_dec _ _ | simp)), ?_⟩
        intro a15 hput
        replace s0 := hput.o 0 s0
        replace s3 := hput.o 3 s3
        replace s4 := hput.o 4 s4
        replace s5 := hput.o 5 s5
        replace s6 := hput.o 6 s6
        replace s23 := hput.o 23 s23
        replace s24 := hput.o 24 s24
        replace s25 := hput.o 25 s25
        have s26 : sl a15 26 = .bool (decide ((k : Int) < v.peers.length)) := hput.new 0 26 rfl
        replace hz := hput.size.trans hz
        replace hd := hput.defers.trans hd
        clear hput
        change Code.wp _ _ _ _ _
        refine wp_seq ?_
        refine wp_cond_d s26 (fun hc26 => ?_) (fun hc26 => ?_)
        · clear s26
          refine wp_skip ?_
          change Code.wp _ _ _ _ _
          refine wp_seq ?_
          refine wp_block ?_
          refine wp_seq ?_
          refine seq_l [2, 3] hz ?_
          obtain ⟨b17, o17, z17, hA17, hb17, hz17, hq17⟩ := Reads.row_at PV.cells 7 PV.cells_len (k := k) (Reads.old hv (hS14.old (by simp))) (by decide) (by omega)
          refine ⟨pt b17 (o17 + k * 7), fun _ h_ => rk (run_indexV (size := 7) rfl (h_.b 23 s23) hA17 (h_.b 25 s25) (by kernel_rfl) (by omega) (by simp)),
           .agg #[i6 z17.id, i6 z17.prio, i6 z17.dr, i6 z17.bdr, i6 z17.state, .bool z17.two, i6 z17.at_], fun _ h_ => rk (run_loadV (size := 7) (cs := PV.cells z17) rfl (h_.d 0 27) (by kernel_rfl) rfl hq17), ?_⟩
          refine ⟨fun a_ h_ => st_alloc (cells := #[i6 0, i6 0, i6 0, i6 0, i6 0, .bool false, i6 0]) hS14 (on_none rfl) rfl (by kernel_rfl) fun g18 w18 hS18 hb18 => ⟨_, rfl, ?_⟩, trivial⟩
          clear h_ a_ hS14
          clear hb18
          refine ⟨fun a_ h_ => st_store (n := 7) (cells := #[i6 z17.id, i6 z17.prio, i6 z17.dr, i6 z17.bdr, i6 z17.state, .bool z17.two, i6 z17.at_]) (cs' := #[i6 z17.id, i6 z17.prio, i6 z17.dr, i6 z17.bdr, i6 z17.state, .bool z17.two, i6 z17.at_]) 0 hS18 rfl (on_none rfl) rfl (h_.d 2 8) (h_.d 1 28) rfl (by kernel_rfl) ⟨Nat.le_of_ble_eq_true rfl, rfl, by kernel_rfl⟩ rfl fun w19 hS19 he19 => ⟨_, rfl, ?_⟩, trivial⟩
          clear h_ a_ he19 hS18
          replace hS19 : S (kap W) ((blkA g18 73 #[i6 z17.id, i6 z17.prio, i6 z17.dr, i6 z17.bdr, i6 z17.state, .bool z17.two, i6 z17.at_]) :: (blkA g12 71 ((onV (v.peers.take k)).toArray)) :: (blkA g4 27 #[i6 0, i6 0, i6 0, i6 0, i6 0, i6 0, i6 0, .slice none 0 0, .slice none 0 0]) :: (blkA g3 48 #[i6 v.lan, i6 v.cost, i6 v.self, i6 v.prio, i6 v.state, i6 v.dr, i6 v.bdr, .slice p.A v.peers.length p.c, .slice p.B p.m p.d]) :: []) ((memA W W.heap.size) :: []) w19 := hS19
          intro a16 hput
          replace s0 := hput.o 0 s0
          replace s3 := hput.o 3 s3
          replace s4 := hput.o 4 s4
          replace s5 := hput.o 5 s5
          replace s6 := hput.o 6 s6
          have s8 : sl a16 8 = pt g18 0 := hput.new 2 8 rfl
          replace s23 := hput.o 23 s23
          replace s24 := hput.o 24 s24
          replace s25 := hput.o 25 s25
          have s27 : sl a16 27 = pt b17 (o17 + k * 7) := hput.new 0 27 rfl
          have s28 : sl a16 28 = .agg #[i6 z17.id, i6 z17.prio, i6 z17.dr, i6 z17.bdr, i6 z17.state, .bool z17.two, i6 z17.at_] := hput.new 1 28 rfl
          replace hz := hput.size.trans hz
          replace hd := hput.defers.trans hd
          clear hput
          change Code.wp _ _ _ _ _
          refine wp_seq ?_
          refine seq_l [] hz ?_
          refine ⟨pt g18 4, fun _ h_ => rk (fa 4 rfl (h_.b 8 s8)),
           i6 z17.state, fun _ h_ => rk (ld hS19 0 rfl (h_.d 0 29)),
           .bool (decide ((z17.state : Int) = 6)), fun _ h_ => rk (run_cmp rfl (h_.d 1 30) rfl rfl (by first | rfl | exact neq_dec _ _ | exact eq_dec _ _ | simp)),
           .bool (decide ((z17.state : Int) = 6)), fun _ h_ => rmv (h_.d 2 31), ?_⟩
          rcases dt ((z17.state : Int) = 6) with ⟨he, hg3⟩ | ⟨he, hg3⟩
          · rw [he]
            clear he
            refine ⟨pt g18 0, fun _ h_ => r_ok (h_.on 3 32) (fa 0 rfl (h_.b 8 s8)),
             i6 z17.id, fun _ h_ => r_ok (h_.on 3 32) (ld hS19 0 rfl (h_.d 4 33)),
             .bool (decide ((0 : Int) < z17.id)), fun _ h_ => r_ok (h_.on 3 32) (run_cmp rfl (h_.d 5 34) rfl rfl (by first | rfl | exact neq_dec _ _ | exact eq_dec _ _ | simp)),
             .bool (decide ((0 : Int) < z17.id)), fun _ h_ => rk (run_pick_t rfl (h_.d 3 32) (h_.d 6 35)),
             .bool (decide ((0 : Int) < z17.id)), fun _ h_ => rmv (h_.d 7 36), ?_⟩
            rcases dt ((0 : Int) < z17.id) with ⟨he, hg8⟩ | ⟨he, hg8⟩
            · rw [he]
              clear he
              refine ⟨pt g18 0, fun _ h_ => r_ok (h_.on 8 37) (fa 0 rfl (h_.b 8 s8)),
               i6 z17.id, fun _ h_ => r_ok (h_.on 8 37) (ld hS19 0 rfl (h_.d 9 38)),
               .bool (decide ((z17.id : Int) ≤ 15)), fun _ h_ => r_ok (h_.on 8 37) (run_cmp rfl (h_.d 10 39) rfl rfl (by first | rfl | exact neq_dec _ _ | exact eq_dec _ _ | simp)),
               .bool (decide ((z17.id : Int) ≤ 15)), fun _ h_ => rk (run_pick_t rfl (h_.d 8 37) (h_.d 11 40)), ?_⟩
              intro a20 hput
              replace s0 := hput.o 0 s0
              replace s3 := hput.o 3 s3
              replace s4 := hput.o 4 s4
              replace s5 := hput.o 5 s5
              replace s6 := hput.o 6 s6
              replace s8 := hput.o 8 s8
              replace s23 := hput.o 23 s23
              replace s24 := hput.o 24 s24
              replace s25 := hput.o 25 s25
              replace s27 := hput.o 27 s27
              replace s28 := hput.o 28 s28
              have s29 : sl a20 29 = pt g18 4 := hput.new 0 29 rfl
              have s30 : sl a20 30 = i6 z17.state := hput.new 1 30 rfl
              have s31 : sl a20 31 = .bool true := hput.new 2 31 rfl
              have s32 : sl a20 32 = .bool true := hput.new 3 32 rfl
              have s33 : sl a20 33 = pt g18 0 := hput.new 4 33 rfl
              have s34 : sl a20 34 = i6 z17.id := hput.new 5 34 rfl
              have s35 : sl a20 35 = .bool true := hput.new 6 35 rfl
              have s36 : sl a20 36 = .bool true := hput.new 7 36 rfl
              have s37 : sl a20 37 = .bool true := hput.new 8 37 rfl
              have s38 : sl a20 38 = pt g18 0 := hput.new 9 38 rfl
              have s39 : sl a20 39 = i6 z17.id := hput.new 10 39 rfl
              have s40 : sl a20 40 = .bool (decide ((z17.id : Int) ≤ 15)) := hput.new 11 40 rfl
              have s41 : sl a20 41 = .bool (decide ((z17.id : Int) ≤ 15)) := hput.new 12 41 rfl
              replace hz := hput.size.trans hz
              replace hd := hput.defers.trans hd
              clear hput
              change Code.wp _ _ _ _ _
              refine wp_cond_d s41 (fun hc41 => ?_) (fun hc41 => ?_)
              · clear s41
                refine seq_l [3] hz ?_
                refine ⟨pt g18 0, fun _ h_ => rk (fa 0 rfl (h_.b 8 s8)),
                 i6 z17.id, fun _ h_ => rk (ld hS19 0 rfl (h_.d 0 42)),
                 pt g12 z17.id.toNat, fun _ h_ => rk (run_indexP (n := 16) (size := 1) rfl (h_.b 6 s6) (h_.d 1 43) (by kernel_rfl) (by omega) (by simp)), ?_⟩
                refine ⟨fun a_ h_ => st_set1 (k := z17.id.toNat) (u := .bool true) 1 hS19 rfl (on_none rfl) rfl (h_.d 2 44) rfl rfl (by kernel_rfl) (by simp [onV]; omega) rfl fun w22 hS22 _ => ⟨_, rfl, ?_⟩, trivial⟩
                clear h_ a_ hS19
                rw [on_set hz17 (onB_true (by omega))] at hS22
                replace hS22 : S (kap W) ((blkA g18 73 #[i6 z17.id, i6 z17.prio, i6 z17.dr, i6 z17.bdr, i6 z17.state, .bool z17.two, i6 z17.at_]) :: (blkA g12 71 ((onV (v.peers.take (k + 1))).toArray)) :: (blkA g4 27 #[i6 0, i6 0, i6 0, i6 0, i6 0, i6 0, i6 0, .slice none 0 0, .slice none 0 0]) :: (blkA g3 48 #[i6 v.lan, i6 v.cost, i6 v.self, i6 v.prio, i6 v.state, i6 v.dr, i6 v.bdr, .slice p.A v.peers.length p.c, .slice p.B p.m p.d]) :: []) ((memA W W.heap.size) :: []) w22 := hS22
                intro a21 hput
                replace s0 := hput.o 0 s0
                replace s3 := hput.o 3 s3
                replace s4 := hput.o 4 s4
                replace s5 := hput.o 5 s5
                replace s6 := hput.o 6 s6
                replace s8 := hput.o 8 s8
                replace s23 := hput.o 23 s23
                replace s24 := hput.o 24 s24
                replace s25 := hput.o 25 s25
                replace s27 := hput.o 27 s27
                replace s28 := hput.o 28 s28
                replace s29 := hput.o 29 s29
                replace s30 := hput.o 30 s30
                replace s31 := hput.o 31 s31
                replace s32 := hput.o 32 s32
                replace s33 := hput.o 33 s33
                replace s34 := hput.o 34 s34
                replace s35 := hput.o 35 s35
                replace s36 := hput.o 36 s36
                replace s37 := hput.o 37 s37
                replace s38 := hput.o 38 s38
                replace s39 := hput.o 39 s39
                replace s40 := hput.o 40 s40
                have s42 : sl a21 42 = pt g18 0 := hput.new 0 42 rfl
                have s43 : sl a21 43 = i6 z17.id := hput.new 1 43 rfl
                have s44 : sl a21 44 = pt g12 z17.id.toNat := hput.new 2 44 rfl
                replace hz := hput.size.trans hz
                replace hd := hput.defers.trans hd
                clear hput
                change Code.wp _ _ _ _ _
                refine seq_l [] hz ?_
                refine ⟨i6 (k + 1), fun _ h_ => rk (run_addI rfl (h_.b 25 s25) rfl (by omega) rfl),
                 i6 (k + 1), fun _ h_ => rmv (h_.d 0 45), ?_⟩
                intro a23 hput
                replace s0 := hput.o 0 s0
                replace s3 := hput.o 3 s3
                replace s4 := hput.o 4 s4
                replace s5 := hput.o 5 s5
                replace s6 := hput.o 6 s6
                replace s8 := hput.o 8 s8
                replace s23 := hput.o 23 s23
                replace s24 := hput.o 24 s24
                replace s25 : sl a23 25 = i6 (k + 1) := hput.new 1 25 rfl
                replace s27 := hput.o 27 s27
                replace s28 := hput.o 28 s28
                replace s29 := hput.o 29 s29
                replace s30 := hput.o 30 s30
                replace s31 := hput.o 31 s31
                replace s32 := hput.o 32 s32
                replace s33 := hput.o 33 s33
                replace s34 := hput.o 34 s34
                replace s35 := hput.o 35 s35
                replace s36 := hput.o 36 s36
                replace s37 := hput.o 37 s37
                replace s38 := hput.o 38 s38
                replace s39 := hput.o 39 s39
                replace s40 := hput.o 40 s40
                replace s42 := hput.o 42 s42
                replace s43 := hput.o 43 s43
                replace s44 := hput.o 44 s44
                have s45 : sl a23 45 = i6 (k + 1) := hput.new 0 45 rfl
                replace hz := hput.size.trans hz
                replace hd := hput.defers.trans hd
                clear hput
                have hSd := hS22.drop
                refine ⟨⟨k + 1, by omega, hz, hd, s0, s3, s4, s5, s6, s23, s24, s25, hSd⟩, ?_⟩
                show v.peers.length - (intOf (sl a23 25)).toNat < v.peers.length - (intOf (sl a14 25)).toNat
                rw [show sl a23 25 = _ from s25, show sl a14 25 = _ from hmu0]
                simp only [intOf]
                omega
              · clear s41
                refine wp_skip ?_
                change Code.wp _ _ _ _ _
                refine seq_l [] hz ?_
                refine ⟨i6 (k + 1), fun _ h_ => rk (run_addI rfl (h_.b 25 s25) rfl (by omega) rfl),
                 i6 (k + 1), fun _ h_ => rmv (h_.d 0 45), ?_⟩
                intro a24 hput
                replace s0 := hput.o 0 s0
                replace s3 := hput.o 3 s3
                replace s4 := hput.o 4 s4
                replace s5 := hput.o 5 s5
                replace s6 := hput.o 6 s6
                replace s8 := hput.o 8 s8
                replace s23 := hput.o 23 s23
                replace s24 := hput.o 24 s24
                replace s25 : sl a24 25 = i6 (k + 1) := hput.new 1 25 rfl
                replace s27 := hput.o 27 s27
                replace s28 := hput.o 28 s28
                replace s29 := hput.o 29 s29
                replace s30 := hput.o 30 s30
                replace s31 := hput.o 31 s31
                replace s32 := hput.o 32 s32
                replace s33 := hput.o 33 s33
                replace s34 := hput.o 34 s34
                replace s35 := hput.o 35 s35
                replace s36 := hput.o 36 s36
                replace s37 := hput.o 37 s37
                replace s38 := hput.o 38 s38
                replace s39 := hput.o 39 s39
                replace s40 := hput.o 40 s40
                have s45 : sl a24 45 = i6 (k + 1) := hput.new 0 45 rfl
                replace hz := hput.size.trans hz
                replace hd := hput.defers.trans hd
                clear hput
                have hSd := hS19.drop
                rw [← on_skip hz17 (onB_false (by omega))] at hSd
                refine ⟨⟨k + 1, by omega, hz, hd, s0, s3, s4, s5, s6, s23, s24, s25, hSd⟩, ?_⟩
                show v.peers.length - (intOf (sl a24 25)).toNat < v.peers.length - (intOf (sl a14 25)).toNat
                rw [show sl a24 25 = _ from s25, show sl a14 25 = _ from hmu0]
                simp only [intOf]
                omega
            · rw [he]
              clear he
              refine seq_off (j := 8) (d := 37) (b := true) [9, 10, 11] _ (by kernel_rfl) (.inl rfl) ?_
              refine ⟨.bool false, fun _ h_ => rk (run_pick_f rfl (h_.d 8 37) rfl), ?_⟩
              intro a20 hput
              replace s0 := hput.o 0 s0
              replace s3 := hput.o 3 s3
              replace s4 := hput.o 4 s4
              replace s5 := hput.o 5 s5
              replace s6 := hput.o 6 s6
              replace s8 := hput.o 8 s8
              replace s23 := hput.o 23 s23
              replace s24 := hput.o 24 s24
              replace s25 := hput.o 25 s25
              replace s27 := hput.o 27 s27
              replace s28 := hput.o 28 s28
              have s29 : sl a20 29 = pt g18 4 := hput.new 0 29 rfl
              have s30 : sl a20 30 = i6 z17.state := hput.new 1 30 rfl
              have s31 : sl a20 31 = .bool true := hput.new 2 31 rfl
              have s32 : sl a20 32 = .bool true := hput.new 3 32 rfl
              have s33 : sl a20 33 = pt g18 0 := hput.new 4 33 rfl
              have s34 : sl a20 34 = i6 z17.id := hput.new 5 34 rfl
              have s35 : sl a20 35 = .bool false := hput.new 6 35 rfl
              have s36 : sl a20 36 = .bool false := hput.new 7 36 rfl
              have s37 : sl a20 37 = .bool false := hput.new 8 37 rfl
              have s41 : sl a20 41 = .bool false := hput.new 12 41 rfl
              replace hz := hput.size.trans hz
              replace hd := hput.defers.trans hd
              clear hput
              change Code.wp _ _ _ _ _
              refine wp_cond_false s41 ?_
              refine wp_skip ?_
              change Code.wp _ _ _ _ _
              refine seq_l [] hz ?_
              refine ⟨i6 (k + 1), fun _ h_ => rk (run_addI rfl (h_.b 25 s25) rfl (by omega) rfl),
               i6 (k + 1), fun _ h_ => rmv (h_.d 0 45), ?_⟩
              intro a25 hput
              replace s0 := hput.o 0 s0
              replace s3 := hput.o 3 s3
              replace s4 := hput.o 4 s4
              replace s5 := hput.o 5 s5
              replace s6 := hput.o 6 s6
              replace s8 := hput.o 8 s8
              replace s23 := hput.o 23 s23
              replace s24 := hput.o 24 s24
              replace s25 : sl a25 25 = i6 (k + 1) := hput.new 1 25 rfl
              replace s27 := hput.o 27 s27
              replace s28 := hput.o 28 s28
              replace s29 := hput.o 29 s29
              replace s30 := hput.o 30 s30
              replace s31 := hput.o 31 s31
              replace s32 := hput.o 32 s32
              replace s33 := hput.o 33 s33
              replace s34 := hput.o 34 s34
              replace s35 := hput.o 35 s35
              replace s36 := hput.o 36 s36
              replace s37 := hput.o 37 s37
              replace s41 := hput.o 41 s41
              have s45 : sl a25 45 = i6 (k + 1) := hput.new 0 45 rfl
              replace hz := hput.size.trans hz
              replace hd := hput.defers.trans hd
              clear hput
              have hSd := hS19.drop
              rw [← on_skip hz17 (onB_false (by omega))] at hSd
              refine ⟨⟨k + 1, by omega, hz, hd, s0, s3, s4, s5, s6, s23, s24, s25, hSd⟩, ?_⟩
              show v.peers.length - (intOf (sl a25 25)).toNat < v.peers.length - (intOf (sl a14 25)).toNat
              rw [show sl a25 25 = _ from s25, show sl a14 25 = _ from hmu0]
              simp only [intOf]
              omega
          · rw [he]
            clear he
            refine seq_off (j := 3) (d := 32) (b := true) [4, 5, 6] _ (by kernel_rfl) (.inl rfl) ?_
            refine ⟨.bool false, fun _ h_ => rk (run_pick_f rfl (h_.d 3 32) rfl),
             .bool false, fun _ h_ => rmv (h_.d 7 36), ?_⟩
            refine seq_off (j := 8) (d := 37) (b := true) [9, 10, 11] _ (by kernel_rfl) (.inl rfl) ?_
            refine ⟨.bool false, fun _ h_ => rk (run_pick_f rfl (h_.d 8 37) rfl), ?_⟩
            intro a20 hput
            replace s0 := hput.o 0 s0
            replace s3 := hput.o 3 s3
            replace s4 := hput.o 4 s4
            replace s5 := hput.o 5 s5
            replace s6 := hput.o 6 s6
            replace s8 := hput.o 8 s8
            replace s23 := hput.o 23 s23
            replace s24 := hput.o 24 s24
            replace s25 := hput.o 25 s25
            replace s27 := hput.o 27 s27
            replace s28 := hput.o 28 s28
            have s29 : sl a20 29 = pt g18 4 := hput.new 0 29 rfl
            have s30 : sl a20 30 = i6 z17.state := hput.new 1 30 rfl
            have s31 : sl a20 31 = .bool false := hput.new 2 31 rfl
            have s32 : sl a20 32 = .bool false := hput.new 3 32 rfl
            have s36 : sl a20 36 = .bool false := hput.new 7 36 rfl
            have s37 : sl a20 37 = .bool false := hput.new 8 37 rfl
            have s41 : sl a20 41 = .bool false := hput.new 12 41 rfl
            replace hz := hput.size.trans hz
            replace hd := hput.defers.trans hd
            clear hput
            change Code.wp _ _ _ _ _
            refine wp_cond_false s41 ?_
            refine wp_skip ?_
            change Code.wp _ _ _ _ _
            refine seq_l [] hz ?_
            refine ⟨i6 (k + 1), fun _ h_ => rk (run_addI rfl (h_.b 25 s25) rfl (by omega) rfl),
             i6 (k + 1), fun _ h_ => rmv (h_.d 0 45), ?_⟩
            intro a26 hput
            replace s0 := hput.o 0 s0
            replace s3 := hput.o 3 s3
            replace s4 := hput.o 4 s4
            replace s5 := hput.o 5 s5
            replace s6 := hput.o 6 s6
            replace s8 := hput.o 8 s8
            replace s23 := hput.o 23 s23
            replace s24 := hput.o 24 s24
            replace s25 : sl a26 25 = i6 (k + 1) := hput.new 1 25 rfl
            replace s27 := hput.o 27 s27
            replace s28 := hput.o 28 s28
            replace s29 := hput.o 29 s29
            replace s30 := hput.o 30 s30
            replace s31 := hput.o 31 s31
            replace s32 := hput.o 32 s32
            replace s36 := hput.o 36 s36
            replace s37 := hput.o 37 s37
            replace s41 := hput.o 41 s41
            have s45 : sl a26 45 = i6 (k + 1) := hput.new 0 45 rfl
            replace hz := hput.size.trans hz
            replace hd := hput.defers.trans hd
            clear hput
            have hSd := hS19.drop
            rw [← on_skip hz17 (onB_false (by omega))] at hSd
            refine ⟨⟨k + 1, by omega, hz, hd, s0, s3, s4, s5, s6, s23, s24, s25, hSd⟩, ?_⟩
            show v.peers.length - (intOf (sl a26 25)).toNat < v.peers.length - (intOf (sl a14 25)).toNat
            rw [show sl a26 25 = _ from s25, show sl a14 25 = _ from hmu0]
            simp only [intOf]
            omega
        · clear s26
          refine wp_exit ?_
          change Code.wp _ _ _ _ _
          refine wp_seq ?_
          rw [List.take_of_length_le (by omega)] at hS14
          refine seq_l [3, 7, 8] hz ?_
          refine ⟨pt g3 0, fun _ h_ => rk (fa 0 rfl (h_.b 3 s3)),
           i6 v.lan, fun _ h_ => rk (ld hS14 2 rfl (h_.d 0 46)),
           i6 self, fun _ h_ => rmv (h_.b 0 s0), ?_⟩
          refine ⟨fun a_ h_ => st_call (on_none rfl) (run_call rfl (map2 (h_.d 1 47) (h_.d 2 48)) rfl) (addr_any v.lan self _ hl.1 hl.2 (by omega) (by omega)) ?_, trivial⟩
          rintro e w28 ⟨rfl, hb28⟩
          refine ⟨_, rfl, _, rfl, ?_⟩
          clear h_ a_
          have hS28 := hS14.below hb28
          clear hS14 hb28
          refine ⟨i6 self, fun _ h_ => rmv (h_.b 0 s0),
           .agg #[i6 0, i6 2, i6 (v.lan * 16 + self), i6 self, i6 0, i6 0, i6 0], fun _ h_ => rk (run_build (vals := #[(1, i6 2), (2, i6 (v.lan * 16 + self)), (3, i6 self)]) (r := .agg #[i6 0, i6 2, i6 (v.lan * 16 + self), i6 self, i6 0, i6 0, i6 0]) rfl (bp3 rfl (h_.d 3 49) (h_.d 4 50)) (by kernel_rfl)),
           .agg #[i6 0, i6 2, i6 (v.lan * 16 + self), i6 self, i6 0, i6 0, i6 0, .slice none 0 0, .slice none 0 0], fun _ h_ => rk (run_build (vals := #[(0, .agg #[i6 0, i6 2, i6 (v.lan * 16 + self), i6 self, i6 0, i6 0, i6 0])]) (r := .agg #[i6 0, i6 2, i6 (v.lan * 16 + self), i6 self, i6 0, i6 0, i6 0, .slice none 0 0, .slice none 0 0]) rfl (bp1 (h_.d 5 51)) (by kernel_rfl)), ?_⟩
          refine ⟨fun a_ h_ => st_alloc (cells := #[i6 0, i6 0, i6 0, i6 0, i6 0, i6 0, i6 0, .slice none 0 0, .slice none 0 0]) hS28 (on_none rfl) rfl (by kernel_rfl) fun g29 w29 hS29 hb29 => ⟨_, rfl, ?_⟩, trivial⟩
          clear h_ a_ hS28
          clear hb29
          refine ⟨fun a_ h_ => st_store (n := 9) (cells := #[i6 0, i6 2, i6 (v.lan * 16 + self), i6 self, i6 0, i6 0, i6 0, .slice none 0 0, .slice none 0 0]) (cs' := #[i6 0, i6 2, i6 (v.lan * 16 + self), i6 self, i6 0, i6 0, i6 0, .slice none 0 0, .slice none 0 0]) 0 hS29 rfl (on_none rfl) rfl (h_.d 7 9) (h_.d 6 52) rfl (by kernel_rfl) ⟨Nat.le_of_ble_eq_true rfl, rfl, by kernel_rfl⟩ rfl fun w30 hS30 he30 => ⟨_, rfl, ?_⟩, trivial⟩
          clear h_ a_ he30 hS29
          replace hS30 : S (kap W) ((blkA g29 27 #[i6 0, i6 2, i6 (v.lan * 16 + self), i6 self, i6 0, i6 0, i6 0, .slice none 0 0, .slice none 0 0]) :: (blkA g12 71 ((onV v.peers).toArray)) :: (blkA g4 27 #[i6 0, i6 0, i6 0, i6 0, i6 0, i6 0, i6 0, .slice none 0 0, .slice none 0 0]) :: (blkA g3 48 #[i6 v.lan, i6 v.cost, i6 v.self, i6 v.prio, i6 v.state, i6 v.dr, i6 v.bdr, .slice p.A v.peers.length p.c, .slice p.B p.m p.d]) :: []) ((memA W W.heap.size) :: []) w30 := hS30
          intro a27 hput
          replace s0 := hput.o 0 s0
          replace s4 := hput.o 4 s4
          replace s5 := hput.o 5 s5
          replace s6 := hput.o 6 s6
          have s9 : sl a27 9 = pt g29 0 := hput.new 7 9 rfl
          replace hz := hput.size.trans hz
          replace hd := hput.defers.trans hd
          clear hput s3 s23 s24 s25
          change Code.wp _ _ _ _ _
          refine wp_seq ?_
          refine wp_seq ?_
          refine seq_l [] hz ?_
          refine ⟨.agg (onV v.peers).toArray, fun _ h_ => rk (run_loadA (n := 16) rfl (h_.b 6 s6) (by kernel_rfl) (hS30.blk (i := 1) rfl) (by simp [onV])),
           i6 0, fun _ h_ => rk (run_move rfl rfl), ?_⟩
          intro a31 hput
          replace s0 := hput.o 0 s0
          replace s4 := hput.o 4 s4
          replace s5 := hput.o 5 s5
          replace s9 := hput.o 9 s9
          have s53 : sl a31 53 = .agg (onV v.peers).toArray := hput.new 0 53 rfl
          have s54 : sl a31 54 = i6 0 := hput.new 1 54 rfl
          replace hz := hput.size.trans hz
          replace hd := hput.defers.trans hd
          clear hput s6
          change Code.wp _ _ _ _ _
          refine wp_block ?_
          refine wp_loop (fun a w => ∃ k : Nat, ∃ m : Nat, ∃ A : Option Addr, ∃ c : Nat, ∃ xs : List Value, (k ≤ 16) ∧ (m ≤ k) ∧ (xs = ints (netM self v (List.range k))) ∧ a.tmps.size = 76 ∧ a.defers = [] ∧ sl a 0 = i6 self ∧ sl a 4 = pt g4 0 ∧ sl a 5 = .bool false ∧ sl a 9 = pt g29 0 ∧ sl a 53 = .agg (onV v.peers).toArray ∧ sl a 54 = i6 k ∧ S (kap W) ((rowA (.slice A m c) 3 1 m xs) :: (blkA g29 27 #[i6 0, i6 2, i6 (v.lan * 16 + self), i6 self, i6 0, i6 0, i6 0, .slice none 0 0, .slice A m c]) :: (blkA g12 71 ((onV v.peers).toArray)) :: (blkA g4 27 #[i6 0, i6 0, i6 0, i6 0, i6 0, i6 0, i6 0, .slice none 0 0, .slice none 0 0]) :: (blkA g3 48 #[i6 v.lan, i6 v.cost, i6 v.self, i6 v.prio, i6 v.state, i6 v.dr, i6 v.bdr, .slice p.A v.peers.length p.c, .slice p.B p.m p.d]) :: []) ((memA W W.heap.size) :: []) w) (fun a _ => 16 - (intOf (sl a 54)).toNat) ?_ ?_
          · have hSn := hS30.nilrow 3 1
            exact ⟨0, 0, none, 0, [], by omega, by omega, rfl, hz, hd, s0, s4, s5, s9, s53, s54, hSn⟩
          · clear hz hd s0 s4 s5 s9 s53 s54 hS30
            rintro a32 w32 ⟨k, m, A, c, xs, hc2_0, hc2_1, hc2_2, hz, hd, s0, s4, s5, s9, s53, s54, hS32⟩
            have hmu2 := s54
            refine wp_seq ?_
            refine seq_l [] hz ?_
            refine ⟨.bool (decide ((k : Int) < 16)), fun _ h_ => rk (run_cmp rfl (h_.b 54 s54) rfl rfl (by first | rfl | exact neq_dec _ _ | exact eq_dec _ _ | simp)), ?_⟩
            intro a33 hput
            replace s0 := hput.o 0 s0
            replace s4 := hput.o 4 s4
            replace s5 := hput.o 5 s5
            replace s9 := hput.o 9 s9
            replace s53 := hput.o 53 s53
            replace s54 := hput.o 54 s54
            have s55 : sl a33 55 = .bool (decide ((k : Int) < 16)) := hput.new 0 55 rfl
            replace hz := hput.size.trans hz
            replace hd := hput.defers.trans hd
            clear hput
            change Code.wp _ _ _ _ _
            refine wp_seq ?_
            refine wp_cond_d s55 (fun hc55 => ?_) (fun hc55 => ?_)
            · clear s55
              refine wp_skip ?_
              change Code.wp _ _ _ _ _
              refine wp_seq ?_
              refine wp_block ?_
              refine wp_seq ?_
              refine seq_l [] hz ?_
              refine ⟨i6 k, fun _ h_ => rmv (h_.b 54 s54),
               .bool (onF v.peers k), fun _ h_ => rk (run_indexA (n := 16) (e := 4) rfl (h_.b 53 s53) (h_.b 54 s54) Try.underlying71 (by kernel_rfl) (by kernel_rfl) (by omega) (onV_at _ k (by omega))),
               i6 k, fun _ h_ => ras (h_.d 0 56),
               .bool (onF v.peers k), fun _ h_ => ras (h_.d 1 57), ?_⟩
              intro a34 hput
              replace s0 := hput.o 0 s0
              replace s4 := hput.o 4 s4
              replace s5 := hput.o 5 s5
              replace s9 := hput.o 9 s9
              have s10 : sl a34 10 = i6 k := hput.new 2 10 rfl
              have s11 : sl a34 11 = .bool (onF v.peers k) := hput.new 3 11 rfl
              replace s53 := hput.o 53 s53
              replace s54 := hput.o 54 s54
              have s56 : sl a34 56 = i6 k := hput.new 0 56 rfl
              have s57 : sl a34 57 = .bool (onF v.peers k) := hput.new 1 57 rfl
              replace hz := hput.size.trans hz
              replace hd := hput.defers.trans hd
              clear hput
              change Code.wp _ _ _ _ _
              refine wp_seq ?_
              refine seq_l [] hz ?_
              refine ⟨.bool (onF v.peers k), fun _ h_ => rmv (h_.b 11 s11),
               .bool (onF v.peers k), fun _ h_ => rmv (h_.d 0 58), ?_⟩
              rcases bt (onF v.peers k) with hg1 | hg1
              · rw [hg1]
                refine seq_off (j := 1) (d := 59) (b := false) [2, 3, 4, 5] _ (by kernel_rfl) (.inl rfl) ?_
                refine seq_off (j := 5) (d := 63) (b := true) [6, 7] _ (by kernel_rfl) (.inr rfl) ?_
                refine seq_off (j := 1) (d := 59) (b := false) [8] _ (by kernel_rfl) (.inl rfl) ?_
                refine ⟨.bool true, fun _ h_ => rk (run_pick_t rfl (h_.d 1 59) rfl), ?_⟩
                intro a35 hput
                replace s0 := hput.o 0 s0
                replace s4 := hput.o 4 s4
                replace s5 := hput.o 5 s5
                replace s9 := hput.o 9 s9
                replace s10 := hput.o 10 s10
                replace s11 := hput.o 11 s11
                replace s53 := hput.o 53 s53
                replace s54 := hput.o 54 s54
                replace s56 := hput.o 56 s56
                replace s57 := hput.o 57 s57
                have s58 : sl a35 58 = .bool true := hput.new 0 58 rfl
                have s59 : sl a35 59 = .bool true := hput.new 1 59 rfl
                have s67 : sl a35 67 = .bool true := hput.new 9 67 rfl
                replace hz := hput.size.trans hz
                replace hd := hput.defers.trans hd
                clear hput
                change Code.wp _ _ _ _ _
                refine wp_cond_true s67 ?_
                refine seq_l [3, 4, 6] hz ?_
                refine ⟨pt g29 8, fun _ h_ => rk (fa 8 rfl (h_.b 9 s9)),
                 .slice A m c, fun _ h_ => rk (ld hS32 1 rfl (h_.d 0 68)),
                 i6 k, fun _ h_ => rmv (h_.b 10 s10), ?_⟩
                refine ⟨fun a_ h_ => st_lit (e := 3) (vals := [(0, i6 k)]) (cells := #[i6 k]) hS32 (on_none rfl) rfl (parts1 (h_.d 2 70)) fun g37 w37 hS37 hb37 => ⟨_, rfl, ?_⟩, trivial⟩
                clear h_ a_ hS32
                clear hb37
                refine ⟨fun a_ h_ => sap (bytes := 8) (news := [i6 k]) hS37 1 (on_none rfl) rfl (h_.d 1 69) (h_.d 3 71) (reads_blk (hS37.blk (i := 0) rfl) rfl) (by simp [Value.oneCell']) (by (try unfold maxLen); omega) (by (try unfold maxLen); omega) fun A38 c38 w38 hS38 => ⟨_, rfl, ?_⟩, trivial⟩
                clear h_ a_ hS37
                replace hS38 : S (kap W) ((blkA g37 3 #[i6 k]) :: (rowA (.slice A38 (m + 1) c38) 3 1 (m + 1) (xs ++ [i6 k])) :: (blkA g29 27 #[i6 0, i6 2, i6 (v.lan * 16 + self), i6 self, i6 0, i6 0, i6 0, .slice none 0 0, .slice A m c]) :: (blkA g12 71 ((onV v.peers).toArray)) :: (blkA g4 27 #[i6 0, i6 0, i6 0, i6 0, i6 0, i6 0, i6 0, .slice none 0 0, .slice none 0 0]) :: (blkA g3 48 #[i6 v.lan, i6 v.cost, i6 v.self, i6 v.prio, i6 v.state, i6 v.dr, i6 v.bdr, .slice p.A v.peers.length p.c, .slice p.B p.m p.d]) :: []) ((memA W W.heap.size) :: []) w38 := hS38
                refine ⟨pt g29 8, fun _ h_ => rk (fa 8 rfl (h_.b 9 s9)), ?_⟩
                refine ⟨fun a_ h_ => st_store (n := 1) (cells := #[.slice A38 (m + 1) c38]) (cs' := #[i6 0, i6 2, i6 (v.lan * 16 + self), i6 self, i6 0, i6 0, i6 0, .slice none 0 0, .slice A38 (m + 1) c38]) 2 hS38 rfl (on_none rfl) rfl (h_.d 5 73) (h_.d 4 72) rfl (by kernel_rfl) ⟨Nat.le_of_ble_eq_true rfl, rfl, by kernel_rfl⟩ rfl fun w39 hS39 he39 => ⟨_, rfl, ?_⟩, trivial⟩
                clear h_ a_ he39 hS38
                replace hS39 : S (kap W) ((blkA g37 3 #[i6 k]) :: (rowA (.slice A38 (m + 1) c38) 3 1 (m + 1) (xs ++ [i6 k])) :: (blkA g29 27 #[i6 0, i6 2, i6 (v.lan * 16 + self), i6 self, i6 0, i6 0, i6 0, .slice none 0 0, .slice A38 (m + 1) c38]) :: (blkA g12 71 ((onV v.peers).toArray)) :: (blkA g4 27 #[i6 0, i6 0, i6 0, i6 0, i6 0, i6 0, i6 0, .slice none 0 0, .slice none 0 0]) :: (blkA g3 48 #[i6 v.lan, i6 v.cost, i6 v.self, i6 v.prio, i6 v.state, i6 v.dr, i6 v.bdr, .slice p.A v.peers.length p.c, .slice p.B p.m p.d]) :: []) ((memA W W.heap.size) :: []) w39 := hS39
                intro a36 hput
                replace s0 := hput.o 0 s0
                replace s4 := hput.o 4 s4
                replace s5 := hput.o 5 s5
                replace s9 := hput.o 9 s9
                replace s10 := hput.o 10 s10
                replace s11 := hput.o 11 s11
                replace s53 := hput.o 53 s53
                replace s54 := hput.o 54 s54
                replace s56 := hput.o 56 s56
                replace s57 := hput.o 57 s57
                replace s58 := hput.o 58 s58
                replace s59 := hput.o 59 s59
                replace s67 := hput.o 67 s67
                have s68 : sl a36 68 = pt g29 8 := hput.new 0 68 rfl
                have s69 : sl a36 69 = .slice A m c := hput.new 1 69 rfl
                have s70 : sl a36 70 = i6 k := hput.new 2 70 rfl
                have s71 : sl a36 71 = .slice (some ⟨g37, 0, none⟩) 1 1 := hput.new 3 71 rfl
                have s72 : sl a36 72 = .slice A38 (m + 1) c38 := hput.new 4 72 rfl
                have s73 : sl a36 73 = pt g29 8 := hput.new 5 73 rfl
                replace hz := hput.size.trans hz
                replace hd := hput.defers.trans hd
                clear hput
                change Code.wp _ _ _ _ _
                refine seq_l [] hz ?_
                refine ⟨i6 (k + 1), fun _ h_ => rk (run_addI rfl (h_.b 54 s54) rfl (by omega) rfl),
                 i6 (k + 1), fun _ h_ => rmv (h_.d 0 74), ?_⟩
                intro a40 hput
                replace s0 := hput.o 0 s0
                replace s4 := hput.o 4 s4
                replace s5 := hput.o 5 s5
                replace s9 := hput.o 9 s9
                replace s10 := hput.o 10 s10
                replace s11 := hput.o 11 s11
                replace s53 := hput.o 53 s53
                replace s54 : sl a40 54 = i6 (k + 1) := hput.new 1 54 rfl
                replace s56 := hput.o 56 s56
                replace s57 := hput.o 57 s57
                replace s58 := hput.o 58 s58
                replace s59 := hput.o 59 s59
                replace s67 := hput.o 67 s67
                replace s68 := hput.o 68 s68
                replace s69 := hput.o 69 s69
                replace s70 := hput.o 70 s70
                replace s71 := hput.o 71 s71
                replace s72 := hput.o 72 s72
                replace s73 := hput.o 73 s73
                have s74 : sl a40 74 = i6 (k + 1) := hput.new 0 74 rfl
                replace hz := hput.size.trans hz
                replace hd := hput.defers.trans hd
                clear hput
                have hSd := hS39.drop
                refine ⟨⟨k + 1, m + 1, A38, c38, (xs ++ [i6 k]), by omega, by omega, netM_next self v k xs hc2_2 ((on_cond self v k (by omega) hs.1).1 (by first | exact .inl (by assumption) | exact .inr ⟨by assumption, by assumption⟩)), hz, hd, s0, s4, s5, s9, s53, s54, hSd⟩, ?_⟩
                show 16 - (intOf (sl a40 54)).toNat < 16 - (intOf (sl a32 54)).toNat
                rw [show sl a40 54 = _ from s54, show sl a32 54 = _ from hmu2]
                simp only [intOf]
                omega
              · rw [hg1]
                refine ⟨i6 k, fun _ h_ => r_ok (h_.on 1 59) (run_move rfl (h_.b 10 s10)),
                 i6 self, fun _ h_ => r_ok (h_.on 1 59) (run_move rfl (h_.b 0 s0)),
                 .bool (decide ((k : Int) = self)), fun _ h_ => r_ok (h_.on 1 59) (run_cmp rfl (h_.d 2 60) (h_.d 3 61) rfl (by first | rfl | exact neq_dec _ _ | exact eq_dec _ _ | simp)),
                 .bool (decide ((k : Int) = self)), fun _ h_ => r_ok (h_.on 1 59) (run_move rfl (h_.d 4 62)), ?_⟩
                rcases dt ((k : Int) = self) with ⟨he, hg5⟩ | ⟨he, hg5⟩
                · rw [he]
                  clear he
                  refine ⟨i6 k, fun _ h_ => r_ok (h_.on 5 63) (run_move rfl (h_.b 10 s10)),
                   .bool (decide ((0 : Int) < k)), fun _ h_ => r_ok (h_.on 5 63) (run_cmp rfl (h_.d 6 64) rfl rfl (by first | rfl | exact neq_dec _ _ | exact eq_dec _ _ | simp)),
                   .bool (decide ((0 : Int) < k)), fun _ h_ => r_ok (h_.on 1 59) (run_pick_t rfl (h_.d 5 63) (h_.d 7 65)),
                   .bool (decide ((0 : Int) < k)), fun _ h_ => rk (run_pick_f rfl (h_.d 1 59) (h_.d 8 66)), ?_⟩
                  intro a35 hput
                  replace s0 := hput.o 0 s0
                  replace s4 := hput.o 4 s4
                  replace s5 := hput.o 5 s5
                  replace s9 := hput.o 9 s9
                  replace s10 := hput.o 10 s10
                  replace s11 := hput.o 11 s11
                  replace s53 := hput.o 53 s53
                  replace s54 := hput.o 54 s54
                  replace s56 := hput.o 56 s56
                  replace s57 := hput.o 57 s57
                  have s58 : sl a35 58 = .bool false := hput.new 0 58 rfl
                  have s59 : sl a35 59 = .bool false := hput.new 1 59 rfl
                  have s60 : sl a35 60 = i6 k := hput.new 2 60 rfl
                  have s61 : sl a35 61 = i6 self := hput.new 3 61 rfl
                  have s62 : sl a35 62 = .bool true := hput.new 4 62 rfl
                  have s63 : sl a35 63 = .bool true := hput.new 5 63 rfl
                  have s64 : sl a35 64 = i6 k := hput.new 6 64 rfl
                  have s65 : sl a35 65 = .bool (decide ((0 : Int) < k)) := hput.new 7 65 rfl
                  have s66 : sl a35 66 = .bool (decide ((0 : Int) < k)) := hput.new 8 66 rfl
                  have s67 : sl a35 67 = .bool (decide ((0 : Int) < k)) := hput.new 9 67 rfl
                  replace hz := hput.size.trans hz
                  replace hd := hput.defers.trans hd
                  clear hput
                  change Code.wp _ _ _ _ _
                  refine wp_cond_d s67 (fun hc67 => ?_) (fun hc67 => ?_)
                  · clear s67
                    refine seq_l [3, 4, 6] hz ?_
                    refine ⟨pt g29 8, fun _ h_ => rk (fa 8 rfl (h_.b 9 s9)),
                     .slice A m c, fun _ h_ => rk (ld hS32 1 rfl (h_.d 0 68)),
                     i6 k, fun _ h_ => rmv (h_.b 10 s10), ?_⟩
                    refine ⟨fun a_ h_ => st_lit (e := 3) (vals := [(0, i6 k)]) (cells := #[i6 k]) hS32 (on_none rfl) rfl (parts1 (h_.d 2 70)) fun g42 w42 hS42 hb42 => ⟨_, rfl, ?_⟩, trivial⟩
                    clear h_ a_ hS32
                    clear hb42
                    refine ⟨fun a_ h_ => sap (bytes := 8) (news := [i6 k]) hS42 1 (on_none rfl) rfl (h_.d 1 69) (h_.d 3 71) (reads_blk (hS42.blk (i := 0) rfl) rfl) (by simp [Value.oneCell']) (by (try unfold maxLen); omega) (by (try unfold maxLen); omega) fun A43 c43 w43 hS43 => ⟨_, rfl, ?_⟩, trivial⟩
                    clear h_ a_ hS42
                    replace hS43 : S (kap W) ((blkA g42 3 #[i6 k]) :: (rowA (.slice A43 (m + 1) c43) 3 1 (m + 1) (xs ++ [i6 k])) :: (blkA g29 27 #[i6 0, i6 2, i6 (v.lan * 16 + self), i6 self, i6 0, i6 0, i6 0, .slice none 0 0, .slice A m c]) :: (blkA g12 71 ((onV v.peers).toArray)) :: (blkA g4 27 #[i6 0, i6 0, i6 0, i6 0, i6 0, i6 0, i6 0, .slice none 0 0, .slice none 0 0]) :: (blkA g3 48 #[i6 v.lan, i6 v.cost, i6 v.self, i6 v.prio, i6 v.state, i6 v.dr, i6 v.bdr, .slice p.A v.peers.length p.c, .slice p.B p.m p.d]) :: []) ((memA W W.heap.size) :: []) w43 := hS43
                    refine ⟨pt g29 8, fun _ h_ => rk (fa 8 rfl (h_.b 9 s9)), ?_⟩
                    refine ⟨fun a_ h_ => st_store (n := 1) (cells := #[.slice A43 (m + 1) c43]) (cs' := #[i6 0, i6 2, i6 (v.lan * 16 + self), i6 self, i6 0, i6 0, i6 0, .slice none 0 0, .slice A43 (m + 1) c43]) 2 hS43 rfl (on_none rfl) rfl (h_.d 5 73) (h_.d 4 72) rfl (by kernel_rfl) ⟨Nat.le_of_ble_eq_true rfl, rfl, by kernel_rfl⟩ rfl fun w44 hS44 he44 => ⟨_, rfl, ?_⟩, trivial⟩
                    clear h_ a_ he44 hS43
                    replace hS44 : S (kap W) ((blkA g42 3 #[i6 k]) :: (rowA (.slice A43 (m + 1) c43) 3 1 (m + 1) (xs ++ [i6 k])) :: (blkA g29 27 #[i6 0, i6 2, i6 (v.lan * 16 + self), i6 self, i6 0, i6 0, i6 0, .slice none 0 0, .slice A43 (m + 1) c43]) :: (blkA g12 71 ((onV v.peers).toArray)) :: (blkA g4 27 #[i6 0, i6 0, i6 0, i6 0, i6 0, i6 0, i6 0, .slice none 0 0, .slice none 0 0]) :: (blkA g3 48 #[i6 v.lan, i6 v.cost, i6 v.self, i6 v.prio, i6 v.state, i6 v.dr, i6 v.bdr, .slice p.A v.peers.length p.c, .slice p.B p.m p.d]) :: []) ((memA W W.heap.size) :: []) w44 := hS44
                    intro a41 hput
                    replace s0 := hput.o 0 s0
                    replace s4 := hput.o 4 s4
                    replace s5 := hput.o 5 s5
                    replace s9 := hput.o 9 s9
                    replace s10 := hput.o 10 s10
                    replace s11 := hput.o 11 s11
                    replace s53 := hput.o 53 s53
                    replace s54 := hput.o 54 s54
                    replace s56 := hput.o 56 s56
                    replace s57 := hput.o 57 s57
                    replace s58 := hput.o 58 s58
                    replace s59 := hput.o 59 s59
                    replace s60 := hput.o 60 s60
                    replace s61 := hput.o 61 s61
                    replace s62 := hput.o 62 s62
                    replace s63 := hput.o 63 s63
                    replace s64 := hput.o 64 s64
                    replace s65 := hput.o 65 s65
                    replace s66 := hput.o 66 s66
                    have s68 : sl a41 68 = pt g29 8 := hput.new 0 68 rfl
                    have s69 : sl a41 69 = .slice A m c := hput.new 1 69 rfl
                    have s70 : sl a41 70 = i6 k := hput.new 2 70 rfl
                    have s71 : sl a41 71 = .slice (some ⟨g42, 0, none⟩) 1 1 := hput.new 3 71 rfl
                    have s72 : sl a41 72 = .slice A43 (m + 1) c43 := hput.new 4 72 rfl
                    have s73 : sl a41 73 = pt g29 8 := hput.new 5 73 rfl
                    replace hz := hput.size.trans hz
                    replace hd := hput.defers.trans hd
                    clear hput
                    change Code.wp _ _ _ _ _
                    refine seq_l [] hz ?_
                    refine ⟨i6 (k + 1), fun _ h_ => rk (run_addI rfl (h_.b 54 s54) rfl (by omega) rfl),
                     i6 (k + 1), fun _ h_ => rmv (h_.d 0 74), ?_⟩
                    intro a45 hput
                    replace s0 := hput.o 0 s0
                    replace s4 := hput.o 4 s4
                    replace s5 := hput.o 5 s5
                    replace s9 := hput.o 9 s9
                    replace s10 := hput.o 10 s10
                    replace s11 := hput.o 11 s11
                    replace s53 := hput.o 53 s53
                    replace s54 : sl a45 54 = i6 (k + 1) := hput.new 1 54 rfl
                    replace s56 := hput.o 56 s56
                    replace s57 := hput.o 57 s57
                    replace s58 := hput.o 58 s58
                    replace s59 := hput.o 59 s59
                    replace s60 := hput.o 60 s60
                    replace s61 := hput.o 61 s61
                    replace s62 := hput.o 62 s62
                    replace s63 := hput.o 63 s63
                    replace s64 := hput.o 64 s64
                    replace s65 := hput.o 65 s65
                    replace s66 := hput.o 66 s66
                    replace s68 := hput.o 68 s68
                    replace s69 := hput.o 69 s69
                    replace s70 := hput.o 70 s70
                    replace s71 := hput.o 71 s71
                    replace s72 := hput.o 72 s72
                    replace s73 := hput.o 73 s73
                    have s74 : sl a45 74 = i6 (k + 1) := hput.new 0 74 rfl
                    replace hz := hput.size.trans hz
                    replace hd := hput.defers.trans hd
                    clear hput
                    have hSd := hS44.drop
                    refine ⟨⟨k + 1, m + 1, A43, c43, (xs ++ [i6 k]), by omega, by omega, netM_next self v k xs hc2_2 ((on_cond self v k (by omega) hs.1).1 (by first | exact .inl (by assumption) | exact .inr ⟨by assumption, by assumption⟩)), hz, hd, s0, s4, s5, s9, s53, s54, hSd⟩, ?_⟩
                    show 16 - (intOf (sl a45 54)).toNat < 16 - (intOf (sl a32 54)).toNat
                    rw [show sl a45 54 = _ from s54, show sl a32 54 = _ from hmu2]
                    simp only [intOf]
                    omega
                  · clear s67
                    refine wp_skip ?_
                    change Code.wp _ _ _ _ _
                    refine seq_l [] hz ?_
                    refine ⟨i6 (k + 1), fun _ h_ => rk (run_addI rfl (h_.b 54 s54) rfl (by omega) rfl),
                     i6 (k + 1), fun _ h_ => rmv (h_.d 0 74), ?_⟩
                    intro a46 hput
                    replace s0 := hput.o 0 s0
                    replace s4 := hput.o 4 s4
                    replace s5 := hput.o 5 s5
                    replace s9 := hput.o 9 s9
                    replace s10 := hput.o 10 s10
                    replace s11 := hput.o 11 s11
                    replace s53 := hput.o 53 s53
                    replace s54 : sl a46 54 = i6 (k + 1) := hput.new 1 54 rfl
                    replace s56 := hput.o 56 s56
                    replace s57 := hput.o 57 s57
                    replace s58 := hput.o 58 s58
                    replace s59 := hput.o 59 s59
                    replace s60 := hput.o 60 s60
                    replace s61 := hput.o 61 s61
                    replace s62 := hput.o 62 s62
                    replace s63 := hput.o 63 s63
                    replace s64 := hput.o 64 s64
                    replace s65 := hput.o 65 s65
                    replace s66 := hput.o 66 s66
                    have s74 : sl a46 74 = i6 (k + 1) := hput.new 0 74 rfl
                    replace hz := hput.size.trans hz
                    replace hd := hput.defers.trans hd
                    clear hput
                    refine ⟨⟨k + 1, m, A, c, xs, by omega, by omega, netM_skip self v k xs hc2_2 (fun h => by rcases (on_cond self v k (by omega) hs.1).2 h with h | h <;> first | omega | simp_all), hz, hd, s0, s4, s5, s9, s53, s54, hS32⟩, ?_⟩
                    show 16 - (intOf (sl a46 54)).toNat < 16 - (intOf (sl a32 54)).toNat
                    rw [show sl a46 54 = _ from s54, show sl a32 54 = _ from hmu2]
                    simp only [intOf]
                    omega
                · rw [he]
                  clear he
                  refine seq_off (j := 5) (d := 63) (b := true) [6, 7] _ (by kernel_rfl) (.inl rfl) ?_
                  refine ⟨.bool false, fun _ h_ => r_ok (h_.on 1 59) (run_pick_f rfl (h_.d 5 63) rfl),
                   .bool false, fun _ h_ => rk (run_pick_f rfl (h_.d 1 59) (h_.d 8 66)), ?_⟩
                  intro a35 hput
                  replace s0 := hput.o 0 s0
                  replace s4 := hput.o 4 s4
                  replace s5 := hput.o 5 s5
                  replace s9 := hput.o 9 s9
                  replace s10 := hput.o 10 s10
                  replace s11 := hput.o 11 s11
                  replace s53 := hput.o 53 s53
                  replace s54 := hput.o 54 s54
                  replace s56 := hput.o 56 s56
                  replace s57 := hput.o 57 s57
                  have s58 : sl a35 58 = .bool false := hput.new 0 58 rfl
                  have s59 : sl a35 59 = .bool false := hput.new 1 59 rfl
                  have s60 : sl a35 60 = i6 k := hput.new 2 60 rfl
                  have s61 : sl a35 61 = i6 self := hput.new 3 61 rfl
                  have s62 : sl a35 62 = .bool false := hput.new 4 62 rfl
                  have s63 : sl a35 63 = .bool false := hput.new 5 63 rfl
                  have s66 : sl a35 66 = .bool false := hput.new 8 66 rfl
                  have s67 : sl a35 67 = .bool false := hput.new 9 67 rfl
                  replace hz := hput.size.trans hz
                  replace hd := hput.defers.trans hd
                  clear hput
                  change Code.wp _ _ _ _ _
                  refine wp_cond_false s67 ?_
                  refine wp_skip ?_
                  change Code.wp _ _ _ _ _
                  refine seq_l [] hz ?_
                  refine ⟨i6 (k + 1), fun _ h_ => rk (run_addI rfl (h_.b 54 s54) rfl (by omega) rfl),
                   i6 (k + 1), fun _ h_ => rmv (h_.d 0 74), ?_⟩
                  intro a47 hput
                  replace s0 := hput.o 0 s0
                  replace s4 := hput.o 4 s4
                  replace s5 := hput.o 5 s5
                  replace s9 := hput.o 9 s9
                  replace s10 := hput.o 10 s10
                  replace s11 := hput.o 11 s11
                  replace s53 := hput.o 53 s53
                  replace s54 : sl a47 54 = i6 (k + 1) := hput.new 1 54 rfl
                  replace s56 := hput.o 56 s56
                  replace s57 := hput.o 57 s57
                  replace s58 := hput.o 58 s58
                  replace s59 := hput.o 59 s59
                  replace s60 := hput.o 60 s60
                  replace s61 := hput.o 61 s61
                  replace s62 := hput.o 62 s62
                  replace s63 := hput.o 63 s63
                  replace s66 := hput.o 66 s66
                  replace s67 := hput.o 67 s67
                  have s74 : sl a47 74 = i6 (k + 1) := hput.new 0 74 rfl
                  replace hz := hput.size.trans hz
                  replace hd := hput.defers.trans hd
                  clear hput
                  refine ⟨⟨k + 1, m, A, c, xs, by omega, by omega, netM_skip self v k xs hc2_2 (fun h => by rcases (on_cond self v k (by omega) hs.1).2 h with h | h <;> first | omega | simp_all), hz, hd, s0, s4, s5, s9, s53, s54, hS32⟩, ?_⟩
                  show 16 - (intOf (sl a47 54)).toNat < 16 - (intOf (sl a32 54)).toNat
                  rw [show sl a47 54 = _ from s54, show sl a32 54 = _ from hmu2]
                  simp only [intOf]
                  omega
            · clear s55
              refine wp_exit ?_
              change Code.wp _ _ _ _ _
              refine wp_seq ?_
              refine seq_l [1] hz ?_
              refine ⟨.agg #[i6 0, i6 2, i6 (v.lan * 16 + self), i6 self, i6 0, i6 0, i6 0, .slice none 0 0, .slice A m c], fun _ h_ => rk (lbS 9 (hS32.blk (i := 1) rfl) rfl (h_.b 9 s9)), ?_⟩
              refine ⟨fun a_ h_ => st_store (n := 9) (cells := #[i6 0, i6 2, i6 (v.lan * 16 + self), i6 self, i6 0, i6 0, i6 0, .slice none 0 0, .slice A m c]) (cs' := #[i6 0, i6 2, i6 (v.lan * 16 + self), i6 self, i6 0, i6 0, i6 0, .slice none 0 0, .slice A m c]) 3 hS32 rfl (on_none rfl) rfl (h_.b 4 s4) (h_.d 0 75) rfl (by kernel_rfl) ⟨Nat.le_of_ble_eq_true rfl, rfl, by kernel_rfl⟩ rfl fun w49 hS49 he49 => ⟨_, rfl, ?_⟩, trivial⟩
              clear h_ a_ he49 hS32
              replace hS49 : S (kap W) ((rowA (.slice A m c) 3 1 m xs) :: (blkA g29 27 #[i6 0, i6 2, i6 (v.lan * 16 + self), i6 self, i6 0, i6 0, i6 0, .slice none 0 0, .slice A m c]) :: (blkA g12 71 ((onV v.peers).toArray)) :: (blkA g4 27 #[i6 0, i6 2, i6 (v.lan * 16 + self), i6 self, i6 0, i6 0, i6 0, .slice none 0 0, .slice A m c]) :: (blkA g3 48 #[i6 v.lan, i6 v.cost, i6 v.self, i6 v.prio, i6 v.state, i6 v.dr, i6 v.bdr, .slice p.A v.peers.length p.c, .slice p.B p.m p.d]) :: []) ((memA W W.heap.size) :: []) w49 := hS49
              refine ⟨.bool true, fun _ h_ => rk (run_assign rfl rfl), ?_⟩
              intro a48 hput
              replace s4 := hput.o 4 s4
              replace s5 : sl a48 5 = .bool true := hput.new 2 5 rfl
              replace hz := hput.size.trans hz
              replace hd := hput.defers.trans hd
              clear hput s0 s9 s53 s54
              change Code.wp _ _ _ _ _
              refine wp_ret ?_
              refine retCT (P := Try.prog) (fn := Try.f16) hd s4 s5 (hS49.blk (i := 3) rfl) (hR_ _ _ ?_) Try.underlying27
              have hr := hS49.rowBase (i := 0) rfl (by simp : memA W W.heap.size ∈ _)
              obtain rfl : k = 16 := by omega
              subst hc2_2
              obtain rfl := row_len hr
              have hf : hasB v = true := by unfold hasB; simp_all
              have hn : netR self v = netF self v := by unfold netR; rw [hf]; rfl
              rw [hf, hn]
              exact ⟨⟨none, 0, A, c⟩, rfl, ⟨World.ownsRow_nil _ _ _ _, hr⟩, (hS49.old (by simp))⟩
end Go.Proofs.Ytmklebkldailnaa
