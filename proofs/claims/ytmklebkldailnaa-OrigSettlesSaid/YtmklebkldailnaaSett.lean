/-
  OrigSettles: the walk of the law.
-/
import Derived.Test.YtmklebkldailnaaSame04
import Derived.Test.YtmklebkldailnaaSettL
import Derived.Test.YtmklebkldailnaaTickS
namespace Go.Proofs.Ytmklebkldailnaa
open Go.RowKit
set_option linter.unusedSimpArgs false
set_option linter.unusedVariables false

theorem S.base {κ : Kap} {L I : List Atom} {w W : World} {i g t B : Nat} {cs : Array Value} (h : S κ L I w) (hi : L[i]? = some (blkA g t cs)) (hm : memA W B ∈ I) : B ≤ g := by
  obtain ⟨_, fp, ⟨f1, f2, rfl, hd, ⟨h1, _⟩, _⟩, hI⟩ := h.front hi
  obtain ⟨f, ⟨h2, _, _⟩, h3⟩ := hI _ hm
  rcases Nat.lt_or_ge g B with hlt | hge
  · exact absurd (List.mem_append_left _ (by rw [h1]; simp)) (h3 g (by rw [h2]; exact List.mem_range.2 hlt))
  · exact hge
/-- a piece that a tick leaves as it is -/
def StT (B : Nat) (a : Atom) : Prop := ∀ w w' fp, Went B w w' → a.holds w fp → a.holds w' fp
theorem stT_blk {B g t : Nat} {cs : Array Value} (h1 : t ≠ 60) (h2 : t ≠ 23) : StT B (blkA g t cs) := fun w w' fp hw ⟨h, hb⟩ => ⟨h, hw.keep g t cs h1 h2 hb⟩
theorem stT_mem (W : World) : StT W.heap.size (memA W W.heap.size) := fun w w' fp hw ⟨h, hs, hb⟩ => ⟨h, Nat.le_trans hs hw.below.size, fun b hlt => (hw.below.block b hlt).trans (hb b hlt)⟩
theorem S.went {κ : Kap} {B : Nat} {L I : List Atom} {w w' : World} (h : S κ L I w) (hw : Went B w w') (hL : ∀ a ∈ L, StT B a) (hI : ∀ a ∈ I, StT B a) : S κ L I w' := by
  obtain ⟨hk, fp, hs, hi⟩ := h
  refine ⟨by unfold kap at hk ⊢; rw [hw.below.os, hw.below.tape, hw.below.output]; exact hk, fp, ?_, fun i hin => ?_⟩
  · clear hi
    induction L generalizing fp with
    | nil => exact hs
    | cons a l ih =>
      obtain ⟨f1, f2, e, hd, h1, h2⟩ := hs
      exact ⟨f1, f2, e, hd, hL a List.mem_cons_self _ _ _ hw h1, ih (fun a ha => hL a (List.mem_cons_of_mem _ ha)) f2 h2⟩
  · obtain ⟨f, h1, h2⟩ := hi i hin
    exact ⟨f, hI i hin _ _ _ hw h1, h2⟩
theorem LOwn.rowL {w : World} {B g : Nat} {l : LV} {p : LP} {cs : Array Value} (h : LOwn w B l p) (hb : Blk w g 27 cs) (cs' : Array Value) : LOwn (w.setRow g cs') B l p := by
  have hk := (Keeps.refl (fun x => x = g) w).row (.inl rfl) cs'
  exact ⟨hk.own h.links (fun x hx e => own_blk_ne h.links hb (by decide) (e ▸ hx)), hk.own h.mem (fun x hx e => own_blk_ne h.mem hb (by decide) (e ▸ hx))⟩
theorem Life.rowL {w : World} {B g g' : Nat} {s : LS} {p q : LP} {A : Option Addr} {c : Nat} {cs : Array Value} (h : Life B w g' s p q A c) (hb : Blk w g 27 cs) (cs' : Array Value) : Life B (w.setRow g cs') g' s p q A c := by
  have hk := (Keeps.refl (fun x => x = g) w).row (.inl rfl) cs'
  exact ⟨hk.blk h.blk (fun e => Blk.ne_ h.blk hb (by decide) e), h.base, h.want.rowL hb cs', h.held.rowL hb cs', hk.own h.told (fun x hx e => own_blk_ne h.told hb (by decide) (e ▸ hx))⟩
theorem Sett.sat {b L0 j : Int} {s : LS} (h : Sett b L0 j s) (hj : 2 ≤ j) : Sat b L0 j s := h.elim id fun h => absurd h.j1 (by omega)
set_option maxRecDepth 100000 in
set_option maxHeartbeats 1000000 in
theorem settles_any (W : World) (n : Nat) (A : Option Addr) (c : Nat) (bs : List Int) (b near : Int) (hR : Reads W W.heap.size 1 A n (u8s bs)) (hbs : ∀ z ∈ bs, 0 ≤ z ∧ z < 256) (hnm : n ≤ 9223372036854775807) (hb8 : 0 ≤ b ∧ b < 256) (hnear : 0 ≤ near ∧ near < 256) :
    Calls Try.prog 7 #[.slice A n c, .int .u8 b, .int .u8 near] W (fun r w' => r = .returned (.bool true) ∧ Below W.heap.size W w') := by
  have hS := S.start W
  refine calls_walk (R := (fun r w' => r = .returned (.bool true) ∧ Below W.heap.size W w')) Try.func7 rfl fun a hz hd hargs => ?_
  replace hz : a.tmps.size = 94 := hz.trans (by kernel_rfl)
  have s0 : a.tmps.getD 0 undef = .slice A n c := hargs 0 _ rfl
  have s1 : a.tmps.getD 1 undef = .int .u8 b := hargs 1 _ rfl
  have s2 : a.tmps.getD 2 undef = .int .u8 near := hargs 2 _ rfl
  clear hargs
  refine wp_seq ?_
  refine seq_lit (.rd 0 (.fin)) (by kernel_rfl) hz (by kernel_rfl) (by kernel_rfl) ?_
  refine ⟨.bool false, fun a hat => r_ok (on_none rfl) (run_assign rfl rfl), ?_⟩
  intro a2 hput
  replace s0 : a2.tmps.getD 0 undef = .slice A n c := (hput.old 0 (by kernel_rfl)).trans s0
  replace s1 : a2.tmps.getD 1 undef = .int .u8 b := (hput.old 1 (by kernel_rfl)).trans s1
  replace s2 : a2.tmps.getD 2 undef = .int .u8 near := (hput.old 2 (by kernel_rfl)).trans s2
  have s6 : a2.tmps.getD 6 undef = .bool false := hput.new 0 6 rfl
  replace hz := hput.size.trans hz
  replace hd := hput.defers.trans hd
  clear hput
  change Code.wp _ _ _ _ _
  refine wp_seq ?_
  refine wp_seq ?_
  refine seq_lit (.ef 0 (.rd 1 (.fin)) .non) (by kernel_rfl) hz (by kernel_rfl) (by kernel_rfl) ?_
  refine ⟨fun a hat => st_call (on_none rfl) (run_call rfl (by simp) rfl) (wakes_any _) ?_, trivial⟩
  rintro e w4 ⟨rfl, hb4⟩
  refine ⟨_, rfl, _, rfl, ?_⟩
  clear hat a
  have hS4 := hS.below hb4
  clear hS hb4
  refine ⟨.bool false, fun a hat => r_ok (on_none rfl) (run_not rfl (hat.dep 0 14 (by kernel_rfl) (by kernel_rfl)) rfl), ?_⟩
  intro a3 hput
  replace s0 : a3.tmps.getD 0 undef = .slice A n c := (hput.old 0 (by kernel_rfl)).trans s0
  replace s1 : a3.tmps.getD 1 undef = .int .u8 b := (hput.old 1 (by kernel_rfl)).trans s1
  replace s2 : a3.tmps.getD 2 undef = .int .u8 near := (hput.old 2 (by kernel_rfl)).trans s2
  replace s6 : a3.tmps.getD 6 undef = .bool false := (hput.old 6 (by kernel_rfl)).trans s6
  have s15 : a3.tmps.getD 15 undef = .bool false := hput.new 1 15 rfl
  replace hz := hput.size.trans hz
  replace hd := hput.defers.trans hd
  clear hput
  change Code.wp _ _ _ _ _
  refine wp_cond_false s15 ?_
  refine wp_skip ?_
  change Code.wp _ _ _ _ _
  refine wp_seq ?_
  refine wp_seq ?_
  refine seq_lit (.rd 0 (.rd 1 (.rd 2 (.rd 3 (.rd 4 (.rd 5 (.rd 6 (.rd 7 (.fin))))))))) (by kernel_rfl) hz (by kernel_rfl) (by kernel_rfl) ?_
  refine ⟨.slice A n c, fun a hat => r_ok (on_none rfl) (run_move rfl ((hat.base 0 (by kernel_rfl)).trans s0)),
   .int .i64 n, fun a hat => r_ok (on_none rfl) (run_lenS rfl (hat.dep 0 16 (by kernel_rfl) (by kernel_rfl)) (by kernel_rfl)),
   .bool (decide ((200 : Int) < n)), fun a hat => r_ok (on_none rfl) (run_cmp rfl (hat.dep 1 17 (by kernel_rfl) (by kernel_rfl)) rfl rfl (by first | rfl | exact neq_dec _ _ | exact eq_dec _ _ | simp)),
   .bool (decide ((200 : Int) < n)), fun a hat => r_ok (on_none rfl) (run_move rfl (hat.dep 2 18 (by kernel_rfl) (by kernel_rfl))), ?_⟩
  rcases Bool.eq_false_or_eq_true (decide ((200 : Int) < n)) with hg3 | hg3
  · rw [hg3]
    replace hg3 := of_decide_eq_true hg3
    refine ⟨undef, fun a hat => r_off (off_dep (b := false) (d := 19) rfl (by kernel_rfl) (hat.dep 3 19 (by kernel_rfl) (by kernel_rfl))) rfl,
     undef, fun a hat => r_off (off_dep (b := false) (d := 19) rfl (by kernel_rfl) (hat.dep 3 19 (by kernel_rfl) (by kernel_rfl))) rfl,
     undef, fun a hat => r_off (off_dep (b := false) (d := 19) rfl (by kernel_rfl) (hat.dep 3 19 (by kernel_rfl) (by kernel_rfl))) rfl,
     .bool true, fun a hat => r_ok (on_none rfl) (run_pick_t rfl (hat.dep 3 19 (by kernel_rfl) (by kernel_rfl)) rfl), ?_⟩
    intro a5 hput
    replace s0 : a5.tmps.getD 0 undef = .slice A n c := (hput.old 0 (by kernel_rfl)).trans s0
    replace s1 : a5.tmps.getD 1 undef = .int .u8 b := (hput.old 1 (by kernel_rfl)).trans s1
    replace s2 : a5.tmps.getD 2 undef = .int .u8 near := (hput.old 2 (by kernel_rfl)).trans s2
    replace s6 : a5.tmps.getD 6 undef = .bool false := (hput.old 6 (by kernel_rfl)).trans s6
    have s23 : a5.tmps.getD 23 undef = .bool true := hput.new 7 23 rfl
    replace hz := hput.size.trans hz
    replace hd := hput.defers.trans hd
    clear hput s15
    change Code.wp _ _ _ _ _
    refine wp_cond_true s23 ?_
    refine wp_seq ?_
    refine seq_lit (.rd 0 (.fin)) (by kernel_rfl) hz (by kernel_rfl) (by kernel_rfl) ?_
    refine ⟨.bool true, fun a hat => r_ok (on_none rfl) (run_assign rfl rfl), ?_⟩
    intro a6 hput
    replace s0 : a6.tmps.getD 0 undef = .slice A n c := (hput.old 0 (by kernel_rfl)).trans s0
    replace s1 : a6.tmps.getD 1 undef = .int .u8 b := (hput.old 1 (by kernel_rfl)).trans s1
    replace s2 : a6.tmps.getD 2 undef = .int .u8 near := (hput.old 2 (by kernel_rfl)).trans s2
    replace s6 : a6.tmps.getD 6 undef = .bool true := hput.new 0 6 rfl
    replace hz := hput.size.trans hz
    replace hd := hput.defers.trans hd
    clear hput s23
    change Code.wp _ _ _ _ _
    refine wp_ret ?_
    refine bodyPost_ret (P := Try.prog) (fn := Try.f7) (R := (fun r w' => r = .returned (.bool true) ∧ Below W.heap.size W w')) (v := .bool true) (by rw [results_tmp (t := 6) (by kernel_rfl), s6]) hd ?_
    exact ⟨rfl, (hS4.old (by simp))⟩
  · rw [hg3]
    replace hg3 := of_decide_eq_false hg3
    refine ⟨.int .u8 b, fun a hat => r_ok (on_dep (b := false) (d := 19) rfl (by kernel_rfl) (hat.dep 3 19 (by kernel_rfl) (by kernel_rfl))) (run_move rfl ((hat.base 1 (by kernel_rfl)).trans s1)),
     .int .u8 (b % 7), fun a hat => r_ok (on_dep (b := false) (d := 19) rfl (by kernel_rfl) (hat.dep 3 19 (by kernel_rfl) (by kernel_rfl))) (run_bin rfl (hat.dep 4 20 (by kernel_rfl) (by kernel_rfl)) rfl (by show (pure _ : Sem Value) = pure _; exact congrArg _ (congrArg _ (Int.tmod_eq_emod_of_nonneg hb8.1)))),
     .bool (decide ((b % 7 : Int) = 0)), fun a hat => r_ok (on_dep (b := false) (d := 19) rfl (by kernel_rfl) (hat.dep 3 19 (by kernel_rfl) (by kernel_rfl))) (run_cmp rfl (hat.dep 5 21 (by kernel_rfl) (by kernel_rfl)) rfl rfl (by first | rfl | exact neq_dec _ _ | exact eq_dec _ _ | simp)),
     .bool (decide ((b % 7 : Int) = 0)), fun a hat => r_ok (on_none rfl) (run_pick_f rfl (hat.dep 3 19 (by kernel_rfl) (by kernel_rfl)) (hat.dep 6 22 (by kernel_rfl) (by kernel_rfl))), ?_⟩
    intro a5 hput
    replace s0 : a5.tmps.getD 0 undef = .slice A n c := (hput.old 0 (by kernel_rfl)).trans s0
    replace s1 : a5.tmps.getD 1 undef = .int .u8 b := (hput.old 1 (by kernel_rfl)).trans s1
    replace s2 : a5.tmps.getD 2 undef = .int .u8 near := (hput.old 2 (by kernel_rfl)).trans s2
    replace s6 : a5.tmps.getD 6 undef = .bool false := (hput.old 6 (by kernel_rfl)).trans s6
    have s23 : a5.tmps.getD 23 undef = .bool (decide ((b % 7 : Int) = 0)) := hput.new 7 23 rfl
    replace hz := hput.size.trans hz
    replace hd := hput.defers.trans hd
    clear hput s15
    change Code.wp _ _ _ _ _
    rcases Bool.eq_false_or_eq_true (decide ((b % 7 : Int) = 0)) with hc23 | hc23
    · rw [hc23] at s23
      replace hc23 := of_decide_eq_true hc23
      refine wp_cond_true s23 ?_
      refine wp_seq ?_
      refine seq_lit (.rd 0 (.fin)) (by kernel_rfl) hz (by kernel_rfl) (by kernel_rfl) ?_
      refine ⟨.bool true, fun a hat => r_ok (on_none rfl) (run_assign rfl rfl), ?_⟩
      intro a7 hput
      replace s0 : a7.tmps.getD 0 undef = .slice A n c := (hput.old 0 (by kernel_rfl)).trans s0
      replace s1 : a7.tmps.getD 1 undef = .int .u8 b := (hput.old 1 (by kernel_rfl)).trans s1
      replace s2 : a7.tmps.getD 2 undef = .int .u8 near := (hput.old 2 (by kernel_rfl)).trans s2
      replace s6 : a7.tmps.getD 6 undef = .bool true := hput.new 0 6 rfl
      replace hz := hput.size.trans hz
      replace hd := hput.defers.trans hd
      clear hput s23
      change Code.wp _ _ _ _ _
      refine wp_ret ?_
      refine bodyPost_ret (P := Try.prog) (fn := Try.f7) (R := (fun r w' => r = .returned (.bool true) ∧ Below W.heap.size W w')) (v := .bool true) (by rw [results_tmp (t := 6) (by kernel_rfl), s6]) hd ?_
      exact ⟨rfl, (hS4.old (by simp))⟩
    · rw [hc23] at s23
      replace hc23 := of_decide_eq_false hc23
      have hb7 : b % 7 ≠ 0 := hc23
      refine wp_cond_false s23 ?_
      refine wp_skip ?_
      change Code.wp _ _ _ _ _
      refine wp_seq ?_
      refine seq_lit (.rd 0 (.rd 1 (.rd 2 (.rd 3 (.rd 4 (.ef 5 (.rd 6 (.fin)) .non)))))) (by kernel_rfl) hz (by kernel_rfl) (by kernel_rfl) ?_
      refine ⟨.int .u8 near, fun a hat => r_ok (on_none rfl) (run_move rfl ((hat.base 2 (by kernel_rfl)).trans s2)),
       .int .i64 near, fun a hat => r_ok (on_none rfl) (run_conv rfl (hat.dep 0 24 (by kernel_rfl) (by kernel_rfl)) (by kernel_rfl) (wrap_i64 (by omega)) (by kernel_rfl)),
       .int .i64 (2147483647 - near), fun a hat => r_ok (on_none rfl) (run_subI rfl rfl (hat.dep 1 25 (by kernel_rfl) (by kernel_rfl)) (by omega) rfl),
       .agg (List.toArray [.int .i64 0, .int .i64 0, .int .i64 0, .int .i64 0, .int .i64 0, .int .i64 0, .int .i64 0, .slice none 0 0, .slice none 0 0, .bool false, .int .i64 0, .int .i64 0, .int .i64 0, .int .i64 0, .int .i64 0, .int .i64 0, .int .i64 0, .slice none 0 0, .slice none 0 0, .bool false, .int .i64 (2147483647 - near), .int .i64 0, .bool true]), fun a hat => r_ok (on_none rfl) (run_build (vals := #[(6, .bool true), (4, .int .i64 (2147483647 - near))]) (r := .agg (List.toArray [.int .i64 0, .int .i64 0, .int .i64 0, .int .i64 0, .int .i64 0, .int .i64 0, .int .i64 0, .slice none 0 0, .slice none 0 0, .bool false, .int .i64 0, .int .i64 0, .int .i64 0, .int .i64 0, .int .i64 0, .int .i64 0, .int .i64 0, .slice none 0 0, .slice none 0 0, .bool false, .int .i64 (2147483647 - near), .int .i64 0, .bool true])) rfl (bp2 rfl (hat.dep 2 26 (by kernel_rfl) (by kernel_rfl))) (by kernel_rfl)),
       .agg (List.toArray [.int .i64 0, .int .i64 0, .int .i64 0, .int .i64 0, .int .i64 0, .int .i64 0, .int .i64 0, .slice none 0 0, .slice none 0 0, .bool false, .int .i64 0, .int .i64 0, .int .i64 0, .int .i64 0, .int .i64 0, .int .i64 0, .int .i64 0, .slice none 0 0, .slice none 0 0, .bool false, .int .i64 (2147483647 - near), .int .i64 0, .bool true, .int .i64 0, .slice none 0 0]), fun a hat => r_ok (on_none rfl) (run_build (vals := #[(0, .agg (List.toArray [.int .i64 0, .int .i64 0, .int .i64 0, .int .i64 0, .int .i64 0, .int .i64 0, .int .i64 0, .slice none 0 0, .slice none 0 0, .bool false, .int .i64 0, .int .i64 0, .int .i64 0, .int .i64 0, .int .i64 0, .int .i64 0, .int .i64 0, .slice none 0 0, .slice none 0 0, .bool false, .int .i64 (2147483647 - near), .int .i64 0, .bool true]))]) (r := .agg (List.toArray [.int .i64 0, .int .i64 0, .int .i64 0, .int .i64 0, .int .i64 0, .int .i64 0, .int .i64 0, .slice none 0 0, .slice none 0 0, .bool false, .int .i64 0, .int .i64 0, .int .i64 0, .int .i64 0, .int .i64 0, .int .i64 0, .int .i64 0, .slice none 0 0, .slice none 0 0, .bool false, .int .i64 (2147483647 - near), .int .i64 0, .bool true, .int .i64 0, .slice none 0 0])) rfl (bp1 (hat.dep 3 27 (by kernel_rfl) (by kernel_rfl))) (by kernel_rfl)), ?_⟩
      refine ⟨fun a hat => st_box (cells := #[.int .i64 0, .int .i64 0, .int .i64 0, .int .i64 0, .int .i64 0, .int .i64 0, .int .i64 0, .slice none 0 0, .slice none 0 0, .bool false, .int .i64 0, .int .i64 0, .int .i64 0, .int .i64 0, .int .i64 0, .int .i64 0, .int .i64 0, .slice none 0 0, .slice none 0 0, .bool false, .int .i64 (2147483647 - near), .int .i64 0, .bool true, .int .i64 0, .slice none 0 0]) hS4 (on_none rfl) rfl (hat.dep 4 28 (by kernel_rfl) (by kernel_rfl)) (by kernel_rfl) fun g9 w9 hS9 hb9 => ⟨_, rfl, ?_⟩, trivial⟩
      clear hat a hS4
      refine ⟨.pointer (some ⟨g9, 0, none⟩), fun a hat => r_ok (on_none rfl) (run_assign rfl (hat.dep 5 29 (by kernel_rfl) (by kernel_rfl))), ?_⟩
      intro a8 hput
      replace s0 : a8.tmps.getD 0 undef = .slice A n c := (hput.old 0 (by kernel_rfl)).trans s0
      replace s1 : a8.tmps.getD 1 undef = .int .u8 b := (hput.old 1 (by kernel_rfl)).trans s1
      replace s6 : a8.tmps.getD 6 undef = .bool false := (hput.old 6 (by kernel_rfl)).trans s6
      have s7 : a8.tmps.getD 7 undef = .pointer (some ⟨g9, 0, none⟩) := hput.new 6 7 rfl
      replace hz := hput.size.trans hz
      replace hd := hput.defers.trans hd
      clear hput s2 s23
      have hL : Life W.heap.size w9 g9 (life0 near) ⟨none, 0, none, 0⟩ ⟨none, 0, none, 0⟩ none 0 := ⟨hS9.blk (i := 0) rfl, hS9.base (i := 0) rfl (List.mem_singleton.2 rfl), LOwn.none_ _ _, LOwn.none_ _ _, World.ownsRow_nil _ _ _ _⟩
      have hS5b := hS9.drop
      clear hS9
      change Code.wp _ _ _ _ _
      refine wp_seq ?_
      refine wp_seq ?_
      refine seq_lit (.rd 0 (.rd 1 (.rd 2 (.fin)))) (by kernel_rfl) hz (by kernel_rfl) (by kernel_rfl) ?_
      refine ⟨.slice A n c, fun a hat => r_ok (on_none rfl) (run_move rfl ((hat.base 0 (by kernel_rfl)).trans s0)),
       .int .i64 n, fun a hat => r_ok (on_none rfl) (run_lenS rfl (hat.dep 0 30 (by kernel_rfl) (by kernel_rfl)) (by kernel_rfl)),
       .int .i64 0, fun a hat => r_ok (on_none rfl) (run_move rfl rfl), ?_⟩
      intro a10 hput
      replace s1 : a10.tmps.getD 1 undef = .int .u8 b := (hput.old 1 (by kernel_rfl)).trans s1
      replace s6 : a10.tmps.getD 6 undef = .bool false := (hput.old 6 (by kernel_rfl)).trans s6
      replace s7 : a10.tmps.getD 7 undef = .pointer (some ⟨g9, 0, none⟩) := (hput.old 7 (by kernel_rfl)).trans s7
      have s30 : a10.tmps.getD 30 undef = .slice A n c := hput.new 0 30 rfl
      have s31 : a10.tmps.getD 31 undef = .int .i64 n := hput.new 1 31 rfl
      have s32 : a10.tmps.getD 32 undef = .int .i64 0 := hput.new 2 32 rfl
      replace hz := hput.size.trans hz
      replace hd := hput.defers.trans hd
      clear hput s0
      change Code.wp _ _ _ _ _
      refine wp_block ?_
      refine wp_loop (fun a w => ∃ k : Nat, ∃ s : LS, ∃ p : LP, ∃ q : LP, ∃ At : Option Addr, ∃ ct : Nat, k ≤ n ∧ Inv s ∧ JS s ∧ s.now = k ∧ Life W.heap.size w g9 s p q At ct ∧ a.tmps.size = 94 ∧ a.defers = [] ∧ a.tmps.getD 1 undef = .int .u8 b ∧ a.tmps.getD 7 undef = .pointer (some ⟨g9, 0, none⟩) ∧ a.tmps.getD 30 undef = .slice A n c ∧ a.tmps.getD 31 undef = .int .i64 n ∧ a.tmps.getD 32 undef = .int .i64 k ∧ S (kap W) ([]) ((memA W W.heap.size) :: []) w) (fun a _ => n - (intOf (a.tmps.getD 32 undef)).toNat) ?_ ?_
      · exact ⟨0, life0 near, ⟨none, 0, none, 0⟩, ⟨none, 0, none, 0⟩, none, 0, Nat.zero_le _, inv0 near hnear, (fun h => (by cases h)), rfl, hL, hz, hd, s1, s7, s30, s31, s32, hS5b⟩
      · clear hz hd s1 s6 s7 s30 s31 s32 hS5b
        rintro a11 w11 ⟨k, s, p, q, At, ct, hc0_0, hc0_1, hc0_2, hc0_3, hc0_4, hz, hd, s1, s7, s30, s31, s32, hS11⟩
        have hmu0 := s32
        clear hL
        have hI := hc0_1
        have hJ := hc0_2
        have hnow := hc0_3
        refine wp_seq ?_
        refine seq_lit (.rd 0 (.fin)) (by kernel_rfl) hz (by kernel_rfl) (by kernel_rfl) ?_
        refine ⟨.bool (decide ((k : Int) < n)), fun a hat => r_ok (on_none rfl) (run_cmp rfl ((hat.base 32 (by kernel_rfl)).trans s32) ((hat.base 31 (by kernel_rfl)).trans s31) rfl (by first | rfl | exact neq_dec _ _ | exact eq_dec _ _ | simp)), ?_⟩
        intro a12 hput
        replace s1 : a12.tmps.getD 1 undef = .int .u8 b := (hput.old 1 (by kernel_rfl)).trans s1
        replace s7 : a12.tmps.getD 7 undef = .pointer (some ⟨g9, 0, none⟩) := (hput.old 7 (by kernel_rfl)).trans s7
        replace s30 : a12.tmps.getD 30 undef = .slice A n c := (hput.old 30 (by kernel_rfl)).trans s30
        replace s31 : a12.tmps.getD 31 undef = .int .i64 n := (hput.old 31 (by kernel_rfl)).trans s31
        replace s32 : a12.tmps.getD 32 undef = .int .i64 k := (hput.old 32 (by kernel_rfl)).trans s32
        have s33 : a12.tmps.getD 33 undef = .bool (decide ((k : Int) < n)) := hput.new 0 33 rfl
        replace hz := hput.size.trans hz
        replace hd := hput.defers.trans hd
        clear hput
        change Code.wp _ _ _ _ _
        refine wp_seq ?_
        rcases Bool.eq_false_or_eq_true (decide ((k : Int) < n)) with hc33 | hc33
        · rw [hc33] at s33
          replace hc33 := of_decide_eq_true hc33
          refine wp_cond_true s33 ?_
          refine wp_skip ?_
          change Code.wp _ _ _ _ _
          refine wp_seq ?_
          refine wp_block ?_
          refine wp_seq ?_
          refine seq_lit (.rd 0 (.rd 1 (.rd 2 (.fin)))) (by kernel_rfl) hz (by kernel_rfl) (by kernel_rfl) ?_
          obtain ⟨b14, o14, z14, hA14, hb14, hz14, hq14⟩ := Reads.byte_at (k := k) (hR.below (hS11.old (by simp))) (by omega)
          have hz8 := hbs z14 (List.mem_of_getElem? hz14)
          refine ⟨.pointer (some ⟨b14, o14 + k, none⟩), fun a hat => r_ok (on_none rfl) (run_indexV (size := 1) rfl ((hat.base 30 (by kernel_rfl)).trans s30) hA14 ((hat.base 32 (by kernel_rfl)).trans s32) (by kernel_rfl) (by omega) (by simp)),
           .int .u8 z14, fun a hat => r_ok (on_none rfl) (run_load rfl (hat.dep 0 34 (by kernel_rfl) (by kernel_rfl)) (by kernel_rfl) (show w11.cell? ⟨b14, o14 + k, none⟩ = some (.int .u8 z14) from hq14)),
           .int .u8 z14, fun a hat => r_ok (on_none rfl) (run_assign rfl (hat.dep 1 35 (by kernel_rfl) (by kernel_rfl))), ?_⟩
          intro a13 hput
          replace s1 : a13.tmps.getD 1 undef = .int .u8 b := (hput.old 1 (by kernel_rfl)).trans s1
          replace s7 : a13.tmps.getD 7 undef = .pointer (some ⟨g9, 0, none⟩) := (hput.old 7 (by kernel_rfl)).trans s7
          have s9 : a13.tmps.getD 9 undef = .int .u8 z14 := hput.new 2 9 rfl
          replace s30 : a13.tmps.getD 30 undef = .slice A n c := (hput.old 30 (by kernel_rfl)).trans s30
          replace s31 : a13.tmps.getD 31 undef = .int .i64 n := (hput.old 31 (by kernel_rfl)).trans s31
          replace s32 : a13.tmps.getD 32 undef = .int .i64 k := (hput.old 32 (by kernel_rfl)).trans s32
          replace s33 : a13.tmps.getD 33 undef = .bool true := (hput.old 33 (by kernel_rfl)).trans s33
          have s34 : a13.tmps.getD 34 undef = .pointer (some ⟨b14, o14 + k, none⟩) := hput.new 0 34 rfl
          have s35 : a13.tmps.getD 35 undef = .int .u8 z14 := hput.new 1 35 rfl
          replace hz := hput.size.trans hz
          replace hd := hput.defers.trans hd
          clear hput
          change Code.wp _ _ _ _ _
          refine wp_seq ?_
          refine seq_lit (.rd 0 (.rd 1 (.ef 2 (.rd 3 (.fin)) .non))) (by kernel_rfl) hz (by kernel_rfl) (by kernel_rfl) ?_
          refine ⟨.pointer (some ⟨g9, 0, none⟩), fun a hat => r_ok (on_none rfl) (run_move rfl ((hat.base 7 (by kernel_rfl)).trans s7)),
           .int .u8 z14, fun a hat => r_ok (on_none rfl) (run_move rfl ((hat.base 9 (by kernel_rfl)).trans s9)), ?_⟩
          refine ⟨fun a hat => st_call (on_none rfl) (run_call rfl (map3 (hat.dep 0 36 (by kernel_rfl) (by kernel_rfl)) (hat.dep 1 37 (by kernel_rfl) (by kernel_rfl)) rfl) rfl) (tick_any W.heap.size g9 s p q At ct z14 true _ (hS11.old (by simp)).size hc0_4 hz8 hI.age (by have := hI.ok.now; omega) (hI.next (by omega) true z14)) ?_, trivial⟩
          rintro e w16 ⟨rfl, p16, q16, At16, ct16, hL16, hW16⟩
          refine ⟨_, rfl, _, rfl, ?_⟩
          clear hat a
          have hS16 := hS11.went hW16 (by intro a ha; simp at ha) (by intro a ha; simp at ha; subst ha; exact stT_mem W)
          have hJ16 := JS.tick hI hJ (by omega) z14
          have hI16 := hI.tick (by omega) z14 true
          obtain ⟨s16, hs16⟩ : ∃ t, t = tickF s z14 true := ⟨_, rfl⟩
          rw [← hs16] at hL16 hJ16 hI16
          clear hs16
          clear hc0_4 hS11
          refine ⟨.bool false, fun a hat => r_ok (on_none rfl) (run_not rfl (hat.dep 2 38 (by kernel_rfl) (by kernel_rfl)) rfl), ?_⟩
          intro a15 hput
          replace s1 : a15.tmps.getD 1 undef = .int .u8 b := (hput.old 1 (by kernel_rfl)).trans s1
          replace s7 : a15.tmps.getD 7 undef = .pointer (some ⟨g9, 0, none⟩) := (hput.old 7 (by kernel_rfl)).trans s7
          replace s9 : a15.tmps.getD 9 undef = .int .u8 z14 := (hput.old 9 (by kernel_rfl)).trans s9
          replace s30 : a15.tmps.getD 30 undef = .slice A n c := (hput.old 30 (by kernel_rfl)).trans s30
          replace s31 : a15.tmps.getD 31 undef = .int .i64 n := (hput.old 31 (by kernel_rfl)).trans s31
          replace s32 : a15.tmps.getD 32 undef = .int .i64 k := (hput.old 32 (by kernel_rfl)).trans s32
          replace s33 : a15.tmps.getD 33 undef = .bool true := (hput.old 33 (by kernel_rfl)).trans s33
          replace s34 : a15.tmps.getD 34 undef = .pointer (some ⟨b14, o14 + k, none⟩) := (hput.old 34 (by kernel_rfl)).trans s34
          replace s35 : a15.tmps.getD 35 undef = .int .u8 z14 := (hput.old 35 (by kernel_rfl)).trans s35
          have s36 : a15.tmps.getD 36 undef = .pointer (some ⟨g9, 0, none⟩) := hput.new 0 36 rfl
          have s37 : a15.tmps.getD 37 undef = .int .u8 z14 := hput.new 1 37 rfl
          have s38 : a15.tmps.getD 38 undef = .bool true := hput.new 2 38 rfl
          have s39 : a15.tmps.getD 39 undef = .bool false := hput.new 3 39 rfl
          replace hz := hput.size.trans hz
          replace hd := hput.defers.trans hd
          clear hput
          change Code.wp _ _ _ _ _
          refine wp_cond_false s39 ?_
          refine wp_skip ?_
          change Code.wp _ _ _ _ _
          refine seq_lit (.rd 0 (.rd 1 (.fin))) (by kernel_rfl) hz (by kernel_rfl) (by kernel_rfl) ?_
          refine ⟨.int .i64 (k + 1), fun a hat => r_ok (on_none rfl) (run_addI rfl ((hat.base 32 (by kernel_rfl)).trans s32) rfl (by omega) rfl),
           .int .i64 (k + 1), fun a hat => r_ok (on_none rfl) (run_move rfl (hat.dep 0 40 (by kernel_rfl) (by kernel_rfl))), ?_⟩
          intro a17 hput
          replace s1 : a17.tmps.getD 1 undef = .int .u8 b := (hput.old 1 (by kernel_rfl)).trans s1
          replace s7 : a17.tmps.getD 7 undef = .pointer (some ⟨g9, 0, none⟩) := (hput.old 7 (by kernel_rfl)).trans s7
          replace s9 : a17.tmps.getD 9 undef = .int .u8 z14 := (hput.old 9 (by kernel_rfl)).trans s9
          replace s30 : a17.tmps.getD 30 undef = .slice A n c := (hput.old 30 (by kernel_rfl)).trans s30
          replace s31 : a17.tmps.getD 31 undef = .int .i64 n := (hput.old 31 (by kernel_rfl)).trans s31
          replace s32 : a17.tmps.getD 32 undef = .int .i64 (k + 1) := hput.new 1 32 rfl
          replace s33 : a17.tmps.getD 33 undef = .bool true := (hput.old 33 (by kernel_rfl)).trans s33
          replace s34 : a17.tmps.getD 34 undef = .pointer (some ⟨b14, o14 + k, none⟩) := (hput.old 34 (by kernel_rfl)).trans s34
          replace s35 : a17.tmps.getD 35 undef = .int .u8 z14 := (hput.old 35 (by kernel_rfl)).trans s35
          replace s36 : a17.tmps.getD 36 undef = .pointer (some ⟨g9, 0, none⟩) := (hput.old 36 (by kernel_rfl)).trans s36
          replace s37 : a17.tmps.getD 37 undef = .int .u8 z14 := (hput.old 37 (by kernel_rfl)).trans s37
          replace s38 : a17.tmps.getD 38 undef = .bool true := (hput.old 38 (by kernel_rfl)).trans s38
          replace s39 : a17.tmps.getD 39 undef = .bool false := (hput.old 39 (by kernel_rfl)).trans s39
          have s40 : a17.tmps.getD 40 undef = .int .i64 (k + 1) := hput.new 0 40 rfl
          replace hz := hput.size.trans hz
          replace hd := hput.defers.trans hd
          clear hput
          refine ⟨⟨k + 1, s16, p16, q16, At16, ct16, by omega, hI16.1, hJ16, by rw [hI16.2, hnow]; rfl, hL16, hz, hd, s1, s7, s30, s31, s32, hS16⟩, ?_⟩
          show n - (intOf (a17.tmps.getD 32 undef)).toNat < n - (intOf (a11.tmps.getD 32 undef)).toNat
          rw [s32, hmu0]
          simp only [intOf]
          omega
        · rw [hc33] at s33
          replace hc33 := of_decide_eq_false hc33
          refine wp_cond_false s33 ?_
          refine wp_exit ?_
          change Code.wp _ _ _ _ _
          refine wp_seq ?_
          refine wp_seq ?_
          refine seq_lit (.rd 0 (.rd 1 (.rd 2 (.rd 3 (.rd 4 (.rd 5 (.fin))))))) (by kernel_rfl) hz (by kernel_rfl) (by kernel_rfl) ?_
          refine ⟨.pointer (some ⟨g9, 0, none⟩), fun a hat => r_ok (on_none rfl) (run_move rfl ((hat.base 7 (by kernel_rfl)).trans s7)),
           .pointer (some ⟨g9, 0, none⟩), fun a hat => r_ok (on_none rfl) (run_nilCheck rfl (hat.dep 0 41 (by kernel_rfl) (by kernel_rfl))),
           .pointer (some ⟨g9, 0, none⟩), fun a hat => r_ok (on_none rfl) (run_fieldAddr (m := 0) rfl (hat.dep 1 42 (by kernel_rfl) (by kernel_rfl)) (by kernel_rfl) rfl),
           .pointer (some ⟨g9, 20, none⟩), fun a hat => r_ok (on_none rfl) (run_fieldAddr (m := 20) rfl (hat.dep 2 43 (by kernel_rfl) (by kernel_rfl)) (by kernel_rfl) rfl),
           .int .i64 s.m.last, fun a hat => r_ok (on_none rfl) (run_load rfl (hat.dep 3 44 (by kernel_rfl) (by kernel_rfl)) (by kernel_rfl) (show w11.cell? ⟨g9, 20, none⟩ = some (.int .i64 s.m.last) from Blk.cell hc0_4.blk 20)),
           .bool (decide ((2147483637 : Int) < s.m.last)), fun a hat => r_ok (on_none rfl) (run_cmp rfl (hat.dep 4 45 (by kernel_rfl) (by kernel_rfl)) rfl rfl (by first | rfl | exact neq_dec _ _ | exact eq_dec _ _ | simp)), ?_⟩
          intro a18 hput
          replace s1 : a18.tmps.getD 1 undef = .int .u8 b := (hput.old 1 (by kernel_rfl)).trans s1
          replace s7 : a18.tmps.getD 7 undef = .pointer (some ⟨g9, 0, none⟩) := (hput.old 7 (by kernel_rfl)).trans s7
          have s46 : a18.tmps.getD 46 undef = .bool (decide ((2147483637 : Int) < s.m.last)) := hput.new 5 46 rfl
          replace hz := hput.size.trans hz
          replace hd := hput.defers.trans hd
          clear hput s30 s31 s32 s33
          change Code.wp _ _ _ _ _
          rcases Bool.eq_false_or_eq_true (decide ((2147483637 : Int) < s.m.last)) with hc46 | hc46
          · rw [hc46] at s46
            replace hc46 := of_decide_eq_true hc46
            refine wp_cond_true s46 ?_
            refine wp_seq ?_
            refine seq_lit (.rd 0 (.fin)) (by kernel_rfl) hz (by kernel_rfl) (by kernel_rfl) ?_
            refine ⟨.bool true, fun a hat => r_ok (on_none rfl) (run_assign rfl rfl), ?_⟩
            intro a19 hput
            replace s1 : a19.tmps.getD 1 undef = .int .u8 b := (hput.old 1 (by kernel_rfl)).trans s1
            have s6 : a19.tmps.getD 6 undef = .bool true := hput.new 0 6 rfl
            replace s7 : a19.tmps.getD 7 undef = .pointer (some ⟨g9, 0, none⟩) := (hput.old 7 (by kernel_rfl)).trans s7
            replace hz := hput.size.trans hz
            replace hd := hput.defers.trans hd
            clear hput s46
            change Code.wp _ _ _ _ _
            refine wp_ret ?_
            refine bodyPost_ret (P := Try.prog) (fn := Try.f7) (R := (fun r w' => r = .returned (.bool true) ∧ Below W.heap.size W w')) (v := .bool true) (by rw [results_tmp (t := 6) (by kernel_rfl), s6]) hd ?_
            exact ⟨rfl, (hS11.old (by simp))⟩
          · rw [hc46] at s46
            replace hc46 := of_decide_eq_false hc46
            obtain ⟨L0, hL0e⟩ : ∃ L0, L0 = s.m.last := ⟨_, rfl⟩
            have hL0 : L0 ≤ 2147483637 := by omega
            obtain ⟨N0, hN0⟩ : ∃ N0 : Int, N0 = s.now := ⟨_, rfl⟩
            have hN1 : 0 ≤ N0 ∧ N0 ≤ 200 := by omega
            refine wp_cond_false s46 ?_
            refine wp_skip ?_
            change Code.wp _ _ _ _ _
            refine wp_seq ?_
            refine seq_lit (.rd 0 (.ef 1 (.rd 2 (.rd 3 (.rd 4 (.ef 5 (.ef 6 (.rd 7 (.fin)) .non) .non)))) .non)) (by kernel_rfl) hz (by kernel_rfl) (by kernel_rfl) ?_
            refine ⟨.int .u8 b, fun a hat => r_ok (on_none rfl) (run_move rfl ((hat.base 1 (by kernel_rfl)).trans s1)), ?_⟩
            refine ⟨fun a hat => st_call (on_none rfl) (run_call rfl (map1 (hat.dep 0 48 (by kernel_rfl) (by kernel_rfl))) rfl) (wanted_any b _ hb8.1 hb8.2) ?_, trivial⟩
            rintro e w21 ⟨pw, rfl, hO, hb21⟩
            refine ⟨_, rfl, _, rfl, ?_⟩
            clear hat a
            replace hO := hO.mono (hS11.old (by simp)).size
            have hS21 := hS11.below hb21
            replace hc0_4 := hc0_4.below hb21
            clear hS11
            refine ⟨.tuple #[.agg (List.toArray [.int .i64 ((wantF b).hd.age), .int .i64 ((wantF b).hd.kind), .int .i64 ((wantF b).hd.id), .int .i64 ((wantF b).hd.adv), .int .i64 ((wantF b).hd.seq), .int .i64 ((wantF b).hd.sum), .int .i64 ((wantF b).hd.long), .slice pw.A ((wantF b).links.length) pw.c, .slice pw.B ((wantF b).mem.length) pw.d]), .bool (b % 7 != 0)], fun a hat => r_ok (on_none rfl) (run_move rfl (hat.dep 1 49 (by kernel_rfl) (by kernel_rfl))),
             .agg (List.toArray [.int .i64 ((wantF b).hd.age), .int .i64 ((wantF b).hd.kind), .int .i64 ((wantF b).hd.id), .int .i64 ((wantF b).hd.adv), .int .i64 ((wantF b).hd.seq), .int .i64 ((wantF b).hd.sum), .int .i64 ((wantF b).hd.long), .slice pw.A ((wantF b).links.length) pw.c, .slice pw.B ((wantF b).mem.length) pw.d]), fun a hat => r_ok (on_none rfl) (run_extract rfl (hat.dep 2 47 (by kernel_rfl) (by kernel_rfl)) rfl),
             .bool (b % 7 != 0), fun a hat => r_ok (on_none rfl) (run_extract rfl (hat.dep 2 47 (by kernel_rfl) (by kernel_rfl)) rfl), ?_⟩
            refine ⟨fun a hat => st_alloc (cells := #[.int .i64 0, .int .i64 0, .int .i64 0, .int .i64 0, .int .i64 0, .int .i64 0, .int .i64 0, .slice none 0 0, .slice none 0 0]) hS21 (on_none rfl) rfl (by kernel_rfl) fun g22 w22 hS22 hb22 => ⟨_, rfl, ?_⟩, trivial⟩
            clear hat a hS21
            replace hc0_4 := hc0_4.below hb22
            replace hO := hO.below hb22
            refine ⟨fun a hat => st_store (n := 9) (cells := #[.int .i64 ((wantF b).hd.age), .int .i64 ((wantF b).hd.kind), .int .i64 ((wantF b).hd.id), .int .i64 ((wantF b).hd.adv), .int .i64 ((wantF b).hd.seq), .int .i64 ((wantF b).hd.sum), .int .i64 ((wantF b).hd.long), .slice pw.A ((wantF b).links.length) pw.c, .slice pw.B ((wantF b).mem.length) pw.d]) (cs' := #[.int .i64 ((wantF b).hd.age), .int .i64 ((wantF b).hd.kind), .int .i64 ((wantF b).hd.id), .int .i64 ((wantF b).hd.adv), .int .i64 ((wantF b).hd.seq), .int .i64 ((wantF b).hd.sum), .int .i64 ((wantF b).hd.long), .slice pw.A ((wantF b).links.length) pw.c, .slice pw.B ((wantF b).mem.length) pw.d]) 0 hS22 rfl (on_none rfl) rfl (hat.dep 5 10 (by kernel_rfl) (by kernel_rfl)) (hat.dep 3 50 (by kernel_rfl) (by kernel_rfl)) rfl (by kernel_rfl) ⟨Nat.le_of_ble_eq_true rfl, rfl, by kernel_rfl⟩ rfl fun w23 hS23 he23 => ⟨_, rfl, ?_⟩, trivial⟩
            replace hc0_4 := hc0_4.rowL (hS22.blk (i := 0) rfl) #[.int .i64 ((wantF b).hd.age), .int .i64 ((wantF b).hd.kind), .int .i64 ((wantF b).hd.id), .int .i64 ((wantF b).hd.adv), .int .i64 ((wantF b).hd.seq), .int .i64 ((wantF b).hd.sum), .int .i64 ((wantF b).hd.long), .slice pw.A ((wantF b).links.length) pw.c, .slice pw.B ((wantF b).mem.length) pw.d]
            replace hO := hO.rowL (hS22.blk (i := 0) rfl) #[.int .i64 ((wantF b).hd.age), .int .i64 ((wantF b).hd.kind), .int .i64 ((wantF b).hd.id), .int .i64 ((wantF b).hd.adv), .int .i64 ((wantF b).hd.seq), .int .i64 ((wantF b).hd.sum), .int .i64 ((wantF b).hd.long), .slice pw.A ((wantF b).links.length) pw.c, .slice pw.B ((wantF b).mem.length) pw.d]
            rw [← he23] at hc0_4 hO
            clear hat a he23 hS22
            replace hS23 : S (kap W) ((blkA g22 27 #[.int .i64 ((wantF b).hd.age), .int .i64 ((wantF b).hd.kind), .int .i64 ((wantF b).hd.id), .int .i64 ((wantF b).hd.adv), .int .i64 ((wantF b).hd.seq), .int .i64 ((wantF b).hd.sum), .int .i64 ((wantF b).hd.long), .slice pw.A ((wantF b).links.length) pw.c, .slice pw.B ((wantF b).mem.length) pw.d]) :: []) ((memA W W.heap.size) :: []) w23 := hS23
            refine ⟨.bool (b % 7 != 0), fun a hat => r_ok (on_none rfl) (run_assign rfl (hat.dep 4 51 (by kernel_rfl) (by kernel_rfl))), ?_⟩
            intro a20 hput
            replace s1 : a20.tmps.getD 1 undef = .int .u8 b := (hput.old 1 (by kernel_rfl)).trans s1
            replace s7 : a20.tmps.getD 7 undef = .pointer (some ⟨g9, 0, none⟩) := (hput.old 7 (by kernel_rfl)).trans s7
            have s10 : a20.tmps.getD 10 undef = .pointer (some ⟨g22, 0, none⟩) := hput.new 5 10 rfl
            replace hz := hput.size.trans hz
            replace hd := hput.defers.trans hd
            clear hput s46
            change Code.wp _ _ _ _ _
            refine wp_seq ?_
            refine wp_seq ?_
            refine seq_lit (.rd 0 (.fin)) (by kernel_rfl) hz (by kernel_rfl) (by kernel_rfl) ?_
            refine ⟨.int .i64 0, fun a hat => r_ok (on_none rfl) (run_move rfl rfl), ?_⟩
            intro a24 hput
            replace s1 : a24.tmps.getD 1 undef = .int .u8 b := (hput.old 1 (by kernel_rfl)).trans s1
            replace s7 : a24.tmps.getD 7 undef = .pointer (some ⟨g9, 0, none⟩) := (hput.old 7 (by kernel_rfl)).trans s7
            replace s10 : a24.tmps.getD 10 undef = .pointer (some ⟨g22, 0, none⟩) := (hput.old 10 (by kernel_rfl)).trans s10
            have s52 : a24.tmps.getD 52 undef = .int .i64 0 := hput.new 0 52 rfl
            replace hz := hput.size.trans hz
            replace hd := hput.defers.trans hd
            clear hput
            change Code.wp _ _ _ _ _
            refine wp_block ?_
            refine wp_loop (fun a w => ∃ k : Nat, ∃ s : LS, ∃ p : LP, ∃ q : LP, ∃ At : Option Addr, ∃ ct : Nat, k ≤ 60 ∧ Inv s ∧ JS s ∧ s.now = N0 + k ∧ Sett b L0 k s ∧ Life W.heap.size w g9 s p q At ct ∧ LOwn w W.heap.size (wantF b) pw ∧ a.tmps.size = 94 ∧ a.defers = [] ∧ a.tmps.getD 1 undef = .int .u8 b ∧ a.tmps.getD 7 undef = .pointer (some ⟨g9, 0, none⟩) ∧ a.tmps.getD 10 undef = .pointer (some ⟨g22, 0, none⟩) ∧ a.tmps.getD 52 undef = .int .i64 k ∧ S (kap W) ((blkA g22 27 #[.int .i64 ((wantF b).hd.age), .int .i64 ((wantF b).hd.kind), .int .i64 ((wantF b).hd.id), .int .i64 ((wantF b).hd.adv), .int .i64 ((wantF b).hd.seq), .int .i64 ((wantF b).hd.sum), .int .i64 ((wantF b).hd.long), .slice pw.A ((wantF b).links.length) pw.c, .slice pw.B ((wantF b).mem.length) pw.d]) :: []) ((memA W W.heap.size) :: []) w) (fun a _ => 60 - (intOf (a.tmps.getD 52 undef)).toNat) ?_ ?_
            · exact ⟨0, s, p, q, At, ct, by omega, hI, hJ, by rw [hN0]; simp, .inr ⟨by omega, hL0e.symm, by have := hI.ok.at_; simp; omega⟩, hc0_4, hO, hz, hd, s1, s7, s10, s52, hS23⟩
            · clear hz hd s1 s7 s10 s52 hS23
              rintro a25 w25 ⟨k, s, p, q, At, ct, hc2_0, hc2_1, hc2_2, hc2_3, hc2_4, hc2_5, hc2_6, hz, hd, s1, s7, s10, s52, hS25⟩
              have hmu2 := s52
              clear hI hJ hnow hN0 hL0e hO hc0_4
              have hI := hc2_1
              have hJ := hc2_2
              have hnow := hc2_3
              have hSe := hc2_4
              refine wp_seq ?_
              refine seq_lit (.rd 0 (.fin)) (by kernel_rfl) hz (by kernel_rfl) (by kernel_rfl) ?_
              refine ⟨.bool (decide ((k : Int) < 60)), fun a hat => r_ok (on_none rfl) (run_cmp rfl ((hat.base 52 (by kernel_rfl)).trans s52) rfl rfl (by first | rfl | exact neq_dec _ _ | exact eq_dec _ _ | simp)), ?_⟩
              intro a26 hput
              replace s1 : a26.tmps.getD 1 undef = .int .u8 b := (hput.old 1 (by kernel_rfl)).trans s1
              replace s7 : a26.tmps.getD 7 undef = .pointer (some ⟨g9, 0, none⟩) := (hput.old 7 (by kernel_rfl)).trans s7
              replace s10 : a26.tmps.getD 10 undef = .pointer (some ⟨g22, 0, none⟩) := (hput.old 10 (by kernel_rfl)).trans s10
              replace s52 : a26.tmps.getD 52 undef = .int .i64 k := (hput.old 52 (by kernel_rfl)).trans s52
              have s53 : a26.tmps.getD 53 undef = .bool (decide ((k : Int) < 60)) := hput.new 0 53 rfl
              replace hz := hput.size.trans hz
              replace hd := hput.defers.trans hd
              clear hput
              change Code.wp _ _ _ _ _
              refine wp_seq ?_
              rcases Bool.eq_false_or_eq_true (decide ((k : Int) < 60)) with hc53 | hc53
              · rw [hc53] at s53
                replace hc53 := of_decide_eq_true hc53
                refine wp_cond_true s53 ?_
                refine wp_skip ?_
                change Code.wp _ _ _ _ _
                refine wp_seq ?_
                refine wp_block ?_
                refine wp_seq ?_
                refine seq_lit (.rd 0 (.rd 1 (.fin))) (by kernel_rfl) hz (by kernel_rfl) (by kernel_rfl) ?_
                refine ⟨.int .i64 k, fun a hat => r_ok (on_none rfl) (run_move rfl ((hat.base 52 (by kernel_rfl)).trans s52)),
                 .int .i64 k, fun a hat => r_ok (on_none rfl) (run_assign rfl (hat.dep 0 54 (by kernel_rfl) (by kernel_rfl))), ?_⟩
                intro a27 hput
                replace s1 : a27.tmps.getD 1 undef = .int .u8 b := (hput.old 1 (by kernel_rfl)).trans s1
                replace s7 : a27.tmps.getD 7 undef = .pointer (some ⟨g9, 0, none⟩) := (hput.old 7 (by kernel_rfl)).trans s7
                replace s10 : a27.tmps.getD 10 undef = .pointer (some ⟨g22, 0, none⟩) := (hput.old 10 (by kernel_rfl)).trans s10
                have s12 : a27.tmps.getD 12 undef = .int .i64 k := hput.new 1 12 rfl
                replace s52 : a27.tmps.getD 52 undef = .int .i64 k := (hput.old 52 (by kernel_rfl)).trans s52
                replace s53 : a27.tmps.getD 53 undef = .bool true := (hput.old 53 (by kernel_rfl)).trans s53
                have s54 : a27.tmps.getD 54 undef = .int .i64 k := hput.new 0 54 rfl
                replace hz := hput.size.trans hz
                replace hd := hput.defers.trans hd
                clear hput
                change Code.wp _ _ _ _ _
                refine wp_seq ?_
                refine wp_seq ?_
                refine seq_lit (.rd 0 (.rd 1 (.ef 2 (.rd 3 (.fin)) .non))) (by kernel_rfl) hz (by kernel_rfl) (by kernel_rfl) ?_
                refine ⟨.pointer (some ⟨g9, 0, none⟩), fun a hat => r_ok (on_none rfl) (run_move rfl ((hat.base 7 (by kernel_rfl)).trans s7)),
                 .int .u8 b, fun a hat => r_ok (on_none rfl) (run_move rfl ((hat.base 1 (by kernel_rfl)).trans s1)), ?_⟩
                refine ⟨fun a hat => st_call (on_none rfl) (run_call rfl (map3 (hat.dep 0 55 (by kernel_rfl) (by kernel_rfl)) (hat.dep 1 56 (by kernel_rfl) (by kernel_rfl)) rfl) rfl) (tick_any W.heap.size g9 s p q At ct b true _ (hS25.old (by simp)).size hc2_5 hb8 hI.age (by have := hI.ok.now; omega) (hI.next (by omega) true b)) ?_, trivial⟩
                rintro e w29 ⟨rfl, p29, q29, At29, ct29, hL29, hW29⟩
                refine ⟨_, rfl, _, rfl, ?_⟩
                clear hat a
                have hS29 := hS25.went hW29 (by intro a ha; simp at ha; subst ha; exact stT_blk (by decide) (by decide)) (by intro a ha; simp at ha; subst ha; exact stT_mem W)
                have hJ29 := JS.tick hI hJ (by omega) b
                have hI29 := hI.tick (by omega) b true
                have hSe29 := Sett.tick hI hJ (by omega) hb7 (by omega) hL0 hSe
                obtain ⟨s29, hs29⟩ : ∃ t, t = tickF s b true := ⟨_, rfl⟩
                rw [← hs29] at hL29 hJ29 hI29 hSe29
                clear hs29
                replace hc2_6 := hc2_6.keepT hW29.keep
                clear hc2_5 hS25
                refine ⟨.bool false, fun a hat => r_ok (on_none rfl) (run_not rfl (hat.dep 2 57 (by kernel_rfl) (by kernel_rfl)) rfl), ?_⟩
                intro a28 hput
                replace s1 : a28.tmps.getD 1 undef = .int .u8 b := (hput.old 1 (by kernel_rfl)).trans s1
                replace s7 : a28.tmps.getD 7 undef = .pointer (some ⟨g9, 0, none⟩) := (hput.old 7 (by kernel_rfl)).trans s7
                replace s10 : a28.tmps.getD 10 undef = .pointer (some ⟨g22, 0, none⟩) := (hput.old 10 (by kernel_rfl)).trans s10
                replace s12 : a28.tmps.getD 12 undef = .int .i64 k := (hput.old 12 (by kernel_rfl)).trans s12
                replace s52 : a28.tmps.getD 52 undef = .int .i64 k := (hput.old 52 (by kernel_rfl)).trans s52
                replace s53 : a28.tmps.getD 53 undef = .bool true := (hput.old 53 (by kernel_rfl)).trans s53
                replace s54 : a28.tmps.getD 54 undef = .int .i64 k := (hput.old 54 (by kernel_rfl)).trans s54
                have s55 : a28.tmps.getD 55 undef = .pointer (some ⟨g9, 0, none⟩) := hput.new 0 55 rfl
                have s56 : a28.tmps.getD 56 undef = .int .u8 b := hput.new 1 56 rfl
                have s57 : a28.tmps.getD 57 undef = .bool true := hput.new 2 57 rfl
                have s58 : a28.tmps.getD 58 undef = .bool false := hput.new 3 58 rfl
                replace hz := hput.size.trans hz
                replace hd := hput.defers.trans hd
                clear hput
                change Code.wp _ _ _ _ _
                refine wp_cond_false s58 ?_
                refine wp_skip ?_
                change Code.wp _ _ _ _ _
                refine wp_seq ?_
                refine seq_lit (.rd 0 (.rd 1 (.rd 2 (.rd 3 (.rd 4 (.ef 5 (.ef 6 (.fin) .non) .non)))))) (by kernel_rfl) hz (by kernel_rfl) (by kernel_rfl) ?_
                refine ⟨.pointer (some ⟨g9, 0, none⟩), fun a hat => r_ok (on_none rfl) (run_move rfl ((hat.base 7 (by kernel_rfl)).trans s7)),
                 .pointer (some ⟨g9, 0, none⟩), fun a hat => r_ok (on_none rfl) (run_nilCheck rfl (hat.dep 0 59 (by kernel_rfl) (by kernel_rfl))),
                 .pointer (some ⟨g9, 0, none⟩), fun a hat => r_ok (on_none rfl) (run_fieldAddr (m := 0) rfl (hat.dep 1 60 (by kernel_rfl) (by kernel_rfl)) (by kernel_rfl) rfl),
                 .pointer (some ⟨g9, 10, none⟩), fun a hat => r_ok (on_none rfl) (run_fieldAddr (m := 10) rfl (hat.dep 2 61 (by kernel_rfl) (by kernel_rfl)) (by kernel_rfl) rfl),
                 .agg (List.toArray [.int .i64 s29.m.held.hd.age, .int .i64 s29.m.held.hd.kind, .int .i64 s29.m.held.hd.id, .int .i64 s29.m.held.hd.adv, .int .i64 s29.m.held.hd.seq, .int .i64 s29.m.held.hd.sum, .int .i64 s29.m.held.hd.long, .slice q29.A s29.m.held.links.length q29.c, .slice q29.B s29.m.held.mem.length q29.d]), fun a hat => r_ok (on_none rfl) (run_loadS (n := 9) (out := [.int .i64 s29.m.held.hd.age, .int .i64 s29.m.held.hd.kind, .int .i64 s29.m.held.hd.id, .int .i64 s29.m.held.hd.adv, .int .i64 s29.m.held.hd.seq, .int .i64 s29.m.held.hd.sum, .int .i64 s29.m.held.hd.long, .slice q29.A s29.m.held.links.length q29.c, .slice q29.B s29.m.held.mem.length q29.d]) rfl (hat.dep 3 62 (by kernel_rfl) (by kernel_rfl)) (by kernel_rfl) hL29.blk rfl rfl), ?_⟩
                refine ⟨fun a hat => st_alloc (cells := #[.int .i64 0, .int .i64 0, .int .i64 0, .int .i64 0, .int .i64 0, .int .i64 0, .int .i64 0, .slice none 0 0, .slice none 0 0]) hS29 (on_none rfl) rfl (by kernel_rfl) fun g31 w31 hS31 hb31 => ⟨_, rfl, ?_⟩, trivial⟩
                clear hat a hS29
                replace hc2_6 := hc2_6.below hb31
                replace hL29 := hL29.below hb31
                refine ⟨fun a hat => st_store (n := 9) (cells := #[.int .i64 s29.m.held.hd.age, .int .i64 s29.m.held.hd.kind, .int .i64 s29.m.held.hd.id, .int .i64 s29.m.held.hd.adv, .int .i64 s29.m.held.hd.seq, .int .i64 s29.m.held.hd.sum, .int .i64 s29.m.held.hd.long, .slice q29.A s29.m.held.links.length q29.c, .slice q29.B s29.m.held.mem.length q29.d]) (cs' := #[.int .i64 s29.m.held.hd.age, .int .i64 s29.m.held.hd.kind, .int .i64 s29.m.held.hd.id, .int .i64 s29.m.held.hd.adv, .int .i64 s29.m.held.hd.seq, .int .i64 s29.m.held.hd.sum, .int .i64 s29.m.held.hd.long, .slice q29.A s29.m.held.links.length q29.c, .slice q29.B s29.m.held.mem.length q29.d]) 0 hS31 rfl (on_none rfl) rfl (hat.dep 5 13 (by kernel_rfl) (by kernel_rfl)) (hat.dep 4 63 (by kernel_rfl) (by kernel_rfl)) rfl (by kernel_rfl) ⟨Nat.le_of_ble_eq_true rfl, rfl, by kernel_rfl⟩ rfl fun w32 hS32 he32 => ⟨_, rfl, ?_⟩, trivial⟩
                replace hc2_6 := hc2_6.rowL (hS31.blk (i := 0) rfl) #[.int .i64 s29.m.held.hd.age, .int .i64 s29.m.held.hd.kind, .int .i64 s29.m.held.hd.id, .int .i64 s29.m.held.hd.adv, .int .i64 s29.m.held.hd.seq, .int .i64 s29.m.held.hd.sum, .int .i64 s29.m.held.hd.long, .slice q29.A s29.m.held.links.length q29.c, .slice q29.B s29.m.held.mem.length q29.d]
                replace hL29 := hL29.rowL (hS31.blk (i := 0) rfl) #[.int .i64 s29.m.held.hd.age, .int .i64 s29.m.held.hd.kind, .int .i64 s29.m.held.hd.id, .int .i64 s29.m.held.hd.adv, .int .i64 s29.m.held.hd.seq, .int .i64 s29.m.held.hd.sum, .int .i64 s29.m.held.hd.long, .slice q29.A s29.m.held.links.length q29.c, .slice q29.B s29.m.held.mem.length q29.d]
                rw [← he32] at hc2_6 hL29
                clear hat a he32 hS31
                replace hS32 : S (kap W) ((blkA g31 27 #[.int .i64 s29.m.held.hd.age, .int .i64 s29.m.held.hd.kind, .int .i64 s29.m.held.hd.id, .int .i64 s29.m.held.hd.adv, .int .i64 s29.m.held.hd.seq, .int .i64 s29.m.held.hd.sum, .int .i64 s29.m.held.hd.long, .slice q29.A s29.m.held.links.length q29.c, .slice q29.B s29.m.held.mem.length q29.d]) :: (blkA g22 27 #[.int .i64 ((wantF b).hd.age), .int .i64 ((wantF b).hd.kind), .int .i64 ((wantF b).hd.id), .int .i64 ((wantF b).hd.adv), .int .i64 ((wantF b).hd.seq), .int .i64 ((wantF b).hd.sum), .int .i64 ((wantF b).hd.long), .slice pw.A ((wantF b).links.length) pw.c, .slice pw.B ((wantF b).mem.length) pw.d]) :: []) ((memA W W.heap.size) :: []) w32 := hS32
                intro a30 hput
                replace s1 : a30.tmps.getD 1 undef = .int .u8 b := (hput.old 1 (by kernel_rfl)).trans s1
                replace s7 : a30.tmps.getD 7 undef = .pointer (some ⟨g9, 0, none⟩) := (hput.old 7 (by kernel_rfl)).trans s7
                replace s10 : a30.tmps.getD 10 undef = .pointer (some ⟨g22, 0, none⟩) := (hput.old 10 (by kernel_rfl)).trans s10
                replace s12 : a30.tmps.getD 12 undef = .int .i64 k := (hput.old 12 (by kernel_rfl)).trans s12
                have s13 : a30.tmps.getD 13 undef = .pointer (some ⟨g31, 0, none⟩) := hput.new 5 13 rfl
                replace s52 : a30.tmps.getD 52 undef = .int .i64 k := (hput.old 52 (by kernel_rfl)).trans s52
                replace s53 : a30.tmps.getD 53 undef = .bool true := (hput.old 53 (by kernel_rfl)).trans s53
                replace s54 : a30.tmps.getD 54 undef = .int .i64 k := (hput.old 54 (by kernel_rfl)).trans s54
                replace s55 : a30.tmps.getD 55 undef = .pointer (some ⟨g9, 0, none⟩) := (hput.old 55 (by kernel_rfl)).trans s55
                replace s56 : a30.tmps.getD 56 undef = .int .u8 b := (hput.old 56 (by kernel_rfl)).trans s56
                replace s57 : a30.tmps.getD 57 undef = .bool true := (hput.old 57 (by kernel_rfl)).trans s57
                replace s58 : a30.tmps.getD 58 undef = .bool false := (hput.old 58 (by kernel_rfl)).trans s58
                have s59 : a30.tmps.getD 59 undef = .pointer (some ⟨g9, 0, none⟩) := hput.new 0 59 rfl
                have s60 : a30.tmps.getD 60 undef = .pointer (some ⟨g9, 0, none⟩) := hput.new 1 60 rfl
                have s61 : a30.tmps.getD 61 undef = .pointer (some ⟨g9, 0, none⟩) := hput.new 2 61 rfl
                have s62 : a30.tmps.getD 62 undef = .pointer (some ⟨g9, 10, none⟩) := hput.new 3 62 rfl
                have s63 : a30.tmps.getD 63 undef = .agg (List.toArray [.int .i64 s29.m.held.hd.age, .int .i64 s29.m.held.hd.kind, .int .i64 s29.m.held.hd.id, .int .i64 s29.m.held.hd.adv, .int .i64 s29.m.held.hd.seq, .int .i64 s29.m.held.hd.sum, .int .i64 s29.m.held.hd.long, .slice q29.A s29.m.held.links.length q29.c, .slice q29.B s29.m.held.mem.length q29.d]) := hput.new 4 63 rfl
                replace hz := hput.size.trans hz
                replace hd := hput.defers.trans hd
                clear hput
                change Code.wp _ _ _ _ _
                refine wp_seq ?_
                refine seq_lit (.rd 0 (.rd 1 (.rd 2 (.ef 3 (.fin) .non)))) (by kernel_rfl) hz (by kernel_rfl) (by kernel_rfl) ?_
                refine ⟨.pointer (some ⟨g22, 0, none⟩), fun a hat => r_ok (on_none rfl) (run_fieldAddr (m := 0) rfl ((hat.base 10 (by kernel_rfl)).trans s10) (by kernel_rfl) rfl),
                 .agg (List.toArray [.int .i64 ((wantF b).hd.age), .int .i64 ((wantF b).hd.kind), .int .i64 ((wantF b).hd.id), .int .i64 ((wantF b).hd.adv), .int .i64 ((wantF b).hd.seq), .int .i64 ((wantF b).hd.sum), .int .i64 ((wantF b).hd.long)]), fun a hat => r_ok (on_none rfl) (run_loadS (n := 7) (out := [.int .i64 ((wantF b).hd.age), .int .i64 ((wantF b).hd.kind), .int .i64 ((wantF b).hd.id), .int .i64 ((wantF b).hd.adv), .int .i64 ((wantF b).hd.seq), .int .i64 ((wantF b).hd.sum), .int .i64 ((wantF b).hd.long)]) rfl (hat.dep 0 64 (by kernel_rfl) (by kernel_rfl)) (by kernel_rfl) (hS32.blk (i := 1) rfl) rfl rfl),
                 .pointer (some ⟨g31, 0, none⟩), fun a hat => r_ok (on_none rfl) (run_fieldAddr (m := 0) rfl ((hat.base 13 (by kernel_rfl)).trans s13) (by kernel_rfl) rfl), ?_⟩
                refine ⟨fun a hat => st_store (n := 7) (cells := #[.int .i64 ((wantF b).hd.age), .int .i64 ((wantF b).hd.kind), .int .i64 ((wantF b).hd.id), .int .i64 ((wantF b).hd.adv), .int .i64 ((wantF b).hd.seq), .int .i64 ((wantF b).hd.sum), .int .i64 ((wantF b).hd.long)]) (cs' := #[.int .i64 ((wantF b).hd.age), .int .i64 ((wantF b).hd.kind), .int .i64 ((wantF b).hd.id), .int .i64 ((wantF b).hd.adv), .int .i64 ((wantF b).hd.seq), .int .i64 ((wantF b).hd.sum), .int .i64 ((wantF b).hd.long), .slice q29.A s29.m.held.links.length q29.c, .slice q29.B s29.m.held.mem.length q29.d]) 0 hS32 rfl (on_none rfl) rfl (hat.dep 2 66 (by kernel_rfl) (by kernel_rfl)) (hat.dep 1 65 (by kernel_rfl) (by kernel_rfl)) rfl (by kernel_rfl) ⟨Nat.le_of_ble_eq_true rfl, rfl, by kernel_rfl⟩ rfl fun w34 hS34 he34 => ⟨_, rfl, ?_⟩, trivial⟩
                replace hc2_6 := hc2_6.rowL (hS32.blk (i := 0) rfl) #[.int .i64 ((wantF b).hd.age), .int .i64 ((wantF b).hd.kind), .int .i64 ((wantF b).hd.id), .int .i64 ((wantF b).hd.adv), .int .i64 ((wantF b).hd.seq), .int .i64 ((wantF b).hd.sum), .int .i64 ((wantF b).hd.long), .slice q29.A s29.m.held.links.length q29.c, .slice q29.B s29.m.held.mem.length q29.d]
                replace hL29 := hL29.rowL (hS32.blk (i := 0) rfl) #[.int .i64 ((wantF b).hd.age), .int .i64 ((wantF b).hd.kind), .int .i64 ((wantF b).hd.id), .int .i64 ((wantF b).hd.adv), .int .i64 ((wantF b).hd.seq), .int .i64 ((wantF b).hd.sum), .int .i64 ((wantF b).hd.long), .slice q29.A s29.m.held.links.length q29.c, .slice q29.B s29.m.held.mem.length q29.d]
                rw [← he34] at hc2_6 hL29
                clear hat a he34 hS32
                replace hS34 : S (kap W) ((blkA g31 27 #[.int .i64 ((wantF b).hd.age), .int .i64 ((wantF b).hd.kind), .int .i64 ((wantF b).hd.id), .int .i64 ((wantF b).hd.adv), .int .i64 ((wantF b).hd.seq), .int .i64 ((wantF b).hd.sum), .int .i64 ((wantF b).hd.long), .slice q29.A s29.m.held.links.length q29.c, .slice q29.B s29.m.held.mem.length q29.d]) :: (blkA g22 27 #[.int .i64 ((wantF b).hd.age), .int .i64 ((wantF b).hd.kind), .int .i64 ((wantF b).hd.id), .int .i64 ((wantF b).hd.adv), .int .i64 ((wantF b).hd.seq), .int .i64 ((wantF b).hd.sum), .int .i64 ((wantF b).hd.long), .slice pw.A ((wantF b).links.length) pw.c, .slice pw.B ((wantF b).mem.length) pw.d]) :: []) ((memA W W.heap.size) :: []) w34 := hS34
                intro a33 hput
                replace s1 : a33.tmps.getD 1 undef = .int .u8 b := (hput.old 1 (by kernel_rfl)).trans s1
                replace s7 : a33.tmps.getD 7 undef = .pointer (some ⟨g9, 0, none⟩) := (hput.old 7 (by kernel_rfl)).trans s7
                replace s10 : a33.tmps.getD 10 undef = .pointer (some ⟨g22, 0, none⟩) := (hput.old 10 (by kernel_rfl)).trans s10
                replace s12 : a33.tmps.getD 12 undef = .int .i64 k := (hput.old 12 (by kernel_rfl)).trans s12
                replace s13 : a33.tmps.getD 13 undef = .pointer (some ⟨g31, 0, none⟩) := (hput.old 13 (by kernel_rfl)).trans s13
                replace s52 : a33.tmps.getD 52 undef = .int .i64 k := (hput.old 52 (by kernel_rfl)).trans s52
                replace s53 : a33.tmps.getD 53 undef = .bool true := (hput.old 53 (by kernel_rfl)).trans s53
                replace s54 : a33.tmps.getD 54 undef = .int .i64 k := (hput.old 54 (by kernel_rfl)).trans s54
                replace s55 : a33.tmps.getD 55 undef = .pointer (some ⟨g9, 0, none⟩) := (hput.old 55 (by kernel_rfl)).trans s55
                replace s56 : a33.tmps.getD 56 undef = .int .u8 b := (hput.old 56 (by kernel_rfl)).trans s56
                replace s57 : a33.tmps.getD 57 undef = .bool true := (hput.old 57 (by kernel_rfl)).trans s57
                replace s58 : a33.tmps.getD 58 undef = .bool false := (hput.old 58 (by kernel_rfl)).trans s58
                replace s59 : a33.tmps.getD 59 undef = .pointer (some ⟨g9, 0, none⟩) := (hput.old 59 (by kernel_rfl)).trans s59
                replace s60 : a33.tmps.getD 60 undef = .pointer (some ⟨g9, 0, none⟩) := (hput.old 60 (by kernel_rfl)).trans s60
                replace s61 : a33.tmps.getD 61 undef = .pointer (some ⟨g9, 0, none⟩) := (hput.old 61 (by kernel_rfl)).trans s61
                replace s62 : a33.tmps.getD 62 undef = .pointer (some ⟨g9, 10, none⟩) := (hput.old 62 (by kernel_rfl)).trans s62
                replace s63 : a33.tmps.getD 63 undef = .agg (List.toArray [.int .i64 s29.m.held.hd.age, .int .i64 s29.m.held.hd.kind, .int .i64 s29.m.held.hd.id, .int .i64 s29.m.held.hd.adv, .int .i64 s29.m.held.hd.seq, .int .i64 s29.m.held.hd.sum, .int .i64 s29.m.held.hd.long, .slice q29.A s29.m.held.links.length q29.c, .slice q29.B s29.m.held.mem.length q29.d]) := (hput.old 63 (by kernel_rfl)).trans s63
                have s64 : a33.tmps.getD 64 undef = .pointer (some ⟨g22, 0, none⟩) := hput.new 0 64 rfl
                have s65 : a33.tmps.getD 65 undef = .agg (List.toArray [.int .i64 ((wantF b).hd.age), .int .i64 ((wantF b).hd.kind), .int .i64 ((wantF b).hd.id), .int .i64 ((wantF b).hd.adv), .int .i64 ((wantF b).hd.seq), .int .i64 ((wantF b).hd.sum), .int .i64 ((wantF b).hd.long)]) := hput.new 1 65 rfl
                have s66 : a33.tmps.getD 66 undef = .pointer (some ⟨g31, 0, none⟩) := hput.new 2 66 rfl
                replace hz := hput.size.trans hz
                replace hd := hput.defers.trans hd
                clear hput
                change Code.wp _ _ _ _ _
                refine wp_seq ?_
                refine seq_lit (.rd 0 (.rd 1 (.rd 2 (.rd 3 (.rd 4 (.rd 5 (.rd 6 (.rd 7 (.rd 8 (.rd 9 (.rd 10 (.rd 11 (.rd 12 (.rd 13 (.rd 14 (.rd 15 (.rd 16 (.rd 17 (.rd 18 (.rd 19 (.rd 20 (.rd 21 (.ef 22 (.rd 23 (.rd 24 (.rd 25 (.fin)))) .non))))))))))))))))))))))) (by kernel_rfl) hz (by kernel_rfl) (by kernel_rfl) ?_
                refine ⟨.int .i64 k, fun a hat => r_ok (on_none rfl) (run_move rfl ((hat.base 12 (by kernel_rfl)).trans s12)),
                 .bool (decide ((5 : Int) ≤ k)), fun a hat => r_ok (on_none rfl) (run_cmp rfl (hat.dep 0 67 (by kernel_rfl) (by kernel_rfl)) rfl rfl (by first | rfl | exact neq_dec _ _ | exact eq_dec _ _ | simp)),
                 .bool (decide ((5 : Int) ≤ k)), fun a hat => r_ok (on_none rfl) (run_move rfl (hat.dep 1 68 (by kernel_rfl) (by kernel_rfl))), ?_⟩
                rcases Bool.eq_false_or_eq_true (decide ((5 : Int) ≤ k)) with hg2 | hg2
                · rw [hg2]
                  replace hg2 := of_decide_eq_true hg2
                  refine ⟨.pointer (some ⟨g9, 0, none⟩), fun a hat => r_ok (on_dep (b := true) (d := 69) rfl (by kernel_rfl) (hat.dep 2 69 (by kernel_rfl) (by kernel_rfl))) (run_move rfl ((hat.base 7 (by kernel_rfl)).trans s7)),
                   .pointer (some ⟨g9, 0, none⟩), fun a hat => r_ok (on_dep (b := true) (d := 69) rfl (by kernel_rfl) (hat.dep 2 69 (by kernel_rfl) (by kernel_rfl))) (run_nilCheck rfl (hat.dep 3 70 (by kernel_rfl) (by kernel_rfl))),
                   .pointer (some ⟨g9, 0, none⟩), fun a hat => r_ok (on_dep (b := true) (d := 69) rfl (by kernel_rfl) (hat.dep 2 69 (by kernel_rfl) (by kernel_rfl))) (run_fieldAddr (m := 0) rfl (hat.dep 4 71 (by kernel_rfl) (by kernel_rfl)) (by kernel_rfl) rfl),
                   .pointer (some ⟨g9, 19, none⟩), fun a hat => r_ok (on_dep (b := true) (d := 69) rfl (by kernel_rfl) (hat.dep 2 69 (by kernel_rfl) (by kernel_rfl))) (run_fieldAddr (m := 19) rfl (hat.dep 5 72 (by kernel_rfl) (by kernel_rfl)) (by kernel_rfl) rfl),
                   .bool s29.m.is_, fun a hat => r_ok (on_dep (b := true) (d := 69) rfl (by kernel_rfl) (hat.dep 2 69 (by kernel_rfl) (by kernel_rfl))) (run_load rfl (hat.dep 6 73 (by kernel_rfl) (by kernel_rfl)) (by kernel_rfl) (show w34.cell? ⟨g9, 19, none⟩ = some (.bool s29.m.is_) from Blk.cell hL29.blk 19)),
                   .bool (!s29.m.is_), fun a hat => r_ok (on_dep (b := true) (d := 69) rfl (by kernel_rfl) (hat.dep 2 69 (by kernel_rfl) (by kernel_rfl))) (run_not rfl (hat.dep 7 74 (by kernel_rfl) (by kernel_rfl)) rfl),
                   .bool (!s29.m.is_), fun a hat => r_ok (on_dep (b := true) (d := 69) rfl (by kernel_rfl) (hat.dep 2 69 (by kernel_rfl) (by kernel_rfl))) (run_move rfl (hat.dep 8 75 (by kernel_rfl) (by kernel_rfl))), ?_⟩
                  rcases Bool.eq_false_or_eq_true (!s29.m.is_) with hg9 | hg9
                  · rw [hg9]
                    replace hg9 : s29.m.is_ = false := by simpa using hg9
                    exact absurd (hSe29.sat (by omega)).is_ (by rw [hg9]; decide)
                  · rw [hg9]
                    replace hg9 : s29.m.is_ = true := by simpa using hg9
                    refine ⟨.pointer (some ⟨g9, 0, none⟩), fun a hat => r_ok (on_dep (b := false) (d := 76) rfl (by kernel_rfl) (hat.dep 9 76 (by kernel_rfl) (by kernel_rfl))) (run_move rfl ((hat.base 7 (by kernel_rfl)).trans s7)),
                     .pointer (some ⟨g9, 0, none⟩), fun a hat => r_ok (on_dep (b := false) (d := 76) rfl (by kernel_rfl) (hat.dep 9 76 (by kernel_rfl) (by kernel_rfl))) (run_nilCheck rfl (hat.dep 10 77 (by kernel_rfl) (by kernel_rfl))),
                     .pointer (some ⟨g9, 0, none⟩), fun a hat => r_ok (on_dep (b := false) (d := 76) rfl (by kernel_rfl) (hat.dep 9 76 (by kernel_rfl) (by kernel_rfl))) (run_fieldAddr (m := 0) rfl (hat.dep 11 78 (by kernel_rfl) (by kernel_rfl)) (by kernel_rfl) rfl),
                     .pointer (some ⟨g9, 10, none⟩), fun a hat => r_ok (on_dep (b := false) (d := 76) rfl (by kernel_rfl) (hat.dep 9 76 (by kernel_rfl) (by kernel_rfl))) (run_fieldAddr (m := 10) rfl (hat.dep 12 79 (by kernel_rfl) (by kernel_rfl)) (by kernel_rfl) rfl),
                     .pointer (some ⟨g9, 10, none⟩), fun a hat => r_ok (on_dep (b := false) (d := 76) rfl (by kernel_rfl) (hat.dep 9 76 (by kernel_rfl) (by kernel_rfl))) (run_fieldAddr (m := 0) rfl (hat.dep 13 80 (by kernel_rfl) (by kernel_rfl)) (by kernel_rfl) rfl),
                     .pointer (some ⟨g9, 10, none⟩), fun a hat => r_ok (on_dep (b := false) (d := 76) rfl (by kernel_rfl) (hat.dep 9 76 (by kernel_rfl) (by kernel_rfl))) (run_fieldAddr (m := 0) rfl (hat.dep 14 81 (by kernel_rfl) (by kernel_rfl)) (by kernel_rfl) rfl),
                     .int .i64 s29.m.held.hd.age, fun a hat => r_ok (on_dep (b := false) (d := 76) rfl (by kernel_rfl) (hat.dep 9 76 (by kernel_rfl) (by kernel_rfl))) (run_load rfl (hat.dep 15 82 (by kernel_rfl) (by kernel_rfl)) (by kernel_rfl) (show w34.cell? ⟨g9, 10, none⟩ = some (.int .i64 s29.m.held.hd.age) from Blk.cell hL29.blk 10)),
                     .bool (decide ((24 : Int) < s29.m.held.hd.age)), fun a hat => r_ok (on_dep (b := false) (d := 76) rfl (by kernel_rfl) (hat.dep 9 76 (by kernel_rfl) (by kernel_rfl))) (run_cmp rfl (hat.dep 16 83 (by kernel_rfl) (by kernel_rfl)) rfl rfl (by first | rfl | exact neq_dec _ _ | exact eq_dec _ _ | simp)),
                     .bool (decide ((24 : Int) < s29.m.held.hd.age)), fun a hat => r_ok (on_dep (b := true) (d := 69) rfl (by kernel_rfl) (hat.dep 2 69 (by kernel_rfl) (by kernel_rfl))) (run_pick_f rfl (hat.dep 9 76 (by kernel_rfl) (by kernel_rfl)) (hat.dep 17 84 (by kernel_rfl) (by kernel_rfl))),
                     .bool (decide ((24 : Int) < s29.m.held.hd.age)), fun a hat => r_ok (on_dep (b := true) (d := 69) rfl (by kernel_rfl) (hat.dep 2 69 (by kernel_rfl) (by kernel_rfl))) (run_move rfl (hat.dep 18 85 (by kernel_rfl) (by kernel_rfl))), ?_⟩
                    rcases Bool.eq_false_or_eq_true (decide ((24 : Int) < s29.m.held.hd.age)) with hg19 | hg19
                    · rw [hg19]
                      replace hg19 := of_decide_eq_true hg19
                      exfalso
                      have := (hSe29.sat (by omega)).age
                      omega
                    · rw [hg19]
                      replace hg19 := of_decide_eq_false hg19
                      refine ⟨.agg (List.toArray [.int .i64 ((wantF b).hd.age), .int .i64 ((wantF b).hd.kind), .int .i64 ((wantF b).hd.id), .int .i64 ((wantF b).hd.adv), .int .i64 ((wantF b).hd.seq), .int .i64 ((wantF b).hd.sum), .int .i64 ((wantF b).hd.long), .slice q29.A s29.m.held.links.length q29.c, .slice q29.B s29.m.held.mem.length q29.d]), fun a hat => r_ok (on_dep (b := false) (d := 86) rfl (by kernel_rfl) (hat.dep 19 86 (by kernel_rfl) (by kernel_rfl))) (run_loadS (n := 9) (out := [.int .i64 ((wantF b).hd.age), .int .i64 ((wantF b).hd.kind), .int .i64 ((wantF b).hd.id), .int .i64 ((wantF b).hd.adv), .int .i64 ((wantF b).hd.seq), .int .i64 ((wantF b).hd.sum), .int .i64 ((wantF b).hd.long), .slice q29.A s29.m.held.links.length q29.c, .slice q29.B s29.m.held.mem.length q29.d]) rfl ((hat.base 13 (by kernel_rfl)).trans s13) (by kernel_rfl) (hS34.blk (i := 0) rfl) rfl rfl),
                       .agg (List.toArray [.int .i64 ((wantF b).hd.age), .int .i64 ((wantF b).hd.kind), .int .i64 ((wantF b).hd.id), .int .i64 ((wantF b).hd.adv), .int .i64 ((wantF b).hd.seq), .int .i64 ((wantF b).hd.sum), .int .i64 ((wantF b).hd.long), .slice pw.A ((wantF b).links.length) pw.c, .slice pw.B ((wantF b).mem.length) pw.d]), fun a hat => r_ok (on_dep (b := false) (d := 86) rfl (by kernel_rfl) (hat.dep 19 86 (by kernel_rfl) (by kernel_rfl))) (run_loadS (n := 9) (out := [.int .i64 ((wantF b).hd.age), .int .i64 ((wantF b).hd.kind), .int .i64 ((wantF b).hd.id), .int .i64 ((wantF b).hd.adv), .int .i64 ((wantF b).hd.seq), .int .i64 ((wantF b).hd.sum), .int .i64 ((wantF b).hd.long), .slice pw.A ((wantF b).links.length) pw.c, .slice pw.B ((wantF b).mem.length) pw.d]) rfl ((hat.base 10 (by kernel_rfl)).trans s10) (by kernel_rfl) (hS34.blk (i := 1) rfl) rfl rfl), ?_⟩
                      refine ⟨fun a hat => st_call (on_dep (b := false) (d := 86) rfl (by kernel_rfl) (hat.dep 19 86 (by kernel_rfl) (by kernel_rfl))) (run_call rfl (map2 (hat.dep 20 87 (by kernel_rfl) (by kernel_rfl)) (hat.dep 21 88 (by kernel_rfl) (by kernel_rfl))) rfl) (same19_any (⟨(wantF b).hd, s29.m.held.links, s29.m.held.mem⟩ : LV) (wantF b) q29 pw _ ⟨hL29.held.ok.links, hL29.held.ok.mem⟩ hc2_6.ok hI29.1.ok.hl (by simp [wantF]) hI29.1.ok.hm (by simp [wantF])) ?_, trivial⟩
                      rintro e w36 ⟨rfl, hb36⟩
                      refine ⟨_, rfl, _, rfl, ?_⟩
                      clear hat a
                      have hS36 := hS34.below hb36
                      replace hc2_6 := hc2_6.below hb36
                      replace hL29 := hL29.below hb36
                      clear hS34 hb36
                      refine ⟨.bool (!(decide ((⟨(wantF b).hd, s29.m.held.links, s29.m.held.mem⟩ : LV) = wantF b))), fun a hat => r_ok (on_dep (b := false) (d := 86) rfl (by kernel_rfl) (hat.dep 19 86 (by kernel_rfl) (by kernel_rfl))) (run_not rfl (hat.dep 22 89 (by kernel_rfl) (by kernel_rfl)) rfl),
                       .bool (!(decide ((⟨(wantF b).hd, s29.m.held.links, s29.m.held.mem⟩ : LV) = wantF b))), fun a hat => r_ok (on_dep (b := true) (d := 69) rfl (by kernel_rfl) (hat.dep 2 69 (by kernel_rfl) (by kernel_rfl))) (run_pick_f rfl (hat.dep 19 86 (by kernel_rfl) (by kernel_rfl)) (hat.dep 23 90 (by kernel_rfl) (by kernel_rfl))),
                       .bool (!(decide ((⟨(wantF b).hd, s29.m.held.links, s29.m.held.mem⟩ : LV) = wantF b))), fun a hat => r_ok (on_none rfl) (run_pick_t rfl (hat.dep 2 69 (by kernel_rfl) (by kernel_rfl)) (hat.dep 24 91 (by kernel_rfl) (by kernel_rfl))), ?_⟩
                      intro a35 hput
                      replace s1 : a35.tmps.getD 1 undef = .int .u8 b := (hput.old 1 (by kernel_rfl)).trans s1
                      replace s7 : a35.tmps.getD 7 undef = .pointer (some ⟨g9, 0, none⟩) := (hput.old 7 (by kernel_rfl)).trans s7
                      replace s10 : a35.tmps.getD 10 undef = .pointer (some ⟨g22, 0, none⟩) := (hput.old 10 (by kernel_rfl)).trans s10
                      replace s12 : a35.tmps.getD 12 undef = .int .i64 k := (hput.old 12 (by kernel_rfl)).trans s12
                      replace s13 : a35.tmps.getD 13 undef = .pointer (some ⟨g31, 0, none⟩) := (hput.old 13 (by kernel_rfl)).trans s13
                      replace s52 : a35.tmps.getD 52 undef = .int .i64 k := (hput.old 52 (by kernel_rfl)).trans s52
                      replace s53 : a35.tmps.getD 53 undef = .bool true := (hput.old 53 (by kernel_rfl)).trans s53
                      replace s54 : a35.tmps.getD 54 undef = .int .i64 k := (hput.old 54 (by kernel_rfl)).trans s54
                      replace s55 : a35.tmps.getD 55 undef = .pointer (some ⟨g9, 0, none⟩) := (hput.old 55 (by kernel_rfl)).trans s55
                      replace s56 : a35.tmps.getD 56 undef = .int .u8 b := (hput.old 56 (by kernel_rfl)).trans s56
                      replace s57 : a35.tmps.getD 57 undef = .bool true := (hput.old 57 (by kernel_rfl)).trans s57
                      replace s58 : a35.tmps.getD 58 undef = .bool false := (hput.old 58 (by kernel_rfl)).trans s58
                      replace s59 : a35.tmps.getD 59 undef = .pointer (some ⟨g9, 0, none⟩) := (hput.old 59 (by kernel_rfl)).trans s59
                      replace s60 : a35.tmps.getD 60 undef = .pointer (some ⟨g9, 0, none⟩) := (hput.old 60 (by kernel_rfl)).trans s60
                      replace s61 : a35.tmps.getD 61 undef = .pointer (some ⟨g9, 0, none⟩) := (hput.old 61 (by kernel_rfl)).trans s61
                      replace s62 : a35.tmps.getD 62 undef = .pointer (some ⟨g9, 10, none⟩) := (hput.old 62 (by kernel_rfl)).trans s62
                      replace s63 : a35.tmps.getD 63 undef = .agg (List.toArray [.int .i64 s29.m.held.hd.age, .int .i64 s29.m.held.hd.kind, .int .i64 s29.m.held.hd.id, .int .i64 s29.m.held.hd.adv, .int .i64 s29.m.held.hd.seq, .int .i64 s29.m.held.hd.sum, .int .i64 s29.m.held.hd.long, .slice q29.A s29.m.held.links.length q29.c, .slice q29.B s29.m.held.mem.length q29.d]) := (hput.old 63 (by kernel_rfl)).trans s63
                      replace s64 : a35.tmps.getD 64 undef = .pointer (some ⟨g22, 0, none⟩) := (hput.old 64 (by kernel_rfl)).trans s64
                      replace s65 : a35.tmps.getD 65 undef = .agg (List.toArray [.int .i64 ((wantF b).hd.age), .int .i64 ((wantF b).hd.kind), .int .i64 ((wantF b).hd.id), .int .i64 ((wantF b).hd.adv), .int .i64 ((wantF b).hd.seq), .int .i64 ((wantF b).hd.sum), .int .i64 ((wantF b).hd.long)]) := (hput.old 65 (by kernel_rfl)).trans s65
                      replace s66 : a35.tmps.getD 66 undef = .pointer (some ⟨g31, 0, none⟩) := (hput.old 66 (by kernel_rfl)).trans s66
                      have s67 : a35.tmps.getD 67 undef = .int .i64 k := hput.new 0 67 rfl
                      have s68 : a35.tmps.getD 68 undef = .bool true := hput.new 1 68 rfl
                      have s69 : a35.tmps.getD 69 undef = .bool true := hput.new 2 69 rfl
                      have s70 : a35.tmps.getD 70 undef = .pointer (some ⟨g9, 0, none⟩) := hput.new 3 70 rfl
                      have s71 : a35.tmps.getD 71 undef = .pointer (some ⟨g9, 0, none⟩) := hput.new 4 71 rfl
                      have s72 : a35.tmps.getD 72 undef = .pointer (some ⟨g9, 0, none⟩) := hput.new 5 72 rfl
                      have s73 : a35.tmps.getD 73 undef = .pointer (some ⟨g9, 19, none⟩) := hput.new 6 73 rfl
                      have s74 : a35.tmps.getD 74 undef = .bool s29.m.is_ := hput.new 7 74 rfl
                      have s75 : a35.tmps.getD 75 undef = .bool false := hput.new 8 75 rfl
                      have s76 : a35.tmps.getD 76 undef = .bool false := hput.new 9 76 rfl
                      have s77 : a35.tmps.getD 77 undef = .pointer (some ⟨g9, 0, none⟩) := hput.new 10 77 rfl
                      have s78 : a35.tmps.getD 78 undef = .pointer (some ⟨g9, 0, none⟩) := hput.new 11 78 rfl
                      have s79 : a35.tmps.getD 79 undef = .pointer (some ⟨g9, 0, none⟩) := hput.new 12 79 rfl
                      have s80 : a35.tmps.getD 80 undef = .pointer (some ⟨g9, 10, none⟩) := hput.new 13 80 rfl
                      have s81 : a35.tmps.getD 81 undef = .pointer (some ⟨g9, 10, none⟩) := hput.new 14 81 rfl
                      have s82 : a35.tmps.getD 82 undef = .pointer (some ⟨g9, 10, none⟩) := hput.new 15 82 rfl
                      have s83 : a35.tmps.getD 83 undef = .int .i64 s29.m.held.hd.age := hput.new 16 83 rfl
                      have s84 : a35.tmps.getD 84 undef = .bool false := hput.new 17 84 rfl
                      have s85 : a35.tmps.getD 85 undef = .bool false := hput.new 18 85 rfl
                      have s86 : a35.tmps.getD 86 undef = .bool false := hput.new 19 86 rfl
                      have s87 : a35.tmps.getD 87 undef = .agg (List.toArray [.int .i64 ((wantF b).hd.age), .int .i64 ((wantF b).hd.kind), .int .i64 ((wantF b).hd.id), .int .i64 ((wantF b).hd.adv), .int .i64 ((wantF b).hd.seq), .int .i64 ((wantF b).hd.sum), .int .i64 ((wantF b).hd.long), .slice q29.A s29.m.held.links.length q29.c, .slice q29.B s29.m.held.mem.length q29.d]) := hput.new 20 87 rfl
                      have s88 : a35.tmps.getD 88 undef = .agg (List.toArray [.int .i64 ((wantF b).hd.age), .int .i64 ((wantF b).hd.kind), .int .i64 ((wantF b).hd.id), .int .i64 ((wantF b).hd.adv), .int .i64 ((wantF b).hd.seq), .int .i64 ((wantF b).hd.sum), .int .i64 ((wantF b).hd.long), .slice pw.A ((wantF b).links.length) pw.c, .slice pw.B ((wantF b).mem.length) pw.d]) := hput.new 21 88 rfl
                      have s89 : a35.tmps.getD 89 undef = .bool (decide ((⟨(wantF b).hd, s29.m.held.links, s29.m.held.mem⟩ : LV) = wantF b)) := hput.new 22 89 rfl
                      have s90 : a35.tmps.getD 90 undef = .bool (!(decide ((⟨(wantF b).hd, s29.m.held.links, s29.m.held.mem⟩ : LV) = wantF b))) := hput.new 23 90 rfl
                      have s91 : a35.tmps.getD 91 undef = .bool (!(decide ((⟨(wantF b).hd, s29.m.held.links, s29.m.held.mem⟩ : LV) = wantF b))) := hput.new 24 91 rfl
                      have s92 : a35.tmps.getD 92 undef = .bool (!(decide ((⟨(wantF b).hd, s29.m.held.links, s29.m.held.mem⟩ : LV) = wantF b))) := hput.new 25 92 rfl
                      replace hz := hput.size.trans hz
                      replace hd := hput.defers.trans hd
                      clear hput
                      change Code.wp _ _ _ _ _
                      rcases Bool.eq_false_or_eq_true (!(decide ((⟨(wantF b).hd, s29.m.held.links, s29.m.held.mem⟩ : LV) = wantF b))) with hc92 | hc92
                      · rw [hc92] at s92
                        replace hc92 : (decide ((⟨(wantF b).hd, s29.m.held.links, s29.m.held.mem⟩ : LV) = wantF b)) = false := by simpa using hc92
                        exact absurd (show (⟨(wantF b).hd, s29.m.held.links, s29.m.held.mem⟩ : LV) = wantF b from lv_eq.2 ⟨rfl, (hSe29.sat (by omega)).links, (hSe29.sat (by omega)).mem⟩) (of_decide_eq_false hc92)
                      · rw [hc92] at s92
                        replace hc92 : (decide ((⟨(wantF b).hd, s29.m.held.links, s29.m.held.mem⟩ : LV) = wantF b)) = true := by simpa using hc92
                        refine wp_cond_false s92 ?_
                        refine wp_skip ?_
                        change Code.wp _ _ _ _ _
                        refine seq_lit (.rd 0 (.rd 1 (.fin))) (by kernel_rfl) hz (by kernel_rfl) (by kernel_rfl) ?_
                        refine ⟨.int .i64 (k + 1), fun a hat => r_ok (on_none rfl) (run_addI rfl ((hat.base 52 (by kernel_rfl)).trans s52) rfl (by omega) rfl),
                         .int .i64 (k + 1), fun a hat => r_ok (on_none rfl) (run_move rfl (hat.dep 0 93 (by kernel_rfl) (by kernel_rfl))), ?_⟩
                        intro a37 hput
                        replace s1 : a37.tmps.getD 1 undef = .int .u8 b := (hput.old 1 (by kernel_rfl)).trans s1
                        replace s7 : a37.tmps.getD 7 undef = .pointer (some ⟨g9, 0, none⟩) := (hput.old 7 (by kernel_rfl)).trans s7
                        replace s10 : a37.tmps.getD 10 undef = .pointer (some ⟨g22, 0, none⟩) := (hput.old 10 (by kernel_rfl)).trans s10
                        replace s12 : a37.tmps.getD 12 undef = .int .i64 k := (hput.old 12 (by kernel_rfl)).trans s12
                        replace s13 : a37.tmps.getD 13 undef = .pointer (some ⟨g31, 0, none⟩) := (hput.old 13 (by kernel_rfl)).trans s13
                        replace s52 : a37.tmps.getD 52 undef = .int .i64 (k + 1) := hput.new 1 52 rfl
                        replace s53 : a37.tmps.getD 53 undef = .bool true := (hput.old 53 (by kernel_rfl)).trans s53
                        replace s54 : a37.tmps.getD 54 undef = .int .i64 k := (hput.old 54 (by kernel_rfl)).trans s54
                        replace s55 : a37.tmps.getD 55 undef = .pointer (some ⟨g9, 0, none⟩) := (hput.old 55 (by kernel_rfl)).trans s55
                        replace s56 : a37.tmps.getD 56 undef = .int .u8 b := (hput.old 56 (by kernel_rfl)).trans s56
                        replace s57 : a37.tmps.getD 57 undef = .bool true := (hput.old 57 (by kernel_rfl)).trans s57
                        replace s58 : a37.tmps.getD 58 undef = .bool false := (hput.old 58 (by kernel_rfl)).trans s58
                        replace s59 : a37.tmps.getD 59 undef = .pointer (some ⟨g9, 0, none⟩) := (hput.old 59 (by kernel_rfl)).trans s59
                        replace s60 : a37.tmps.getD 60 undef = .pointer (some ⟨g9, 0, none⟩) := (hput.old 60 (by kernel_rfl)).trans s60
                        replace s61 : a37.tmps.getD 61 undef = .pointer (some ⟨g9, 0, none⟩) := (hput.old 61 (by kernel_rfl)).trans s61
                        replace s62 : a37.tmps.getD 62 undef = .pointer (some ⟨g9, 10, none⟩) := (hput.old 62 (by kernel_rfl)).trans s62
                        replace s63 : a37.tmps.getD 63 undef = .agg (List.toArray [.int .i64 s29.m.held.hd.age, .int .i64 s29.m.held.hd.kind, .int .i64 s29.m.held.hd.id, .int .i64 s29.m.held.hd.adv, .int .i64 s29.m.held.hd.seq, .int .i64 s29.m.held.hd.sum, .int .i64 s29.m.held.hd.long, .slice q29.A s29.m.held.links.length q29.c, .slice q29.B s29.m.held.mem.length q29.d]) := (hput.old 63 (by kernel_rfl)).trans s63
                        replace s64 : a37.tmps.getD 64 undef = .pointer (some ⟨g22, 0, none⟩) := (hput.old 64 (by kernel_rfl)).trans s64
                        replace s65 : a37.tmps.getD 65 undef = .agg (List.toArray [.int .i64 ((wantF b).hd.age), .int .i64 ((wantF b).hd.kind), .int .i64 ((wantF b).hd.id), .int .i64 ((wantF b).hd.adv), .int .i64 ((wantF b).hd.seq), .int .i64 ((wantF b).hd.sum), .int .i64 ((wantF b).hd.long)]) := (hput.old 65 (by kernel_rfl)).trans s65
                        replace s66 : a37.tmps.getD 66 undef = .pointer (some ⟨g31, 0, none⟩) := (hput.old 66 (by kernel_rfl)).trans s66
                        replace s67 : a37.tmps.getD 67 undef = .int .i64 k := (hput.old 67 (by kernel_rfl)).trans s67
                        replace s68 : a37.tmps.getD 68 undef = .bool true := (hput.old 68 (by kernel_rfl)).trans s68
                        replace s69 : a37.tmps.getD 69 undef = .bool true := (hput.old 69 (by kernel_rfl)).trans s69
                        replace s70 : a37.tmps.getD 70 undef = .pointer (some ⟨g9, 0, none⟩) := (hput.old 70 (by kernel_rfl)).trans s70
                        replace s71 : a37.tmps.getD 71 undef = .pointer (some ⟨g9, 0, none⟩) := (hput.old 71 (by kernel_rfl)).trans s71
                        replace s72 : a37.tmps.getD 72 undef = .pointer (some ⟨g9, 0, none⟩) := (hput.old 72 (by kernel_rfl)).trans s72
                        replace s73 : a37.tmps.getD 73 undef = .pointer (some ⟨g9, 19, none⟩) := (hput.old 73 (by kernel_rfl)).trans s73
                        replace s74 : a37.tmps.getD 74 undef = .bool s29.m.is_ := (hput.old 74 (by kernel_rfl)).trans s74
                        replace s75 : a37.tmps.getD 75 undef = .bool false := (hput.old 75 (by kernel_rfl)).trans s75
                        replace s76 : a37.tmps.getD 76 undef = .bool false := (hput.old 76 (by kernel_rfl)).trans s76
                        replace s77 : a37.tmps.getD 77 undef = .pointer (some ⟨g9, 0, none⟩) := (hput.old 77 (by kernel_rfl)).trans s77
                        replace s78 : a37.tmps.getD 78 undef = .pointer (some ⟨g9, 0, none⟩) := (hput.old 78 (by kernel_rfl)).trans s78
                        replace s79 : a37.tmps.getD 79 undef = .pointer (some ⟨g9, 0, none⟩) := (hput.old 79 (by kernel_rfl)).trans s79
                        replace s80 : a37.tmps.getD 80 undef = .pointer (some ⟨g9, 10, none⟩) := (hput.old 80 (by kernel_rfl)).trans s80
                        replace s81 : a37.tmps.getD 81 undef = .pointer (some ⟨g9, 10, none⟩) := (hput.old 81 (by kernel_rfl)).trans s81
                        replace s82 : a37.tmps.getD 82 undef = .pointer (some ⟨g9, 10, none⟩) := (hput.old 82 (by kernel_rfl)).trans s82
                        replace s83 : a37.tmps.getD 83 undef = .int .i64 s29.m.held.hd.age := (hput.old 83 (by kernel_rfl)).trans s83
                        replace s84 : a37.tmps.getD 84 undef = .bool false := (hput.old 84 (by kernel_rfl)).trans s84
                        replace s85 : a37.tmps.getD 85 undef = .bool false := (hput.old 85 (by kernel_rfl)).trans s85
                        replace s86 : a37.tmps.getD 86 undef = .bool false := (hput.old 86 (by kernel_rfl)).trans s86
                        replace s87 : a37.tmps.getD 87 undef = .agg (List.toArray [.int .i64 ((wantF b).hd.age), .int .i64 ((wantF b).hd.kind), .int .i64 ((wantF b).hd.id), .int .i64 ((wantF b).hd.adv), .int .i64 ((wantF b).hd.seq), .int .i64 ((wantF b).hd.sum), .int .i64 ((wantF b).hd.long), .slice q29.A s29.m.held.links.length q29.c, .slice q29.B s29.m.held.mem.length q29.d]) := (hput.old 87 (by kernel_rfl)).trans s87
                        replace s88 : a37.tmps.getD 88 undef = .agg (List.toArray [.int .i64 ((wantF b).hd.age), .int .i64 ((wantF b).hd.kind), .int .i64 ((wantF b).hd.id), .int .i64 ((wantF b).hd.adv), .int .i64 ((wantF b).hd.seq), .int .i64 ((wantF b).hd.sum), .int .i64 ((wantF b).hd.long), .slice pw.A ((wantF b).links.length) pw.c, .slice pw.B ((wantF b).mem.length) pw.d]) := (hput.old 88 (by kernel_rfl)).trans s88
                        replace s89 : a37.tmps.getD 89 undef = .bool (decide ((⟨(wantF b).hd, s29.m.held.links, s29.m.held.mem⟩ : LV) = wantF b)) := (hput.old 89 (by kernel_rfl)).trans s89
                        replace s90 : a37.tmps.getD 90 undef = .bool (!(decide ((⟨(wantF b).hd, s29.m.held.links, s29.m.held.mem⟩ : LV) = wantF b))) := (hput.old 90 (by kernel_rfl)).trans s90
                        replace s91 : a37.tmps.getD 91 undef = .bool (!(decide ((⟨(wantF b).hd, s29.m.held.links, s29.m.held.mem⟩ : LV) = wantF b))) := (hput.old 91 (by kernel_rfl)).trans s91
                        replace s92 : a37.tmps.getD 92 undef = .bool false := (hput.old 92 (by kernel_rfl)).trans s92
                        have s93 : a37.tmps.getD 93 undef = .int .i64 (k + 1) := hput.new 0 93 rfl
                        replace hz := hput.size.trans hz
                        replace hd := hput.defers.trans hd
                        clear hput
                        have hSd := hS36.drop
                        refine ⟨⟨k + 1, s29, p29, q29, At29, ct29, by omega, hI29.1, hJ29, by rw [hI29.2, hnow]; simp; omega, by simpa using hSe29, hL29, hc2_6, hz, hd, s1, s7, s10, s52, hSd⟩, ?_⟩
                        show 60 - (intOf (a37.tmps.getD 52 undef)).toNat < 60 - (intOf (a25.tmps.getD 52 undef)).toNat
                        rw [s52, hmu2]
                        simp only [intOf]
                        omega
                · rw [hg2]
                  replace hg2 := of_decide_eq_false hg2
                  refine ⟨undef, fun a hat => r_off (off_dep (b := true) (d := 69) rfl (by kernel_rfl) (hat.dep 2 69 (by kernel_rfl) (by kernel_rfl))) rfl,
                   undef, fun a hat => r_off (off_dep (b := true) (d := 69) rfl (by kernel_rfl) (hat.dep 2 69 (by kernel_rfl) (by kernel_rfl))) rfl,
                   undef, fun a hat => r_off (off_dep (b := true) (d := 69) rfl (by kernel_rfl) (hat.dep 2 69 (by kernel_rfl) (by kernel_rfl))) rfl,
                   undef, fun a hat => r_off (off_dep (b := true) (d := 69) rfl (by kernel_rfl) (hat.dep 2 69 (by kernel_rfl) (by kernel_rfl))) rfl,
                   undef, fun a hat => r_off (off_dep (b := true) (d := 69) rfl (by kernel_rfl) (hat.dep 2 69 (by kernel_rfl) (by kernel_rfl))) rfl,
                   undef, fun a hat => r_off (off_dep (b := true) (d := 69) rfl (by kernel_rfl) (hat.dep 2 69 (by kernel_rfl) (by kernel_rfl))) rfl,
                   undef, fun a hat => r_off (off_dep (b := true) (d := 69) rfl (by kernel_rfl) (hat.dep 2 69 (by kernel_rfl) (by kernel_rfl))) rfl,
                   undef, fun a hat => r_off (off_undef (b := false) (d := 76) rfl (by kernel_rfl) (hat.dep 9 76 (by kernel_rfl) (by kernel_rfl))) rfl,
                   undef, fun a hat => r_off (off_undef (b := false) (d := 76) rfl (by kernel_rfl) (hat.dep 9 76 (by kernel_rfl) (by kernel_rfl))) rfl,
                   undef, fun a hat => r_off (off_undef (b := false) (d := 76) rfl (by kernel_rfl) (hat.dep 9 76 (by kernel_rfl) (by kernel_rfl))) rfl,
                   undef, fun a hat => r_off (off_undef (b := false) (d := 76) rfl (by kernel_rfl) (hat.dep 9 76 (by kernel_rfl) (by kernel_rfl))) rfl,
                   undef, fun a hat => r_off (off_undef (b := false) (d := 76) rfl (by kernel_rfl) (hat.dep 9 76 (by kernel_rfl) (by kernel_rfl))) rfl,
                   undef, fun a hat => r_off (off_undef (b := false) (d := 76) rfl (by kernel_rfl) (hat.dep 9 76 (by kernel_rfl) (by kernel_rfl))) rfl,
                   undef, fun a hat => r_off (off_undef (b := false) (d := 76) rfl (by kernel_rfl) (hat.dep 9 76 (by kernel_rfl) (by kernel_rfl))) rfl,
                   undef, fun a hat => r_off (off_undef (b := false) (d := 76) rfl (by kernel_rfl) (hat.dep 9 76 (by kernel_rfl) (by kernel_rfl))) rfl,
                   undef, fun a hat => r_off (off_dep (b := true) (d := 69) rfl (by kernel_rfl) (hat.dep 2 69 (by kernel_rfl) (by kernel_rfl))) rfl,
                   undef, fun a hat => r_off (off_dep (b := true) (d := 69) rfl (by kernel_rfl) (hat.dep 2 69 (by kernel_rfl) (by kernel_rfl))) rfl,
                   undef, fun a hat => r_off (off_undef (b := false) (d := 86) rfl (by kernel_rfl) (hat.dep 19 86 (by kernel_rfl) (by kernel_rfl))) rfl,
                   undef, fun a hat => r_off (off_undef (b := false) (d := 86) rfl (by kernel_rfl) (hat.dep 19 86 (by kernel_rfl) (by kernel_rfl))) rfl, ?_⟩
                  refine ⟨fun a hat => step_off (off_undef (b := false) (d := 86) rfl (by kernel_rfl) (hat.dep 19 86 (by kernel_rfl) (by kernel_rfl))) ?_, trivial⟩
                  clear hat a
                  refine ⟨undef, fun a hat => r_off (off_undef (b := false) (d := 86) rfl (by kernel_rfl) (hat.dep 19 86 (by kernel_rfl) (by kernel_rfl))) rfl,
                   undef, fun a hat => r_off (off_dep (b := true) (d := 69) rfl (by kernel_rfl) (hat.dep 2 69 (by kernel_rfl) (by kernel_rfl))) rfl,
                   .bool false, fun a hat => r_ok (on_none rfl) (run_pick_f rfl (hat.dep 2 69 (by kernel_rfl) (by kernel_rfl)) rfl), ?_⟩
                  intro a35 hput
                  replace s1 : a35.tmps.getD 1 undef = .int .u8 b := (hput.old 1 (by kernel_rfl)).trans s1
                  replace s7 : a35.tmps.getD 7 undef = .pointer (some ⟨g9, 0, none⟩) := (hput.old 7 (by kernel_rfl)).trans s7
                  replace s10 : a35.tmps.getD 10 undef = .pointer (some ⟨g22, 0, none⟩) := (hput.old 10 (by kernel_rfl)).trans s10
                  replace s12 : a35.tmps.getD 12 undef = .int .i64 k := (hput.old 12 (by kernel_rfl)).trans s12
                  replace s13 : a35.tmps.getD 13 undef = .pointer (some ⟨g31, 0, none⟩) := (hput.old 13 (by kernel_rfl)).trans s13
                  replace s52 : a35.tmps.getD 52 undef = .int .i64 k := (hput.old 52 (by kernel_rfl)).trans s52
                  replace s53 : a35.tmps.getD 53 undef = .bool true := (hput.old 53 (by kernel_rfl)).trans s53
                  replace s54 : a35.tmps.getD 54 undef = .int .i64 k := (hput.old 54 (by kernel_rfl)).trans s54
                  replace s55 : a35.tmps.getD 55 undef = .pointer (some ⟨g9, 0, none⟩) := (hput.old 55 (by kernel_rfl)).trans s55
                  replace s56 : a35.tmps.getD 56 undef = .int .u8 b := (hput.old 56 (by kernel_rfl)).trans s56
                  replace s57 : a35.tmps.getD 57 undef = .bool true := (hput.old 57 (by kernel_rfl)).trans s57
                  replace s58 : a35.tmps.getD 58 undef = .bool false := (hput.old 58 (by kernel_rfl)).trans s58
                  replace s59 : a35.tmps.getD 59 undef = .pointer (some ⟨g9, 0, none⟩) := (hput.old 59 (by kernel_rfl)).trans s59
                  replace s60 : a35.tmps.getD 60 undef = .pointer (some ⟨g9, 0, none⟩) := (hput.old 60 (by kernel_rfl)).trans s60
                  replace s61 : a35.tmps.getD 61 undef = .pointer (some ⟨g9, 0, none⟩) := (hput.old 61 (by kernel_rfl)).trans s61
                  replace s62 : a35.tmps.getD 62 undef = .pointer (some ⟨g9, 10, none⟩) := (hput.old 62 (by kernel_rfl)).trans s62
                  replace s63 : a35.tmps.getD 63 undef = .agg (List.toArray [.int .i64 s29.m.held.hd.age, .int .i64 s29.m.held.hd.kind, .int .i64 s29.m.held.hd.id, .int .i64 s29.m.held.hd.adv, .int .i64 s29.m.held.hd.seq, .int .i64 s29.m.held.hd.sum, .int .i64 s29.m.held.hd.long, .slice q29.A s29.m.held.links.length q29.c, .slice q29.B s29.m.held.mem.length q29.d]) := (hput.old 63 (by kernel_rfl)).trans s63
                  replace s64 : a35.tmps.getD 64 undef = .pointer (some ⟨g22, 0, none⟩) := (hput.old 64 (by kernel_rfl)).trans s64
                  replace s65 : a35.tmps.getD 65 undef = .agg (List.toArray [.int .i64 ((wantF b).hd.age), .int .i64 ((wantF b).hd.kind), .int .i64 ((wantF b).hd.id), .int .i64 ((wantF b).hd.adv), .int .i64 ((wantF b).hd.seq), .int .i64 ((wantF b).hd.sum), .int .i64 ((wantF b).hd.long)]) := (hput.old 65 (by kernel_rfl)).trans s65
                  replace s66 : a35.tmps.getD 66 undef = .pointer (some ⟨g31, 0, none⟩) := (hput.old 66 (by kernel_rfl)).trans s66
                  have s67 : a35.tmps.getD 67 undef = .int .i64 k := hput.new 0 67 rfl
                  have s68 : a35.tmps.getD 68 undef = .bool false := hput.new 1 68 rfl
                  have s69 : a35.tmps.getD 69 undef = .bool false := hput.new 2 69 rfl
                  have s92 : a35.tmps.getD 92 undef = .bool false := hput.new 25 92 rfl
                  replace hz := hput.size.trans hz
                  replace hd := hput.defers.trans hd
                  clear hput
                  change Code.wp _ _ _ _ _
                  refine wp_cond_false s92 ?_
                  refine wp_skip ?_
                  change Code.wp _ _ _ _ _
                  refine seq_lit (.rd 0 (.rd 1 (.fin))) (by kernel_rfl) hz (by kernel_rfl) (by kernel_rfl) ?_
                  refine ⟨.int .i64 (k + 1), fun a hat => r_ok (on_none rfl) (run_addI rfl ((hat.base 52 (by kernel_rfl)).trans s52) rfl (by omega) rfl),
                   .int .i64 (k + 1), fun a hat => r_ok (on_none rfl) (run_move rfl (hat.dep 0 93 (by kernel_rfl) (by kernel_rfl))), ?_⟩
                  intro a38 hput
                  replace s1 : a38.tmps.getD 1 undef = .int .u8 b := (hput.old 1 (by kernel_rfl)).trans s1
                  replace s7 : a38.tmps.getD 7 undef = .pointer (some ⟨g9, 0, none⟩) := (hput.old 7 (by kernel_rfl)).trans s7
                  replace s10 : a38.tmps.getD 10 undef = .pointer (some ⟨g22, 0, none⟩) := (hput.old 10 (by kernel_rfl)).trans s10
                  replace s12 : a38.tmps.getD 12 undef = .int .i64 k := (hput.old 12 (by kernel_rfl)).trans s12
                  replace s13 : a38.tmps.getD 13 undef = .pointer (some ⟨g31, 0, none⟩) := (hput.old 13 (by kernel_rfl)).trans s13
                  replace s52 : a38.tmps.getD 52 undef = .int .i64 (k + 1) := hput.new 1 52 rfl
                  replace s53 : a38.tmps.getD 53 undef = .bool true := (hput.old 53 (by kernel_rfl)).trans s53
                  replace s54 : a38.tmps.getD 54 undef = .int .i64 k := (hput.old 54 (by kernel_rfl)).trans s54
                  replace s55 : a38.tmps.getD 55 undef = .pointer (some ⟨g9, 0, none⟩) := (hput.old 55 (by kernel_rfl)).trans s55
                  replace s56 : a38.tmps.getD 56 undef = .int .u8 b := (hput.old 56 (by kernel_rfl)).trans s56
                  replace s57 : a38.tmps.getD 57 undef = .bool true := (hput.old 57 (by kernel_rfl)).trans s57
                  replace s58 : a38.tmps.getD 58 undef = .bool false := (hput.old 58 (by kernel_rfl)).trans s58
                  replace s59 : a38.tmps.getD 59 undef = .pointer (some ⟨g9, 0, none⟩) := (hput.old 59 (by kernel_rfl)).trans s59
                  replace s60 : a38.tmps.getD 60 undef = .pointer (some ⟨g9, 0, none⟩) := (hput.old 60 (by kernel_rfl)).trans s60
                  replace s61 : a38.tmps.getD 61 undef = .pointer (some ⟨g9, 0, none⟩) := (hput.old 61 (by kernel_rfl)).trans s61
                  replace s62 : a38.tmps.getD 62 undef = .pointer (some ⟨g9, 10, none⟩) := (hput.old 62 (by kernel_rfl)).trans s62
                  replace s63 : a38.tmps.getD 63 undef = .agg (List.toArray [.int .i64 s29.m.held.hd.age, .int .i64 s29.m.held.hd.kind, .int .i64 s29.m.held.hd.id, .int .i64 s29.m.held.hd.adv, .int .i64 s29.m.held.hd.seq, .int .i64 s29.m.held.hd.sum, .int .i64 s29.m.held.hd.long, .slice q29.A s29.m.held.links.length q29.c, .slice q29.B s29.m.held.mem.length q29.d]) := (hput.old 63 (by kernel_rfl)).trans s63
                  replace s64 : a38.tmps.getD 64 undef = .pointer (some ⟨g22, 0, none⟩) := (hput.old 64 (by kernel_rfl)).trans s64
                  replace s65 : a38.tmps.getD 65 undef = .agg (List.toArray [.int .i64 ((wantF b).hd.age), .int .i64 ((wantF b).hd.kind), .int .i64 ((wantF b).hd.id), .int .i64 ((wantF b).hd.adv), .int .i64 ((wantF b).hd.seq), .int .i64 ((wantF b).hd.sum), .int .i64 ((wantF b).hd.long)]) := (hput.old 65 (by kernel_rfl)).trans s65
                  replace s66 : a38.tmps.getD 66 undef = .pointer (some ⟨g31, 0, none⟩) := (hput.old 66 (by kernel_rfl)).trans s66
                  replace s67 : a38.tmps.getD 67 undef = .int .i64 k := (hput.old 67 (by kernel_rfl)).trans s67
                  replace s68 : a38.tmps.getD 68 undef = .bool false := (hput.old 68 (by kernel_rfl)).trans s68
                  replace s69 : a38.tmps.getD 69 undef = .bool false := (hput.old 69 (by kernel_rfl)).trans s69
                  replace s92 : a38.tmps.getD 92 undef = .bool false := (hput.old 92 (by kernel_rfl)).trans s92
                  have s93 : a38.tmps.getD 93 undef = .int .i64 (k + 1) := hput.new 0 93 rfl
                  replace hz := hput.size.trans hz
                  replace hd := hput.defers.trans hd
                  clear hput
                  have hSd := hS34.drop
                  refine ⟨⟨k + 1, s29, p29, q29, At29, ct29, by omega, hI29.1, hJ29, by rw [hI29.2, hnow]; simp; omega, by simpa using hSe29, hL29, hc2_6, hz, hd, s1, s7, s10, s52, hSd⟩, ?_⟩
                  show 60 - (intOf (a38.tmps.getD 52 undef)).toNat < 60 - (intOf (a25.tmps.getD 52 undef)).toNat
                  rw [s52, hmu2]
                  simp only [intOf]
                  omega
              · rw [hc53] at s53
                replace hc53 := of_decide_eq_false hc53
                refine wp_cond_false s53 ?_
                refine wp_exit ?_
                change Code.wp _ _ _ _ _
                refine wp_seq ?_
                refine seq_lit (.rd 0 (.fin)) (by kernel_rfl) hz (by kernel_rfl) (by kernel_rfl) ?_
                refine ⟨.bool true, fun a hat => r_ok (on_none rfl) (run_assign rfl rfl), ?_⟩
                intro a39 hput
                have s6 : a39.tmps.getD 6 undef = .bool true := hput.new 0 6 rfl
                replace hz := hput.size.trans hz
                replace hd := hput.defers.trans hd
                clear hput s1 s7 s10 s52 s53
                change Code.wp _ _ _ _ _
                refine wp_ret ?_
                refine bodyPost_ret (P := Try.prog) (fn := Try.f7) (R := (fun r w' => r = .returned (.bool true) ∧ Below W.heap.size W w')) (v := .bool true) (by rw [results_tmp (t := 6) (by kernel_rfl), s6]) hd ?_
                exact ⟨rfl, (hS25.old (by simp))⟩
end Go.Proofs.Ytmklebkldailnaa
