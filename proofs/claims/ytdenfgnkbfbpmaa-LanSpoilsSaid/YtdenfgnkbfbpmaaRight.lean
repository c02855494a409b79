/-
  The reference's Right of a description.
-/
import Derived.Test.YtdenfgnkbfbpmaaOps
import Derived.Test.YtdenfgnkbfbpmaaLsa
namespace Go.Proofs.Ytdenfgnkbfbpmaa
open Go.RowKit
set_option linter.unusedSimpArgs false
set_option linter.unusedVariables false

theorem Reads.old {W w : World} {size n : Nat} {A : Option Addr} {xs : List Value} (h : Reads W W.heap.size size A n xs) (hb : Below W.heap.size W w) : Reads w w.heap.size size A n xs := (h.below hb).more hb.size
set_option maxRecDepth 100000 in
set_option maxHeartbeats 800000 in
theorem in04_any (n lo hi : Int) (W : World) :
    Calls Try.prog 59 #[i6 n, i6 lo, i6 hi] W (fun r w' => r = .returned (.bool (decide (lo ≤ n ∧ n ≤ hi))) ∧ Below W.heap.size W w') := by
  have hS := S.start W
  refine calls_walk Try.func59 rfl fun R_ hR_ a hz hd hargs => ?_
  replace hz : a.tmps.size = 15 := hz.trans (by kernel_rfl)
  have s0 := hargs 0 _ rfl
  have s1 := hargs 1 _ rfl
  have s2 := hargs 2 _ rfl
  clear hargs
  refine wp_seq ?_
  refine seq_l [] hz ?_
  refine ⟨.bool false, fun _ h_ => rk (run_assign rfl rfl), ?_⟩
  intro a2 hput
  replace s0 := hput.o 0 s0
  replace s1 := hput.o 1 s1
  replace s2 := hput.o 2 s2
  have s6 : sl a2 6 = .bool false := hput.new 0 6 rfl
  replace hz := hput.size.trans hz
  replace hd := hput.defers.trans hd
  clear hput
  change Code.wp _ _ _ _ _
  refine wp_seq ?_
  refine seq_l [] hz ?_
  refine ⟨i6 n, fun _ h_ => rmv (h_.b 0 s0),
   i6 lo, fun _ h_ => rmv (h_.b 1 s1),
   .bool (decide ((lo : Int) ≤ n)), fun _ h_ => rk (run_cmp rfl (h_.d 0 7) (h_.d 1 8) rfl (by first | rfl | exact neq_dec _ _ | exact eq_dec _ _ | simp)),
   .bool (decide ((lo : Int) ≤ n)), fun _ h_ => rmv (h_.d 2 9), ?_⟩
  rcases dt ((lo : Int) ≤ n) with ⟨he, hg3⟩ | ⟨he, hg3⟩
  · rw [he]
    clear he
    refine ⟨i6 n, fun _ h_ => r_ok (h_.on 3 10) (run_move rfl (h_.b 0 s0)),
     i6 hi, fun _ h_ => r_ok (h_.on 3 10) (run_move rfl (h_.b 2 s2)),
     .bool (decide ((n : Int) ≤ hi)), fun _ h_ => r_ok (h_.on 3 10) (run_cmp rfl (h_.d 4 11) (h_.d 5 12) rfl (by first | rfl | exact neq_dec _ _ | exact eq_dec _ _ | simp)),
     .bool (decide ((n : Int) ≤ hi)), fun _ h_ => rk (run_pick_t rfl (h_.d 3 10) (h_.d 6 13)),
     .bool (decide ((n : Int) ≤ hi)), fun _ h_ => ras (h_.d 7 14), ?_⟩
    intro a3 hput
    replace s6 : sl a3 6 = .bool (decide ((n : Int) ≤ hi)) := hput.new 8 6 rfl
    replace hz := hput.size.trans hz
    replace hd := hput.defers.trans hd
    clear hput s0 s1 s2
    change Code.wp _ _ _ _ _
    refine wp_ret ?_
    refine ret1 (P := Try.prog) (fn := Try.f59) hd s6 (hR_ _ _ ?_)
    refine ⟨?_, (hS.old (by simp))⟩
    congr 2
    first | (rw [decide_eq_decide]; omega) | (exact (decide_eq_false (by omega)).symm) | (exact (decide_eq_true (by omega)).symm)
  · rw [he]
    clear he
    refine seq_off (j := 3) (d := 10) (b := true) [4, 5, 6] _ (by kernel_rfl) (.inl rfl) ?_
    refine ⟨.bool false, fun _ h_ => rk (run_pick_f rfl (h_.d 3 10) rfl),
     .bool false, fun _ h_ => ras (h_.d 7 14), ?_⟩
    intro a3 hput
    replace s6 : sl a3 6 = .bool false := hput.new 8 6 rfl
    replace hz := hput.size.trans hz
    replace hd := hput.defers.trans hd
    clear hput s0 s1 s2
    change Code.wp _ _ _ _ _
    refine wp_ret ?_
    refine ret1 (P := Try.prog) (fn := Try.f59) hd s6 (hR_ _ _ ?_)
    refine ⟨?_, (hS.old (by simp))⟩
    congr 2
    first | (rw [decide_eq_decide]; omega) | (exact (decide_eq_false (by omega)).symm) | (exact (decide_eq_true (by omega)).symm)
set_option maxRecDepth 100000 in
set_option maxHeartbeats 800000 in
theorem head04_any (h : HD) (W : World) :
    Calls Try.prog 58 #[.agg #[i6 h.age, i6 h.kind, i6 h.id, i6 h.adv, i6 h.seq, i6 h.sum, i6 h.long]] W (fun r w' => r = .returned (.bool (decide (okHead h))) ∧ Below W.heap.size W w') := by
  have hS := S.start W
  refine calls_walk Try.func58 rfl fun R_ hR_ a hz hd hargs => ?_
  replace hz : a.tmps.size = 21 := hz.trans (by kernel_rfl)
  have s0 := hargs 0 _ rfl
  clear hargs
  refine wp_seq ?_
  refine seq_l [0] hz ?_
  refine ⟨fun a_ h_ => st_box (cells := #[i6 h.age, i6 h.kind, i6 h.id, i6 h.adv, i6 h.seq, i6 h.sum, i6 h.long]) hS (on_none rfl) rfl (h_.b 0 s0) (by kernel_rfl) fun g3 w3 hS3 hb3 => ⟨_, rfl, ?_⟩, trivial⟩
  clear h_ a_ hS
  clear hb3
  refine ⟨.bool false, fun _ h_ => rk (run_assign rfl rfl), ?_⟩
  intro a2 hput
  have s1 : sl a2 1 = pt g3 0 := hput.new 0 1 rfl
  have s2 : sl a2 2 = .bool false := hput.new 1 2 rfl
  replace hz := hput.size.trans hz
  replace hd := hput.defers.trans hd
  clear hput s0
  change Code.wp _ _ _ _ _
  refine wp_seq ?_
  refine seq_l [2, 6, 11, 16] hz ?_
  refine ⟨pt g3 0, fun _ h_ => rk (fa 0 rfl (h_.b 1 s1)),
   i6 h.age, fun _ h_ => rk (ld hS3 0 rfl (h_.d 0 3)), ?_⟩
  refine ⟨fun a_ h_ => st_call (on_none rfl) (run_call rfl (map3 (h_.d 1 4) rfl rfl) rfl) (in04_any _ _ _ _) ?_, trivial⟩
  rintro e w5 ⟨rfl, hb5⟩
  refine ⟨_, rfl, _, rfl, ?_⟩
  clear h_ a_
  have hS5 := hS3.below hb5
  clear hS3 hb5
  refine ⟨.bool (decide ((0 : Int) ≤ h.age ∧ h.age ≤ 60)), fun _ h_ => rmv (h_.d 2 5), ?_⟩
  rcases dt ((0 : Int) ≤ h.age ∧ h.age ≤ 60) with ⟨he, hg3⟩ | ⟨he, hg3⟩
  · rw [he]
    clear he
    refine ⟨pt g3 1, fun _ h_ => r_ok (h_.on 3 6) (fa 1 rfl (h_.b 1 s1)),
     i6 h.kind, fun _ h_ => r_ok (h_.on 3 6) (ld hS5 0 rfl (h_.d 4 7)), ?_⟩
    refine ⟨fun a_ h_ => st_call (h_.on 3 6) (run_call rfl (map3 (h_.d 5 8) rfl rfl) rfl) (in04_any _ _ _ _) ?_, trivial⟩
    rintro e w6 ⟨rfl, hb6⟩
    refine ⟨_, rfl, _, rfl, ?_⟩
    clear h_ a_
    have hS6 := hS5.below hb6
    clear hS5 hb6
    refine ⟨.bool (decide ((1 : Int) ≤ h.kind ∧ h.kind ≤ 2)), fun _ h_ => rk (run_pick_t rfl (h_.d 3 6) (h_.d 6 9)),
     .bool (decide ((1 : Int) ≤ h.kind ∧ h.kind ≤ 2)), fun _ h_ => rmv (h_.d 7 10), ?_⟩
    rcases dt ((1 : Int) ≤ h.kind ∧ h.kind ≤ 2) with ⟨he, hg8⟩ | ⟨he, hg8⟩
    · rw [he]
      clear he
      refine ⟨pt g3 3, fun _ h_ => r_ok (h_.on 8 11) (fa 3 rfl (h_.b 1 s1)),
       i6 h.adv, fun _ h_ => r_ok (h_.on 8 11) (ld hS6 0 rfl (h_.d 9 12)), ?_⟩
      refine ⟨fun a_ h_ => st_call (h_.on 8 11) (run_call rfl (map3 (h_.d 10 13) rfl rfl) rfl) (in04_any _ _ _ _) ?_, trivial⟩
      rintro e w7 ⟨rfl, hb7⟩
      refine ⟨_, rfl, _, rfl, ?_⟩
      clear h_ a_
      have hS7 := hS6.below hb7
      clear hS6 hb7
      refine ⟨.bool (decide ((1 : Int) ≤ h.adv ∧ h.adv ≤ 15)), fun _ h_ => rk (run_pick_t rfl (h_.d 8 11) (h_.d 11 14)),
       .bool (decide ((1 : Int) ≤ h.adv ∧ h.adv ≤ 15)), fun _ h_ => rmv (h_.d 12 15), ?_⟩
      rcases dt ((1 : Int) ≤ h.adv ∧ h.adv ≤ 15) with ⟨he, hg13⟩ | ⟨he, hg13⟩
      · rw [he]
        clear he
        refine ⟨pt g3 4, fun _ h_ => r_ok (h_.on 13 16) (fa 4 rfl (h_.b 1 s1)),
         i6 h.seq, fun _ h_ => r_ok (h_.on 13 16) (ld hS7 0 rfl (h_.d 14 17)), ?_⟩
        refine ⟨fun a_ h_ => st_call (h_.on 13 16) (run_call rfl (map3 (h_.d 15 18) rfl rfl) rfl) (in04_any _ _ _ _) ?_, trivial⟩
        rintro e w8 ⟨rfl, hb8⟩
        refine ⟨_, rfl, _, rfl, ?_⟩
        clear h_ a_
        have hS8 := hS7.below hb8
        clear hS7 hb8
        refine ⟨.bool (decide ((-2147483647 : Int) ≤ h.seq ∧ h.seq ≤ 2147483647)), fun _ h_ => rk (run_pick_t rfl (h_.d 13 16) (h_.d 16 19)),
         .bool (decide ((-2147483647 : Int) ≤ h.seq ∧ h.seq ≤ 2147483647)), fun _ h_ => ras (h_.d 17 20), ?_⟩
        intro a4 hput
        replace s2 : sl a4 2 = .bool (decide ((-2147483647 : Int) ≤ h.seq ∧ h.seq ≤ 2147483647)) := hput.new 18 2 rfl
        replace hz := hput.size.trans hz
        replace hd := hput.defers.trans hd
        clear hput s1
        change Code.wp _ _ _ _ _
        refine wp_ret ?_
        refine ret1 (P := Try.prog) (fn := Try.f58) hd s2 (hR_ _ _ ?_)
        refine ⟨?_, (hS8.old (by simp))⟩
        congr 2
        unfold okHead
        first | (exact decide_eq_decide.2 (by omega)) | (exact (decide_eq_false (by omega)).symm) | (exact (decide_eq_true (by omega)).symm)
      · rw [he]
        clear he
        refine seq_off (j := 13) (d := 16) (b := true) [14, 15] _ (by kernel_rfl) (.inl rfl) ?_
        refine seq_offe (j := 13) (d := 16) (b := true) (by kernel_rfl) (.inl rfl) ?_
        refine ⟨.bool false, fun _ h_ => rk (run_pick_f rfl (h_.d 13 16) rfl),
         .bool false, fun _ h_ => ras (h_.d 17 20), ?_⟩
        intro a4 hput
        replace s2 : sl a4 2 = .bool false := hput.new 18 2 rfl
        replace hz := hput.size.trans hz
        replace hd := hput.defers.trans hd
        clear hput s1
        change Code.wp _ _ _ _ _
        refine wp_ret ?_
        refine ret1 (P := Try.prog) (fn := Try.f58) hd s2 (hR_ _ _ ?_)
        refine ⟨?_, (hS7.old (by simp))⟩
        congr 2
        unfold okHead
        first | (exact decide_eq_decide.2 (by omega)) | (exact (decide_eq_false (by omega)).symm) | (exact (decide_eq_true (by omega)).symm)
    · rw [he]
      clear he
      refine seq_off (j := 8) (d := 11) (b := true) [9, 10] _ (by kernel_rfl) (.inl rfl) ?_
      refine seq_offe (j := 8) (d := 11) (b := true) (by kernel_rfl) (.inl rfl) ?_
      refine ⟨.bool false, fun _ h_ => rk (run_pick_f rfl (h_.d 8 11) rfl),
       .bool false, fun _ h_ => rmv (h_.d 12 15), ?_⟩
      refine seq_off (j := 13) (d := 16) (b := true) [14, 15] _ (by kernel_rfl) (.inl rfl) ?_
      refine seq_offe (j := 13) (d := 16) (b := true) (by kernel_rfl) (.inl rfl) ?_
      refine ⟨.bool false, fun _ h_ => rk (run_pick_f rfl (h_.d 13 16) rfl),
       .bool false, fun _ h_ => ras (h_.d 17 20), ?_⟩
      intro a4 hput
      replace s2 : sl a4 2 = .bool false := hput.new 18 2 rfl
      replace hz := hput.size.trans hz
      replace hd := hput.defers.trans hd
      clear hput s1
      change Code.wp _ _ _ _ _
      refine wp_ret ?_
      refine ret1 (P := Try.prog) (fn := Try.f58) hd s2 (hR_ _ _ ?_)
      refine ⟨?_, (hS6.old (by simp))⟩
      congr 2
      unfold okHead
      first | (exact decide_eq_decide.2 (by omega)) | (exact (decide_eq_false (by omega)).symm) | (exact (decide_eq_true (by omega)).symm)
  · rw [he]
    clear he
    refine seq_off (j := 3) (d := 6) (b := true) [4, 5] _ (by kernel_rfl) (.inl rfl) ?_
    refine seq_offe (j := 3) (d := 6) (b := true) (by kernel_rfl) (.inl rfl) ?_
    refine ⟨.bool false, fun _ h_ => rk (run_pick_f rfl (h_.d 3 6) rfl),
     .bool false, fun _ h_ => rmv (h_.d 7 10), ?_⟩
    refine seq_off (j := 8) (d := 11) (b := true) [9, 10] _ (by kernel_rfl) (.inl rfl) ?_
    refine seq_offe (j := 8) (d := 11) (b := true) (by kernel_rfl) (.inl rfl) ?_
    refine ⟨.bool false, fun _ h_ => rk (run_pick_f rfl (h_.d 8 11) rfl),
     .bool false, fun _ h_ => rmv (h_.d 12 15), ?_⟩
    refine seq_off (j := 13) (d := 16) (b := true) [14, 15] _ (by kernel_rfl) (.inl rfl) ?_
    refine seq_offe (j := 13) (d := 16) (b := true) (by kernel_rfl) (.inl rfl) ?_
    refine ⟨.bool false, fun _ h_ => rk (run_pick_f rfl (h_.d 13 16) rfl),
     .bool false, fun _ h_ => ras (h_.d 17 20), ?_⟩
    intro a4 hput
    replace s2 : sl a4 2 = .bool false := hput.new 18 2 rfl
    replace hz := hput.size.trans hz
    replace hd := hput.defers.trans hd
    clear hput s1
    change Code.wp _ _ _ _ _
    refine wp_ret ?_
    refine ret1 (P := Try.prog) (fn := Try.f58) hd s2 (hR_ _ _ ?_)
    refine ⟨?_, (hS5.old (by simp))⟩
    congr 2
    unfold okHead
    first | (exact decide_eq_decide.2 (by omega)) | (exact (decide_eq_false (by omega)).symm) | (exact (decide_eq_true (by omega)).symm)
theorem rb_head {l : LV} (h : ¬ okHead l.hd) : rightB l = false := by unfold rightB; simp [h]
theorem rb_r1 {l : LV} (hk : l.hd.kind = 1) (h : ¬(l.hd.id = l.hd.adv ∧ l.mem.length = 0 ∧ l.links.length ≤ 4)) : rightB l = false := by
  unfold rightB linksB
  rw [if_pos hk]
  by_cases h1 : l.hd.id = l.hd.adv
  · by_cases h2 : l.mem.length = 0
    · have h3 : ¬ l.links.length ≤ 4 := fun h3 => h ⟨h1, h2, h3⟩
      simp [h3]
    · simp [h2]
  · simp [h1]
theorem rb_r2 {l : LV} {k : Nat} {z : Lk} (hk : l.hd.kind = 1) (hz : l.links[k]? = some z) (h : ¬ okLink z) : rightB l = false := by
  unfold rightB linksB
  rw [if_pos hk]
  have : l.links.all (fun x => decide (okLink x)) = false := by
    rw [List.all_eq_false]
    exact ⟨z, List.mem_of_getElem? hz, by simpa using h⟩
  simp [this]
theorem rb_r3 {l : LV} (hh : okHead l.hd) (hk : l.hd.kind = 1) (h1 : l.hd.id = l.hd.adv) (h2 : l.mem.length = 0) (h3 : l.links.length ≤ 4) (h : l.links.all (fun x => decide (okLink x)) = true) : rightB l = true := by
  unfold rightB linksB
  rw [if_pos hk, h]
  simp [hh, h1, h2, h3]
theorem rb_m1 {l : LV} (hk : ¬ l.hd.kind = 1) (h : ¬((0 ≤ l.hd.id ∧ l.hd.id ≤ 63) ∧ l.links.length = 0 ∧ 0 < l.mem.length)) : rightB l = false := by
  unfold rightB membersB
  rw [if_neg hk]
  by_cases h1 : 0 ≤ l.hd.id ∧ l.hd.id ≤ 63
  · by_cases h2 : l.links.length = 0
    · have h3 : ¬ 0 < l.mem.length := fun h3 => h ⟨h1, h2, h3⟩
      simp [h3]
    · simp [h2]
  · simp [h1]
theorem rb_m2 {l : LV} {k : Nat} (hk : ¬ l.hd.kind = 1) (h : memB 0 (l.mem.take k) = false) : rightB l = false := by
  unfold rightB membersB
  rw [if_neg hk, memB_cut _ _ k h]
  simp
theorem rb_m3 {l : LV} (hh : okHead l.hd) (hk : ¬ l.hd.kind = 1) (h1 : 0 ≤ l.hd.id ∧ l.hd.id ≤ 63) (h2 : l.links.length = 0) (h3 : 0 < l.mem.length) (h : memB 0 l.mem = true) : rightB l = true := by
  unfold rightB membersB
  rw [if_neg hk, h]
  simp [hh, h1, h2, h3]
theorem all_next {α : Type} {l : List α} {k : Nat} {x : α} {p : α → Bool} (h : (l.take k).all p = true) (hx : l[k]? = some x) (hp : p x = true) : (l.take (k + 1)).all p = true := by
  rw [take_snoc l k x hx, List.all_append, h]; simp [hp]
theorem memB_at {l : List Int} {k : Nat} {x : Int} (hx : l[k]? = some x) : memB 0 (l.take (k + 1)) = (memB 0 (l.take k) && decide ((l.take k).getLastD 0 + 1 ≤ x ∧ x ≤ 15)) := by rw [take_snoc l k x hx, memB_snoc]
theorem memB_ge : ∀ (l : List Int) (a : Int), 0 ≤ a → memB a l = true → 0 ≤ l.getLastD a
  | [], a, h, _ => h
  | x :: l, a, h, hm => by
    rw [memB, Bool.and_eq_true, decide_eq_true_eq] at hm
    rw [List.getLastD_cons]
    exact memB_ge l x (by omega) hm.2
theorem memB_out {l : List Int} {k : Nat} {x : Int} (h : memB 0 (l.take k) = true) (hx : l[k]? = some x) (hn : ¬(1 ≤ x ∧ x ≤ 15)) : memB 0 (l.take (k + 1)) = false := by
  have := memB_ge _ 0 (Int.le_refl _) h
  rw [memB_at hx, decide_eq_false (by omega)]; simp
theorem memB_first {l : List Int} {k : Nat} {x : Int} (h0 : k = 0) (hx : l[k]? = some x) (h : 1 ≤ x ∧ x ≤ 15) : memB 0 (l.take (k + 1)) = true := by
  subst h0
  rw [memB_at hx]; simp [memB]; omega
theorem last_take {l : List Int} {k : Nat} {y : Int} (h0 : 0 < k) (hy : l[k - 1]? = some y) : (l.take k).getLastD 0 = y := by
  obtain ⟨m, rfl⟩ : ∃ m, k = m + 1 := ⟨k - 1, by omega⟩
  rw [take_snoc l m y (by simpa using hy)]
  simp
set_option maxRecDepth 100000 in
set_option maxHeartbeats 800000 in
theorem right04_any (l : LV) (p : LP) (W : World) (h1 : l.links.length ≤ 100000) (h2 : l.mem.length ≤ 100000) (hok : LOK W l p) :
    Calls Try.prog 25 #[.agg #[i6 l.hd.age, i6 l.hd.kind, i6 l.hd.id, i6 l.hd.adv, i6 l.hd.seq, i6 l.hd.sum, i6 l.hd.long, .slice p.A l.links.length p.c, .slice p.B l.mem.length p.d]] W (fun r w' => r = .returned (.bool (rightB l)) ∧ Below W.heap.size W w') := by
  have hS := S.start W
  refine calls_walk Try.func25 rfl fun R_ hR_ a hz hd hargs => ?_
  replace hz : a.tmps.size = 120 := hz.trans (by kernel_rfl)
  have s0 := hargs 0 _ rfl
  clear hargs
  refine wp_seq ?_
  refine seq_l [0] hz ?_
  refine ⟨fun a_ h_ => st_box (cells := #[i6 l.hd.age, i6 l.hd.kind, i6 l.hd.id, i6 l.hd.adv, i6 l.hd.seq, i6 l.hd.sum, i6 l.hd.long, .slice p.A l.links.length p.c, .slice p.B l.mem.length p.d]) hS (on_none rfl) rfl (h_.b 0 s0) (by kernel_rfl) fun g3 w3 hS3 hb3 => ⟨_, rfl, ?_⟩, trivial⟩
  clear h_ a_ hS
  clear hb3
  refine ⟨.bool false, fun _ h_ => rk (run_assign rfl rfl), ?_⟩
  intro a2 hput
  have s1 : sl a2 1 = pt g3 0 := hput.new 0 1 rfl
  have s2 : sl a2 2 = .bool false := hput.new 1 2 rfl
  replace hz := hput.size.trans hz
  replace hd := hput.defers.trans hd
  clear hput s0
  change Code.wp _ _ _ _ _
  refine wp_seq ?_
  refine wp_seq ?_
  refine seq_l [2] hz ?_
  refine ⟨pt g3 0, fun _ h_ => rk (fa 0 rfl (h_.b 1 s1)),
   .agg #[i6 l.hd.age, i6 l.hd.kind, i6 l.hd.id, i6 l.hd.adv, i6 l.hd.seq, i6 l.hd.sum, i6 l.hd.long], fun _ h_ => rk (lbS 7 (hS3.blk (i := 0) rfl) rfl (h_.d 0 6)), ?_⟩
  refine ⟨fun a_ h_ => st_call (on_none rfl) (run_call rfl (map1 (h_.d 1 7)) rfl) (head04_any l.hd _) ?_, trivial⟩
  rintro e w5 ⟨rfl, hb5⟩
  refine ⟨_, rfl, _, rfl, ?_⟩
  clear h_ a_
  have hS5 := hS3.below hb5
  clear hS3 hb5
  refine ⟨.bool (!(decide (okHead l.hd))), fun _ h_ => rk (run_not rfl (h_.d 2 8) rfl), ?_⟩
  intro a4 hput
  replace s1 := hput.o 1 s1
  replace s2 := hput.o 2 s2
  have s9 : sl a4 9 = .bool (!(decide (okHead l.hd))) := hput.new 3 9 rfl
  replace hz := hput.size.trans hz
  replace hd := hput.defers.trans hd
  clear hput
  change Code.wp _ _ _ _ _
  refine wp_cond_n s9 (fun hc9 => ?_) (fun hc9 => ?_)
  · clear s9
    refine wp_seq ?_
    refine seq_l [] hz ?_
    refine ⟨.bool false, fun _ h_ => rk (run_assign rfl rfl), ?_⟩
    intro a6 hput
    replace s1 := hput.o 1 s1
    replace s2 : sl a6 2 = .bool false := hput.new 0 2 rfl
    replace hz := hput.size.trans hz
    replace hd := hput.defers.trans hd
    clear hput
    change Code.wp _ _ _ _ _
    refine wp_ret ?_
    refine ret1 (P := Try.prog) (fn := Try.f25) hd s2 (hR_ _ _ ?_)
    exact ⟨by rw [rb_head hc9], (hS5.old (by simp))⟩
  · clear s9
    refine wp_skip ?_
    change Code.wp _ _ _ _ _
    refine wp_seq ?_
    refine wp_seq ?_
    refine seq_l [] hz ?_
    refine ⟨pt g3 0, fun _ h_ => rk (fa 0 rfl (h_.b 1 s1)),
     pt g3 1, fun _ h_ => rk (fa 1 rfl (h_.d 0 10)),
     i6 l.hd.kind, fun _ h_ => rk (ld hS5 0 rfl (h_.d 1 11)),
     .bool (decide ((l.hd.kind : Int) = 1)), fun _ h_ => rk (run_cmp rfl (h_.d 2 12) rfl rfl (by first | rfl | exact neq_dec _ _ | exact eq_dec _ _ | simp)), ?_⟩
    intro a7 hput
    replace s1 := hput.o 1 s1
    replace s2 := hput.o 2 s2
    have s13 : sl a7 13 = .bool (decide ((l.hd.kind : Int) = 1)) := hput.new 3 13 rfl
    replace hz := hput.size.trans hz
    replace hd := hput.defers.trans hd
    clear hput
    change Code.wp _ _ _ _ _
    refine wp_cond_d s13 (fun hc13 => ?_) (fun hc13 => ?_)
    · clear s13
      refine wp_seq ?_
      refine wp_seq ?_
      refine seq_l [] hz ?_
      refine ⟨pt g3 0, fun _ h_ => rk (fa 0 rfl (h_.b 1 s1)),
       pt g3 2, fun _ h_ => rk (fa 2 rfl (h_.d 0 14)),
       i6 l.hd.id, fun _ h_ => rk (ld hS5 0 rfl (h_.d 1 15)),
       pt g3 0, fun _ h_ => rk (fa 0 rfl (h_.b 1 s1)),
       pt g3 3, fun _ h_ => rk (fa 3 rfl (h_.d 3 17)),
       i6 l.hd.adv, fun _ h_ => rk (ld hS5 0 rfl (h_.d 4 18)),
       .bool (decide ((l.hd.id : Int) ≠ l.hd.adv)), fun _ h_ => rk (run_cmp rfl (h_.d 2 16) (h_.d 5 19) rfl (by first | rfl | exact neq_dec _ _ | exact eq_dec _ _ | simp)),
       .bool (decide ((l.hd.id : Int) ≠ l.hd.adv)), fun _ h_ => rmv (h_.d 6 20), ?_⟩
      rcases dt ((l.hd.id : Int) ≠ l.hd.adv) with ⟨he, hg7⟩ | ⟨he, hg7⟩
      · rw [he]
        clear he
        refine seq_off (j := 7) (d := 21) (b := false) [8, 9, 10, 11] _ (by kernel_rfl) (.inl rfl) ?_
        refine ⟨.bool true, fun _ h_ => rk (run_pick_t rfl (h_.d 7 21) rfl),
         .bool true, fun _ h_ => rmv (h_.d 12 26), ?_⟩
        refine seq_off (j := 13) (d := 27) (b := false) [14, 15, 16, 17] _ (by kernel_rfl) (.inl rfl) ?_
        refine ⟨.bool true, fun _ h_ => rk (run_pick_t rfl (h_.d 13 27) rfl), ?_⟩
        intro a8 hput
        replace s1 := hput.o 1 s1
        replace s2 := hput.o 2 s2
        have s32 : sl a8 32 = .bool true := hput.new 18 32 rfl
        replace hz := hput.size.trans hz
        replace hd := hput.defers.trans hd
        clear hput
        change Code.wp _ _ _ _ _
        refine wp_cond_true s32 ?_
        refine wp_seq ?_
        refine seq_l [] hz ?_
        refine ⟨.bool false, fun _ h_ => rk (run_assign rfl rfl), ?_⟩
        intro a9 hput
        replace s1 := hput.o 1 s1
        replace s2 : sl a9 2 = .bool false := hput.new 0 2 rfl
        replace hz := hput.size.trans hz
        replace hd := hput.defers.trans hd
        clear hput s32
        change Code.wp _ _ _ _ _
        refine wp_ret ?_
        refine ret1 (P := Try.prog) (fn := Try.f25) hd s2 (hR_ _ _ ?_)
        exact ⟨by rw [rb_r1 hc13 (by omega)], (hS5.old (by simp))⟩
      · rw [he]
        clear he
        refine ⟨pt g3 8, fun _ h_ => r_ok (h_.on 7 21) (fa 8 rfl (h_.b 1 s1)),
         .slice p.B l.mem.length p.d, fun _ h_ => r_ok (h_.on 7 21) (ld hS5 0 rfl (h_.d 8 22)),
         i6 l.mem.length, fun _ h_ => r_ok (h_.on 7 21) (run_lenS rfl (h_.d 9 23) (by kernel_rfl)),
         .bool (decide ((0 : Int) < l.mem.length)), fun _ h_ => r_ok (h_.on 7 21) (run_cmp rfl (h_.d 10 24) rfl rfl (by first | rfl | exact neq_dec _ _ | exact eq_dec _ _ | simp)),
         .bool (decide ((0 : Int) < l.mem.length)), fun _ h_ => rk (run_pick_f rfl (h_.d 7 21) (h_.d 11 25)),
         .bool (decide ((0 : Int) < l.mem.length)), fun _ h_ => rmv (h_.d 12 26), ?_⟩
        rcases dt ((0 : Int) < l.mem.length) with ⟨he, hg13⟩ | ⟨he, hg13⟩
        · rw [he]
          clear he
          refine seq_off (j := 13) (d := 27) (b := false) [14, 15, 16, 17] _ (by kernel_rfl) (.inl rfl) ?_
          refine ⟨.bool true, fun _ h_ => rk (run_pick_t rfl (h_.d 13 27) rfl), ?_⟩
          intro a8 hput
          replace s1 := hput.o 1 s1
          replace s2 := hput.o 2 s2
          have s32 : sl a8 32 = .bool true := hput.new 18 32 rfl
          replace hz := hput.size.trans hz
          replace hd := hput.defers.trans hd
          clear hput
          change Code.wp _ _ _ _ _
          refine wp_cond_true s32 ?_
          refine wp_seq ?_
          refine seq_l [] hz ?_
          refine ⟨.bool false, fun _ h_ => rk (run_assign rfl rfl), ?_⟩
          intro a10 hput
          replace s1 := hput.o 1 s1
          replace s2 : sl a10 2 = .bool false := hput.new 0 2 rfl
          replace hz := hput.size.trans hz
          replace hd := hput.defers.trans hd
          clear hput s32
          change Code.wp _ _ _ _ _
          refine wp_ret ?_
          refine ret1 (P := Try.prog) (fn := Try.f25) hd s2 (hR_ _ _ ?_)
          exact ⟨by rw [rb_r1 hc13 (by omega)], (hS5.old (by simp))⟩
        · rw [he]
          clear he
          refine ⟨pt g3 7, fun _ h_ => r_ok (h_.on 13 27) (fa 7 rfl (h_.b 1 s1)),
           .slice p.A l.links.length p.c, fun _ h_ => r_ok (h_.on 13 27) (ld hS5 0 rfl (h_.d 14 28)),
           i6 l.links.length, fun _ h_ => r_ok (h_.on 13 27) (run_lenS rfl (h_.d 15 29) (by kernel_rfl)),
           .bool (decide ((4 : Int) < l.links.length)), fun _ h_ => r_ok (h_.on 13 27) (run_cmp rfl (h_.d 16 30) rfl rfl (by first | rfl | exact neq_dec _ _ | exact eq_dec _ _ | simp)),
           .bool (decide ((4 : Int) < l.links.length)), fun _ h_ => rk (run_pick_f rfl (h_.d 13 27) (h_.d 17 31)), ?_⟩
          intro a8 hput
          replace s1 := hput.o 1 s1
          replace s2 := hput.o 2 s2
          have s32 : sl a8 32 = .bool (decide ((4 : Int) < l.links.length)) := hput.new 18 32 rfl
          replace hz := hput.size.trans hz
          replace hd := hput.defers.trans hd
          clear hput
          change Code.wp _ _ _ _ _
          refine wp_cond_d s32 (fun hc32 => ?_) (fun hc32 => ?_)
          · clear s32
            refine wp_seq ?_
            refine seq_l [] hz ?_
            refine ⟨.bool false, fun _ h_ => rk (run_assign rfl rfl), ?_⟩
            intro a11 hput
            replace s1 := hput.o 1 s1
            replace s2 : sl a11 2 = .bool false := hput.new 0 2 rfl
            replace hz := hput.size.trans hz
            replace hd := hput.defers.trans hd
            clear hput
            change Code.wp _ _ _ _ _
            refine wp_ret ?_
            refine ret1 (P := Try.prog) (fn := Try.f25) hd s2 (hR_ _ _ ?_)
            exact ⟨by rw [rb_r1 hc13 (by omega)], (hS5.old (by simp))⟩
          · clear s32
            refine wp_skip ?_
            change Code.wp _ _ _ _ _
            refine wp_seq ?_
            refine wp_seq ?_
            refine seq_l [] hz ?_
            refine ⟨i6 0, fun _ h_ => rk (run_assign rfl rfl), ?_⟩
            intro a12 hput
            replace s1 := hput.o 1 s1
            replace s2 := hput.o 2 s2
            have s3 : sl a12 3 = i6 0 := hput.new 0 3 rfl
            replace hz := hput.size.trans hz
            replace hd := hput.defers.trans hd
            clear hput
            change Code.wp _ _ _ _ _
            refine wp_block ?_
            refine wp_loop (fun a_ w_ => ∃ k : Nat, (k ≤ l.links.length) ∧ ((l.links.take k).all (fun x => decide (okLink x)) = true) ∧ a_.tmps.size = 120 ∧ a_.defers = [] ∧ sl a_ 1 = pt g3 0 ∧ sl a_ 2 = .bool false ∧ sl a_ 3 = i6 k ∧ S (kap W) ((blkA g3 37 #[i6 l.hd.age, i6 l.hd.kind, i6 l.hd.id, i6 l.hd.adv, i6 l.hd.seq, i6 l.hd.sum, i6 l.hd.long, .slice p.A l.links.length p.c, .slice p.B l.mem.length p.d]) :: []) ((memA W W.heap.size) :: []) w_) (fun a_ _ => l.links.length - (intOf (sl a_ 3)).toNat) ?_ ?_
            · exact ⟨0, Nat.zero_le _, rfl, hz, hd, s1, s2, s3, hS5⟩
            · clear hz hd s1 s2 s3 hS5
              rintro a13 w13 ⟨k, hc0_0, hc0_1, hz, hd, s1, s2, s3, hS13⟩
              have hmu0 := s3
              refine wp_seq ?_
              refine wp_seq ?_
              refine seq_l [] hz ?_
              refine ⟨i6 k, fun _ h_ => rmv (h_.b 3 s3),
               pt g3 7, fun _ h_ => rk (fa 7 rfl (h_.b 1 s1)),
               .slice p.A l.links.length p.c, fun _ h_ => rk (ld hS13 0 rfl (h_.d 1 34)),
               i6 l.links.length, fun _ h_ => rk (run_lenS rfl (h_.d 2 35) (by kernel_rfl)),
               .bool (decide ((k : Int) < l.links.length)), fun _ h_ => rk (run_cmp rfl (h_.d 0 33) (h_.d 3 36) rfl (by first | rfl | exact neq_dec _ _ | exact eq_dec _ _ | simp)), ?_⟩
              intro a14 hput
              replace s1 := hput.o 1 s1
              replace s2 := hput.o 2 s2
              replace s3 := hput.o 3 s3
              have s33 : sl a14 33 = i6 k := hput.new 0 33 rfl
              have s34 : sl a14 34 = pt g3 7 := hput.new 1 34 rfl
              have s35 : sl a14 35 = .slice p.A l.links.length p.c := hput.new 2 35 rfl
              have s36 : sl a14 36 = i6 l.links.length := hput.new 3 36 rfl
              have s37 : sl a14 37 = .bool (decide ((k : Int) < l.links.length)) := hput.new 4 37 rfl
              replace hz := hput.size.trans hz
              replace hd := hput.defers.trans hd
              clear hput
              change Code.wp _ _ _ _ _
              refine wp_cond_d s37 (fun hc37 => ?_) (fun hc37 => ?_)
              · clear s37
                refine wp_skip ?_
                change Code.wp _ _ _ _ _
                refine wp_seq ?_
                refine wp_block ?_
                refine wp_seq ?_
                refine seq_l [5, 6] hz ?_
                refine ⟨pt g3 7, fun _ h_ => rk (fa 7 rfl (h_.b 1 s1)),
                 .slice p.A l.links.length p.c, fun _ h_ => rk (ld hS13 0 rfl (h_.d 0 40)),
                 i6 k, fun _ h_ => rmv (h_.b 3 s3), ?_⟩
                obtain ⟨b16, o16, z16, hA16, hb16, hz16, hq16⟩ := Reads.row_at Lk.cells 4 Lk.cells_len (k := k) (hok.links.old (hS13.old (by simp))) (by decide) (by omega)
                refine ⟨pt b16 (o16 + k * 4), fun _ h_ => rk (run_indexV (size := 4) rfl (h_.d 1 41) hA16 (h_.d 2 42) (by kernel_rfl) (by omega) (by simp)),
                 .agg #[i6 z16.kind, i6 z16.id, i6 z16.data, i6 z16.cost], fun _ h_ => rk (run_loadV (size := 4) (cs := Lk.cells z16) rfl (h_.d 3 43) (by kernel_rfl) rfl hq16), ?_⟩
                refine ⟨fun a_ h_ => st_alloc (cells := #[i6 0, i6 0, i6 0, i6 0]) hS13 (on_none rfl) rfl (by kernel_rfl) fun g17 w17 hS17 hb17 => ⟨_, rfl, ?_⟩, trivial⟩
                clear h_ a_ hS13
                clear hb17
                refine ⟨fun a_ h_ => st_store (n := 4) (cells := #[i6 z16.kind, i6 z16.id, i6 z16.data, i6 z16.cost]) (cs' := #[i6 z16.kind, i6 z16.id, i6 z16.data, i6 z16.cost]) 0 hS17 rfl (on_none rfl) rfl (h_.d 5 4) (h_.d 4 44) rfl (by kernel_rfl) ⟨Nat.le_of_ble_eq_true rfl, rfl, by kernel_rfl⟩ rfl fun w18 hS18 he18 => ⟨_, rfl, ?_⟩, trivial⟩
                clear h_ a_ he18 hS17
                replace hS18 : S (kap W) ((blkA g17 117 #[i6 z16.kind, i6 z16.id, i6 z16.data, i6 z16.cost]) :: (blkA g3 37 #[i6 l.hd.age, i6 l.hd.kind, i6 l.hd.id, i6 l.hd.adv, i6 l.hd.seq, i6 l.hd.sum, i6 l.hd.long, .slice p.A l.links.length p.c, .slice p.B l.mem.length p.d]) :: []) ((memA W W.heap.size) :: []) w18 := hS18
                intro a15 hput
                replace s1 := hput.o 1 s1
                replace s2 := hput.o 2 s2
                replace s3 := hput.o 3 s3
                have s4 : sl a15 4 = pt g17 0 := hput.new 5 4 rfl
                replace s33 := hput.o 33 s33
                replace s34 := hput.o 34 s34
                replace s35 := hput.o 35 s35
                replace s36 := hput.o 36 s36
                have s40 : sl a15 40 = pt g3 7 := hput.new 0 40 rfl
                have s41 : sl a15 41 = .slice p.A l.links.length p.c := hput.new 1 41 rfl
                have s42 : sl a15 42 = i6 k := hput.new 2 42 rfl
                have s43 : sl a15 43 = pt b16 (o16 + k * 4) := hput.new 3 43 rfl
                have s44 : sl a15 44 = .agg #[i6 z16.kind, i6 z16.id, i6 z16.data, i6 z16.cost] := hput.new 4 44 rfl
                replace hz := hput.size.trans hz
                replace hd := hput.defers.trans hd
                clear hput
                change Code.wp _ _ _ _ _
                refine wp_seq ?_
                refine seq_l [11, 17, 23] hz ?_
                refine ⟨pt g17 0, fun _ h_ => rk (fa 0 rfl (h_.b 4 s4)),
                 i6 z16.kind, fun _ h_ => rk (ld hS18 0 rfl (h_.d 0 45)),
                 .bool (decide ((z16.kind : Int) ≠ 2)), fun _ h_ => rk (run_cmp rfl (h_.d 1 46) rfl rfl (by first | rfl | exact neq_dec _ _ | exact eq_dec _ _ | simp)),
                 .bool (decide ((z16.kind : Int) ≠ 2)), fun _ h_ => rmv (h_.d 2 47), ?_⟩
                rcases dt ((z16.kind : Int) ≠ 2) with ⟨he, hg3⟩ | ⟨he, hg3⟩
                · rw [he]
                  clear he
                  refine ⟨pt g17 0, fun _ h_ => r_ok (h_.on 3 48) (fa 0 rfl (h_.b 4 s4)),
                   i6 z16.kind, fun _ h_ => r_ok (h_.on 3 48) (ld hS18 0 rfl (h_.d 4 49)),
                   .bool (decide ((z16.kind : Int) ≠ 3)), fun _ h_ => r_ok (h_.on 3 48) (run_cmp rfl (h_.d 5 50) rfl rfl (by first | rfl | exact neq_dec _ _ | exact eq_dec _ _ | simp)),
                   .bool (decide ((z16.kind : Int) ≠ 3)), fun _ h_ => rk (run_pick_t rfl (h_.d 3 48) (h_.d 6 51)),
                   .bool (decide ((z16.kind : Int) ≠ 3)), fun _ h_ => rmv (h_.d 7 52), ?_⟩
                  rcases dt ((z16.kind : Int) ≠ 3) with ⟨he, hg8⟩ | ⟨he, hg8⟩
                  · rw [he]
                    clear he
                    refine seq_off (j := 8) (d := 53) (b := false) [9, 10] _ (by kernel_rfl) (.inl rfl) ?_
                    refine seq_offe (j := 8) (d := 53) (b := false) (by kernel_rfl) (.inl rfl) ?_
                    refine seq_off (j := 8) (d := 53) (b := false) [12] _ (by kernel_rfl) (.inl rfl) ?_
                    refine ⟨.bool true, fun _ h_ => rk (run_pick_t rfl (h_.d 8 53) rfl),
                     .bool true, fun _ h_ => rmv (h_.d 13 58), ?_⟩
                    refine seq_off (j := 14) (d := 59) (b := false) [15, 16] _ (by kernel_rfl) (.inl rfl) ?_
                    refine seq_offe (j := 14) (d := 59) (b := false) (by kernel_rfl) (.inl rfl) ?_
                    refine seq_off (j := 14) (d := 59) (b := false) [18] _ (by kernel_rfl) (.inl rfl) ?_
                    refine ⟨.bool true, fun _ h_ => rk (run_pick_t rfl (h_.d 14 59) rfl),
                     .bool true, fun _ h_ => rmv (h_.d 19 64), ?_⟩
                    refine seq_off (j := 20) (d := 65) (b := false) [21, 22] _ (by kernel_rfl) (.inl rfl) ?_
                    refine seq_offe (j := 20) (d := 65) (b := false) (by kernel_rfl) (.inl rfl) ?_
                    refine seq_off (j := 20) (d := 65) (b := false) [24] _ (by kernel_rfl) (.inl rfl) ?_
                    refine ⟨.bool true, fun _ h_ => rk (run_pick_t rfl (h_.d 20 65) rfl), ?_⟩
                    intro a19 hput
                    replace s1 := hput.o 1 s1
                    replace s2 := hput.o 2 s2
                    replace s3 := hput.o 3 s3
                    replace s4 := hput.o 4 s4
                    replace s33 := hput.o 33 s33
                    replace s34 := hput.o 34 s34
                    replace s35 := hput.o 35 s35
                    replace s36 := hput.o 36 s36
                    replace s40 := hput.o 40 s40
                    replace s41 := hput.o 41 s41
                    replace s42 := hput.o 42 s42
                    replace s43 := hput.o 43 s43
                    replace s44 := hput.o 44 s44
                    have s45 : sl a19 45 = pt g17 0 := hput.new 0 45 rfl
                    have s46 : sl a19 46 = i6 z16.kind := hput.new 1 46 rfl
                    have s47 : sl a19 47 = .bool true := hput.new 2 47 rfl
                    have s48 : sl a19 48 = .bool true := hput.new 3 48 rfl
                    have s49 : sl a19 49 = pt g17 0 := hput.new 4 49 rfl
                    have s50 : sl a19 50 = i6 z16.kind := hput.new 5 50 rfl
                    have s51 : sl a19 51 = .bool true := hput.new 6 51 rfl
                    have s52 : sl a19 52 = .bool true := hput.new 7 52 rfl
                    have s53 : sl a19 53 = .bool true := hput.new 8 53 rfl
                    have s58 : sl a19 58 = .bool true := hput.new 13 58 rfl
                    have s59 : sl a19 59 = .bool true := hput.new 14 59 rfl
                    have s64 : sl a19 64 = .bool true := hput.new 19 64 rfl
                    have s65 : sl a19 65 = .bool true := hput.new 20 65 rfl
                    have s70 : sl a19 70 = .bool true := hput.new 25 70 rfl
                    replace hz := hput.size.trans hz
                    replace hd := hput.defers.trans hd
                    clear hput
                    change Code.wp _ _ _ _ _
                    refine wp_cond_true s70 ?_
                    refine wp_seq ?_
                    refine seq_l [] hz ?_
                    refine ⟨.bool false, fun _ h_ => rk (run_assign rfl rfl), ?_⟩
                    intro a20 hput
                    replace s1 := hput.o 1 s1
                    replace s2 : sl a20 2 = .bool false := hput.new 0 2 rfl
                    replace s3 := hput.o 3 s3
                    replace s4 := hput.o 4 s4
                    replace s33 := hput.o 33 s33
                    replace s34 := hput.o 34 s34
                    replace s35 := hput.o 35 s35
                    replace s36 := hput.o 36 s36
                    replace s40 := hput.o 40 s40
                    replace s41 := hput.o 41 s41
                    replace s42 := hput.o 42 s42
                    replace s43 := hput.o 43 s43
                    replace s44 := hput.o 44 s44
                    replace s45 := hput.o 45 s45
                    replace s46 := hput.o 46 s46
                    replace s47 := hput.o 47 s47
                    replace s48 := hput.o 48 s48
                    replace s49 := hput.o 49 s49
                    replace s50 := hput.o 50 s50
                    replace s51 := hput.o 51 s51
                    replace s52 := hput.o 52 s52
                    replace s53 := hput.o 53 s53
                    replace s58 := hput.o 58 s58
                    replace s59 := hput.o 59 s59
                    replace s64 := hput.o 64 s64
                    replace s65 := hput.o 65 s65
                    replace s70 := hput.o 70 s70
                    replace hz := hput.size.trans hz
                    replace hd := hput.defers.trans hd
                    clear hput
                    change Code.wp _ _ _ _ _
                    refine wp_ret ?_
                    refine ret1 (P := Try.prog) (fn := Try.f25) hd s2 (hR_ _ _ ?_)
                    exact ⟨by rw [rb_r2 hc13 hz16 (by unfold okLink; omega)], (hS18.old (by simp))⟩
                  · rw [he]
                    clear he
                    refine ⟨pt g17 1, fun _ h_ => r_ok (h_.on 8 53) (fa 1 rfl (h_.b 4 s4)),
                     i6 z16.id, fun _ h_ => r_ok (h_.on 8 53) (ld hS18 0 rfl (h_.d 9 54)), ?_⟩
                    refine ⟨fun a_ h_ => st_call (h_.on 8 53) (run_call rfl (map3 (h_.d 10 55) rfl rfl) rfl) (in04_any _ _ _ _) ?_, trivial⟩
                    rintro e w21 ⟨rfl, hb21⟩
                    refine ⟨_, rfl, _, rfl, ?_⟩
                    clear h_ a_
                    have hS21 := hS18.below hb21
                    clear hS18 hb21
                    refine ⟨.bool (!(decide ((0 : Int) ≤ z16.id ∧ z16.id ≤ 63))), fun _ h_ => r_ok (h_.on 8 53) (run_not rfl (h_.d 11 56) rfl),
                     .bool (!(decide ((0 : Int) ≤ z16.id ∧ z16.id ≤ 63))), fun _ h_ => rk (run_pick_f rfl (h_.d 8 53) (h_.d 12 57)),
                     .bool (!(decide ((0 : Int) ≤ z16.id ∧ z16.id ≤ 63))), fun _ h_ => rmv (h_.d 13 58), ?_⟩
                    rcases nt ((0 : Int) ≤ z16.id ∧ z16.id ≤ 63) with ⟨he, hg14⟩ | ⟨he, hg14⟩
                    · rw [he]
                      clear he
                      refine seq_off (j := 14) (d := 59) (b := false) [15, 16] _ (by kernel_rfl) (.inl rfl) ?_
                      refine seq_offe (j := 14) (d := 59) (b := false) (by kernel_rfl) (.inl rfl) ?_
                      refine seq_off (j := 14) (d := 59) (b := false) [18] _ (by kernel_rfl) (.inl rfl) ?_
                      refine ⟨.bool true, fun _ h_ => rk (run_pick_t rfl (h_.d 14 59) rfl),
                       .bool true, fun _ h_ => rmv (h_.d 19 64), ?_⟩
                      refine seq_off (j := 20) (d := 65) (b := false) [21, 22] _ (by kernel_rfl) (.inl rfl) ?_
                      refine seq_offe (j := 20) (d := 65) (b := false) (by kernel_rfl) (.inl rfl) ?_
                      refine seq_off (j := 20) (d := 65) (b := false) [24] _ (by kernel_rfl) (.inl rfl) ?_
                      refine ⟨.bool true, fun _ h_ => rk (run_pick_t rfl (h_.d 20 65) rfl), ?_⟩
                      intro a19 hput
                      replace s1 := hput.o 1 s1
                      replace s2 := hput.o 2 s2
                      replace s3 := hput.o 3 s3
                      replace s4 := hput.o 4 s4
                      replace s33 := hput.o 33 s33
                      replace s34 := hput.o 34 s34
                      replace s35 := hput.o 35 s35
                      replace s36 := hput.o 36 s36
                      replace s40 := hput.o 40 s40
                      replace s41 := hput.o 41 s41
                      replace s42 := hput.o 42 s42
                      replace s43 := hput.o 43 s43
                      replace s44 := hput.o 44 s44
                      have s45 : sl a19 45 = pt g17 0 := hput.new 0 45 rfl
                      have s46 : sl a19 46 = i6 z16.kind := hput.new 1 46 rfl
                      have s47 : sl a19 47 = .bool true := hput.new 2 47 rfl
                      have s48 : sl a19 48 = .bool true := hput.new 3 48 rfl
                      have s49 : sl a19 49 = pt g17 0 := hput.new 4 49 rfl
                      have s50 : sl a19 50 = i6 z16.kind := hput.new 5 50 rfl
                      have s51 : sl a19 51 = .bool false := hput.new 6 51 rfl
                      have s52 : sl a19 52 = .bool false := hput.new 7 52 rfl
                      have s53 : sl a19 53 = .bool false := hput.new 8 53 rfl
                      have s54 : sl a19 54 = pt g17 1 := hput.new 9 54 rfl
                      have s55 : sl a19 55 = i6 z16.id := hput.new 10 55 rfl
                      have s56 : sl a19 56 = .bool (decide ((0 : Int) ≤ z16.id ∧ z16.id ≤ 63)) := hput.new 11 56 rfl
                      have s57 : sl a19 57 = .bool true := hput.new 12 57 rfl
                      have s58 : sl a19 58 = .bool true := hput.new 13 58 rfl
                      have s59 : sl a19 59 = .bool true := hput.new 14 59 rfl
                      have s64 : sl a19 64 = .bool true := hput.new 19 64 rfl
                      have s65 : sl a19 65 = .bool true := hput.new 20 65 rfl
                      have s70 : sl a19 70 = .bool true := hput.new 25 70 rfl
                      replace hz := hput.size.trans hz
                      replace hd := hput.defers.trans hd
                      clear hput
                      change Code.wp _ _ _ _ _
                      refine wp_cond_true s70 ?_
                      refine wp_seq ?_
                      refine seq_l [] hz ?_
                      refine ⟨.bool false, fun _ h_ => rk (run_assign rfl rfl), ?_⟩
                      intro a22 hput
                      replace s1 := hput.o 1 s1
                      replace s2 : sl a22 2 = .bool false := hput.new 0 2 rfl
                      replace s3 := hput.o 3 s3
                      replace s4 := hput.o 4 s4
                      replace s33 := hput.o 33 s33
                      replace s34 := hput.o 34 s34
                      replace s35 := hput.o 35 s35
                      replace s36 := hput.o 36 s36
                      replace s40 := hput.o 40 s40
                      replace s41 := hput.o 41 s41
                      replace s42 := hput.o 42 s42
                      replace s43 := hput.o 43 s43
                      replace s44 := hput.o 44 s44
                      replace s45 := hput.o 45 s45
                      replace s46 := hput.o 46 s46
                      replace s47 := hput.o 47 s47
                      replace s48 := hput.o 48 s48
                      replace s49 := hput.o 49 s49
                      replace s50 := hput.o 50 s50
                      replace s51 := hput.o 51 s51
                      replace s52 := hput.o 52 s52
                      replace s53 := hput.o 53 s53
                      replace s54 := hput.o 54 s54
                      replace s55 := hput.o 55 s55
                      replace s56 := hput.o 56 s56
                      replace s57 := hput.o 57 s57
                      replace s58 := hput.o 58 s58
                      replace s59 := hput.o 59 s59
                      replace s64 := hput.o 64 s64
                      replace s65 := hput.o 65 s65
                      replace s70 := hput.o 70 s70
                      replace hz := hput.size.trans hz
                      replace hd := hput.defers.trans hd
                      clear hput
                      change Code.wp _ _ _ _ _
                      refine wp_ret ?_
                      refine ret1 (P := Try.prog) (fn := Try.f25) hd s2 (hR_ _ _ ?_)
                      exact ⟨by rw [rb_r2 hc13 hz16 (by unfold okLink; omega)], (hS21.old (by simp))⟩
                    · rw [he]
                      clear he
                      refine ⟨pt g17 2, fun _ h_ => r_ok (h_.on 14 59) (fa 2 rfl (h_.b 4 s4)),
                       i6 z16.data, fun _ h_ => r_ok (h_.on 14 59) (ld hS21 0 rfl (h_.d 15 60)), ?_⟩
                      refine ⟨fun a_ h_ => st_call (h_.on 14 59) (run_call rfl (map3 (h_.d 16 61) rfl rfl) rfl) (in04_any _ _ _ _) ?_, trivial⟩
                      rintro e w23 ⟨rfl, hb23⟩
                      refine ⟨_, rfl, _, rfl, ?_⟩
                      clear h_ a_
                      have hS23 := hS21.below hb23
                      clear hS21 hb23
                      refine ⟨.bool (!(decide ((0 : Int) ≤ z16.data ∧ z16.data ≤ 63))), fun _ h_ => r_ok (h_.on 14 59) (run_not rfl (h_.d 17 62) rfl),
                       .bool (!(decide ((0 : Int) ≤ z16.data ∧ z16.data ≤ 63))), fun _ h_ => rk (run_pick_f rfl (h_.d 14 59) (h_.d 18 63)),
                       .bool (!(decide ((0 : Int) ≤ z16.data ∧ z16.data ≤ 63))), fun _ h_ => rmv (h_.d 19 64), ?_⟩
                      rcases nt ((0 : Int) ≤ z16.data ∧ z16.data ≤ 63) with ⟨he, hg20⟩ | ⟨he, hg20⟩
                      · rw [he]
                        clear he
                        refine seq_off (j := 20) (d := 65) (b := false) [21, 22] _ (by kernel_rfl) (.inl rfl) ?_
                        refine seq_offe (j := 20) (d := 65) (b := false) (by kernel_rfl) (.inl rfl) ?_
                        refine seq_off (j := 20) (d := 65) (b := false) [24] _ (by kernel_rfl) (.inl rfl) ?_
                        refine ⟨.bool true, fun _ h_ => rk (run_pick_t rfl (h_.d 20 65) rfl), ?_⟩
                        intro a19 hput
                        replace s1 := hput.o 1 s1
                        replace s2 := hput.o 2 s2
                        replace s3 := hput.o 3 s3
                        replace s4 := hput.o 4 s4
                        replace s33 := hput.o 33 s33
                        replace s34 := hput.o 34 s34
                        replace s35 := hput.o 35 s35
                        replace s36 := hput.o 36 s36
                        replace s40 := hput.o 40 s40
                        replace s41 := hput.o 41 s41
                        replace s42 := hput.o 42 s42
                        replace s43 := hput.o 43 s43
                        replace s44 := hput.o 44 s44
                        have s45 : sl a19 45 = pt g17 0 := hput.new 0 45 rfl
                        have s46 : sl a19 46 = i6 z16.kind := hput.new 1 46 rfl
                        have s47 : sl a19 47 = .bool true := hput.new 2 47 rfl
                        have s48 : sl a19 48 = .bool true := hput.new 3 48 rfl
                        have s49 : sl a19 49 = pt g17 0 := hput.new 4 49 rfl
                        have s50 : sl a19 50 = i6 z16.kind := hput.new 5 50 rfl
                        have s51 : sl a19 51 = .bool false := hput.new 6 51 rfl
                        have s52 : sl a19 52 = .bool false := hput.new 7 52 rfl
                        have s53 : sl a19 53 = .bool false := hput.new 8 53 rfl
                        have s54 : sl a19 54 = pt g17 1 := hput.new 9 54 rfl
                        have s55 : sl a19 55 = i6 z16.id := hput.new 10 55 rfl
                        have s56 : sl a19 56 = .bool (decide ((0 : Int) ≤ z16.id ∧ z16.id ≤ 63)) := hput.new 11 56 rfl
                        have s57 : sl a19 57 = .bool false := hput.new 12 57 rfl
                        have s58 : sl a19 58 = .bool false := hput.new 13 58 rfl
                        have s59 : sl a19 59 = .bool false := hput.new 14 59 rfl
                        have s60 : sl a19 60 = pt g17 2 := hput.new 15 60 rfl
                        have s61 : sl a19 61 = i6 z16.data := hput.new 16 61 rfl
                        have s62 : sl a19 62 = .bool (decide ((0 : Int) ≤ z16.data ∧ z16.data ≤ 63)) := hput.new 17 62 rfl
                        have s63 : sl a19 63 = .bool true := hput.new 18 63 rfl
                        have s64 : sl a19 64 = .bool true := hput.new 19 64 rfl
                        have s65 : sl a19 65 = .bool true := hput.new 20 65 rfl
                        have s70 : sl a19 70 = .bool true := hput.new 25 70 rfl
                        replace hz := hput.size.trans hz
                        replace hd := hput.defers.trans hd
                        clear hput
                        change Code.wp _ _ _ _ _
                        refine wp_cond_true s70 ?_
                        refine wp_seq ?_
                        refine seq_l [] hz ?_
                        refine ⟨.bool false, fun _ h_ => rk (run_assign rfl rfl), ?_⟩
                        intro a24 hput
                        replace s1 := hput.o 1 s1
                        replace s2 : sl a24 2 = .bool false := hput.new 0 2 rfl
                        replace s3 := hput.o 3 s3
                        replace s4 := hput.o 4 s4
                        replace s33 := hput.o 33 s33
                        replace s34 := hput.o 34 s34
                        replace s35 := hput.o 35 s35
                        replace s36 := hput.o 36 s36
                        replace s40 := hput.o 40 s40
                        replace s41 := hput.o 41 s41
                        replace s42 := hput.o 42 s42
                        replace s43 := hput.o 43 s43
                        replace s44 := hput.o 44 s44
                        replace s45 := hput.o 45 s45
                        replace s46 := hput.o 46 s46
                        replace s47 := hput.o 47 s47
                        replace s48 := hput.o 48 s48
                        replace s49 := hput.o 49 s49
                        replace s50 := hput.o 50 s50
                        replace s51 := hput.o 51 s51
                        replace s52 := hput.o 52 s52
                        replace s53 := hput.o 53 s53
                        replace s54 := hput.o 54 s54
                        replace s55 := hput.o 55 s55
                        replace s56 := hput.o 56 s56
                        replace s57 := hput.o 57 s57
                        replace s58 := hput.o 58 s58
                        replace s59 := hput.o 59 s59
                        replace s60 := hput.o 60 s60
                        replace s61 := hput.o 61 s61
                        replace s62 := hput.o 62 s62
                        replace s63 := hput.o 63 s63
                        replace s64 := hput.o 64 s64
                        replace s65 := hput.o 65 s65
                        replace s70 := hput.o 70 s70
                        replace hz := hput.size.trans hz
                        replace hd := hput.defers.trans hd
                        clear hput
                        change Code.wp _ _ _ _ _
                        refine wp_ret ?_
                        refine ret1 (P := Try.prog) (fn := Try.f25) hd s2 (hR_ _ _ ?_)
                        exact ⟨by rw [rb_r2 hc13 hz16 (by unfold okLink; omega)], (hS23.old (by simp))⟩
                      · rw [he]
                        clear he
                        refine ⟨pt g17 3, fun _ h_ => r_ok (h_.on 20 65) (fa 3 rfl (h_.b 4 s4)),
                         i6 z16.cost, fun _ h_ => r_ok (h_.on 20 65) (ld hS23 0 rfl (h_.d 21 66)), ?_⟩
                        refine ⟨fun a_ h_ => st_call (h_.on 20 65) (run_call rfl (map3 (h_.d 22 67) rfl rfl) rfl) (in04_any _ _ _ _) ?_, trivial⟩
                        rintro e w25 ⟨rfl, hb25⟩
                        refine ⟨_, rfl, _, rfl, ?_⟩
                        clear h_ a_
                        have hS25 := hS23.below hb25
                        clear hS23 hb25
                        refine ⟨.bool (!(decide ((1 : Int) ≤ z16.cost ∧ z16.cost ≤ 100))), fun _ h_ => r_ok (h_.on 20 65) (run_not rfl (h_.d 23 68) rfl),
                         .bool (!(decide ((1 : Int) ≤ z16.cost ∧ z16.cost ≤ 100))), fun _ h_ => rk (run_pick_f rfl (h_.d 20 65) (h_.d 24 69)), ?_⟩
                        intro a19 hput
                        replace s1 := hput.o 1 s1
                        replace s2 := hput.o 2 s2
                        replace s3 := hput.o 3 s3
                        replace s4 := hput.o 4 s4
                        replace s33 := hput.o 33 s33
                        replace s34 := hput.o 34 s34
                        replace s35 := hput.o 35 s35
                        replace s36 := hput.o 36 s36
                        replace s40 := hput.o 40 s40
                        replace s41 := hput.o 41 s41
                        replace s42 := hput.o 42 s42
                        replace s43 := hput.o 43 s43
                        replace s44 := hput.o 44 s44
                        have s45 : sl a19 45 = pt g17 0 := hput.new 0 45 rfl
                        have s46 : sl a19 46 = i6 z16.kind := hput.new 1 46 rfl
                        have s47 : sl a19 47 = .bool true := hput.new 2 47 rfl
                        have s48 : sl a19 48 = .bool true := hput.new 3 48 rfl
                        have s49 : sl a19 49 = pt g17 0 := hput.new 4 49 rfl
                        have s50 : sl a19 50 = i6 z16.kind := hput.new 5 50 rfl
                        have s51 : sl a19 51 = .bool false := hput.new 6 51 rfl
                        have s52 : sl a19 52 = .bool false := hput.new 7 52 rfl
                        have s53 : sl a19 53 = .bool false := hput.new 8 53 rfl
                        have s54 : sl a19 54 = pt g17 1 := hput.new 9 54 rfl
                        have s55 : sl a19 55 = i6 z16.id := hput.new 10 55 rfl
                        have s56 : sl a19 56 = .bool (decide ((0 : Int) ≤ z16.id ∧ z16.id ≤ 63)) := hput.new 11 56 rfl
                        have s57 : sl a19 57 = .bool false := hput.new 12 57 rfl
                        have s58 : sl a19 58 = .bool false := hput.new 13 58 rfl
                        have s59 : sl a19 59 = .bool false := hput.new 14 59 rfl
                        have s60 : sl a19 60 = pt g17 2 := hput.new 15 60 rfl
                        have s61 : sl a19 61 = i6 z16.data := hput.new 16 61 rfl
                        have s62 : sl a19 62 = .bool (decide ((0 : Int) ≤ z16.data ∧ z16.data ≤ 63)) := hput.new 17 62 rfl
                        have s63 : sl a19 63 = .bool false := hput.new 18 63 rfl
                        have s64 : sl a19 64 = .bool false := hput.new 19 64 rfl
                        have s65 : sl a19 65 = .bool false := hput.new 20 65 rfl
                        have s66 : sl a19 66 = pt g17 3 := hput.new 21 66 rfl
                        have s67 : sl a19 67 = i6 z16.cost := hput.new 22 67 rfl
                        have s68 : sl a19 68 = .bool (decide ((1 : Int) ≤ z16.cost ∧ z16.cost ≤ 100)) := hput.new 23 68 rfl
                        have s69 : sl a19 69 = .bool (!(decide ((1 : Int) ≤ z16.cost ∧ z16.cost ≤ 100))) := hput.new 24 69 rfl
                        have s70 : sl a19 70 = .bool (!(decide ((1 : Int) ≤ z16.cost ∧ z16.cost ≤ 100))) := hput.new 25 70 rfl
                        replace hz := hput.size.trans hz
                        replace hd := hput.defers.trans hd
                        clear hput
                        change Code.wp _ _ _ _ _
                        refine wp_cond_n s70 (fun hc70 => ?_) (fun hc70 => ?_)
                        · clear s70
                          refine wp_seq ?_
                          refine seq_l [] hz ?_
                          refine ⟨.bool false, fun _ h_ => rk (run_assign rfl rfl), ?_⟩
                          intro a26 hput
                          replace s1 := hput.o 1 s1
                          replace s2 : sl a26 2 = .bool false := hput.new 0 2 rfl
                          replace s3 := hput.o 3 s3
                          replace s4 := hput.o 4 s4
                          replace s33 := hput.o 33 s33
                          replace s34 := hput.o 34 s34
                          replace s35 := hput.o 35 s35
                          replace s36 := hput.o 36 s36
                          replace s40 := hput.o 40 s40
                          replace s41 := hput.o 41 s41
                          replace s42 := hput.o 42 s42
                          replace s43 := hput.o 43 s43
                          replace s44 := hput.o 44 s44
                          replace s45 := hput.o 45 s45
                          replace s46 := hput.o 46 s46
                          replace s47 := hput.o 47 s47
                          replace s48 := hput.o 48 s48
                          replace s49 := hput.o 49 s49
                          replace s50 := hput.o 50 s50
                          replace s51 := hput.o 51 s51
                          replace s52 := hput.o 52 s52
                          replace s53 := hput.o 53 s53
                          replace s54 := hput.o 54 s54
                          replace s55 := hput.o 55 s55
                          replace s56 := hput.o 56 s56
                          replace s57 := hput.o 57 s57
                          replace s58 := hput.o 58 s58
                          replace s59 := hput.o 59 s59
                          replace s60 := hput.o 60 s60
                          replace s61 := hput.o 61 s61
                          replace s62 := hput.o 62 s62
                          replace s63 := hput.o 63 s63
                          replace s64 := hput.o 64 s64
                          replace s65 := hput.o 65 s65
                          replace s66 := hput.o 66 s66
                          replace s67 := hput.o 67 s67
                          replace s68 := hput.o 68 s68
                          replace s69 := hput.o 69 s69
                          replace hz := hput.size.trans hz
                          replace hd := hput.defers.trans hd
                          clear hput
                          change Code.wp _ _ _ _ _
                          refine wp_ret ?_
                          refine ret1 (P := Try.prog) (fn := Try.f25) hd s2 (hR_ _ _ ?_)
                          exact ⟨by rw [rb_r2 hc13 hz16 (by unfold okLink; omega)], (hS25.old (by simp))⟩
                        · clear s70
                          refine wp_skip ?_
                          change Code.wp _ _ _ _ _
                          refine seq_l [] hz ?_
                          refine ⟨i6 k, fun _ h_ => rmv (h_.b 3 s3),
                           i6 (k + 1), fun _ h_ => rk (run_addI rfl (h_.d 0 38) rfl (by omega) rfl),
                           i6 (k + 1), fun _ h_ => ras (h_.d 1 39), ?_⟩
                          intro a27 hput
                          replace s1 := hput.o 1 s1
                          replace s2 := hput.o 2 s2
                          replace s3 : sl a27 3 = i6 (k + 1) := hput.new 2 3 rfl
                          replace s4 := hput.o 4 s4
                          replace s33 := hput.o 33 s33
                          replace s34 := hput.o 34 s34
                          replace s35 := hput.o 35 s35
                          replace s36 := hput.o 36 s36
                          have s38 : sl a27 38 = i6 k := hput.new 0 38 rfl
                          have s39 : sl a27 39 = i6 (k + 1) := hput.new 1 39 rfl
                          replace s40 := hput.o 40 s40
                          replace s41 := hput.o 41 s41
                          replace s42 := hput.o 42 s42
                          replace s43 := hput.o 43 s43
                          replace s44 := hput.o 44 s44
                          replace s45 := hput.o 45 s45
                          replace s46 := hput.o 46 s46
                          replace s47 := hput.o 47 s47
                          replace s48 := hput.o 48 s48
                          replace s49 := hput.o 49 s49
                          replace s50 := hput.o 50 s50
                          replace s51 := hput.o 51 s51
                          replace s52 := hput.o 52 s52
                          replace s53 := hput.o 53 s53
                          replace s54 := hput.o 54 s54
                          replace s55 := hput.o 55 s55
                          replace s56 := hput.o 56 s56
                          replace s57 := hput.o 57 s57
                          replace s58 := hput.o 58 s58
                          replace s59 := hput.o 59 s59
                          replace s60 := hput.o 60 s60
                          replace s61 := hput.o 61 s61
                          replace s62 := hput.o 62 s62
                          replace s63 := hput.o 63 s63
                          replace s64 := hput.o 64 s64
                          replace s65 := hput.o 65 s65
                          replace s66 := hput.o 66 s66
                          replace s67 := hput.o 67 s67
                          replace s68 := hput.o 68 s68
                          replace s69 := hput.o 69 s69
                          replace hz := hput.size.trans hz
                          replace hd := hput.defers.trans hd
                          clear hput
                          have hSd := hS25.drop
                          refine ⟨⟨k + 1, by omega, all_next hc0_1 hz16 (decide_eq_true (by unfold okLink; omega)), hz, hd, s1, s2, s3, hSd⟩, ?_⟩
                          show l.links.length - (intOf (sl a27 3)).toNat < l.links.length - (intOf (sl a13 3)).toNat
                          rw [show sl a27 3 = _ from s3, show sl a13 3 = _ from hmu0]
                          simp only [intOf]
                          omega
                · rw [he]
                  clear he
                  refine seq_off (j := 3) (d := 48) (b := true) [4, 5, 6] _ (by kernel_rfl) (.inl rfl) ?_
                  refine ⟨.bool false, fun _ h_ => rk (run_pick_f rfl (h_.d 3 48) rfl),
                   .bool false, fun _ h_ => rmv (h_.d 7 52),
                   pt g17 1, fun _ h_ => r_ok (h_.on 8 53) (fa 1 rfl (h_.b 4 s4)),
                   i6 z16.id, fun _ h_ => r_ok (h_.on 8 53) (ld hS18 0 rfl (h_.d 9 54)), ?_⟩
                  refine ⟨fun a_ h_ => st_call (h_.on 8 53) (run_call rfl (map3 (h_.d 10 55) rfl rfl) rfl) (in04_any _ _ _ _) ?_, trivial⟩
                  rintro e w28 ⟨rfl, hb28⟩
                  refine ⟨_, rfl, _, rfl, ?_⟩
                  clear h_ a_
                  have hS28 := hS18.below hb28
                  clear hS18 hb28
                  refine ⟨.bool (!(decide ((0 : Int) ≤ z16.id ∧ z16.id ≤ 63))), fun _ h_ => r_ok (h_.on 8 53) (run_not rfl (h_.d 11 56) rfl),
                   .bool (!(decide ((0 : Int) ≤ z16.id ∧ z16.id ≤ 63))), fun _ h_ => rk (run_pick_f rfl (h_.d 8 53) (h_.d 12 57)),
                   .bool (!(decide ((0 : Int) ≤ z16.id ∧ z16.id ≤ 63))), fun _ h_ => rmv (h_.d 13 58), ?_⟩
                  rcases nt ((0 : Int) ≤ z16.id ∧ z16.id ≤ 63) with ⟨he, hg14⟩ | ⟨he, hg14⟩
                  · rw [he]
                    clear he
                    refine seq_off (j := 14) (d := 59) (b := false) [15, 16] _ (by kernel_rfl) (.inl rfl) ?_
                    refine seq_offe (j := 14) (d := 59) (b := false) (by kernel_rfl) (.inl rfl) ?_
                    refine seq_off (j := 14) (d := 59) (b := false) [18] _ (by kernel_rfl) (.inl rfl) ?_
                    refine ⟨.bool true, fun _ h_ => rk (run_pick_t rfl (h_.d 14 59) rfl),
                     .bool true, fun _ h_ => rmv (h_.d 19 64), ?_⟩
                    refine seq_off (j := 20) (d := 65) (b := false) [21, 22] _ (by kernel_rfl) (.inl rfl) ?_
                    refine seq_offe (j := 20) (d := 65) (b := false) (by kernel_rfl) (.inl rfl) ?_
                    refine seq_off (j := 20) (d := 65) (b := false) [24] _ (by kernel_rfl) (.inl rfl) ?_
                    refine ⟨.bool true, fun _ h_ => rk (run_pick_t rfl (h_.d 20 65) rfl), ?_⟩
                    intro a19 hput
                    replace s1 := hput.o 1 s1
                    replace s2 := hput.o 2 s2
                    replace s3 := hput.o 3 s3
                    replace s4 := hput.o 4 s4
                    replace s33 := hput.o 33 s33
                    replace s34 := hput.o 34 s34
                    replace s35 := hput.o 35 s35
                    replace s36 := hput.o 36 s36
                    replace s40 := hput.o 40 s40
                    replace s41 := hput.o 41 s41
                    replace s42 := hput.o 42 s42
                    replace s43 := hput.o 43 s43
                    replace s44 := hput.o 44 s44
                    have s45 : sl a19 45 = pt g17 0 := hput.new 0 45 rfl
                    have s46 : sl a19 46 = i6 z16.kind := hput.new 1 46 rfl
                    have s47 : sl a19 47 = .bool false := hput.new 2 47 rfl
                    have s48 : sl a19 48 = .bool false := hput.new 3 48 rfl
                    have s52 : sl a19 52 = .bool false := hput.new 7 52 rfl
                    have s53 : sl a19 53 = .bool false := hput.new 8 53 rfl
                    have s54 : sl a19 54 = pt g17 1 := hput.new 9 54 rfl
                    have s55 : sl a19 55 = i6 z16.id := hput.new 10 55 rfl
                    have s56 : sl a19 56 = .bool (decide ((0 : Int) ≤ z16.id ∧ z16.id ≤ 63)) := hput.new 11 56 rfl
                    have s57 : sl a19 57 = .bool true := hput.new 12 57 rfl
                    have s58 : sl a19 58 = .bool true := hput.new 13 58 rfl
                    have s59 : sl a19 59 = .bool true := hput.new 14 59 rfl
                    have s64 : sl a19 64 = .bool true := hput.new 19 64 rfl
                    have s65 : sl a19 65 = .bool true := hput.new 20 65 rfl
                    have s70 : sl a19 70 = .bool true := hput.new 25 70 rfl
                    replace hz := hput.size.trans hz
                    replace hd := hput.defers.trans hd
                    clear hput
                    change Code.wp _ _ _ _ _
                    refine wp_cond_true s70 ?_
                    refine wp_seq ?_
                    refine seq_l [] hz ?_
                    refine ⟨.bool false, fun _ h_ => rk (run_assign rfl rfl), ?_⟩
                    intro a29 hput
                    replace s1 := hput.o 1 s1
                    replace s2 : sl a29 2 = .bool false := hput.new 0 2 rfl
                    replace s3 := hput.o 3 s3
                    replace s4 := hput.o 4 s4
                    replace s33 := hput.o 33 s33
                    replace s34 := hput.o 34 s34
                    replace s35 := hput.o 35 s35
                    replace s36 := hput.o 36 s36
                    replace s40 := hput.o 40 s40
                    replace s41 := hput.o 41 s41
                    replace s42 := hput.o 42 s42
                    replace s43 := hput.o 43 s43
                    replace s44 := hput.o 44 s44
                    replace s45 := hput.o 45 s45
                    replace s46 := hput.o 46 s46
                    replace s47 := hput.o 47 s47
                    replace s48 := hput.o 48 s48
                    replace s52 := hput.o 52 s52
                    replace s53 := hput.o 53 s53
                    replace s54 := hput.o 54 s54
                    replace s55 := hput.o 55 s55
                    replace s56 := hput.o 56 s56
                    replace s57 := hput.o 57 s57
                    replace s58 := hput.o 58 s58
                    replace s59 := hput.o 59 s59
                    replace s64 := hput.o 64 s64
                    replace s65 := hput.o 65 s65
                    replace s70 := hput.o 70 s70
                    replace hz := hput.size.trans hz
                    replace hd := hput.defers.trans hd
                    clear hput
                    change Code.wp _ _ _ _ _
                    refine wp_ret ?_
                    refine ret1 (P := Try.prog) (fn := Try.f25) hd s2 (hR_ _ _ ?_)
                    exact ⟨by rw [rb_r2 hc13 hz16 (by unfold okLink; omega)], (hS28.old (by simp))⟩
                  · rw [he]
                    clear he
                    refine ⟨pt g17 2, fun _ h_ => r_ok (h_.on 14 59) (fa 2 rfl (h_.b 4 s4)),
                     i6 z16.data, fun _ h_ => r_ok (h_.on 14 59) (ld hS28 0 rfl (h_.d 15 60)), ?_⟩
                    refine ⟨fun a_ h_ => st_call (h_.on 14 59) (run_call rfl (map3 (h_.d 16 61) rfl rfl) rfl) (in04_any _ _ _ _) ?_, trivial⟩
                    rintro e w30 ⟨rfl, hb30⟩
                    refine ⟨_, rfl, _, rfl, ?_⟩
                    clear h_ a_
                    have hS30 := hS28.below hb30
                    clear hS28 hb30
                    refine ⟨.bool (!(decide ((0 : Int) ≤ z16.data ∧ z16.data ≤ 63))), fun _ h_ => r_ok (h_.on 14 59) (run_not rfl (h_.d 17 62) rfl),
                     .bool (!(decide ((0 : Int) ≤ z16.data ∧ z16.data ≤ 63))), fun _ h_ => rk (run_pick_f rfl (h_.d 14 59) (h_.d 18 63)),
                     .bool (!(decide ((0 : Int) ≤ z16.data ∧ z16.data ≤ 63))), fun _ h_ => rmv (h_.d 19 64), ?_⟩
                    rcases nt ((0 : Int) ≤ z16.data ∧ z16.data ≤ 63) with ⟨he, hg20⟩ | ⟨he, hg20⟩
                    · rw [he]
                      clear he
                      refine seq_off (j := 20) (d := 65) (b := false) [21, 22] _ (by kernel_rfl) (.inl rfl) ?_
                      refine seq_offe (j := 20) (d := 65) (b := false) (by kernel_rfl) (.inl rfl) ?_
                      refine seq_off (j := 20) (d := 65) (b := false) [24] _ (by kernel_rfl) (.inl rfl) ?_
                      refine ⟨.bool true, fun _ h_ => rk (run_pick_t rfl (h_.d 20 65) rfl), ?_⟩
                      intro a19 hput
                      replace s1 := hput.o 1 s1
                      replace s2 := hput.o 2 s2
                      replace s3 := hput.o 3 s3
                      replace s4 := hput.o 4 s4
                      replace s33 := hput.o 33 s33
                      replace s34 := hput.o 34 s34
                      replace s35 := hput.o 35 s35
                      replace s36 := hput.o 36 s36
                      replace s40 := hput.o 40 s40
                      replace s41 := hput.o 41 s41
                      replace s42 := hput.o 42 s42
                      replace s43 := hput.o 43 s43
                      replace s44 := hput.o 44 s44
                      have s45 : sl a19 45 = pt g17 0 := hput.new 0 45 rfl
                      have s46 : sl a19 46 = i6 z16.kind := hput.new 1 46 rfl
                      have s47 : sl a19 47 = .bool false := hput.new 2 47 rfl
                      have s48 : sl a19 48 = .bool false := hput.new 3 48 rfl
                      have s52 : sl a19 52 = .bool false := hput.new 7 52 rfl
                      have s53 : sl a19 53 = .bool false := hput.new 8 53 rfl
                      have s54 : sl a19 54 = pt g17 1 := hput.new 9 54 rfl
                      have s55 : sl a19 55 = i6 z16.id := hput.new 10 55 rfl
                      have s56 : sl a19 56 = .bool (decide ((0 : Int) ≤ z16.id ∧ z16.id ≤ 63)) := hput.new 11 56 rfl
                      have s57 : sl a19 57 = .bool false := hput.new 12 57 rfl
                      have s58 : sl a19 58 = .bool false := hput.new 13 58 rfl
                      have s59 : sl a19 59 = .bool false := hput.new 14 59 rfl
                      have s60 : sl a19 60 = pt g17 2 := hput.new 15 60 rfl
                      have s61 : sl a19 61 = i6 z16.data := hput.new 16 61 rfl
                      have s62 : sl a19 62 = .bool (decide ((0 : Int) ≤ z16.data ∧ z16.data ≤ 63)) := hput.new 17 62 rfl
                      have s63 : sl a19 63 = .bool true := hput.new 18 63 rfl
                      have s64 : sl a19 64 = .bool true := hput.new 19 64 rfl
                      have s65 : sl a19 65 = .bool true := hput.new 20 65 rfl
                      have s70 : sl a19 70 = .bool true := hput.new 25 70 rfl
                      replace hz := hput.size.trans hz
                      replace hd := hput.defers.trans hd
                      clear hput
                      change Code.wp _ _ _ _ _
                      refine wp_cond_true s70 ?_
                      refine wp_seq ?_
                      refine seq_l [] hz ?_
                      refine ⟨.bool false, fun _ h_ => rk (run_assign rfl rfl), ?_⟩
                      intro a31 hput
                      replace s1 := hput.o 1 s1
                      replace s2 : sl a31 2 = .bool false := hput.new 0 2 rfl
                      replace s3 := hput.o 3 s3
                      replace s4 := hput.o 4 s4
                      replace s33 := hput.o 33 s33
                      replace s34 := hput.o 34 s34
                      replace s35 := hput.o 35 s35
                      replace s36 := hput.o 36 s36
                      replace s40 := hput.o 40 s40
                      replace s41 := hput.o 41 s41
                      replace s42 := hput.o 42 s42
                      replace s43 := hput.o 43 s43
                      replace s44 := hput.o 44 s44
                      replace s45 := hput.o 45 s45
                      replace s46 := hput.o 46 s46
                      replace s47 := hput.o 47 s47
                      replace s48 := hput.o 48 s48
                      replace s52 := hput.o 52 s52
                      replace s53 := hput.o 53 s53
                      replace s54 := hput.o 54 s54
                      replace s55 := hput.o 55 s55
                      replace s56 := hput.o 56 s56
                      replace s57 := hput.o 57 s57
                      replace s58 := hput.o 58 s58
                      replace s59 := hput.o 59 s59
                      replace s60 := hput.o 60 s60
                      replace s61 := hput.o 61 s61
                      replace s62 := hput.o 62 s62
                      replace s63 := hput.o 63 s63
                      replace s64 := hput.o 64 s64
                      replace s65 := hput.o 65 s65
                      replace s70 := hput.o 70 s70
                      replace hz := hput.size.trans hz
                      replace hd := hput.defers.trans hd
                      clear hput
                      change Code.wp _ _ _ _ _
                      refine wp_ret ?_
                      refine ret1 (P := Try.prog) (fn := Try.f25) hd s2 (hR_ _ _ ?_)
                      exact ⟨by rw [rb_r2 hc13 hz16 (by unfold okLink; omega)], (hS30.old (by simp))⟩
                    · rw [he]
                      clear he
                      refine ⟨pt g17 3, fun _ h_ => r_ok (h_.on 20 65) (fa 3 rfl (h_.b 4 s4)),
                       i6 z16.cost, fun _ h_ => r_ok (h_.on 20 65) (ld hS30 0 rfl (h_.d 21 66)), ?_⟩
                      refine ⟨fun a_ h_ => st_call (h_.on 20 65) (run_call rfl (map3 (h_.d 22 67) rfl rfl) rfl) (in04_any _ _ _ _) ?_, trivial⟩
                      rintro e w32 ⟨rfl, hb32⟩
                      refine ⟨_, rfl, _, rfl, ?_⟩
                      clear h_ a_
                      have hS32 := hS30.below hb32
                      clear hS30 hb32
                      refine ⟨.bool (!(decide ((1 : Int) ≤ z16.cost ∧ z16.cost ≤ 100))), fun _ h_ => r_ok (h_.on 20 65) (run_not rfl (h_.d 23 68) rfl),
                       .bool (!(decide ((1 : Int) ≤ z16.cost ∧ z16.cost ≤ 100))), fun _ h_ => rk (run_pick_f rfl (h_.d 20 65) (h_.d 24 69)), ?_⟩
                      intro a19 hput
                      replace s1 := hput.o 1 s1
                      replace s2 := hput.o 2 s2
                      replace s3 := hput.o 3 s3
                      replace s4 := hput.o 4 s4
                      replace s33 := hput.o 33 s33
                      replace s34 := hput.o 34 s34
                      replace s35 := hput.o 35 s35
                      replace s36 := hput.o 36 s36
                      replace s40 := hput.o 40 s40
                      replace s41 := hput.o 41 s41
                      replace s42 := hput.o 42 s42
                      replace s43 := hput.o 43 s43
                      replace s44 := hput.o 44 s44
                      have s45 : sl a19 45 = pt g17 0 := hput.new 0 45 rfl
                      have s46 : sl a19 46 = i6 z16.kind := hput.new 1 46 rfl
                      have s47 : sl a19 47 = .bool false := hput.new 2 47 rfl
                      have s48 : sl a19 48 = .bool false := hput.new 3 48 rfl
                      have s52 : sl a19 52 = .bool false := hput.new 7 52 rfl
                      have s53 : sl a19 53 = .bool false := hput.new 8 53 rfl
                      have s54 : sl a19 54 = pt g17 1 := hput.new 9 54 rfl
                      have s55 : sl a19 55 = i6 z16.id := hput.new 10 55 rfl
                      have s56 : sl a19 56 = .bool (decide ((0 : Int) ≤ z16.id ∧ z16.id ≤ 63)) := hput.new 11 56 rfl
                      have s57 : sl a19 57 = .bool false := hput.new 12 57 rfl
                      have s58 : sl a19 58 = .bool false := hput.new 13 58 rfl
                      have s59 : sl a19 59 = .bool false := hput.new 14 59 rfl
                      have s60 : sl a19 60 = pt g17 2 := hput.new 15 60 rfl
                      have s61 : sl a19 61 = i6 z16.data := hput.new 16 61 rfl
                      have s62 : sl a19 62 = .bool (decide ((0 : Int) ≤ z16.data ∧ z16.data ≤ 63)) := hput.new 17 62 rfl
                      have s63 : sl a19 63 = .bool false := hput.new 18 63 rfl
                      have s64 : sl a19 64 = .bool false := hput.new 19 64 rfl
                      have s65 : sl a19 65 = .bool false := hput.new 20 65 rfl
                      have s66 : sl a19 66 = pt g17 3 := hput.new 21 66 rfl
                      have s67 : sl a19 67 = i6 z16.cost := hput.new 22 67 rfl
                      have s68 : sl a19 68 = .bool (decide ((1 : Int) ≤ z16.cost ∧ z16.cost ≤ 100)) := hput.new 23 68 rfl
                      have s69 : sl a19 69 = .bool (!(decide ((1 : Int) ≤ z16.cost ∧ z16.cost ≤ 100))) := hput.new 24 69 rfl
                      have s70 : sl a19 70 = .bool (!(decide ((1 : Int) ≤ z16.cost ∧ z16.cost ≤ 100))) := hput.new 25 70 rfl
                      replace hz := hput.size.trans hz
                      replace hd := hput.defers.trans hd
                      clear hput
                      change Code.wp _ _ _ _ _
                      refine wp_cond_n s70 (fun hc70 => ?_) (fun hc70 => ?_)
                      · clear s70
                        refine wp_seq ?_
                        refine seq_l [] hz ?_
                        refine ⟨.bool false, fun _ h_ => rk (run_assign rfl rfl), ?_⟩
                        intro a33 hput
                        replace s1 := hput.o 1 s1
                        replace s2 : sl a33 2 = .bool false := hput.new 0 2 rfl
                        replace s3 := hput.o 3 s3
                        replace s4 := hput.o 4 s4
                        replace s33 := hput.o 33 s33
                        replace s34 := hput.o 34 s34
                        replace s35 := hput.o 35 s35
                        replace s36 := hput.o 36 s36
                        replace s40 := hput.o 40 s40
                        replace s41 := hput.o 41 s41
                        replace s42 := hput.o 42 s42
                        replace s43 := hput.o 43 s43
                        replace s44 := hput.o 44 s44
                        replace s45 := hput.o 45 s45
                        replace s46 := hput.o 46 s46
                        replace s47 := hput.o 47 s47
                        replace s48 := hput.o 48 s48
                        replace s52 := hput.o 52 s52
                        replace s53 := hput.o 53 s53
                        replace s54 := hput.o 54 s54
                        replace s55 := hput.o 55 s55
                        replace s56 := hput.o 56 s56
                        replace s57 := hput.o 57 s57
                        replace s58 := hput.o 58 s58
                        replace s59 := hput.o 59 s59
                        replace s60 := hput.o 60 s60
                        replace s61 := hput.o 61 s61
                        replace s62 := hput.o 62 s62
                        replace s63 := hput.o 63 s63
                        replace s64 := hput.o 64 s64
                        replace s65 := hput.o 65 s65
                        replace s66 := hput.o 66 s66
                        replace s67 := hput.o 67 s67
                        replace s68 := hput.o 68 s68
                        replace s69 := hput.o 69 s69
                        replace hz := hput.size.trans hz
                        replace hd := hput.defers.trans hd
                        clear hput
                        change Code.wp _ _ _ _ _
                        refine wp_ret ?_
                        refine ret1 (P := Try.prog) (fn := Try.f25) hd s2 (hR_ _ _ ?_)
                        exact ⟨by rw [rb_r2 hc13 hz16 (by unfold okLink; omega)], (hS32.old (by simp))⟩
                      · clear s70
                        refine wp_skip ?_
                        change Code.wp _ _ _ _ _
                        refine seq_l [] hz ?_
                        refine ⟨i6 k, fun _ h_ => rmv (h_.b 3 s3),
                         i6 (k + 1), fun _ h_ => rk (run_addI rfl (h_.d 0 38) rfl (by omega) rfl),
                         i6 (k + 1), fun _ h_ => ras (h_.d 1 39), ?_⟩
                        intro a34 hput
                        replace s1 := hput.o 1 s1
                        replace s2 := hput.o 2 s2
                        replace s3 : sl a34 3 = i6 (k + 1) := hput.new 2 3 rfl
                        replace s4 := hput.o 4 s4
                        replace s33 := hput.o 33 s33
                        replace s34 := hput.o 34 s34
                        replace s35 := hput.o 35 s35
                        replace s36 := hput.o 36 s36
                        have s38 : sl a34 38 = i6 k := hput.new 0 38 rfl
                        have s39 : sl a34 39 = i6 (k + 1) := hput.new 1 39 rfl
                        replace s40 := hput.o 40 s40
                        replace s41 := hput.o 41 s41
                        replace s42 := hput.o 42 s42
                        replace s43 := hput.o 43 s43
                        replace s44 := hput.o 44 s44
                        replace s45 := hput.o 45 s45
                        replace s46 := hput.o 46 s46
                        replace s47 := hput.o 47 s47
                        replace s48 := hput.o 48 s48
                        replace s52 := hput.o 52 s52
                        replace s53 := hput.o 53 s53
                        replace s54 := hput.o 54 s54
                        replace s55 := hput.o 55 s55
                        replace s56 := hput.o 56 s56
                        replace s57 := hput.o 57 s57
                        replace s58 := hput.o 58 s58
                        replace s59 := hput.o 59 s59
                        replace s60 := hput.o 60 s60
                        replace s61 := hput.o 61 s61
                        replace s62 := hput.o 62 s62
                        replace s63 := hput.o 63 s63
                        replace s64 := hput.o 64 s64
                        replace s65 := hput.o 65 s65
                        replace s66 := hput.o 66 s66
                        replace s67 := hput.o 67 s67
                        replace s68 := hput.o 68 s68
                        replace s69 := hput.o 69 s69
                        replace hz := hput.size.trans hz
                        replace hd := hput.defers.trans hd
                        clear hput
                        have hSd := hS32.drop
                        refine ⟨⟨k + 1, by omega, all_next hc0_1 hz16 (decide_eq_true (by unfold okLink; omega)), hz, hd, s1, s2, s3, hSd⟩, ?_⟩
                        show l.links.length - (intOf (sl a34 3)).toNat < l.links.length - (intOf (sl a13 3)).toNat
                        rw [show sl a34 3 = _ from s3, show sl a13 3 = _ from hmu0]
                        simp only [intOf]
                        omega
              · clear s37
                refine wp_exit ?_
                change Code.wp _ _ _ _ _
                refine wp_seq ?_
                refine seq_l [] hz ?_
                refine ⟨.bool true, fun _ h_ => rk (run_assign rfl rfl), ?_⟩
                intro a35 hput
                replace s1 := hput.o 1 s1
                replace s2 : sl a35 2 = .bool true := hput.new 0 2 rfl
                replace hz := hput.size.trans hz
                replace hd := hput.defers.trans hd
                clear hput s3 s33 s34 s35 s36
                change Code.wp _ _ _ _ _
                refine wp_ret ?_
                refine ret1 (P := Try.prog) (fn := Try.f25) hd s2 (hR_ _ _ ?_)
                exact ⟨by rw [rb_r3 hc9 hc13 (by omega) (by omega) (by omega) (by rw [← hc0_1, List.take_of_length_le (by omega)])], (hS13.old (by simp))⟩
    · clear s13
      refine wp_skip ?_
      change Code.wp _ _ _ _ _
      refine wp_seq ?_
      refine wp_seq ?_
      refine seq_l [3] hz ?_
      refine ⟨pt g3 0, fun _ h_ => rk (fa 0 rfl (h_.b 1 s1)),
       pt g3 2, fun _ h_ => rk (fa 2 rfl (h_.d 0 71)),
       i6 l.hd.id, fun _ h_ => rk (ld hS5 0 rfl (h_.d 1 72)), ?_⟩
      refine ⟨fun a_ h_ => st_call (on_none rfl) (run_call rfl (map3 (h_.d 2 73) rfl rfl) rfl) (in04_any _ _ _ _) ?_, trivial⟩
      rintro e w37 ⟨rfl, hb37⟩
      refine ⟨_, rfl, _, rfl, ?_⟩
      clear h_ a_
      have hS37 := hS5.below hb37
      clear hS5 hb37
      refine ⟨.bool (!(decide ((0 : Int) ≤ l.hd.id ∧ l.hd.id ≤ 63))), fun _ h_ => rk (run_not rfl (h_.d 3 74) rfl),
       .bool (!(decide ((0 : Int) ≤ l.hd.id ∧ l.hd.id ≤ 63))), fun _ h_ => rmv (h_.d 4 75), ?_⟩
      rcases nt ((0 : Int) ≤ l.hd.id ∧ l.hd.id ≤ 63) with ⟨he, hg5⟩ | ⟨he, hg5⟩
      · rw [he]
        clear he
        refine seq_off (j := 5) (d := 76) (b := false) [6, 7, 8, 9] _ (by kernel_rfl) (.inl rfl) ?_
        refine ⟨.bool true, fun _ h_ => rk (run_pick_t rfl (h_.d 5 76) rfl),
         .bool true, fun _ h_ => rmv (h_.d 10 81), ?_⟩
        refine seq_off (j := 11) (d := 82) (b := false) [12, 13, 14, 15] _ (by kernel_rfl) (.inl rfl) ?_
        refine ⟨.bool true, fun _ h_ => rk (run_pick_t rfl (h_.d 11 82) rfl), ?_⟩
        intro a36 hput
        replace s1 := hput.o 1 s1
        replace s2 := hput.o 2 s2
        have s87 : sl a36 87 = .bool true := hput.new 16 87 rfl
        replace hz := hput.size.trans hz
        replace hd := hput.defers.trans hd
        clear hput
        change Code.wp _ _ _ _ _
        refine wp_cond_true s87 ?_
        refine wp_seq ?_
        refine seq_l [] hz ?_
        refine ⟨.bool false, fun _ h_ => rk (run_assign rfl rfl), ?_⟩
        intro a38 hput
        replace s1 := hput.o 1 s1
        replace s2 : sl a38 2 = .bool false := hput.new 0 2 rfl
        replace hz := hput.size.trans hz
        replace hd := hput.defers.trans hd
        clear hput s87
        change Code.wp _ _ _ _ _
        refine wp_ret ?_
        refine ret1 (P := Try.prog) (fn := Try.f25) hd s2 (hR_ _ _ ?_)
        exact ⟨by rw [rb_m1 hc13 (by omega)], (hS37.old (by simp))⟩
      · rw [he]
        clear he
        refine ⟨pt g3 7, fun _ h_ => r_ok (h_.on 5 76) (fa 7 rfl (h_.b 1 s1)),
         .slice p.A l.links.length p.c, fun _ h_ => r_ok (h_.on 5 76) (ld hS37 0 rfl (h_.d 6 77)),
         i6 l.links.length, fun _ h_ => r_ok (h_.on 5 76) (run_lenS rfl (h_.d 7 78) (by kernel_rfl)),
         .bool (decide ((0 : Int) < l.links.length)), fun _ h_ => r_ok (h_.on 5 76) (run_cmp rfl (h_.d 8 79) rfl rfl (by first | rfl | exact neq_dec _ _ | exact eq_dec _ _ | simp)),
         .bool (decide ((0 : Int) < l.links.length)), fun _ h_ => rk (run_pick_f rfl (h_.d 5 76) (h_.d 9 80)),
         .bool (decide ((0 : Int) < l.links.length)), fun _ h_ => rmv (h_.d 10 81), ?_⟩
        rcases dt ((0 : Int) < l.links.length) with ⟨he, hg11⟩ | ⟨he, hg11⟩
        · rw [he]
          clear he
          refine seq_off (j := 11) (d := 82) (b := false) [12, 13, 14, 15] _ (by kernel_rfl) (.inl rfl) ?_
          refine ⟨.bool true, fun _ h_ => rk (run_pick_t rfl (h_.d 11 82) rfl), ?_⟩
          intro a36 hput
          replace s1 := hput.o 1 s1
          replace s2 := hput.o 2 s2
          have s87 : sl a36 87 = .bool true := hput.new 16 87 rfl
          replace hz := hput.size.trans hz
          replace hd := hput.defers.trans hd
          clear hput
          change Code.wp _ _ _ _ _
          refine wp_cond_true s87 ?_
          refine wp_seq ?_
          refine seq_l [] hz ?_
          refine ⟨.bool false, fun _ h_ => rk (run_assign rfl rfl), ?_⟩
          intro a39 hput
          replace s1 := hput.o 1 s1
          replace s2 : sl a39 2 = .bool false := hput.new 0 2 rfl
          replace hz := hput.size.trans hz
          replace hd := hput.defers.trans hd
          clear hput s87
          change Code.wp _ _ _ _ _
          refine wp_ret ?_
          refine ret1 (P := Try.prog) (fn := Try.f25) hd s2 (hR_ _ _ ?_)
          exact ⟨by rw [rb_m1 hc13 (by omega)], (hS37.old (by simp))⟩
        · rw [he]
          clear he
          refine ⟨pt g3 8, fun _ h_ => r_ok (h_.on 11 82) (fa 8 rfl (h_.b 1 s1)),
           .slice p.B l.mem.length p.d, fun _ h_ => r_ok (h_.on 11 82) (ld hS37 0 rfl (h_.d 12 83)),
           i6 l.mem.length, fun _ h_ => r_ok (h_.on 11 82) (run_lenS rfl (h_.d 13 84) (by kernel_rfl)),
           .bool (decide ((l.mem.length : Int) = 0)), fun _ h_ => r_ok (h_.on 11 82) (run_cmp rfl (h_.d 14 85) rfl rfl (by first | rfl | exact neq_dec _ _ | exact eq_dec _ _ | simp)),
           .bool (decide ((l.mem.length : Int) = 0)), fun _ h_ => rk (run_pick_f rfl (h_.d 11 82) (h_.d 15 86)), ?_⟩
          intro a36 hput
          replace s1 := hput.o 1 s1
          replace s2 := hput.o 2 s2
          have s87 : sl a36 87 = .bool (decide ((l.mem.length : Int) = 0)) := hput.new 16 87 rfl
          replace hz := hput.size.trans hz
          replace hd := hput.defers.trans hd
          clear hput
          change Code.wp _ _ _ _ _
          refine wp_cond_d s87 (fun hc87 => ?_) (fun hc87 => ?_)
          · clear s87
            refine wp_seq ?_
            refine seq_l [] hz ?_
            refine ⟨.bool false, fun _ h_ => rk (run_assign rfl rfl), ?_⟩
            intro a40 hput
            replace s1 := hput.o 1 s1
            replace s2 : sl a40 2 = .bool false := hput.new 0 2 rfl
            replace hz := hput.size.trans hz
            replace hd := hput.defers.trans hd
            clear hput
            change Code.wp _ _ _ _ _
            refine wp_ret ?_
            refine ret1 (P := Try.prog) (fn := Try.f25) hd s2 (hR_ _ _ ?_)
            exact ⟨by rw [rb_m1 hc13 (by omega)], (hS37.old (by simp))⟩
          · clear s87
            refine wp_skip ?_
            change Code.wp _ _ _ _ _
            refine wp_seq ?_
            refine wp_seq ?_
            refine seq_l [] hz ?_
            refine ⟨i6 0, fun _ h_ => rk (run_assign rfl rfl), ?_⟩
            intro a41 hput
            replace s1 := hput.o 1 s1
            replace s2 := hput.o 2 s2
            have s5 : sl a41 5 = i6 0 := hput.new 0 5 rfl
            replace hz := hput.size.trans hz
            replace hd := hput.defers.trans hd
            clear hput
            change Code.wp _ _ _ _ _
            refine wp_block ?_
            refine wp_loop (fun a_ w_ => ∃ k : Nat, (k ≤ l.mem.length) ∧ (memB 0 (l.mem.take k) = true) ∧ a_.tmps.size = 120 ∧ a_.defers = [] ∧ sl a_ 1 = pt g3 0 ∧ sl a_ 2 = .bool false ∧ sl a_ 5 = i6 k ∧ S (kap W) ((blkA g3 37 #[i6 l.hd.age, i6 l.hd.kind, i6 l.hd.id, i6 l.hd.adv, i6 l.hd.seq, i6 l.hd.sum, i6 l.hd.long, .slice p.A l.links.length p.c, .slice p.B l.mem.length p.d]) :: []) ((memA W W.heap.size) :: []) w_) (fun a_ _ => l.mem.length - (intOf (sl a_ 5)).toNat) ?_ ?_
            · exact ⟨0, Nat.zero_le _, rfl, hz, hd, s1, s2, s5, hS37⟩
            · clear hz hd s1 s2 s5 hS37
              rintro a42 w42 ⟨k, hc2_0, hc2_1, hz, hd, s1, s2, s5, hS42⟩
              have hmu2 := s5
              refine wp_seq ?_
              refine wp_seq ?_
              refine seq_l [] hz ?_
              refine ⟨i6 k, fun _ h_ => rmv (h_.b 5 s5),
               pt g3 8, fun _ h_ => rk (fa 8 rfl (h_.b 1 s1)),
               .slice p.B l.mem.length p.d, fun _ h_ => rk (ld hS42 0 rfl (h_.d 1 89)),
               i6 l.mem.length, fun _ h_ => rk (run_lenS rfl (h_.d 2 90) (by kernel_rfl)),
               .bool (decide ((k : Int) < l.mem.length)), fun _ h_ => rk (run_cmp rfl (h_.d 0 88) (h_.d 3 91) rfl (by first | rfl | exact neq_dec _ _ | exact eq_dec _ _ | simp)), ?_⟩
              intro a43 hput
              replace s1 := hput.o 1 s1
              replace s2 := hput.o 2 s2
              replace s5 := hput.o 5 s5
              have s88 : sl a43 88 = i6 k := hput.new 0 88 rfl
              have s89 : sl a43 89 = pt g3 8 := hput.new 1 89 rfl
              have s90 : sl a43 90 = .slice p.B l.mem.length p.d := hput.new 2 90 rfl
              have s91 : sl a43 91 = i6 l.mem.length := hput.new 3 91 rfl
              have s92 : sl a43 92 = .bool (decide ((k : Int) < l.mem.length)) := hput.new 4 92 rfl
              replace hz := hput.size.trans hz
              replace hd := hput.defers.trans hd
              clear hput
              change Code.wp _ _ _ _ _
              refine wp_cond_d s92 (fun hc92 => ?_) (fun hc92 => ?_)
              · clear s92
                refine wp_skip ?_
                change Code.wp _ _ _ _ _
                refine wp_seq ?_
                refine wp_block ?_
                refine wp_seq ?_
                refine seq_r [[], [0], [], [0, 1, 2], [0, 1, 2, 3], [0, 1, 2, 3, 4], [0, 1, 2, 3, 4, 5], [0, 1, 2, 3, 4, 5, 6], [0, 1, 2, 3, 4, 5, 6, 7], [0, 1, 2, 3, 4, 5, 6, 7, 8], [0, 1, 2, 3, 4, 5, 6, 7, 8, 9], [0, 1, 2, 3, 4, 5, 6, 7, 8, 9, 10], [0, 1, 2, 3, 4, 5, 6, 7, 8, 9, 10, 11], [0, 1, 2, 3, 4, 5, 6, 7, 8, 9, 10], [0, 1, 2, 3, 4, 5, 6, 7, 8, 9, 10, 11, 12, 13], [0, 1, 2, 3, 4, 5, 6, 7, 8, 9, 10, 11, 12, 13, 14], [0, 1, 2, 3, 4, 5, 6, 7, 8, 9, 10], [0, 1, 2, 3, 4, 5, 6, 7, 8, 9, 10, 16], [0, 1, 2, 3, 4, 5, 6, 7, 8, 9, 10], [0, 1, 2, 3, 4, 5, 6, 7, 8, 9, 10, 18], [0, 1, 2, 3, 4, 5, 6, 7, 8, 9, 10, 16, 17, 18, 19], [0, 1, 2, 3, 4, 5, 6, 7, 8, 9, 10, 16, 17, 18, 19, 20], [0, 1, 2, 3, 4, 5, 6, 7, 8, 9, 10, 11, 12, 13, 14, 15, 16, 17, 18, 19, 20, 21], [0, 1, 2, 3, 4, 5, 6, 7, 8, 9, 10, 11, 12, 13, 14, 15, 16, 17, 18, 19, 20, 21, 22], [0, 1, 2, 3, 4, 5, 6, 7, 8, 9, 10, 11, 12, 13, 14, 15, 16, 17, 18, 19, 20, 21, 22, 23]] [5] (.rd 0 (.rd 1 (.rd 2 (.rd 3 (.rd 4 (.ef 5 (.rd 6 (.rd 7 (.rd 8 (.rd 9 (.rd 10 (.rd 11 (.rd 12 (.rd 13 (.rd 14 (.rd 15 (.rd 16 (.rd 17 (.rd 18 (.rd 19 (.rd 20 (.rd 21 (.rd 22 (.rd 23 (.rd 24 (.fin)))))))))))))))))))) .non)))))) hz fun w44 hb44 => ?_
                replace hS42 := hS42.below hb44
                refine ⟨pt g3 8, fun _ h_ => rk (fa 8 rfl (h_.b 1 s1)),
                 .slice p.B l.mem.length p.d, fun _ h_ => rk (ld hS42 0 rfl (h_.d 0 95)),
                 i6 k, fun _ h_ => rmv (h_.b 5 s5), ?_⟩
                obtain ⟨b45, o45, z45, hA45, hb45, hz45, hq45⟩ := Reads.int_at (k := k) (hok.mem.old (hS42.old (by simp))) (by omega)
                refine ⟨pt b45 (o45 + k), fun _ h_ => rk (run_indexV (size := 1) rfl (h_.d 1 96) hA45 (h_.d 2 97) (by kernel_rfl) (by omega) (by simp)),
                 i6 z45, fun _ h_ => rk (run_load rfl (h_.d 3 98) (by kernel_rfl) (show w44.cell? ⟨b45, o45 + k, none⟩ = some (i6 z45) from hq45)), ?_⟩
                refine ⟨fun a_ h_ => st_call (on_none rfl) (run_call rfl (map3 (h_.d 4 99) rfl rfl) rfl) (in04_any _ _ _ _) ?_, trivial⟩
                rintro e w46 ⟨rfl, hb46⟩
                refine ⟨_, rfl, _, rfl, ?_⟩
                clear h_ a_
                have hS46 := hS42.below hb46
                clear hS42 hb46
                refine ⟨.bool (!(decide ((1 : Int) ≤ z45 ∧ z45 ≤ 15))), fun _ h_ => rk (run_not rfl (h_.d 5 100) rfl),
                 .bool (!(decide ((1 : Int) ≤ z45 ∧ z45 ≤ 15))), fun _ h_ => rmv (h_.d 6 101), ?_⟩
                rcases nt ((1 : Int) ≤ z45 ∧ z45 ≤ 15) with ⟨he, hg7⟩ | ⟨he, hg7⟩
                · rw [he]
                  clear he
                  refine seq_off (j := 7) (d := 102) (b := false) [8, 9, 10] _ (by kernel_rfl) (.inl rfl) ?_
                  refine seq_off (j := 10) (d := 105) (b := true) [11, 12, 13, 14, 15, 16, 17, 18, 19, 20, 21, 22] _ (by kernel_rfl) (.inr rfl) ?_
                  refine seq_off (j := 7) (d := 102) (b := false) [23] _ (by kernel_rfl) (.inl rfl) ?_
                  refine ⟨.bool true, fun _ h_ => rk (run_pick_t rfl (h_.d 7 102) rfl), ?_⟩
                  intro a44 hput
                  replace s1 := hput.o 1 s1
                  replace s2 := hput.o 2 s2
                  replace s5 := hput.o 5 s5
                  replace s88 := hput.o 88 s88
                  replace s89 := hput.o 89 s89
                  replace s90 := hput.o 90 s90
                  replace s91 := hput.o 91 s91
                  have s95 : sl a44 95 = pt g3 8 := hput.new 0 95 rfl
                  have s96 : sl a44 96 = .slice p.B l.mem.length p.d := hput.new 1 96 rfl
                  have s97 : sl a44 97 = i6 k := hput.new 2 97 rfl
                  have s98 : sl a44 98 = pt b45 (o45 + k) := hput.new 3 98 rfl
                  have s99 : sl a44 99 = i6 z45 := hput.new 4 99 rfl
                  have s100 : sl a44 100 = .bool (decide ((1 : Int) ≤ z45 ∧ z45 ≤ 15)) := hput.new 5 100 rfl
                  have s101 : sl a44 101 = .bool true := hput.new 6 101 rfl
                  have s102 : sl a44 102 = .bool true := hput.new 7 102 rfl
                  have s119 : sl a44 119 = .bool true := hput.new 24 119 rfl
                  replace hz := hput.size.trans hz
                  replace hd := hput.defers.trans hd
                  clear hput
                  change Code.wp _ _ _ _ _
                  refine wp_cond_true s119 ?_
                  refine wp_seq ?_
                  refine seq_l [] hz ?_
                  refine ⟨.bool false, fun _ h_ => rk (run_assign rfl rfl), ?_⟩
                  intro a47 hput
                  replace s1 := hput.o 1 s1
                  replace s2 : sl a47 2 = .bool false := hput.new 0 2 rfl
                  replace s5 := hput.o 5 s5
                  replace s88 := hput.o 88 s88
                  replace s89 := hput.o 89 s89
                  replace s90 := hput.o 90 s90
                  replace s91 := hput.o 91 s91
                  replace s95 := hput.o 95 s95
                  replace s96 := hput.o 96 s96
                  replace s97 := hput.o 97 s97
                  replace s98 := hput.o 98 s98
                  replace s99 := hput.o 99 s99
                  replace s100 := hput.o 100 s100
                  replace s101 := hput.o 101 s101
                  replace s102 := hput.o 102 s102
                  replace s119 := hput.o 119 s119
                  replace hz := hput.size.trans hz
                  replace hd := hput.defers.trans hd
                  clear hput
                  change Code.wp _ _ _ _ _
                  refine wp_ret ?_
                  refine ret1 (P := Try.prog) (fn := Try.f25) hd s2 (hR_ _ _ ?_)
                  exact ⟨by rw [rb_m2 (k := k + 1) hc13 (memB_out hc2_1 hz45 (by omega))], (hS46.old (by simp))⟩
                · rw [he]
                  clear he
                  refine ⟨i6 k, fun _ h_ => r_ok (h_.on 7 102) (run_move rfl (h_.b 5 s5)),
                   .bool (decide ((0 : Int) < k)), fun _ h_ => r_ok (h_.on 7 102) (run_cmp rfl (h_.d 8 103) rfl rfl (by first | rfl | exact neq_dec _ _ | exact eq_dec _ _ | simp)),
                   .bool (decide ((0 : Int) < k)), fun _ h_ => r_ok (h_.on 7 102) (run_move rfl (h_.d 9 104)), ?_⟩
                  rcases dt ((0 : Int) < k) with ⟨he, hg10⟩ | ⟨he, hg10⟩
                  · rw [he]
                    clear he
                    refine ⟨pt g3 8, fun _ h_ => r_ok (h_.on 10 105) (fa 8 rfl (h_.b 1 s1)),
                     .slice p.B l.mem.length p.d, fun _ h_ => r_ok (h_.on 10 105) (ld hS46 0 rfl (h_.d 11 106)),
                     i6 k, fun _ h_ => r_ok (h_.on 10 105) (run_move rfl (h_.b 5 s5)), ?_⟩
                    obtain ⟨b48, o48, z48, hA48, hb48, hz48, hq48⟩ := Reads.int_at (k := k) (hok.mem.old (hS46.old (by simp))) (by omega)
                    obtain rfl : z45 = z48 := Option.some.inj (hz45.symm.trans hz48)
                    refine ⟨pt b48 (o48 + k), fun _ h_ => r_ok (h_.on 10 105) (run_indexV (size := 1) rfl (h_.d 12 107) hA48 (h_.d 13 108) (by kernel_rfl) (by omega) (by simp)),
                     i6 z45, fun _ h_ => r_ok (h_.on 10 105) (run_load rfl (h_.d 14 109) (by kernel_rfl) (show w46.cell? ⟨b48, o48 + k, none⟩ = some (i6 z45) from hq48)),
                     pt g3 8, fun _ h_ => r_ok (h_.on 10 105) (fa 8 rfl (h_.b 1 s1)),
                     .slice p.B l.mem.length p.d, fun _ h_ => r_ok (h_.on 10 105) (ld hS46 0 rfl (h_.d 16 111)),
                     i6 k, fun _ h_ => r_ok (h_.on 10 105) (run_move rfl (h_.b 5 s5)),
                     i6 (k - 1), fun _ h_ => r_ok (h_.on 10 105) (run_subI rfl (h_.d 18 113) rfl (by omega) rfl), ?_⟩
                    obtain ⟨b49, o49, z49, hA49, hb49, hz49, hq49⟩ := Reads.int_at (k := ((k - 1) : Int).toNat) (hok.mem.old (hS46.old (by simp))) (by omega)
                    refine ⟨pt b49 (o49 + ((k - 1) : Int).toNat), fun _ h_ => r_ok (h_.on 10 105) (run_indexV (size := 1) rfl (h_.d 17 112) hA49 (h_.d 19 114) (by kernel_rfl) (by omega) (by simp)),
                     i6 z49, fun _ h_ => r_ok (h_.on 10 105) (run_load rfl (h_.d 20 115) (by kernel_rfl) (show w46.cell? ⟨b49, o49 + ((k - 1) : Int).toNat, none⟩ = some (i6 z49) from hq49)),
                     .bool (decide ((z45 : Int) ≤ z49)), fun _ h_ => r_ok (h_.on 10 105) (run_cmp rfl (h_.d 15 110) (h_.d 21 116) rfl (by first | rfl | exact neq_dec _ _ | exact eq_dec _ _ | simp)),
                     .bool (decide ((z45 : Int) ≤ z49)), fun _ h_ => r_ok (h_.on 7 102) (run_pick_t rfl (h_.d 10 105) (h_.d 22 117)),
                     .bool (decide ((z45 : Int) ≤ z49)), fun _ h_ => rk (run_pick_f rfl (h_.d 7 102) (h_.d 23 118)), ?_⟩
                    intro a44 hput
                    replace s1 := hput.o 1 s1
                    replace s2 := hput.o 2 s2
                    replace s5 := hput.o 5 s5
                    replace s88 := hput.o 88 s88
                    replace s89 := hput.o 89 s89
                    replace s90 := hput.o 90 s90
                    replace s91 := hput.o 91 s91
                    have s95 : sl a44 95 = pt g3 8 := hput.new 0 95 rfl
                    have s96 : sl a44 96 = .slice p.B l.mem.length p.d := hput.new 1 96 rfl
                    have s97 : sl a44 97 = i6 k := hput.new 2 97 rfl
                    have s98 : sl a44 98 = pt b45 (o45 + k) := hput.new 3 98 rfl
                    have s99 : sl a44 99 = i6 z45 := hput.new 4 99 rfl
                    have s100 : sl a44 100 = .bool (decide ((1 : Int) ≤ z45 ∧ z45 ≤ 15)) := hput.new 5 100 rfl
                    have s101 : sl a44 101 = .bool false := hput.new 6 101 rfl
                    have s102 : sl a44 102 = .bool false := hput.new 7 102 rfl
                    have s103 : sl a44 103 = i6 k := hput.new 8 103 rfl
                    have s104 : sl a44 104 = .bool true := hput.new 9 104 rfl
                    have s105 : sl a44 105 = .bool true := hput.new 10 105 rfl
                    have s106 : sl a44 106 = pt g3 8 := hput.new 11 106 rfl
                    have s107 : sl a44 107 = .slice p.B l.mem.length p.d := hput.new 12 107 rfl
                    have s108 : sl a44 108 = i6 k := hput.new 13 108 rfl
                    have s109 : sl a44 109 = pt b48 (o48 + k) := hput.new 14 109 rfl
                    have s110 : sl a44 110 = i6 z45 := hput.new 15 110 rfl
                    have s111 : sl a44 111 = pt g3 8 := hput.new 16 111 rfl
                    have s112 : sl a44 112 = .slice p.B l.mem.length p.d := hput.new 17 112 rfl
                    have s113 : sl a44 113 = i6 k := hput.new 18 113 rfl
                    have s114 : sl a44 114 = i6 (k - 1) := hput.new 19 114 rfl
                    have s115 : sl a44 115 = pt b49 (o49 + ((k - 1) : Int).toNat) := hput.new 20 115 rfl
                    have s116 : sl a44 116 = i6 z49 := hput.new 21 116 rfl
                    have s117 : sl a44 117 = .bool (decide ((z45 : Int) ≤ z49)) := hput.new 22 117 rfl
                    have s118 : sl a44 118 = .bool (decide ((z45 : Int) ≤ z49)) := hput.new 23 118 rfl
                    have s119 : sl a44 119 = .bool (decide ((z45 : Int) ≤ z49)) := hput.new 24 119 rfl
                    replace hz := hput.size.trans hz
                    replace hd := hput.defers.trans hd
                    clear hput
                    change Code.wp _ _ _ _ _
                    refine wp_cond_d s119 (fun hc119 => ?_) (fun hc119 => ?_)
                    · clear s119
                      refine wp_seq ?_
                      refine seq_l [] hz ?_
                      refine ⟨.bool false, fun _ h_ => rk (run_assign rfl rfl), ?_⟩
                      intro a50 hput
                      replace s1 := hput.o 1 s1
                      replace s2 : sl a50 2 = .bool false := hput.new 0 2 rfl
                      replace s5 := hput.o 5 s5
                      replace s88 := hput.o 88 s88
                      replace s89 := hput.o 89 s89
                      replace s90 := hput.o 90 s90
                      replace s91 := hput.o 91 s91
                      replace s95 := hput.o 95 s95
                      replace s96 := hput.o 96 s96
                      replace s97 := hput.o 97 s97
                      replace s98 := hput.o 98 s98
                      replace s99 := hput.o 99 s99
                      replace s100 := hput.o 100 s100
                      replace s101 := hput.o 101 s101
                      replace s102 := hput.o 102 s102
                      replace s103 := hput.o 103 s103
                      replace s104 := hput.o 104 s104
                      replace s105 := hput.o 105 s105
                      replace s106 := hput.o 106 s106
                      replace s107 := hput.o 107 s107
                      replace s108 := hput.o 108 s108
                      replace s109 := hput.o 109 s109
                      replace s110 := hput.o 110 s110
                      replace s111 := hput.o 111 s111
                      replace s112 := hput.o 112 s112
                      replace s113 := hput.o 113 s113
                      replace s114 := hput.o 114 s114
                      replace s115 := hput.o 115 s115
                      replace s116 := hput.o 116 s116
                      replace s117 := hput.o 117 s117
                      replace s118 := hput.o 118 s118
                      replace hz := hput.size.trans hz
                      replace hd := hput.defers.trans hd
                      clear hput
                      change Code.wp _ _ _ _ _
                      refine wp_ret ?_
                      refine ret1 (P := Try.prog) (fn := Try.f25) hd s2 (hR_ _ _ ?_)
                      exact ⟨by rw [rb_m2 (k := k + 1) hc13 (by rw [memB_at hz45, last_take (by omega) (by rw [← hz49]; congr 1; omega)]; simp; omega)], (hS46.old (by simp))⟩
                    · clear s119
                      refine wp_skip ?_
                      change Code.wp _ _ _ _ _
                      refine seq_l [] hz ?_
                      refine ⟨i6 k, fun _ h_ => rmv (h_.b 5 s5),
                       i6 (k + 1), fun _ h_ => rk (run_addI rfl (h_.d 0 93) rfl (by omega) rfl),
                       i6 (k + 1), fun _ h_ => ras (h_.d 1 94), ?_⟩
                      intro a51 hput
                      replace s1 := hput.o 1 s1
                      replace s2 := hput.o 2 s2
                      replace s5 : sl a51 5 = i6 (k + 1) := hput.new 2 5 rfl
                      replace s88 := hput.o 88 s88
                      replace s89 := hput.o 89 s89
                      replace s90 := hput.o 90 s90
                      replace s91 := hput.o 91 s91
                      have s93 : sl a51 93 = i6 k := hput.new 0 93 rfl
                      have s94 : sl a51 94 = i6 (k + 1) := hput.new 1 94 rfl
                      replace s95 := hput.o 95 s95
                      replace s96 := hput.o 96 s96
                      replace s97 := hput.o 97 s97
                      replace s98 := hput.o 98 s98
                      replace s99 := hput.o 99 s99
                      replace s100 := hput.o 100 s100
                      replace s101 := hput.o 101 s101
                      replace s102 := hput.o 102 s102
                      replace s103 := hput.o 103 s103
                      replace s104 := hput.o 104 s104
                      replace s105 := hput.o 105 s105
                      replace s106 := hput.o 106 s106
                      replace s107 := hput.o 107 s107
                      replace s108 := hput.o 108 s108
                      replace s109 := hput.o 109 s109
                      replace s110 := hput.o 110 s110
                      replace s111 := hput.o 111 s111
                      replace s112 := hput.o 112 s112
                      replace s113 := hput.o 113 s113
                      replace s114 := hput.o 114 s114
                      replace s115 := hput.o 115 s115
                      replace s116 := hput.o 116 s116
                      replace s117 := hput.o 117 s117
                      replace s118 := hput.o 118 s118
                      replace hz := hput.size.trans hz
                      replace hd := hput.defers.trans hd
                      clear hput
                      refine ⟨⟨k + 1, by omega, (by rw [memB_at hz45, hc2_1, last_take (by omega) (by rw [← hz49]; congr 1; omega)]; simp; omega), hz, hd, s1, s2, s5, hS46⟩, ?_⟩
                      show l.mem.length - (intOf (sl a51 5)).toNat < l.mem.length - (intOf (sl a42 5)).toNat
                      rw [show sl a51 5 = _ from s5, show sl a42 5 = _ from hmu2]
                      simp only [intOf]
                      omega
                  · rw [he]
                    clear he
                    refine seq_off (j := 10) (d := 105) (b := true) [11, 12, 13, 14, 15, 16, 17, 18, 19, 20, 21, 22] _ (by kernel_rfl) (.inl rfl) ?_
                    refine ⟨.bool false, fun _ h_ => r_ok (h_.on 7 102) (run_pick_f rfl (h_.d 10 105) rfl),
                     .bool false, fun _ h_ => rk (run_pick_f rfl (h_.d 7 102) (h_.d 23 118)), ?_⟩
                    intro a44 hput
                    replace s1 := hput.o 1 s1
                    replace s2 := hput.o 2 s2
                    replace s5 := hput.o 5 s5
                    replace s88 := hput.o 88 s88
                    replace s89 := hput.o 89 s89
                    replace s90 := hput.o 90 s90
                    replace s91 := hput.o 91 s91
                    have s95 : sl a44 95 = pt g3 8 := hput.new 0 95 rfl
                    have s96 : sl a44 96 = .slice p.B l.mem.length p.d := hput.new 1 96 rfl
                    have s97 : sl a44 97 = i6 k := hput.new 2 97 rfl
                    have s98 : sl a44 98 = pt b45 (o45 + k) := hput.new 3 98 rfl
                    have s99 : sl a44 99 = i6 z45 := hput.new 4 99 rfl
                    have s100 : sl a44 100 = .bool (decide ((1 : Int) ≤ z45 ∧ z45 ≤ 15)) := hput.new 5 100 rfl
                    have s101 : sl a44 101 = .bool false := hput.new 6 101 rfl
                    have s102 : sl a44 102 = .bool false := hput.new 7 102 rfl
                    have s103 : sl a44 103 = i6 k := hput.new 8 103 rfl
                    have s104 : sl a44 104 = .bool false := hput.new 9 104 rfl
                    have s105 : sl a44 105 = .bool false := hput.new 10 105 rfl
                    have s118 : sl a44 118 = .bool false := hput.new 23 118 rfl
                    have s119 : sl a44 119 = .bool false := hput.new 24 119 rfl
                    replace hz := hput.size.trans hz
                    replace hd := hput.defers.trans hd
                    clear hput
                    change Code.wp _ _ _ _ _
                    refine wp_cond_false s119 ?_
                    refine wp_skip ?_
                    change Code.wp _ _ _ _ _
                    refine seq_l [] hz ?_
                    refine ⟨i6 k, fun _ h_ => rmv (h_.b 5 s5),
                     i6 (k + 1), fun _ h_ => rk (run_addI rfl (h_.d 0 93) rfl (by omega) rfl),
                     i6 (k + 1), fun _ h_ => ras (h_.d 1 94), ?_⟩
                    intro a52 hput
                    replace s1 := hput.o 1 s1
                    replace s2 := hput.o 2 s2
                    replace s5 : sl a52 5 = i6 (k + 1) := hput.new 2 5 rfl
                    replace s88 := hput.o 88 s88
                    replace s89 := hput.o 89 s89
                    replace s90 := hput.o 90 s90
                    replace s91 := hput.o 91 s91
                    have s93 : sl a52 93 = i6 k := hput.new 0 93 rfl
                    have s94 : sl a52 94 = i6 (k + 1) := hput.new 1 94 rfl
                    replace s95 := hput.o 95 s95
                    replace s96 := hput.o 96 s96
                    replace s97 := hput.o 97 s97
                    replace s98 := hput.o 98 s98
                    replace s99 := hput.o 99 s99
                    replace s100 := hput.o 100 s100
                    replace s101 := hput.o 101 s101
                    replace s102 := hput.o 102 s102
                    replace s103 := hput.o 103 s103
                    replace s104 := hput.o 104 s104
                    replace s105 := hput.o 105 s105
                    replace s118 := hput.o 118 s118
                    replace s119 := hput.o 119 s119
                    replace hz := hput.size.trans hz
                    replace hd := hput.defers.trans hd
                    clear hput
                    refine ⟨⟨k + 1, by omega, memB_first (by omega) hz45 (by omega), hz, hd, s1, s2, s5, hS46⟩, ?_⟩
                    show l.mem.length - (intOf (sl a52 5)).toNat < l.mem.length - (intOf (sl a42 5)).toNat
                    rw [show sl a52 5 = _ from s5, show sl a42 5 = _ from hmu2]
                    simp only [intOf]
                    omega
              · clear s92
                refine wp_exit ?_
                change Code.wp _ _ _ _ _
                refine wp_seq ?_
                refine seq_l [] hz ?_
                refine ⟨.bool true, fun _ h_ => rk (run_assign rfl rfl), ?_⟩
                intro a53 hput
                replace s2 : sl a53 2 = .bool true := hput.new 0 2 rfl
                replace hz := hput.size.trans hz
                replace hd := hput.defers.trans hd
                clear hput s1 s5 s88 s89 s90 s91
                change Code.wp _ _ _ _ _
                refine wp_ret ?_
                refine ret1 (P := Try.prog) (fn := Try.f25) hd s2 (hR_ _ _ ?_)
                exact ⟨by rw [rb_m3 hc9 hc13 (by omega) (by omega) (by omega) (by rw [← hc2_1, List.take_of_length_le (by omega)])], (hS42.old (by simp))⟩
end Go.Proofs.Ytdenfgnkbfbpmaa
