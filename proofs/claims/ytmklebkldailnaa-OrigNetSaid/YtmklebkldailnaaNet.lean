/-
  A network's description: orig.full, the reference's Full, and what is asked of neighbors.
-/
import Derived.Test.YtmklebkldailnaaOps
import Derived.Test.YtmklebkldailnaaSame04
namespace Go.Proofs.Ytmklebkldailnaa
open Go.RowKit
set_option linter.unusedSimpArgs false
set_option linter.unusedVariables false

/-- a neighbor -/
structure PV where
  id : Int
  prio : Int
  dr : Int
  bdr : Int
  state : Int
  two : Bool
  at_ : Int
def PV.cells (x : PV) : List Value := [.int .i64 x.id, .int .i64 x.prio, .int .i64 x.dr, .int .i64 x.bdr, .int .i64 x.state, .bool x.two, .int .i64 x.at_]
theorem PV.cells_len (x : PV) : x.cells.length = 7 := rfl
/-- the place of the first that is so; -1: there is none -/
def idxF {α : Type} (p : α → Bool) : List α → Int
  | [] => -1
  | x :: l => if p x then 0 else if idxF p l < 0 then -1 else idxF p l + 1
theorem idxF_ge {α : Type} (p : α → Bool) : ∀ l, -1 ≤ idxF p l
  | [] => Int.le_refl _
  | x :: l => by have := idxF_ge p l; unfold idxF; split; omega; split <;> omega
theorem idxF_none {α : Type} (p : α → Bool) : ∀ (l : List α) (k : Nat), l.length ≤ k → (∀ j x, j < k → l[j]? = some x → p x = false) → idxF p l = -1
  | [], k, _, _ => rfl
  | y :: l, k, hk, h => by
    have h0 := h 0 y (by simp at hk; omega) rfl
    have := idxF_none p l (k - 1) (by simp at hk; omega) (fun j x hj hx => h (j + 1) x (by omega) (by simpa using hx))
    unfold idxF
    rw [h0, this]; simp
theorem idxF_some {α : Type} (p : α → Bool) : ∀ (l : List α) (k : Nat) (z : α), (∀ j x, j < k → l[j]? = some x → p x = false) → l[k]? = some z → p z = true → idxF p l = k
  | [], k, z, _, h, _ => by simp at h
  | y :: l, 0, z, h, hz, hp => by simp at hz; subst hz; unfold idxF; rw [hp]; simp
  | y :: l, k + 1, z, h, hz, hp => by
    have h0 := h 0 y (by omega) rfl
    have := idxF_some p l k z (fun j x hj hx => h (j + 1) x (by omega) (by simpa using hx)) (by simpa using hz) hp
    unfold idxF
    rw [h0, this]
    simp
    omega
theorem idxF_any {α : Type} (p : α → Bool) : ∀ l, decide (0 ≤ idxF p l) = l.any p
  | [] => rfl
  | y :: l => by
    have := idxF_any p l
    have hg := idxF_ge p l
    unfold idxF
    rw [List.any_cons, ← this]
    cases p y with
    | true => simp
    | false =>
      by_cases h : idxF p l < 0
      · simp [h]
      · simp [h]; omega
theorem none_next {α : Type} {l : List α} {k : Nat} {z : α} {pr : α → Bool} (h : ∀ j x, j < k → l[j]? = some x → pr x = false) (hz : l[k]? = some z) (hp : pr z = false) : ∀ j x, j < k + 1 → l[j]? = some x → pr x = false := by
  intro j x hj hx
  rcases Nat.lt_or_ge j k with h1 | h1
  · exact h j x h1 hx
  · obtain rfl : j = k := by omega
    rw [hz] at hx; cases hx; exact hp
theorem Reads.old {W w : World} {size n : Nat} {A : Option Addr} {xs : List Value} (h : Reads W W.heap.size size A n xs) (hb : Below W.heap.size W w) : Reads w w.heap.size size A n xs := (h.below hb).more hb.size
def fullB (id : Int) (p : PV) : Bool := decide (p.state = 6) && (decide (id = 0) || decide (p.id = id))
set_option maxRecDepth 100000 in
set_option maxHeartbeats 800000 in
theorem full1_any (z : PV) (id : Int) (g : Nat) (W : World) (hg : Blk W g 3 #[.int .i64 id]) :
    Calls Try.prog 42 #[.agg #[i6 z.id, i6 z.prio, i6 z.dr, i6 z.bdr, i6 z.state, .bool z.two, i6 z.at_], pt g 0] W (fun r w' => r = .returned (.bool (fullB id z)) ∧ Below W.heap.size W w') := by
  have hS := S.start W
  refine calls_walk Try.func42 rfl fun R_ hR_ a hz hd hargs => ?_
  replace hz : a.tmps.size = 17 := hz.trans (by kernel_rfl)
  have s0 := hargs 0 _ rfl
  have s1 := hargs 1 _ rfl
  clear hargs
  refine wp_seq ?_
  refine seq_l [0] hz ?_
  refine ⟨fun a_ h_ => st_box (cells := #[i6 z.id, i6 z.prio, i6 z.dr, i6 z.bdr, i6 z.state, .bool z.two, i6 z.at_]) hS (on_none rfl) rfl (h_.b 0 s0) (by kernel_rfl) fun g3 w3 hS3 hb3 => ⟨_, rfl, ?_⟩, trivial⟩
  clear h_ a_ hS
  clear hb3
  refine ⟨.bool false, fun _ h_ => rk (run_assign rfl rfl), ?_⟩
  intro a2 hput
  replace s1 := hput.o 1 s1
  have s2 : sl a2 2 = pt g3 0 := hput.new 0 2 rfl
  have s3 : sl a2 3 = .bool false := hput.new 1 3 rfl
  replace hz := hput.size.trans hz
  replace hd := hput.defers.trans hd
  clear hput s0
  change Code.wp _ _ _ _ _
  refine wp_seq ?_
  refine seq_l [] hz ?_
  refine ⟨pt g3 4, fun _ h_ => rk (fa 4 rfl (h_.b 2 s2)),
   i6 z.state, fun _ h_ => rk (ld hS3 0 rfl (h_.d 0 4)),
   .bool (decide ((z.state : Int) = 6)), fun _ h_ => rk (run_cmp rfl (h_.d 1 5) rfl rfl (by first | rfl | exact neq_dec _ _ | exact eq_dec _ _ | simp)),
   .bool (decide ((z.state : Int) = 6)), fun _ h_ => rmv (h_.d 2 6), ?_⟩
  rcases dt ((z.state : Int) = 6) with ⟨he, hg3⟩ | ⟨he, hg3⟩
  · rw [he]
    clear he
    refine ⟨i6 id, fun _ h_ => r_ok (h_.on 3 7) (lb (hg.below (hS3.old (by simp)) hg.lt) rfl (h_.b 1 s1)),
     .bool (decide ((id : Int) = 0)), fun _ h_ => r_ok (h_.on 3 7) (run_cmp rfl (h_.d 4 8) rfl rfl (by first | rfl | exact neq_dec _ _ | exact eq_dec _ _ | simp)),
     .bool (decide ((id : Int) = 0)), fun _ h_ => r_ok (h_.on 3 7) (run_move rfl (h_.d 5 9)), ?_⟩
    rcases dt ((id : Int) = 0) with ⟨he, hg6⟩ | ⟨he, hg6⟩
    · rw [he]
      clear he
      refine seq_off (j := 6) (d := 10) (b := false) [7, 8, 9, 10] _ (by kernel_rfl) (.inl rfl) ?_
      refine ⟨.bool true, fun _ h_ => r_ok (h_.on 3 7) (run_pick_t rfl (h_.d 6 10) rfl),
       .bool true, fun _ h_ => rk (run_pick_t rfl (h_.d 3 7) (h_.d 11 15)),
       .bool true, fun _ h_ => ras (h_.d 12 16), ?_⟩
      intro a4 hput
      replace s3 : sl a4 3 = .bool true := hput.new 13 3 rfl
      replace hz := hput.size.trans hz
      replace hd := hput.defers.trans hd
      clear hput s1 s2
      change Code.wp _ _ _ _ _
      refine wp_ret ?_
      refine ret1 (P := Try.prog) (fn := Try.f42) hd s3 (hR_ _ _ ?_)
      exact ⟨by unfold fullB; simp_all, (hS3.old (by simp))⟩
    · rw [he]
      clear he
      refine ⟨pt g3 0, fun _ h_ => r_ok (h_.on 6 10) (fa 0 rfl (h_.b 2 s2)),
       i6 z.id, fun _ h_ => r_ok (h_.on 6 10) (ld hS3 0 rfl (h_.d 7 11)),
       i6 id, fun _ h_ => r_ok (h_.on 6 10) (lb (hg.below (hS3.old (by simp)) hg.lt) rfl (h_.b 1 s1)),
       .bool (decide ((z.id : Int) = id)), fun _ h_ => r_ok (h_.on 6 10) (run_cmp rfl (h_.d 8 12) (h_.d 9 13) rfl (by first | rfl | exact neq_dec _ _ | exact eq_dec _ _ | simp)),
       .bool (decide ((z.id : Int) = id)), fun _ h_ => r_ok (h_.on 3 7) (run_pick_f rfl (h_.d 6 10) (h_.d 10 14)),
       .bool (decide ((z.id : Int) = id)), fun _ h_ => rk (run_pick_t rfl (h_.d 3 7) (h_.d 11 15)),
       .bool (decide ((z.id : Int) = id)), fun _ h_ => ras (h_.d 12 16), ?_⟩
      intro a4 hput
      replace s3 : sl a4 3 = .bool (decide ((z.id : Int) = id)) := hput.new 13 3 rfl
      replace hz := hput.size.trans hz
      replace hd := hput.defers.trans hd
      clear hput s1 s2
      change Code.wp _ _ _ _ _
      refine wp_ret ?_
      refine ret1 (P := Try.prog) (fn := Try.f42) hd s3 (hR_ _ _ ?_)
      exact ⟨by unfold fullB; simp_all, (hS3.old (by simp))⟩
  · rw [he]
    clear he
    refine seq_off (j := 3) (d := 7) (b := true) [4, 5, 6] _ (by kernel_rfl) (.inl rfl) ?_
    refine seq_off (j := 6) (d := 10) (b := false) [7, 8, 9, 10] _ (by kernel_rfl) (.inr rfl) ?_
    refine seq_off (j := 3) (d := 7) (b := true) [11] _ (by kernel_rfl) (.inl rfl) ?_
    refine ⟨.bool false, fun _ h_ => rk (run_pick_f rfl (h_.d 3 7) rfl),
     .bool false, fun _ h_ => ras (h_.d 12 16), ?_⟩
    intro a4 hput
    replace s3 : sl a4 3 = .bool false := hput.new 13 3 rfl
    replace hz := hput.size.trans hz
    replace hd := hput.defers.trans hd
    clear hput s1 s2
    change Code.wp _ _ _ _ _
    refine wp_ret ?_
    refine ret1 (P := Try.prog) (fn := Try.f42) hd s3 (hR_ _ _ ?_)
    exact ⟨by unfold fullB; simp_all, (hS3.old (by simp))⟩
theorem rows_len {w : World} {B n : Nat} {A : Option Addr} {l : List PV} (h : Reads w B 7 A n (rowC PV.cells l)) : l.length = n := by have := h.1; rw [rowC_length PV.cells 7 PV.cells_len] at this; omega
set_option maxRecDepth 100000 in
set_option maxHeartbeats 800000 in
theorem indexP_any (A : Option Addr) (n c : Nat) (l : List PV) (f : Nat) (cap : Array Value) (pr : PV → Bool) (W : World) (hn : n ≤ 100000) (hR : Reads W W.heap.size 7 A n (rowC PV.cells l)) (hcl : ∀ w z, Below W.heap.size W w → Calls Try.prog f (#[.agg (PV.cells z).toArray] ++ cap) w fun r w' => r = .returned (.bool (pr z)) ∧ Below w.heap.size w w') (hfn : ∀ xs w, (callFunc f xs).run Try.prog w = .ok (.enter f xs) w) :
    Calls Try.prog 55 #[.slice A n c, .func (.func f) #[] cap] W (fun r w' => r = .returned (.int .i64 (idxF pr l)) ∧ Below W.heap.size W w') := by
  have hS := S.start W
  refine calls_walk Try.func55 rfl fun R_ hR_ a hz hd hargs => ?_
  replace hz : a.tmps.size = 19 := hz.trans (by kernel_rfl)
  have s0 := hargs 0 _ rfl
  have s1 := hargs 1 _ rfl
  clear hargs
  refine wp_seq ?_
  refine seq_l [] hz ?_
  refine ⟨i6 0, fun _ h_ => rk (run_assign rfl rfl), ?_⟩
  intro a2 hput
  replace s0 := hput.o 0 s0
  replace s1 := hput.o 1 s1
  have s4 : sl a2 4 = i6 0 := hput.new 0 4 rfl
  replace hz := hput.size.trans hz
  replace hd := hput.defers.trans hd
  clear hput
  change Code.wp _ _ _ _ _
  refine wp_seq ?_
  refine wp_seq ?_
  refine seq_l [] hz ?_
  refine ⟨.slice A n c, fun _ h_ => rmv (h_.b 0 s0),
   i6 n, fun _ h_ => rk (run_lenS rfl (h_.d 0 6) (by kernel_rfl)),
   i6 0, fun _ h_ => rk (run_move rfl rfl), ?_⟩
  intro a3 hput
  replace s0 := hput.o 0 s0
  replace s1 := hput.o 1 s1
  replace s4 := hput.o 4 s4
  have s7 : sl a3 7 = i6 n := hput.new 1 7 rfl
  have s8 : sl a3 8 = i6 0 := hput.new 2 8 rfl
  replace hz := hput.size.trans hz
  replace hd := hput.defers.trans hd
  clear hput
  change Code.wp _ _ _ _ _
  refine wp_block ?_
  refine wp_loop (fun a w => ∃ k : Nat, (k ≤ n) ∧ (∀ j x, j < k → l[j]? = some x → pr x = false) ∧ a.tmps.size = 19 ∧ a.defers = [] ∧ sl a 0 = .slice A n c ∧ sl a 1 = .func (.func f) #[] cap ∧ sl a 7 = i6 n ∧ sl a 8 = i6 k ∧ S (kap W) ([]) ((memA W W.heap.size) :: []) w) (fun a _ => n - (intOf (sl a 8)).toNat) ?_ ?_
  · exact ⟨0, Nat.zero_le _, (fun j x hj => absurd hj (Nat.not_lt_zero _)), hz, hd, s0, s1, s7, s8, hS⟩
  · clear hz hd s0 s1 s4 s7 s8 hS
    rintro a4 w4 ⟨k, hc0_0, hc0_1, hz, hd, s0, s1, s7, s8, hS4⟩
    have hmu0 := s8
    refine wp_seq ?_
    refine seq_l [] hz ?_
    refine ⟨.bool (decide ((k : Int) < n)), fun _ h_ => rk (run_cmp rfl (h_.b 8 s8) (h_.b 7 s7) rfl (by first | rfl | exact neq_dec _ _ | exact eq_dec _ _ | simp)), ?_⟩
    intro a5 hput
    replace s0 := hput.o 0 s0
    replace s1 := hput.o 1 s1
    replace s7 := hput.o 7 s7
    replace s8 := hput.o 8 s8
    have s9 : sl a5 9 = .bool (decide ((k : Int) < n)) := hput.new 0 9 rfl
    replace hz := hput.size.trans hz
    replace hd := hput.defers.trans hd
    clear hput
    change Code.wp _ _ _ _ _
    refine wp_seq ?_
    refine wp_cond_d s9 (fun hc9 => ?_) (fun hc9 => ?_)
    · clear s9
      refine wp_skip ?_
      change Code.wp _ _ _ _ _
      refine wp_seq ?_
      refine wp_block ?_
      refine wp_seq ?_
      refine seq_l [] hz ?_
      refine ⟨i6 k, fun _ h_ => rmv (h_.b 8 s8),
       i6 k, fun _ h_ => ras (h_.d 0 10), ?_⟩
      intro a6 hput
      replace s0 := hput.o 0 s0
      replace s1 := hput.o 1 s1
      have s5 : sl a6 5 = i6 k := hput.new 1 5 rfl
      replace s7 := hput.o 7 s7
      replace s8 := hput.o 8 s8
      have s10 : sl a6 10 = i6 k := hput.new 0 10 rfl
      replace hz := hput.size.trans hz
      replace hd := hput.defers.trans hd
      clear hput
      change Code.wp _ _ _ _ _
      refine wp_seq ?_
      refine seq_l [5] hz ?_
      refine ⟨.func (.func f) #[] cap, fun _ h_ => rmv (h_.b 1 s1),
       .slice A n c, fun _ h_ => rmv (h_.b 0 s0),
       i6 k, fun _ h_ => rmv (h_.b 5 s5), ?_⟩
      obtain ⟨b8, o8, z8, hA8, hb8, hz8, hq8⟩ := Reads.row_at PV.cells 7 PV.cells_len (k := k) (hR.old (hS4.old (by simp))) (by decide) (by omega)
      refine ⟨pt b8 (o8 + k * 7), fun _ h_ => rk (run_indexV (size := 7) rfl (h_.d 1 12) hA8 (h_.d 2 13) (by kernel_rfl) (by omega) (by simp)),
       .agg #[i6 z8.id, i6 z8.prio, i6 z8.dr, i6 z8.bdr, i6 z8.state, .bool z8.two, i6 z8.at_], fun _ h_ => rk (run_loadV (size := 7) (cs := PV.cells z8) rfl (h_.d 3 14) (by kernel_rfl) rfl hq8), ?_⟩
      refine ⟨fun a_ h_ => st_call (on_none rfl) (run_callV rfl (h_.d 0 11) (map1 (h_.d 4 15)) rfl (hfn _ _)) (hcl _ z8 (hS4.old (by simp))) ?_, trivial⟩
      rintro e w9 ⟨rfl, hb9⟩
      refine ⟨_, rfl, _, rfl, ?_⟩
      clear h_ a_
      have hS9 := hS4.below hb9
      clear hS4 hb9
      intro a7 hput
      replace s0 := hput.o 0 s0
      replace s1 := hput.o 1 s1
      replace s5 := hput.o 5 s5
      replace s7 := hput.o 7 s7
      replace s8 := hput.o 8 s8
      replace s10 := hput.o 10 s10
      have s11 : sl a7 11 = .func (.func f) #[] cap := hput.new 0 11 rfl
      have s12 : sl a7 12 = .slice A n c := hput.new 1 12 rfl
      have s13 : sl a7 13 = i6 k := hput.new 2 13 rfl
      have s14 : sl a7 14 = pt b8 (o8 + k * 7) := hput.new 3 14 rfl
      have s15 : sl a7 15 = .agg #[i6 z8.id, i6 z8.prio, i6 z8.dr, i6 z8.bdr, i6 z8.state, .bool z8.two, i6 z8.at_] := hput.new 4 15 rfl
      have s16 : sl a7 16 = .bool (pr z8) := hput.new 5 16 rfl
      replace hz := hput.size.trans hz
      replace hd := hput.defers.trans hd
      clear hput
      change Code.wp _ _ _ _ _
      refine wp_cond_b s16 (fun hc16 => ?_) (fun hc16 => ?_)
      · clear s16
        refine wp_seq ?_
        refine seq_l [] hz ?_
        refine ⟨i6 k, fun _ h_ => rmv (h_.b 5 s5),
         i6 k, fun _ h_ => ras (h_.d 0 17), ?_⟩
        intro a10 hput
        replace s0 := hput.o 0 s0
        replace s1 := hput.o 1 s1
        have s4 : sl a10 4 = i6 k := hput.new 1 4 rfl
        replace s5 := hput.o 5 s5
        replace s7 := hput.o 7 s7
        replace s8 := hput.o 8 s8
        replace s10 := hput.o 10 s10
        replace s11 := hput.o 11 s11
        replace s12 := hput.o 12 s12
        replace s13 := hput.o 13 s13
        replace s14 := hput.o 14 s14
        replace s15 := hput.o 15 s15
        have s17 : sl a10 17 = i6 k := hput.new 0 17 rfl
        replace hz := hput.size.trans hz
        replace hd := hput.defers.trans hd
        clear hput
        change Code.wp _ _ _ _ _
        refine wp_ret ?_
        refine ret1 (P := Try.prog) (fn := Try.f55) hd s4 (hR_ _ _ ?_)
        exact ⟨by rw [idxF_some pr l k _ hc0_1 hz8 hc16], (hS9.old (by simp))⟩
      · clear s16
        refine wp_skip ?_
        change Code.wp _ _ _ _ _
        refine seq_l [] hz ?_
        refine ⟨i6 (k + 1), fun _ h_ => rk (run_addI rfl (h_.b 8 s8) rfl (by omega) rfl),
         i6 (k + 1), fun _ h_ => rmv (h_.d 0 18), ?_⟩
        intro a11 hput
        replace s0 := hput.o 0 s0
        replace s1 := hput.o 1 s1
        replace s5 := hput.o 5 s5
        replace s7 := hput.o 7 s7
        replace s8 : sl a11 8 = i6 (k + 1) := hput.new 1 8 rfl
        replace s10 := hput.o 10 s10
        replace s11 := hput.o 11 s11
        replace s12 := hput.o 12 s12
        replace s13 := hput.o 13 s13
        replace s14 := hput.o 14 s14
        replace s15 := hput.o 15 s15
        have s18 : sl a11 18 = i6 (k + 1) := hput.new 0 18 rfl
        replace hz := hput.size.trans hz
        replace hd := hput.defers.trans hd
        clear hput
        refine ⟨⟨k + 1, by omega, none_next hc0_1 hz8 hc16, hz, hd, s0, s1, s7, s8, hS9⟩, ?_⟩
        show n - (intOf (sl a11 8)).toNat < n - (intOf (sl a4 8)).toNat
        rw [show sl a11 8 = _ from s8, show sl a4 8 = _ from hmu0]
        simp only [intOf]
        omega
    · clear s9
      refine wp_exit ?_
      change Code.wp _ _ _ _ _
      refine wp_seq ?_
      refine seq_l [] hz ?_
      refine ⟨i6 (-1), fun _ h_ => rk (run_assign rfl rfl), ?_⟩
      intro a12 hput
      have s4 : sl a12 4 = i6 (-1) := hput.new 0 4 rfl
      replace hz := hput.size.trans hz
      replace hd := hput.defers.trans hd
      clear hput s0 s1 s7 s8
      change Code.wp _ _ _ _ _
      refine wp_ret ?_
      refine ret1 (P := Try.prog) (fn := Try.f55) hd s4 (hR_ _ _ ?_)
      exact ⟨by rw [idxF_none pr l k (by have := rows_len hR; omega) hc0_1], (hS4.old (by simp))⟩
set_option maxRecDepth 100000 in
set_option maxHeartbeats 800000 in
theorem containsP_any (A : Option Addr) (n c : Nat) (l : List PV) (f : Nat) (cap : Array Value) (pr : PV → Bool) (W : World) (hn : n ≤ 100000) (hR : Reads W W.heap.size 7 A n (rowC PV.cells l)) (hcl : ∀ w z, Below W.heap.size W w → Calls Try.prog f (#[.agg (PV.cells z).toArray] ++ cap) w fun r w' => r = .returned (.bool (pr z)) ∧ Below w.heap.size w w') (hfn : ∀ xs w, (callFunc f xs).run Try.prog w = .ok (.enter f xs) w) :
    Calls Try.prog 41 #[.slice A n c, .func (.func f) #[] cap] W (fun r w' => r = .returned (.bool (l.any pr)) ∧ Below W.heap.size W w') := by
  have hS := S.start W
  refine calls_walk Try.func41 rfl fun R_ hR_ a hz hd hargs => ?_
  replace hz : a.tmps.size = 9 := hz.trans (by kernel_rfl)
  have s0 := hargs 0 _ rfl
  have s1 := hargs 1 _ rfl
  clear hargs
  refine wp_seq ?_
  refine seq_l [] hz ?_
  refine ⟨.bool false, fun _ h_ => rk (run_assign rfl rfl), ?_⟩
  intro a2 hput
  replace s0 := hput.o 0 s0
  replace s1 := hput.o 1 s1
  have s4 : sl a2 4 = .bool false := hput.new 0 4 rfl
  replace hz := hput.size.trans hz
  replace hd := hput.defers.trans hd
  clear hput
  change Code.wp _ _ _ _ _
  refine wp_seq ?_
  refine seq_l [2] hz ?_
  refine ⟨.slice A n c, fun _ h_ => rmv (h_.b 0 s0),
   .func (.func f) #[] cap, fun _ h_ => rmv (h_.b 1 s1), ?_⟩
  refine ⟨fun a_ h_ => st_call (on_none rfl) (run_call rfl (map2 (h_.d 0 5) (h_.d 1 6)) rfl) (indexP_any A n c l f cap pr _ hn (hR.old (hS.old (by simp))) (fun w z hb => hcl w z ((hS.old (by simp)).trans (hb.mono (hS.old (by simp)).size))) hfn) ?_, trivial⟩
  rintro e w4 ⟨rfl, hb4⟩
  refine ⟨_, rfl, _, rfl, ?_⟩
  clear h_ a_
  have hS4 := hS.below hb4
  clear hS hb4
  refine ⟨.bool (decide ((0 : Int) ≤ idxF pr l)), fun _ h_ => rk (run_cmp rfl (h_.d 2 7) rfl rfl (by first | rfl | exact neq_dec _ _ | exact eq_dec _ _ | simp)),
   .bool (decide ((0 : Int) ≤ idxF pr l)), fun _ h_ => ras (h_.d 3 8), ?_⟩
  intro a3 hput
  replace s4 : sl a3 4 = .bool (decide ((0 : Int) ≤ idxF pr l)) := hput.new 4 4 rfl
  replace hz := hput.size.trans hz
  replace hd := hput.defers.trans hd
  clear hput s0 s1
  change Code.wp _ _ _ _ _
  refine wp_ret ?_
  refine ret1 (P := Try.prog) (fn := Try.f41) hd s4 (hR_ _ _ ?_)
  exact ⟨by rw [idxF_any], (hS4.old (by simp))⟩
/-- how a router stands on a network -/
structure VV where
  lan : Int
  cost : Int
  self : Int
  prio : Int
  state : Int
  dr : Int
  bdr : Int
  peers : List PV
structure VP where
  A : Option Addr
  c : Nat
  B : Option Addr
  m : Nat
  d : Nat
abbrev viewA (v : VV) (p : VP) : Array Value := #[.int .i64 v.lan, .int .i64 v.cost, .int .i64 v.self, .int .i64 v.prio, .int .i64 v.state, .int .i64 v.dr, .int .i64 v.bdr, .slice p.A v.peers.length p.c, .slice p.B p.m p.d]
abbrev VOK (w : World) (v : VV) (p : VP) : Prop := Reads w w.heap.size 7 p.A v.peers.length (rowC PV.cells v.peers)
set_option maxRecDepth 100000 in
set_option maxHeartbeats 800000 in
theorem full_any (v : VV) (p : VP) (id : Int) (W : World) (hv : VOK W v p) (hn : v.peers.length ≤ 30) :
    Calls Try.prog 29 #[.agg #[i6 v.lan, i6 v.cost, i6 v.self, i6 v.prio, i6 v.state, i6 v.dr, i6 v.bdr, .slice p.A v.peers.length p.c, .slice p.B p.m p.d], i6 id] W (fun r w' => r = .returned (.bool (v.peers.any (fullB id))) ∧ Below W.heap.size W w') := by
  have hS := S.start W
  refine calls_walk Try.func29 rfl fun R_ hR_ a hz hd hargs => ?_
  replace hz : a.tmps.size = 9 := hz.trans (by kernel_rfl)
  have s0 := hargs 0 _ rfl
  have s1 := hargs 1 _ rfl
  clear hargs
  refine wp_seq ?_
  refine seq_l [0, 1] hz ?_
  refine ⟨fun a_ h_ => st_box (cells := #[i6 v.lan, i6 v.cost, i6 v.self, i6 v.prio, i6 v.state, i6 v.dr, i6 v.bdr, .slice p.A v.peers.length p.c, .slice p.B p.m p.d]) hS (on_none rfl) rfl (h_.b 0 s0) (by kernel_rfl) fun g3 w3 hS3 hb3 => ⟨_, rfl, ?_⟩, trivial⟩
  clear h_ a_ hS
  clear hb3
  refine ⟨fun a_ h_ => st_box (cells := #[i6 id]) hS3 (on_none rfl) rfl (h_.b 1 s1) (by kernel_rfl) fun g4 w4 hS4 hb4 => ⟨_, rfl, ?_⟩, trivial⟩
  clear h_ a_ hS3
  clear hb4
  refine ⟨.bool false, fun _ h_ => rk (run_assign rfl rfl), ?_⟩
  intro a2 hput
  have s2 : sl a2 2 = pt g3 0 := hput.new 0 2 rfl
  have s3 : sl a2 3 = pt g4 0 := hput.new 1 3 rfl
  have s4 : sl a2 4 = .bool false := hput.new 2 4 rfl
  replace hz := hput.size.trans hz
  replace hd := hput.defers.trans hd
  clear hput s0 s1
  change Code.wp _ _ _ _ _
  refine wp_seq ?_
  refine seq_l [3] hz ?_
  refine ⟨pt g3 7, fun _ h_ => rk (fa 7 rfl (h_.b 2 s2)),
   .slice p.A v.peers.length p.c, fun _ h_ => rk (ld hS4 1 rfl (h_.d 0 5)),
   .func (.func 42) #[] #[pt g4 0], fun _ h_ => rk (run_makeFunc rfl (by simp) (map1 (h_.b 3 s3))), ?_⟩
  refine ⟨fun a_ h_ => st_call (on_none rfl) (run_call rfl (map2 (h_.d 1 6) (h_.d 2 7)) rfl) (containsP_any p.A _ p.c v.peers 42 _ (fullB id) _ (by omega) (Reads.old hv (hS4.old (by simp))) (fun w z hb => full1_any z id g4 w ((hS4.blk (i := 0) rfl).below hb (hS4.blk (i := 0) rfl).lt)) (fun _ _ => by kernel_rfl)) ?_, trivial⟩
  rintro e w6 ⟨rfl, hb6⟩
  refine ⟨_, rfl, _, rfl, ?_⟩
  clear h_ a_
  have hS6 := hS4.below hb6
  clear hS4 hb6
  refine ⟨.bool (v.peers.any (fullB id)), fun _ h_ => ras (h_.d 3 8), ?_⟩
  intro a5 hput
  replace s4 : sl a5 4 = .bool (v.peers.any (fullB id)) := hput.new 4 4 rfl
  replace hz := hput.size.trans hz
  replace hd := hput.defers.trans hd
  clear hput s2 s3
  change Code.wp _ _ _ _ _
  refine wp_ret ?_
  refine ret1 (P := Try.prog) (fn := Try.f29) hd s4 (hR_ _ _ ?_)
  exact ⟨rfl, (hS6.old (by simp))⟩
theorem any_next {α : Type} {l : List α} {k : Nat} {x : α} {p : α → Bool} (h : (l.take k).any p = false) (hx : l[k]? = some x) (hp : p x = false) : (l.take (k + 1)).any p = false := by
  rw [take_snoc l k x hx, List.any_append, h]; simp [hp]
theorem any_hit {α : Type} {l : List α} {k : Nat} {x : α} {p : α → Bool} (hx : l[k]? = some x) (hp : p x = true) : l.any p = true := List.any_eq_true.2 ⟨x, List.mem_of_getElem? hx, hp⟩
set_option maxRecDepth 100000 in
set_option maxHeartbeats 800000 in
theorem refFull_any (v : VV) (p : VP) (id : Int) (W : World) (hv : VOK W v p) (hn : v.peers.length ≤ 30) :
    Calls Try.prog 31 #[.agg #[i6 v.lan, i6 v.cost, i6 v.self, i6 v.prio, i6 v.state, i6 v.dr, i6 v.bdr, .slice p.A v.peers.length p.c, .slice p.B p.m p.d], i6 id] W (fun r w' => r = .returned (.bool (v.peers.any (fullB id))) ∧ Below W.heap.size W w') := by
  have hS := S.start W
  refine calls_walk Try.func31 rfl fun R_ hR_ a hz hd hargs => ?_
  replace hz : a.tmps.size = 34 := hz.trans (by kernel_rfl)
  have s0 := hargs 0 _ rfl
  have s1 := hargs 1 _ rfl
  clear hargs
  refine wp_seq ?_
  refine seq_l [0] hz ?_
  refine ⟨fun a_ h_ => st_box (cells := #[i6 v.lan, i6 v.cost, i6 v.self, i6 v.prio, i6 v.state, i6 v.dr, i6 v.bdr, .slice p.A v.peers.length p.c, .slice p.B p.m p.d]) hS (on_none rfl) rfl (h_.b 0 s0) (by kernel_rfl) fun g3 w3 hS3 hb3 => ⟨_, rfl, ?_⟩, trivial⟩
  clear h_ a_ hS
  clear hb3
  refine ⟨.bool false, fun _ h_ => rk (run_assign rfl rfl), ?_⟩
  intro a2 hput
  replace s1 := hput.o 1 s1
  have s2 : sl a2 2 = pt g3 0 := hput.new 0 2 rfl
  have s4 : sl a2 4 = .bool false := hput.new 1 4 rfl
  replace hz := hput.size.trans hz
  replace hd := hput.defers.trans hd
  clear hput s0
  change Code.wp _ _ _ _ _
  refine wp_seq ?_
  refine wp_seq ?_
  refine seq_l [] hz ?_
  refine ⟨i6 0, fun _ h_ => rk (run_assign rfl rfl), ?_⟩
  intro a4 hput
  replace s1 := hput.o 1 s1
  replace s2 := hput.o 2 s2
  replace s4 := hput.o 4 s4
  have s5 : sl a4 5 = i6 0 := hput.new 0 5 rfl
  replace hz := hput.size.trans hz
  replace hd := hput.defers.trans hd
  clear hput
  change Code.wp _ _ _ _ _
  refine wp_block ?_
  refine wp_loop (fun a w => ∃ k : Nat, (k ≤ v.peers.length) ∧ ((v.peers.take k).any (fullB id) = false) ∧ a.tmps.size = 34 ∧ a.defers = [] ∧ sl a 1 = i6 id ∧ sl a 2 = pt g3 0 ∧ sl a 4 = .bool false ∧ sl a 5 = i6 k ∧ S (kap W) ((blkA g3 48 #[i6 v.lan, i6 v.cost, i6 v.self, i6 v.prio, i6 v.state, i6 v.dr, i6 v.bdr, .slice p.A v.peers.length p.c, .slice p.B p.m p.d]) :: []) ((memA W W.heap.size) :: []) w) (fun a _ => v.peers.length - (intOf (sl a 5)).toNat) ?_ ?_
  · exact ⟨0, Nat.zero_le _, rfl, hz, hd, s1, s2, s4, s5, hS3⟩
  · clear hz hd s1 s2 s4 s5 hS3
    rintro a5 w5 ⟨k, hc0_0, hc0_1, hz, hd, s1, s2, s4, s5, hS5⟩
    have hmu0 := s5
    refine wp_seq ?_
    refine wp_seq ?_
    refine seq_l [] hz ?_
    refine ⟨i6 k, fun _ h_ => rmv (h_.b 5 s5),
     pt g3 7, fun _ h_ => rk (fa 7 rfl (h_.b 2 s2)),
     .slice p.A v.peers.length p.c, fun _ h_ => rk (ld hS5 0 rfl (h_.d 1 7)),
     i6 v.peers.length, fun _ h_ => rk (run_lenS rfl (h_.d 2 8) (by kernel_rfl)),
     .bool (decide ((k : Int) < v.peers.length)), fun _ h_ => rk (run_cmp rfl (h_.d 0 6) (h_.d 3 9) rfl (by first | rfl | exact neq_dec _ _ | exact eq_dec _ _ | simp)), ?_⟩
    intro a6 hput
    replace s1 := hput.o 1 s1
    replace s2 := hput.o 2 s2
    replace s4 := hput.o 4 s4
    replace s5 := hput.o 5 s5
    have s6 : sl a6 6 = i6 k := hput.new 0 6 rfl
    have s7 : sl a6 7 = pt g3 7 := hput.new 1 7 rfl
    have s8 : sl a6 8 = .slice p.A v.peers.length p.c := hput.new 2 8 rfl
    have s9 : sl a6 9 = i6 v.peers.length := hput.new 3 9 rfl
    have s10 : sl a6 10 = .bool (decide ((k : Int) < v.peers.length)) := hput.new 4 10 rfl
    replace hz := hput.size.trans hz
    replace hd := hput.defers.trans hd
    clear hput
    change Code.wp _ _ _ _ _
    refine wp_cond_d s10 (fun hc10 => ?_) (fun hc10 => ?_)
    · clear s10
      refine wp_skip ?_
      change Code.wp _ _ _ _ _
      refine wp_seq ?_
      refine wp_block ?_
      refine wp_seq ?_
      refine seq_l [] hz ?_
      refine ⟨pt g3 7, fun _ h_ => rk (fa 7 rfl (h_.b 2 s2)),
       .slice p.A v.peers.length p.c, fun _ h_ => rk (ld hS5 0 rfl (h_.d 0 13)),
       i6 k, fun _ h_ => rmv (h_.b 5 s5), ?_⟩
      obtain ⟨b8, o8, z8, hA8, hb8, hz8, hq8⟩ := Reads.row_at PV.cells 7 PV.cells_len (k := k) (Reads.old hv (hS5.old (by simp))) (by decide) (by omega)
      refine ⟨pt b8 (o8 + k * 7), fun _ h_ => rk (run_indexV (size := 7) rfl (h_.d 1 14) hA8 (h_.d 2 15) (by kernel_rfl) (by omega) (by simp)),
       pt b8 (o8 + k * 7 + 4), fun _ h_ => rk (fa 4 rfl (h_.d 3 16)),
       i6 z8.state, fun _ h_ => rk (run_load rfl (h_.d 4 17) (by kernel_rfl) (show w5.cell? ⟨b8, o8 + k * 7 + 4, none⟩ = some (i6 z8.state) from hq8 4 _ rfl)),
       .bool (decide ((z8.state : Int) = 6)), fun _ h_ => rk (run_cmp rfl (h_.d 5 18) rfl rfl (by first | rfl | exact neq_dec _ _ | exact eq_dec _ _ | simp)),
       .bool (decide ((z8.state : Int) = 6)), fun _ h_ => rmv (h_.d 6 19), ?_⟩
      rcases dt ((z8.state : Int) = 6) with ⟨he, hg7⟩ | ⟨he, hg7⟩
      · rw [he]
        clear he
        refine ⟨i6 id, fun _ h_ => r_ok (h_.on 7 20) (run_move rfl (h_.b 1 s1)),
         .bool (decide ((id : Int) = 0)), fun _ h_ => r_ok (h_.on 7 20) (run_cmp rfl (h_.d 8 21) rfl rfl (by first | rfl | exact neq_dec _ _ | exact eq_dec _ _ | simp)),
         .bool (decide ((id : Int) = 0)), fun _ h_ => r_ok (h_.on 7 20) (run_move rfl (h_.d 9 22)), ?_⟩
        rcases dt ((id : Int) = 0) with ⟨he, hg10⟩ | ⟨he, hg10⟩
        · rw [he]
          clear he
          refine seq_off (j := 10) (d := 23) (b := false) [11, 12, 13, 14, 15, 16, 17, 18] _ (by kernel_rfl) (.inl rfl) ?_
          refine ⟨.bool true, fun _ h_ => r_ok (h_.on 7 20) (run_pick_t rfl (h_.d 10 23) rfl),
           .bool true, fun _ h_ => rk (run_pick_t rfl (h_.d 7 20) (h_.d 19 32)), ?_⟩
          intro a7 hput
          replace s1 := hput.o 1 s1
          replace s2 := hput.o 2 s2
          replace s4 := hput.o 4 s4
          replace s5 := hput.o 5 s5
          replace s6 := hput.o 6 s6
          replace s7 := hput.o 7 s7
          replace s8 := hput.o 8 s8
          replace s9 := hput.o 9 s9
          have s13 : sl a7 13 = pt g3 7 := hput.new 0 13 rfl
          have s14 : sl a7 14 = .slice p.A v.peers.length p.c := hput.new 1 14 rfl
          have s15 : sl a7 15 = i6 k := hput.new 2 15 rfl
          have s16 : sl a7 16 = pt b8 (o8 + k * 7) := hput.new 3 16 rfl
          have s17 : sl a7 17 = pt b8 (o8 + k * 7 + 4) := hput.new 4 17 rfl
          have s18 : sl a7 18 = i6 z8.state := hput.new 5 18 rfl
          have s19 : sl a7 19 = .bool true := hput.new 6 19 rfl
          have s20 : sl a7 20 = .bool true := hput.new 7 20 rfl
          have s21 : sl a7 21 = i6 id := hput.new 8 21 rfl
          have s22 : sl a7 22 = .bool true := hput.new 9 22 rfl
          have s23 : sl a7 23 = .bool true := hput.new 10 23 rfl
          have s32 : sl a7 32 = .bool true := hput.new 19 32 rfl
          have s33 : sl a7 33 = .bool true := hput.new 20 33 rfl
          replace hz := hput.size.trans hz
          replace hd := hput.defers.trans hd
          clear hput
          change Code.wp _ _ _ _ _
          refine wp_cond_true s33 ?_
          refine wp_seq ?_
          refine seq_l [] hz ?_
          refine ⟨.bool true, fun _ h_ => rk (run_assign rfl rfl), ?_⟩
          intro a9 hput
          replace s1 := hput.o 1 s1
          replace s2 := hput.o 2 s2
          replace s4 : sl a9 4 = .bool true := hput.new 0 4 rfl
          replace s5 := hput.o 5 s5
          replace s6 := hput.o 6 s6
          replace s7 := hput.o 7 s7
          replace s8 := hput.o 8 s8
          replace s9 := hput.o 9 s9
          replace s13 := hput.o 13 s13
          replace s14 := hput.o 14 s14
          replace s15 := hput.o 15 s15
          replace s16 := hput.o 16 s16
          replace s17 := hput.o 17 s17
          replace s18 := hput.o 18 s18
          replace s19 := hput.o 19 s19
          replace s20 := hput.o 20 s20
          replace s21 := hput.o 21 s21
          replace s22 := hput.o 22 s22
          replace s23 := hput.o 23 s23
          replace s32 := hput.o 32 s32
          replace s33 := hput.o 33 s33
          replace hz := hput.size.trans hz
          replace hd := hput.defers.trans hd
          clear hput
          change Code.wp _ _ _ _ _
          refine wp_ret ?_
          refine ret1 (P := Try.prog) (fn := Try.f31) hd s4 (hR_ _ _ ?_)
          exact ⟨by rw [any_hit hz8 (by unfold fullB; simp_all)], (hS5.old (by simp))⟩
        · rw [he]
          clear he
          refine ⟨pt g3 7, fun _ h_ => r_ok (h_.on 10 23) (fa 7 rfl (h_.b 2 s2)),
           .slice p.A v.peers.length p.c, fun _ h_ => r_ok (h_.on 10 23) (ld hS5 0 rfl (h_.d 11 24)),
           i6 k, fun _ h_ => r_ok (h_.on 10 23) (run_move rfl (h_.b 5 s5)), ?_⟩
          obtain ⟨b10, o10, z10, hA10, hb10, hz10, hq10⟩ := Reads.row_at PV.cells 7 PV.cells_len (k := k) (Reads.old hv (hS5.old (by simp))) (by decide) (by omega)
          obtain rfl : z8 = z10 := Option.some.inj (hz8.symm.trans hz10)
          refine ⟨pt b10 (o10 + k * 7), fun _ h_ => r_ok (h_.on 10 23) (run_indexV (size := 7) rfl (h_.d 12 25) hA10 (h_.d 13 26) (by kernel_rfl) (by omega) (by simp)),
           pt b10 (o10 + k * 7), fun _ h_ => r_ok (h_.on 10 23) (fa 0 rfl (h_.d 14 27)),
           i6 z8.id, fun _ h_ => r_ok (h_.on 10 23) (run_load rfl (h_.d 15 28) (by kernel_rfl) (show w5.cell? ⟨b10, o10 + k * 7 + 0, none⟩ = some (i6 z8.id) from hq10 0 _ rfl)),
           i6 id, fun _ h_ => r_ok (h_.on 10 23) (run_move rfl (h_.b 1 s1)),
           .bool (decide ((z8.id : Int) = id)), fun _ h_ => r_ok (h_.on 10 23) (run_cmp rfl (h_.d 16 29) (h_.d 17 30) rfl (by first | rfl | exact neq_dec _ _ | exact eq_dec _ _ | simp)),
           .bool (decide ((z8.id : Int) = id)), fun _ h_ => r_ok (h_.on 7 20) (run_pick_f rfl (h_.d 10 23) (h_.d 18 31)),
           .bool (decide ((z8.id : Int) = id)), fun _ h_ => rk (run_pick_t rfl (h_.d 7 20) (h_.d 19 32)), ?_⟩
          intro a7 hput
          replace s1 := hput.o 1 s1
          replace s2 := hput.o 2 s2
          replace s4 := hput.o 4 s4
          replace s5 := hput.o 5 s5
          replace s6 := hput.o 6 s6
          replace s7 := hput.o 7 s7
          replace s8 := hput.o 8 s8
          replace s9 := hput.o 9 s9
          have s13 : sl a7 13 = pt g3 7 := hput.new 0 13 rfl
          have s14 : sl a7 14 = .slice p.A v.peers.length p.c := hput.new 1 14 rfl
          have s15 : sl a7 15 = i6 k := hput.new 2 15 rfl
          have s16 : sl a7 16 = pt b8 (o8 + k * 7) := hput.new 3 16 rfl
          have s17 : sl a7 17 = pt b8 (o8 + k * 7 + 4) := hput.new 4 17 rfl
          have s18 : sl a7 18 = i6 z8.state := hput.new 5 18 rfl
          have s19 : sl a7 19 = .bool true := hput.new 6 19 rfl
          have s20 : sl a7 20 = .bool true := hput.new 7 20 rfl
          have s21 : sl a7 21 = i6 id := hput.new 8 21 rfl
          have s22 : sl a7 22 = .bool false := hput.new 9 22 rfl
          have s23 : sl a7 23 = .bool false := hput.new 10 23 rfl
          have s24 : sl a7 24 = pt g3 7 := hput.new 11 24 rfl
          have s25 : sl a7 25 = .slice p.A v.peers.length p.c := hput.new 12 25 rfl
          have s26 : sl a7 26 = i6 k := hput.new 13 26 rfl
          have s27 : sl a7 27 = pt b10 (o10 + k * 7) := hput.new 14 27 rfl
          have s28 : sl a7 28 = pt b10 (o10 + k * 7) := hput.new 15 28 rfl
          have s29 : sl a7 29 = i6 z8.id := hput.new 16 29 rfl
          have s30 : sl a7 30 = i6 id := hput.new 17 30 rfl
          have s31 : sl a7 31 = .bool (decide ((z8.id : Int) = id)) := hput.new 18 31 rfl
          have s32 : sl a7 32 = .bool (decide ((z8.id : Int) = id)) := hput.new 19 32 rfl
          have s33 : sl a7 33 = .bool (decide ((z8.id : Int) = id)) := hput.new 20 33 rfl
          replace hz := hput.size.trans hz
          replace hd := hput.defers.trans hd
          clear hput
          change Code.wp _ _ _ _ _
          refine wp_cond_d s33 (fun hc33 => ?_) (fun hc33 => ?_)
          · clear s33
            refine wp_seq ?_
            refine seq_l [] hz ?_
            refine ⟨.bool true, fun _ h_ => rk (run_assign rfl rfl), ?_⟩
            intro a11 hput
            replace s1 := hput.o 1 s1
            replace s2 := hput.o 2 s2
            replace s4 : sl a11 4 = .bool true := hput.new 0 4 rfl
            replace s5 := hput.o 5 s5
            replace s6 := hput.o 6 s6
            replace s7 := hput.o 7 s7
            replace s8 := hput.o 8 s8
            replace s9 := hput.o 9 s9
            replace s13 := hput.o 13 s13
            replace s14 := hput.o 14 s14
            replace s15 := hput.o 15 s15
            replace s16 := hput.o 16 s16
            replace s17 := hput.o 17 s17
            replace s18 := hput.o 18 s18
            replace s19 := hput.o 19 s19
            replace s20 := hput.o 20 s20
            replace s21 := hput.o 21 s21
            replace s22 := hput.o 22 s22
            replace s23 := hput.o 23 s23
            replace s24 := hput.o 24 s24
            replace s25 := hput.o 25 s25
            replace s26 := hput.o 26 s26
            replace s27 := hput.o 27 s27
            replace s28 := hput.o 28 s28
            replace s29 := hput.o 29 s29
            replace s30 := hput.o 30 s30
            replace s31 := hput.o 31 s31
            replace s32 := hput.o 32 s32
            replace hz := hput.size.trans hz
            replace hd := hput.defers.trans hd
            clear hput
            change Code.wp _ _ _ _ _
            refine wp_ret ?_
            refine ret1 (P := Try.prog) (fn := Try.f31) hd s4 (hR_ _ _ ?_)
            exact ⟨by rw [any_hit hz8 (by unfold fullB; simp_all)], (hS5.old (by simp))⟩
          · clear s33
            refine wp_skip ?_
            change Code.wp _ _ _ _ _
            refine seq_l [] hz ?_
            refine ⟨i6 k, fun _ h_ => rmv (h_.b 5 s5),
             i6 (k + 1), fun _ h_ => rk (run_addI rfl (h_.d 0 11) rfl (by omega) rfl),
             i6 (k + 1), fun _ h_ => ras (h_.d 1 12), ?_⟩
            intro a12 hput
            replace s1 := hput.o 1 s1
            replace s2 := hput.o 2 s2
            replace s4 := hput.o 4 s4
            replace s5 : sl a12 5 = i6 (k + 1) := hput.new 2 5 rfl
            replace s6 := hput.o 6 s6
            replace s7 := hput.o 7 s7
            replace s8 := hput.o 8 s8
            replace s9 := hput.o 9 s9
            have s11 : sl a12 11 = i6 k := hput.new 0 11 rfl
            have s12 : sl a12 12 = i6 (k + 1) := hput.new 1 12 rfl
            replace s13 := hput.o 13 s13
            replace s14 := hput.o 14 s14
            replace s15 := hput.o 15 s15
            replace s16 := hput.o 16 s16
            replace s17 := hput.o 17 s17
            replace s18 := hput.o 18 s18
            replace s19 := hput.o 19 s19
            replace s20 := hput.o 20 s20
            replace s21 := hput.o 21 s21
            replace s22 := hput.o 22 s22
            replace s23 := hput.o 23 s23
            replace s24 := hput.o 24 s24
            replace s25 := hput.o 25 s25
            replace s26 := hput.o 26 s26
            replace s27 := hput.o 27 s27
            replace s28 := hput.o 28 s28
            replace s29 := hput.o 29 s29
            replace s30 := hput.o 30 s30
            replace s31 := hput.o 31 s31
            replace s32 := hput.o 32 s32
            replace hz := hput.size.trans hz
            replace hd := hput.defers.trans hd
            clear hput
            refine ⟨⟨k + 1, by omega, any_next hc0_1 hz8 (by unfold fullB; simp_all), hz, hd, s1, s2, s4, s5, hS5⟩, ?_⟩
            show v.peers.length - (intOf (sl a12 5)).toNat < v.peers.length - (intOf (sl a5 5)).toNat
            rw [show sl a12 5 = _ from s5, show sl a5 5 = _ from hmu0]
            simp only [intOf]
            omega
      · rw [he]
        clear he
        refine seq_off (j := 7) (d := 20) (b := true) [8, 9, 10] _ (by kernel_rfl) (.inl rfl) ?_
        refine seq_off (j := 10) (d := 23) (b := false) [11, 12, 13, 14, 15, 16, 17, 18] _ (by kernel_rfl) (.inr rfl) ?_
        refine seq_off (j := 7) (d := 20) (b := true) [19] _ (by kernel_rfl) (.inl rfl) ?_
        refine ⟨.bool false, fun _ h_ => rk (run_pick_f rfl (h_.d 7 20) rfl), ?_⟩
        intro a7 hput
        replace s1 := hput.o 1 s1
        replace s2 := hput.o 2 s2
        replace s4 := hput.o 4 s4
        replace s5 := hput.o 5 s5
        replace s6 := hput.o 6 s6
        replace s7 := hput.o 7 s7
        replace s8 := hput.o 8 s8
        replace s9 := hput.o 9 s9
        have s13 : sl a7 13 = pt g3 7 := hput.new 0 13 rfl
        have s14 : sl a7 14 = .slice p.A v.peers.length p.c := hput.new 1 14 rfl
        have s15 : sl a7 15 = i6 k := hput.new 2 15 rfl
        have s16 : sl a7 16 = pt b8 (o8 + k * 7) := hput.new 3 16 rfl
        have s17 : sl a7 17 = pt b8 (o8 + k * 7 + 4) := hput.new 4 17 rfl
        have s18 : sl a7 18 = i6 z8.state := hput.new 5 18 rfl
        have s19 : sl a7 19 = .bool false := hput.new 6 19 rfl
        have s20 : sl a7 20 = .bool false := hput.new 7 20 rfl
        have s33 : sl a7 33 = .bool false := hput.new 20 33 rfl
        replace hz := hput.size.trans hz
        replace hd := hput.defers.trans hd
        clear hput
        change Code.wp _ _ _ _ _
        refine wp_cond_false s33 ?_
        refine wp_skip ?_
        change Code.wp _ _ _ _ _
        refine seq_l [] hz ?_
        refine ⟨i6 k, fun _ h_ => rmv (h_.b 5 s5),
         i6 (k + 1), fun _ h_ => rk (run_addI rfl (h_.d 0 11) rfl (by omega) rfl),
         i6 (k + 1), fun _ h_ => ras (h_.d 1 12), ?_⟩
        intro a13 hput
        replace s1 := hput.o 1 s1
        replace s2 := hput.o 2 s2
        replace s4 := hput.o 4 s4
        replace s5 : sl a13 5 = i6 (k + 1) := hput.new 2 5 rfl
        replace s6 := hput.o 6 s6
        replace s7 := hput.o 7 s7
        replace s8 := hput.o 8 s8
        replace s9 := hput.o 9 s9
        have s11 : sl a13 11 = i6 k := hput.new 0 11 rfl
        have s12 : sl a13 12 = i6 (k + 1) := hput.new 1 12 rfl
        replace s13 := hput.o 13 s13
        replace s14 := hput.o 14 s14
        replace s15 := hput.o 15 s15
        replace s16 := hput.o 16 s16
        replace s17 := hput.o 17 s17
        replace s18 := hput.o 18 s18
        replace s19 := hput.o 19 s19
        replace s20 := hput.o 20 s20
        replace s33 := hput.o 33 s33
        replace hz := hput.size.trans hz
        replace hd := hput.defers.trans hd
        clear hput
        refine ⟨⟨k + 1, by omega, any_next hc0_1 hz8 (by unfold fullB; simp_all), hz, hd, s1, s2, s4, s5, hS5⟩, ?_⟩
        show v.peers.length - (intOf (sl a13 5)).toNat < v.peers.length - (intOf (sl a5 5)).toNat
        rw [show sl a13 5 = _ from s5, show sl a5 5 = _ from hmu0]
        simp only [intOf]
        omega
    · clear s10
      refine wp_exit ?_
      change Code.wp _ _ _ _ _
      refine wp_seq ?_
      refine seq_l [] hz ?_
      refine ⟨.bool false, fun _ h_ => rk (run_assign rfl rfl), ?_⟩
      intro a14 hput
      replace s4 : sl a14 4 = .bool false := hput.new 0 4 rfl
      replace hz := hput.size.trans hz
      replace hd := hput.defers.trans hd
      clear hput s1 s2 s5 s6 s7 s8 s9
      change Code.wp _ _ _ _ _
      refine wp_ret ?_
      refine ret1 (P := Try.prog) (fn := Try.f31) hd s4 (hR_ _ _ ?_)
      exact ⟨by rw [← List.take_of_length_le (l := v.peers) (i := k) (by omega), hc0_1], (hS5.old (by simp))⟩
end Go.Proofs.Ytmklebkldailnaa
