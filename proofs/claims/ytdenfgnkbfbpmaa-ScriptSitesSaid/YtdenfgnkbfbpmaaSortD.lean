/-
  slices.SortFunc of what is sorted: nothing turns.
-/
import Derived.Test.YtdenfgnkbfbpmaaIdx
namespace Go.Proofs.Ytdenfgnkbfbpmaa
open Go.RowKit
set_option linter.unusedSimpArgs false
set_option linter.unusedVariables false

set_option maxRecDepth 100000 in
set_option maxHeartbeats 800000 in
theorem isNaN_any (x : Int) (W : World) :
    Calls Try.prog 83 #[i6 x] W (fun r w' => r = .returned (.bool false) ∧ Below W.heap.size W w') := by
  have hS := S.start W
  refine calls_walk Try.func83 rfl fun R_ hR_ a hz hd hargs => ?_
  replace hz : a.tmps.size = 6 := hz.trans (by kernel_rfl)
  have s0 := hargs 0 _ rfl
  clear hargs
  refine wp_seq ?_
  refine seq_l [] hz ?_
  refine ⟨.bool false, fun _ h_ => rk (run_assign rfl rfl), ?_⟩
  intro a2 hput
  replace s0 := hput.o 0 s0
  have s2 : sl a2 2 = .bool false := hput.new 0 2 rfl
  replace hz := hput.size.trans hz
  replace hd := hput.defers.trans hd
  clear hput
  change Code.wp _ _ _ _ _
  refine wp_seq ?_
  refine seq_l [] hz ?_
  refine ⟨i6 x, fun _ h_ => rmv (h_.b 0 s0),
   i6 x, fun _ h_ => rmv (h_.b 0 s0),
   .bool false, fun _ h_ => rk (run_cmp rfl (h_.d 0 3) (h_.d 1 4) rfl (by simp)),
   .bool false, fun _ h_ => ras (h_.d 2 5), ?_⟩
  intro a3 hput
  replace s2 : sl a3 2 = .bool false := hput.new 3 2 rfl
  replace hz := hput.size.trans hz
  replace hd := hput.defers.trans hd
  clear hput s0
  change Code.wp _ _ _ _ _
  refine wp_ret ?_
  refine ret1 (P := Try.prog) (fn := Try.f83) hd s2 (hR_ _ _ ?_)
  exact ⟨rfl, (hS.old (by simp))⟩
def cmpF (x y : Int) : Int := if x < y then -1 else if y < x then 1 else 0
set_option maxRecDepth 100000 in
set_option maxHeartbeats 800000 in
theorem compare_any (x y : Int) (W : World) :
    Calls Try.prog 56 #[i6 x, i6 y] W (fun r w' => r = .returned (.int .i64 (cmpF x y)) ∧ Below W.heap.size W w') := by
  have hS := S.start W
  refine calls_walk Try.func56 rfl fun R_ hR_ a hz hd hargs => ?_
  replace hz : a.tmps.size = 20 := hz.trans (by kernel_rfl)
  have s0 := hargs 0 _ rfl
  have s1 := hargs 1 _ rfl
  clear hargs
  refine wp_seq ?_
  refine seq_l [] hz ?_
  refine ⟨i6 0, fun _ h_ => rk (run_assign rfl rfl), ?_⟩
  intro a2 hput
  replace s0 := hput.o 0 s0
  replace s1 := hput.o 1 s1
  have s4 : sl a2 4 = i6 0 := hput.new 0 4 rfl
  replace hz := hput.size.trans hz
  replace hd := hput.defers.trans hd
  clear hput
  change Code.wp _ _ _ _ _
  refine wp_seq ?_
  refine seq_l [1] hz ?_
  refine ⟨i6 x, fun _ h_ => rmv (h_.b 0 s0), ?_⟩
  refine ⟨fun a_ h_ => st_call (on_none rfl) (run_call rfl (map1 (h_.d 0 7)) rfl) (isNaN_any x _) ?_, trivial⟩
  rintro e w4 ⟨rfl, hb4⟩
  refine ⟨_, rfl, _, rfl, ?_⟩
  clear h_ a_
  have hS4 := hS.below hb4
  clear hS hb4
  refine ⟨.bool false, fun _ h_ => ras (h_.d 1 8), ?_⟩
  intro a3 hput
  replace s0 := hput.o 0 s0
  replace s1 := hput.o 1 s1
  replace s4 := hput.o 4 s4
  have s5 : sl a3 5 = .bool false := hput.new 2 5 rfl
  replace hz := hput.size.trans hz
  replace hd := hput.defers.trans hd
  clear hput
  change Code.wp _ _ _ _ _
  refine wp_seq ?_
  refine seq_l [1] hz ?_
  refine ⟨i6 y, fun _ h_ => rmv (h_.b 1 s1), ?_⟩
  refine ⟨fun a_ h_ => st_call (on_none rfl) (run_call rfl (map1 (h_.d 0 9)) rfl) (isNaN_any y _) ?_, trivial⟩
  rintro e w6 ⟨rfl, hb6⟩
  refine ⟨_, rfl, _, rfl, ?_⟩
  clear h_ a_
  have hS6 := hS4.below hb6
  clear hS4 hb6
  refine ⟨.bool false, fun _ h_ => ras (h_.d 1 10), ?_⟩
  intro a5 hput
  replace s0 := hput.o 0 s0
  replace s1 := hput.o 1 s1
  replace s4 := hput.o 4 s4
  replace s5 := hput.o 5 s5
  have s6 : sl a5 6 = .bool false := hput.new 2 6 rfl
  replace hz := hput.size.trans hz
  replace hd := hput.defers.trans hd
  clear hput
  change Code.wp _ _ _ _ _
  refine wp_seq ?_
  refine wp_seq ?_
  refine seq_l [] hz ?_
  refine ⟨.bool false, fun _ h_ => rmv (h_.b 5 s5), ?_⟩
  intro a7 hput
  replace s0 := hput.o 0 s0
  replace s1 := hput.o 1 s1
  replace s4 := hput.o 4 s4
  replace s6 := hput.o 6 s6
  have s11 : sl a7 11 = .bool false := hput.new 0 11 rfl
  replace hz := hput.size.trans hz
  replace hd := hput.defers.trans hd
  clear hput s5
  change Code.wp _ _ _ _ _
  refine wp_cond_false s11 ?_
  refine wp_skip ?_
  change Code.wp _ _ _ _ _
  refine wp_seq ?_
  refine wp_seq ?_
  refine seq_l [] hz ?_
  refine ⟨.bool false, fun _ h_ => rmv (h_.b 6 s6), ?_⟩
  intro a8 hput
  replace s0 := hput.o 0 s0
  replace s1 := hput.o 1 s1
  replace s4 := hput.o 4 s4
  have s13 : sl a8 13 = .bool false := hput.new 0 13 rfl
  replace hz := hput.size.trans hz
  replace hd := hput.defers.trans hd
  clear hput s6 s11
  change Code.wp _ _ _ _ _
  refine wp_cond_false s13 ?_
  refine wp_skip ?_
  change Code.wp _ _ _ _ _
  refine wp_seq ?_
  refine wp_seq ?_
  refine seq_l [] hz ?_
  refine ⟨i6 x, fun _ h_ => rmv (h_.b 0 s0),
   i6 y, fun _ h_ => rmv (h_.b 1 s1),
   .bool (decide ((x : Int) < y)), fun _ h_ => rk (run_cmp rfl (h_.d 0 14) (h_.d 1 15) rfl (by first | rfl | exact neq_dec _ _ | exact eq_dec _ _ | simp)), ?_⟩
  intro a9 hput
  replace s0 := hput.o 0 s0
  replace s1 := hput.o 1 s1
  replace s4 := hput.o 4 s4
  have s16 : sl a9 16 = .bool (decide ((x : Int) < y)) := hput.new 2 16 rfl
  replace hz := hput.size.trans hz
  replace hd := hput.defers.trans hd
  clear hput s13
  change Code.wp _ _ _ _ _
  refine wp_cond_d s16 (fun hc16 => ?_) (fun hc16 => ?_)
  · clear s16
    refine wp_seq ?_
    refine seq_l [] hz ?_
    refine ⟨i6 (-1), fun _ h_ => rk (run_assign rfl rfl), ?_⟩
    intro a10 hput
    replace s0 := hput.o 0 s0
    replace s1 := hput.o 1 s1
    replace s4 : sl a10 4 = i6 (-1) := hput.new 0 4 rfl
    replace hz := hput.size.trans hz
    replace hd := hput.defers.trans hd
    clear hput
    change Code.wp _ _ _ _ _
    refine wp_ret ?_
    refine ret1 (P := Try.prog) (fn := Try.f56) hd s4 (hR_ _ _ ?_)
    refine ⟨?_, (hS6.old (by simp))⟩
    congr 2
    unfold cmpF
    first | (rw [if_pos (by assumption)]) | (rw [if_neg (by assumption), if_pos (by assumption)]) | (rw [if_neg (by assumption), if_neg (by assumption)])
  · clear s16
    refine wp_skip ?_
    change Code.wp _ _ _ _ _
    refine wp_seq ?_
    refine wp_seq ?_
    refine seq_l [] hz ?_
    refine ⟨i6 x, fun _ h_ => rmv (h_.b 0 s0),
     i6 y, fun _ h_ => rmv (h_.b 1 s1),
     .bool (decide ((y : Int) < x)), fun _ h_ => rk (run_cmp rfl (h_.d 0 17) (h_.d 1 18) rfl (by first | rfl | exact neq_dec _ _ | exact eq_dec _ _ | simp)), ?_⟩
    intro a11 hput
    replace s4 := hput.o 4 s4
    have s19 : sl a11 19 = .bool (decide ((y : Int) < x)) := hput.new 2 19 rfl
    replace hz := hput.size.trans hz
    replace hd := hput.defers.trans hd
    clear hput s0 s1
    change Code.wp _ _ _ _ _
    refine wp_cond_d s19 (fun hc19 => ?_) (fun hc19 => ?_)
    · clear s19
      refine wp_seq ?_
      refine seq_l [] hz ?_
      refine ⟨i6 1, fun _ h_ => rk (run_assign rfl rfl), ?_⟩
      intro a12 hput
      replace s4 : sl a12 4 = i6 1 := hput.new 0 4 rfl
      replace hz := hput.size.trans hz
      replace hd := hput.defers.trans hd
      clear hput
      change Code.wp _ _ _ _ _
      refine wp_ret ?_
      refine ret1 (P := Try.prog) (fn := Try.f56) hd s4 (hR_ _ _ ?_)
      refine ⟨?_, (hS6.old (by simp))⟩
      congr 2
      unfold cmpF
      first | (rw [if_pos (by assumption)]) | (rw [if_neg (by assumption), if_pos (by assumption)]) | (rw [if_neg (by assumption), if_neg (by assumption)])
    · clear s19
      refine wp_skip ?_
      change Code.wp _ _ _ _ _
      refine wp_seq ?_
      refine seq_l [] hz ?_
      refine ⟨i6 0, fun _ h_ => rk (run_assign rfl rfl), ?_⟩
      intro a13 hput
      replace s4 : sl a13 4 = i6 0 := hput.new 0 4 rfl
      replace hz := hput.size.trans hz
      replace hd := hput.defers.trans hd
      clear hput
      change Code.wp _ _ _ _ _
      refine wp_ret ?_
      refine ret1 (P := Try.prog) (fn := Try.f56) hd s4 (hR_ _ _ ?_)
      refine ⟨?_, (hS6.old (by simp))⟩
      congr 2
      unfold cmpF
      first | (rw [if_pos (by assumption)]) | (rw [if_neg (by assumption), if_pos (by assumption)]) | (rw [if_neg (by assumption), if_neg (by assumption)])
set_option maxHeartbeats 4000000 in
set_option maxRecDepth 20000 in
theorem bits_any (n : Nat) (W : World) (hn : n ≤ 12) : Calls Try.prog 82 #[.int .u64 n] W fun r w' => (∃ z : Int, r = .returned (.int .i64 z)) ∧ Below W.heap.size W w' := by
  rcases (by omega : n = 0 ∨ n = 1 ∨ n = 2 ∨ n = 3 ∨ n = 4 ∨ n = 5 ∨ n = 6 ∨ n = 7 ∨ n = 8 ∨ n = 9 ∨ n = 10 ∨ n = 11 ∨ n = 12) with rfl | rfl | rfl | rfl | rfl | rfl | rfl | rfl | rfl | rfl | rfl | rfl | rfl
  all_goals
    go_enter Try.func82, Try.ntmps82
    go_wp2
    go_ret
    exact ⟨⟨_, rfl⟩, Below.refl _ _⟩
def adC {α : Type} (a : Nat × α) : List Value := [.pointer (some ⟨a.1, 0, none⟩)]
theorem adC_len {α : Type} (a : Nat × α) : (adC a).length = 1 := rfl
set_option maxRecDepth 100000 in
set_option maxHeartbeats 800000 in
theorem wsins (A : Option Addr) (n c : Nat) (l : List (Nat × Int)) (f : Nat) (cap : Array Value) (cf : (Nat × Int) → (Nat × Int) → Int) (W : World) (hn : n ≤ 12) (hR : Reads W W.heap.size 1 A n (rowC adC l)) (hcl : ∀ w x y, x ∈ l → y ∈ l → Below W.heap.size W w → Calls Try.prog f (#[pt x.1 0, pt y.1 0] ++ cap) w fun r w' => r = .returned (.int .i64 (cf x y)) ∧ Below w.heap.size w w') (hfn : ∀ xs w, (callFunc f xs).run Try.prog w = .ok (.enter f xs) w) (hso : ∀ k x y, l[k]? = some x → l[k + 1]? = some y → 0 ≤ cf y x) :
    Calls Try.prog 109 #[.slice A n c, i6 0, i6 n, .func (.func f) #[] cap] W (fun r w' => r = .returned (.tuple #[]) ∧ Below W.heap.size W w') := by
  have hS := S.start W
  refine calls_walk Try.func109 rfl fun R_ hR_ a hz hd hargs => ?_
  replace hz : a.tmps.size = 53 := hz.trans (by kernel_rfl)
  have s0 := hargs 0 _ rfl
  have s1 := hargs 1 _ rfl
  have s2 := hargs 2 _ rfl
  have s3 := hargs 3 _ rfl
  clear hargs
  refine wp_seq ?_
  refine seq_l [] hz ?_
  refine ⟨i6 0, fun _ h_ => rmv (h_.b 1 s1),
   i6 1, fun _ h_ => rk (run_addI rfl (h_.d 0 10) rfl (by omega) rfl),
   i6 1, fun _ h_ => ras (h_.d 1 11), ?_⟩
  intro a2 hput
  replace s0 := hput.o 0 s0
  replace s1 := hput.o 1 s1
  replace s2 := hput.o 2 s2
  replace s3 := hput.o 3 s3
  have s8 : sl a2 8 = i6 1 := hput.new 2 8 rfl
  replace hz := hput.size.trans hz
  replace hd := hput.defers.trans hd
  clear hput
  change Code.wp _ _ _ _ _
  refine wp_block ?_
  refine wp_loop (fun a_ w_ => ∃ k : Nat, (1 ≤ k ∧ (k ≤ n ∨ k = 1)) ∧ a_.tmps.size = 53 ∧ a_.defers = [] ∧ sl a_ 0 = .slice A n c ∧ sl a_ 1 = i6 0 ∧ sl a_ 2 = i6 n ∧ sl a_ 3 = .func (.func f) #[] cap ∧ sl a_ 8 = i6 k ∧ S (kap W) ([]) ((memA W W.heap.size) :: []) w_) (fun a_ _ => n - (intOf (sl a_ 8)).toNat) ?_ ?_
  · exact ⟨1, ⟨Nat.le_refl _, .inr rfl⟩, hz, hd, s0, s1, s2, s3, s8, hS⟩
  · clear hz hd s0 s1 s2 s3 s8 hS
    rintro a3 w3 ⟨k, hc0_0, hz, hd, s0, s1, s2, s3, s8, hS3⟩
    have hmu0 := s8
    refine wp_seq ?_
    refine wp_seq ?_
    refine seq_l [] hz ?_
    refine ⟨i6 k, fun _ h_ => rmv (h_.b 8 s8),
     i6 n, fun _ h_ => rmv (h_.b 2 s2),
     .bool (decide ((k : Int) < n)), fun _ h_ => rk (run_cmp rfl (h_.d 0 12) (h_.d 1 13) rfl (by first | rfl | exact neq_dec _ _ | exact eq_dec _ _ | simp)), ?_⟩
    intro a4 hput
    replace s0 := hput.o 0 s0
    replace s1 := hput.o 1 s1
    replace s2 := hput.o 2 s2
    replace s3 := hput.o 3 s3
    replace s8 := hput.o 8 s8
    have s12 : sl a4 12 = i6 k := hput.new 0 12 rfl
    have s13 : sl a4 13 = i6 n := hput.new 1 13 rfl
    have s14 : sl a4 14 = .bool (decide ((k : Int) < n)) := hput.new 2 14 rfl
    replace hz := hput.size.trans hz
    replace hd := hput.defers.trans hd
    clear hput
    change Code.wp _ _ _ _ _
    refine wp_cond_d s14 (fun hc14 => ?_) (fun hc14 => ?_)
    · clear s14
      refine wp_skip ?_
      change Code.wp _ _ _ _ _
      refine wp_seq ?_
      refine wp_block ?_
      refine wp_seq ?_
      refine seq_l [] hz ?_
      refine ⟨i6 k, fun _ h_ => rmv (h_.b 8 s8),
       i6 k, fun _ h_ => ras (h_.d 0 17), ?_⟩
      intro a5 hput
      replace s0 := hput.o 0 s0
      replace s1 := hput.o 1 s1
      replace s2 := hput.o 2 s2
      replace s3 := hput.o 3 s3
      replace s8 := hput.o 8 s8
      have s9 : sl a5 9 = i6 k := hput.new 1 9 rfl
      replace s12 := hput.o 12 s12
      replace s13 := hput.o 13 s13
      have s17 : sl a5 17 = i6 k := hput.new 0 17 rfl
      replace hz := hput.size.trans hz
      replace hd := hput.defers.trans hd
      clear hput
      change Code.wp _ _ _ _ _
      refine wp_block ?_
      refine wp_loop (fun a_ w_ => ((0 : Int) ≤ 0) ∧ a_.tmps.size = 53 ∧ a_.defers = [] ∧ sl a_ 0 = .slice A n c ∧ sl a_ 1 = i6 0 ∧ sl a_ 2 = i6 n ∧ sl a_ 3 = .func (.func f) #[] cap ∧ sl a_ 8 = i6 k ∧ sl a_ 9 = i6 k ∧ sl a_ 12 = i6 k ∧ sl a_ 13 = i6 n ∧ sl a_ 17 = i6 k ∧ S (kap W) ([]) ((memA W W.heap.size) :: []) w_) (fun a_ _ => n - (intOf (sl a_ 9)).toNat) ?_ ?_
      · exact ⟨Int.le_refl _, hz, hd, s0, s1, s2, s3, s8, s9, s12, s13, s17, hS3⟩
      · clear hz hd s0 s1 s2 s3 s8 s9 s12 s13 s17 hS3
        rintro a6 w6 ⟨hc2_0, hz, hd, s0, s1, s2, s3, s8, s9, s12, s13, s17, hS6⟩
        have hmu2 := s9
        refine wp_seq ?_
        refine wp_seq ?_
        refine seq_r [[], [], [0, 1], [0, 1, 2], [0, 1, 2, 3], [0, 1, 2, 3], [0, 1, 2, 3], [0, 1, 2, 3, 5, 6], [0, 1, 2, 3, 5, 6, 7], [0, 1, 2, 3], [0, 1, 2, 3], [0, 1, 2, 3, 10], [0, 1, 2, 3, 9, 10, 11], [0, 1, 2, 3, 9, 10, 11, 12], [0, 1, 2, 3, 4, 5, 6, 7, 8, 9, 10, 11, 12, 13], [0, 1, 2, 3, 4, 5, 6, 7, 8, 9, 10, 11, 12, 13, 14], [0, 1, 2, 3, 4, 5, 6, 7, 8, 9, 10, 11, 12, 13, 14, 15]] [14] (.rd 0 (.rd 1 (.rd 2 (.rd 3 (.rd 4 (.rd 5 (.rd 6 (.rd 7 (.rd 8 (.rd 9 (.rd 10 (.rd 11 (.rd 12 (.rd 13 (.ef 14 (.rd 15 (.rd 16 (.fin))) .non))))))))))))))) hz fun w7 hb7 => ?_
        replace hS6 := hS6.below hb7
        refine ⟨i6 k, fun _ h_ => rmv (h_.b 9 s9),
         i6 0, fun _ h_ => rmv (h_.b 1 s1),
         .bool true, fun _ h_ => rk (run_cmp rfl (h_.d 0 18) (h_.d 1 19) rfl (decide_eq_true (by omega))),
         .bool true, fun _ h_ => rmv (h_.d 2 20),
         .func (.func f) #[] cap, fun _ h_ => r_ok (h_.on 3 21) (run_move rfl (h_.b 3 s3)),
         .slice A n c, fun _ h_ => r_ok (h_.on 3 21) (run_move rfl (h_.b 0 s0)),
         i6 k, fun _ h_ => r_ok (h_.on 3 21) (run_move rfl (h_.b 9 s9)), ?_⟩
        obtain ⟨b8, o8, z8, hA8, hb8, hz8, hq8⟩ := Reads.row_at adC 1 adC_len (k := k) (hR.old (hS6.old (by simp))) (by decide) (by omega)
        refine ⟨pt b8 (o8 + k * 1), fun _ h_ => r_ok (h_.on 3 21) (run_indexV (size := 1) rfl (h_.d 5 23) hA8 (h_.d 6 24) (by kernel_rfl) (by omega) (by simp)),
         pt z8.1 0, fun _ h_ => r_ok (h_.on 3 21) (run_load rfl (h_.d 7 25) (by kernel_rfl) (show w7.cell? ⟨b8, o8 + k * 1 + 0, none⟩ = some (pt z8.1 0) from hq8 0 _ rfl)),
         .slice A n c, fun _ h_ => r_ok (h_.on 3 21) (run_move rfl (h_.b 0 s0)),
         i6 k, fun _ h_ => r_ok (h_.on 3 21) (run_move rfl (h_.b 9 s9)),
         i6 (k - 1), fun _ h_ => r_ok (h_.on 3 21) (run_subI rfl (h_.d 10 28) rfl (by omega) rfl), ?_⟩
        obtain ⟨b9, o9, z9, hA9, hb9, hz9, hq9⟩ := Reads.row_at adC 1 adC_len (k := ((k - 1) : Int).toNat) (hR.old (hS6.old (by simp))) (by decide) (by omega)
        refine ⟨pt b9 (o9 + ((k - 1) : Int).toNat * 1), fun _ h_ => r_ok (h_.on 3 21) (run_indexV (size := 1) rfl (h_.d 9 27) hA9 (h_.d 11 29) (by kernel_rfl) (by omega) (by simp)),
         pt z9.1 0, fun _ h_ => r_ok (h_.on 3 21) (run_load rfl (h_.d 12 30) (by kernel_rfl) (show w7.cell? ⟨b9, o9 + ((k - 1) : Int).toNat * 1 + 0, none⟩ = some (pt z9.1 0) from hq9 0 _ rfl)), ?_⟩
        refine ⟨fun a_ h_ => st_call (h_.on 3 21) (run_callV rfl (h_.d 4 22) (map2 (h_.d 8 26) (h_.d 13 31)) rfl (hfn _ _)) (hcl _ z8 z9 (List.mem_of_getElem? hz8) (List.mem_of_getElem? hz9) (hS6.old (by simp))) ?_, trivial⟩
        rintro e w10 ⟨rfl, hb10⟩
        refine ⟨_, rfl, _, rfl, ?_⟩
        clear h_ a_
        have hS10 := hS6.below hb10
        clear hS6 hb10
        have hge : 0 ≤ cf z8 z9 := hso (k - 1) _ _ (by rw [← show ((k : Int) - 1).toNat = k - 1 by omega]; exact hz9) (by rw [show k - 1 + 1 = k by omega]; exact hz8)
        refine ⟨.bool false, fun _ h_ => r_ok (h_.on 3 21) (run_cmp rfl (h_.d 14 32) rfl rfl (decide_eq_false (by omega))),
         .bool false, fun _ h_ => rk (run_pick_t rfl (h_.d 3 21) (h_.d 15 33)), ?_⟩
        intro a7 hput
        replace s0 := hput.o 0 s0
        replace s1 := hput.o 1 s1
        replace s2 := hput.o 2 s2
        replace s3 := hput.o 3 s3
        replace s8 := hput.o 8 s8
        replace s9 := hput.o 9 s9
        replace s12 := hput.o 12 s12
        replace s13 := hput.o 13 s13
        replace s17 := hput.o 17 s17
        have s18 : sl a7 18 = i6 k := hput.new 0 18 rfl
        have s19 : sl a7 19 = i6 0 := hput.new 1 19 rfl
        have s20 : sl a7 20 = .bool true := hput.new 2 20 rfl
        have s21 : sl a7 21 = .bool true := hput.new 3 21 rfl
        have s22 : sl a7 22 = .func (.func f) #[] cap := hput.new 4 22 rfl
        have s23 : sl a7 23 = .slice A n c := hput.new 5 23 rfl
        have s24 : sl a7 24 = i6 k := hput.new 6 24 rfl
        have s25 : sl a7 25 = pt b8 (o8 + k * 1) := hput.new 7 25 rfl
        have s26 : sl a7 26 = pt z8.1 0 := hput.new 8 26 rfl
        have s27 : sl a7 27 = .slice A n c := hput.new 9 27 rfl
        have s28 : sl a7 28 = i6 k := hput.new 10 28 rfl
        have s29 : sl a7 29 = i6 (k - 1) := hput.new 11 29 rfl
        have s30 : sl a7 30 = pt b9 (o9 + ((k - 1) : Int).toNat * 1) := hput.new 12 30 rfl
        have s31 : sl a7 31 = pt z9.1 0 := hput.new 13 31 rfl
        have s32 : sl a7 32 = i6 (cf z8 z9) := hput.new 14 32 rfl
        have s33 : sl a7 33 = .bool false := hput.new 15 33 rfl
        have s34 : sl a7 34 = .bool false := hput.new 16 34 rfl
        replace hz := hput.size.trans hz
        replace hd := hput.defers.trans hd
        clear hput
        change Code.wp _ _ _ _ _
        refine wp_cond_false s34 ?_
        refine wp_exit ?_
        change Code.wp _ _ _ _ _
        refine seq_l [] hz ?_
        refine ⟨i6 k, fun _ h_ => rmv (h_.b 8 s8),
         i6 (k + 1), fun _ h_ => rk (run_addI rfl (h_.d 0 15) rfl (by omega) rfl),
         i6 (k + 1), fun _ h_ => ras (h_.d 1 16), ?_⟩
        intro a11 hput
        replace s0 := hput.o 0 s0
        replace s1 := hput.o 1 s1
        replace s2 := hput.o 2 s2
        replace s3 := hput.o 3 s3
        replace s8 : sl a11 8 = i6 (k + 1) := hput.new 2 8 rfl
        replace s9 := hput.o 9 s9
        replace s12 := hput.o 12 s12
        replace s13 := hput.o 13 s13
        have s15 : sl a11 15 = i6 k := hput.new 0 15 rfl
        have s16 : sl a11 16 = i6 (k + 1) := hput.new 1 16 rfl
        replace s17 := hput.o 17 s17
        replace s18 := hput.o 18 s18
        replace s19 := hput.o 19 s19
        replace s20 := hput.o 20 s20
        replace s21 := hput.o 21 s21
        replace s22 := hput.o 22 s22
        replace s23 := hput.o 23 s23
        replace s24 := hput.o 24 s24
        replace s25 := hput.o 25 s25
        replace s26 := hput.o 26 s26
        replace s27 := hput.o 27 s27
        replace s28 := hput.o 28 s28
        replace s29 := hput.o 29 s29
        replace s30 := hput.o 30 s30
        replace s31 := hput.o 31 s31
        replace s32 := hput.o 32 s32
        replace s33 := hput.o 33 s33
        replace s34 := hput.o 34 s34
        replace hz := hput.size.trans hz
        replace hd := hput.defers.trans hd
        clear hput
        refine ⟨⟨k + 1, by omega, hz, hd, s0, s1, s2, s3, s8, hS10⟩, ?_⟩
        show n - (intOf (sl a11 8)).toNat < n - (intOf (sl a3 8)).toNat
        rw [show sl a11 8 = _ from s8, show sl a3 8 = _ from hmu0]
        simp only [intOf]
        omega
    · clear s14
      refine wp_exit ?_
      show bodyPost _ _ _ .ret _ _
      refine ret0 (P := Try.prog) (fn := Try.f109) hd (hR_ _ _ ?_)
      exact ⟨rfl, (hS3.old (by simp))⟩
set_option maxRecDepth 100000 in
set_option maxHeartbeats 800000 in
theorem wspdq (A : Option Addr) (n c : Nat) (l : List (Nat × Int)) (f : Nat) (cap : Array Value) (cf : (Nat × Int) → (Nat × Int) → Int) (lim : Int) (W : World) (hn : n ≤ 12) (hR : Reads W W.heap.size 1 A n (rowC adC l)) (hcl : ∀ w x y, x ∈ l → y ∈ l → Below W.heap.size W w → Calls Try.prog f (#[pt x.1 0, pt y.1 0] ++ cap) w fun r w' => r = .returned (.int .i64 (cf x y)) ∧ Below w.heap.size w w') (hfn : ∀ xs w, (callFunc f xs).run Try.prog w = .ok (.enter f xs) w) (hso : ∀ k x y, l[k]? = some x → l[k + 1]? = some y → 0 ≤ cf y x) :
    Calls Try.prog 81 #[.slice A n c, i6 0, i6 n, i6 lim, .func (.func f) #[] cap] W (fun r w' => r = .returned (.tuple #[]) ∧ Below W.heap.size W w') := by
  have hS := S.start W
  refine calls_walk Try.func81 rfl fun R_ hR_ a hz hd hargs => ?_
  replace hz : a.tmps.size = 148 := hz.trans (by kernel_rfl)
  have s0 := hargs 0 _ rfl
  have s1 := hargs 1 _ rfl
  have s2 := hargs 2 _ rfl
  have s3 := hargs 3 _ rfl
  have s4 := hargs 4 _ rfl
  clear hargs
  refine wp_seq ?_
  refine seq_l [] hz ?_
  refine ⟨.bool true, fun _ h_ => rk (run_assign rfl rfl), ?_⟩
  intro a2 hput
  replace s0 := hput.o 0 s0
  replace s1 := hput.o 1 s1
  replace s2 := hput.o 2 s2
  replace s3 := hput.o 3 s3
  replace s4 := hput.o 4 s4
  have s10 : sl a2 10 = .bool true := hput.new 0 10 rfl
  replace hz := hput.size.trans hz
  replace hd := hput.defers.trans hd
  clear hput
  change Code.wp _ _ _ _ _
  refine wp_seq ?_
  refine seq_l [] hz ?_
  refine ⟨.bool true, fun _ h_ => rk (run_assign rfl rfl), ?_⟩
  intro a3 hput
  replace s0 := hput.o 0 s0
  replace s1 := hput.o 1 s1
  replace s2 := hput.o 2 s2
  replace s3 := hput.o 3 s3
  replace s4 := hput.o 4 s4
  replace s10 := hput.o 10 s10
  have s11 : sl a3 11 = .bool true := hput.new 0 11 rfl
  replace hz := hput.size.trans hz
  replace hd := hput.defers.trans hd
  clear hput
  change Code.wp _ _ _ _ _
  refine wp_block ?_
  refine wp_loop (fun a_ w_ => ((0 : Int) ≤ 0) ∧ a_.tmps.size = 148 ∧ a_.defers = [] ∧ sl a_ 0 = .slice A n c ∧ sl a_ 1 = i6 0 ∧ sl a_ 2 = i6 n ∧ sl a_ 3 = i6 lim ∧ sl a_ 4 = .func (.func f) #[] cap ∧ sl a_ 10 = .bool true ∧ sl a_ 11 = .bool true ∧ S (kap W) ([]) ((memA W W.heap.size) :: []) w_) (fun a_ _ => n - (intOf (sl a_ 1)).toNat) ?_ ?_
  · exact ⟨Int.le_refl _, hz, hd, s0, s1, s2, s3, s4, s10, s11, hS⟩
  · clear hz hd s0 s1 s2 s3 s4 s10 s11 hS
    rintro a4 w4 ⟨hc0_0, hz, hd, s0, s1, s2, s3, s4, s10, s11, hS4⟩
    have hmu0 := s1
    refine wp_block ?_
    refine wp_seq ?_
    refine seq_l [] hz ?_
    refine ⟨i6 n, fun _ h_ => rmv (h_.b 2 s2),
     i6 0, fun _ h_ => rmv (h_.b 1 s1),
     i6 (n - 0), fun _ h_ => rk (run_subI rfl (h_.d 0 21) (h_.d 1 22) (by omega) rfl),
     i6 (n - 0), fun _ h_ => ras (h_.d 2 23), ?_⟩
    intro a5 hput
    replace s0 := hput.o 0 s0
    replace s1 := hput.o 1 s1
    replace s2 := hput.o 2 s2
    replace s3 := hput.o 3 s3
    replace s4 := hput.o 4 s4
    replace s10 := hput.o 10 s10
    replace s11 := hput.o 11 s11
    have s12 : sl a5 12 = i6 (n - 0) := hput.new 3 12 rfl
    have s21 : sl a5 21 = i6 n := hput.new 0 21 rfl
    have s22 : sl a5 22 = i6 0 := hput.new 1 22 rfl
    have s23 : sl a5 23 = i6 (n - 0) := hput.new 2 23 rfl
    replace hz := hput.size.trans hz
    replace hd := hput.defers.trans hd
    clear hput
    change Code.wp _ _ _ _ _
    refine wp_seq ?_
    refine wp_seq ?_
    refine seq_l [] hz ?_
    refine ⟨i6 (n - 0), fun _ h_ => rmv (h_.b 12 s12),
     .bool true, fun _ h_ => rk (run_cmp rfl (h_.d 0 24) rfl rfl (decide_eq_true (by omega))), ?_⟩
    intro a6 hput
    replace s0 := hput.o 0 s0
    replace s1 := hput.o 1 s1
    replace s2 := hput.o 2 s2
    replace s3 := hput.o 3 s3
    replace s4 := hput.o 4 s4
    replace s10 := hput.o 10 s10
    replace s11 := hput.o 11 s11
    replace s12 := hput.o 12 s12
    replace s21 := hput.o 21 s21
    replace s22 := hput.o 22 s22
    replace s23 := hput.o 23 s23
    have s24 : sl a6 24 = i6 (n - 0) := hput.new 0 24 rfl
    have s25 : sl a6 25 = .bool true := hput.new 1 25 rfl
    replace hz := hput.size.trans hz
    replace hd := hput.defers.trans hd
    clear hput
    change Code.wp _ _ _ _ _
    refine wp_cond_true s25 ?_
    refine wp_seq ?_
    refine seq_l [4] hz ?_
    refine ⟨.slice A n c, fun _ h_ => rmv (h_.b 0 s0),
     i6 0, fun _ h_ => rmv (h_.b 1 s1),
     i6 n, fun _ h_ => rmv (h_.b 2 s2),
     .func (.func f) #[] cap, fun _ h_ => rmv (h_.b 4 s4), ?_⟩
    refine ⟨fun a_ h_ => st_call (on_none rfl) (run_call rfl (map4 (h_.d 0 26) (h_.d 1 27) (h_.d 2 28) (h_.d 3 29)) rfl) (wsins A n c l f cap cf _ hn (hR.old (hS4.old (by simp))) (fun w x y hx hy hb => hcl w x y hx hy ((hS4.old (by simp)).trans (hb.mono (hS4.old (by simp)).size))) hfn hso) ?_, trivial⟩
    rintro e w8 ⟨rfl, hb8⟩
    refine ⟨_, rfl, _, rfl, ?_⟩
    clear h_ a_
    have hS8 := hS4.below hb8
    clear hS4 hb8
    intro a7 hput
    replace s0 := hput.o 0 s0
    replace s1 := hput.o 1 s1
    replace s2 := hput.o 2 s2
    replace s3 := hput.o 3 s3
    replace s4 := hput.o 4 s4
    replace s10 := hput.o 10 s10
    replace s11 := hput.o 11 s11
    replace s12 := hput.o 12 s12
    replace s21 := hput.o 21 s21
    replace s22 := hput.o 22 s22
    replace s23 := hput.o 23 s23
    replace s24 := hput.o 24 s24
    replace s25 := hput.o 25 s25
    have s26 : sl a7 26 = .slice A n c := hput.new 0 26 rfl
    have s27 : sl a7 27 = i6 0 := hput.new 1 27 rfl
    have s28 : sl a7 28 = i6 n := hput.new 2 28 rfl
    have s29 : sl a7 29 = .func (.func f) #[] cap := hput.new 3 29 rfl
    replace hz := hput.size.trans hz
    replace hd := hput.defers.trans hd
    clear hput
    change Code.wp _ _ _ _ _
    refine wp_ret ?_
    refine ret0 (P := Try.prog) (fn := Try.f81) hd (hR_ _ _ ?_)
    exact ⟨rfl, (hS8.old (by simp))⟩
set_option maxRecDepth 100000 in
set_option maxHeartbeats 800000 in
theorem wssort (A : Option Addr) (n c : Nat) (l : List (Nat × Int)) (f : Nat) (cap : Array Value) (cf : (Nat × Int) → (Nat × Int) → Int) (W : World) (hn : n ≤ 12) (hR : Reads W W.heap.size 1 A n (rowC adC l)) (hcl : ∀ w x y, x ∈ l → y ∈ l → Below W.heap.size W w → Calls Try.prog f (#[pt x.1 0, pt y.1 0] ++ cap) w fun r w' => r = .returned (.int .i64 (cf x y)) ∧ Below w.heap.size w w') (hfn : ∀ xs w, (callFunc f xs).run Try.prog w = .ok (.enter f xs) w) (hso : ∀ k x y, l[k]? = some x → l[k + 1]? = some y → 0 ≤ cf y x) :
    Calls Try.prog 54 #[.slice A n c, .func (.func f) #[] cap] W (fun r w' => r = .returned (.tuple #[]) ∧ Below W.heap.size W w') := by
  have hS := S.start W
  refine calls_walk Try.func54 rfl fun R_ hR_ a hz hd hargs => ?_
  replace hz : a.tmps.size = 14 := hz.trans (by kernel_rfl)
  have s0 := hargs 0 _ rfl
  have s1 := hargs 1 _ rfl
  clear hargs
  refine wp_seq ?_
  refine seq_l [] hz ?_
  refine ⟨.slice A n c, fun _ h_ => rmv (h_.b 0 s0),
   i6 n, fun _ h_ => rk (run_lenS rfl (h_.d 0 5) (by kernel_rfl)),
   i6 n, fun _ h_ => ras (h_.d 1 6), ?_⟩
  intro a2 hput
  replace s0 := hput.o 0 s0
  replace s1 := hput.o 1 s1
  have s4 : sl a2 4 = i6 n := hput.new 2 4 rfl
  replace hz := hput.size.trans hz
  replace hd := hput.defers.trans hd
  clear hput
  change Code.wp _ _ _ _ _
  refine seq_l [4, 6] hz ?_
  refine ⟨.slice A n c, fun _ h_ => rmv (h_.b 0 s0),
   i6 n, fun _ h_ => rmv (h_.b 4 s4),
   i6 n, fun _ h_ => rmv (h_.b 4 s4),
   .int .u64 n, fun _ h_ => rk (run_conv rfl (h_.d 2 9) (by kernel_rfl) (by rw [wrap_u64]; omega) (by kernel_rfl)), ?_⟩
  refine ⟨fun a_ h_ => st_call (on_none rfl) (run_call rfl (map1 (h_.d 3 10)) rfl) (bits_any n _ hn) ?_, trivial⟩
  rintro e w4 ⟨⟨q4, rfl⟩, hb4⟩
  refine ⟨_, rfl, _, rfl, ?_⟩
  clear h_ a_
  have hS4 := hS.below hb4
  clear hS hb4
  refine ⟨.func (.func f) #[] cap, fun _ h_ => rmv (h_.b 1 s1), ?_⟩
  refine ⟨fun a_ h_ => st_call (on_none rfl) (run_call rfl (map5 (h_.d 0 7) rfl (h_.d 1 8) (h_.d 4 11) (h_.d 5 12)) rfl) (wspdq A n c l f cap cf q4 _ hn (hR.old (hS4.old (by simp))) (fun w x y hx hy hb => hcl w x y hx hy ((hS4.old (by simp)).trans (hb.mono (hS4.old (by simp)).size))) hfn hso) ?_, trivial⟩
  rintro e w5 ⟨rfl, hb5⟩
  refine ⟨_, rfl, _, rfl, ?_⟩
  clear h_ a_
  have hS5 := hS4.below hb5
  clear hS4 hb5
  intro a3 hput
  replace hz := hput.size.trans hz
  replace hd := hput.defers.trans hd
  clear hput s0 s1 s4
  show bodyPost _ _ _ .ret _ _
  refine ret0 (P := Try.prog) (fn := Try.f54) hd (hR_ _ _ ?_)
  exact ⟨rfl, (hS5.old (by simp))⟩
end Go.Proofs.Ytdenfgnkbfbpmaa
