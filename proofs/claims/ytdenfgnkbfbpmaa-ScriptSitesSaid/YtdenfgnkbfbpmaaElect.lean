/-
  elect: who is designated.
-/
import Derived.Test.YtdenfgnkbfbpmaaIdx
import Derived.Lib.SliceRun
import Derived.Test.YtdenfgnkbfbpmaaRowC
namespace Go.Proofs.Ytdenfgnkbfbpmaa
open Go.RowKit
set_option linter.unusedSimpArgs false
set_option linter.unusedVariables false

/-- a candidate -/
structure CdV where
  id : Int
  prio : Int
  dr : Int
  bdr : Int
deriving DecidableEq
def CdV.cells (x : CdV) : List Value := [.int .i64 x.id, .int .i64 x.prio, .int .i64 x.dr, .int .i64 x.bdr]
theorem CdV.cells_len (x : CdV) : x.cells.length = 4 := rfl
def cd0 : CdV := ⟨0, 0, 0, 0⟩
def bstep (pr : CdV → Bool) (b c : CdV) : CdV := if 0 < c.prio ∧ pr c = true ∧ (b.id = 0 ∨ b.prio < c.prio ∨ (c.prio = b.prio ∧ b.id < c.id)) then c else b
def bestF (pr : CdV → Bool) (l : List CdV) : Int := (l.foldl (bstep pr) cd0).id
theorem bfold_yes {pr : CdV → Bool} {l : List CdV} {k : Nat} {b z : CdV} (hb : b = (l.take k).foldl (bstep pr) cd0) (hz : l[k]? = some z) (h : 0 < z.prio ∧ pr z = true ∧ (b.id = 0 ∨ b.prio < z.prio ∨ (z.prio = b.prio ∧ b.id < z.id))) : z = (l.take (k + 1)).foldl (bstep pr) cd0 := by
  rw [take_snoc l k z hz, List.foldl_append, ← hb]
  simp only [List.foldl_cons, List.foldl_nil, bstep, if_pos h]
theorem bfold_no {pr : CdV → Bool} {l : List CdV} {k : Nat} {b z : CdV} (hb : b = (l.take k).foldl (bstep pr) cd0) (hz : l[k]? = some z) (h : ¬ (0 < z.prio ∧ pr z = true ∧ (b.id = 0 ∨ b.prio < z.prio ∨ (z.prio = b.prio ∧ b.id < z.id)))) : b = (l.take (k + 1)).foldl (bstep pr) cd0 := by
  rw [take_snoc l k z hz, List.foldl_append, ← hb]
  simp only [List.foldl_cons, List.foldl_nil, bstep, if_neg h]
def goF (l : List CdV) : Int × Int :=
  let b0 := bestF (fun c => decide (c.dr ≠ c.id) && decide (c.bdr = c.id)) l
  let bdr := if b0 = 0 then bestF (fun c => decide (c.dr ≠ c.id)) l else b0
  let d0 := bestF (fun c => decide (c.dr = c.id)) l
  (if d0 = 0 then bdr else d0, bdr)
/-- the candidates with the one in place i as it is to be -/
def ownF (self : Int) (d : Int × Int) (l : List CdV) (i : Nat) (c : CdV) : List CdV :=
  l.set i { c with dr := if d.1 = self then self else 0, bdr := if d.1 = self then 0 else if d.2 = self then self else 0 }
def electF (self : Int) (l : List CdV) : Int × Int :=
  let d := goF l
  let i := idxF (fun c => decide (c.id = self)) l
  if i < 0 then d else
  match l[i.toNat]? with
  | none => d
  | some c => if decide (d.1 = self) = decide (c.dr = self) ∧ decide (d.2 = self) = decide (c.bdr = self) then d else goF (ownF self d l i.toNat c)
theorem cds_len {w : World} {B n : Nat} {A : Option Addr} {l : List CdV} (h : Reads w B 4 A n (rowC CdV.cells l)) : l.length = n := by have := h.1; rw [rowC_length CdV.cells 4 CdV.cells_len] at this; omega
set_option maxRecDepth 100000 in
set_option maxHeartbeats 800000 in
theorem best_any (A : Option Addr) (n c : Nat) (l : List CdV) (f : Nat) (cap : Array Value) (pr : CdV → Bool) (W : World) (hn : n ≤ 100000) (hR : Reads W W.heap.size 4 A n (rowC CdV.cells l)) (hcl : ∀ w z, Below W.heap.size W w → Calls Try.prog f (#[.agg (CdV.cells z).toArray] ++ cap) w fun r w' => r = .returned (.bool (pr z)) ∧ Below w.heap.size w w') (hfn : ∀ xs w, (callFunc f xs).run Try.prog w = .ok (.enter f xs) w) :
    Calls Try.prog 148 #[.slice A n c, .func (.func f) #[] cap] W (fun r w' => r = .returned (.int .i64 (bestF pr l)) ∧ Below W.heap.size W w') := by
  have hS := S.start W
  refine calls_walk Try.func148 rfl fun R_ hR_ a hz hd hargs => ?_
  replace hz : a.tmps.size = 52 := hz.trans (by kernel_rfl)
  have s0 := hargs 0 _ rfl
  have s1 := hargs 1 _ rfl
  clear hargs
  refine wp_seq ?_
  refine seq_l [] hz ?_
  refine ⟨i6 0, fun _ h_ => rk (run_assign rfl rfl), ?_⟩
  intro a2 hput
  replace s0 := hput.o 0 s0
  replace s1 := hput.o 1 s1
  have s4 : sl a2 4 = i6 0 := hput.new 0 4 rfl
  replace hz := hput.size.trans hz
  replace hd := hput.defers.trans hd
  clear hput
  change Code.wp _ _ _ _ _
  refine wp_seq ?_
  refine seq_l [0] hz ?_
  refine ⟨fun a_ h_ => st_alloc (cells := #[i6 0, i6 0, i6 0, i6 0]) hS (on_none rfl) rfl (by kernel_rfl) fun g4 w4 hS4 hb4 => ⟨_, rfl, ?_⟩, trivial⟩
  clear h_ a_ hS
  clear hb4
  intro a3 hput
  replace s0 := hput.o 0 s0
  replace s1 := hput.o 1 s1
  replace s4 := hput.o 4 s4
  have s5 : sl a3 5 = pt g4 0 := hput.new 0 5 rfl
  replace hz := hput.size.trans hz
  replace hd := hput.defers.trans hd
  clear hput
  change Code.wp _ _ _ _ _
  refine wp_seq ?_
  refine wp_seq ?_
  refine seq_l [] hz ?_
  refine ⟨.slice A n c, fun _ h_ => rmv (h_.b 0 s0),
   i6 n, fun _ h_ => rk (run_lenS rfl (h_.d 0 8) (by kernel_rfl)),
   i6 0, fun _ h_ => rk (run_move rfl rfl), ?_⟩
  intro a5 hput
  replace s1 := hput.o 1 s1
  replace s4 := hput.o 4 s4
  replace s5 := hput.o 5 s5
  have s8 : sl a5 8 = .slice A n c := hput.new 0 8 rfl
  have s9 : sl a5 9 = i6 n := hput.new 1 9 rfl
  have s10 : sl a5 10 = i6 0 := hput.new 2 10 rfl
  replace hz := hput.size.trans hz
  replace hd := hput.defers.trans hd
  clear hput s0
  change Code.wp _ _ _ _ _
  refine wp_block ?_
  refine wp_loop (fun a_ w_ => ∃ k : Nat, ∃ b : CdV, (k ≤ n) ∧ (b = (l.take k).foldl (bstep pr) cd0) ∧ a_.tmps.size = 52 ∧ a_.defers = [] ∧ sl a_ 1 = .func (.func f) #[] cap ∧ sl a_ 4 = i6 0 ∧ sl a_ 5 = pt g4 0 ∧ sl a_ 8 = .slice A n c ∧ sl a_ 9 = i6 n ∧ sl a_ 10 = i6 k ∧ S (kap W) ((blkA g4 227 #[i6 b.id, i6 b.prio, i6 b.dr, i6 b.bdr]) :: []) ((memA W W.heap.size) :: []) w_) (fun a_ _ => n - (intOf (sl a_ 10)).toNat) ?_ ?_
  · exact ⟨0, cd0, Nat.zero_le _, rfl, hz, hd, s1, s4, s5, s8, s9, s10, hS4⟩
  · clear hz hd s1 s4 s5 s8 s9 s10 hS4
    rintro a6 w6 ⟨k, b, hc0_0, hc0_1, hz, hd, s1, s4, s5, s8, s9, s10, hS6⟩
    have hmu0 := s10
    refine wp_seq ?_
    refine seq_l [] hz ?_
    refine ⟨.bool (decide ((k : Int) < n)), fun _ h_ => rk (run_cmp rfl (h_.b 10 s10) (h_.b 9 s9) rfl (by first | rfl | exact neq_dec _ _ | exact eq_dec _ _ | simp)), ?_⟩
    intro a7 hput
    replace s1 := hput.o 1 s1
    replace s4 := hput.o 4 s4
    replace s5 := hput.o 5 s5
    replace s8 := hput.o 8 s8
    replace s9 := hput.o 9 s9
    replace s10 := hput.o 10 s10
    have s11 : sl a7 11 = .bool (decide ((k : Int) < n)) := hput.new 0 11 rfl
    replace hz := hput.size.trans hz
    replace hd := hput.defers.trans hd
    clear hput
    change Code.wp _ _ _ _ _
    refine wp_seq ?_
    refine wp_cond_d s11 (fun hc11 => ?_) (fun hc11 => ?_)
    · clear s11
      refine wp_skip ?_
      change Code.wp _ _ _ _ _
      refine wp_seq ?_
      refine wp_block ?_
      refine wp_seq ?_
      refine seq_l [2, 3] hz ?_
      obtain ⟨b9, o9, z9, hA9, hb9, hz9, hq9⟩ := Reads.row_at CdV.cells 4 CdV.cells_len (k := k) (hR.old (hS6.old (by simp))) (by decide) (by omega)
      refine ⟨pt b9 (o9 + k * 4), fun _ h_ => rk (run_indexV (size := 4) rfl (h_.b 8 s8) hA9 (h_.b 10 s10) (by kernel_rfl) (by omega) (by simp)),
       .agg #[i6 z9.id, i6 z9.prio, i6 z9.dr, i6 z9.bdr], fun _ h_ => rk (run_loadV (size := 4) (cs := CdV.cells z9) rfl (h_.d 0 12) (by kernel_rfl) rfl hq9), ?_⟩
      refine ⟨fun a_ h_ => st_alloc (cells := #[i6 0, i6 0, i6 0, i6 0]) hS6 (on_none rfl) rfl (by kernel_rfl) fun g10 w10 hS10 hb10 => ⟨_, rfl, ?_⟩, trivial⟩
      clear h_ a_ hS6
      clear hb10
      refine ⟨fun a_ h_ => st_store (n := 4) (cells := #[i6 z9.id, i6 z9.prio, i6 z9.dr, i6 z9.bdr]) (cs' := #[i6 z9.id, i6 z9.prio, i6 z9.dr, i6 z9.bdr]) 0 hS10 rfl (on_none rfl) rfl (h_.d 2 7) (h_.d 1 13) rfl (by kernel_rfl) ⟨Nat.le_of_ble_eq_true rfl, rfl, by kernel_rfl⟩ rfl fun w11 hS11 he11 => ⟨_, rfl, ?_⟩, trivial⟩
      clear h_ a_ he11 hS10
      replace hS11 : S (kap W) ((blkA g10 227 #[i6 z9.id, i6 z9.prio, i6 z9.dr, i6 z9.bdr]) :: (blkA g4 227 #[i6 b.id, i6 b.prio, i6 b.dr, i6 b.bdr]) :: []) ((memA W W.heap.size) :: []) w11 := hS11
      intro a8 hput
      replace s1 := hput.o 1 s1
      replace s4 := hput.o 4 s4
      replace s5 := hput.o 5 s5
      have s7 : sl a8 7 = pt g10 0 := hput.new 2 7 rfl
      replace s8 := hput.o 8 s8
      replace s9 := hput.o 9 s9
      replace s10 := hput.o 10 s10
      have s12 : sl a8 12 = pt b9 (o9 + k * 4) := hput.new 0 12 rfl
      have s13 : sl a8 13 = .agg #[i6 z9.id, i6 z9.prio, i6 z9.dr, i6 z9.bdr] := hput.new 1 13 rfl
      replace hz := hput.size.trans hz
      replace hd := hput.defers.trans hd
      clear hput
      change Code.wp _ _ _ _ _
      refine wp_seq ?_
      refine seq_l [6] hz ?_
      refine ⟨pt g10 1, fun _ h_ => rk (fa 1 rfl (h_.b 7 s7)),
       i6 z9.prio, fun _ h_ => rk (ld hS11 0 rfl (h_.d 0 14)),
       .bool (decide ((0 : Int) < z9.prio)), fun _ h_ => rk (run_cmp rfl (h_.d 1 15) rfl rfl (by first | rfl | exact neq_dec _ _ | exact eq_dec _ _ | simp)),
       .bool (decide ((0 : Int) < z9.prio)), fun _ h_ => rmv (h_.d 2 16), ?_⟩
      rcases dt ((0 : Int) < z9.prio) with ⟨he, hg3⟩ | ⟨he, hg3⟩
      · rw [he]
        clear he
        refine ⟨.func (.func f) #[] cap, fun _ h_ => r_ok (h_.on 3 17) (run_move rfl (h_.b 1 s1)),
         .agg #[i6 z9.id, i6 z9.prio, i6 z9.dr, i6 z9.bdr], fun _ h_ => r_ok (h_.on 3 17) (lbS 4 (hS11.blk (i := 0) rfl) rfl (h_.b 7 s7)), ?_⟩
        refine ⟨fun a_ h_ => st_call (h_.on 3 17) (run_callV rfl (h_.d 4 18) (map1 (h_.d 5 19)) rfl (hfn _ _)) (hcl _ z9 (hS11.old (by simp))) ?_, trivial⟩
        rintro e w13 ⟨rfl, hb13⟩
        refine ⟨_, rfl, _, rfl, ?_⟩
        clear h_ a_
        have hS13 := hS11.below hb13
        clear hS11 hb13
        refine ⟨.bool (pr z9), fun _ h_ => rk (run_pick_t rfl (h_.d 3 17) (h_.d 6 20)),
         .bool (pr z9), fun _ h_ => rmv (h_.d 7 21), ?_⟩
        rcases bt (pr z9) with hg8 | hg8
        · rw [hg8]
          refine ⟨pt g4 0, fun _ h_ => r_ok (h_.on 8 22) (fa 0 rfl (h_.b 5 s5)),
           i6 b.id, fun _ h_ => r_ok (h_.on 8 22) (ld hS13 1 rfl (h_.d 9 23)),
           .bool (decide ((b.id : Int) = 0)), fun _ h_ => r_ok (h_.on 8 22) (run_cmp rfl (h_.d 10 24) rfl rfl (by first | rfl | exact neq_dec _ _ | exact eq_dec _ _ | simp)),
           .bool (decide ((b.id : Int) = 0)), fun _ h_ => r_ok (h_.on 8 22) (run_move rfl (h_.d 11 25)), ?_⟩
          rcases dt ((b.id : Int) = 0) with ⟨he, hg12⟩ | ⟨he, hg12⟩
          · rw [he]
            clear he
            refine seq_off (j := 12) (d := 26) (b := false) [13, 14, 15, 16, 17] _ (by kernel_rfl) (.inl rfl) ?_
            refine ⟨.bool true, fun _ h_ => r_ok (h_.on 8 22) (run_pick_t rfl (h_.d 12 26) rfl),
             .bool true, fun _ h_ => r_ok (h_.on 8 22) (run_move rfl (h_.d 18 32)), ?_⟩
            refine seq_off (j := 19) (d := 33) (b := false) [20, 21, 22, 23, 24, 25] _ (by kernel_rfl) (.inl rfl) ?_
            refine seq_off (j := 25) (d := 39) (b := true) [26, 27, 28, 29, 30] _ (by kernel_rfl) (.inr rfl) ?_
            refine seq_off (j := 19) (d := 33) (b := false) [31] _ (by kernel_rfl) (.inl rfl) ?_
            refine ⟨.bool true, fun _ h_ => r_ok (h_.on 8 22) (run_pick_t rfl (h_.d 19 33) rfl),
             .bool true, fun _ h_ => rk (run_pick_t rfl (h_.d 8 22) (h_.d 32 46)), ?_⟩
            intro a12 hput
            replace s1 := hput.o 1 s1
            replace s4 := hput.o 4 s4
            replace s5 := hput.o 5 s5
            replace s7 := hput.o 7 s7
            replace s8 := hput.o 8 s8
            replace s9 := hput.o 9 s9
            replace s10 := hput.o 10 s10
            replace s12 := hput.o 12 s12
            replace s13 := hput.o 13 s13
            have s14 : sl a12 14 = pt g10 1 := hput.new 0 14 rfl
            have s15 : sl a12 15 = i6 z9.prio := hput.new 1 15 rfl
            have s16 : sl a12 16 = .bool true := hput.new 2 16 rfl
            have s17 : sl a12 17 = .bool true := hput.new 3 17 rfl
            have s18 : sl a12 18 = .func (.func f) #[] cap := hput.new 4 18 rfl
            have s19 : sl a12 19 = .agg #[i6 z9.id, i6 z9.prio, i6 z9.dr, i6 z9.bdr] := hput.new 5 19 rfl
            have s20 : sl a12 20 = .bool true := hput.new 6 20 rfl
            have s21 : sl a12 21 = .bool true := hput.new 7 21 rfl
            have s22 : sl a12 22 = .bool true := hput.new 8 22 rfl
            have s23 : sl a12 23 = pt g4 0 := hput.new 9 23 rfl
            have s24 : sl a12 24 = i6 b.id := hput.new 10 24 rfl
            have s25 : sl a12 25 = .bool true := hput.new 11 25 rfl
            have s26 : sl a12 26 = .bool true := hput.new 12 26 rfl
            have s32 : sl a12 32 = .bool true := hput.new 18 32 rfl
            have s33 : sl a12 33 = .bool true := hput.new 19 33 rfl
            have s46 : sl a12 46 = .bool true := hput.new 32 46 rfl
            have s47 : sl a12 47 = .bool true := hput.new 33 47 rfl
            replace hz := hput.size.trans hz
            replace hd := hput.defers.trans hd
            clear hput
            change Code.wp _ _ _ _ _
            refine wp_cond_true s47 ?_
            refine seq_l [1] hz ?_
            refine ⟨.agg #[i6 z9.id, i6 z9.prio, i6 z9.dr, i6 z9.bdr], fun _ h_ => rk (lbS 4 (hS13.blk (i := 0) rfl) rfl (h_.b 7 s7)), ?_⟩
            refine ⟨fun a_ h_ => st_store (n := 4) (cells := #[i6 z9.id, i6 z9.prio, i6 z9.dr, i6 z9.bdr]) (cs' := #[i6 z9.id, i6 z9.prio, i6 z9.dr, i6 z9.bdr]) 1 hS13 rfl (on_none rfl) rfl (h_.b 5 s5) (h_.d 0 48) rfl (by kernel_rfl) ⟨Nat.le_of_ble_eq_true rfl, rfl, by kernel_rfl⟩ rfl fun w15 hS15 he15 => ⟨_, rfl, ?_⟩, trivial⟩
            clear h_ a_ he15 hS13
            replace hS15 : S (kap W) ((blkA g10 227 #[i6 z9.id, i6 z9.prio, i6 z9.dr, i6 z9.bdr]) :: (blkA g4 227 #[i6 z9.id, i6 z9.prio, i6 z9.dr, i6 z9.bdr]) :: []) ((memA W W.heap.size) :: []) w15 := hS15
            intro a14 hput
            replace s1 := hput.o 1 s1
            replace s4 := hput.o 4 s4
            replace s5 := hput.o 5 s5
            replace s7 := hput.o 7 s7
            replace s8 := hput.o 8 s8
            replace s9 := hput.o 9 s9
            replace s10 := hput.o 10 s10
            replace s12 := hput.o 12 s12
            replace s13 := hput.o 13 s13
            replace s14 := hput.o 14 s14
            replace s15 := hput.o 15 s15
            replace s16 := hput.o 16 s16
            replace s17 := hput.o 17 s17
            replace s18 := hput.o 18 s18
            replace s19 := hput.o 19 s19
            replace s20 := hput.o 20 s20
            replace s21 := hput.o 21 s21
            replace s22 := hput.o 22 s22
            replace s23 := hput.o 23 s23
            replace s24 := hput.o 24 s24
            replace s25 := hput.o 25 s25
            replace s26 := hput.o 26 s26
            replace s32 := hput.o 32 s32
            replace s33 := hput.o 33 s33
            replace s46 := hput.o 46 s46
            replace s47 := hput.o 47 s47
            have s48 : sl a14 48 = .agg #[i6 z9.id, i6 z9.prio, i6 z9.dr, i6 z9.bdr] := hput.new 0 48 rfl
            replace hz := hput.size.trans hz
            replace hd := hput.defers.trans hd
            clear hput
            change Code.wp _ _ _ _ _
            refine seq_l [] hz ?_
            refine ⟨i6 (k + 1), fun _ h_ => rk (run_addI rfl (h_.b 10 s10) rfl (by omega) rfl),
             i6 (k + 1), fun _ h_ => rmv (h_.d 0 49), ?_⟩
            intro a16 hput
            replace s1 := hput.o 1 s1
            replace s4 := hput.o 4 s4
            replace s5 := hput.o 5 s5
            replace s7 := hput.o 7 s7
            replace s8 := hput.o 8 s8
            replace s9 := hput.o 9 s9
            replace s10 : sl a16 10 = i6 (k + 1) := hput.new 1 10 rfl
            replace s12 := hput.o 12 s12
            replace s13 := hput.o 13 s13
            replace s14 := hput.o 14 s14
            replace s15 := hput.o 15 s15
            replace s16 := hput.o 16 s16
            replace s17 := hput.o 17 s17
            replace s18 := hput.o 18 s18
            replace s19 := hput.o 19 s19
            replace s20 := hput.o 20 s20
            replace s21 := hput.o 21 s21
            replace s22 := hput.o 22 s22
            replace s23 := hput.o 23 s23
            replace s24 := hput.o 24 s24
            replace s25 := hput.o 25 s25
            replace s26 := hput.o 26 s26
            replace s32 := hput.o 32 s32
            replace s33 := hput.o 33 s33
            replace s46 := hput.o 46 s46
            replace s47 := hput.o 47 s47
            replace s48 := hput.o 48 s48
            have s49 : sl a16 49 = i6 (k + 1) := hput.new 0 49 rfl
            replace hz := hput.size.trans hz
            replace hd := hput.defers.trans hd
            clear hput
            have hSd := hS15.drop
            refine ⟨⟨k + 1, z9, by omega, bfold_yes hc0_1 hz9 ⟨by omega, by simp_all, by omega⟩, hz, hd, s1, s4, s5, s8, s9, s10, hSd⟩, ?_⟩
            show n - (intOf (sl a16 10)).toNat < n - (intOf (sl a6 10)).toNat
            rw [show sl a16 10 = _ from s10, show sl a6 10 = _ from hmu0]
            simp only [intOf]
            omega
          · rw [he]
            clear he
            refine ⟨pt g10 1, fun _ h_ => r_ok (h_.on 12 26) (fa 1 rfl (h_.b 7 s7)),
             i6 z9.prio, fun _ h_ => r_ok (h_.on 12 26) (ld hS13 0 rfl (h_.d 13 27)),
             pt g4 1, fun _ h_ => r_ok (h_.on 12 26) (fa 1 rfl (h_.b 5 s5)),
             i6 b.prio, fun _ h_ => r_ok (h_.on 12 26) (ld hS13 1 rfl (h_.d 15 29)),
             .bool (decide ((b.prio : Int) < z9.prio)), fun _ h_ => r_ok (h_.on 12 26) (run_cmp rfl (h_.d 14 28) (h_.d 16 30) rfl (by first | rfl | exact neq_dec _ _ | exact eq_dec _ _ | simp)),
             .bool (decide ((b.prio : Int) < z9.prio)), fun _ h_ => r_ok (h_.on 8 22) (run_pick_f rfl (h_.d 12 26) (h_.d 17 31)),
             .bool (decide ((b.prio : Int) < z9.prio)), fun _ h_ => r_ok (h_.on 8 22) (run_move rfl (h_.d 18 32)), ?_⟩
            rcases dt ((b.prio : Int) < z9.prio) with ⟨he, hg19⟩ | ⟨he, hg19⟩
            · rw [he]
              clear he
              refine seq_off (j := 19) (d := 33) (b := false) [20, 21, 22, 23, 24, 25] _ (by kernel_rfl) (.inl rfl) ?_
              refine seq_off (j := 25) (d := 39) (b := true) [26, 27, 28, 29, 30] _ (by kernel_rfl) (.inr rfl) ?_
              refine seq_off (j := 19) (d := 33) (b := false) [31] _ (by kernel_rfl) (.inl rfl) ?_
              refine ⟨.bool true, fun _ h_ => r_ok (h_.on 8 22) (run_pick_t rfl (h_.d 19 33) rfl),
               .bool true, fun _ h_ => rk (run_pick_t rfl (h_.d 8 22) (h_.d 32 46)), ?_⟩
              intro a12 hput
              replace s1 := hput.o 1 s1
              replace s4 := hput.o 4 s4
              replace s5 := hput.o 5 s5
              replace s7 := hput.o 7 s7
              replace s8 := hput.o 8 s8
              replace s9 := hput.o 9 s9
              replace s10 := hput.o 10 s10
              replace s12 := hput.o 12 s12
              replace s13 := hput.o 13 s13
              have s14 : sl a12 14 = pt g10 1 := hput.new 0 14 rfl
              have s15 : sl a12 15 = i6 z9.prio := hput.new 1 15 rfl
              have s16 : sl a12 16 = .bool true := hput.new 2 16 rfl
              have s17 : sl a12 17 = .bool true := hput.new 3 17 rfl
              have s18 : sl a12 18 = .func (.func f) #[] cap := hput.new 4 18 rfl
              have s19 : sl a12 19 = .agg #[i6 z9.id, i6 z9.prio, i6 z9.dr, i6 z9.bdr] := hput.new 5 19 rfl
              have s20 : sl a12 20 = .bool true := hput.new 6 20 rfl
              have s21 : sl a12 21 = .bool true := hput.new 7 21 rfl
              have s22 : sl a12 22 = .bool true := hput.new 8 22 rfl
              have s23 : sl a12 23 = pt g4 0 := hput.new 9 23 rfl
              have s24 : sl a12 24 = i6 b.id := hput.new 10 24 rfl
              have s25 : sl a12 25 = .bool false := hput.new 11 25 rfl
              have s26 : sl a12 26 = .bool false := hput.new 12 26 rfl
              have s27 : sl a12 27 = pt g10 1 := hput.new 13 27 rfl
              have s28 : sl a12 28 = i6 z9.prio := hput.new 14 28 rfl
              have s29 : sl a12 29 = pt g4 1 := hput.new 15 29 rfl
              have s30 : sl a12 30 = i6 b.prio := hput.new 16 30 rfl
              have s31 : sl a12 31 = .bool true := hput.new 17 31 rfl
              have s32 : sl a12 32 = .bool true := hput.new 18 32 rfl
              have s33 : sl a12 33 = .bool true := hput.new 19 33 rfl
              have s46 : sl a12 46 = .bool true := hput.new 32 46 rfl
              have s47 : sl a12 47 = .bool true := hput.new 33 47 rfl
              replace hz := hput.size.trans hz
              replace hd := hput.defers.trans hd
              clear hput
              change Code.wp _ _ _ _ _
              refine wp_cond_true s47 ?_
              refine seq_l [1] hz ?_
              refine ⟨.agg #[i6 z9.id, i6 z9.prio, i6 z9.dr, i6 z9.bdr], fun _ h_ => rk (lbS 4 (hS13.blk (i := 0) rfl) rfl (h_.b 7 s7)), ?_⟩
              refine ⟨fun a_ h_ => st_store (n := 4) (cells := #[i6 z9.id, i6 z9.prio, i6 z9.dr, i6 z9.bdr]) (cs' := #[i6 z9.id, i6 z9.prio, i6 z9.dr, i6 z9.bdr]) 1 hS13 rfl (on_none rfl) rfl (h_.b 5 s5) (h_.d 0 48) rfl (by kernel_rfl) ⟨Nat.le_of_ble_eq_true rfl, rfl, by kernel_rfl⟩ rfl fun w18 hS18 he18 => ⟨_, rfl, ?_⟩, trivial⟩
              clear h_ a_ he18 hS13
              replace hS18 : S (kap W) ((blkA g10 227 #[i6 z9.id, i6 z9.prio, i6 z9.dr, i6 z9.bdr]) :: (blkA g4 227 #[i6 z9.id, i6 z9.prio, i6 z9.dr, i6 z9.bdr]) :: []) ((memA W W.heap.size) :: []) w18 := hS18
              intro a17 hput
              replace s1 := hput.o 1 s1
              replace s4 := hput.o 4 s4
              replace s5 := hput.o 5 s5
              replace s7 := hput.o 7 s7
              replace s8 := hput.o 8 s8
              replace s9 := hput.o 9 s9
              replace s10 := hput.o 10 s10
              replace s12 := hput.o 12 s12
              replace s13 := hput.o 13 s13
              replace s14 := hput.o 14 s14
              replace s15 := hput.o 15 s15
              replace s16 := hput.o 16 s16
              replace s17 := hput.o 17 s17
              replace s18 := hput.o 18 s18
              replace s19 := hput.o 19 s19
              replace s20 := hput.o 20 s20
              replace s21 := hput.o 21 s21
              replace s22 := hput.o 22 s22
              replace s23 := hput.o 23 s23
              replace s24 := hput.o 24 s24
              replace s25 := hput.o 25 s25
              replace s26 := hput.o 26 s26
              replace s27 := hput.o 27 s27
              replace s28 := hput.o 28 s28
              replace s29 := hput.o 29 s29
              replace s30 := hput.o 30 s30
              replace s31 := hput.o 31 s31
              replace s32 := hput.o 32 s32
              replace s33 := hput.o 33 s33
              replace s46 := hput.o 46 s46
              replace s47 := hput.o 47 s47
              have s48 : sl a17 48 = .agg #[i6 z9.id, i6 z9.prio, i6 z9.dr, i6 z9.bdr] := hput.new 0 48 rfl
              replace hz := hput.size.trans hz
              replace hd := hput.defers.trans hd
              clear hput
              change Code.wp _ _ _ _ _
              refine seq_l [] hz ?_
              refine ⟨i6 (k + 1), fun _ h_ => rk (run_addI rfl (h_.b 10 s10) rfl (by omega) rfl),
               i6 (k + 1), fun _ h_ => rmv (h_.d 0 49), ?_⟩
              intro a19 hput
              replace s1 := hput.o 1 s1
              replace s4 := hput.o 4 s4
              replace s5 := hput.o 5 s5
              replace s7 := hput.o 7 s7
              replace s8 := hput.o 8 s8
              replace s9 := hput.o 9 s9
              replace s10 : sl a19 10 = i6 (k + 1) := hput.new 1 10 rfl
              replace s12 := hput.o 12 s12
              replace s13 := hput.o 13 s13
              replace s14 := hput.o 14 s14
              replace s15 := hput.o 15 s15
              replace s16 := hput.o 16 s16
              replace s17 := hput.o 17 s17
              replace s18 := hput.o 18 s18
              replace s19 := hput.o 19 s19
              replace s20 := hput.o 20 s20
              replace s21 := hput.o 21 s21
              replace s22 := hput.o 22 s22
              replace s23 := hput.o 23 s23
              replace s24 := hput.o 24 s24
              replace s25 := hput.o 25 s25
              replace s26 := hput.o 26 s26
              replace s27 := hput.o 27 s27
              replace s28 := hput.o 28 s28
              replace s29 := hput.o 29 s29
              replace s30 := hput.o 30 s30
              replace s31 := hput.o 31 s31
              replace s32 := hput.o 32 s32
              replace s33 := hput.o 33 s33
              replace s46 := hput.o 46 s46
              replace s47 := hput.o 47 s47
              replace s48 := hput.o 48 s48
              have s49 : sl a19 49 = i6 (k + 1) := hput.new 0 49 rfl
              replace hz := hput.size.trans hz
              replace hd := hput.defers.trans hd
              clear hput
              have hSd := hS18.drop
              refine ⟨⟨k + 1, z9, by omega, bfold_yes hc0_1 hz9 ⟨by omega, by simp_all, by omega⟩, hz, hd, s1, s4, s5, s8, s9, s10, hSd⟩, ?_⟩
              show n - (intOf (sl a19 10)).toNat < n - (intOf (sl a6 10)).toNat
              rw [show sl a19 10 = _ from s10, show sl a6 10 = _ from hmu0]
              simp only [intOf]
              omega
            · rw [he]
              clear he
              refine ⟨pt g10 1, fun _ h_ => r_ok (h_.on 19 33) (fa 1 rfl (h_.b 7 s7)),
               i6 z9.prio, fun _ h_ => r_ok (h_.on 19 33) (ld hS13 0 rfl (h_.d 20 34)),
               pt g4 1, fun _ h_ => r_ok (h_.on 19 33) (fa 1 rfl (h_.b 5 s5)),
               i6 b.prio, fun _ h_ => r_ok (h_.on 19 33) (ld hS13 1 rfl (h_.d 22 36)),
               .bool (decide ((z9.prio : Int) = b.prio)), fun _ h_ => r_ok (h_.on 19 33) (run_cmp rfl (h_.d 21 35) (h_.d 23 37) rfl (by first | rfl | exact neq_dec _ _ | exact eq_dec _ _ | simp)),
               .bool (decide ((z9.prio : Int) = b.prio)), fun _ h_ => r_ok (h_.on 19 33) (run_move rfl (h_.d 24 38)), ?_⟩
              rcases dt ((z9.prio : Int) = b.prio) with ⟨he, hg25⟩ | ⟨he, hg25⟩
              · rw [he]
                clear he
                refine ⟨pt g10 0, fun _ h_ => r_ok (h_.on 25 39) (fa 0 rfl (h_.b 7 s7)),
                 i6 z9.id, fun _ h_ => r_ok (h_.on 25 39) (ld hS13 0 rfl (h_.d 26 40)),
                 pt g4 0, fun _ h_ => r_ok (h_.on 25 39) (fa 0 rfl (h_.b 5 s5)),
                 i6 b.id, fun _ h_ => r_ok (h_.on 25 39) (ld hS13 1 rfl (h_.d 28 42)),
                 .bool (decide ((b.id : Int) < z9.id)), fun _ h_ => r_ok (h_.on 25 39) (run_cmp rfl (h_.d 27 41) (h_.d 29 43) rfl (by first | rfl | exact neq_dec _ _ | exact eq_dec _ _ | simp)),
                 .bool (decide ((b.id : Int) < z9.id)), fun _ h_ => r_ok (h_.on 19 33) (run_pick_t rfl (h_.d 25 39) (h_.d 30 44)),
                 .bool (decide ((b.id : Int) < z9.id)), fun _ h_ => r_ok (h_.on 8 22) (run_pick_f rfl (h_.d 19 33) (h_.d 31 45)),
                 .bool (decide ((b.id : Int) < z9.id)), fun _ h_ => rk (run_pick_t rfl (h_.d 8 22) (h_.d 32 46)), ?_⟩
                intro a12 hput
                replace s1 := hput.o 1 s1
                replace s4 := hput.o 4 s4
                replace s5 := hput.o 5 s5
                replace s7 := hput.o 7 s7
                replace s8 := hput.o 8 s8
                replace s9 := hput.o 9 s9
                replace s10 := hput.o 10 s10
                replace s12 := hput.o 12 s12
                replace s13 := hput.o 13 s13
                have s14 : sl a12 14 = pt g10 1 := hput.new 0 14 rfl
                have s15 : sl a12 15 = i6 z9.prio := hput.new 1 15 rfl
                have s16 : sl a12 16 = .bool true := hput.new 2 16 rfl
                have s17 : sl a12 17 = .bool true := hput.new 3 17 rfl
                have s18 : sl a12 18 = .func (.func f) #[] cap := hput.new 4 18 rfl
                have s19 : sl a12 19 = .agg #[i6 z9.id, i6 z9.prio, i6 z9.dr, i6 z9.bdr] := hput.new 5 19 rfl
                have s20 : sl a12 20 = .bool true := hput.new 6 20 rfl
                have s21 : sl a12 21 = .bool true := hput.new 7 21 rfl
                have s22 : sl a12 22 = .bool true := hput.new 8 22 rfl
                have s23 : sl a12 23 = pt g4 0 := hput.new 9 23 rfl
                have s24 : sl a12 24 = i6 b.id := hput.new 10 24 rfl
                have s25 : sl a12 25 = .bool false := hput.new 11 25 rfl
                have s26 : sl a12 26 = .bool false := hput.new 12 26 rfl
                have s27 : sl a12 27 = pt g10 1 := hput.new 13 27 rfl
                have s28 : sl a12 28 = i6 z9.prio := hput.new 14 28 rfl
                have s29 : sl a12 29 = pt g4 1 := hput.new 15 29 rfl
                have s30 : sl a12 30 = i6 b.prio := hput.new 16 30 rfl
                have s31 : sl a12 31 = .bool false := hput.new 17 31 rfl
                have s32 : sl a12 32 = .bool false := hput.new 18 32 rfl
                have s33 : sl a12 33 = .bool false := hput.new 19 33 rfl
                have s34 : sl a12 34 = pt g10 1 := hput.new 20 34 rfl
                have s35 : sl a12 35 = i6 z9.prio := hput.new 21 35 rfl
                have s36 : sl a12 36 = pt g4 1 := hput.new 22 36 rfl
                have s37 : sl a12 37 = i6 b.prio := hput.new 23 37 rfl
                have s38 : sl a12 38 = .bool true := hput.new 24 38 rfl
                have s39 : sl a12 39 = .bool true := hput.new 25 39 rfl
                have s40 : sl a12 40 = pt g10 0 := hput.new 26 40 rfl
                have s41 : sl a12 41 = i6 z9.id := hput.new 27 41 rfl
                have s42 : sl a12 42 = pt g4 0 := hput.new 28 42 rfl
                have s43 : sl a12 43 = i6 b.id := hput.new 29 43 rfl
                have s44 : sl a12 44 = .bool (decide ((b.id : Int) < z9.id)) := hput.new 30 44 rfl
                have s45 : sl a12 45 = .bool (decide ((b.id : Int) < z9.id)) := hput.new 31 45 rfl
                have s46 : sl a12 46 = .bool (decide ((b.id : Int) < z9.id)) := hput.new 32 46 rfl
                have s47 : sl a12 47 = .bool (decide ((b.id : Int) < z9.id)) := hput.new 33 47 rfl
                replace hz := hput.size.trans hz
                replace hd := hput.defers.trans hd
                clear hput
                change Code.wp _ _ _ _ _
                refine wp_cond_d s47 (fun hc47 => ?_) (fun hc47 => ?_)
                · clear s47
                  refine seq_l [1] hz ?_
                  refine ⟨.agg #[i6 z9.id, i6 z9.prio, i6 z9.dr, i6 z9.bdr], fun _ h_ => rk (lbS 4 (hS13.blk (i := 0) rfl) rfl (h_.b 7 s7)), ?_⟩
                  refine ⟨fun a_ h_ => st_store (n := 4) (cells := #[i6 z9.id, i6 z9.prio, i6 z9.dr, i6 z9.bdr]) (cs' := #[i6 z9.id, i6 z9.prio, i6 z9.dr, i6 z9.bdr]) 1 hS13 rfl (on_none rfl) rfl (h_.b 5 s5) (h_.d 0 48) rfl (by kernel_rfl) ⟨Nat.le_of_ble_eq_true rfl, rfl, by kernel_rfl⟩ rfl fun w21 hS21 he21 => ⟨_, rfl, ?_⟩, trivial⟩
                  clear h_ a_ he21 hS13
                  replace hS21 : S (kap W) ((blkA g10 227 #[i6 z9.id, i6 z9.prio, i6 z9.dr, i6 z9.bdr]) :: (blkA g4 227 #[i6 z9.id, i6 z9.prio, i6 z9.dr, i6 z9.bdr]) :: []) ((memA W W.heap.size) :: []) w21 := hS21
                  intro a20 hput
                  replace s1 := hput.o 1 s1
                  replace s4 := hput.o 4 s4
                  replace s5 := hput.o 5 s5
                  replace s7 := hput.o 7 s7
                  replace s8 := hput.o 8 s8
                  replace s9 := hput.o 9 s9
                  replace s10 := hput.o 10 s10
                  replace s12 := hput.o 12 s12
                  replace s13 := hput.o 13 s13
                  replace s14 := hput.o 14 s14
                  replace s15 := hput.o 15 s15
                  replace s16 := hput.o 16 s16
                  replace s17 := hput.o 17 s17
                  replace s18 := hput.o 18 s18
                  replace s19 := hput.o 19 s19
                  replace s20 := hput.o 20 s20
                  replace s21 := hput.o 21 s21
                  replace s22 := hput.o 22 s22
                  replace s23 := hput.o 23 s23
                  replace s24 := hput.o 24 s24
                  replace s25 := hput.o 25 s25
                  replace s26 := hput.o 26 s26
                  replace s27 := hput.o 27 s27
                  replace s28 := hput.o 28 s28
                  replace s29 := hput.o 29 s29
                  replace s30 := hput.o 30 s30
                  replace s31 := hput.o 31 s31
                  replace s32 := hput.o 32 s32
                  replace s33 := hput.o 33 s33
                  replace s34 := hput.o 34 s34
                  replace s35 := hput.o 35 s35
                  replace s36 := hput.o 36 s36
                  replace s37 := hput.o 37 s37
                  replace s38 := hput.o 38 s38
                  replace s39 := hput.o 39 s39
                  replace s40 := hput.o 40 s40
                  replace s41 := hput.o 41 s41
                  replace s42 := hput.o 42 s42
                  replace s43 := hput.o 43 s43
                  replace s44 := hput.o 44 s44
                  replace s45 := hput.o 45 s45
                  replace s46 := hput.o 46 s46
                  have s48 : sl a20 48 = .agg #[i6 z9.id, i6 z9.prio, i6 z9.dr, i6 z9.bdr] := hput.new 0 48 rfl
                  replace hz := hput.size.trans hz
                  replace hd := hput.defers.trans hd
                  clear hput
                  change Code.wp _ _ _ _ _
                  refine seq_l [] hz ?_
                  refine ⟨i6 (k + 1), fun _ h_ => rk (run_addI rfl (h_.b 10 s10) rfl (by omega) rfl),
                   i6 (k + 1), fun _ h_ => rmv (h_.d 0 49), ?_⟩
                  intro a22 hput
                  replace s1 := hput.o 1 s1
                  replace s4 := hput.o 4 s4
                  replace s5 := hput.o 5 s5
                  replace s7 := hput.o 7 s7
                  replace s8 := hput.o 8 s8
                  replace s9 := hput.o 9 s9
                  replace s10 : sl a22 10 = i6 (k + 1) := hput.new 1 10 rfl
                  replace s12 := hput.o 12 s12
                  replace s13 := hput.o 13 s13
                  replace s14 := hput.o 14 s14
                  replace s15 := hput.o 15 s15
                  replace s16 := hput.o 16 s16
                  replace s17 := hput.o 17 s17
                  replace s18 := hput.o 18 s18
                  replace s19 := hput.o 19 s19
                  replace s20 := hput.o 20 s20
                  replace s21 := hput.o 21 s21
                  replace s22 := hput.o 22 s22
                  replace s23 := hput.o 23 s23
                  replace s24 := hput.o 24 s24
                  replace s25 := hput.o 25 s25
                  replace s26 := hput.o 26 s26
                  replace s27 := hput.o 27 s27
                  replace s28 := hput.o 28 s28
                  replace s29 := hput.o 29 s29
                  replace s30 := hput.o 30 s30
                  replace s31 := hput.o 31 s31
                  replace s32 := hput.o 32 s32
                  replace s33 := hput.o 33 s33
                  replace s34 := hput.o 34 s34
                  replace s35 := hput.o 35 s35
                  replace s36 := hput.o 36 s36
                  replace s37 := hput.o 37 s37
                  replace s38 := hput.o 38 s38
                  replace s39 := hput.o 39 s39
                  replace s40 := hput.o 40 s40
                  replace s41 := hput.o 41 s41
                  replace s42 := hput.o 42 s42
                  replace s43 := hput.o 43 s43
                  replace s44 := hput.o 44 s44
                  replace s45 := hput.o 45 s45
                  replace s46 := hput.o 46 s46
                  replace s48 := hput.o 48 s48
                  have s49 : sl a22 49 = i6 (k + 1) := hput.new 0 49 rfl
                  replace hz := hput.size.trans hz
                  replace hd := hput.defers.trans hd
                  clear hput
                  have hSd := hS21.drop
                  refine ⟨⟨k + 1, z9, by omega, bfold_yes hc0_1 hz9 ⟨by omega, by simp_all, by omega⟩, hz, hd, s1, s4, s5, s8, s9, s10, hSd⟩, ?_⟩
                  show n - (intOf (sl a22 10)).toNat < n - (intOf (sl a6 10)).toNat
                  rw [show sl a22 10 = _ from s10, show sl a6 10 = _ from hmu0]
                  simp only [intOf]
                  omega
                · clear s47
                  refine wp_skip ?_
                  change Code.wp _ _ _ _ _
                  refine seq_l [] hz ?_
                  refine ⟨i6 (k + 1), fun _ h_ => rk (run_addI rfl (h_.b 10 s10) rfl (by omega) rfl),
                   i6 (k + 1), fun _ h_ => rmv (h_.d 0 49), ?_⟩
                  intro a23 hput
                  replace s1 := hput.o 1 s1
                  replace s4 := hput.o 4 s4
                  replace s5 := hput.o 5 s5
                  replace s7 := hput.o 7 s7
                  replace s8 := hput.o 8 s8
                  replace s9 := hput.o 9 s9
                  replace s10 : sl a23 10 = i6 (k + 1) := hput.new 1 10 rfl
                  replace s12 := hput.o 12 s12
                  replace s13 := hput.o 13 s13
                  replace s14 := hput.o 14 s14
                  replace s15 := hput.o 15 s15
                  replace s16 := hput.o 16 s16
                  replace s17 := hput.o 17 s17
                  replace s18 := hput.o 18 s18
                  replace s19 := hput.o 19 s19
                  replace s20 := hput.o 20 s20
                  replace s21 := hput.o 21 s21
                  replace s22 := hput.o 22 s22
                  replace s23 := hput.o 23 s23
                  replace s24 := hput.o 24 s24
                  replace s25 := hput.o 25 s25
                  replace s26 := hput.o 26 s26
                  replace s27 := hput.o 27 s27
                  replace s28 := hput.o 28 s28
                  replace s29 := hput.o 29 s29
                  replace s30 := hput.o 30 s30
                  replace s31 := hput.o 31 s31
                  replace s32 := hput.o 32 s32
                  replace s33 := hput.o 33 s33
                  replace s34 := hput.o 34 s34
                  replace s35 := hput.o 35 s35
                  replace s36 := hput.o 36 s36
                  replace s37 := hput.o 37 s37
                  replace s38 := hput.o 38 s38
                  replace s39 := hput.o 39 s39
                  replace s40 := hput.o 40 s40
                  replace s41 := hput.o 41 s41
                  replace s42 := hput.o 42 s42
                  replace s43 := hput.o 43 s43
                  replace s44 := hput.o 44 s44
                  replace s45 := hput.o 45 s45
                  replace s46 := hput.o 46 s46
                  have s49 : sl a23 49 = i6 (k + 1) := hput.new 0 49 rfl
                  replace hz := hput.size.trans hz
                  replace hd := hput.defers.trans hd
                  clear hput
                  have hSd := hS13.drop
                  refine ⟨⟨k + 1, b, by omega, bfold_no hc0_1 hz9 (by rintro ⟨h1, h2, h3⟩; first | omega | simp_all), hz, hd, s1, s4, s5, s8, s9, s10, hSd⟩, ?_⟩
                  show n - (intOf (sl a23 10)).toNat < n - (intOf (sl a6 10)).toNat
                  rw [show sl a23 10 = _ from s10, show sl a6 10 = _ from hmu0]
                  simp only [intOf]
                  omega
              · rw [he]
                clear he
                refine seq_off (j := 25) (d := 39) (b := true) [26, 27, 28, 29, 30] _ (by kernel_rfl) (.inl rfl) ?_
                refine ⟨.bool false, fun _ h_ => r_ok (h_.on 19 33) (run_pick_f rfl (h_.d 25 39) rfl),
                 .bool false, fun _ h_ => r_ok (h_.on 8 22) (run_pick_f rfl (h_.d 19 33) (h_.d 31 45)),
                 .bool false, fun _ h_ => rk (run_pick_t rfl (h_.d 8 22) (h_.d 32 46)), ?_⟩
                intro a12 hput
                replace s1 := hput.o 1 s1
                replace s4 := hput.o 4 s4
                replace s5 := hput.o 5 s5
                replace s7 := hput.o 7 s7
                replace s8 := hput.o 8 s8
                replace s9 := hput.o 9 s9
                replace s10 := hput.o 10 s10
                replace s12 := hput.o 12 s12
                replace s13 := hput.o 13 s13
                have s14 : sl a12 14 = pt g10 1 := hput.new 0 14 rfl
                have s15 : sl a12 15 = i6 z9.prio := hput.new 1 15 rfl
                have s16 : sl a12 16 = .bool true := hput.new 2 16 rfl
                have s17 : sl a12 17 = .bool true := hput.new 3 17 rfl
                have s18 : sl a12 18 = .func (.func f) #[] cap := hput.new 4 18 rfl
                have s19 : sl a12 19 = .agg #[i6 z9.id, i6 z9.prio, i6 z9.dr, i6 z9.bdr] := hput.new 5 19 rfl
                have s20 : sl a12 20 = .bool true := hput.new 6 20 rfl
                have s21 : sl a12 21 = .bool true := hput.new 7 21 rfl
                have s22 : sl a12 22 = .bool true := hput.new 8 22 rfl
                have s23 : sl a12 23 = pt g4 0 := hput.new 9 23 rfl
                have s24 : sl a12 24 = i6 b.id := hput.new 10 24 rfl
                have s25 : sl a12 25 = .bool false := hput.new 11 25 rfl
                have s26 : sl a12 26 = .bool false := hput.new 12 26 rfl
                have s27 : sl a12 27 = pt g10 1 := hput.new 13 27 rfl
                have s28 : sl a12 28 = i6 z9.prio := hput.new 14 28 rfl
                have s29 : sl a12 29 = pt g4 1 := hput.new 15 29 rfl
                have s30 : sl a12 30 = i6 b.prio := hput.new 16 30 rfl
                have s31 : sl a12 31 = .bool false := hput.new 17 31 rfl
                have s32 : sl a12 32 = .bool false := hput.new 18 32 rfl
                have s33 : sl a12 33 = .bool false := hput.new 19 33 rfl
                have s34 : sl a12 34 = pt g10 1 := hput.new 20 34 rfl
                have s35 : sl a12 35 = i6 z9.prio := hput.new 21 35 rfl
                have s36 : sl a12 36 = pt g4 1 := hput.new 22 36 rfl
                have s37 : sl a12 37 = i6 b.prio := hput.new 23 37 rfl
                have s38 : sl a12 38 = .bool false := hput.new 24 38 rfl
                have s39 : sl a12 39 = .bool false := hput.new 25 39 rfl
                have s45 : sl a12 45 = .bool false := hput.new 31 45 rfl
                have s46 : sl a12 46 = .bool false := hput.new 32 46 rfl
                have s47 : sl a12 47 = .bool false := hput.new 33 47 rfl
                replace hz := hput.size.trans hz
                replace hd := hput.defers.trans hd
                clear hput
                change Code.wp _ _ _ _ _
                refine wp_cond_false s47 ?_
                refine wp_skip ?_
                change Code.wp _ _ _ _ _
                refine seq_l [] hz ?_
                refine ⟨i6 (k + 1), fun _ h_ => rk (run_addI rfl (h_.b 10 s10) rfl (by omega) rfl),
                 i6 (k + 1), fun _ h_ => rmv (h_.d 0 49), ?_⟩
                intro a24 hput
                replace s1 := hput.o 1 s1
                replace s4 := hput.o 4 s4
                replace s5 := hput.o 5 s5
                replace s7 := hput.o 7 s7
                replace s8 := hput.o 8 s8
                replace s9 := hput.o 9 s9
                replace s10 : sl a24 10 = i6 (k + 1) := hput.new 1 10 rfl
                replace s12 := hput.o 12 s12
                replace s13 := hput.o 13 s13
                replace s14 := hput.o 14 s14
                replace s15 := hput.o 15 s15
                replace s16 := hput.o 16 s16
                replace s17 := hput.o 17 s17
                replace s18 := hput.o 18 s18
                replace s19 := hput.o 19 s19
                replace s20 := hput.o 20 s20
                replace s21 := hput.o 21 s21
                replace s22 := hput.o 22 s22
                replace s23 := hput.o 23 s23
                replace s24 := hput.o 24 s24
                replace s25 := hput.o 25 s25
                replace s26 := hput.o 26 s26
                replace s27 := hput.o 27 s27
                replace s28 := hput.o 28 s28
                replace s29 := hput.o 29 s29
                replace s30 := hput.o 30 s30
                replace s31 := hput.o 31 s31
                replace s32 := hput.o 32 s32
                replace s33 := hput.o 33 s33
                replace s34 := hput.o 34 s34
                replace s35 := hput.o 35 s35
                replace s36 := hput.o 36 s36
                replace s37 := hput.o 37 s37
                replace s38 := hput.o 38 s38
                replace s39 := hput.o 39 s39
                replace s45 := hput.o 45 s45
                replace s46 := hput.o 46 s46
                replace s47 := hput.o 47 s47
                have s49 : sl a24 49 = i6 (k + 1) := hput.new 0 49 rfl
                replace hz := hput.size.trans hz
                replace hd := hput.defers.trans hd
                clear hput
                have hSd := hS13.drop
                refine ⟨⟨k + 1, b, by omega, bfold_no hc0_1 hz9 (by rintro ⟨h1, h2, h3⟩; first | omega | simp_all), hz, hd, s1, s4, s5, s8, s9, s10, hSd⟩, ?_⟩
                show n - (intOf (sl a24 10)).toNat < n - (intOf (sl a6 10)).toNat
                rw [show sl a24 10 = _ from s10, show sl a6 10 = _ from hmu0]
                simp only [intOf]
                omega
        · rw [hg8]
          refine seq_off (j := 8) (d := 22) (b := true) [9, 10, 11, 12] _ (by kernel_rfl) (.inl rfl) ?_
          refine seq_off (j := 12) (d := 26) (b := false) [13, 14, 15, 16, 17] _ (by kernel_rfl) (.inr rfl) ?_
          refine seq_off (j := 8) (d := 22) (b := true) [18, 19] _ (by kernel_rfl) (.inl rfl) ?_
          refine seq_off (j := 19) (d := 33) (b := false) [20, 21, 22, 23, 24, 25] _ (by kernel_rfl) (.inr rfl) ?_
          refine seq_off (j := 25) (d := 39) (b := true) [26, 27, 28, 29, 30] _ (by kernel_rfl) (.inr rfl) ?_
          refine seq_off (j := 19) (d := 33) (b := false) [31] _ (by kernel_rfl) (.inr rfl) ?_
          refine seq_off (j := 8) (d := 22) (b := true) [32] _ (by kernel_rfl) (.inl rfl) ?_
          refine ⟨.bool false, fun _ h_ => rk (run_pick_f rfl (h_.d 8 22) rfl), ?_⟩
          intro a12 hput
          replace s1 := hput.o 1 s1
          replace s4 := hput.o 4 s4
          replace s5 := hput.o 5 s5
          replace s7 := hput.o 7 s7
          replace s8 := hput.o 8 s8
          replace s9 := hput.o 9 s9
          replace s10 := hput.o 10 s10
          replace s12 := hput.o 12 s12
          replace s13 := hput.o 13 s13
          have s14 : sl a12 14 = pt g10 1 := hput.new 0 14 rfl
          have s15 : sl a12 15 = i6 z9.prio := hput.new 1 15 rfl
          have s16 : sl a12 16 = .bool true := hput.new 2 16 rfl
          have s17 : sl a12 17 = .bool true := hput.new 3 17 rfl
          have s18 : sl a12 18 = .func (.func f) #[] cap := hput.new 4 18 rfl
          have s19 : sl a12 19 = .agg #[i6 z9.id, i6 z9.prio, i6 z9.dr, i6 z9.bdr] := hput.new 5 19 rfl
          have s20 : sl a12 20 = .bool false := hput.new 6 20 rfl
          have s21 : sl a12 21 = .bool false := hput.new 7 21 rfl
          have s22 : sl a12 22 = .bool false := hput.new 8 22 rfl
          have s47 : sl a12 47 = .bool false := hput.new 33 47 rfl
          replace hz := hput.size.trans hz
          replace hd := hput.defers.trans hd
          clear hput
          change Code.wp _ _ _ _ _
          refine wp_cond_false s47 ?_
          refine wp_skip ?_
          change Code.wp _ _ _ _ _
          refine seq_l [] hz ?_
          refine ⟨i6 (k + 1), fun _ h_ => rk (run_addI rfl (h_.b 10 s10) rfl (by omega) rfl),
           i6 (k + 1), fun _ h_ => rmv (h_.d 0 49), ?_⟩
          intro a25 hput
          replace s1 := hput.o 1 s1
          replace s4 := hput.o 4 s4
          replace s5 := hput.o 5 s5
          replace s7 := hput.o 7 s7
          replace s8 := hput.o 8 s8
          replace s9 := hput.o 9 s9
          replace s10 : sl a25 10 = i6 (k + 1) := hput.new 1 10 rfl
          replace s12 := hput.o 12 s12
          replace s13 := hput.o 13 s13
          replace s14 := hput.o 14 s14
          replace s15 := hput.o 15 s15
          replace s16 := hput.o 16 s16
          replace s17 := hput.o 17 s17
          replace s18 := hput.o 18 s18
          replace s19 := hput.o 19 s19
          replace s20 := hput.o 20 s20
          replace s21 := hput.o 21 s21
          replace s22 := hput.o 22 s22
          replace s47 := hput.o 47 s47
          have s49 : sl a25 49 = i6 (k + 1) := hput.new 0 49 rfl
          replace hz := hput.size.trans hz
          replace hd := hput.defers.trans hd
          clear hput
          have hSd := hS13.drop
          refine ⟨⟨k + 1, b, by omega, bfold_no hc0_1 hz9 (by rintro ⟨h1, h2, h3⟩; first | omega | simp_all), hz, hd, s1, s4, s5, s8, s9, s10, hSd⟩, ?_⟩
          show n - (intOf (sl a25 10)).toNat < n - (intOf (sl a6 10)).toNat
          rw [show sl a25 10 = _ from s10, show sl a6 10 = _ from hmu0]
          simp only [intOf]
          omega
      · rw [he]
        clear he
        refine seq_off (j := 3) (d := 17) (b := true) [4, 5] _ (by kernel_rfl) (.inl rfl) ?_
        refine seq_offe (j := 3) (d := 17) (b := true) (by kernel_rfl) (.inl rfl) ?_
        refine ⟨.bool false, fun _ h_ => rk (run_pick_f rfl (h_.d 3 17) rfl),
         .bool false, fun _ h_ => rmv (h_.d 7 21), ?_⟩
        refine seq_off (j := 8) (d := 22) (b := true) [9, 10, 11, 12] _ (by kernel_rfl) (.inl rfl) ?_
        refine seq_off (j := 12) (d := 26) (b := false) [13, 14, 15, 16, 17] _ (by kernel_rfl) (.inr rfl) ?_
        refine seq_off (j := 8) (d := 22) (b := true) [18, 19] _ (by kernel_rfl) (.inl rfl) ?_
        refine seq_off (j := 19) (d := 33) (b := false) [20, 21, 22, 23, 24, 25] _ (by kernel_rfl) (.inr rfl) ?_
        refine seq_off (j := 25) (d := 39) (b := true) [26, 27, 28, 29, 30] _ (by kernel_rfl) (.inr rfl) ?_
        refine seq_off (j := 19) (d := 33) (b := false) [31] _ (by kernel_rfl) (.inr rfl) ?_
        refine seq_off (j := 8) (d := 22) (b := true) [32] _ (by kernel_rfl) (.inl rfl) ?_
        refine ⟨.bool false, fun _ h_ => rk (run_pick_f rfl (h_.d 8 22) rfl), ?_⟩
        intro a12 hput
        replace s1 := hput.o 1 s1
        replace s4 := hput.o 4 s4
        replace s5 := hput.o 5 s5
        replace s7 := hput.o 7 s7
        replace s8 := hput.o 8 s8
        replace s9 := hput.o 9 s9
        replace s10 := hput.o 10 s10
        replace s12 := hput.o 12 s12
        replace s13 := hput.o 13 s13
        have s14 : sl a12 14 = pt g10 1 := hput.new 0 14 rfl
        have s15 : sl a12 15 = i6 z9.prio := hput.new 1 15 rfl
        have s16 : sl a12 16 = .bool false := hput.new 2 16 rfl
        have s17 : sl a12 17 = .bool false := hput.new 3 17 rfl
        have s21 : sl a12 21 = .bool false := hput.new 7 21 rfl
        have s22 : sl a12 22 = .bool false := hput.new 8 22 rfl
        have s47 : sl a12 47 = .bool false := hput.new 33 47 rfl
        replace hz := hput.size.trans hz
        replace hd := hput.defers.trans hd
        clear hput
        change Code.wp _ _ _ _ _
        refine wp_cond_false s47 ?_
        refine wp_skip ?_
        change Code.wp _ _ _ _ _
        refine seq_l [] hz ?_
        refine ⟨i6 (k + 1), fun _ h_ => rk (run_addI rfl (h_.b 10 s10) rfl (by omega) rfl),
         i6 (k + 1), fun _ h_ => rmv (h_.d 0 49), ?_⟩
        intro a26 hput
        replace s1 := hput.o 1 s1
        replace s4 := hput.o 4 s4
        replace s5 := hput.o 5 s5
        replace s7 := hput.o 7 s7
        replace s8 := hput.o 8 s8
        replace s9 := hput.o 9 s9
        replace s10 : sl a26 10 = i6 (k + 1) := hput.new 1 10 rfl
        replace s12 := hput.o 12 s12
        replace s13 := hput.o 13 s13
        replace s14 := hput.o 14 s14
        replace s15 := hput.o 15 s15
        replace s16 := hput.o 16 s16
        replace s17 := hput.o 17 s17
        replace s21 := hput.o 21 s21
        replace s22 := hput.o 22 s22
        replace s47 := hput.o 47 s47
        have s49 : sl a26 49 = i6 (k + 1) := hput.new 0 49 rfl
        replace hz := hput.size.trans hz
        replace hd := hput.defers.trans hd
        clear hput
        have hSd := hS11.drop
        refine ⟨⟨k + 1, b, by omega, bfold_no hc0_1 hz9 (by rintro ⟨h1, h2, h3⟩; first | omega | simp_all), hz, hd, s1, s4, s5, s8, s9, s10, hSd⟩, ?_⟩
        show n - (intOf (sl a26 10)).toNat < n - (intOf (sl a6 10)).toNat
        rw [show sl a26 10 = _ from s10, show sl a6 10 = _ from hmu0]
        simp only [intOf]
        omega
    · clear s11
      refine wp_exit ?_
      change Code.wp _ _ _ _ _
      refine wp_seq ?_
      refine seq_l [] hz ?_
      refine ⟨pt g4 0, fun _ h_ => rk (fa 0 rfl (h_.b 5 s5)),
       i6 b.id, fun _ h_ => rk (ld hS6 0 rfl (h_.d 0 50)),
       i6 b.id, fun _ h_ => ras (h_.d 1 51), ?_⟩
      intro a27 hput
      replace s4 : sl a27 4 = i6 b.id := hput.new 2 4 rfl
      replace hz := hput.size.trans hz
      replace hd := hput.defers.trans hd
      clear hput s1 s5 s8 s9 s10
      change Code.wp _ _ _ _ _
      refine wp_ret ?_
      refine ret1 (P := Try.prog) (fn := Try.f148) hd s4 (hR_ _ _ ?_)
      obtain rfl : k = n := by omega
      rw [List.take_of_length_le (by have := cds_len hR; omega)] at hc0_1
      exact ⟨by rw [hc0_1]; rfl, (hS6.old (by simp))⟩
set_option maxRecDepth 100000 in
set_option maxHeartbeats 800000 in
theorem go1_any (z : CdV) (W : World) :
    Calls Try.prog 149 #[.agg #[i6 z.id, i6 z.prio, i6 z.dr, i6 z.bdr]] W (fun r w' => r = .returned (.bool (decide (z.dr ≠ z.id) && decide (z.bdr = z.id))) ∧ Below W.heap.size W w') := by
  have hS := S.start W
  refine calls_walk Try.func149 rfl fun R_ hR_ a hz hd hargs => ?_
  replace hz : a.tmps.size = 15 := hz.trans (by kernel_rfl)
  have s0 := hargs 0 _ rfl
  clear hargs
  refine wp_seq ?_
  refine seq_l [0] hz ?_
  refine ⟨fun a_ h_ => st_box (cells := #[i6 z.id, i6 z.prio, i6 z.dr, i6 z.bdr]) hS (on_none rfl) rfl (h_.b 0 s0) (by kernel_rfl) fun g3 w3 hS3 hb3 => ⟨_, rfl, ?_⟩, trivial⟩
  clear h_ a_ hS
  clear hb3
  refine ⟨.bool false, fun _ h_ => rk (run_assign rfl rfl), ?_⟩
  intro a2 hput
  have s1 : sl a2 1 = pt g3 0 := hput.new 0 1 rfl
  have s2 : sl a2 2 = .bool false := hput.new 1 2 rfl
  replace hz := hput.size.trans hz
  replace hd := hput.defers.trans hd
  clear hput s0
  change Code.wp _ _ _ _ _
  refine wp_seq ?_
  refine seq_l [] hz ?_
  refine ⟨pt g3 2, fun _ h_ => rk (fa 2 rfl (h_.b 1 s1)),
   i6 z.dr, fun _ h_ => rk (ld hS3 0 rfl (h_.d 0 3)),
   pt g3 0, fun _ h_ => rk (fa 0 rfl (h_.b 1 s1)),
   i6 z.id, fun _ h_ => rk (ld hS3 0 rfl (h_.d 2 5)),
   .bool (decide ((z.dr : Int) ≠ z.id)), fun _ h_ => rk (run_cmp rfl (h_.d 1 4) (h_.d 3 6) rfl (by first | rfl | exact neq_dec _ _ | exact eq_dec _ _ | simp)),
   .bool (decide ((z.dr : Int) ≠ z.id)), fun _ h_ => rmv (h_.d 4 7), ?_⟩
  rcases dt ((z.dr : Int) ≠ z.id) with ⟨he, hg5⟩ | ⟨he, hg5⟩
  · rw [he]
    clear he
    refine ⟨pt g3 3, fun _ h_ => r_ok (h_.on 5 8) (fa 3 rfl (h_.b 1 s1)),
     i6 z.bdr, fun _ h_ => r_ok (h_.on 5 8) (ld hS3 0 rfl (h_.d 6 9)),
     pt g3 0, fun _ h_ => r_ok (h_.on 5 8) (fa 0 rfl (h_.b 1 s1)),
     i6 z.id, fun _ h_ => r_ok (h_.on 5 8) (ld hS3 0 rfl (h_.d 8 11)),
     .bool (decide ((z.bdr : Int) = z.id)), fun _ h_ => r_ok (h_.on 5 8) (run_cmp rfl (h_.d 7 10) (h_.d 9 12) rfl (by first | rfl | exact neq_dec _ _ | exact eq_dec _ _ | simp)),
     .bool (decide ((z.bdr : Int) = z.id)), fun _ h_ => rk (run_pick_t rfl (h_.d 5 8) (h_.d 10 13)),
     .bool (decide ((z.bdr : Int) = z.id)), fun _ h_ => ras (h_.d 11 14), ?_⟩
    intro a4 hput
    replace s2 : sl a4 2 = .bool (decide ((z.bdr : Int) = z.id)) := hput.new 12 2 rfl
    replace hz := hput.size.trans hz
    replace hd := hput.defers.trans hd
    clear hput s1
    change Code.wp _ _ _ _ _
    refine wp_ret ?_
    refine ret1 (P := Try.prog) (fn := Try.f149) hd s2 (hR_ _ _ ?_)
    exact ⟨by first | rfl | (congr 2; simp_all), (hS3.old (by simp))⟩
  · rw [he]
    clear he
    refine seq_off (j := 5) (d := 8) (b := true) [6, 7, 8, 9, 10] _ (by kernel_rfl) (.inl rfl) ?_
    refine ⟨.bool false, fun _ h_ => rk (run_pick_f rfl (h_.d 5 8) rfl),
     .bool false, fun _ h_ => ras (h_.d 11 14), ?_⟩
    intro a4 hput
    replace s2 : sl a4 2 = .bool false := hput.new 12 2 rfl
    replace hz := hput.size.trans hz
    replace hd := hput.defers.trans hd
    clear hput s1
    change Code.wp _ _ _ _ _
    refine wp_ret ?_
    refine ret1 (P := Try.prog) (fn := Try.f149) hd s2 (hR_ _ _ ?_)
    exact ⟨by first | rfl | (congr 2; simp_all), (hS3.old (by simp))⟩
set_option maxRecDepth 100000 in
set_option maxHeartbeats 800000 in
theorem go2_any (z : CdV) (W : World) :
    Calls Try.prog 150 #[.agg #[i6 z.id, i6 z.prio, i6 z.dr, i6 z.bdr]] W (fun r w' => r = .returned (.bool (decide (z.dr ≠ z.id))) ∧ Below W.heap.size W w') := by
  have hS := S.start W
  refine calls_walk Try.func150 rfl fun R_ hR_ a hz hd hargs => ?_
  replace hz : a.tmps.size = 8 := hz.trans (by kernel_rfl)
  have s0 := hargs 0 _ rfl
  clear hargs
  refine wp_seq ?_
  refine seq_l [0] hz ?_
  refine ⟨fun a_ h_ => st_box (cells := #[i6 z.id, i6 z.prio, i6 z.dr, i6 z.bdr]) hS (on_none rfl) rfl (h_.b 0 s0) (by kernel_rfl) fun g3 w3 hS3 hb3 => ⟨_, rfl, ?_⟩, trivial⟩
  clear h_ a_ hS
  clear hb3
  refine ⟨.bool false, fun _ h_ => rk (run_assign rfl rfl), ?_⟩
  intro a2 hput
  have s1 : sl a2 1 = pt g3 0 := hput.new 0 1 rfl
  have s2 : sl a2 2 = .bool false := hput.new 1 2 rfl
  replace hz := hput.size.trans hz
  replace hd := hput.defers.trans hd
  clear hput s0
  change Code.wp _ _ _ _ _
  refine wp_seq ?_
  refine seq_l [] hz ?_
  refine ⟨pt g3 2, fun _ h_ => rk (fa 2 rfl (h_.b 1 s1)),
   i6 z.dr, fun _ h_ => rk (ld hS3 0 rfl (h_.d 0 3)),
   pt g3 0, fun _ h_ => rk (fa 0 rfl (h_.b 1 s1)),
   i6 z.id, fun _ h_ => rk (ld hS3 0 rfl (h_.d 2 5)),
   .bool (decide ((z.dr : Int) ≠ z.id)), fun _ h_ => rk (run_cmp rfl (h_.d 1 4) (h_.d 3 6) rfl (by first | rfl | exact neq_dec _ _ | exact eq_dec _ _ | simp)),
   .bool (decide ((z.dr : Int) ≠ z.id)), fun _ h_ => ras (h_.d 4 7), ?_⟩
  intro a4 hput
  replace s2 : sl a4 2 = .bool (decide ((z.dr : Int) ≠ z.id)) := hput.new 5 2 rfl
  replace hz := hput.size.trans hz
  replace hd := hput.defers.trans hd
  clear hput s1
  change Code.wp _ _ _ _ _
  refine wp_ret ?_
  refine ret1 (P := Try.prog) (fn := Try.f150) hd s2 (hR_ _ _ ?_)
  exact ⟨by first | rfl | (congr 2; simp_all), (hS3.old (by simp))⟩
set_option maxRecDepth 100000 in
set_option maxHeartbeats 800000 in
theorem go3_any (z : CdV) (W : World) :
    Calls Try.prog 151 #[.agg #[i6 z.id, i6 z.prio, i6 z.dr, i6 z.bdr]] W (fun r w' => r = .returned (.bool (decide (z.dr = z.id))) ∧ Below W.heap.size W w') := by
  have hS := S.start W
  refine calls_walk Try.func151 rfl fun R_ hR_ a hz hd hargs => ?_
  replace hz : a.tmps.size = 8 := hz.trans (by kernel_rfl)
  have s0 := hargs 0 _ rfl
  clear hargs
  refine wp_seq ?_
  refine seq_l [0] hz ?_
  refine ⟨fun a_ h_ => st_box (cells := #[i6 z.id, i6 z.prio, i6 z.dr, i6 z.bdr]) hS (on_none rfl) rfl (h_.b 0 s0) (by kernel_rfl) fun g3 w3 hS3 hb3 => ⟨_, rfl, ?_⟩, trivial⟩
  clear h_ a_ hS
  clear hb3
  refine ⟨.bool false, fun _ h_ => rk (run_assign rfl rfl), ?_⟩
  intro a2 hput
  have s1 : sl a2 1 = pt g3 0 := hput.new 0 1 rfl
  have s2 : sl a2 2 = .bool false := hput.new 1 2 rfl
  replace hz := hput.size.trans hz
  replace hd := hput.defers.trans hd
  clear hput s0
  change Code.wp _ _ _ _ _
  refine wp_seq ?_
  refine seq_l [] hz ?_
  refine ⟨pt g3 2, fun _ h_ => rk (fa 2 rfl (h_.b 1 s1)),
   i6 z.dr, fun _ h_ => rk (ld hS3 0 rfl (h_.d 0 3)),
   pt g3 0, fun _ h_ => rk (fa 0 rfl (h_.b 1 s1)),
   i6 z.id, fun _ h_ => rk (ld hS3 0 rfl (h_.d 2 5)),
   .bool (decide ((z.dr : Int) = z.id)), fun _ h_ => rk (run_cmp rfl (h_.d 1 4) (h_.d 3 6) rfl (by first | rfl | exact neq_dec _ _ | exact eq_dec _ _ | simp)),
   .bool (decide ((z.dr : Int) = z.id)), fun _ h_ => ras (h_.d 4 7), ?_⟩
  intro a4 hput
  replace s2 : sl a4 2 = .bool (decide ((z.dr : Int) = z.id)) := hput.new 5 2 rfl
  replace hz := hput.size.trans hz
  replace hd := hput.defers.trans hd
  clear hput s1
  change Code.wp _ _ _ _ _
  refine wp_ret ?_
  refine ret1 (P := Try.prog) (fn := Try.f151) hd s2 (hR_ _ _ ?_)
  exact ⟨by first | rfl | (congr 2; simp_all), (hS3.old (by simp))⟩
set_option maxRecDepth 100000 in
set_option maxHeartbeats 800000 in
theorem go_any (A : Option Addr) (n c : Nat) (l : List CdV) (W : World) (hn : n ≤ 100000) (hR : Reads W W.heap.size 4 A n (rowC CdV.cells l)) :
    Calls Try.prog 144 #[.slice A n c] W (fun r w' => r = .returned (.tuple #[.int .i64 (goF l).1, .int .i64 (goF l).2]) ∧ Below W.heap.size W w') := by
  have hS := S.start W
  refine calls_walk Try.func144 rfl fun R_ hR_ a hz hd hargs => ?_
  replace hz : a.tmps.size = 19 := hz.trans (by kernel_rfl)
  have s0 := hargs 0 _ rfl
  clear hargs
  refine wp_seq ?_
  refine seq_l [] hz ?_
  refine ⟨i6 0, fun _ h_ => rk (run_assign rfl rfl),
   i6 0, fun _ h_ => rk (run_assign rfl rfl), ?_⟩
  intro a2 hput
  replace s0 := hput.o 0 s0
  have s2 : sl a2 2 = i6 0 := hput.new 0 2 rfl
  have s3 : sl a2 3 = i6 0 := hput.new 1 3 rfl
  replace hz := hput.size.trans hz
  replace hd := hput.defers.trans hd
  clear hput
  change Code.wp _ _ _ _ _
  refine wp_seq ?_
  refine seq_l [1] hz ?_
  refine ⟨.slice A n c, fun _ h_ => rmv (h_.b 0 s0), ?_⟩
  refine ⟨fun a_ h_ => st_call (on_none rfl) (run_call rfl (map2 (h_.d 0 6) rfl) rfl) (best_any A n c l 149 #[] (fun c => decide (c.dr ≠ c.id) && decide (c.bdr = c.id)) _ hn (hR.old (hS.old (by simp))) (fun w z hb => go1_any z w) (fun _ _ => by kernel_rfl)) ?_, trivial⟩
  rintro e w4 ⟨rfl, hb4⟩
  refine ⟨_, rfl, _, rfl, ?_⟩
  clear h_ a_
  have hS4 := hS.below hb4
  clear hS hb4
  refine ⟨i6 (bestF (fun c => decide (c.dr ≠ c.id) && decide (c.bdr = c.id)) l), fun _ h_ => ras (h_.d 1 7), ?_⟩
  intro a3 hput
  replace s0 := hput.o 0 s0
  replace s2 := hput.o 2 s2
  replace s3 := hput.o 3 s3
  have s4 : sl a3 4 = i6 (bestF (fun c => decide (c.dr ≠ c.id) && decide (c.bdr = c.id)) l) := hput.new 2 4 rfl
  replace hz := hput.size.trans hz
  replace hd := hput.defers.trans hd
  clear hput
  change Code.wp _ _ _ _ _
  refine wp_seq ?_
  refine wp_seq ?_
  refine seq_l [] hz ?_
  refine ⟨i6 (bestF (fun c => decide (c.dr ≠ c.id) && decide (c.bdr = c.id)) l), fun _ h_ => rmv (h_.b 4 s4),
   .bool (decide ((bestF (fun c => decide (c.dr ≠ c.id) && decide (c.bdr = c.id)) l : Int) = 0)), fun _ h_ => rk (run_cmp rfl (h_.d 0 8) rfl rfl (by first | rfl | exact neq_dec _ _ | exact eq_dec _ _ | simp)), ?_⟩
  intro a5 hput
  replace s0 := hput.o 0 s0
  replace s2 := hput.o 2 s2
  replace s3 := hput.o 3 s3
  replace s4 := hput.o 4 s4
  have s9 : sl a5 9 = .bool (decide ((bestF (fun c => decide (c.dr ≠ c.id) && decide (c.bdr = c.id)) l : Int) = 0)) := hput.new 1 9 rfl
  replace hz := hput.size.trans hz
  replace hd := hput.defers.trans hd
  clear hput
  change Code.wp _ _ _ _ _
  refine wp_cond_d s9 (fun hc9 => ?_) (fun hc9 => ?_)
  · clear s9
    refine seq_l [1] hz ?_
    refine ⟨.slice A n c, fun _ h_ => rmv (h_.b 0 s0), ?_⟩
    refine ⟨fun a_ h_ => st_call (on_none rfl) (run_call rfl (map2 (h_.d 0 10) rfl) rfl) (best_any A n c l 150 #[] (fun c => decide (c.dr ≠ c.id)) _ hn (hR.old (hS4.old (by simp))) (fun w z hb => go2_any z w) (fun _ _ => by kernel_rfl)) ?_, trivial⟩
    rintro e w7 ⟨rfl, hb7⟩
    refine ⟨_, rfl, _, rfl, ?_⟩
    clear h_ a_
    have hS7 := hS4.below hb7
    clear hS4 hb7
    refine ⟨i6 (bestF (fun c => decide (c.dr ≠ c.id)) l), fun _ h_ => ras (h_.d 1 11), ?_⟩
    intro a6 hput
    replace s0 := hput.o 0 s0
    replace s2 := hput.o 2 s2
    replace s3 := hput.o 3 s3
    replace s4 : sl a6 4 = i6 (bestF (fun c => decide (c.dr ≠ c.id)) l) := hput.new 2 4 rfl
    replace hz := hput.size.trans hz
    replace hd := hput.defers.trans hd
    clear hput
    change Code.wp _ _ _ _ _
    refine wp_seq ?_
    refine seq_l [1] hz ?_
    refine ⟨.slice A n c, fun _ h_ => rmv (h_.b 0 s0), ?_⟩
    refine ⟨fun a_ h_ => st_call (on_none rfl) (run_call rfl (map2 (h_.d 0 12) rfl) rfl) (best_any A n c l 151 #[] (fun c => decide (c.dr = c.id)) _ hn (hR.old (hS7.old (by simp))) (fun w z hb => go3_any z w) (fun _ _ => by kernel_rfl)) ?_, trivial⟩
    rintro e w9 ⟨rfl, hb9⟩
    refine ⟨_, rfl, _, rfl, ?_⟩
    clear h_ a_
    have hS9 := hS7.below hb9
    clear hS7 hb9
    refine ⟨i6 (bestF (fun c => decide (c.dr = c.id)) l), fun _ h_ => ras (h_.d 1 13), ?_⟩
    intro a8 hput
    replace s2 := hput.o 2 s2
    replace s3 := hput.o 3 s3
    replace s4 := hput.o 4 s4
    have s5 : sl a8 5 = i6 (bestF (fun c => decide (c.dr = c.id)) l) := hput.new 2 5 rfl
    replace hz := hput.size.trans hz
    replace hd := hput.defers.trans hd
    clear hput s0
    change Code.wp _ _ _ _ _
    refine wp_seq ?_
    refine wp_seq ?_
    refine seq_l [] hz ?_
    refine ⟨i6 (bestF (fun c => decide (c.dr = c.id)) l), fun _ h_ => rmv (h_.b 5 s5),
     .bool (decide ((bestF (fun c => decide (c.dr = c.id)) l : Int) = 0)), fun _ h_ => rk (run_cmp rfl (h_.d 0 14) rfl rfl (by first | rfl | exact neq_dec _ _ | exact eq_dec _ _ | simp)), ?_⟩
    intro a10 hput
    replace s2 := hput.o 2 s2
    replace s3 := hput.o 3 s3
    replace s4 := hput.o 4 s4
    replace s5 := hput.o 5 s5
    have s15 : sl a10 15 = .bool (decide ((bestF (fun c => decide (c.dr = c.id)) l : Int) = 0)) := hput.new 1 15 rfl
    replace hz := hput.size.trans hz
    replace hd := hput.defers.trans hd
    clear hput
    change Code.wp _ _ _ _ _
    refine wp_cond_d s15 (fun hc15 => ?_) (fun hc15 => ?_)
    · clear s15
      refine seq_l [] hz ?_
      refine ⟨i6 (bestF (fun c => decide (c.dr ≠ c.id)) l), fun _ h_ => rmv (h_.b 4 s4),
       i6 (bestF (fun c => decide (c.dr ≠ c.id)) l), fun _ h_ => ras (h_.d 0 16), ?_⟩
      intro a11 hput
      replace s2 := hput.o 2 s2
      replace s3 := hput.o 3 s3
      replace s4 := hput.o 4 s4
      replace s5 : sl a11 5 = i6 (bestF (fun c => decide (c.dr ≠ c.id)) l) := hput.new 1 5 rfl
      replace hz := hput.size.trans hz
      replace hd := hput.defers.trans hd
      clear hput
      change Code.wp _ _ _ _ _
      refine wp_seq ?_
      refine seq_l [] hz ?_
      refine ⟨i6 (bestF (fun c => decide (c.dr ≠ c.id)) l), fun _ h_ => rmv (h_.b 5 s5),
       i6 (bestF (fun c => decide (c.dr ≠ c.id)) l), fun _ h_ => rmv (h_.b 4 s4),
       i6 (bestF (fun c => decide (c.dr ≠ c.id)) l), fun _ h_ => ras (h_.d 0 17),
       i6 (bestF (fun c => decide (c.dr ≠ c.id)) l), fun _ h_ => ras (h_.d 1 18), ?_⟩
      intro a12 hput
      replace s2 : sl a12 2 = i6 (bestF (fun c => decide (c.dr ≠ c.id)) l) := hput.new 2 2 rfl
      replace s3 : sl a12 3 = i6 (bestF (fun c => decide (c.dr ≠ c.id)) l) := hput.new 3 3 rfl
      replace hz := hput.size.trans hz
      replace hd := hput.defers.trans hd
      clear hput s4 s5
      change Code.wp _ _ _ _ _
      refine wp_ret ?_
      refine ret2 (P := Try.prog) (fn := Try.f144) hd s2 s3 (hR_ _ _ ?_)
      refine ⟨?_, (hS9.old (by simp))⟩
      congr 3
      unfold goF
      simp_all
    · clear s15
      refine wp_skip ?_
      change Code.wp _ _ _ _ _
      refine wp_seq ?_
      refine seq_l [] hz ?_
      refine ⟨i6 (bestF (fun c => decide (c.dr = c.id)) l), fun _ h_ => rmv (h_.b 5 s5),
       i6 (bestF (fun c => decide (c.dr ≠ c.id)) l), fun _ h_ => rmv (h_.b 4 s4),
       i6 (bestF (fun c => decide (c.dr = c.id)) l), fun _ h_ => ras (h_.d 0 17),
       i6 (bestF (fun c => decide (c.dr ≠ c.id)) l), fun _ h_ => ras (h_.d 1 18), ?_⟩
      intro a13 hput
      replace s2 : sl a13 2 = i6 (bestF (fun c => decide (c.dr = c.id)) l) := hput.new 2 2 rfl
      replace s3 : sl a13 3 = i6 (bestF (fun c => decide (c.dr ≠ c.id)) l) := hput.new 3 3 rfl
      replace hz := hput.size.trans hz
      replace hd := hput.defers.trans hd
      clear hput s4 s5
      change Code.wp _ _ _ _ _
      refine wp_ret ?_
      refine ret2 (P := Try.prog) (fn := Try.f144) hd s2 s3 (hR_ _ _ ?_)
      refine ⟨?_, (hS9.old (by simp))⟩
      congr 3
      unfold goF
      simp_all
  · clear s9
    refine wp_skip ?_
    change Code.wp _ _ _ _ _
    refine wp_seq ?_
    refine seq_l [1] hz ?_
    refine ⟨.slice A n c, fun _ h_ => rmv (h_.b 0 s0), ?_⟩
    refine ⟨fun a_ h_ => st_call (on_none rfl) (run_call rfl (map2 (h_.d 0 12) rfl) rfl) (best_any A n c l 151 #[] (fun c => decide (c.dr = c.id)) _ hn (hR.old (hS4.old (by simp))) (fun w z hb => go3_any z w) (fun _ _ => by kernel_rfl)) ?_, trivial⟩
    rintro e w15 ⟨rfl, hb15⟩
    refine ⟨_, rfl, _, rfl, ?_⟩
    clear h_ a_
    have hS15 := hS4.below hb15
    clear hS4 hb15
    refine ⟨i6 (bestF (fun c => decide (c.dr = c.id)) l), fun _ h_ => ras (h_.d 1 13), ?_⟩
    intro a14 hput
    replace s2 := hput.o 2 s2
    replace s3 := hput.o 3 s3
    replace s4 := hput.o 4 s4
    have s5 : sl a14 5 = i6 (bestF (fun c => decide (c.dr = c.id)) l) := hput.new 2 5 rfl
    replace hz := hput.size.trans hz
    replace hd := hput.defers.trans hd
    clear hput s0
    change Code.wp _ _ _ _ _
    refine wp_seq ?_
    refine wp_seq ?_
    refine seq_l [] hz ?_
    refine ⟨i6 (bestF (fun c => decide (c.dr = c.id)) l), fun _ h_ => rmv (h_.b 5 s5),
     .bool (decide ((bestF (fun c => decide (c.dr = c.id)) l : Int) = 0)), fun _ h_ => rk (run_cmp rfl (h_.d 0 14) rfl rfl (by first | rfl | exact neq_dec _ _ | exact eq_dec _ _ | simp)), ?_⟩
    intro a16 hput
    replace s2 := hput.o 2 s2
    replace s3 := hput.o 3 s3
    replace s4 := hput.o 4 s4
    replace s5 := hput.o 5 s5
    have s15 : sl a16 15 = .bool (decide ((bestF (fun c => decide (c.dr = c.id)) l : Int) = 0)) := hput.new 1 15 rfl
    replace hz := hput.size.trans hz
    replace hd := hput.defers.trans hd
    clear hput
    change Code.wp _ _ _ _ _
    refine wp_cond_d s15 (fun hc15 => ?_) (fun hc15 => ?_)
    · clear s15
      refine seq_l [] hz ?_
      refine ⟨i6 (bestF (fun c => decide (c.dr ≠ c.id) && decide (c.bdr = c.id)) l), fun _ h_ => rmv (h_.b 4 s4),
       i6 (bestF (fun c => decide (c.dr ≠ c.id) && decide (c.bdr = c.id)) l), fun _ h_ => ras (h_.d 0 16), ?_⟩
      intro a17 hput
      replace s2 := hput.o 2 s2
      replace s3 := hput.o 3 s3
      replace s4 := hput.o 4 s4
      replace s5 : sl a17 5 = i6 (bestF (fun c => decide (c.dr ≠ c.id) && decide (c.bdr = c.id)) l) := hput.new 1 5 rfl
      replace hz := hput.size.trans hz
      replace hd := hput.defers.trans hd
      clear hput
      change Code.wp _ _ _ _ _
      refine wp_seq ?_
      refine seq_l [] hz ?_
      refine ⟨i6 (bestF (fun c => decide (c.dr ≠ c.id) && decide (c.bdr = c.id)) l), fun _ h_ => rmv (h_.b 5 s5),
       i6 (bestF (fun c => decide (c.dr ≠ c.id) && decide (c.bdr = c.id)) l), fun _ h_ => rmv (h_.b 4 s4),
       i6 (bestF (fun c => decide (c.dr ≠ c.id) && decide (c.bdr = c.id)) l), fun _ h_ => ras (h_.d 0 17),
       i6 (bestF (fun c => decide (c.dr ≠ c.id) && decide (c.bdr = c.id)) l), fun _ h_ => ras (h_.d 1 18), ?_⟩
      intro a18 hput
      replace s2 : sl a18 2 = i6 (bestF (fun c => decide (c.dr ≠ c.id) && decide (c.bdr = c.id)) l) := hput.new 2 2 rfl
      replace s3 : sl a18 3 = i6 (bestF (fun c => decide (c.dr ≠ c.id) && decide (c.bdr = c.id)) l) := hput.new 3 3 rfl
      replace hz := hput.size.trans hz
      replace hd := hput.defers.trans hd
      clear hput s4 s5
      change Code.wp _ _ _ _ _
      refine wp_ret ?_
      refine ret2 (P := Try.prog) (fn := Try.f144) hd s2 s3 (hR_ _ _ ?_)
      refine ⟨?_, (hS15.old (by simp))⟩
      congr 3
      unfold goF
      simp_all
    · clear s15
      refine wp_skip ?_
      change Code.wp _ _ _ _ _
      refine wp_seq ?_
      refine seq_l [] hz ?_
      refine ⟨i6 (bestF (fun c => decide (c.dr = c.id)) l), fun _ h_ => rmv (h_.b 5 s5),
       i6 (bestF (fun c => decide (c.dr ≠ c.id) && decide (c.bdr = c.id)) l), fun _ h_ => rmv (h_.b 4 s4),
       i6 (bestF (fun c => decide (c.dr = c.id)) l), fun _ h_ => ras (h_.d 0 17),
       i6 (bestF (fun c => decide (c.dr ≠ c.id) && decide (c.bdr = c.id)) l), fun _ h_ => ras (h_.d 1 18), ?_⟩
      intro a19 hput
      replace s2 : sl a19 2 = i6 (bestF (fun c => decide (c.dr = c.id)) l) := hput.new 2 2 rfl
      replace s3 : sl a19 3 = i6 (bestF (fun c => decide (c.dr ≠ c.id) && decide (c.bdr = c.id)) l) := hput.new 3 3 rfl
      replace hz := hput.size.trans hz
      replace hd := hput.defers.trans hd
      clear hput s4 s5
      change Code.wp _ _ _ _ _
      refine wp_ret ?_
      refine ret2 (P := Try.prog) (fn := Try.f144) hd s2 s3 (hR_ _ _ ?_)
      refine ⟨?_, (hS15.old (by simp))⟩
      congr 3
      unfold goF
      simp_all
set_option maxRecDepth 100000 in
set_option maxHeartbeats 800000 in
theorem indexC_any (A : Option Addr) (n c : Nat) (l : List CdV) (f : Nat) (cap : Array Value) (pr : CdV → Bool) (W : World) (hn : n ≤ 100000) (hR : Reads W W.heap.size 4 A n (rowC CdV.cells l)) (hcl : ∀ w z, Below W.heap.size W w → Calls Try.prog f (#[.agg (CdV.cells z).toArray] ++ cap) w fun r w' => r = .returned (.bool (pr z)) ∧ Below w.heap.size w w') (hfn : ∀ xs w, (callFunc f xs).run Try.prog w = .ok (.enter f xs) w) :
    Calls Try.prog 145 #[.slice A n c, .func (.func f) #[] cap] W (fun r w' => r = .returned (.int .i64 (idxF pr l)) ∧ Below W.heap.size W w') := by
  have hS := S.start W
  refine calls_walk Try.func145 rfl fun R_ hR_ a hz hd hargs => ?_
  replace hz : a.tmps.size = 19 := hz.trans (by kernel_rfl)
  have s0 := hargs 0 _ rfl
  have s1 := hargs 1 _ rfl
  clear hargs
  refine wp_seq ?_
  refine seq_l [] hz ?_
  refine ⟨i6 0, fun _ h_ => rk (run_assign rfl rfl), ?_⟩
  intro a2 hput
  replace s0 := hput.o 0 s0
  replace s1 := hput.o 1 s1
  have s4 : sl a2 4 = i6 0 := hput.new 0 4 rfl
  replace hz := hput.size.trans hz
  replace hd := hput.defers.trans hd
  clear hput
  change Code.wp _ _ _ _ _
  refine wp_seq ?_
  refine wp_seq ?_
  refine seq_l [] hz ?_
  refine ⟨.slice A n c, fun _ h_ => rmv (h_.b 0 s0),
   i6 n, fun _ h_ => rk (run_lenS rfl (h_.d 0 6) (by kernel_rfl)),
   i6 0, fun _ h_ => rk (run_move rfl rfl), ?_⟩
  intro a3 hput
  replace s0 := hput.o 0 s0
  replace s1 := hput.o 1 s1
  replace s4 := hput.o 4 s4
  have s7 : sl a3 7 = i6 n := hput.new 1 7 rfl
  have s8 : sl a3 8 = i6 0 := hput.new 2 8 rfl
  replace hz := hput.size.trans hz
  replace hd := hput.defers.trans hd
  clear hput
  change Code.wp _ _ _ _ _
  refine wp_block ?_
  refine wp_loop (fun a_ w_ => ∃ k : Nat, (k ≤ n) ∧ (∀ j x, j < k → l[j]? = some x → pr x = false) ∧ a_.tmps.size = 19 ∧ a_.defers = [] ∧ sl a_ 0 = .slice A n c ∧ sl a_ 1 = .func (.func f) #[] cap ∧ sl a_ 7 = i6 n ∧ sl a_ 8 = i6 k ∧ S (kap W) ([]) ((memA W W.heap.size) :: []) w_) (fun a_ _ => n - (intOf (sl a_ 8)).toNat) ?_ ?_
  · exact ⟨0, Nat.zero_le _, (fun j x hj => absurd hj (Nat.not_lt_zero _)), hz, hd, s0, s1, s7, s8, hS⟩
  · clear hz hd s0 s1 s4 s7 s8 hS
    rintro a4 w4 ⟨k, hc0_0, hc0_1, hz, hd, s0, s1, s7, s8, hS4⟩
    have hmu0 := s8
    refine wp_seq ?_
    refine seq_l [] hz ?_
    refine ⟨.bool (decide ((k : Int) < n)), fun _ h_ => rk (run_cmp rfl (h_.b 8 s8) (h_.b 7 s7) rfl (by first | rfl | exact neq_dec _ _ | exact eq_dec _ _ | simp)), ?_⟩
    intro a5 hput
    replace s0 := hput.o 0 s0
    replace s1 := hput.o 1 s1
    replace s7 := hput.o 7 s7
    replace s8 := hput.o 8 s8
    have s9 : sl a5 9 = .bool (decide ((k : Int) < n)) := hput.new 0 9 rfl
    replace hz := hput.size.trans hz
    replace hd := hput.defers.trans hd
    clear hput
    change Code.wp _ _ _ _ _
    refine wp_seq ?_
    refine wp_cond_d s9 (fun hc9 => ?_) (fun hc9 => ?_)
    · clear s9
      refine wp_skip ?_
      change Code.wp _ _ _ _ _
      refine wp_seq ?_
      refine wp_block ?_
      refine wp_seq ?_
      refine seq_l [] hz ?_
      refine ⟨i6 k, fun _ h_ => rmv (h_.b 8 s8),
       i6 k, fun _ h_ => ras (h_.d 0 10), ?_⟩
      intro a6 hput
      replace s0 := hput.o 0 s0
      replace s1 := hput.o 1 s1
      have s5 : sl a6 5 = i6 k := hput.new 1 5 rfl
      replace s7 := hput.o 7 s7
      replace s8 := hput.o 8 s8
      have s10 : sl a6 10 = i6 k := hput.new 0 10 rfl
      replace hz := hput.size.trans hz
      replace hd := hput.defers.trans hd
      clear hput
      change Code.wp _ _ _ _ _
      refine wp_seq ?_
      refine seq_l [5] hz ?_
      refine ⟨.func (.func f) #[] cap, fun _ h_ => rmv (h_.b 1 s1),
       .slice A n c, fun _ h_ => rmv (h_.b 0 s0),
       i6 k, fun _ h_ => rmv (h_.b 5 s5), ?_⟩
      obtain ⟨b8, o8, z8, hA8, hb8, hz8, hq8⟩ := Reads.row_at CdV.cells 4 CdV.cells_len (k := k) (hR.old (hS4.old (by simp))) (by decide) (by omega)
      refine ⟨pt b8 (o8 + k * 4), fun _ h_ => rk (run_indexV (size := 4) rfl (h_.d 1 12) hA8 (h_.d 2 13) (by kernel_rfl) (by omega) (by simp)),
       .agg #[i6 z8.id, i6 z8.prio, i6 z8.dr, i6 z8.bdr], fun _ h_ => rk (run_loadV (size := 4) (cs := CdV.cells z8) rfl (h_.d 3 14) (by kernel_rfl) rfl hq8), ?_⟩
      refine ⟨fun a_ h_ => st_call (on_none rfl) (run_callV rfl (h_.d 0 11) (map1 (h_.d 4 15)) rfl (hfn _ _)) (hcl _ z8 (hS4.old (by simp))) ?_, trivial⟩
      rintro e w9 ⟨rfl, hb9⟩
      refine ⟨_, rfl, _, rfl, ?_⟩
      clear h_ a_
      have hS9 := hS4.below hb9
      clear hS4 hb9
      intro a7 hput
      replace s0 := hput.o 0 s0
      replace s1 := hput.o 1 s1
      replace s5 := hput.o 5 s5
      replace s7 := hput.o 7 s7
      replace s8 := hput.o 8 s8
      replace s10 := hput.o 10 s10
      have s11 : sl a7 11 = .func (.func f) #[] cap := hput.new 0 11 rfl
      have s12 : sl a7 12 = .slice A n c := hput.new 1 12 rfl
      have s13 : sl a7 13 = i6 k := hput.new 2 13 rfl
      have s14 : sl a7 14 = pt b8 (o8 + k * 4) := hput.new 3 14 rfl
      have s15 : sl a7 15 = .agg #[i6 z8.id, i6 z8.prio, i6 z8.dr, i6 z8.bdr] := hput.new 4 15 rfl
      have s16 : sl a7 16 = .bool (pr z8) := hput.new 5 16 rfl
      replace hz := hput.size.trans hz
      replace hd := hput.defers.trans hd
      clear hput
      change Code.wp _ _ _ _ _
      refine wp_cond_b s16 (fun hc16 => ?_) (fun hc16 => ?_)
      · clear s16
        refine wp_seq ?_
        refine seq_l [] hz ?_
        refine ⟨i6 k, fun _ h_ => rmv (h_.b 5 s5),
         i6 k, fun _ h_ => ras (h_.d 0 17), ?_⟩
        intro a10 hput
        replace s0 := hput.o 0 s0
        replace s1 := hput.o 1 s1
        have s4 : sl a10 4 = i6 k := hput.new 1 4 rfl
        replace s5 := hput.o 5 s5
        replace s7 := hput.o 7 s7
        replace s8 := hput.o 8 s8
        replace s10 := hput.o 10 s10
        replace s11 := hput.o 11 s11
        replace s12 := hput.o 12 s12
        replace s13 := hput.o 13 s13
        replace s14 := hput.o 14 s14
        replace s15 := hput.o 15 s15
        have s17 : sl a10 17 = i6 k := hput.new 0 17 rfl
        replace hz := hput.size.trans hz
        replace hd := hput.defers.trans hd
        clear hput
        change Code.wp _ _ _ _ _
        refine wp_ret ?_
        refine ret1 (P := Try.prog) (fn := Try.f145) hd s4 (hR_ _ _ ?_)
        exact ⟨by rw [idxF_some pr l k _ hc0_1 hz8 hc16], (hS9.old (by simp))⟩
      · clear s16
        refine wp_skip ?_
        change Code.wp _ _ _ _ _
        refine seq_l [] hz ?_
        refine ⟨i6 (k + 1), fun _ h_ => rk (run_addI rfl (h_.b 8 s8) rfl (by omega) rfl),
         i6 (k + 1), fun _ h_ => rmv (h_.d 0 18), ?_⟩
        intro a11 hput
        replace s0 := hput.o 0 s0
        replace s1 := hput.o 1 s1
        replace s5 := hput.o 5 s5
        replace s7 := hput.o 7 s7
        replace s8 : sl a11 8 = i6 (k + 1) := hput.new 1 8 rfl
        replace s10 := hput.o 10 s10
        replace s11 := hput.o 11 s11
        replace s12 := hput.o 12 s12
        replace s13 := hput.o 13 s13
        replace s14 := hput.o 14 s14
        replace s15 := hput.o 15 s15
        have s18 : sl a11 18 = i6 (k + 1) := hput.new 0 18 rfl
        replace hz := hput.size.trans hz
        replace hd := hput.defers.trans hd
        clear hput
        refine ⟨⟨k + 1, by omega, none_next hc0_1 hz8 hc16, hz, hd, s0, s1, s7, s8, hS9⟩, ?_⟩
        show n - (intOf (sl a11 8)).toNat < n - (intOf (sl a4 8)).toNat
        rw [show sl a11 8 = _ from s8, show sl a4 8 = _ from hmu0]
        simp only [intOf]
        omega
    · clear s9
      refine wp_exit ?_
      change Code.wp _ _ _ _ _
      refine wp_seq ?_
      refine seq_l [] hz ?_
      refine ⟨i6 (-1), fun _ h_ => rk (run_assign rfl rfl), ?_⟩
      intro a12 hput
      have s4 : sl a12 4 = i6 (-1) := hput.new 0 4 rfl
      replace hz := hput.size.trans hz
      replace hd := hput.defers.trans hd
      clear hput s0 s1 s7 s8
      change Code.wp _ _ _ _ _
      refine wp_ret ?_
      refine ret1 (P := Try.prog) (fn := Try.f145) hd s4 (hR_ _ _ ?_)
      exact ⟨by rw [idxF_none pr l k (by have := cds_len hR; omega) hc0_1], (hS4.old (by simp))⟩
set_option maxRecDepth 100000 in
set_option maxHeartbeats 800000 in
theorem elect1_any (z : CdV) (self : Int) (g : Nat) (W : World) (hg : Blk W g 3 #[.int .i64 self]) :
    Calls Try.prog 146 #[.agg #[i6 z.id, i6 z.prio, i6 z.dr, i6 z.bdr], pt g 0] W (fun r w' => r = .returned (.bool (decide (z.id = self))) ∧ Below W.heap.size W w') := by
  have hS := S.start W
  refine calls_walk Try.func146 rfl fun R_ hR_ a hz hd hargs => ?_
  replace hz : a.tmps.size = 8 := hz.trans (by kernel_rfl)
  have s0 := hargs 0 _ rfl
  have s1 := hargs 1 _ rfl
  clear hargs
  refine wp_seq ?_
  refine seq_l [0] hz ?_
  refine ⟨fun a_ h_ => st_box (cells := #[i6 z.id, i6 z.prio, i6 z.dr, i6 z.bdr]) hS (on_none rfl) rfl (h_.b 0 s0) (by kernel_rfl) fun g3 w3 hS3 hb3 => ⟨_, rfl, ?_⟩, trivial⟩
  clear h_ a_ hS
  clear hb3
  refine ⟨.bool false, fun _ h_ => rk (run_assign rfl rfl), ?_⟩
  intro a2 hput
  replace s1 := hput.o 1 s1
  have s2 : sl a2 2 = pt g3 0 := hput.new 0 2 rfl
  have s3 : sl a2 3 = .bool false := hput.new 1 3 rfl
  replace hz := hput.size.trans hz
  replace hd := hput.defers.trans hd
  clear hput s0
  change Code.wp _ _ _ _ _
  refine wp_seq ?_
  refine seq_l [] hz ?_
  refine ⟨pt g3 0, fun _ h_ => rk (fa 0 rfl (h_.b 2 s2)),
   i6 z.id, fun _ h_ => rk (ld hS3 0 rfl (h_.d 0 4)),
   i6 self, fun _ h_ => rk (lb (hg.below (hS3.old (by simp)) hg.lt) rfl (h_.b 1 s1)),
   .bool (decide ((z.id : Int) = self)), fun _ h_ => rk (run_cmp rfl (h_.d 1 5) (h_.d 2 6) rfl (by first | rfl | exact neq_dec _ _ | exact eq_dec _ _ | simp)),
   .bool (decide ((z.id : Int) = self)), fun _ h_ => ras (h_.d 3 7), ?_⟩
  intro a4 hput
  replace s3 : sl a4 3 = .bool (decide ((z.id : Int) = self)) := hput.new 4 3 rfl
  replace hz := hput.size.trans hz
  replace hd := hput.defers.trans hd
  clear hput s1 s2
  change Code.wp _ _ _ _ _
  refine wp_ret ?_
  refine ret1 (P := Try.prog) (fn := Try.f146) hd s3 (hR_ _ _ ?_)
  exact ⟨rfl, (hS3.old (by simp))⟩
theorem cloneCd_info : (Try.prog.info? 227).map (fun i => (i.zero, i.size, i.bytes)) = some (some (.agg #[.int .i64 0, .int .i64 0, .int .i64 0, .int .i64 0]), 4, 32) := by kernel_rfl
theorem cloneCd_one (l : List CdV) : ∀ u ∈ rowC CdV.cells l, u.oneCell' = true := fun u hu => by
  obtain ⟨x, _, h⟩ := List.mem_flatMap.1 hu
  simp [CdV.cells] at h
  rcases h with rfl | rfl | rfl | rfl <;> rfl
set_option maxHeartbeats 2000000 in
theorem cloneCd_any (A : Option Addr) (n c : Nat) (zs : List CdV) (w : World) (hn : n ≤ 100000) (hr : Reads w w.heap.size 4 A n (rowC CdV.cells zs)) :
    Calls Try.prog 147 #[.slice A n c] w fun r w' => ∃ A' c', r = .returned (.slice A' n c') ∧ w'.ownsRow w.heap.size 227 4 (.slice A' n c') n (rowC CdV.cells zs) ∧ Below w.heap.size w w' := by
  have hnc : A = none → n = 0 := fun h => by
    by_cases h0 : n = 0
    · exact h0
    · obtain ⟨b, off, e, _⟩ := hr.2 (by omega)
      rw [h] at e; cases e
  have hq : ∀ w : World, (binOp .eql 225 (.slice A n c) (.slice none 0 0)).run Try.prog w = .ok (.bool A.isNone) w := fun w => Lib.run_eql_slice_nil w 225 227 A n c 0 0 Try.underlying225
  obtain ⟨i0, hi, hz0, hz1, hz2⟩ := info_parts cloneCd_info
  have hown := World.ownsRow_made (e := 227) (size := 4) w #[] 0 (Nat.le_refl _) (Nat.zero_le _) rfl
  go_enter Try.func147, Try.ntmps147
  cases A with
  | none =>
    obtain rfl := hnc rfl
    have hbs := hide (show rowC CdV.cells zs = [] from List.eq_nil_of_length_eq_zero (by have := hr.1; omega))
    go_wp2
    go_ret
    exact ⟨none, 0, rfl, by rw [hbs.out]; exact World.ownsRow_nil _ _ _ _, Below.refl _ _⟩
  | some A =>
    go_wp2_with (first
      | (at_builtin
         refine wpList_append_any _ rfl (.tmp 5) (.tmp 6) 225 rfl w.heap.size 227 i0 _ 4 32 Try.underlying225 hi hz0 hz1 hz2 rfl (by omega) (.slice (some ⟨w.heap.size, 0, none⟩) 0 0) 0 [] rfl
           hown w.heap.size (some A) n c (rowC CdV.cells zs) rfl (hr.alloc (Nat.le_refl _) _) (cloneCd_one zs) (by simp only [maxLen]; omega) (by omega) (by simp) ?_
         intro A3 c3 w3 hown3 hg3 hloc3))
    have hb3 : Below w.heap.size w w3 := ((Below.refl _ _).alloc (Nat.le_refl _) _).grown hg3 (by simp) (fun g hg => (own_base hown hg).1)
    go_wp2
    go_ret
    exact ⟨A3, c3, rfl, by simpa using hown3, hb3⟩
theorem set_at {α : Type} {l : List α} {i : Nat} {a b : α} (h : l[i]? = some a) : (l.set i b)[i]? = some b := by
  have hlt := (List.getElem?_eq_some_iff.1 h).1
  simp [hlt]
theorem idxF_lt {α : Type} {p : α → Bool} : ∀ {l : List α}, 0 ≤ idxF p l → idxF p l < l.length
  | [], h => by simp [idxF] at h
  | x :: l, h => by
    have h2 := idxF_lt (p := p) (l := l)
    unfold idxF at h ⊢
    split
    · simp; try omega
    · rename_i hp
      rw [if_neg hp] at h
      split at h
      · omega
      · rename_i h3
        have := h2 (by omega)
        rw [if_neg h3]; simp; omega
theorem elect_out {self : Int} {l : List CdV} (h : idxF (fun c => decide (c.id = self)) l < 0) : electF self l = goF l := by
  unfold electF; simp only; rw [if_pos h]
theorem elect_same {self : Int} {l : List CdV} {i : Nat} {z : CdV} (h : idxF (fun c => decide (c.id = self)) l = (i : Int)) (hz : l[i]? = some z) (h1 : ((decide ((goF l).1 = self)) == decide (z.dr = self)) = true) (h2 : (decide ((goF l).2 = self) == decide (z.bdr = self)) = true) : electF self l = goF l := by
  unfold electF; simp only; rw [if_neg (by omega), h, Int.toNat_natCast, hz]
  simp only
  rw [if_pos ⟨by simpa using h1, by simpa using h2⟩]
theorem elect_turn {self : Int} {l : List CdV} {i : Nat} {z : CdV} (h : idxF (fun c => decide (c.id = self)) l = (i : Int)) (hz : l[i]? = some z) (h1 : ¬ (((decide ((goF l).1 = self)) == decide (z.dr = self)) = true ∧ (decide ((goF l).2 = self) == decide (z.bdr = self)) = true)) : electF self l = goF (ownF self (goF l) l i z) := by
  unfold electF; simp only; rw [if_neg (by omega), h, Int.toNat_natCast, hz]
  simp only
  rw [if_neg (fun hc => h1 ⟨by simpa using hc.1, by simpa using hc.2⟩)]
set_option maxRecDepth 100000 in
set_option maxHeartbeats 800000 in
theorem elect_any (self : Int) (A : Option Addr) (n c : Nat) (l : List CdV) (W : World) (hn : n ≤ 100000) (hR : Reads W W.heap.size 4 A n (rowC CdV.cells l)) :
    Calls Try.prog 141 #[i6 self, .slice A n c] W (fun r w' => r = .returned (.tuple #[.int .i64 (electF self l).1, .int .i64 (electF self l).2]) ∧ Below W.heap.size W w') := by
  have hS := S.start W
  refine calls_walk Try.func141 rfl fun R_ hR_ a hz hd hargs => ?_
  replace hz : a.tmps.size = 77 := hz.trans (by kernel_rfl)
  have s0 := hargs 0 _ rfl
  have s1 := hargs 1 _ rfl
  clear hargs
  refine wp_seq ?_
  refine seq_l [0] hz ?_
  refine ⟨fun a_ h_ => st_box (cells := #[i6 self]) hS (on_none rfl) rfl (h_.b 0 s0) (by kernel_rfl) fun g3 w3 hS3 hb3 => ⟨_, rfl, ?_⟩, trivial⟩
  clear h_ a_ hS
  clear hb3
  refine ⟨i6 0, fun _ h_ => rk (run_assign rfl rfl),
   i6 0, fun _ h_ => rk (run_assign rfl rfl), ?_⟩
  intro a2 hput
  replace s1 := hput.o 1 s1
  have s2 : sl a2 2 = pt g3 0 := hput.new 0 2 rfl
  have s4 : sl a2 4 = i6 0 := hput.new 1 4 rfl
  have s5 : sl a2 5 = i6 0 := hput.new 2 5 rfl
  replace hz := hput.size.trans hz
  replace hd := hput.defers.trans hd
  clear hput s0
  change Code.wp _ _ _ _ _
  refine wp_seq ?_
  refine seq_l [1] hz ?_
  refine ⟨.slice A n c, fun _ h_ => rmv (h_.b 1 s1), ?_⟩
  refine ⟨fun a_ h_ => st_call (on_none rfl) (run_call rfl (map1 (h_.d 0 12)) rfl) (go_any A n c l _ hn (hR.old (hS3.old (by simp)))) ?_, trivial⟩
  rintro e w5 ⟨rfl, hb5⟩
  refine ⟨_, rfl, _, rfl, ?_⟩
  clear h_ a_
  have hS5 := hS3.below hb5
  clear hS3 hb5
  refine ⟨.tuple #[i6 ((goF l).1), i6 ((goF l).2)], fun _ h_ => rmv (h_.d 1 13),
   i6 ((goF l).1), fun _ h_ => rk (run_extract rfl (h_.d 2 11) rfl),
   i6 ((goF l).2), fun _ h_ => rk (run_extract rfl (h_.d 2 11) rfl),
   i6 ((goF l).1), fun _ h_ => ras (h_.d 3 14),
   i6 ((goF l).2), fun _ h_ => ras (h_.d 4 15), ?_⟩
  intro a4 hput
  replace s1 := hput.o 1 s1
  replace s2 := hput.o 2 s2
  replace s4 := hput.o 4 s4
  replace s5 := hput.o 5 s5
  have s6 : sl a4 6 = i6 ((goF l).1) := hput.new 5 6 rfl
  have s7 : sl a4 7 = i6 ((goF l).2) := hput.new 6 7 rfl
  replace hz := hput.size.trans hz
  replace hd := hput.defers.trans hd
  clear hput
  change Code.wp _ _ _ _ _
  refine wp_seq ?_
  refine seq_l [2] hz ?_
  refine ⟨.slice A n c, fun _ h_ => rmv (h_.b 1 s1),
   .func (.func 146) #[] #[pt g3 0], fun _ h_ => rk (run_makeFunc rfl (by simp) (map1 (h_.b 2 s2))), ?_⟩
  refine ⟨fun a_ h_ => st_call (on_none rfl) (run_call rfl (map2 (h_.d 0 16) (h_.d 1 17)) rfl) (indexC_any A n c l 146 _ (fun c => decide (c.id = self)) _ hn (hR.old (hS5.old (by simp))) (fun w z hb => elect1_any z self g3 w ((hS5.blk (i := 0) rfl).below hb (hS5.blk (i := 0) rfl).lt)) (fun _ _ => by kernel_rfl)) ?_, trivial⟩
  rintro e w7 ⟨rfl, hb7⟩
  refine ⟨_, rfl, _, rfl, ?_⟩
  clear h_ a_
  have hS7 := hS5.below hb7
  clear hS5 hb7
  refine ⟨i6 (idxF (fun c => decide (c.id = self)) l), fun _ h_ => ras (h_.d 2 18), ?_⟩
  intro a6 hput
  replace s1 := hput.o 1 s1
  replace s2 := hput.o 2 s2
  replace s4 := hput.o 4 s4
  replace s5 := hput.o 5 s5
  replace s6 := hput.o 6 s6
  replace s7 := hput.o 7 s7
  have s8 : sl a6 8 = i6 (idxF (fun c => decide (c.id = self)) l) := hput.new 3 8 rfl
  replace hz := hput.size.trans hz
  replace hd := hput.defers.trans hd
  clear hput
  change Code.wp _ _ _ _ _
  refine wp_seq ?_
  refine wp_seq ?_
  refine seq_l [] hz ?_
  refine ⟨i6 (idxF (fun c => decide (c.id = self)) l), fun _ h_ => rmv (h_.b 8 s8),
   .bool (decide ((idxF (fun c => decide (c.id = self)) l : Int) < 0)), fun _ h_ => rk (run_cmp rfl (h_.d 0 19) rfl rfl (by first | rfl | exact neq_dec _ _ | exact eq_dec _ _ | simp)), ?_⟩
  intro a8 hput
  replace s1 := hput.o 1 s1
  replace s2 := hput.o 2 s2
  replace s4 := hput.o 4 s4
  replace s5 := hput.o 5 s5
  replace s6 := hput.o 6 s6
  replace s7 := hput.o 7 s7
  replace s8 := hput.o 8 s8
  have s20 : sl a8 20 = .bool (decide ((idxF (fun c => decide (c.id = self)) l : Int) < 0)) := hput.new 1 20 rfl
  replace hz := hput.size.trans hz
  replace hd := hput.defers.trans hd
  clear hput
  change Code.wp _ _ _ _ _
  refine wp_cond_d s20 (fun hc20 => ?_) (fun hc20 => ?_)
  · clear s20
    refine wp_seq ?_
    refine seq_l [] hz ?_
    refine ⟨i6 ((goF l).1), fun _ h_ => rmv (h_.b 6 s6),
     i6 ((goF l).2), fun _ h_ => rmv (h_.b 7 s7),
     i6 ((goF l).1), fun _ h_ => ras (h_.d 0 21),
     i6 ((goF l).2), fun _ h_ => ras (h_.d 1 22), ?_⟩
    intro a9 hput
    replace s1 := hput.o 1 s1
    replace s2 := hput.o 2 s2
    replace s4 : sl a9 4 = i6 ((goF l).1) := hput.new 2 4 rfl
    replace s5 : sl a9 5 = i6 ((goF l).2) := hput.new 3 5 rfl
    replace s6 := hput.o 6 s6
    replace s7 := hput.o 7 s7
    replace s8 := hput.o 8 s8
    replace hz := hput.size.trans hz
    replace hd := hput.defers.trans hd
    clear hput
    change Code.wp _ _ _ _ _
    refine wp_ret ?_
    refine ret2 (P := Try.prog) (fn := Try.f141) hd s4 s5 (hR_ _ _ ?_)
    first | exact ⟨by rw [elect_out (by omega)], (hS7.old (by simp))⟩ | exact ⟨by rw [elect_same hi hz (by assumption) (by assumption)], (hS7.old (by simp))⟩ | (refine ⟨?_, (hS7.old (by simp))⟩; rw [elect_turn hi hz (by simp_all)]; simp only [ownF, List.set_set]; simp_all)
  · clear s20
    obtain ⟨i, hi⟩ : ∃ i : Nat, idxF (fun c => decide (c.id = self)) l = (i : Int) := ⟨_, (Int.toNat_of_nonneg (by omega)).symm⟩
    have hil : (i : Int) < n := by have := idxF_lt (p := (fun c => decide (c.id = self))) (l := l) (by omega); have := cds_len hR; omega
    replace s8 := s8.trans (congrArg _ hi)
    refine wp_skip ?_
    change Code.wp _ _ _ _ _
    refine wp_seq ?_
    refine seq_l [4, 5] hz ?_
    refine ⟨.slice A n c, fun _ h_ => rmv (h_.b 1 s1),
     i6 i, fun _ h_ => rmv (h_.b 8 s8), ?_⟩
    obtain ⟨b11, o11, z11, hA11, hb11, hz11, hq11⟩ := Reads.row_at CdV.cells 4 CdV.cells_len (k := i) (hR.old (hS7.old (by simp))) (by decide) (by omega)
    refine ⟨pt b11 (o11 + i * 4), fun _ h_ => rk (run_indexV (size := 4) rfl (h_.d 0 23) hA11 (h_.d 1 24) (by kernel_rfl) (by omega) (by simp)),
     .agg #[i6 z11.id, i6 z11.prio, i6 z11.dr, i6 z11.bdr], fun _ h_ => rk (run_loadV (size := 4) (cs := CdV.cells z11) rfl (h_.d 2 25) (by kernel_rfl) rfl hq11), ?_⟩
    refine ⟨fun a_ h_ => st_alloc (cells := #[i6 0, i6 0, i6 0, i6 0]) hS7 (on_none rfl) rfl (by kernel_rfl) fun g12 w12 hS12 hb12 => ⟨_, rfl, ?_⟩, trivial⟩
    clear h_ a_ hS7
    clear hb12
    refine ⟨fun a_ h_ => st_store (n := 4) (cells := #[i6 z11.id, i6 z11.prio, i6 z11.dr, i6 z11.bdr]) (cs' := #[i6 z11.id, i6 z11.prio, i6 z11.dr, i6 z11.bdr]) 0 hS12 rfl (on_none rfl) rfl (h_.d 4 9) (h_.d 3 26) rfl (by kernel_rfl) ⟨Nat.le_of_ble_eq_true rfl, rfl, by kernel_rfl⟩ rfl fun w13 hS13 he13 => ⟨_, rfl, ?_⟩, trivial⟩
    clear h_ a_ he13 hS12
    replace hS13 : S (kap W) ((blkA g12 227 #[i6 z11.id, i6 z11.prio, i6 z11.dr, i6 z11.bdr]) :: (blkA g3 3 #[i6 self]) :: []) ((memA W W.heap.size) :: []) w13 := hS13
    intro a10 hput
    replace s1 := hput.o 1 s1
    replace s2 := hput.o 2 s2
    replace s4 := hput.o 4 s4
    replace s5 := hput.o 5 s5
    replace s6 := hput.o 6 s6
    replace s7 := hput.o 7 s7
    replace s8 := hput.o 8 s8
    have s9 : sl a10 9 = pt g12 0 := hput.new 4 9 rfl
    replace hz := hput.size.trans hz
    replace hd := hput.defers.trans hd
    clear hput
    change Code.wp _ _ _ _ _
    refine wp_seq ?_
    refine wp_seq ?_
    refine seq_l [] hz ?_
    refine ⟨i6 ((goF l).1), fun _ h_ => rmv (h_.b 6 s6),
     i6 self, fun _ h_ => rk (ld hS13 1 rfl (h_.b 2 s2)),
     .bool (decide (((goF l).1 : Int) = self)), fun _ h_ => rk (run_cmp rfl (h_.d 0 27) (h_.d 1 28) rfl (by first | rfl | exact neq_dec _ _ | exact eq_dec _ _ | simp)),
     pt g12 2, fun _ h_ => rk (fa 2 rfl (h_.b 9 s9)),
     i6 z11.dr, fun _ h_ => rk (ld hS13 0 rfl (h_.d 3 30)),
     i6 self, fun _ h_ => rk (ld hS13 1 rfl (h_.b 2 s2)),
     .bool (decide ((z11.dr : Int) = self)), fun _ h_ => rk (run_cmp rfl (h_.d 4 31) (h_.d 5 32) rfl (by first | rfl | exact neq_dec _ _ | exact eq_dec _ _ | simp)),
     .bool (decide (((goF l).1 : Int) = self) == decide ((z11.dr : Int) = self)), fun _ h_ => rk (run_bin2 rfl (h_.d 2 29) (h_.d 6 33) (fun _ => rfl) (fun _ => rfl)),
     .bool (decide (((goF l).1 : Int) = self) == decide ((z11.dr : Int) = self)), fun _ h_ => rmv (h_.d 7 34), ?_⟩
    rcases bt (decide (((goF l).1 : Int) = self) == decide ((z11.dr : Int) = self)) with hg8 | hg8
    · rw [hg8]
      refine ⟨i6 ((goF l).2), fun _ h_ => r_ok (h_.on 8 35) (run_move rfl (h_.b 7 s7)),
       i6 self, fun _ h_ => r_ok (h_.on 8 35) (ld hS13 1 rfl (h_.b 2 s2)),
       .bool (decide (((goF l).2 : Int) = self)), fun _ h_ => r_ok (h_.on 8 35) (run_cmp rfl (h_.d 9 36) (h_.d 10 37) rfl (by first | rfl | exact neq_dec _ _ | exact eq_dec _ _ | simp)),
       pt g12 3, fun _ h_ => r_ok (h_.on 8 35) (fa 3 rfl (h_.b 9 s9)),
       i6 z11.bdr, fun _ h_ => r_ok (h_.on 8 35) (ld hS13 0 rfl (h_.d 12 39)),
       i6 self, fun _ h_ => r_ok (h_.on 8 35) (ld hS13 1 rfl (h_.b 2 s2)),
       .bool (decide ((z11.bdr : Int) = self)), fun _ h_ => r_ok (h_.on 8 35) (run_cmp rfl (h_.d 13 40) (h_.d 14 41) rfl (by first | rfl | exact neq_dec _ _ | exact eq_dec _ _ | simp)),
       .bool (decide (((goF l).2 : Int) = self) == decide ((z11.bdr : Int) = self)), fun _ h_ => r_ok (h_.on 8 35) (run_bin2 rfl (h_.d 11 38) (h_.d 15 42) (fun _ => rfl) (fun _ => rfl)),
       .bool (decide (((goF l).2 : Int) = self) == decide ((z11.bdr : Int) = self)), fun _ h_ => rk (run_pick_t rfl (h_.d 8 35) (h_.d 16 43)), ?_⟩
      intro a14 hput
      replace s1 := hput.o 1 s1
      replace s2 := hput.o 2 s2
      replace s4 := hput.o 4 s4
      replace s5 := hput.o 5 s5
      replace s6 := hput.o 6 s6
      replace s7 := hput.o 7 s7
      replace s8 := hput.o 8 s8
      have s44 : sl a14 44 = .bool (decide (((goF l).2 : Int) = self) == decide ((z11.bdr : Int) = self)) := hput.new 17 44 rfl
      replace hz := hput.size.trans hz
      replace hd := hput.defers.trans hd
      clear hput s9
      change Code.wp _ _ _ _ _
      refine wp_cond_b s44 (fun hc44 => ?_) (fun hc44 => ?_)
      · clear s44
        refine wp_seq ?_
        refine seq_l [] hz ?_
        refine ⟨i6 ((goF l).1), fun _ h_ => rmv (h_.b 6 s6),
         i6 ((goF l).2), fun _ h_ => rmv (h_.b 7 s7),
         i6 ((goF l).1), fun _ h_ => ras (h_.d 0 45),
         i6 ((goF l).2), fun _ h_ => ras (h_.d 1 46), ?_⟩
        intro a15 hput
        replace s1 := hput.o 1 s1
        replace s2 := hput.o 2 s2
        replace s4 : sl a15 4 = i6 ((goF l).1) := hput.new 2 4 rfl
        replace s5 : sl a15 5 = i6 ((goF l).2) := hput.new 3 5 rfl
        replace s6 := hput.o 6 s6
        replace s7 := hput.o 7 s7
        replace s8 := hput.o 8 s8
        replace hz := hput.size.trans hz
        replace hd := hput.defers.trans hd
        clear hput
        change Code.wp _ _ _ _ _
        refine wp_ret ?_
        refine ret2 (P := Try.prog) (fn := Try.f141) hd s4 s5 (hR_ _ _ ?_)
        first | exact ⟨by rw [elect_out (by omega)], (hS13.old (by simp))⟩ | exact ⟨by rw [elect_same hi hz11 (by assumption) (by assumption)], (hS13.old (by simp))⟩ | (refine ⟨?_, (hS13.old (by simp))⟩; rw [elect_turn hi hz11 (by simp_all)]; simp only [ownF, List.set_set]; simp_all)
      · clear s44
        refine wp_skip ?_
        change Code.wp _ _ _ _ _
        refine wp_seq ?_
        refine seq_l [1] hz ?_
        refine ⟨.slice A n c, fun _ h_ => rmv (h_.b 1 s1), ?_⟩
        refine ⟨fun a_ h_ => st_call (on_none rfl) (run_call rfl (map1 (h_.d 0 47)) rfl) (cloneCd_any A n c l _ hn (hR.old (hS13.old (by simp)))) ?_, trivial⟩
        rintro e w17 ⟨A17, c17, rfl, ho17, hb17⟩
        refine ⟨_, rfl, _, rfl, ?_⟩
        clear h_ a_
        have hS17 := hS13.pushRow hb17 ho17
        clear hS13 hb17 ho17
        refine ⟨.slice A17 n c17, fun _ h_ => ras (h_.d 1 48), ?_⟩
        intro a16 hput
        replace s2 := hput.o 2 s2
        replace s4 := hput.o 4 s4
        replace s5 := hput.o 5 s5
        replace s6 := hput.o 6 s6
        replace s7 := hput.o 7 s7
        replace s8 := hput.o 8 s8
        have s10 : sl a16 10 = .slice A17 n c17 := hput.new 2 10 rfl
        replace hz := hput.size.trans hz
        replace hd := hput.defers.trans hd
        clear hput s1
        change Code.wp _ _ _ _ _
        refine wp_seq ?_
        refine seq_l [6, 9] hz ?_
        refine ⟨.slice A17 n c17, fun _ h_ => rmv (h_.b 10 s10),
         i6 i, fun _ h_ => rmv (h_.b 8 s8),
         .slice A17 n c17, fun _ h_ => rmv (h_.b 10 s10),
         i6 i, fun _ h_ => rmv (h_.b 8 s8), ?_⟩
        obtain ⟨gA, hgA⟩ := hS17.rowAt (i := 0) rfl (by omega)
        refine ⟨pt gA (i * 4), fun _ h_ => rk (run_indexV (size := 4) rfl (h_.d 0 49) hgA (h_.d 1 50) (by kernel_rfl) (by omega) (by simp)),
         pt gA (i * 4 + 2), fun _ h_ => rk (fa 2 rfl (h_.d 4 53)), ?_⟩
        refine ⟨fun a_ h_ => st_rowcell (k := i * 4 + 2) (s := 4) (u := i6 0) 0 hS17 hgA rfl (on_none rfl) rfl (h_.d 5 54) rfl rfl (by kernel_rfl) (by omega) rfl fun w19 hS19 => ⟨_, rfl, ?_⟩, trivial⟩
        clear h_ a_ hS17
        replace hS19 := hS19
        rw [rowC_setcell (z' := { z11 with dr := 0 }) CdV.cells_len hz11 (by omega) rfl] at hS19
        replace hS19 : S (kap W) ((rowA (.slice A17 n c17) 227 4 n (rowC CdV.cells (l.set i { z11 with dr := 0 }))) :: (blkA g12 227 #[i6 z11.id, i6 z11.prio, i6 z11.dr, i6 z11.bdr]) :: (blkA g3 3 #[i6 self]) :: []) ((memA W W.heap.size) :: []) w19 := hS19
        have hzz19 : (l.set i { z11 with dr := 0 })[i]? = some ({ z11 with dr := 0 }) := set_at hz11
        refine ⟨pt gA (i * 4), fun _ h_ => rk (run_indexV (size := 4) rfl (h_.d 2 51) hgA (h_.d 3 52) (by kernel_rfl) (by omega) (by simp)),
         pt gA (i * 4 + 3), fun _ h_ => rk (fa 3 rfl (h_.d 7 55)), ?_⟩
        refine ⟨fun a_ h_ => st_rowcell (k := i * 4 + 3) (s := 4) (u := i6 0) 0 hS19 hgA rfl (on_none rfl) rfl (h_.d 8 56) rfl rfl (by kernel_rfl) (by omega) rfl fun w20 hS20 => ⟨_, rfl, ?_⟩, trivial⟩
        clear h_ a_ hS19
        replace hS20 := hS20
        rw [rowC_setcell (z' := { { z11 with dr := 0 } with bdr := 0 }) CdV.cells_len hzz19 (by omega) rfl] at hS20
        replace hS20 : S (kap W) ((rowA (.slice A17 n c17) 227 4 n (rowC CdV.cells ((l.set i { z11 with dr := 0 }).set i { { z11 with dr := 0 } with bdr := 0 }))) :: (blkA g12 227 #[i6 z11.id, i6 z11.prio, i6 z11.dr, i6 z11.bdr]) :: (blkA g3 3 #[i6 self]) :: []) ((memA W W.heap.size) :: []) w20 := hS20
        have hzz20 : ((l.set i { z11 with dr := 0 }).set i { { z11 with dr := 0 } with bdr := 0 })[i]? = some ({ { z11 with dr := 0 } with bdr := 0 }) := set_at hzz19
        intro a18 hput
        replace s2 := hput.o 2 s2
        replace s4 := hput.o 4 s4
        replace s5 := hput.o 5 s5
        replace s6 := hput.o 6 s6
        replace s7 := hput.o 7 s7
        replace s8 := hput.o 8 s8
        replace s10 := hput.o 10 s10
        replace hz := hput.size.trans hz
        replace hd := hput.defers.trans hd
        clear hput
        change Code.wp _ _ _ _ _
        refine wp_seq ?_
        refine wp_seq ?_
        refine seq_l [] hz ?_
        refine ⟨i6 ((goF l).1), fun _ h_ => rmv (h_.b 6 s6),
         i6 self, fun _ h_ => rk (ld hS20 2 rfl (h_.b 2 s2)),
         .bool (decide (((goF l).1 : Int) = self)), fun _ h_ => rk (run_cmp rfl (h_.d 0 57) (h_.d 1 58) rfl (by first | rfl | exact neq_dec _ _ | exact eq_dec _ _ | simp)), ?_⟩
        intro a21 hput
        replace s2 := hput.o 2 s2
        replace s4 := hput.o 4 s4
        replace s5 := hput.o 5 s5
        replace s7 := hput.o 7 s7
        replace s8 := hput.o 8 s8
        replace s10 := hput.o 10 s10
        have s59 : sl a21 59 = .bool (decide (((goF l).1 : Int) = self)) := hput.new 2 59 rfl
        replace hz := hput.size.trans hz
        replace hd := hput.defers.trans hd
        clear hput s6
        change Code.wp _ _ _ _ _
        refine wp_cond_d s59 (fun hc59 => ?_) (fun hc59 => ?_)
        · clear s59
          refine seq_l [5] hz ?_
          refine ⟨.slice A17 n c17, fun _ h_ => rmv (h_.b 10 s10),
           i6 i, fun _ h_ => rmv (h_.b 8 s8),
           i6 self, fun _ h_ => rk (ld hS20 2 rfl (h_.b 2 s2)),
           pt gA (i * 4), fun _ h_ => rk (run_indexV (size := 4) rfl (h_.d 0 60) hgA (h_.d 1 61) (by kernel_rfl) (by omega) (by simp)),
           pt gA (i * 4 + 2), fun _ h_ => rk (fa 2 rfl (h_.d 3 63)), ?_⟩
          refine ⟨fun a_ h_ => st_rowcell (k := i * 4 + 2) (s := 4) (u := i6 self) 0 hS20 hgA rfl (on_none rfl) rfl (h_.d 4 64) (h_.d 2 62) rfl (by kernel_rfl) (by omega) rfl fun w23 hS23 => ⟨_, rfl, ?_⟩, trivial⟩
          clear h_ a_ hS20
          replace hS23 := hS23
          rw [rowC_setcell (z' := { { { z11 with dr := 0 } with bdr := 0 } with dr := self }) CdV.cells_len hzz20 (by omega) rfl] at hS23
          replace hS23 : S (kap W) ((rowA (.slice A17 n c17) 227 4 n (rowC CdV.cells (((l.set i { z11 with dr := 0 }).set i { { z11 with dr := 0 } with bdr := 0 }).set i { { { z11 with dr := 0 } with bdr := 0 } with dr := self }))) :: (blkA g12 227 #[i6 z11.id, i6 z11.prio, i6 z11.dr, i6 z11.bdr]) :: (blkA g3 3 #[i6 self]) :: []) ((memA W W.heap.size) :: []) w23 := hS23
          have hzz23 : (((l.set i { z11 with dr := 0 }).set i { { z11 with dr := 0 } with bdr := 0 }).set i { { { z11 with dr := 0 } with bdr := 0 } with dr := self })[i]? = some ({ { { z11 with dr := 0 } with bdr := 0 } with dr := self }) := set_at hzz20
          intro a22 hput
          replace s4 := hput.o 4 s4
          replace s5 := hput.o 5 s5
          replace s10 := hput.o 10 s10
          replace hz := hput.size.trans hz
          replace hd := hput.defers.trans hd
          clear hput s2 s7 s8
          change Code.wp _ _ _ _ _
          refine wp_seq ?_
          refine seq_l [1] hz ?_
          refine ⟨.slice A17 n c17, fun _ h_ => rmv (h_.b 10 s10), ?_⟩
          refine ⟨fun a_ h_ => st_call (on_none rfl) (run_call rfl (map1 (h_.d 0 73)) rfl) (go_any A17 n c17 (((l.set i { z11 with dr := 0 }).set i { { z11 with dr := 0 } with bdr := 0 }).set i { { { z11 with dr := 0 } with bdr := 0 } with dr := self }) _ hn (hS23.rd (i := 0) rfl)) ?_, trivial⟩
          rintro e w25 ⟨rfl, hb25⟩
          refine ⟨_, rfl, _, rfl, ?_⟩
          clear h_ a_
          have hS25 := hS23.below hb25
          clear hS23 hb25
          refine ⟨i6 ((goF (((l.set i { z11 with dr := 0 }).set i { { z11 with dr := 0 } with bdr := 0 }).set i { { { z11 with dr := 0 } with bdr := 0 } with dr := self })).1), fun _ h_ => rk (run_extract rfl (h_.d 1 74) rfl),
           i6 ((goF (((l.set i { z11 with dr := 0 }).set i { { z11 with dr := 0 } with bdr := 0 }).set i { { { z11 with dr := 0 } with bdr := 0 } with dr := self })).2), fun _ h_ => rk (run_extract rfl (h_.d 1 74) rfl),
           i6 ((goF (((l.set i { z11 with dr := 0 }).set i { { z11 with dr := 0 } with bdr := 0 }).set i { { { z11 with dr := 0 } with bdr := 0 } with dr := self })).1), fun _ h_ => ras (h_.d 2 75),
           i6 ((goF (((l.set i { z11 with dr := 0 }).set i { { z11 with dr := 0 } with bdr := 0 }).set i { { { z11 with dr := 0 } with bdr := 0 } with dr := self })).2), fun _ h_ => ras (h_.d 3 76), ?_⟩
          intro a24 hput
          replace s4 : sl a24 4 = i6 ((goF (((l.set i { z11 with dr := 0 }).set i { { z11 with dr := 0 } with bdr := 0 }).set i { { { z11 with dr := 0 } with bdr := 0 } with dr := self })).1) := hput.new 4 4 rfl
          replace s5 : sl a24 5 = i6 ((goF (((l.set i { z11 with dr := 0 }).set i { { z11 with dr := 0 } with bdr := 0 }).set i { { { z11 with dr := 0 } with bdr := 0 } with dr := self })).2) := hput.new 5 5 rfl
          replace hz := hput.size.trans hz
          replace hd := hput.defers.trans hd
          clear hput s10
          change Code.wp _ _ _ _ _
          refine wp_ret ?_
          refine ret2 (P := Try.prog) (fn := Try.f141) hd s4 s5 (hR_ _ _ ?_)
          first | exact ⟨by rw [elect_out (by omega)], (hS25.old (by simp))⟩ | exact ⟨by rw [elect_same hi hz11 (by assumption) (by assumption)], (hS25.old (by simp))⟩ | (refine ⟨?_, (hS25.old (by simp))⟩; rw [elect_turn hi hz11 (by simp_all)]; simp only [ownF, List.set_set]; simp_all)
        · clear s59
          refine wp_seq ?_
          refine seq_l [] hz ?_
          refine ⟨i6 ((goF l).2), fun _ h_ => rmv (h_.b 7 s7),
           i6 self, fun _ h_ => rk (ld hS20 2 rfl (h_.b 2 s2)),
           .bool (decide (((goF l).2 : Int) = self)), fun _ h_ => rk (run_cmp rfl (h_.d 0 65) (h_.d 1 66) rfl (by first | rfl | exact neq_dec _ _ | exact eq_dec _ _ | simp)), ?_⟩
          intro a26 hput
          replace s2 := hput.o 2 s2
          replace s4 := hput.o 4 s4
          replace s5 := hput.o 5 s5
          replace s8 := hput.o 8 s8
          replace s10 := hput.o 10 s10
          have s67 : sl a26 67 = .bool (decide (((goF l).2 : Int) = self)) := hput.new 2 67 rfl
          replace hz := hput.size.trans hz
          replace hd := hput.defers.trans hd
          clear hput s7
          change Code.wp _ _ _ _ _
          refine wp_cond_d s67 (fun hc67 => ?_) (fun hc67 => ?_)
          · clear s67
            refine seq_l [5] hz ?_
            refine ⟨.slice A17 n c17, fun _ h_ => rmv (h_.b 10 s10),
             i6 i, fun _ h_ => rmv (h_.b 8 s8),
             i6 self, fun _ h_ => rk (ld hS20 2 rfl (h_.b 2 s2)),
             pt gA (i * 4), fun _ h_ => rk (run_indexV (size := 4) rfl (h_.d 0 68) hgA (h_.d 1 69) (by kernel_rfl) (by omega) (by simp)),
             pt gA (i * 4 + 3), fun _ h_ => rk (fa 3 rfl (h_.d 3 71)), ?_⟩
            refine ⟨fun a_ h_ => st_rowcell (k := i * 4 + 3) (s := 4) (u := i6 self) 0 hS20 hgA rfl (on_none rfl) rfl (h_.d 4 72) (h_.d 2 70) rfl (by kernel_rfl) (by omega) rfl fun w28 hS28 => ⟨_, rfl, ?_⟩, trivial⟩
            clear h_ a_ hS20
            replace hS28 := hS28
            rw [rowC_setcell (z' := { { { z11 with dr := 0 } with bdr := 0 } with bdr := self }) CdV.cells_len hzz20 (by omega) rfl] at hS28
            replace hS28 : S (kap W) ((rowA (.slice A17 n c17) 227 4 n (rowC CdV.cells (((l.set i { z11 with dr := 0 }).set i { { z11 with dr := 0 } with bdr := 0 }).set i { { { z11 with dr := 0 } with bdr := 0 } with bdr := self }))) :: (blkA g12 227 #[i6 z11.id, i6 z11.prio, i6 z11.dr, i6 z11.bdr]) :: (blkA g3 3 #[i6 self]) :: []) ((memA W W.heap.size) :: []) w28 := hS28
            have hzz28 : (((l.set i { z11 with dr := 0 }).set i { { z11 with dr := 0 } with bdr := 0 }).set i { { { z11 with dr := 0 } with bdr := 0 } with bdr := self })[i]? = some ({ { { z11 with dr := 0 } with bdr := 0 } with bdr := self }) := set_at hzz20
            intro a27 hput
            replace s4 := hput.o 4 s4
            replace s5 := hput.o 5 s5
            replace s10 := hput.o 10 s10
            replace hz := hput.size.trans hz
            replace hd := hput.defers.trans hd
            clear hput s2 s8
            change Code.wp _ _ _ _ _
            refine wp_seq ?_
            refine seq_l [1] hz ?_
            refine ⟨.slice A17 n c17, fun _ h_ => rmv (h_.b 10 s10), ?_⟩
            refine ⟨fun a_ h_ => st_call (on_none rfl) (run_call rfl (map1 (h_.d 0 73)) rfl) (go_any A17 n c17 (((l.set i { z11 with dr := 0 }).set i { { z11 with dr := 0 } with bdr := 0 }).set i { { { z11 with dr := 0 } with bdr := 0 } with bdr := self }) _ hn (hS28.rd (i := 0) rfl)) ?_, trivial⟩
            rintro e w30 ⟨rfl, hb30⟩
            refine ⟨_, rfl, _, rfl, ?_⟩
            clear h_ a_
            have hS30 := hS28.below hb30
            clear hS28 hb30
            refine ⟨i6 ((goF (((l.set i { z11 with dr := 0 }).set i { { z11 with dr := 0 } with bdr := 0 }).set i { { { z11 with dr := 0 } with bdr := 0 } with bdr := self })).1), fun _ h_ => rk (run_extract rfl (h_.d 1 74) rfl),
             i6 ((goF (((l.set i { z11 with dr := 0 }).set i { { z11 with dr := 0 } with bdr := 0 }).set i { { { z11 with dr := 0 } with bdr := 0 } with bdr := self })).2), fun _ h_ => rk (run_extract rfl (h_.d 1 74) rfl),
             i6 ((goF (((l.set i { z11 with dr := 0 }).set i { { z11 with dr := 0 } with bdr := 0 }).set i { { { z11 with dr := 0 } with bdr := 0 } with bdr := self })).1), fun _ h_ => ras (h_.d 2 75),
             i6 ((goF (((l.set i { z11 with dr := 0 }).set i { { z11 with dr := 0 } with bdr := 0 }).set i { { { z11 with dr := 0 } with bdr := 0 } with bdr := self })).2), fun _ h_ => ras (h_.d 3 76), ?_⟩
            intro a29 hput
            replace s4 : sl a29 4 = i6 ((goF (((l.set i { z11 with dr := 0 }).set i { { z11 with dr := 0 } with bdr := 0 }).set i { { { z11 with dr := 0 } with bdr := 0 } with bdr := self })).1) := hput.new 4 4 rfl
            replace s5 : sl a29 5 = i6 ((goF (((l.set i { z11 with dr := 0 }).set i { { z11 with dr := 0 } with bdr := 0 }).set i { { { z11 with dr := 0 } with bdr := 0 } with bdr := self })).2) := hput.new 5 5 rfl
            replace hz := hput.size.trans hz
            replace hd := hput.defers.trans hd
            clear hput s10
            change Code.wp _ _ _ _ _
            refine wp_ret ?_
            refine ret2 (P := Try.prog) (fn := Try.f141) hd s4 s5 (hR_ _ _ ?_)
            first | exact ⟨by rw [elect_out (by omega)], (hS30.old (by simp))⟩ | exact ⟨by rw [elect_same hi hz11 (by assumption) (by assumption)], (hS30.old (by simp))⟩ | (refine ⟨?_, (hS30.old (by simp))⟩; rw [elect_turn hi hz11 (by simp_all)]; simp only [ownF, List.set_set]; simp_all)
          · clear s67
            refine wp_skip ?_
            change Code.wp _ _ _ _ _
            refine wp_seq ?_
            refine seq_l [1] hz ?_
            refine ⟨.slice A17 n c17, fun _ h_ => rmv (h_.b 10 s10), ?_⟩
            refine ⟨fun a_ h_ => st_call (on_none rfl) (run_call rfl (map1 (h_.d 0 73)) rfl) (go_any A17 n c17 ((l.set i { z11 with dr := 0 }).set i { { z11 with dr := 0 } with bdr := 0 }) _ hn (hS20.rd (i := 0) rfl)) ?_, trivial⟩
            rintro e w32 ⟨rfl, hb32⟩
            refine ⟨_, rfl, _, rfl, ?_⟩
            clear h_ a_
            have hS32 := hS20.below hb32
            clear hS20 hb32
            refine ⟨i6 ((goF ((l.set i { z11 with dr := 0 }).set i { { z11 with dr := 0 } with bdr := 0 })).1), fun _ h_ => rk (run_extract rfl (h_.d 1 74) rfl),
             i6 ((goF ((l.set i { z11 with dr := 0 }).set i { { z11 with dr := 0 } with bdr := 0 })).2), fun _ h_ => rk (run_extract rfl (h_.d 1 74) rfl),
             i6 ((goF ((l.set i { z11 with dr := 0 }).set i { { z11 with dr := 0 } with bdr := 0 })).1), fun _ h_ => ras (h_.d 2 75),
             i6 ((goF ((l.set i { z11 with dr := 0 }).set i { { z11 with dr := 0 } with bdr := 0 })).2), fun _ h_ => ras (h_.d 3 76), ?_⟩
            intro a31 hput
            replace s4 : sl a31 4 = i6 ((goF ((l.set i { z11 with dr := 0 }).set i { { z11 with dr := 0 } with bdr := 0 })).1) := hput.new 4 4 rfl
            replace s5 : sl a31 5 = i6 ((goF ((l.set i { z11 with dr := 0 }).set i { { z11 with dr := 0 } with bdr := 0 })).2) := hput.new 5 5 rfl
            replace hz := hput.size.trans hz
            replace hd := hput.defers.trans hd
            clear hput s2 s8 s10
            change Code.wp _ _ _ _ _
            refine wp_ret ?_
            refine ret2 (P := Try.prog) (fn := Try.f141) hd s4 s5 (hR_ _ _ ?_)
            first | exact ⟨by rw [elect_out (by omega)], (hS32.old (by simp))⟩ | exact ⟨by rw [elect_same hi hz11 (by assumption) (by assumption)], (hS32.old (by simp))⟩ | (refine ⟨?_, (hS32.old (by simp))⟩; rw [elect_turn hi hz11 (by simp_all)]; simp only [ownF, List.set_set]; simp_all)
    · rw [hg8]
      refine seq_off (j := 8) (d := 35) (b := true) [9, 10, 11, 12, 13, 14, 15, 16] _ (by kernel_rfl) (.inl rfl) ?_
      refine ⟨.bool false, fun _ h_ => rk (run_pick_f rfl (h_.d 8 35) rfl), ?_⟩
      intro a14 hput
      replace s1 := hput.o 1 s1
      replace s2 := hput.o 2 s2
      replace s4 := hput.o 4 s4
      replace s5 := hput.o 5 s5
      replace s6 := hput.o 6 s6
      replace s7 := hput.o 7 s7
      replace s8 := hput.o 8 s8
      have s44 : sl a14 44 = .bool false := hput.new 17 44 rfl
      replace hz := hput.size.trans hz
      replace hd := hput.defers.trans hd
      clear hput s9
      change Code.wp _ _ _ _ _
      refine wp_cond_false s44 ?_
      refine wp_skip ?_
      change Code.wp _ _ _ _ _
      refine wp_seq ?_
      refine seq_l [1] hz ?_
      refine ⟨.slice A n c, fun _ h_ => rmv (h_.b 1 s1), ?_⟩
      refine ⟨fun a_ h_ => st_call (on_none rfl) (run_call rfl (map1 (h_.d 0 47)) rfl) (cloneCd_any A n c l _ hn (hR.old (hS13.old (by simp)))) ?_, trivial⟩
      rintro e w34 ⟨A34, c34, rfl, ho34, hb34⟩
      refine ⟨_, rfl, _, rfl, ?_⟩
      clear h_ a_
      have hS34 := hS13.pushRow hb34 ho34
      clear hS13 hb34 ho34
      refine ⟨.slice A34 n c34, fun _ h_ => ras (h_.d 1 48), ?_⟩
      intro a33 hput
      replace s2 := hput.o 2 s2
      replace s4 := hput.o 4 s4
      replace s5 := hput.o 5 s5
      replace s6 := hput.o 6 s6
      replace s7 := hput.o 7 s7
      replace s8 := hput.o 8 s8
      have s10 : sl a33 10 = .slice A34 n c34 := hput.new 2 10 rfl
      replace hz := hput.size.trans hz
      replace hd := hput.defers.trans hd
      clear hput s1 s44
      change Code.wp _ _ _ _ _
      refine wp_seq ?_
      refine seq_l [6, 9] hz ?_
      refine ⟨.slice A34 n c34, fun _ h_ => rmv (h_.b 10 s10),
       i6 i, fun _ h_ => rmv (h_.b 8 s8),
       .slice A34 n c34, fun _ h_ => rmv (h_.b 10 s10),
       i6 i, fun _ h_ => rmv (h_.b 8 s8), ?_⟩
      obtain ⟨gA, hgA⟩ := hS34.rowAt (i := 0) rfl (by omega)
      refine ⟨pt gA (i * 4), fun _ h_ => rk (run_indexV (size := 4) rfl (h_.d 0 49) hgA (h_.d 1 50) (by kernel_rfl) (by omega) (by simp)),
       pt gA (i * 4 + 2), fun _ h_ => rk (fa 2 rfl (h_.d 4 53)), ?_⟩
      refine ⟨fun a_ h_ => st_rowcell (k := i * 4 + 2) (s := 4) (u := i6 0) 0 hS34 hgA rfl (on_none rfl) rfl (h_.d 5 54) rfl rfl (by kernel_rfl) (by omega) rfl fun w36 hS36 => ⟨_, rfl, ?_⟩, trivial⟩
      clear h_ a_ hS34
      replace hS36 := hS36
      rw [rowC_setcell (z' := { z11 with dr := 0 }) CdV.cells_len hz11 (by omega) rfl] at hS36
      replace hS36 : S (kap W) ((rowA (.slice A34 n c34) 227 4 n (rowC CdV.cells (l.set i { z11 with dr := 0 }))) :: (blkA g12 227 #[i6 z11.id, i6 z11.prio, i6 z11.dr, i6 z11.bdr]) :: (blkA g3 3 #[i6 self]) :: []) ((memA W W.heap.size) :: []) w36 := hS36
      have hzz36 : (l.set i { z11 with dr := 0 })[i]? = some ({ z11 with dr := 0 }) := set_at hz11
      refine ⟨pt gA (i * 4), fun _ h_ => rk (run_indexV (size := 4) rfl (h_.d 2 51) hgA (h_.d 3 52) (by kernel_rfl) (by omega) (by simp)),
       pt gA (i * 4 + 3), fun _ h_ => rk (fa 3 rfl (h_.d 7 55)), ?_⟩
      refine ⟨fun a_ h_ => st_rowcell (k := i * 4 + 3) (s := 4) (u := i6 0) 0 hS36 hgA rfl (on_none rfl) rfl (h_.d 8 56) rfl rfl (by kernel_rfl) (by omega) rfl fun w37 hS37 => ⟨_, rfl, ?_⟩, trivial⟩
      clear h_ a_ hS36
      replace hS37 := hS37
      rw [rowC_setcell (z' := { { z11 with dr := 0 } with bdr := 0 }) CdV.cells_len hzz36 (by omega) rfl] at hS37
      replace hS37 : S (kap W) ((rowA (.slice A34 n c34) 227 4 n (rowC CdV.cells ((l.set i { z11 with dr := 0 }).set i { { z11 with dr := 0 } with bdr := 0 }))) :: (blkA g12 227 #[i6 z11.id, i6 z11.prio, i6 z11.dr, i6 z11.bdr]) :: (blkA g3 3 #[i6 self]) :: []) ((memA W W.heap.size) :: []) w37 := hS37
      have hzz37 : ((l.set i { z11 with dr := 0 }).set i { { z11 with dr := 0 } with bdr := 0 })[i]? = some ({ { z11 with dr := 0 } with bdr := 0 }) := set_at hzz36
      intro a35 hput
      replace s2 := hput.o 2 s2
      replace s4 := hput.o 4 s4
      replace s5 := hput.o 5 s5
      replace s6 := hput.o 6 s6
      replace s7 := hput.o 7 s7
      replace s8 := hput.o 8 s8
      replace s10 := hput.o 10 s10
      replace hz := hput.size.trans hz
      replace hd := hput.defers.trans hd
      clear hput
      change Code.wp _ _ _ _ _
      refine wp_seq ?_
      refine wp_seq ?_
      refine seq_l [] hz ?_
      refine ⟨i6 ((goF l).1), fun _ h_ => rmv (h_.b 6 s6),
       i6 self, fun _ h_ => rk (ld hS37 2 rfl (h_.b 2 s2)),
       .bool (decide (((goF l).1 : Int) = self)), fun _ h_ => rk (run_cmp rfl (h_.d 0 57) (h_.d 1 58) rfl (by first | rfl | exact neq_dec _ _ | exact eq_dec _ _ | simp)), ?_⟩
      intro a38 hput
      replace s2 := hput.o 2 s2
      replace s4 := hput.o 4 s4
      replace s5 := hput.o 5 s5
      replace s7 := hput.o 7 s7
      replace s8 := hput.o 8 s8
      replace s10 := hput.o 10 s10
      have s59 : sl a38 59 = .bool (decide (((goF l).1 : Int) = self)) := hput.new 2 59 rfl
      replace hz := hput.size.trans hz
      replace hd := hput.defers.trans hd
      clear hput s6
      change Code.wp _ _ _ _ _
      refine wp_cond_d s59 (fun hc59 => ?_) (fun hc59 => ?_)
      · clear s59
        refine seq_l [5] hz ?_
        refine ⟨.slice A34 n c34, fun _ h_ => rmv (h_.b 10 s10),
         i6 i, fun _ h_ => rmv (h_.b 8 s8),
         i6 self, fun _ h_ => rk (ld hS37 2 rfl (h_.b 2 s2)),
         pt gA (i * 4), fun _ h_ => rk (run_indexV (size := 4) rfl (h_.d 0 60) hgA (h_.d 1 61) (by kernel_rfl) (by omega) (by simp)),
         pt gA (i * 4 + 2), fun _ h_ => rk (fa 2 rfl (h_.d 3 63)), ?_⟩
        refine ⟨fun a_ h_ => st_rowcell (k := i * 4 + 2) (s := 4) (u := i6 self) 0 hS37 hgA rfl (on_none rfl) rfl (h_.d 4 64) (h_.d 2 62) rfl (by kernel_rfl) (by omega) rfl fun w40 hS40 => ⟨_, rfl, ?_⟩, trivial⟩
        clear h_ a_ hS37
        replace hS40 := hS40
        rw [rowC_setcell (z' := { { { z11 with dr := 0 } with bdr := 0 } with dr := self }) CdV.cells_len hzz37 (by omega) rfl] at hS40
        replace hS40 : S (kap W) ((rowA (.slice A34 n c34) 227 4 n (rowC CdV.cells (((l.set i { z11 with dr := 0 }).set i { { z11 with dr := 0 } with bdr := 0 }).set i { { { z11 with dr := 0 } with bdr := 0 } with dr := self }))) :: (blkA g12 227 #[i6 z11.id, i6 z11.prio, i6 z11.dr, i6 z11.bdr]) :: (blkA g3 3 #[i6 self]) :: []) ((memA W W.heap.size) :: []) w40 := hS40
        have hzz40 : (((l.set i { z11 with dr := 0 }).set i { { z11 with dr := 0 } with bdr := 0 }).set i { { { z11 with dr := 0 } with bdr := 0 } with dr := self })[i]? = some ({ { { z11 with dr := 0 } with bdr := 0 } with dr := self }) := set_at hzz37
        intro a39 hput
        replace s4 := hput.o 4 s4
        replace s5 := hput.o 5 s5
        replace s10 := hput.o 10 s10
        replace hz := hput.size.trans hz
        replace hd := hput.defers.trans hd
        clear hput s2 s7 s8
        change Code.wp _ _ _ _ _
        refine wp_seq ?_
        refine seq_l [1] hz ?_
        refine ⟨.slice A34 n c34, fun _ h_ => rmv (h_.b 10 s10), ?_⟩
        refine ⟨fun a_ h_ => st_call (on_none rfl) (run_call rfl (map1 (h_.d 0 73)) rfl) (go_any A34 n c34 (((l.set i { z11 with dr := 0 }).set i { { z11 with dr := 0 } with bdr := 0 }).set i { { { z11 with dr := 0 } with bdr := 0 } with dr := self }) _ hn (hS40.rd (i := 0) rfl)) ?_, trivial⟩
        rintro e w42 ⟨rfl, hb42⟩
        refine ⟨_, rfl, _, rfl, ?_⟩
        clear h_ a_
        have hS42 := hS40.below hb42
        clear hS40 hb42
        refine ⟨i6 ((goF (((l.set i { z11 with dr := 0 }).set i { { z11 with dr := 0 } with bdr := 0 }).set i { { { z11 with dr := 0 } with bdr := 0 } with dr := self })).1), fun _ h_ => rk (run_extract rfl (h_.d 1 74) rfl),
         i6 ((goF (((l.set i { z11 with dr := 0 }).set i { { z11 with dr := 0 } with bdr := 0 }).set i { { { z11 with dr := 0 } with bdr := 0 } with dr := self })).2), fun _ h_ => rk (run_extract rfl (h_.d 1 74) rfl),
         i6 ((goF (((l.set i { z11 with dr := 0 }).set i { { z11 with dr := 0 } with bdr := 0 }).set i { { { z11 with dr := 0 } with bdr := 0 } with dr := self })).1), fun _ h_ => ras (h_.d 2 75),
         i6 ((goF (((l.set i { z11 with dr := 0 }).set i { { z11 with dr := 0 } with bdr := 0 }).set i { { { z11 with dr := 0 } with bdr := 0 } with dr := self })).2), fun _ h_ => ras (h_.d 3 76), ?_⟩
        intro a41 hput
        replace s4 : sl a41 4 = i6 ((goF (((l.set i { z11 with dr := 0 }).set i { { z11 with dr := 0 } with bdr := 0 }).set i { { { z11 with dr := 0 } with bdr := 0 } with dr := self })).1) := hput.new 4 4 rfl
        replace s5 : sl a41 5 = i6 ((goF (((l.set i { z11 with dr := 0 }).set i { { z11 with dr := 0 } with bdr := 0 }).set i { { { z11 with dr := 0 } with bdr := 0 } with dr := self })).2) := hput.new 5 5 rfl
        replace hz := hput.size.trans hz
        replace hd := hput.defers.trans hd
        clear hput s10
        change Code.wp _ _ _ _ _
        refine wp_ret ?_
        refine ret2 (P := Try.prog) (fn := Try.f141) hd s4 s5 (hR_ _ _ ?_)
        first | exact ⟨by rw [elect_out (by omega)], (hS42.old (by simp))⟩ | exact ⟨by rw [elect_same hi hz11 (by assumption) (by assumption)], (hS42.old (by simp))⟩ | (refine ⟨?_, (hS42.old (by simp))⟩; rw [elect_turn hi hz11 (by simp_all)]; simp only [ownF, List.set_set]; simp_all)
      · clear s59
        refine wp_seq ?_
        refine seq_l [] hz ?_
        refine ⟨i6 ((goF l).2), fun _ h_ => rmv (h_.b 7 s7),
         i6 self, fun _ h_ => rk (ld hS37 2 rfl (h_.b 2 s2)),
         .bool (decide (((goF l).2 : Int) = self)), fun _ h_ => rk (run_cmp rfl (h_.d 0 65) (h_.d 1 66) rfl (by first | rfl | exact neq_dec _ _ | exact eq_dec _ _ | simp)), ?_⟩
        intro a43 hput
        replace s2 := hput.o 2 s2
        replace s4 := hput.o 4 s4
        replace s5 := hput.o 5 s5
        replace s8 := hput.o 8 s8
        replace s10 := hput.o 10 s10
        have s67 : sl a43 67 = .bool (decide (((goF l).2 : Int) = self)) := hput.new 2 67 rfl
        replace hz := hput.size.trans hz
        replace hd := hput.defers.trans hd
        clear hput s7
        change Code.wp _ _ _ _ _
        refine wp_cond_d s67 (fun hc67 => ?_) (fun hc67 => ?_)
        · clear s67
          refine seq_l [5] hz ?_
          refine ⟨.slice A34 n c34, fun _ h_ => rmv (h_.b 10 s10),
           i6 i, fun _ h_ => rmv (h_.b 8 s8),
           i6 self, fun _ h_ => rk (ld hS37 2 rfl (h_.b 2 s2)),
           pt gA (i * 4), fun _ h_ => rk (run_indexV (size := 4) rfl (h_.d 0 68) hgA (h_.d 1 69) (by kernel_rfl) (by omega) (by simp)),
           pt gA (i * 4 + 3), fun _ h_ => rk (fa 3 rfl (h_.d 3 71)), ?_⟩
          refine ⟨fun a_ h_ => st_rowcell (k := i * 4 + 3) (s := 4) (u := i6 self) 0 hS37 hgA rfl (on_none rfl) rfl (h_.d 4 72) (h_.d 2 70) rfl (by kernel_rfl) (by omega) rfl fun w45 hS45 => ⟨_, rfl, ?_⟩, trivial⟩
          clear h_ a_ hS37
          replace hS45 := hS45
          rw [rowC_setcell (z' := { { { z11 with dr := 0 } with bdr := 0 } with bdr := self }) CdV.cells_len hzz37 (by omega) rfl] at hS45
          replace hS45 : S (kap W) ((rowA (.slice A34 n c34) 227 4 n (rowC CdV.cells (((l.set i { z11 with dr := 0 }).set i { { z11 with dr := 0 } with bdr := 0 }).set i { { { z11 with dr := 0 } with bdr := 0 } with bdr := self }))) :: (blkA g12 227 #[i6 z11.id, i6 z11.prio, i6 z11.dr, i6 z11.bdr]) :: (blkA g3 3 #[i6 self]) :: []) ((memA W W.heap.size) :: []) w45 := hS45
          have hzz45 : (((l.set i { z11 with dr := 0 }).set i { { z11 with dr := 0 } with bdr := 0 }).set i { { { z11 with dr := 0 } with bdr := 0 } with bdr := self })[i]? = some ({ { { z11 with dr := 0 } with bdr := 0 } with bdr := self }) := set_at hzz37
          intro a44 hput
          replace s4 := hput.o 4 s4
          replace s5 := hput.o 5 s5
          replace s10 := hput.o 10 s10
          replace hz := hput.size.trans hz
          replace hd := hput.defers.trans hd
          clear hput s2 s8
          change Code.wp _ _ _ _ _
          refine wp_seq ?_
          refine seq_l [1] hz ?_
          refine ⟨.slice A34 n c34, fun _ h_ => rmv (h_.b 10 s10), ?_⟩
          refine ⟨fun a_ h_ => st_call (on_none rfl) (run_call rfl (map1 (h_.d 0 73)) rfl) (go_any A34 n c34 (((l.set i { z11 with dr := 0 }).set i { { z11 with dr := 0 } with bdr := 0 }).set i { { { z11 with dr := 0 } with bdr := 0 } with bdr := self }) _ hn (hS45.rd (i := 0) rfl)) ?_, trivial⟩
          rintro e w47 ⟨rfl, hb47⟩
          refine ⟨_, rfl, _, rfl, ?_⟩
          clear h_ a_
          have hS47 := hS45.below hb47
          clear hS45 hb47
          refine ⟨i6 ((goF (((l.set i { z11 with dr := 0 }).set i { { z11 with dr := 0 } with bdr := 0 }).set i { { { z11 with dr := 0 } with bdr := 0 } with bdr := self })).1), fun _ h_ => rk (run_extract rfl (h_.d 1 74) rfl),
           i6 ((goF (((l.set i { z11 with dr := 0 }).set i { { z11 with dr := 0 } with bdr := 0 }).set i { { { z11 with dr := 0 } with bdr := 0 } with bdr := self })).2), fun _ h_ => rk (run_extract rfl (h_.d 1 74) rfl),
           i6 ((goF (((l.set i { z11 with dr := 0 }).set i { { z11 with dr := 0 } with bdr := 0 }).set i { { { z11 with dr := 0 } with bdr := 0 } with bdr := self })).1), fun _ h_ => ras (h_.d 2 75),
           i6 ((goF (((l.set i { z11 with dr := 0 }).set i { { z11 with dr := 0 } with bdr := 0 }).set i { { { z11 with dr := 0 } with bdr := 0 } with bdr := self })).2), fun _ h_ => ras (h_.d 3 76), ?_⟩
          intro a46 hput
          replace s4 : sl a46 4 = i6 ((goF (((l.set i { z11 with dr := 0 }).set i { { z11 with dr := 0 } with bdr := 0 }).set i { { { z11 with dr := 0 } with bdr := 0 } with bdr := self })).1) := hput.new 4 4 rfl
          replace s5 : sl a46 5 = i6 ((goF (((l.set i { z11 with dr := 0 }).set i { { z11 with dr := 0 } with bdr := 0 }).set i { { { z11 with dr := 0 } with bdr := 0 } with bdr := self })).2) := hput.new 5 5 rfl
          replace hz := hput.size.trans hz
          replace hd := hput.defers.trans hd
          clear hput s10
          change Code.wp _ _ _ _ _
          refine wp_ret ?_
          refine ret2 (P := Try.prog) (fn := Try.f141) hd s4 s5 (hR_ _ _ ?_)
          first | exact ⟨by rw [elect_out (by omega)], (hS47.old (by simp))⟩ | exact ⟨by rw [elect_same hi hz11 (by assumption) (by assumption)], (hS47.old (by simp))⟩ | (refine ⟨?_, (hS47.old (by simp))⟩; rw [elect_turn hi hz11 (by simp_all)]; simp only [ownF, List.set_set]; simp_all)
        · clear s67
          refine wp_skip ?_
          change Code.wp _ _ _ _ _
          refine wp_seq ?_
          refine seq_l [1] hz ?_
          refine ⟨.slice A34 n c34, fun _ h_ => rmv (h_.b 10 s10), ?_⟩
          refine ⟨fun a_ h_ => st_call (on_none rfl) (run_call rfl (map1 (h_.d 0 73)) rfl) (go_any A34 n c34 ((l.set i { z11 with dr := 0 }).set i { { z11 with dr := 0 } with bdr := 0 }) _ hn (hS37.rd (i := 0) rfl)) ?_, trivial⟩
          rintro e w49 ⟨rfl, hb49⟩
          refine ⟨_, rfl, _, rfl, ?_⟩
          clear h_ a_
          have hS49 := hS37.below hb49
          clear hS37 hb49
          refine ⟨i6 ((goF ((l.set i { z11 with dr := 0 }).set i { { z11 with dr := 0 } with bdr := 0 })).1), fun _ h_ => rk (run_extract rfl (h_.d 1 74) rfl),
           i6 ((goF ((l.set i { z11 with dr := 0 }).set i { { z11 with dr := 0 } with bdr := 0 })).2), fun _ h_ => rk (run_extract rfl (h_.d 1 74) rfl),
           i6 ((goF ((l.set i { z11 with dr := 0 }).set i { { z11 with dr := 0 } with bdr := 0 })).1), fun _ h_ => ras (h_.d 2 75),
           i6 ((goF ((l.set i { z11 with dr := 0 }).set i { { z11 with dr := 0 } with bdr := 0 })).2), fun _ h_ => ras (h_.d 3 76), ?_⟩
          intro a48 hput
          replace s4 : sl a48 4 = i6 ((goF ((l.set i { z11 with dr := 0 }).set i { { z11 with dr := 0 } with bdr := 0 })).1) := hput.new 4 4 rfl
          replace s5 : sl a48 5 = i6 ((goF ((l.set i { z11 with dr := 0 }).set i { { z11 with dr := 0 } with bdr := 0 })).2) := hput.new 5 5 rfl
          replace hz := hput.size.trans hz
          replace hd := hput.defers.trans hd
          clear hput s2 s8 s10
          change Code.wp _ _ _ _ _
          refine wp_ret ?_
          refine ret2 (P := Try.prog) (fn := Try.f141) hd s4 s5 (hR_ _ _ ?_)
          first | exact ⟨by rw [elect_out (by omega)], (hS49.old (by simp))⟩ | exact ⟨by rw [elect_same hi hz11 (by assumption) (by assumption)], (hS49.old (by simp))⟩ | (refine ⟨?_, (hS49.old (by simp))⟩; rw [elect_turn hi hz11 (by simp_all)]; simp only [ownF, List.set_set]; simp_all)
end Go.Proofs.Ytdenfgnkbfbpmaa
