/-
  iface: a router on a network.
-/
import Derived.Test.YtdenfgnkbfbpmaaElect
import Derived.Test.YtdenfgnkbfbpmaaKeys
import Derived.Test.YtdenfgnkbfbpmaaLit
namespace Go.Proofs.Ytdenfgnkbfbpmaa
open Go.RowKit
set_option linter.unusedSimpArgs false
set_option linter.unusedVariables false

/-- a router on a network -/
structure IfV where
  self : Int
  prio : Int
  state : Int
  dr : Int
  bdr : Int
deriving DecidableEq
def IfV.cells (x : IfV) : List Value := [.int .i64 x.self, .int .i64 x.prio, .int .i64 x.state, .int .i64 x.dr, .int .i64 x.bdr]
def IfV.cand (x : IfV) : CdV := ⟨x.self, x.prio, x.dr, x.bdr⟩
def voteF (i : IfV) (others : List CdV) : IfV :=
  let d := electF i.self (i.cand :: others)
  { i with dr := d.1, bdr := d.2, state := if i.self = d.1 then 4 else if i.self = d.2 then 3 else 2 }
def beginF (i : IfV) : IfV := { i with dr := 0, bdr := 0, state := if i.prio ≤ 0 then 2 else 1 }
/-- which move there is: 1 it begins, 2 it votes, 0 none -/
def whichF (state event : Int) : Nat :=
  if state = 0 ∧ event = 0 then 1
  else if (state = 1 ∧ (event = 2 ∨ event = 3)) ∨ ((state = 2 ∨ state = 3 ∨ state = 4) ∧ event = 4) then 2 else 0
def stepF (i : IfV) (event : Int) (others : List CdV) : IfV :=
  if event = 1 then { i with dr := 0, bdr := 0, state := 0 }
  else if whichF i.state event = 1 then beginF i else if whichF i.state event = 2 then voteF i others else i
def movesL (B V : Value) : List ((Int × Int) × Value) := [((0, 0), B), ((1, 2), V), ((1, 3), V), ((2, 4), V), ((3, 4), V), ((4, 4), V)]
theorem moves_1 {s e : Int} (B V : Value) (h : whichF s e = 1) : lookL (s, e) (movesL B V) = some B := by
  unfold whichF at h
  split at h
  · rename_i hc; obtain ⟨rfl, rfl⟩ := hc; rfl
  · split at h <;> cases h
theorem moves_2 {s e : Int} (B V : Value) (h : whichF s e = 2) : lookL (s, e) (movesL B V) = some V := by
  unfold whichF at h
  split at h
  · cases h
  · split at h
    · rename_i hc
      rcases hc with ⟨rfl, rfl | rfl⟩ | ⟨rfl | rfl | rfl, rfl⟩ <;> rfl
    · cases h
theorem moves_0 {s e : Int} (B V : Value) (h : whichF s e = 0) : lookL (s, e) (movesL B V) = none := by
  unfold whichF at h
  split at h
  · cases h
  · split at h
    · cases h
    · rename_i h1 h2
      simp only [movesL, lookL, Prod.mk.injEq]
      repeat' split
      all_goals first | rfl | (exfalso; omega)
theorem neq_if (x y : IfV) (w : World) : (binOp .neq 170 (.agg x.cells.toArray) (.agg y.cells.toArray)).run Try.prog w = .ok (.bool (decide (x ≠ y))) w := by
  obtain ⟨a1, a2, a3, a4, a5⟩ := x
  obtain ⟨b1, b2, b3, b4, b5⟩ := y
  dsimp only [IfV.cells]
  go_simp
  repeat' split
  all_goals simp_all
set_option maxRecDepth 100000 in
set_option maxHeartbeats 800000 in
theorem own_any (i : IfV) (W : World) :
    Calls Try.prog 140 #[.agg #[i6 i.self, i6 i.prio, i6 i.state, i6 i.dr, i6 i.bdr]] W (fun r w' => r = .returned (.agg i.cand.cells.toArray) ∧ Below W.heap.size W w') := by
  have hS := S.start W
  refine calls_walk Try.func140 rfl fun R_ hR_ a hz hd hargs => ?_
  replace hz : a.tmps.size = 12 := hz.trans (by kernel_rfl)
  have s0 := hargs 0 _ rfl
  clear hargs
  refine wp_seq ?_
  refine seq_l [0, 1] hz ?_
  refine ⟨fun a_ h_ => st_box (cells := #[i6 i.self, i6 i.prio, i6 i.state, i6 i.dr, i6 i.bdr]) hS (on_none rfl) rfl (h_.b 0 s0) (by kernel_rfl) fun g3 w3 hS3 hb3 => ⟨_, rfl, ?_⟩, trivial⟩
  clear h_ a_ hS
  clear hb3
  refine ⟨fun a_ h_ => st_alloc (cells := #[i6 0, i6 0, i6 0, i6 0]) hS3 (on_none rfl) rfl (by kernel_rfl) fun g4 w4 hS4 hb4 => ⟨_, rfl, ?_⟩, trivial⟩
  clear h_ a_ hS3
  clear hb4
  intro a2 hput
  have s1 : sl a2 1 = pt g3 0 := hput.new 0 1 rfl
  have s2 : sl a2 2 = pt g4 0 := hput.new 1 2 rfl
  replace hz := hput.size.trans hz
  replace hd := hput.defers.trans hd
  clear hput s0
  change Code.wp _ _ _ _ _
  refine wp_seq ?_
  refine seq_l [9] hz ?_
  refine ⟨pt g3 0, fun _ h_ => rk (fa 0 rfl (h_.b 1 s1)),
   i6 i.self, fun _ h_ => rk (ld hS4 1 rfl (h_.d 0 3)),
   pt g3 1, fun _ h_ => rk (fa 1 rfl (h_.b 1 s1)),
   i6 i.prio, fun _ h_ => rk (ld hS4 1 rfl (h_.d 2 5)),
   pt g3 3, fun _ h_ => rk (fa 3 rfl (h_.b 1 s1)),
   i6 i.dr, fun _ h_ => rk (ld hS4 1 rfl (h_.d 4 7)),
   pt g3 4, fun _ h_ => rk (fa 4 rfl (h_.b 1 s1)),
   i6 i.bdr, fun _ h_ => rk (ld hS4 1 rfl (h_.d 6 9)),
   .agg #[i6 i.self, i6 i.prio, i6 i.dr, i6 i.bdr], fun _ h_ => rk (run_build (vals := #[(0, i6 i.self), (1, i6 i.prio), (2, i6 i.dr), (3, i6 i.bdr)]) (r := .agg #[i6 i.self, i6 i.prio, i6 i.dr, i6 i.bdr]) rfl (bp4 (h_.d 1 4) (h_.d 3 6) (h_.d 5 8) (h_.d 7 10)) (by kernel_rfl)), ?_⟩
  refine ⟨fun a_ h_ => st_store (n := 4) (cells := #[i6 i.self, i6 i.prio, i6 i.dr, i6 i.bdr]) (cs' := #[i6 i.self, i6 i.prio, i6 i.dr, i6 i.bdr]) 0 hS4 rfl (on_none rfl) rfl (h_.b 2 s2) (h_.d 8 11) rfl (by kernel_rfl) ⟨Nat.le_of_ble_eq_true rfl, rfl, by kernel_rfl⟩ rfl fun w6 hS6 he6 => ⟨_, rfl, ?_⟩, trivial⟩
  clear h_ a_ he6 hS4
  replace hS6 : S (kap W) ((blkA g4 227 #[i6 i.self, i6 i.prio, i6 i.dr, i6 i.bdr]) :: (blkA g3 170 #[i6 i.self, i6 i.prio, i6 i.state, i6 i.dr, i6 i.bdr]) :: []) ((memA W W.heap.size) :: []) w6 := hS6
  intro a5 hput
  replace s2 := hput.o 2 s2
  replace hz := hput.size.trans hz
  replace hd := hput.defers.trans hd
  clear hput s1
  change Code.wp _ _ _ _ _
  refine wp_ret ?_
  refine retC (P := Try.prog) (fn := Try.f140) hd s2 (hS6.blk (i := 0) rfl) (hR_ _ _ ?_) Try.underlying227
  exact ⟨rfl, (hS6.old (by simp))⟩
set_option maxRecDepth 100000 in
set_option maxHeartbeats 800000 in
theorem begin_any {L I : List Atom} (i : IfV) (g : Nat) (W0 W : World) (hS : S (kap W0) ((blkA g 170 #[i6 i.self, i6 i.prio, i6 i.state, i6 i.dr, i6 i.bdr]) :: L) ((memA W0 W0.heap.size) :: I) W) :
    Calls Try.prog 142 #[pt g 0] W (fun r w' => r = .returned (.tuple #[]) ∧ S (kap W0) ((blkA g 170 #[i6 ((beginF i).self), i6 ((beginF i).prio), i6 ((beginF i).state), i6 ((beginF i).dr), i6 ((beginF i).bdr)]) :: L) ((memA W0 W0.heap.size) :: I) w') := by
  refine calls_walk Try.func142 rfl fun R_ hR_ a hz hd hargs => ?_
  replace hz : a.tmps.size = 8 := hz.trans (by kernel_rfl)
  have s0 := hargs 0 _ rfl
  clear hargs
  refine wp_seq ?_
  refine seq_l [1, 3, 5] hz ?_
  refine ⟨pt g 3, fun _ h_ => rk (fa 3 rfl (h_.b 0 s0)), ?_⟩
  refine ⟨fun a_ h_ => st_store (n := 1) (cells := #[i6 0]) (cs' := #[i6 i.self, i6 i.prio, i6 i.state, i6 0, i6 i.bdr]) 0 hS rfl (on_none rfl) rfl (h_.d 0 1) rfl rfl (by kernel_rfl) ⟨Nat.le_of_ble_eq_true rfl, rfl, by kernel_rfl⟩ rfl fun w3 hS3 he3 => ⟨_, rfl, ?_⟩, trivial⟩
  clear h_ a_ he3 hS
  replace hS3 : S (kap W0) ((blkA g 170 #[i6 i.self, i6 i.prio, i6 i.state, i6 0, i6 i.bdr]) :: L) ((memA W0 W0.heap.size) :: I) w3 := hS3
  refine ⟨pt g 4, fun _ h_ => rk (fa 4 rfl (h_.b 0 s0)), ?_⟩
  refine ⟨fun a_ h_ => st_store (n := 1) (cells := #[i6 0]) (cs' := #[i6 i.self, i6 i.prio, i6 i.state, i6 0, i6 0]) 0 hS3 rfl (on_none rfl) rfl (h_.d 2 2) rfl rfl (by kernel_rfl) ⟨Nat.le_of_ble_eq_true rfl, rfl, by kernel_rfl⟩ rfl fun w4 hS4 he4 => ⟨_, rfl, ?_⟩, trivial⟩
  clear h_ a_ he4 hS3
  replace hS4 : S (kap W0) ((blkA g 170 #[i6 i.self, i6 i.prio, i6 i.state, i6 0, i6 0]) :: L) ((memA W0 W0.heap.size) :: I) w4 := hS4
  refine ⟨pt g 2, fun _ h_ => rk (fa 2 rfl (h_.b 0 s0)), ?_⟩
  refine ⟨fun a_ h_ => st_store (n := 1) (cells := #[i6 1]) (cs' := #[i6 i.self, i6 i.prio, i6 1, i6 0, i6 0]) 0 hS4 rfl (on_none rfl) rfl (h_.d 4 3) rfl rfl (by kernel_rfl) ⟨Nat.le_of_ble_eq_true rfl, rfl, by kernel_rfl⟩ rfl fun w5 hS5 he5 => ⟨_, rfl, ?_⟩, trivial⟩
  clear h_ a_ he5 hS4
  replace hS5 : S (kap W0) ((blkA g 170 #[i6 i.self, i6 i.prio, i6 1, i6 0, i6 0]) :: L) ((memA W0 W0.heap.size) :: I) w5 := hS5
  intro a2 hput
  replace s0 := hput.o 0 s0
  replace hz := hput.size.trans hz
  replace hd := hput.defers.trans hd
  clear hput
  change Code.wp _ _ _ _ _
  refine wp_seq ?_
  refine seq_l [] hz ?_
  refine ⟨pt g 1, fun _ h_ => rk (fa 1 rfl (h_.b 0 s0)),
   i6 i.prio, fun _ h_ => rk (ld hS5 0 rfl (h_.d 0 4)),
   .bool (decide ((i.prio : Int) ≤ 0)), fun _ h_ => rk (run_cmp rfl (h_.d 1 5) rfl rfl (by first | rfl | exact neq_dec _ _ | exact eq_dec _ _ | simp)), ?_⟩
  intro a6 hput
  replace s0 := hput.o 0 s0
  have s6 : sl a6 6 = .bool (decide ((i.prio : Int) ≤ 0)) := hput.new 2 6 rfl
  replace hz := hput.size.trans hz
  replace hd := hput.defers.trans hd
  clear hput
  change Code.wp _ _ _ _ _
  refine wp_cond_d s6 (fun hc6 => ?_) (fun hc6 => ?_)
  · clear s6
    refine seq_l [1] hz ?_
    refine ⟨pt g 2, fun _ h_ => rk (fa 2 rfl (h_.b 0 s0)), ?_⟩
    refine ⟨fun a_ h_ => st_store (n := 1) (cells := #[i6 2]) (cs' := #[i6 i.self, i6 i.prio, i6 2, i6 0, i6 0]) 0 hS5 rfl (on_none rfl) rfl (h_.d 0 7) rfl rfl (by kernel_rfl) ⟨Nat.le_of_ble_eq_true rfl, rfl, by kernel_rfl⟩ rfl fun w8 hS8 he8 => ⟨_, rfl, ?_⟩, trivial⟩
    clear h_ a_ he8 hS5
    replace hS8 : S (kap W0) ((blkA g 170 #[i6 i.self, i6 i.prio, i6 2, i6 0, i6 0]) :: L) ((memA W0 W0.heap.size) :: I) w8 := hS8
    intro a7 hput
    replace hz := hput.size.trans hz
    replace hd := hput.defers.trans hd
    clear hput s0
    show bodyPost _ _ _ .ret _ _
    refine ret0 (P := Try.prog) (fn := Try.f142) hd (hR_ _ _ ?_)
    refine ⟨rfl, ?_⟩
    simp only [beginF]
    first | (rw [if_pos hc6]; exact hS8) | (rw [if_neg hc6]; exact hS8)
  · clear s6
    refine wp_skip ?_
    show bodyPost _ _ _ .ret _ _
    refine ret0 (P := Try.prog) (fn := Try.f142) hd (hR_ _ _ ?_)
    refine ⟨rfl, ?_⟩
    simp only [beginF]
    first | (rw [if_pos hc6]; exact hS5) | (rw [if_neg hc6]; exact hS5)
set_option maxRecDepth 100000 in
set_option maxHeartbeats 800000 in
theorem vote_any {L I : List Atom} (i : IfV) (g h n c : Nat) (A : Option Addr) (l : List CdV) (W0 W : World) (hn : n ≤ 90000) (hR : Reads W0 W0.heap.size 4 A n (rowC CdV.cells l)) (hS : S (kap W0) ((blkA g 170 #[i6 i.self, i6 i.prio, i6 i.state, i6 i.dr, i6 i.bdr]) :: (blkA h 225 #[.slice A n c]) :: L) ((memA W0 W0.heap.size) :: I) W) :
    Calls Try.prog 139 #[pt g 0, pt h 0] W (fun r w' => r = .returned (.tuple #[]) ∧ S (kap W0) ((blkA g 170 #[i6 ((voteF i l).self), i6 ((voteF i l).prio), i6 ((voteF i l).state), i6 ((voteF i l).dr), i6 ((voteF i l).bdr)]) :: (blkA h 225 #[.slice A n c]) :: L) ((memA W0 W0.heap.size) :: I) w') := by
  refine calls_walk Try.func139 rfl fun R_ hR_ a hz hd hargs => ?_
  replace hz : a.tmps.size = 30 := hz.trans (by kernel_rfl)
  have s0 := hargs 0 _ rfl
  have s1 := hargs 1 _ rfl
  clear hargs
  refine wp_seq ?_
  refine seq_r [[], [0], [0, 1], [], [0, 1, 2, 3], [0, 1, 2, 3, 4]] [1, 2, 4] (.rd 0 (.rd 3 (.ef 1 (.ag 3 (.ef 2 (.ag 3 (.ef 4 (.rd 5 (.fin)) .non)) .non)) .non))) hz fun w2 hb2 => ?_
  replace hS := hS.below hb2
  refine ⟨.agg #[i6 i.self, i6 i.prio, i6 i.state, i6 i.dr, i6 i.bdr], fun _ h_ => rk (lbS 5 (hS.blk (i := 0) rfl) rfl (h_.b 0 s0)),
   .slice A n c, fun _ h_ => rk (ld hS 1 rfl (h_.b 1 s1)), ?_⟩
  refine ⟨fun a_ h_ => st_call (on_none rfl) (run_call rfl (map1 (h_.d 0 3)) rfl) (own_any i _) ?_, trivial⟩
  rintro e w3 ⟨rfl, hb3⟩
  refine ⟨_, rfl, _, rfl, ?_⟩
  clear h_ a_
  have hS3 := hS.below hb3
  clear hS hb3
  refine ⟨fun _ h_ => rk (ld hS3 1 rfl (h_.b 1 s1)), ?_⟩
  refine ⟨fun a_ h_ => st_lit (e := 227) (vals := [(0, .agg #[i6 i.self, i6 i.prio, i6 i.dr, i6 i.bdr])]) (cells := #[i6 i.self, i6 i.prio, i6 i.dr, i6 i.bdr]) hS3 (on_none rfl) rfl (parts1 (h_.d 1 4)) fun g4 w4 hS4 hb4 => ⟨_, rfl, ?_⟩, trivial⟩
  clear h_ a_ hS3
  clear hb4
  have hSr : S (kap W0) ((rowA (.slice (some ⟨g4, 0, none⟩) 1 1) 227 4 1 (CdV.cells i.cand)) :: (blkA g 170 #[i6 i.self, i6 i.prio, i6 i.state, i6 i.dr, i6 i.bdr]) :: (blkA h 225 #[.slice A n c]) :: L) ((memA W0 W0.heap.size) :: I) w4 := hS4.litRow rfl (by decide)
  clear hS4
  have hS4 := hSr
  clear hSr
  refine ⟨fun _ h_ => rk (ld hS4 2 rfl (h_.b 1 s1)), ?_⟩
  refine ⟨fun a_ h_ => sap (bytes := 32) (news := rowC CdV.cells l) hS4 0 (on_none rfl) rfl (h_.d 2 5) (h_.d 3 6) (hR.old (hS4.old (by simp))) (by exact cloneCd_one l) (by (try unfold maxLen); omega) (by (try unfold maxLen); omega) fun A5 c5 w5 hS5 => ⟨_, rfl, ?_⟩, trivial⟩
  clear h_ a_ hS4
  replace hS5 : S (kap W0) ((rowA (.slice A5 (1 + n) c5) 227 4 (1 + n) (CdV.cells i.cand ++ rowC CdV.cells l)) :: (blkA g 170 #[i6 i.self, i6 i.prio, i6 i.state, i6 i.dr, i6 i.bdr]) :: (blkA h 225 #[.slice A n c]) :: L) ((memA W0 W0.heap.size) :: I) w5 := hS5
  replace hS5 : S (kap W0) ((rowA (.slice A5 (1 + n) c5) 227 4 (1 + n) (rowC CdV.cells (i.cand :: l))) :: (blkA g 170 #[i6 i.self, i6 i.prio, i6 i.state, i6 i.dr, i6 i.bdr]) :: (blkA h 225 #[.slice A n c]) :: L) ((memA W0 W0.heap.size) :: I) w5 := hS5
  refine ⟨.slice A5 (1 + n) c5, fun _ h_ => ras (h_.d 4 7), ?_⟩
  intro a2 hput
  replace s0 := hput.o 0 s0
  have s2 : sl a2 2 = .slice A5 (1 + n) c5 := hput.new 5 2 rfl
  replace hz := hput.size.trans hz
  replace hd := hput.defers.trans hd
  clear hput s1
  change Code.wp _ _ _ _ _
  refine wp_seq ?_
  refine seq_l [3, 8, 10] hz ?_
  refine ⟨pt g 0, fun _ h_ => rk (fa 0 rfl (h_.b 0 s0)),
   i6 i.self, fun _ h_ => rk (ld hS5 1 rfl (h_.d 0 9)),
   .slice A5 (1 + n) c5, fun _ h_ => rmv (h_.b 2 s2), ?_⟩
  refine ⟨fun a_ h_ => st_call (on_none rfl) (run_call rfl (map2 (h_.d 1 10) (h_.d 2 11)) rfl) (elect_any i.self _ _ _ (i.cand :: l) _ (by omega) (hS5.rd (i := 0) rfl)) ?_, trivial⟩
  rintro e w7 ⟨rfl, hb7⟩
  refine ⟨_, rfl, _, rfl, ?_⟩
  clear h_ a_
  have hS7 := hS5.below hb7
  clear hS5 hb7
  refine ⟨.tuple #[i6 ((electF i.self (i.cand :: l)).1), i6 ((electF i.self (i.cand :: l)).2)], fun _ h_ => rmv (h_.d 3 12),
   i6 ((electF i.self (i.cand :: l)).1), fun _ h_ => rk (run_extract rfl (h_.d 4 8) rfl),
   i6 ((electF i.self (i.cand :: l)).2), fun _ h_ => rk (run_extract rfl (h_.d 4 8) rfl),
   pt g 3, fun _ h_ => rk (fa 3 rfl (h_.b 0 s0)), ?_⟩
  refine ⟨fun a_ h_ => st_store (n := 1) (cells := #[i6 ((electF i.self (i.cand :: l)).1)]) (cs' := #[i6 i.self, i6 i.prio, i6 i.state, i6 ((electF i.self (i.cand :: l)).1), i6 i.bdr]) 1 hS7 rfl (on_none rfl) rfl (h_.d 7 15) (h_.d 5 13) rfl (by kernel_rfl) ⟨Nat.le_of_ble_eq_true rfl, rfl, by kernel_rfl⟩ rfl fun w8 hS8 he8 => ⟨_, rfl, ?_⟩, trivial⟩
  clear h_ a_ he8 hS7
  replace hS8 : S (kap W0) ((rowA (.slice A5 (1 + n) c5) 227 4 (1 + n) (rowC CdV.cells (i.cand :: l))) :: (blkA g 170 #[i6 i.self, i6 i.prio, i6 i.state, i6 ((electF i.self (i.cand :: l)).1), i6 i.bdr]) :: (blkA h 225 #[.slice A n c]) :: L) ((memA W0 W0.heap.size) :: I) w8 := hS8
  refine ⟨pt g 4, fun _ h_ => rk (fa 4 rfl (h_.b 0 s0)), ?_⟩
  refine ⟨fun a_ h_ => st_store (n := 1) (cells := #[i6 ((electF i.self (i.cand :: l)).2)]) (cs' := #[i6 i.self, i6 i.prio, i6 i.state, i6 ((electF i.self (i.cand :: l)).1), i6 ((electF i.self (i.cand :: l)).2)]) 1 hS8 rfl (on_none rfl) rfl (h_.d 9 16) (h_.d 6 14) rfl (by kernel_rfl) ⟨Nat.le_of_ble_eq_true rfl, rfl, by kernel_rfl⟩ rfl fun w9 hS9 he9 => ⟨_, rfl, ?_⟩, trivial⟩
  clear h_ a_ he9 hS8
  replace hS9 : S (kap W0) ((rowA (.slice A5 (1 + n) c5) 227 4 (1 + n) (rowC CdV.cells (i.cand :: l))) :: (blkA g 170 #[i6 i.self, i6 i.prio, i6 i.state, i6 ((electF i.self (i.cand :: l)).1), i6 ((electF i.self (i.cand :: l)).2)]) :: (blkA h 225 #[.slice A n c]) :: L) ((memA W0 W0.heap.size) :: I) w9 := hS9
  intro a6 hput
  replace s0 := hput.o 0 s0
  replace hz := hput.size.trans hz
  replace hd := hput.defers.trans hd
  clear hput s2
  change Code.wp _ _ _ _ _
  refine wp_seq ?_
  refine seq_l [] hz ?_
  refine ⟨pt g 0, fun _ h_ => rk (fa 0 rfl (h_.b 0 s0)),
   i6 i.self, fun _ h_ => rk (ld hS9 1 rfl (h_.d 0 17)), ?_⟩
  intro a10 hput
  replace s0 := hput.o 0 s0
  have s18 : sl a10 18 = i6 i.self := hput.new 1 18 rfl
  replace hz := hput.size.trans hz
  replace hd := hput.defers.trans hd
  clear hput
  change Code.wp _ _ _ _ _
  refine wp_block ?_
  refine wp_seq ?_
  refine seq_l [] hz ?_
  refine ⟨pt g 3, fun _ h_ => rk (fa 3 rfl (h_.b 0 s0)),
   i6 ((electF i.self (i.cand :: l)).1), fun _ h_ => rk (ld hS9 1 rfl (h_.d 0 21)),
   .bool (decide ((i.self : Int) = (electF i.self (i.cand :: l)).1)), fun _ h_ => rk (run_cmp rfl (h_.b 18 s18) (h_.d 1 22) rfl (by first | rfl | exact neq_dec _ _ | exact eq_dec _ _ | simp)),
   .bool (decide ((i.self : Int) = (electF i.self (i.cand :: l)).1)), fun _ h_ => ras (h_.d 2 23), ?_⟩
  intro a11 hput
  replace s0 := hput.o 0 s0
  replace s18 := hput.o 18 s18
  have s20 : sl a11 20 = .bool (decide ((i.self : Int) = (electF i.self (i.cand :: l)).1)) := hput.new 3 20 rfl
  replace hz := hput.size.trans hz
  replace hd := hput.defers.trans hd
  clear hput
  change Code.wp _ _ _ _ _
  refine wp_cond_d s20 (fun hc20 => ?_) (fun hc20 => ?_)
  · clear s20
    refine seq_l [1] hz ?_
    refine ⟨pt g 2, fun _ h_ => rk (fa 2 rfl (h_.b 0 s0)), ?_⟩
    refine ⟨fun a_ h_ => st_store (n := 1) (cells := #[i6 4]) (cs' := #[i6 i.self, i6 i.prio, i6 4, i6 ((electF i.self (i.cand :: l)).1), i6 ((electF i.self (i.cand :: l)).2)]) 1 hS9 rfl (on_none rfl) rfl (h_.d 0 24) rfl rfl (by kernel_rfl) ⟨Nat.le_of_ble_eq_true rfl, rfl, by kernel_rfl⟩ rfl fun w13 hS13 he13 => ⟨_, rfl, ?_⟩, trivial⟩
    clear h_ a_ he13 hS9
    replace hS13 : S (kap W0) ((rowA (.slice A5 (1 + n) c5) 227 4 (1 + n) (rowC CdV.cells (i.cand :: l))) :: (blkA g 170 #[i6 i.self, i6 i.prio, i6 4, i6 ((electF i.self (i.cand :: l)).1), i6 ((electF i.self (i.cand :: l)).2)]) :: (blkA h 225 #[.slice A n c]) :: L) ((memA W0 W0.heap.size) :: I) w13 := hS13
    intro a12 hput
    replace hz := hput.size.trans hz
    replace hd := hput.defers.trans hd
    clear hput s0 s18
    show bodyPost _ _ _ .ret _ _
    refine ret0 (P := Try.prog) (fn := Try.f139) hd (hR_ _ _ ?_)
    replace hS13 := hS13.drop
    refine ⟨rfl, ?_⟩
    simp only [voteF]
    first | (rw [if_pos hc20]; exact hS13) | (rw [if_neg hc20, if_pos hc25]; exact hS13) | (rw [if_neg hc20, if_neg hc25]; exact hS13)
  · clear s20
    refine wp_seq ?_
    refine seq_l [] hz ?_
    refine ⟨pt g 4, fun _ h_ => rk (fa 4 rfl (h_.b 0 s0)),
     i6 ((electF i.self (i.cand :: l)).2), fun _ h_ => rk (ld hS9 1 rfl (h_.d 0 26)),
     .bool (decide ((i.self : Int) = (electF i.self (i.cand :: l)).2)), fun _ h_ => rk (run_cmp rfl (h_.b 18 s18) (h_.d 1 27) rfl (by first | rfl | exact neq_dec _ _ | exact eq_dec _ _ | simp)),
     .bool (decide ((i.self : Int) = (electF i.self (i.cand :: l)).2)), fun _ h_ => ras (h_.d 2 28), ?_⟩
    intro a14 hput
    replace s0 := hput.o 0 s0
    have s25 : sl a14 25 = .bool (decide ((i.self : Int) = (electF i.self (i.cand :: l)).2)) := hput.new 3 25 rfl
    replace hz := hput.size.trans hz
    replace hd := hput.defers.trans hd
    clear hput s18
    change Code.wp _ _ _ _ _
    refine wp_cond_d s25 (fun hc25 => ?_) (fun hc25 => ?_)
    · clear s25
      refine seq_l [1] hz ?_
      refine ⟨pt g 2, fun _ h_ => rk (fa 2 rfl (h_.b 0 s0)), ?_⟩
      refine ⟨fun a_ h_ => st_store (n := 1) (cells := #[i6 3]) (cs' := #[i6 i.self, i6 i.prio, i6 3, i6 ((electF i.self (i.cand :: l)).1), i6 ((electF i.self (i.cand :: l)).2)]) 1 hS9 rfl (on_none rfl) rfl (h_.d 0 29) rfl rfl (by kernel_rfl) ⟨Nat.le_of_ble_eq_true rfl, rfl, by kernel_rfl⟩ rfl fun w16 hS16 he16 => ⟨_, rfl, ?_⟩, trivial⟩
      clear h_ a_ he16 hS9
      replace hS16 : S (kap W0) ((rowA (.slice A5 (1 + n) c5) 227 4 (1 + n) (rowC CdV.cells (i.cand :: l))) :: (blkA g 170 #[i6 i.self, i6 i.prio, i6 3, i6 ((electF i.self (i.cand :: l)).1), i6 ((electF i.self (i.cand :: l)).2)]) :: (blkA h 225 #[.slice A n c]) :: L) ((memA W0 W0.heap.size) :: I) w16 := hS16
      intro a15 hput
      replace hz := hput.size.trans hz
      replace hd := hput.defers.trans hd
      clear hput s0
      show bodyPost _ _ _ .ret _ _
      refine ret0 (P := Try.prog) (fn := Try.f139) hd (hR_ _ _ ?_)
      replace hS16 := hS16.drop
      refine ⟨rfl, ?_⟩
      simp only [voteF]
      first | (rw [if_pos hc20]; exact hS16) | (rw [if_neg hc20, if_pos hc25]; exact hS16) | (rw [if_neg hc20, if_neg hc25]; exact hS16)
    · clear s25
      refine seq_l [1] hz ?_
      refine ⟨pt g 2, fun _ h_ => rk (fa 2 rfl (h_.b 0 s0)), ?_⟩
      refine ⟨fun a_ h_ => st_store (n := 1) (cells := #[i6 2]) (cs' := #[i6 i.self, i6 i.prio, i6 2, i6 ((electF i.self (i.cand :: l)).1), i6 ((electF i.self (i.cand :: l)).2)]) 1 hS9 rfl (on_none rfl) rfl (h_.d 0 19) rfl rfl (by kernel_rfl) ⟨Nat.le_of_ble_eq_true rfl, rfl, by kernel_rfl⟩ rfl fun w18 hS18 he18 => ⟨_, rfl, ?_⟩, trivial⟩
      clear h_ a_ he18 hS9
      replace hS18 : S (kap W0) ((rowA (.slice A5 (1 + n) c5) 227 4 (1 + n) (rowC CdV.cells (i.cand :: l))) :: (blkA g 170 #[i6 i.self, i6 i.prio, i6 2, i6 ((electF i.self (i.cand :: l)).1), i6 ((electF i.self (i.cand :: l)).2)]) :: (blkA h 225 #[.slice A n c]) :: L) ((memA W0 W0.heap.size) :: I) w18 := hS18
      intro a17 hput
      replace hz := hput.size.trans hz
      replace hd := hput.defers.trans hd
      clear hput s0
      show bodyPost _ _ _ .ret _ _
      refine ret0 (P := Try.prog) (fn := Try.f139) hd (hR_ _ _ ?_)
      replace hS18 := hS18.drop
      refine ⟨rfl, ?_⟩
      simp only [voteF]
      first | (rw [if_pos hc20]; exact hS18) | (rw [if_neg hc20, if_pos hc25]; exact hS18) | (rw [if_neg hc20, if_neg hc25]; exact hS18)
set_option maxRecDepth 20000 in
theorem mo_eq (x y : Int × Int) (w : World) : (Op.equal 231 (moE x) (moE y)).run Try.prog w = .ok (decide (x = y)) w := by
  obtain ⟨a1, a2⟩ := x
  obtain ⟨b1, b2⟩ := y
  dsimp only [moE]
  unfold Op.equal Op.maxDepth
  go_simp
  repeat' split
  all_goals simp_all
theorem mo_key : KeyK Try.prog 231 moE := KeyK.ofStruct Try.underlying231 mo_eq (fun e x w => by
  obtain ⟨a1, a2⟩ := x
  dsimp only [moE]
  kernel_rfl) (fun x => by
  obtain ⟨a1, a2⟩ := x
  simp [Instr.sameBits, moE])
set_option maxRecDepth 100000 in
set_option maxHeartbeats 800000 in
theorem step_down (i : IfV) (e : Int) (A : Option Addr) (n c : Nat) (l : List CdV) (W : World) (hn : n ≤ 90000) (hR : Reads W W.heap.size 4 A n (rowC CdV.cells l)) (he1 : e = 1) :
    Calls Try.prog 130 #[.agg #[i6 i.self, i6 i.prio, i6 i.state, i6 i.dr, i6 i.bdr], i6 e, .slice A n c] W (fun r w' => r = .returned (.tuple #[.agg ({ i with dr := 0, bdr := 0, state := 0 }).cells.toArray, .bool (decide ({ i with dr := 0, bdr := 0, state := 0 } ≠ i))]) ∧ Below W.heap.size W w') := by
  have hS := S.start W
  refine calls_walk Try.func130 rfl fun R_ hR_ a hz hd hargs => ?_
  replace hz : a.tmps.size = 52 := hz.trans (by kernel_rfl)
  have s0 := hargs 0 _ rfl
  have s1 := hargs 1 _ rfl
  have s2 := hargs 2 _ rfl
  clear hargs
  refine wp_seq ?_
  refine seq_l [0, 1, 2] hz ?_
  refine ⟨fun a_ h_ => st_box (cells := #[i6 i.self, i6 i.prio, i6 i.state, i6 i.dr, i6 i.bdr]) hS (on_none rfl) rfl (h_.b 0 s0) (by kernel_rfl) fun g3 w3 hS3 hb3 => ⟨_, rfl, ?_⟩, trivial⟩
  clear h_ a_ hS
  clear hb3
  refine ⟨fun a_ h_ => st_box (cells := #[.slice A n c]) hS3 (on_none rfl) rfl (h_.b 2 s2) (by kernel_rfl) fun g4 w4 hS4 hb4 => ⟨_, rfl, ?_⟩, trivial⟩
  clear h_ a_ hS3
  clear hb4
  refine ⟨fun a_ h_ => st_alloc (cells := #[i6 0, i6 0, i6 0, i6 0, i6 0]) hS4 (on_none rfl) rfl (by kernel_rfl) fun g5 w5 hS5 hb5 => ⟨_, rfl, ?_⟩, trivial⟩
  clear h_ a_ hS4
  clear hb5
  refine ⟨.bool false, fun _ h_ => rk (run_assign rfl rfl), ?_⟩
  intro a2 hput
  replace s1 := hput.o 1 s1
  have s3 : sl a2 3 = pt g3 0 := hput.new 0 3 rfl
  have s5 : sl a2 5 = pt g4 0 := hput.new 1 5 rfl
  have s6 : sl a2 6 = pt g5 0 := hput.new 2 6 rfl
  have s7 : sl a2 7 = .bool false := hput.new 3 7 rfl
  replace hz := hput.size.trans hz
  replace hd := hput.defers.trans hd
  clear hput s0 s2
  change Code.wp _ _ _ _ _
  refine wp_seq ?_
  refine seq_l [1, 2] hz ?_
  refine ⟨.agg #[i6 i.self, i6 i.prio, i6 i.state, i6 i.dr, i6 i.bdr], fun _ h_ => rk (lbS 5 (hS5.blk (i := 2) rfl) rfl (h_.b 3 s3)), ?_⟩
  refine ⟨fun a_ h_ => st_alloc (cells := #[i6 0, i6 0, i6 0, i6 0, i6 0]) hS5 (on_none rfl) rfl (by kernel_rfl) fun g7 w7 hS7 hb7 => ⟨_, rfl, ?_⟩, trivial⟩
  clear h_ a_ hS5
  clear hb7
  refine ⟨fun a_ h_ => st_store (n := 5) (cells := #[i6 i.self, i6 i.prio, i6 i.state, i6 i.dr, i6 i.bdr]) (cs' := #[i6 i.self, i6 i.prio, i6 i.state, i6 i.dr, i6 i.bdr]) 0 hS7 rfl (on_none rfl) rfl (h_.d 1 8) (h_.d 0 14) rfl (by kernel_rfl) ⟨Nat.le_of_ble_eq_true rfl, rfl, by kernel_rfl⟩ rfl fun w8 hS8 he8 => ⟨_, rfl, ?_⟩, trivial⟩
  clear h_ a_ he8 hS7
  replace hS8 : S (kap W) ((blkA g7 170 #[i6 i.self, i6 i.prio, i6 i.state, i6 i.dr, i6 i.bdr]) :: (blkA g5 170 #[i6 0, i6 0, i6 0, i6 0, i6 0]) :: (blkA g4 225 #[.slice A n c]) :: (blkA g3 170 #[i6 i.self, i6 i.prio, i6 i.state, i6 i.dr, i6 i.bdr]) :: []) ((memA W W.heap.size) :: []) w8 := hS8
  intro a6 hput
  replace s1 := hput.o 1 s1
  replace s3 := hput.o 3 s3
  replace s5 := hput.o 5 s5
  replace s6 := hput.o 6 s6
  replace s7 := hput.o 7 s7
  have s8 : sl a6 8 = pt g7 0 := hput.new 1 8 rfl
  replace hz := hput.size.trans hz
  replace hd := hput.defers.trans hd
  clear hput
  change Code.wp _ _ _ _ _
  refine wp_seq ?_
  refine seq_l [] hz ?_
  refine ⟨.func (.func 139) #[] #[pt g3 0, pt g4 0], fun _ h_ => rk (run_makeFunc rfl (by simp) (map2 (h_.b 3 s3) (h_.b 5 s5))),
   .func (.func 139) #[] #[pt g3 0, pt g4 0], fun _ h_ => ras (h_.d 0 15), ?_⟩
  intro a9 hput
  replace s1 := hput.o 1 s1
  replace s3 := hput.o 3 s3
  replace s6 := hput.o 6 s6
  replace s7 := hput.o 7 s7
  replace s8 := hput.o 8 s8
  have s9 : sl a9 9 = .func (.func 139) #[] #[pt g3 0, pt g4 0] := hput.new 1 9 rfl
  replace hz := hput.size.trans hz
  replace hd := hput.defers.trans hd
  clear hput s5
  change Code.wp _ _ _ _ _
  refine wp_seq ?_
  refine seq_l [] hz ?_
  refine ⟨.func (.func 142) #[] #[pt g3 0], fun _ h_ => rk (run_makeFunc rfl (by simp) (map1 (h_.b 3 s3))),
   .func (.func 142) #[] #[pt g3 0], fun _ h_ => ras (h_.d 0 16), ?_⟩
  intro a10 hput
  replace s1 := hput.o 1 s1
  replace s3 := hput.o 3 s3
  replace s6 := hput.o 6 s6
  replace s7 := hput.o 7 s7
  replace s8 := hput.o 8 s8
  replace s9 := hput.o 9 s9
  have s10 : sl a10 10 = .func (.func 142) #[] #[pt g3 0] := hput.new 1 10 rfl
  replace hz := hput.size.trans hz
  replace hd := hput.defers.trans hd
  clear hput
  change Code.wp _ _ _ _ _
  refine wp_seq ?_
  refine region_litT (E := 1) (fun g_ i_ => match i_ with | 0 => .map (some g_) | 1 => moE (0, 0) | 2 => .func (.func 142) #[] #[pt g3 0] | 4 => moE (1, 2) | 5 => .func (.func 139) #[] #[pt g3 0, pt g4 0] | 7 => moE (1, 3) | 8 => .func (.func 139) #[] #[pt g3 0, pt g4 0] | 10 => moE (2, 4) | 11 => .func (.func 139) #[] #[pt g3 0, pt g4 0] | 13 => moE (3, 4) | 14 => .func (.func 139) #[] #[pt g3 0, pt g4 0] | 16 => moE (4, 4) | 17 => .func (.func 139) #[] #[pt g3 0, pt g4 0] | 19 => .map (some g_) | 20 => .map (some g_) | _ => undef) ([(3, (0, 0), .func (.func 142) #[] #[pt g3 0]), (6, (1, 2), .func (.func 139) #[] #[pt g3 0, pt g4 0]), (9, (1, 3), .func (.func 139) #[] #[pt g3 0, pt g4 0]), (12, (2, 4), .func (.func 139) #[] #[pt g3 0, pt g4 0]), (15, (3, 4), .func (.func 139) #[] #[pt g3 0, pt g4 0]), (18, (4, 4), .func (.func 139) #[] #[pt g3 0, pt g4 0])] : List (Nat × (Int × Int) × Value)) hz mo_key (ev := fun v => v) hS8 (by decide) (fun o ho => by cases ho; exact ⟨rfl, rfl⟩) (fun _ => rfl) (by simp) (by simp) ?_ ?_ ?_
  · intro q hq
    simp only [List.mem_cons, List.not_mem_nil, or_false] at hq
    rcases hq with rfl | rfl | rfl | rfl | rfl | rfl
    · exact ⟨_, rfl, rfl, rfl, by kernel_rfl, fun _ => rfl, _, _, _, rfl, fun g_ a_ hb_ hd_ => ⟨hd_ 0 17 (by kernel_rfl) rfl, hd_ 1 18 (by kernel_rfl) rfl, hd_ 2 19 (by kernel_rfl) rfl⟩⟩
    · exact ⟨_, rfl, rfl, rfl, by kernel_rfl, fun _ => rfl, _, _, _, rfl, fun g_ a_ hb_ hd_ => ⟨hd_ 0 17 (by kernel_rfl) rfl, hd_ 4 20 (by kernel_rfl) rfl, hd_ 5 21 (by kernel_rfl) rfl⟩⟩
    · exact ⟨_, rfl, rfl, rfl, by kernel_rfl, fun _ => rfl, _, _, _, rfl, fun g_ a_ hb_ hd_ => ⟨hd_ 0 17 (by kernel_rfl) rfl, hd_ 7 22 (by kernel_rfl) rfl, hd_ 8 23 (by kernel_rfl) rfl⟩⟩
    · exact ⟨_, rfl, rfl, rfl, by kernel_rfl, fun _ => rfl, _, _, _, rfl, fun g_ a_ hb_ hd_ => ⟨hd_ 0 17 (by kernel_rfl) rfl, hd_ 10 24 (by kernel_rfl) rfl, hd_ 11 25 (by kernel_rfl) rfl⟩⟩
    · exact ⟨_, rfl, rfl, rfl, by kernel_rfl, fun _ => rfl, _, _, _, rfl, fun g_ a_ hb_ hd_ => ⟨hd_ 0 17 (by kernel_rfl) rfl, hd_ 13 26 (by kernel_rfl) rfl, hd_ 14 27 (by kernel_rfl) rfl⟩⟩
    · exact ⟨_, rfl, rfl, rfl, by kernel_rfl, fun _ => rfl, _, _, _, rfl, fun g_ a_ hb_ hd_ => ⟨hd_ 0 17 (by kernel_rfl) rfl, hd_ 16 28 (by kernel_rfl) rfl, hd_ 17 29 (by kernel_rfl) rfl⟩⟩
  · intro i o ho hi0 hni
    rcases i with _ | _ | _ | _ | _ | _ | _ | _ | _ | _ | _ | _ | _ | _ | _ | _ | _ | _ | _ | _ | _ | i
    · exact absurd rfl hi0
    · cases ho; exact ⟨rfl, fun g_ a_ hb_ hd_ w_ => run_build (vals := #[(0, i6 0), (1, i6 0)]) rfl (bp2 rfl rfl) (by kernel_rfl)⟩
    · cases ho; exact ⟨rfl, fun g_ a_ hb_ hd_ w_ => run_move rfl ((hb_ 10 (by kernel_rfl)).trans s10)⟩
    · exact absurd (by simp) hni
    · cases ho; exact ⟨rfl, fun g_ a_ hb_ hd_ w_ => run_build (vals := #[(0, i6 1), (1, i6 2)]) rfl (bp2 rfl rfl) (by kernel_rfl)⟩
    · cases ho; exact ⟨rfl, fun g_ a_ hb_ hd_ w_ => run_move rfl ((hb_ 9 (by kernel_rfl)).trans s9)⟩
    · exact absurd (by simp) hni
    · cases ho; exact ⟨rfl, fun g_ a_ hb_ hd_ w_ => run_build (vals := #[(0, i6 1), (1, i6 3)]) rfl (bp2 rfl rfl) (by kernel_rfl)⟩
    · cases ho; exact ⟨rfl, fun g_ a_ hb_ hd_ w_ => run_move rfl ((hb_ 9 (by kernel_rfl)).trans s9)⟩
    · exact absurd (by simp) hni
    · cases ho; exact ⟨rfl, fun g_ a_ hb_ hd_ w_ => run_build (vals := #[(0, i6 2), (1, i6 4)]) rfl (bp2 rfl rfl) (by kernel_rfl)⟩
    · cases ho; exact ⟨rfl, fun g_ a_ hb_ hd_ w_ => run_move rfl ((hb_ 9 (by kernel_rfl)).trans s9)⟩
    · exact absurd (by simp) hni
    · cases ho; exact ⟨rfl, fun g_ a_ hb_ hd_ w_ => run_build (vals := #[(0, i6 3), (1, i6 4)]) rfl (bp2 rfl rfl) (by kernel_rfl)⟩
    · cases ho; exact ⟨rfl, fun g_ a_ hb_ hd_ w_ => run_move rfl ((hb_ 9 (by kernel_rfl)).trans s9)⟩
    · exact absurd (by simp) hni
    · cases ho; exact ⟨rfl, fun g_ a_ hb_ hd_ w_ => run_build (vals := #[(0, i6 4), (1, i6 4)]) rfl (bp2 rfl rfl) (by kernel_rfl)⟩
    · cases ho; exact ⟨rfl, fun g_ a_ hb_ hd_ w_ => run_move rfl ((hb_ 9 (by kernel_rfl)).trans s9)⟩
    · exact absurd (by simp) hni
    · cases ho; exact ⟨rfl, fun g_ a_ hb_ hd_ w_ => run_move rfl (hd_ 0 17 (by kernel_rfl) rfl)⟩
    · cases ho; exact ⟨rfl, fun g_ a_ hb_ hd_ w_ => run_assign rfl (hd_ 19 30 (by kernel_rfl) rfl)⟩
    · exact absurd (List.getElem?_eq_some_iff.1 ho).1 (by simp)
  intro g11 m11 w11 a11 hput hS11 hlk
  replace hlk : ∀ x, lookL x m11 = lookL x (movesL (.func (.func 142) #[] #[pt g3 0]) (.func (.func 139) #[] #[pt g3 0, pt g4 0])) := hlk
  clear hS8
  replace s1 := hput.old 1 rfl |>.trans s1
  replace s3 := hput.old 3 rfl |>.trans s3
  replace s6 := hput.old 6 rfl |>.trans s6
  replace s7 := hput.old 7 rfl |>.trans s7
  replace s8 := hput.old 8 rfl |>.trans s8
  have s11 : sl a11 11 = .map (some g11) := hput.new 20 11 rfl
  replace hz := hput.size.trans hz
  replace hd := hput.defers.trans hd
  clear hput s9 s10
  change Code.wp _ _ _ _ _
  refine wp_seq ?_
  refine wp_seq ?_
  refine seq_l [] hz ?_
  refine ⟨i6 e, fun _ h_ => rmv (h_.b 1 s1),
   .bool (decide ((e : Int) = 1)), fun _ h_ => rk (run_cmp rfl (h_.d 0 31) rfl rfl (by first | rfl | exact neq_dec _ _ | exact eq_dec _ _ | simp)), ?_⟩
  intro a12 hput
  replace s1 := hput.o 1 s1
  replace s3 := hput.o 3 s3
  replace s6 := hput.o 6 s6
  replace s7 := hput.o 7 s7
  replace s8 := hput.o 8 s8
  replace s11 := hput.o 11 s11
  have s32 : sl a12 32 = .bool (decide ((e : Int) = 1)) := hput.new 1 32 rfl
  replace hz := hput.size.trans hz
  replace hd := hput.defers.trans hd
  clear hput
  change Code.wp _ _ _ _ _
  refine wp_cond_d s32 (fun hc32 => ?_) (fun hc32 => ?_)
  · clear s32
    refine seq_l [1, 3, 5] hz ?_
    refine ⟨pt g3 3, fun _ h_ => rk (fa 3 rfl (h_.b 3 s3)), ?_⟩
    refine ⟨fun a_ h_ => st_store (n := 1) (cells := #[i6 0]) (cs' := #[i6 i.self, i6 i.prio, i6 i.state, i6 0, i6 i.bdr]) 4 hS11 rfl (on_none rfl) rfl (h_.d 0 33) rfl rfl (by kernel_rfl) ⟨Nat.le_of_ble_eq_true rfl, rfl, by kernel_rfl⟩ rfl fun w14 hS14 he14 => ⟨_, rfl, ?_⟩, trivial⟩
    clear h_ a_ he14 hS11
    replace hS14 : S (kap W) ((mapA moE (fun v => v) g11 m11) :: (blkA g7 170 #[i6 i.self, i6 i.prio, i6 i.state, i6 i.dr, i6 i.bdr]) :: (blkA g5 170 #[i6 0, i6 0, i6 0, i6 0, i6 0]) :: (blkA g4 225 #[.slice A n c]) :: (blkA g3 170 #[i6 i.self, i6 i.prio, i6 i.state, i6 0, i6 i.bdr]) :: []) ((memA W W.heap.size) :: []) w14 := hS14
    refine ⟨pt g3 4, fun _ h_ => rk (fa 4 rfl (h_.b 3 s3)), ?_⟩
    refine ⟨fun a_ h_ => st_store (n := 1) (cells := #[i6 0]) (cs' := #[i6 i.self, i6 i.prio, i6 i.state, i6 0, i6 0]) 4 hS14 rfl (on_none rfl) rfl (h_.d 2 34) rfl rfl (by kernel_rfl) ⟨Nat.le_of_ble_eq_true rfl, rfl, by kernel_rfl⟩ rfl fun w15 hS15 he15 => ⟨_, rfl, ?_⟩, trivial⟩
    clear h_ a_ he15 hS14
    replace hS15 : S (kap W) ((mapA moE (fun v => v) g11 m11) :: (blkA g7 170 #[i6 i.self, i6 i.prio, i6 i.state, i6 i.dr, i6 i.bdr]) :: (blkA g5 170 #[i6 0, i6 0, i6 0, i6 0, i6 0]) :: (blkA g4 225 #[.slice A n c]) :: (blkA g3 170 #[i6 i.self, i6 i.prio, i6 i.state, i6 0, i6 0]) :: []) ((memA W W.heap.size) :: []) w15 := hS15
    refine ⟨pt g3 2, fun _ h_ => rk (fa 2 rfl (h_.b 3 s3)), ?_⟩
    refine ⟨fun a_ h_ => st_store (n := 1) (cells := #[i6 0]) (cs' := #[i6 i.self, i6 i.prio, i6 0, i6 0, i6 0]) 4 hS15 rfl (on_none rfl) rfl (h_.d 4 35) rfl rfl (by kernel_rfl) ⟨Nat.le_of_ble_eq_true rfl, rfl, by kernel_rfl⟩ rfl fun w16 hS16 he16 => ⟨_, rfl, ?_⟩, trivial⟩
    clear h_ a_ he16 hS15
    replace hS16 : S (kap W) ((mapA moE (fun v => v) g11 m11) :: (blkA g7 170 #[i6 i.self, i6 i.prio, i6 i.state, i6 i.dr, i6 i.bdr]) :: (blkA g5 170 #[i6 0, i6 0, i6 0, i6 0, i6 0]) :: (blkA g4 225 #[.slice A n c]) :: (blkA g3 170 #[i6 i.self, i6 i.prio, i6 0, i6 0, i6 0]) :: []) ((memA W W.heap.size) :: []) w16 := hS16
    intro a13 hput
    replace s3 := hput.o 3 s3
    replace s6 := hput.o 6 s6
    replace s7 := hput.o 7 s7
    replace s8 := hput.o 8 s8
    replace hz := hput.size.trans hz
    replace hd := hput.defers.trans hd
    clear hput s1 s11
    change Code.wp _ _ _ _ _
    refine wp_seq ?_
    refine seq_r [[], [], [], [1, 2], [0], [0, 1, 2, 3, 4]] [4] (.rd 0 (.rd 1 (.rd 2 (.rd 3 (.ef 4 (.ag 1 (.ag 2 (.ag 3 (.rd 5 (.fin))))) .non))))) hz fun w17 hb17 => ?_
    replace hS16 := hS16.below hb17
    refine ⟨.agg #[i6 i.self, i6 i.prio, i6 0, i6 0, i6 0], fun _ h_ => rk (lbS 5 (hS16.blk (i := 4) rfl) rfl (h_.b 3 s3)),
     .agg #[i6 i.self, i6 i.prio, i6 0, i6 0, i6 0], fun _ h_ => rk (lbS 5 (hS16.blk (i := 4) rfl) rfl (h_.b 3 s3)),
     .agg #[i6 i.self, i6 i.prio, i6 i.state, i6 i.dr, i6 i.bdr], fun _ h_ => rk (lbS 5 (hS16.blk (i := 1) rfl) rfl (h_.b 8 s8)),
     .bool (decide ({ i with dr := 0, bdr := 0, state := 0 } ≠ i)), fun _ h_ => rk (run_bin2 rfl (h_.d 1 49) (h_.d 2 50) (fun _ => by kernel_rfl) (neq_if ({ i with dr := 0, bdr := 0, state := 0 }) i)), ?_⟩
    refine ⟨fun a_ h_ => st_store (n := 5) (cells := #[i6 i.self, i6 i.prio, i6 0, i6 0, i6 0]) (cs' := #[i6 i.self, i6 i.prio, i6 0, i6 0, i6 0]) 2 hS16 rfl (on_none rfl) rfl (h_.b 6 s6) (h_.d 0 48) rfl (by kernel_rfl) ⟨Nat.le_of_ble_eq_true rfl, rfl, by kernel_rfl⟩ rfl fun w18 hS18 he18 => ⟨_, rfl, ?_⟩, trivial⟩
    clear h_ a_ he18 hS16
    replace hS18 : S (kap W) ((mapA moE (fun v => v) g11 m11) :: (blkA g7 170 #[i6 i.self, i6 i.prio, i6 i.state, i6 i.dr, i6 i.bdr]) :: (blkA g5 170 #[i6 i.self, i6 i.prio, i6 0, i6 0, i6 0]) :: (blkA g4 225 #[.slice A n c]) :: (blkA g3 170 #[i6 i.self, i6 i.prio, i6 0, i6 0, i6 0]) :: []) ((memA W W.heap.size) :: []) w18 := hS18
    refine ⟨fun _ h_ => rk (lbS 5 (hS18.blk (i := 4) rfl) rfl (h_.b 3 s3)),
     fun _ h_ => rk (lbS 5 (hS18.blk (i := 1) rfl) rfl (h_.b 8 s8)),
     fun _ h_ => rk (run_bin2 rfl (h_.d 1 49) (h_.d 2 50) (fun _ => by kernel_rfl) (neq_if ({ i with dr := 0, bdr := 0, state := 0 }) i)),
     .bool (decide ({ i with dr := 0, bdr := 0, state := 0 } ≠ i)), fun _ h_ => ras (h_.d 3 51), ?_⟩
    intro a17 hput
    replace s6 := hput.o 6 s6
    replace s7 : sl a17 7 = .bool (decide ({ i with dr := 0, bdr := 0, state := 0 } ≠ i)) := hput.new 5 7 rfl
    replace hz := hput.size.trans hz
    replace hd := hput.defers.trans hd
    clear hput s3 s8
    change Code.wp _ _ _ _ _
    refine wp_ret ?_
    refine retCT (P := Try.prog) (fn := Try.f130) hd s6 s7 (hS18.blk (i := 2) rfl) (hR_ _ _ ?_) Try.underlying170
    exact ⟨rfl, (hS18.old (by simp))⟩
  · clear s32
    exact absurd he1 hc32
set_option maxRecDepth 100000 in
set_option maxHeartbeats 800000 in
theorem step_begin (i : IfV) (e : Int) (A : Option Addr) (n c : Nat) (l : List CdV) (W : World) (hn : n ≤ 90000) (hR : Reads W W.heap.size 4 A n (rowC CdV.cells l)) (he1 : ¬ e = 1) (hw : whichF i.state e = 1) :
    Calls Try.prog 130 #[.agg #[i6 i.self, i6 i.prio, i6 i.state, i6 i.dr, i6 i.bdr], i6 e, .slice A n c] W (fun r w' => r = .returned (.tuple #[.agg (beginF i).cells.toArray, .bool (decide (beginF i ≠ i))]) ∧ Below W.heap.size W w') := by
  have hS := S.start W
  refine calls_walk Try.func130 rfl fun R_ hR_ a hz hd hargs => ?_
  replace hz : a.tmps.size = 52 := hz.trans (by kernel_rfl)
  have s0 := hargs 0 _ rfl
  have s1 := hargs 1 _ rfl
  have s2 := hargs 2 _ rfl
  clear hargs
  refine wp_seq ?_
  refine seq_l [0, 1, 2] hz ?_
  refine ⟨fun a_ h_ => st_box (cells := #[i6 i.self, i6 i.prio, i6 i.state, i6 i.dr, i6 i.bdr]) hS (on_none rfl) rfl (h_.b 0 s0) (by kernel_rfl) fun g3 w3 hS3 hb3 => ⟨_, rfl, ?_⟩, trivial⟩
  clear h_ a_ hS
  clear hb3
  refine ⟨fun a_ h_ => st_box (cells := #[.slice A n c]) hS3 (on_none rfl) rfl (h_.b 2 s2) (by kernel_rfl) fun g4 w4 hS4 hb4 => ⟨_, rfl, ?_⟩, trivial⟩
  clear h_ a_ hS3
  clear hb4
  refine ⟨fun a_ h_ => st_alloc (cells := #[i6 0, i6 0, i6 0, i6 0, i6 0]) hS4 (on_none rfl) rfl (by kernel_rfl) fun g5 w5 hS5 hb5 => ⟨_, rfl, ?_⟩, trivial⟩
  clear h_ a_ hS4
  clear hb5
  refine ⟨.bool false, fun _ h_ => rk (run_assign rfl rfl), ?_⟩
  intro a2 hput
  replace s1 := hput.o 1 s1
  have s3 : sl a2 3 = pt g3 0 := hput.new 0 3 rfl
  have s5 : sl a2 5 = pt g4 0 := hput.new 1 5 rfl
  have s6 : sl a2 6 = pt g5 0 := hput.new 2 6 rfl
  have s7 : sl a2 7 = .bool false := hput.new 3 7 rfl
  replace hz := hput.size.trans hz
  replace hd := hput.defers.trans hd
  clear hput s0 s2
  change Code.wp _ _ _ _ _
  refine wp_seq ?_
  refine seq_l [1, 2] hz ?_
  refine ⟨.agg #[i6 i.self, i6 i.prio, i6 i.state, i6 i.dr, i6 i.bdr], fun _ h_ => rk (lbS 5 (hS5.blk (i := 2) rfl) rfl (h_.b 3 s3)), ?_⟩
  refine ⟨fun a_ h_ => st_alloc (cells := #[i6 0, i6 0, i6 0, i6 0, i6 0]) hS5 (on_none rfl) rfl (by kernel_rfl) fun g7 w7 hS7 hb7 => ⟨_, rfl, ?_⟩, trivial⟩
  clear h_ a_ hS5
  clear hb7
  refine ⟨fun a_ h_ => st_store (n := 5) (cells := #[i6 i.self, i6 i.prio, i6 i.state, i6 i.dr, i6 i.bdr]) (cs' := #[i6 i.self, i6 i.prio, i6 i.state, i6 i.dr, i6 i.bdr]) 0 hS7 rfl (on_none rfl) rfl (h_.d 1 8) (h_.d 0 14) rfl (by kernel_rfl) ⟨Nat.le_of_ble_eq_true rfl, rfl, by kernel_rfl⟩ rfl fun w8 hS8 he8 => ⟨_, rfl, ?_⟩, trivial⟩
  clear h_ a_ he8 hS7
  replace hS8 : S (kap W) ((blkA g7 170 #[i6 i.self, i6 i.prio, i6 i.state, i6 i.dr, i6 i.bdr]) :: (blkA g5 170 #[i6 0, i6 0, i6 0, i6 0, i6 0]) :: (blkA g4 225 #[.slice A n c]) :: (blkA g3 170 #[i6 i.self, i6 i.prio, i6 i.state, i6 i.dr, i6 i.bdr]) :: []) ((memA W W.heap.size) :: []) w8 := hS8
  intro a6 hput
  replace s1 := hput.o 1 s1
  replace s3 := hput.o 3 s3
  replace s5 := hput.o 5 s5
  replace s6 := hput.o 6 s6
  replace s7 := hput.o 7 s7
  have s8 : sl a6 8 = pt g7 0 := hput.new 1 8 rfl
  replace hz := hput.size.trans hz
  replace hd := hput.defers.trans hd
  clear hput
  change Code.wp _ _ _ _ _
  refine wp_seq ?_
  refine seq_l [] hz ?_
  refine ⟨.func (.func 139) #[] #[pt g3 0, pt g4 0], fun _ h_ => rk (run_makeFunc rfl (by simp) (map2 (h_.b 3 s3) (h_.b 5 s5))),
   .func (.func 139) #[] #[pt g3 0, pt g4 0], fun _ h_ => ras (h_.d 0 15), ?_⟩
  intro a9 hput
  replace s1 := hput.o 1 s1
  replace s3 := hput.o 3 s3
  replace s6 := hput.o 6 s6
  replace s7 := hput.o 7 s7
  replace s8 := hput.o 8 s8
  have s9 : sl a9 9 = .func (.func 139) #[] #[pt g3 0, pt g4 0] := hput.new 1 9 rfl
  replace hz := hput.size.trans hz
  replace hd := hput.defers.trans hd
  clear hput s5
  change Code.wp _ _ _ _ _
  refine wp_seq ?_
  refine seq_l [] hz ?_
  refine ⟨.func (.func 142) #[] #[pt g3 0], fun _ h_ => rk (run_makeFunc rfl (by simp) (map1 (h_.b 3 s3))),
   .func (.func 142) #[] #[pt g3 0], fun _ h_ => ras (h_.d 0 16), ?_⟩
  intro a10 hput
  replace s1 := hput.o 1 s1
  replace s3 := hput.o 3 s3
  replace s6 := hput.o 6 s6
  replace s7 := hput.o 7 s7
  replace s8 := hput.o 8 s8
  replace s9 := hput.o 9 s9
  have s10 : sl a10 10 = .func (.func 142) #[] #[pt g3 0] := hput.new 1 10 rfl
  replace hz := hput.size.trans hz
  replace hd := hput.defers.trans hd
  clear hput
  change Code.wp _ _ _ _ _
  refine wp_seq ?_
  refine region_litT (E := 1) (fun g_ i_ => match i_ with | 0 => .map (some g_) | 1 => moE (0, 0) | 2 => .func (.func 142) #[] #[pt g3 0] | 4 => moE (1, 2) | 5 => .func (.func 139) #[] #[pt g3 0, pt g4 0] | 7 => moE (1, 3) | 8 => .func (.func 139) #[] #[pt g3 0, pt g4 0] | 10 => moE (2, 4) | 11 => .func (.func 139) #[] #[pt g3 0, pt g4 0] | 13 => moE (3, 4) | 14 => .func (.func 139) #[] #[pt g3 0, pt g4 0] | 16 => moE (4, 4) | 17 => .func (.func 139) #[] #[pt g3 0, pt g4 0] | 19 => .map (some g_) | 20 => .map (some g_) | _ => undef) ([(3, (0, 0), .func (.func 142) #[] #[pt g3 0]), (6, (1, 2), .func (.func 139) #[] #[pt g3 0, pt g4 0]), (9, (1, 3), .func (.func 139) #[] #[pt g3 0, pt g4 0]), (12, (2, 4), .func (.func 139) #[] #[pt g3 0, pt g4 0]), (15, (3, 4), .func (.func 139) #[] #[pt g3 0, pt g4 0]), (18, (4, 4), .func (.func 139) #[] #[pt g3 0, pt g4 0])] : List (Nat × (Int × Int) × Value)) hz mo_key (ev := fun v => v) hS8 (by decide) (fun o ho => by cases ho; exact ⟨rfl, rfl⟩) (fun _ => rfl) (by simp) (by simp) ?_ ?_ ?_
  · intro q hq
    simp only [List.mem_cons, List.not_mem_nil, or_false] at hq
    rcases hq with rfl | rfl | rfl | rfl | rfl | rfl
    · exact ⟨_, rfl, rfl, rfl, by kernel_rfl, fun _ => rfl, _, _, _, rfl, fun g_ a_ hb_ hd_ => ⟨hd_ 0 17 (by kernel_rfl) rfl, hd_ 1 18 (by kernel_rfl) rfl, hd_ 2 19 (by kernel_rfl) rfl⟩⟩
    · exact ⟨_, rfl, rfl, rfl, by kernel_rfl, fun _ => rfl, _, _, _, rfl, fun g_ a_ hb_ hd_ => ⟨hd_ 0 17 (by kernel_rfl) rfl, hd_ 4 20 (by kernel_rfl) rfl, hd_ 5 21 (by kernel_rfl) rfl⟩⟩
    · exact ⟨_, rfl, rfl, rfl, by kernel_rfl, fun _ => rfl, _, _, _, rfl, fun g_ a_ hb_ hd_ => ⟨hd_ 0 17 (by kernel_rfl) rfl, hd_ 7 22 (by kernel_rfl) rfl, hd_ 8 23 (by kernel_rfl) rfl⟩⟩
    · exact ⟨_, rfl, rfl, rfl, by kernel_rfl, fun _ => rfl, _, _, _, rfl, fun g_ a_ hb_ hd_ => ⟨hd_ 0 17 (by kernel_rfl) rfl, hd_ 10 24 (by kernel_rfl) rfl, hd_ 11 25 (by kernel_rfl) rfl⟩⟩
    · exact ⟨_, rfl, rfl, rfl, by kernel_rfl, fun _ => rfl, _, _, _, rfl, fun g_ a_ hb_ hd_ => ⟨hd_ 0 17 (by kernel_rfl) rfl, hd_ 13 26 (by kernel_rfl) rfl, hd_ 14 27 (by kernel_rfl) rfl⟩⟩
    · exact ⟨_, rfl, rfl, rfl, by kernel_rfl, fun _ => rfl, _, _, _, rfl, fun g_ a_ hb_ hd_ => ⟨hd_ 0 17 (by kernel_rfl) rfl, hd_ 16 28 (by kernel_rfl) rfl, hd_ 17 29 (by kernel_rfl) rfl⟩⟩
  · intro i o ho hi0 hni
    rcases i with _ | _ | _ | _ | _ | _ | _ | _ | _ | _ | _ | _ | _ | _ | _ | _ | _ | _ | _ | _ | _ | i
    · exact absurd rfl hi0
    · cases ho; exact ⟨rfl, fun g_ a_ hb_ hd_ w_ => run_build (vals := #[(0, i6 0), (1, i6 0)]) rfl (bp2 rfl rfl) (by kernel_rfl)⟩
    · cases ho; exact ⟨rfl, fun g_ a_ hb_ hd_ w_ => run_move rfl ((hb_ 10 (by kernel_rfl)).trans s10)⟩
    · exact absurd (by simp) hni
    · cases ho; exact ⟨rfl, fun g_ a_ hb_ hd_ w_ => run_build (vals := #[(0, i6 1), (1, i6 2)]) rfl (bp2 rfl rfl) (by kernel_rfl)⟩
    · cases ho; exact ⟨rfl, fun g_ a_ hb_ hd_ w_ => run_move rfl ((hb_ 9 (by kernel_rfl)).trans s9)⟩
    · exact absurd (by simp) hni
    · cases ho; exact ⟨rfl, fun g_ a_ hb_ hd_ w_ => run_build (vals := #[(0, i6 1), (1, i6 3)]) rfl (bp2 rfl rfl) (by kernel_rfl)⟩
    · cases ho; exact ⟨rfl, fun g_ a_ hb_ hd_ w_ => run_move rfl ((hb_ 9 (by kernel_rfl)).trans s9)⟩
    · exact absurd (by simp) hni
    · cases ho; exact ⟨rfl, fun g_ a_ hb_ hd_ w_ => run_build (vals := #[(0, i6 2), (1, i6 4)]) rfl (bp2 rfl rfl) (by kernel_rfl)⟩
    · cases ho; exact ⟨rfl, fun g_ a_ hb_ hd_ w_ => run_move rfl ((hb_ 9 (by kernel_rfl)).trans s9)⟩
    · exact absurd (by simp) hni
    · cases ho; exact ⟨rfl, fun g_ a_ hb_ hd_ w_ => run_build (vals := #[(0, i6 3), (1, i6 4)]) rfl (bp2 rfl rfl) (by kernel_rfl)⟩
    · cases ho; exact ⟨rfl, fun g_ a_ hb_ hd_ w_ => run_move rfl ((hb_ 9 (by kernel_rfl)).trans s9)⟩
    · exact absurd (by simp) hni
    · cases ho; exact ⟨rfl, fun g_ a_ hb_ hd_ w_ => run_build (vals := #[(0, i6 4), (1, i6 4)]) rfl (bp2 rfl rfl) (by kernel_rfl)⟩
    · cases ho; exact ⟨rfl, fun g_ a_ hb_ hd_ w_ => run_move rfl ((hb_ 9 (by kernel_rfl)).trans s9)⟩
    · exact absurd (by simp) hni
    · cases ho; exact ⟨rfl, fun g_ a_ hb_ hd_ w_ => run_move rfl (hd_ 0 17 (by kernel_rfl) rfl)⟩
    · cases ho; exact ⟨rfl, fun g_ a_ hb_ hd_ w_ => run_assign rfl (hd_ 19 30 (by kernel_rfl) rfl)⟩
    · exact absurd (List.getElem?_eq_some_iff.1 ho).1 (by simp)
  intro g11 m11 w11 a11 hput hS11 hlk
  replace hlk : ∀ x, lookL x m11 = lookL x (movesL (.func (.func 142) #[] #[pt g3 0]) (.func (.func 139) #[] #[pt g3 0, pt g4 0])) := hlk
  clear hS8
  replace s1 := hput.old 1 rfl |>.trans s1
  replace s3 := hput.old 3 rfl |>.trans s3
  replace s6 := hput.old 6 rfl |>.trans s6
  replace s7 := hput.old 7 rfl |>.trans s7
  replace s8 := hput.old 8 rfl |>.trans s8
  have s11 : sl a11 11 = .map (some g11) := hput.new 20 11 rfl
  replace hz := hput.size.trans hz
  replace hd := hput.defers.trans hd
  clear hput s9 s10
  change Code.wp _ _ _ _ _
  refine wp_seq ?_
  refine wp_seq ?_
  refine seq_l [] hz ?_
  refine ⟨i6 e, fun _ h_ => rmv (h_.b 1 s1),
   .bool (decide ((e : Int) = 1)), fun _ h_ => rk (run_cmp rfl (h_.d 0 31) rfl rfl (by first | rfl | exact neq_dec _ _ | exact eq_dec _ _ | simp)), ?_⟩
  intro a12 hput
  replace s1 := hput.o 1 s1
  replace s3 := hput.o 3 s3
  replace s6 := hput.o 6 s6
  replace s7 := hput.o 7 s7
  replace s8 := hput.o 8 s8
  replace s11 := hput.o 11 s11
  have s32 : sl a12 32 = .bool (decide ((e : Int) = 1)) := hput.new 1 32 rfl
  replace hz := hput.size.trans hz
  replace hd := hput.defers.trans hd
  clear hput
  change Code.wp _ _ _ _ _
  refine wp_cond_d s32 (fun hc32 => ?_) (fun hc32 => ?_)
  · clear s32
    exact absurd hc32 he1
  · clear s32
    refine wp_seq ?_
    refine seq_l [] hz ?_
    refine ⟨.map (some g11), fun _ h_ => rmv (h_.b 11 s11),
     pt g3 2, fun _ h_ => rk (fa 2 rfl (h_.b 3 s3)),
     i6 i.state, fun _ h_ => rk (ld hS11 4 rfl (h_.d 1 38)),
     i6 e, fun _ h_ => rmv (h_.b 1 s1),
     .agg #[i6 i.state, i6 e], fun _ h_ => rk (run_build (vals := #[(0, i6 i.state), (1, i6 e)]) (r := .agg #[i6 i.state, i6 e]) rfl (bp2 (h_.d 2 39) (h_.d 3 40)) (by kernel_rfl)),
     .tuple #[.func (.func 142) #[] #[pt g3 0], .bool true], fun _ h_ => rk (run_look2 (E := 1) (z := .nilFunc) (i.state, e) mo_key (hS11.mapAt (i := 0) rfl) rfl (h_.d 0 37) (h_.d 4 41) (by rw [hlk, show lookL (i.state, e) _ = _ from moves_1 _ _ hw]; rfl)),
     .tuple #[.func (.func 142) #[] #[pt g3 0], .bool true], fun _ h_ => rmv (h_.d 5 42),
     .func (.func 142) #[] #[pt g3 0], fun _ h_ => rk (run_extract rfl (h_.d 6 36) rfl),
     .bool true, fun _ h_ => rk (run_extract rfl (h_.d 6 36) rfl),
     .func (.func 142) #[] #[pt g3 0], fun _ h_ => ras (h_.d 7 43),
     .bool true, fun _ h_ => ras (h_.d 8 44), ?_⟩
    intro a13 hput
    replace s3 := hput.o 3 s3
    replace s6 := hput.o 6 s6
    replace s7 := hput.o 7 s7
    replace s8 := hput.o 8 s8
    have s12 : sl a13 12 = .func (.func 142) #[] #[pt g3 0] := hput.new 9 12 rfl
    have s13 : sl a13 13 = .bool true := hput.new 10 13 rfl
    replace hz := hput.size.trans hz
    replace hd := hput.defers.trans hd
    clear hput s1 s11
    change Code.wp _ _ _ _ _
    refine wp_seq ?_
    refine seq_l [] hz ?_
    refine ⟨.bool true, fun _ h_ => rmv (h_.b 13 s13), ?_⟩
    intro a14 hput
    replace s3 := hput.o 3 s3
    replace s6 := hput.o 6 s6
    replace s7 := hput.o 7 s7
    replace s8 := hput.o 8 s8
    replace s12 := hput.o 12 s12
    have s45 : sl a14 45 = .bool true := hput.new 0 45 rfl
    replace hz := hput.size.trans hz
    replace hd := hput.defers.trans hd
    clear hput s13
    change Code.wp _ _ _ _ _
    refine wp_cond_true s45 ?_
    refine seq_l [1] hz ?_
    refine ⟨.func (.func 142) #[] #[pt g3 0], fun _ h_ => rmv (h_.b 12 s12), ?_⟩
    have hSp := hS11.front (i := 4) rfl
    refine ⟨fun a_ h_ => st_call (on_none rfl) (run_callV (args := #[]) (full := #[pt g3 0]) rfl (h_.d 0 46) (by simp) (by simp) rfl) (begin_any i g3 W _ hSp) ?_, trivial⟩
    rintro e_ w16 ⟨rfl, hS16⟩
    refine ⟨_, rfl, _, rfl, ?_⟩
    clear h_ a_ hS11 hSp
    replace hS16 : S (kap W) ((blkA g3 170 #[i6 ((beginF i).self), i6 ((beginF i).prio), i6 ((beginF i).state), i6 ((beginF i).dr), i6 ((beginF i).bdr)]) :: (mapA moE (fun v => v) g11 m11) :: (blkA g7 170 #[i6 i.self, i6 i.prio, i6 i.state, i6 i.dr, i6 i.bdr]) :: (blkA g5 170 #[i6 0, i6 0, i6 0, i6 0, i6 0]) :: (blkA g4 225 #[.slice A n c]) :: []) ((memA W W.heap.size) :: []) w16 := hS16
    intro a15 hput
    replace s3 := hput.o 3 s3
    replace s6 := hput.o 6 s6
    replace s7 := hput.o 7 s7
    replace s8 := hput.o 8 s8
    replace hz := hput.size.trans hz
    replace hd := hput.defers.trans hd
    clear hput s12 s45
    change Code.wp _ _ _ _ _
    refine wp_seq ?_
    refine seq_r [[], [], [], [1, 2], [0], [0, 1, 2, 3, 4]] [4] (.rd 0 (.rd 1 (.rd 2 (.rd 3 (.ef 4 (.ag 1 (.ag 2 (.ag 3 (.rd 5 (.fin))))) .non))))) hz fun w17 hb17 => ?_
    replace hS16 := hS16.below hb17
    refine ⟨.agg #[i6 ((beginF i).self), i6 ((beginF i).prio), i6 ((beginF i).state), i6 ((beginF i).dr), i6 ((beginF i).bdr)], fun _ h_ => rk (lbS 5 (hS16.blk (i := 0) rfl) rfl (h_.b 3 s3)),
     .agg #[i6 ((beginF i).self), i6 ((beginF i).prio), i6 ((beginF i).state), i6 ((beginF i).dr), i6 ((beginF i).bdr)], fun _ h_ => rk (lbS 5 (hS16.blk (i := 0) rfl) rfl (h_.b 3 s3)),
     .agg #[i6 i.self, i6 i.prio, i6 i.state, i6 i.dr, i6 i.bdr], fun _ h_ => rk (lbS 5 (hS16.blk (i := 2) rfl) rfl (h_.b 8 s8)),
     .bool (decide (beginF i ≠ i)), fun _ h_ => rk (run_bin2 rfl (h_.d 1 49) (h_.d 2 50) (fun _ => by kernel_rfl) (neq_if (beginF i) i)), ?_⟩
    refine ⟨fun a_ h_ => st_store (n := 5) (cells := #[i6 ((beginF i).self), i6 ((beginF i).prio), i6 ((beginF i).state), i6 ((beginF i).dr), i6 ((beginF i).bdr)]) (cs' := #[i6 ((beginF i).self), i6 ((beginF i).prio), i6 ((beginF i).state), i6 ((beginF i).dr), i6 ((beginF i).bdr)]) 3 hS16 rfl (on_none rfl) rfl (h_.b 6 s6) (h_.d 0 48) rfl (by kernel_rfl) ⟨Nat.le_of_ble_eq_true rfl, rfl, by kernel_rfl⟩ rfl fun w18 hS18 he18 => ⟨_, rfl, ?_⟩, trivial⟩
    clear h_ a_ he18 hS16
    replace hS18 : S (kap W) ((blkA g3 170 #[i6 ((beginF i).self), i6 ((beginF i).prio), i6 ((beginF i).state), i6 ((beginF i).dr), i6 ((beginF i).bdr)]) :: (mapA moE (fun v => v) g11 m11) :: (blkA g7 170 #[i6 i.self, i6 i.prio, i6 i.state, i6 i.dr, i6 i.bdr]) :: (blkA g5 170 #[i6 ((beginF i).self), i6 ((beginF i).prio), i6 ((beginF i).state), i6 ((beginF i).dr), i6 ((beginF i).bdr)]) :: (blkA g4 225 #[.slice A n c]) :: []) ((memA W W.heap.size) :: []) w18 := hS18
    refine ⟨fun _ h_ => rk (lbS 5 (hS18.blk (i := 0) rfl) rfl (h_.b 3 s3)),
     fun _ h_ => rk (lbS 5 (hS18.blk (i := 2) rfl) rfl (h_.b 8 s8)),
     fun _ h_ => rk (run_bin2 rfl (h_.d 1 49) (h_.d 2 50) (fun _ => by kernel_rfl) (neq_if (beginF i) i)),
     .bool (decide (beginF i ≠ i)), fun _ h_ => ras (h_.d 3 51), ?_⟩
    intro a17 hput
    replace s6 := hput.o 6 s6
    replace s7 : sl a17 7 = .bool (decide (beginF i ≠ i)) := hput.new 5 7 rfl
    replace hz := hput.size.trans hz
    replace hd := hput.defers.trans hd
    clear hput s3 s8
    change Code.wp _ _ _ _ _
    refine wp_ret ?_
    refine retCT (P := Try.prog) (fn := Try.f130) hd s6 s7 (hS18.blk (i := 3) rfl) (hR_ _ _ ?_) Try.underlying170
    exact ⟨rfl, (hS18.old (by simp))⟩
set_option maxRecDepth 100000 in
set_option maxHeartbeats 800000 in
theorem step_vote (i : IfV) (e : Int) (A : Option Addr) (n c : Nat) (l : List CdV) (W : World) (hn : n ≤ 90000) (hR : Reads W W.heap.size 4 A n (rowC CdV.cells l)) (he1 : ¬ e = 1) (hw : whichF i.state e = 2) :
    Calls Try.prog 130 #[.agg #[i6 i.self, i6 i.prio, i6 i.state, i6 i.dr, i6 i.bdr], i6 e, .slice A n c] W (fun r w' => r = .returned (.tuple #[.agg (voteF i l).cells.toArray, .bool (decide (voteF i l ≠ i))]) ∧ Below W.heap.size W w') := by
  have hS := S.start W
  refine calls_walk Try.func130 rfl fun R_ hR_ a hz hd hargs => ?_
  replace hz : a.tmps.size = 52 := hz.trans (by kernel_rfl)
  have s0 := hargs 0 _ rfl
  have s1 := hargs 1 _ rfl
  have s2 := hargs 2 _ rfl
  clear hargs
  refine wp_seq ?_
  refine seq_l [0, 1, 2] hz ?_
  refine ⟨fun a_ h_ => st_box (cells := #[i6 i.self, i6 i.prio, i6 i.state, i6 i.dr, i6 i.bdr]) hS (on_none rfl) rfl (h_.b 0 s0) (by kernel_rfl) fun g3 w3 hS3 hb3 => ⟨_, rfl, ?_⟩, trivial⟩
  clear h_ a_ hS
  clear hb3
  refine ⟨fun a_ h_ => st_box (cells := #[.slice A n c]) hS3 (on_none rfl) rfl (h_.b 2 s2) (by kernel_rfl) fun g4 w4 hS4 hb4 => ⟨_, rfl, ?_⟩, trivial⟩
  clear h_ a_ hS3
  clear hb4
  refine ⟨fun a_ h_ => st_alloc (cells := #[i6 0, i6 0, i6 0, i6 0, i6 0]) hS4 (on_none rfl) rfl (by kernel_rfl) fun g5 w5 hS5 hb5 => ⟨_, rfl, ?_⟩, trivial⟩
  clear h_ a_ hS4
  clear hb5
  refine ⟨.bool false, fun _ h_ => rk (run_assign rfl rfl), ?_⟩
  intro a2 hput
  replace s1 := hput.o 1 s1
  have s3 : sl a2 3 = pt g3 0 := hput.new 0 3 rfl
  have s5 : sl a2 5 = pt g4 0 := hput.new 1 5 rfl
  have s6 : sl a2 6 = pt g5 0 := hput.new 2 6 rfl
  have s7 : sl a2 7 = .bool false := hput.new 3 7 rfl
  replace hz := hput.size.trans hz
  replace hd := hput.defers.trans hd
  clear hput s0 s2
  change Code.wp _ _ _ _ _
  refine wp_seq ?_
  refine seq_l [1, 2] hz ?_
  refine ⟨.agg #[i6 i.self, i6 i.prio, i6 i.state, i6 i.dr, i6 i.bdr], fun _ h_ => rk (lbS 5 (hS5.blk (i := 2) rfl) rfl (h_.b 3 s3)), ?_⟩
  refine ⟨fun a_ h_ => st_alloc (cells := #[i6 0, i6 0, i6 0, i6 0, i6 0]) hS5 (on_none rfl) rfl (by kernel_rfl) fun g7 w7 hS7 hb7 => ⟨_, rfl, ?_⟩, trivial⟩
  clear h_ a_ hS5
  clear hb7
  refine ⟨fun a_ h_ => st_store (n := 5) (cells := #[i6 i.self, i6 i.prio, i6 i.state, i6 i.dr, i6 i.bdr]) (cs' := #[i6 i.self, i6 i.prio, i6 i.state, i6 i.dr, i6 i.bdr]) 0 hS7 rfl (on_none rfl) rfl (h_.d 1 8) (h_.d 0 14) rfl (by kernel_rfl) ⟨Nat.le_of_ble_eq_true rfl, rfl, by kernel_rfl⟩ rfl fun w8 hS8 he8 => ⟨_, rfl, ?_⟩, trivial⟩
  clear h_ a_ he8 hS7
  replace hS8 : S (kap W) ((blkA g7 170 #[i6 i.self, i6 i.prio, i6 i.state, i6 i.dr, i6 i.bdr]) :: (blkA g5 170 #[i6 0, i6 0, i6 0, i6 0, i6 0]) :: (blkA g4 225 #[.slice A n c]) :: (blkA g3 170 #[i6 i.self, i6 i.prio, i6 i.state, i6 i.dr, i6 i.bdr]) :: []) ((memA W W.heap.size) :: []) w8 := hS8
  intro a6 hput
  replace s1 := hput.o 1 s1
  replace s3 := hput.o 3 s3
  replace s5 := hput.o 5 s5
  replace s6 := hput.o 6 s6
  replace s7 := hput.o 7 s7
  have s8 : sl a6 8 = pt g7 0 := hput.new 1 8 rfl
  replace hz := hput.size.trans hz
  replace hd := hput.defers.trans hd
  clear hput
  change Code.wp _ _ _ _ _
  refine wp_seq ?_
  refine seq_l [] hz ?_
  refine ⟨.func (.func 139) #[] #[pt g3 0, pt g4 0], fun _ h_ => rk (run_makeFunc rfl (by simp) (map2 (h_.b 3 s3) (h_.b 5 s5))),
   .func (.func 139) #[] #[pt g3 0, pt g4 0], fun _ h_ => ras (h_.d 0 15), ?_⟩
  intro a9 hput
  replace s1 := hput.o 1 s1
  replace s3 := hput.o 3 s3
  replace s6 := hput.o 6 s6
  replace s7 := hput.o 7 s7
  replace s8 := hput.o 8 s8
  have s9 : sl a9 9 = .func (.func 139) #[] #[pt g3 0, pt g4 0] := hput.new 1 9 rfl
  replace hz := hput.size.trans hz
  replace hd := hput.defers.trans hd
  clear hput s5
  change Code.wp _ _ _ _ _
  refine wp_seq ?_
  refine seq_l [] hz ?_
  refine ⟨.func (.func 142) #[] #[pt g3 0], fun _ h_ => rk (run_makeFunc rfl (by simp) (map1 (h_.b 3 s3))),
   .func (.func 142) #[] #[pt g3 0], fun _ h_ => ras (h_.d 0 16), ?_⟩
  intro a10 hput
  replace s1 := hput.o 1 s1
  replace s3 := hput.o 3 s3
  replace s6 := hput.o 6 s6
  replace s7 := hput.o 7 s7
  replace s8 := hput.o 8 s8
  replace s9 := hput.o 9 s9
  have s10 : sl a10 10 = .func (.func 142) #[] #[pt g3 0] := hput.new 1 10 rfl
  replace hz := hput.size.trans hz
  replace hd := hput.defers.trans hd
  clear hput
  change Code.wp _ _ _ _ _
  refine wp_seq ?_
  refine region_litT (E := 1) (fun g_ i_ => match i_ with | 0 => .map (some g_) | 1 => moE (0, 0) | 2 => .func (.func 142) #[] #[pt g3 0] | 4 => moE (1, 2) | 5 => .func (.func 139) #[] #[pt g3 0, pt g4 0] | 7 => moE (1, 3) | 8 => .func (.func 139) #[] #[pt g3 0, pt g4 0] | 10 => moE (2, 4) | 11 => .func (.func 139) #[] #[pt g3 0, pt g4 0] | 13 => moE (3, 4) | 14 => .func (.func 139) #[] #[pt g3 0, pt g4 0] | 16 => moE (4, 4) | 17 => .func (.func 139) #[] #[pt g3 0, pt g4 0] | 19 => .map (some g_) | 20 => .map (some g_) | _ => undef) ([(3, (0, 0), .func (.func 142) #[] #[pt g3 0]), (6, (1, 2), .func (.func 139) #[] #[pt g3 0, pt g4 0]), (9, (1, 3), .func (.func 139) #[] #[pt g3 0, pt g4 0]), (12, (2, 4), .func (.func 139) #[] #[pt g3 0, pt g4 0]), (15, (3, 4), .func (.func 139) #[] #[pt g3 0, pt g4 0]), (18, (4, 4), .func (.func 139) #[] #[pt g3 0, pt g4 0])] : List (Nat × (Int × Int) × Value)) hz mo_key (ev := fun v => v) hS8 (by decide) (fun o ho => by cases ho; exact ⟨rfl, rfl⟩) (fun _ => rfl) (by simp) (by simp) ?_ ?_ ?_
  · intro q hq
    simp only [List.mem_cons, List.not_mem_nil, or_false] at hq
    rcases hq with rfl | rfl | rfl | rfl | rfl | rfl
    · exact ⟨_, rfl, rfl, rfl, by kernel_rfl, fun _ => rfl, _, _, _, rfl, fun g_ a_ hb_ hd_ => ⟨hd_ 0 17 (by kernel_rfl) rfl, hd_ 1 18 (by kernel_rfl) rfl, hd_ 2 19 (by kernel_rfl) rfl⟩⟩
    · exact ⟨_, rfl, rfl, rfl, by kernel_rfl, fun _ => rfl, _, _, _, rfl, fun g_ a_ hb_ hd_ => ⟨hd_ 0 17 (by kernel_rfl) rfl, hd_ 4 20 (by kernel_rfl) rfl, hd_ 5 21 (by kernel_rfl) rfl⟩⟩
    · exact ⟨_, rfl, rfl, rfl, by kernel_rfl, fun _ => rfl, _, _, _, rfl, fun g_ a_ hb_ hd_ => ⟨hd_ 0 17 (by kernel_rfl) rfl, hd_ 7 22 (by kernel_rfl) rfl, hd_ 8 23 (by kernel_rfl) rfl⟩⟩
    · exact ⟨_, rfl, rfl, rfl, by kernel_rfl, fun _ => rfl, _, _, _, rfl, fun g_ a_ hb_ hd_ => ⟨hd_ 0 17 (by kernel_rfl) rfl, hd_ 10 24 (by kernel_rfl) rfl, hd_ 11 25 (by kernel_rfl) rfl⟩⟩
    · exact ⟨_, rfl, rfl, rfl, by kernel_rfl, fun _ => rfl, _, _, _, rfl, fun g_ a_ hb_ hd_ => ⟨hd_ 0 17 (by kernel_rfl) rfl, hd_ 13 26 (by kernel_rfl) rfl, hd_ 14 27 (by kernel_rfl) rfl⟩⟩
    · exact ⟨_, rfl, rfl, rfl, by kernel_rfl, fun _ => rfl, _, _, _, rfl, fun g_ a_ hb_ hd_ => ⟨hd_ 0 17 (by kernel_rfl) rfl, hd_ 16 28 (by kernel_rfl) rfl, hd_ 17 29 (by kernel_rfl) rfl⟩⟩
  · intro i o ho hi0 hni
    rcases i with _ | _ | _ | _ | _ | _ | _ | _ | _ | _ | _ | _ | _ | _ | _ | _ | _ | _ | _ | _ | _ | i
    · exact absurd rfl hi0
    · cases ho; exact ⟨rfl, fun g_ a_ hb_ hd_ w_ => run_build (vals := #[(0, i6 0), (1, i6 0)]) rfl (bp2 rfl rfl) (by kernel_rfl)⟩
    · cases ho; exact ⟨rfl, fun g_ a_ hb_ hd_ w_ => run_move rfl ((hb_ 10 (by kernel_rfl)).trans s10)⟩
    · exact absurd (by simp) hni
    · cases ho; exact ⟨rfl, fun g_ a_ hb_ hd_ w_ => run_build (vals := #[(0, i6 1), (1, i6 2)]) rfl (bp2 rfl rfl) (by kernel_rfl)⟩
    · cases ho; exact ⟨rfl, fun g_ a_ hb_ hd_ w_ => run_move rfl ((hb_ 9 (by kernel_rfl)).trans s9)⟩
    · exact absurd (by simp) hni
    · cases ho; exact ⟨rfl, fun g_ a_ hb_ hd_ w_ => run_build (vals := #[(0, i6 1), (1, i6 3)]) rfl (bp2 rfl rfl) (by kernel_rfl)⟩
    · cases ho; exact ⟨rfl, fun g_ a_ hb_ hd_ w_ => run_move rfl ((hb_ 9 (by kernel_rfl)).trans s9)⟩
    · exact absurd (by simp) hni
    · cases ho; exact ⟨rfl, fun g_ a_ hb_ hd_ w_ => run_build (vals := #[(0, i6 2), (1, i6 4)]) rfl (bp2 rfl rfl) (by kernel_rfl)⟩
    · cases ho; exact ⟨rfl, fun g_ a_ hb_ hd_ w_ => run_move rfl ((hb_ 9 (by kernel_rfl)).trans s9)⟩
    · exact absurd (by simp) hni
    · cases ho; exact ⟨rfl, fun g_ a_ hb_ hd_ w_ => run_build (vals := #[(0, i6 3), (1, i6 4)]) rfl (bp2 rfl rfl) (by kernel_rfl)⟩
    · cases ho; exact ⟨rfl, fun g_ a_ hb_ hd_ w_ => run_move rfl ((hb_ 9 (by kernel_rfl)).trans s9)⟩
    · exact absurd (by simp) hni
    · cases ho; exact ⟨rfl, fun g_ a_ hb_ hd_ w_ => run_build (vals := #[(0, i6 4), (1, i6 4)]) rfl (bp2 rfl rfl) (by kernel_rfl)⟩
    · cases ho; exact ⟨rfl, fun g_ a_ hb_ hd_ w_ => run_move rfl ((hb_ 9 (by kernel_rfl)).trans s9)⟩
    · exact absurd (by simp) hni
    · cases ho; exact ⟨rfl, fun g_ a_ hb_ hd_ w_ => run_move rfl (hd_ 0 17 (by kernel_rfl) rfl)⟩
    · cases ho; exact ⟨rfl, fun g_ a_ hb_ hd_ w_ => run_assign rfl (hd_ 19 30 (by kernel_rfl) rfl)⟩
    · exact absurd (List.getElem?_eq_some_iff.1 ho).1 (by simp)
  intro g11 m11 w11 a11 hput hS11 hlk
  replace hlk : ∀ x, lookL x m11 = lookL x (movesL (.func (.func 142) #[] #[pt g3 0]) (.func (.func 139) #[] #[pt g3 0, pt g4 0])) := hlk
  clear hS8
  replace s1 := hput.old 1 rfl |>.trans s1
  replace s3 := hput.old 3 rfl |>.trans s3
  replace s6 := hput.old 6 rfl |>.trans s6
  replace s7 := hput.old 7 rfl |>.trans s7
  replace s8 := hput.old 8 rfl |>.trans s8
  have s11 : sl a11 11 = .map (some g11) := hput.new 20 11 rfl
  replace hz := hput.size.trans hz
  replace hd := hput.defers.trans hd
  clear hput s9 s10
  change Code.wp _ _ _ _ _
  refine wp_seq ?_
  refine wp_seq ?_
  refine seq_l [] hz ?_
  refine ⟨i6 e, fun _ h_ => rmv (h_.b 1 s1),
   .bool (decide ((e : Int) = 1)), fun _ h_ => rk (run_cmp rfl (h_.d 0 31) rfl rfl (by first | rfl | exact neq_dec _ _ | exact eq_dec _ _ | simp)), ?_⟩
  intro a12 hput
  replace s1 := hput.o 1 s1
  replace s3 := hput.o 3 s3
  replace s6 := hput.o 6 s6
  replace s7 := hput.o 7 s7
  replace s8 := hput.o 8 s8
  replace s11 := hput.o 11 s11
  have s32 : sl a12 32 = .bool (decide ((e : Int) = 1)) := hput.new 1 32 rfl
  replace hz := hput.size.trans hz
  replace hd := hput.defers.trans hd
  clear hput
  change Code.wp _ _ _ _ _
  refine wp_cond_d s32 (fun hc32 => ?_) (fun hc32 => ?_)
  · clear s32
    exact absurd hc32 he1
  · clear s32
    refine wp_seq ?_
    refine seq_l [] hz ?_
    refine ⟨.map (some g11), fun _ h_ => rmv (h_.b 11 s11),
     pt g3 2, fun _ h_ => rk (fa 2 rfl (h_.b 3 s3)),
     i6 i.state, fun _ h_ => rk (ld hS11 4 rfl (h_.d 1 38)),
     i6 e, fun _ h_ => rmv (h_.b 1 s1),
     .agg #[i6 i.state, i6 e], fun _ h_ => rk (run_build (vals := #[(0, i6 i.state), (1, i6 e)]) (r := .agg #[i6 i.state, i6 e]) rfl (bp2 (h_.d 2 39) (h_.d 3 40)) (by kernel_rfl)),
     .tuple #[.func (.func 139) #[] #[pt g3 0, pt g4 0], .bool true], fun _ h_ => rk (run_look2 (E := 1) (z := .nilFunc) (i.state, e) mo_key (hS11.mapAt (i := 0) rfl) rfl (h_.d 0 37) (h_.d 4 41) (by rw [hlk, show lookL (i.state, e) _ = _ from moves_2 _ _ hw]; rfl)),
     .tuple #[.func (.func 139) #[] #[pt g3 0, pt g4 0], .bool true], fun _ h_ => rmv (h_.d 5 42),
     .func (.func 139) #[] #[pt g3 0, pt g4 0], fun _ h_ => rk (run_extract rfl (h_.d 6 36) rfl),
     .bool true, fun _ h_ => rk (run_extract rfl (h_.d 6 36) rfl),
     .func (.func 139) #[] #[pt g3 0, pt g4 0], fun _ h_ => ras (h_.d 7 43),
     .bool true, fun _ h_ => ras (h_.d 8 44), ?_⟩
    intro a13 hput
    replace s3 := hput.o 3 s3
    replace s6 := hput.o 6 s6
    replace s7 := hput.o 7 s7
    replace s8 := hput.o 8 s8
    have s12 : sl a13 12 = .func (.func 139) #[] #[pt g3 0, pt g4 0] := hput.new 9 12 rfl
    have s13 : sl a13 13 = .bool true := hput.new 10 13 rfl
    replace hz := hput.size.trans hz
    replace hd := hput.defers.trans hd
    clear hput s1 s11
    change Code.wp _ _ _ _ _
    refine wp_seq ?_
    refine seq_l [] hz ?_
    refine ⟨.bool true, fun _ h_ => rmv (h_.b 13 s13), ?_⟩
    intro a14 hput
    replace s3 := hput.o 3 s3
    replace s6 := hput.o 6 s6
    replace s7 := hput.o 7 s7
    replace s8 := hput.o 8 s8
    replace s12 := hput.o 12 s12
    have s45 : sl a14 45 = .bool true := hput.new 0 45 rfl
    replace hz := hput.size.trans hz
    replace hd := hput.defers.trans hd
    clear hput s13
    change Code.wp _ _ _ _ _
    refine wp_cond_true s45 ?_
    refine seq_l [1] hz ?_
    refine ⟨.func (.func 139) #[] #[pt g3 0, pt g4 0], fun _ h_ => rmv (h_.b 12 s12), ?_⟩
    have hSq := hS11.front (i := 3) rfl
    have hSp := hSq.front (i := 4) rfl
    refine ⟨fun a_ h_ => st_call (on_none rfl) (run_callV (args := #[]) (full := #[pt g3 0, pt g4 0]) rfl (h_.d 0 46) (by simp) (by simp) rfl) (vote_any i g3 g4 n c A l W _ hn hR hSp) ?_, trivial⟩
    rintro e_ w16 ⟨rfl, hS16⟩
    refine ⟨_, rfl, _, rfl, ?_⟩
    clear h_ a_ hS11 hSp hSq
    replace hS16 : S (kap W) ((blkA g3 170 #[i6 ((voteF i l).self), i6 ((voteF i l).prio), i6 ((voteF i l).state), i6 ((voteF i l).dr), i6 ((voteF i l).bdr)]) :: (blkA g4 225 #[.slice A n c]) :: (mapA moE (fun v => v) g11 m11) :: (blkA g7 170 #[i6 i.self, i6 i.prio, i6 i.state, i6 i.dr, i6 i.bdr]) :: (blkA g5 170 #[i6 0, i6 0, i6 0, i6 0, i6 0]) :: []) ((memA W W.heap.size) :: []) w16 := hS16
    intro a15 hput
    replace s3 := hput.o 3 s3
    replace s6 := hput.o 6 s6
    replace s7 := hput.o 7 s7
    replace s8 := hput.o 8 s8
    replace hz := hput.size.trans hz
    replace hd := hput.defers.trans hd
    clear hput s12 s45
    change Code.wp _ _ _ _ _
    refine wp_seq ?_
    refine seq_r [[], [], [], [1, 2], [0], [0, 1, 2, 3, 4]] [4] (.rd 0 (.rd 1 (.rd 2 (.rd 3 (.ef 4 (.ag 1 (.ag 2 (.ag 3 (.rd 5 (.fin))))) .non))))) hz fun w17 hb17 => ?_
    replace hS16 := hS16.below hb17
    refine ⟨.agg #[i6 ((voteF i l).self), i6 ((voteF i l).prio), i6 ((voteF i l).state), i6 ((voteF i l).dr), i6 ((voteF i l).bdr)], fun _ h_ => rk (lbS 5 (hS16.blk (i := 0) rfl) rfl (h_.b 3 s3)),
     .agg #[i6 ((voteF i l).self), i6 ((voteF i l).prio), i6 ((voteF i l).state), i6 ((voteF i l).dr), i6 ((voteF i l).bdr)], fun _ h_ => rk (lbS 5 (hS16.blk (i := 0) rfl) rfl (h_.b 3 s3)),
     .agg #[i6 i.self, i6 i.prio, i6 i.state, i6 i.dr, i6 i.bdr], fun _ h_ => rk (lbS 5 (hS16.blk (i := 3) rfl) rfl (h_.b 8 s8)),
     .bool (decide (voteF i l ≠ i)), fun _ h_ => rk (run_bin2 rfl (h_.d 1 49) (h_.d 2 50) (fun _ => by kernel_rfl) (neq_if (voteF i l) i)), ?_⟩
    refine ⟨fun a_ h_ => st_store (n := 5) (cells := #[i6 ((voteF i l).self), i6 ((voteF i l).prio), i6 ((voteF i l).state), i6 ((voteF i l).dr), i6 ((voteF i l).bdr)]) (cs' := #[i6 ((voteF i l).self), i6 ((voteF i l).prio), i6 ((voteF i l).state), i6 ((voteF i l).dr), i6 ((voteF i l).bdr)]) 4 hS16 rfl (on_none rfl) rfl (h_.b 6 s6) (h_.d 0 48) rfl (by kernel_rfl) ⟨Nat.le_of_ble_eq_true rfl, rfl, by kernel_rfl⟩ rfl fun w18 hS18 he18 => ⟨_, rfl, ?_⟩, trivial⟩
    clear h_ a_ he18 hS16
    replace hS18 : S (kap W) ((blkA g3 170 #[i6 ((voteF i l).self), i6 ((voteF i l).prio), i6 ((voteF i l).state), i6 ((voteF i l).dr), i6 ((voteF i l).bdr)]) :: (blkA g4 225 #[.slice A n c]) :: (mapA moE (fun v => v) g11 m11) :: (blkA g7 170 #[i6 i.self, i6 i.prio, i6 i.state, i6 i.dr, i6 i.bdr]) :: (blkA g5 170 #[i6 ((voteF i l).self), i6 ((voteF i l).prio), i6 ((voteF i l).state), i6 ((voteF i l).dr), i6 ((voteF i l).bdr)]) :: []) ((memA W W.heap.size) :: []) w18 := hS18
    refine ⟨fun _ h_ => rk (lbS 5 (hS18.blk (i := 0) rfl) rfl (h_.b 3 s3)),
     fun _ h_ => rk (lbS 5 (hS18.blk (i := 3) rfl) rfl (h_.b 8 s8)),
     fun _ h_ => rk (run_bin2 rfl (h_.d 1 49) (h_.d 2 50) (fun _ => by kernel_rfl) (neq_if (voteF i l) i)),
     .bool (decide (voteF i l ≠ i)), fun _ h_ => ras (h_.d 3 51), ?_⟩
    intro a17 hput
    replace s6 := hput.o 6 s6
    replace s7 : sl a17 7 = .bool (decide (voteF i l ≠ i)) := hput.new 5 7 rfl
    replace hz := hput.size.trans hz
    replace hd := hput.defers.trans hd
    clear hput s3 s8
    change Code.wp _ _ _ _ _
    refine wp_ret ?_
    refine retCT (P := Try.prog) (fn := Try.f130) hd s6 s7 (hS18.blk (i := 4) rfl) (hR_ _ _ ?_) Try.underlying170
    exact ⟨rfl, (hS18.old (by simp))⟩
set_option maxRecDepth 100000 in
set_option maxHeartbeats 800000 in
theorem step_none (i : IfV) (e : Int) (A : Option Addr) (n c : Nat) (l : List CdV) (W : World) (hn : n ≤ 90000) (hR : Reads W W.heap.size 4 A n (rowC CdV.cells l)) (he1 : ¬ e = 1) (hw : whichF i.state e = 0) :
    Calls Try.prog 130 #[.agg #[i6 i.self, i6 i.prio, i6 i.state, i6 i.dr, i6 i.bdr], i6 e, .slice A n c] W (fun r w' => r = .returned (.tuple #[.agg (i).cells.toArray, .bool (decide (i ≠ i))]) ∧ Below W.heap.size W w') := by
  have hS := S.start W
  refine calls_walk Try.func130 rfl fun R_ hR_ a hz hd hargs => ?_
  replace hz : a.tmps.size = 52 := hz.trans (by kernel_rfl)
  have s0 := hargs 0 _ rfl
  have s1 := hargs 1 _ rfl
  have s2 := hargs 2 _ rfl
  clear hargs
  refine wp_seq ?_
  refine seq_l [0, 1, 2] hz ?_
  refine ⟨fun a_ h_ => st_box (cells := #[i6 i.self, i6 i.prio, i6 i.state, i6 i.dr, i6 i.bdr]) hS (on_none rfl) rfl (h_.b 0 s0) (by kernel_rfl) fun g3 w3 hS3 hb3 => ⟨_, rfl, ?_⟩, trivial⟩
  clear h_ a_ hS
  clear hb3
  refine ⟨fun a_ h_ => st_box (cells := #[.slice A n c]) hS3 (on_none rfl) rfl (h_.b 2 s2) (by kernel_rfl) fun g4 w4 hS4 hb4 => ⟨_, rfl, ?_⟩, trivial⟩
  clear h_ a_ hS3
  clear hb4
  refine ⟨fun a_ h_ => st_alloc (cells := #[i6 0, i6 0, i6 0, i6 0, i6 0]) hS4 (on_none rfl) rfl (by kernel_rfl) fun g5 w5 hS5 hb5 => ⟨_, rfl, ?_⟩, trivial⟩
  clear h_ a_ hS4
  clear hb5
  refine ⟨.bool false, fun _ h_ => rk (run_assign rfl rfl), ?_⟩
  intro a2 hput
  replace s1 := hput.o 1 s1
  have s3 : sl a2 3 = pt g3 0 := hput.new 0 3 rfl
  have s5 : sl a2 5 = pt g4 0 := hput.new 1 5 rfl
  have s6 : sl a2 6 = pt g5 0 := hput.new 2 6 rfl
  have s7 : sl a2 7 = .bool false := hput.new 3 7 rfl
  replace hz := hput.size.trans hz
  replace hd := hput.defers.trans hd
  clear hput s0 s2
  change Code.wp _ _ _ _ _
  refine wp_seq ?_
  refine seq_l [1, 2] hz ?_
  refine ⟨.agg #[i6 i.self, i6 i.prio, i6 i.state, i6 i.dr, i6 i.bdr], fun _ h_ => rk (lbS 5 (hS5.blk (i := 2) rfl) rfl (h_.b 3 s3)), ?_⟩
  refine ⟨fun a_ h_ => st_alloc (cells := #[i6 0, i6 0, i6 0, i6 0, i6 0]) hS5 (on_none rfl) rfl (by kernel_rfl) fun g7 w7 hS7 hb7 => ⟨_, rfl, ?_⟩, trivial⟩
  clear h_ a_ hS5
  clear hb7
  refine ⟨fun a_ h_ => st_store (n := 5) (cells := #[i6 i.self, i6 i.prio, i6 i.state, i6 i.dr, i6 i.bdr]) (cs' := #[i6 i.self, i6 i.prio, i6 i.state, i6 i.dr, i6 i.bdr]) 0 hS7 rfl (on_none rfl) rfl (h_.d 1 8) (h_.d 0 14) rfl (by kernel_rfl) ⟨Nat.le_of_ble_eq_true rfl, rfl, by kernel_rfl⟩ rfl fun w8 hS8 he8 => ⟨_, rfl, ?_⟩, trivial⟩
  clear h_ a_ he8 hS7
  replace hS8 : S (kap W) ((blkA g7 170 #[i6 i.self, i6 i.prio, i6 i.state, i6 i.dr, i6 i.bdr]) :: (blkA g5 170 #[i6 0, i6 0, i6 0, i6 0, i6 0]) :: (blkA g4 225 #[.slice A n c]) :: (blkA g3 170 #[i6 i.self, i6 i.prio, i6 i.state, i6 i.dr, i6 i.bdr]) :: []) ((memA W W.heap.size) :: []) w8 := hS8
  intro a6 hput
  replace s1 := hput.o 1 s1
  replace s3 := hput.o 3 s3
  replace s5 := hput.o 5 s5
  replace s6 := hput.o 6 s6
  replace s7 := hput.o 7 s7
  have s8 : sl a6 8 = pt g7 0 := hput.new 1 8 rfl
  replace hz := hput.size.trans hz
  replace hd := hput.defers.trans hd
  clear hput
  change Code.wp _ _ _ _ _
  refine wp_seq ?_
  refine seq_l [] hz ?_
  refine ⟨.func (.func 139) #[] #[pt g3 0, pt g4 0], fun _ h_ => rk (run_makeFunc rfl (by simp) (map2 (h_.b 3 s3) (h_.b 5 s5))),
   .func (.func 139) #[] #[pt g3 0, pt g4 0], fun _ h_ => ras (h_.d 0 15), ?_⟩
  intro a9 hput
  replace s1 := hput.o 1 s1
  replace s3 := hput.o 3 s3
  replace s6 := hput.o 6 s6
  replace s7 := hput.o 7 s7
  replace s8 := hput.o 8 s8
  have s9 : sl a9 9 = .func (.func 139) #[] #[pt g3 0, pt g4 0] := hput.new 1 9 rfl
  replace hz := hput.size.trans hz
  replace hd := hput.defers.trans hd
  clear hput s5
  change Code.wp _ _ _ _ _
  refine wp_seq ?_
  refine seq_l [] hz ?_
  refine ⟨.func (.func 142) #[] #[pt g3 0], fun _ h_ => rk (run_makeFunc rfl (by simp) (map1 (h_.b 3 s3))),
   .func (.func 142) #[] #[pt g3 0], fun _ h_ => ras (h_.d 0 16), ?_⟩
  intro a10 hput
  replace s1 := hput.o 1 s1
  replace s3 := hput.o 3 s3
  replace s6 := hput.o 6 s6
  replace s7 := hput.o 7 s7
  replace s8 := hput.o 8 s8
  replace s9 := hput.o 9 s9
  have s10 : sl a10 10 = .func (.func 142) #[] #[pt g3 0] := hput.new 1 10 rfl
  replace hz := hput.size.trans hz
  replace hd := hput.defers.trans hd
  clear hput
  change Code.wp _ _ _ _ _
  refine wp_seq ?_
  refine region_litT (E := 1) (fun g_ i_ => match i_ with | 0 => .map (some g_) | 1 => moE (0, 0) | 2 => .func (.func 142) #[] #[pt g3 0] | 4 => moE (1, 2) | 5 => .func (.func 139) #[] #[pt g3 0, pt g4 0] | 7 => moE (1, 3) | 8 => .func (.func 139) #[] #[pt g3 0, pt g4 0] | 10 => moE (2, 4) | 11 => .func (.func 139) #[] #[pt g3 0, pt g4 0] | 13 => moE (3, 4) | 14 => .func (.func 139) #[] #[pt g3 0, pt g4 0] | 16 => moE (4, 4) | 17 => .func (.func 139) #[] #[pt g3 0, pt g4 0] | 19 => .map (some g_) | 20 => .map (some g_) | _ => undef) ([(3, (0, 0), .func (.func 142) #[] #[pt g3 0]), (6, (1, 2), .func (.func 139) #[] #[pt g3 0, pt g4 0]), (9, (1, 3), .func (.func 139) #[] #[pt g3 0, pt g4 0]), (12, (2, 4), .func (.func 139) #[] #[pt g3 0, pt g4 0]), (15, (3, 4), .func (.func 139) #[] #[pt g3 0, pt g4 0]), (18, (4, 4), .func (.func 139) #[] #[pt g3 0, pt g4 0])] : List (Nat × (Int × Int) × Value)) hz mo_key (ev := fun v => v) hS8 (by decide) (fun o ho => by cases ho; exact ⟨rfl, rfl⟩) (fun _ => rfl) (by simp) (by simp) ?_ ?_ ?_
  · intro q hq
    simp only [List.mem_cons, List.not_mem_nil, or_false] at hq
    rcases hq with rfl | rfl | rfl | rfl | rfl | rfl
    · exact ⟨_, rfl, rfl, rfl, by kernel_rfl, fun _ => rfl, _, _, _, rfl, fun g_ a_ hb_ hd_ => ⟨hd_ 0 17 (by kernel_rfl) rfl, hd_ 1 18 (by kernel_rfl) rfl, hd_ 2 19 (by kernel_rfl) rfl⟩⟩
    · exact ⟨_, rfl, rfl, rfl, by kernel_rfl, fun _ => rfl, _, _, _, rfl, fun g_ a_ hb_ hd_ => ⟨hd_ 0 17 (by kernel_rfl) rfl, hd_ 4 20 (by kernel_rfl) rfl, hd_ 5 21 (by kernel_rfl) rfl⟩⟩
    · exact ⟨_, rfl, rfl, rfl, by kernel_rfl, fun _ => rfl, _, _, _, rfl, fun g_ a_ hb_ hd_ => ⟨hd_ 0 17 (by kernel_rfl) rfl, hd_ 7 22 (by kernel_rfl) rfl, hd_ 8 23 (by kernel_rfl) rfl⟩⟩
    · exact ⟨_, rfl, rfl, rfl, by kernel_rfl, fun _ => rfl, _, _, _, rfl, fun g_ a_ hb_ hd_ => ⟨hd_ 0 17 (by kernel_rfl) rfl, hd_ 10 24 (by kernel_rfl) rfl, hd_ 11 25 (by kernel_rfl) rfl⟩⟩
    · exact ⟨_, rfl, rfl, rfl, by kernel_rfl, fun _ => rfl, _, _, _, rfl, fun g_ a_ hb_ hd_ => ⟨hd_ 0 17 (by kernel_rfl) rfl, hd_ 13 26 (by kernel_rfl) rfl, hd_ 14 27 (by kernel_rfl) rfl⟩⟩
    · exact ⟨_, rfl, rfl, rfl, by kernel_rfl, fun _ => rfl, _, _, _, rfl, fun g_ a_ hb_ hd_ => ⟨hd_ 0 17 (by kernel_rfl) rfl, hd_ 16 28 (by kernel_rfl) rfl, hd_ 17 29 (by kernel_rfl) rfl⟩⟩
  · intro i o ho hi0 hni
    rcases i with _ | _ | _ | _ | _ | _ | _ | _ | _ | _ | _ | _ | _ | _ | _ | _ | _ | _ | _ | _ | _ | i
    · exact absurd rfl hi0
    · cases ho; exact ⟨rfl, fun g_ a_ hb_ hd_ w_ => run_build (vals := #[(0, i6 0), (1, i6 0)]) rfl (bp2 rfl rfl) (by kernel_rfl)⟩
    · cases ho; exact ⟨rfl, fun g_ a_ hb_ hd_ w_ => run_move rfl ((hb_ 10 (by kernel_rfl)).trans s10)⟩
    · exact absurd (by simp) hni
    · cases ho; exact ⟨rfl, fun g_ a_ hb_ hd_ w_ => run_build (vals := #[(0, i6 1), (1, i6 2)]) rfl (bp2 rfl rfl) (by kernel_rfl)⟩
    · cases ho; exact ⟨rfl, fun g_ a_ hb_ hd_ w_ => run_move rfl ((hb_ 9 (by kernel_rfl)).trans s9)⟩
    · exact absurd (by simp) hni
    · cases ho; exact ⟨rfl, fun g_ a_ hb_ hd_ w_ => run_build (vals := #[(0, i6 1), (1, i6 3)]) rfl (bp2 rfl rfl) (by kernel_rfl)⟩
    · cases ho; exact ⟨rfl, fun g_ a_ hb_ hd_ w_ => run_move rfl ((hb_ 9 (by kernel_rfl)).trans s9)⟩
    · exact absurd (by simp) hni
    · cases ho; exact ⟨rfl, fun g_ a_ hb_ hd_ w_ => run_build (vals := #[(0, i6 2), (1, i6 4)]) rfl (bp2 rfl rfl) (by kernel_rfl)⟩
    · cases ho; exact ⟨rfl, fun g_ a_ hb_ hd_ w_ => run_move rfl ((hb_ 9 (by kernel_rfl)).trans s9)⟩
    · exact absurd (by simp) hni
    · cases ho; exact ⟨rfl, fun g_ a_ hb_ hd_ w_ => run_build (vals := #[(0, i6 3), (1, i6 4)]) rfl (bp2 rfl rfl) (by kernel_rfl)⟩
    · cases ho; exact ⟨rfl, fun g_ a_ hb_ hd_ w_ => run_move rfl ((hb_ 9 (by kernel_rfl)).trans s9)⟩
    · exact absurd (by simp) hni
    · cases ho; exact ⟨rfl, fun g_ a_ hb_ hd_ w_ => run_build (vals := #[(0, i6 4), (1, i6 4)]) rfl (bp2 rfl rfl) (by kernel_rfl)⟩
    · cases ho; exact ⟨rfl, fun g_ a_ hb_ hd_ w_ => run_move rfl ((hb_ 9 (by kernel_rfl)).trans s9)⟩
    · exact absurd (by simp) hni
    · cases ho; exact ⟨rfl, fun g_ a_ hb_ hd_ w_ => run_move rfl (hd_ 0 17 (by kernel_rfl) rfl)⟩
    · cases ho; exact ⟨rfl, fun g_ a_ hb_ hd_ w_ => run_assign rfl (hd_ 19 30 (by kernel_rfl) rfl)⟩
    · exact absurd (List.getElem?_eq_some_iff.1 ho).1 (by simp)
  intro g11 m11 w11 a11 hput hS11 hlk
  replace hlk : ∀ x, lookL x m11 = lookL x (movesL (.func (.func 142) #[] #[pt g3 0]) (.func (.func 139) #[] #[pt g3 0, pt g4 0])) := hlk
  clear hS8
  replace s1 := hput.old 1 rfl |>.trans s1
  replace s3 := hput.old 3 rfl |>.trans s3
  replace s6 := hput.old 6 rfl |>.trans s6
  replace s7 := hput.old 7 rfl |>.trans s7
  replace s8 := hput.old 8 rfl |>.trans s8
  have s11 : sl a11 11 = .map (some g11) := hput.new 20 11 rfl
  replace hz := hput.size.trans hz
  replace hd := hput.defers.trans hd
  clear hput s9 s10
  change Code.wp _ _ _ _ _
  refine wp_seq ?_
  refine wp_seq ?_
  refine seq_l [] hz ?_
  refine ⟨i6 e, fun _ h_ => rmv (h_.b 1 s1),
   .bool (decide ((e : Int) = 1)), fun _ h_ => rk (run_cmp rfl (h_.d 0 31) rfl rfl (by first | rfl | exact neq_dec _ _ | exact eq_dec _ _ | simp)), ?_⟩
  intro a12 hput
  replace s1 := hput.o 1 s1
  replace s3 := hput.o 3 s3
  replace s6 := hput.o 6 s6
  replace s7 := hput.o 7 s7
  replace s8 := hput.o 8 s8
  replace s11 := hput.o 11 s11
  have s32 : sl a12 32 = .bool (decide ((e : Int) = 1)) := hput.new 1 32 rfl
  replace hz := hput.size.trans hz
  replace hd := hput.defers.trans hd
  clear hput
  change Code.wp _ _ _ _ _
  refine wp_cond_d s32 (fun hc32 => ?_) (fun hc32 => ?_)
  · clear s32
    exact absurd hc32 he1
  · clear s32
    refine wp_seq ?_
    refine seq_l [] hz ?_
    refine ⟨.map (some g11), fun _ h_ => rmv (h_.b 11 s11),
     pt g3 2, fun _ h_ => rk (fa 2 rfl (h_.b 3 s3)),
     i6 i.state, fun _ h_ => rk (ld hS11 4 rfl (h_.d 1 38)),
     i6 e, fun _ h_ => rmv (h_.b 1 s1),
     .agg #[i6 i.state, i6 e], fun _ h_ => rk (run_build (vals := #[(0, i6 i.state), (1, i6 e)]) (r := .agg #[i6 i.state, i6 e]) rfl (bp2 (h_.d 2 39) (h_.d 3 40)) (by kernel_rfl)),
     .tuple #[.nilFunc, .bool false], fun _ h_ => rk (run_look2 (E := 1) (z := .nilFunc) (i.state, e) mo_key (hS11.mapAt (i := 0) rfl) rfl (h_.d 0 37) (h_.d 4 41) (by rw [hlk, show lookL (i.state, e) _ = _ from moves_0 (.func (.func 142) #[] #[pt g3 0]) (.func (.func 139) #[] #[pt g3 0, pt g4 0]) hw]; rfl)),
     .tuple #[.nilFunc, .bool false], fun _ h_ => rmv (h_.d 5 42),
     .nilFunc, fun _ h_ => rk (run_extract rfl (h_.d 6 36) rfl),
     .bool false, fun _ h_ => rk (run_extract rfl (h_.d 6 36) rfl),
     .nilFunc, fun _ h_ => ras (h_.d 7 43),
     .bool false, fun _ h_ => ras (h_.d 8 44), ?_⟩
    intro a13 hput
    replace s3 := hput.o 3 s3
    replace s6 := hput.o 6 s6
    replace s7 := hput.o 7 s7
    replace s8 := hput.o 8 s8
    have s12 : sl a13 12 = .nilFunc := hput.new 9 12 rfl
    have s13 : sl a13 13 = .bool false := hput.new 10 13 rfl
    replace hz := hput.size.trans hz
    replace hd := hput.defers.trans hd
    clear hput s1 s11
    change Code.wp _ _ _ _ _
    refine wp_seq ?_
    refine seq_l [] hz ?_
    refine ⟨.bool false, fun _ h_ => rmv (h_.b 13 s13), ?_⟩
    intro a14 hput
    replace s3 := hput.o 3 s3
    replace s6 := hput.o 6 s6
    replace s7 := hput.o 7 s7
    replace s8 := hput.o 8 s8
    replace s12 := hput.o 12 s12
    have s45 : sl a14 45 = .bool false := hput.new 0 45 rfl
    replace hz := hput.size.trans hz
    replace hd := hput.defers.trans hd
    clear hput s13
    change Code.wp _ _ _ _ _
    refine wp_cond_false s45 ?_
    refine wp_skip ?_
    change Code.wp _ _ _ _ _
    refine wp_seq ?_
    refine seq_r [[], [], [], [1, 2], [0], [0, 1, 2, 3, 4]] [4] (.rd 0 (.rd 1 (.rd 2 (.rd 3 (.ef 4 (.ag 1 (.ag 2 (.ag 3 (.rd 5 (.fin))))) .non))))) hz fun w15 hb15 => ?_
    replace hS11 := hS11.below hb15
    refine ⟨.agg #[i6 i.self, i6 i.prio, i6 i.state, i6 i.dr, i6 i.bdr], fun _ h_ => rk (lbS 5 (hS11.blk (i := 4) rfl) rfl (h_.b 3 s3)),
     .agg #[i6 i.self, i6 i.prio, i6 i.state, i6 i.dr, i6 i.bdr], fun _ h_ => rk (lbS 5 (hS11.blk (i := 4) rfl) rfl (h_.b 3 s3)),
     .agg #[i6 i.self, i6 i.prio, i6 i.state, i6 i.dr, i6 i.bdr], fun _ h_ => rk (lbS 5 (hS11.blk (i := 1) rfl) rfl (h_.b 8 s8)),
     .bool (decide (i ≠ i)), fun _ h_ => rk (run_bin2 rfl (h_.d 1 49) (h_.d 2 50) (fun _ => by kernel_rfl) (neq_if i i)), ?_⟩
    refine ⟨fun a_ h_ => st_store (n := 5) (cells := #[i6 i.self, i6 i.prio, i6 i.state, i6 i.dr, i6 i.bdr]) (cs' := #[i6 i.self, i6 i.prio, i6 i.state, i6 i.dr, i6 i.bdr]) 2 hS11 rfl (on_none rfl) rfl (h_.b 6 s6) (h_.d 0 48) rfl (by kernel_rfl) ⟨Nat.le_of_ble_eq_true rfl, rfl, by kernel_rfl⟩ rfl fun w16 hS16 he16 => ⟨_, rfl, ?_⟩, trivial⟩
    clear h_ a_ he16 hS11
    replace hS16 : S (kap W) ((mapA moE (fun v => v) g11 m11) :: (blkA g7 170 #[i6 i.self, i6 i.prio, i6 i.state, i6 i.dr, i6 i.bdr]) :: (blkA g5 170 #[i6 i.self, i6 i.prio, i6 i.state, i6 i.dr, i6 i.bdr]) :: (blkA g4 225 #[.slice A n c]) :: (blkA g3 170 #[i6 i.self, i6 i.prio, i6 i.state, i6 i.dr, i6 i.bdr]) :: []) ((memA W W.heap.size) :: []) w16 := hS16
    refine ⟨fun _ h_ => rk (lbS 5 (hS16.blk (i := 4) rfl) rfl (h_.b 3 s3)),
     fun _ h_ => rk (lbS 5 (hS16.blk (i := 1) rfl) rfl (h_.b 8 s8)),
     fun _ h_ => rk (run_bin2 rfl (h_.d 1 49) (h_.d 2 50) (fun _ => by kernel_rfl) (neq_if i i)),
     .bool (decide (i ≠ i)), fun _ h_ => ras (h_.d 3 51), ?_⟩
    intro a15 hput
    replace s6 := hput.o 6 s6
    replace s7 : sl a15 7 = .bool (decide (i ≠ i)) := hput.new 5 7 rfl
    replace hz := hput.size.trans hz
    replace hd := hput.defers.trans hd
    clear hput s3 s8 s12 s45
    change Code.wp _ _ _ _ _
    refine wp_ret ?_
    refine retCT (P := Try.prog) (fn := Try.f130) hd s6 s7 (hS16.blk (i := 2) rfl) (hR_ _ _ ?_) Try.underlying170
    exact ⟨rfl, (hS16.old (by simp))⟩
theorem which_lt (s e : Int) : whichF s e = 0 ∨ whichF s e = 1 ∨ whichF s e = 2 := by
  unfold whichF; split
  · simp
  · split <;> simp
theorem step_any (i : IfV) (e : Int) (A : Option Addr) (n c : Nat) (l : List CdV) (W : World) (hn : n ≤ 90000) (hR : Reads W W.heap.size 4 A n (rowC CdV.cells l)) :
    Calls Try.prog 130 #[.agg i.cells.toArray, .int .i64 e, .slice A n c] W fun r w' => r = .returned (.tuple #[.agg (stepF i e l).cells.toArray, .bool (decide (stepF i e l ≠ i))]) ∧ Below W.heap.size W w' := by
  unfold stepF
  by_cases he : e = 1
  · rw [if_pos he]; exact step_down i e A n c l W hn hR he
  · rw [if_neg he]
    rcases which_lt i.state e with h | h | h
    · rw [h]; exact step_none i e A n c l W hn hR he h
    · rw [h]; exact step_begin i e A n c l W hn hR he h
    · rw [h]; exact step_vote i e A n c l W hn hR he h
end Go.Proofs.Ytdenfgnkbfbpmaa
