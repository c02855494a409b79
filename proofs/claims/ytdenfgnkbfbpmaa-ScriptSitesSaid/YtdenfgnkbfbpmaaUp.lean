/-
  router: a port comes up.
-/
import Derived.Test.YtdenfgnkbfbpmaaRouter
namespace Go.Proofs.Ytdenfgnkbfbpmaa
open Go.RowKit
set_option linter.unusedSimpArgs false
set_option linter.unusedVariables false

theorem four {α : Type} {l : List α} (h : l.length = 4) : ∃ a b c d, l = [a, b, c, d] := by
  match l, h with
  | [a, b, c, d], _ => exact ⟨a, b, c, d, rfl⟩
def tmr (kind lan id : Int) : TmV := ⟨kind, lan, id, ⟨0, 0, 0⟩⟩
/-- a port comes up -/
def upF (k : Nat) (x : PoS) (s : RoS) : RoS :=
  let i := stepF x.i 0 []
  let w := armF (s.now + 1) [tmr 1 x.lan 0] s.w
  { s with ports := s.ports.set k (some { x with i := i }), w := if i.state = 1 then armF (s.now + 8) [tmr 2 x.lan 0] w else w }
theorem some_set {α : Type} {l : List (Option α)} {k : Nat} {x y : α} (h : l[k]? = some (some x)) : (l.set k (some y)).map Option.isSome = l.map Option.isSome := by
  rw [List.map_set]
  have h1 : (l.map Option.isSome)[k]? = some true := by rw [List.getElem?_map, h]; rfl
  apply List.ext_getElem?
  intro j
  rw [List.getElem?_set]
  split
  · rename_i e; subst e
    split
    · rw [h1]; rfl
    · rename_i hn; rw [List.getElem?_eq_none (by omega)] at h1; cases h1
  · rfl
set_option maxRecDepth 100000 in
set_option maxHeartbeats 800000 in
theorem up_any {κ : Kap} {L I : List Atom} (p : RoP) (s : RoS) (k ap : Nat) (x : PoS) (W : World) (hk : p.pts[k]? = some (some ap)) (hx : s.ports[k]? = some (some x)) (hnow : 0 ≤ s.now ∧ s.now ≤ 1000000000000) (hS : S κ ((roA p s) :: L) (I) W) :
    Calls Try.prog 108 #[pt p.g 0, pt ap 0] W (fun r w' => r = .returned (.tuple #[]) ∧ S κ (roA p (upF k x s) :: L) I w') := by
  obtain ⟨v, hF, hS⟩ := ro_open hS
  obtain ⟨hp4, hs4, hsame⟩ := id hF
  obtain ⟨p0, p1, p2, p3, hpts⟩ := four hp4
  have hro : roCells p s v = #[i6 s.id, i6 s.now, i6 s.number, ptO p0, ptO p1, ptO p2, ptO p3, .map (some p.tm), .map (some p.mm), pt p.dg 0, pt p.wg 0, pt p.lg 0, pt p.ag 0, .slice v.A s.out.length v.c] := by unfold roCells; rw [hpts]; rfl
  rw [hro] at hS
  replace hS := ports_at hk hx (hS.front (i := 1) rfl)
  obtain ⟨pg, hS⟩ := port_open hS
  refine calls_walk Try.func108 rfl fun R_ hR_ a hz hd hargs => ?_
  replace hz : a.tmps.size = 55 := hz.trans (by kernel_rfl)
  have s0 := hargs 0 _ rfl
  have s1 := hargs 1 _ rfl
  clear hargs
  refine wp_seq ?_
  refine seq_l [5, 11] hz ?_
  refine ⟨pt ap 0, fun _ h_ => rmv (h_.b 1 s1),
   pt ap 0, fun _ h_ => rmv (h_.b 1 s1),
   pt ap 0, fun _ h_ => rk (run_nilCheck rfl (h_.d 1 6)),
   pt ap 3, fun _ h_ => rk (fa 3 rfl (h_.d 2 7)),
   .agg #[i6 x.i.self, i6 x.i.prio, i6 x.i.state, i6 x.i.dr, i6 x.i.bdr], fun _ h_ => rk (lbS 5 (hS.blk (i := 0) rfl) rfl (h_.d 3 8)), ?_⟩
  refine ⟨fun a_ h_ => st_call (on_none rfl) (run_call rfl (map3 (h_.d 4 9) rfl rfl) rfl) (step_any x.i 0 none 0 0 [] _ (by omega) Reads.none_) ?_, trivial⟩
  rintro e w3 ⟨rfl, hb3⟩
  refine ⟨_, rfl, _, rfl, ?_⟩
  clear h_ a_
  have hS3 := hS.below hb3
  clear hS hb3
  refine ⟨.tuple #[.agg #[i6 ((stepF x.i 0 []).self), i6 ((stepF x.i 0 []).prio), i6 ((stepF x.i 0 []).state), i6 ((stepF x.i 0 []).dr), i6 ((stepF x.i 0 []).bdr)], .bool (decide ((stepF x.i 0 []) ≠ x.i))], fun _ h_ => rmv (h_.d 5 10),
   .agg #[i6 ((stepF x.i 0 []).self), i6 ((stepF x.i 0 []).prio), i6 ((stepF x.i 0 []).state), i6 ((stepF x.i 0 []).dr), i6 ((stepF x.i 0 []).bdr)], fun _ h_ => rk (run_extract rfl (h_.d 6 4) rfl),
   .bool (decide ((stepF x.i 0 []) ≠ x.i)), fun _ h_ => rk (run_extract rfl (h_.d 6 4) rfl),
   pt ap 0, fun _ h_ => rk (run_nilCheck rfl (h_.d 0 5)),
   pt ap 3, fun _ h_ => rk (fa 3 rfl (h_.d 9 13)), ?_⟩
  refine ⟨fun a_ h_ => st_store (n := 5) (cells := #[i6 ((stepF x.i 0 []).self), i6 ((stepF x.i 0 []).prio), i6 ((stepF x.i 0 []).state), i6 ((stepF x.i 0 []).dr), i6 ((stepF x.i 0 []).bdr)]) (cs' := #[i6 x.lan, i6 x.prio, i6 x.cost, i6 ((stepF x.i 0 []).self), i6 ((stepF x.i 0 []).prio), i6 ((stepF x.i 0 []).state), i6 ((stepF x.i 0 []).dr), i6 ((stepF x.i 0 []).bdr), pt pg 0]) 0 hS3 rfl (on_none rfl) rfl (h_.d 10 14) (h_.d 7 11) rfl (by kernel_rfl) ⟨Nat.le_of_ble_eq_true rfl, rfl, by kernel_rfl⟩ rfl fun w4 hS4 he4 => ⟨_, rfl, ?_⟩, trivial⟩
  clear h_ a_ he4 hS3
  replace hS4 : S κ ((blkA ap 174 #[i6 x.lan, i6 x.prio, i6 x.cost, i6 ((stepF x.i 0 []).self), i6 ((stepF x.i 0 []).prio), i6 ((stepF x.i 0 []).state), i6 ((stepF x.i 0 []).dr), i6 ((stepF x.i 0 []).bdr), pt pg 0]) :: (peersA pg x.p) :: (sepA (((zipO p.pts s.ports).map portO).eraseIdx k)) :: (blkA p.g 168 #[i6 s.id, i6 s.now, i6 s.number, ptO p0, ptO p1, ptO p2, ptO p3, .map (some p.tm), .map (some p.mm), pt p.dg 0, pt p.wg 0, pt p.lg 0, pt p.ag 0, .slice v.A s.out.length v.c]) :: (talksA p.tm s.talks) :: (mapA keyE toldE p.mm s.mine) :: (dbA p.dg s.db) :: (wheelA p.wg s.w) :: (rxmtA p.lg s.lists) :: (acksA p.ag s.later) :: (outA v s.out) :: L) (I) w4 := hS4
  intro a2 hput
  replace s0 := hput.o 0 s0
  replace s1 := hput.o 1 s1
  replace hz := hput.size.trans hz
  replace hd := hput.defers.trans hd
  clear hput
  change Code.wp _ _ _ _ _
  refine wp_seq ?_
  refine seq_r [[], [0], [0, 1], [0, 1, 2], [], [4], [4, 5], [4, 5, 6], [4, 5, 6, 7], [], [9], [9, 10], [9, 10, 11], [9, 10, 11, 12], [9, 10, 11, 12, 13], [9, 10, 11, 12, 13, 14], [0, 1, 2, 3, 4, 5, 6, 7, 8, 9, 10, 11, 12, 13, 14, 15]] [15, 16] (.rd 0 (.rd 1 (.rd 2 (.rd 3 (.rd 4 (.rd 5 (.rd 6 (.rd 7 (.rd 8 (.rd 9 (.rd 10 (.rd 11 (.rd 12 (.rd 13 (.rd 14 (.ef 15 (.ag 0 (.ag 1 (.ag 2 (.ag 3 (.ag 4 (.ag 5 (.ag 6 (.ag 7 (.ag 8 (.ef 16 (.fin) .non)))))))))) .non)))))))))))))))) hz fun w5 hb5 => ?_
  replace hS4 := hS4.below hb5
  refine ⟨pt p.g 0, fun _ h_ => rmv (h_.b 0 s0),
   pt p.g 0, fun _ h_ => rk (run_nilCheck rfl (h_.d 0 15)),
   pt p.g 10, fun _ h_ => rk (fa 10 rfl (h_.d 1 16)),
   pt p.wg 0, fun _ h_ => rk (ld hS4 3 rfl (h_.d 2 17)),
   pt p.g 0, fun _ h_ => rmv (h_.b 0 s0),
   pt p.g 0, fun _ h_ => rk (run_nilCheck rfl (h_.d 4 19)),
   pt p.g 1, fun _ h_ => rk (fa 1 rfl (h_.d 5 20)),
   i6 s.now, fun _ h_ => rk (ld hS4 3 rfl (h_.d 6 21)),
   i6 (s.now + 1), fun _ h_ => rk (run_addI rfl (h_.d 7 22) rfl (by omega) rfl),
   pt ap 0, fun _ h_ => rmv (h_.b 1 s1),
   pt ap 0, fun _ h_ => rk (run_nilCheck rfl (h_.d 9 24)),
   pt ap 0, fun _ h_ => rk (fa 0 rfl (h_.d 10 25)),
   pt ap 0, fun _ h_ => rk (fa 0 rfl (h_.d 11 26)),
   i6 x.lan, fun _ h_ => rk (ld hS4 0 rfl (h_.d 12 27)),
   .agg #[i6 1, i6 x.lan, i6 0, i6 0, i6 0, i6 0], fun _ h_ => rk (run_build (vals := #[(0, i6 1), (1, i6 x.lan)]) (r := .agg #[i6 1, i6 x.lan, i6 0, i6 0, i6 0, i6 0]) rfl (bp2 rfl (h_.d 13 28)) (by kernel_rfl)), ?_⟩
  refine ⟨fun a_ h_ => st_lit (e := 214) (vals := [(0, .agg #[i6 1, i6 x.lan, i6 0, i6 0, i6 0, i6 0])]) (cells := #[i6 1, i6 x.lan, i6 0, i6 0, i6 0, i6 0]) hS4 (on_none rfl) rfl (parts1 (h_.d 14 29)) fun g6 w6 hS6 hb6 => ⟨_, rfl, ?_⟩, trivial⟩
  clear h_ a_ hS4
  clear hb6
  have hSr : S κ ((rowA (.slice (some ⟨g6, 0, none⟩) 1 1) 214 6 1 (rowC TmV.cells [tmr 1 x.lan 0])) :: (blkA ap 174 #[i6 x.lan, i6 x.prio, i6 x.cost, i6 ((stepF x.i 0 []).self), i6 ((stepF x.i 0 []).prio), i6 ((stepF x.i 0 []).state), i6 ((stepF x.i 0 []).dr), i6 ((stepF x.i 0 []).bdr), pt pg 0]) :: (peersA pg x.p) :: (sepA (((zipO p.pts s.ports).map portO).eraseIdx k)) :: (blkA p.g 168 #[i6 s.id, i6 s.now, i6 s.number, ptO p0, ptO p1, ptO p2, ptO p3, .map (some p.tm), .map (some p.mm), pt p.dg 0, pt p.wg 0, pt p.lg 0, pt p.ag 0, .slice v.A s.out.length v.c]) :: (talksA p.tm s.talks) :: (mapA keyE toldE p.mm s.mine) :: (dbA p.dg s.db) :: (wheelA p.wg s.w) :: (rxmtA p.lg s.lists) :: (acksA p.ag s.later) :: (outA v s.out) :: L) (I) w6 := hS6.litRow rfl (by decide)
  clear hS6
  have hS6 := hSr
  clear hSr
  refine ⟨fun _ h_ => rmv (h_.b 0 s0),
   fun _ h_ => rk (run_nilCheck rfl (h_.d 0 15)),
   fun _ h_ => rk (fa 10 rfl (h_.d 1 16)),
   fun _ h_ => rk (ld hS6 4 rfl (h_.d 2 17)),
   fun _ h_ => rmv (h_.b 0 s0),
   fun _ h_ => rk (run_nilCheck rfl (h_.d 4 19)),
   fun _ h_ => rk (fa 1 rfl (h_.d 5 20)),
   fun _ h_ => rk (ld hS6 4 rfl (h_.d 6 21)),
   fun _ h_ => rk (run_addI rfl (h_.d 7 22) rfl (by omega) rfl), ?_⟩
  have hSp := hS6
  clear hS6
  replace hSp := hSp.freeze
  replace hSp := hSp.front (i := 7) rfl
  replace hSp : S κ ((wheelA p.wg s.w) :: (blkA ap 174 #[i6 x.lan, i6 x.prio, i6 x.cost, i6 ((stepF x.i 0 []).self), i6 ((stepF x.i 0 []).prio), i6 ((stepF x.i 0 []).state), i6 ((stepF x.i 0 []).dr), i6 ((stepF x.i 0 []).bdr), pt pg 0]) :: (peersA pg x.p) :: (sepA (((zipO p.pts s.ports).map portO).eraseIdx k)) :: (blkA p.g 168 #[i6 s.id, i6 s.now, i6 s.number, ptO p0, ptO p1, ptO p2, ptO p3, .map (some p.tm), .map (some p.mm), pt p.dg 0, pt p.wg 0, pt p.lg 0, pt p.ag 0, .slice v.A s.out.length v.c]) :: (talksA p.tm s.talks) :: (mapA keyE toldE p.mm s.mine) :: (dbA p.dg s.db) :: (rxmtA p.lg s.lists) :: (acksA p.ag s.later) :: (outA v s.out) :: L) ((rowA (.slice (some ⟨g6, 0, none⟩) 1 1) 214 6 1 (rowC TmV.cells [tmr 1 x.lan 0])) :: I) w6 := hSp
  refine ⟨fun a_ h_ => st_call (on_none rfl) (run_call rfl (map3 (h_.d 3 18) (h_.d 8 23) (h_.d 15 30)) rfl) (arm_any p.wg 1 _ _ _ [tmr 1 x.lan 0] _ _ (by omega) hSp) ?_, trivial⟩
  rintro e_ w7 ⟨rfl, hS7⟩
  refine ⟨_, rfl, _, rfl, ?_⟩
  clear h_ a_ hSp
  replace hS7 := hS7.dropI
  replace hS7 : S κ ((wheelA p.wg (armF (s.now + 1) [tmr 1 x.lan 0] s.w)) :: (blkA ap 174 #[i6 x.lan, i6 x.prio, i6 x.cost, i6 ((stepF x.i 0 []).self), i6 ((stepF x.i 0 []).prio), i6 ((stepF x.i 0 []).state), i6 ((stepF x.i 0 []).dr), i6 ((stepF x.i 0 []).bdr), pt pg 0]) :: (peersA pg x.p) :: (sepA (((zipO p.pts s.ports).map portO).eraseIdx k)) :: (blkA p.g 168 #[i6 s.id, i6 s.now, i6 s.number, ptO p0, ptO p1, ptO p2, ptO p3, .map (some p.tm), .map (some p.mm), pt p.dg 0, pt p.wg 0, pt p.lg 0, pt p.ag 0, .slice v.A s.out.length v.c]) :: (talksA p.tm s.talks) :: (mapA keyE toldE p.mm s.mine) :: (dbA p.dg s.db) :: (rxmtA p.lg s.lists) :: (acksA p.ag s.later) :: (outA v s.out) :: L) (I) w7 := hS7
  intro a5 hput
  replace s0 := hput.o 0 s0
  replace s1 := hput.o 1 s1
  replace hz := hput.size.trans hz
  replace hd := hput.defers.trans hd
  clear hput
  change Code.wp _ _ _ _ _
  refine wp_seq ?_
  refine seq_l [] hz ?_
  refine ⟨pt ap 0, fun _ h_ => rmv (h_.b 1 s1),
   pt ap 0, fun _ h_ => rk (run_nilCheck rfl (h_.d 0 32)),
   pt ap 3, fun _ h_ => rk (fa 3 rfl (h_.d 1 33)),
   pt ap 5, fun _ h_ => rk (fa 2 rfl (h_.d 2 34)),
   i6 ((stepF x.i 0 []).state), fun _ h_ => rk (ld hS7 1 rfl (h_.d 3 35)),
   .bool (decide (((stepF x.i 0 []).state : Int) = 1)), fun _ h_ => rk (run_cmp rfl (h_.d 4 36) rfl rfl (by first | rfl | exact neq_dec _ _ | exact eq_dec _ _ | simp)), ?_⟩
  intro a8 hput
  replace s0 := hput.o 0 s0
  replace s1 := hput.o 1 s1
  have s37 : sl a8 37 = .bool (decide (((stepF x.i 0 []).state : Int) = 1)) := hput.new 5 37 rfl
  replace hz := hput.size.trans hz
  replace hd := hput.defers.trans hd
  clear hput
  change Code.wp _ _ _ _ _
  refine wp_cond_d s37 (fun hc37 => ?_) (fun hc37 => ?_)
  · clear s37
    refine seq_r [[], [0], [0, 1], [0, 1, 2], [], [4], [4, 5], [4, 5, 6], [4, 5, 6, 7], [], [9], [9, 10], [9, 10, 11], [9, 10, 11, 12], [9, 10, 11, 12, 13], [9, 10, 11, 12, 13, 14], [0, 1, 2, 3, 4, 5, 6, 7, 8, 9, 10, 11, 12, 13, 14, 15]] [15, 16] (.rd 0 (.rd 1 (.rd 2 (.rd 3 (.rd 4 (.rd 5 (.rd 6 (.rd 7 (.rd 8 (.rd 9 (.rd 10 (.rd 11 (.rd 12 (.rd 13 (.rd 14 (.ef 15 (.ag 0 (.ag 1 (.ag 2 (.ag 3 (.ag 4 (.ag 5 (.ag 6 (.ag 7 (.ag 8 (.ef 16 (.fin) .non)))))))))) .non)))))))))))))))) hz fun w9 hb9 => ?_
    replace hS7 := hS7.below hb9
    refine ⟨pt p.g 0, fun _ h_ => rmv (h_.b 0 s0),
     pt p.g 0, fun _ h_ => rk (run_nilCheck rfl (h_.d 0 38)),
     pt p.g 10, fun _ h_ => rk (fa 10 rfl (h_.d 1 39)),
     pt p.wg 0, fun _ h_ => rk (ld hS7 4 rfl (h_.d 2 40)),
     pt p.g 0, fun _ h_ => rmv (h_.b 0 s0),
     pt p.g 0, fun _ h_ => rk (run_nilCheck rfl (h_.d 4 42)),
     pt p.g 1, fun _ h_ => rk (fa 1 rfl (h_.d 5 43)),
     i6 s.now, fun _ h_ => rk (ld hS7 4 rfl (h_.d 6 44)),
     i6 (s.now + 8), fun _ h_ => rk (run_addI rfl (h_.d 7 45) rfl (by omega) rfl),
     pt ap 0, fun _ h_ => rmv (h_.b 1 s1),
     pt ap 0, fun _ h_ => rk (run_nilCheck rfl (h_.d 9 47)),
     pt ap 0, fun _ h_ => rk (fa 0 rfl (h_.d 10 48)),
     pt ap 0, fun _ h_ => rk (fa 0 rfl (h_.d 11 49)),
     i6 x.lan, fun _ h_ => rk (ld hS7 1 rfl (h_.d 12 50)),
     .agg #[i6 2, i6 x.lan, i6 0, i6 0, i6 0, i6 0], fun _ h_ => rk (run_build (vals := #[(0, i6 2), (1, i6 x.lan)]) (r := .agg #[i6 2, i6 x.lan, i6 0, i6 0, i6 0, i6 0]) rfl (bp2 rfl (h_.d 13 51)) (by kernel_rfl)), ?_⟩
    refine ⟨fun a_ h_ => st_lit (e := 214) (vals := [(0, .agg #[i6 2, i6 x.lan, i6 0, i6 0, i6 0, i6 0])]) (cells := #[i6 2, i6 x.lan, i6 0, i6 0, i6 0, i6 0]) hS7 (on_none rfl) rfl (parts1 (h_.d 14 52)) fun g10 w10 hS10 hb10 => ⟨_, rfl, ?_⟩, trivial⟩
    clear h_ a_ hS7
    clear hb10
    have hSr : S κ ((rowA (.slice (some ⟨g10, 0, none⟩) 1 1) 214 6 1 (rowC TmV.cells [tmr 2 x.lan 0])) :: (wheelA p.wg (armF (s.now + 1) [tmr 1 x.lan 0] s.w)) :: (blkA ap 174 #[i6 x.lan, i6 x.prio, i6 x.cost, i6 ((stepF x.i 0 []).self), i6 ((stepF x.i 0 []).prio), i6 ((stepF x.i 0 []).state), i6 ((stepF x.i 0 []).dr), i6 ((stepF x.i 0 []).bdr), pt pg 0]) :: (peersA pg x.p) :: (sepA (((zipO p.pts s.ports).map portO).eraseIdx k)) :: (blkA p.g 168 #[i6 s.id, i6 s.now, i6 s.number, ptO p0, ptO p1, ptO p2, ptO p3, .map (some p.tm), .map (some p.mm), pt p.dg 0, pt p.wg 0, pt p.lg 0, pt p.ag 0, .slice v.A s.out.length v.c]) :: (talksA p.tm s.talks) :: (mapA keyE toldE p.mm s.mine) :: (dbA p.dg s.db) :: (rxmtA p.lg s.lists) :: (acksA p.ag s.later) :: (outA v s.out) :: L) (I) w10 := hS10.litRow rfl (by decide)
    clear hS10
    have hS10 := hSr
    clear hSr
    refine ⟨fun _ h_ => rmv (h_.b 0 s0),
     fun _ h_ => rk (run_nilCheck rfl (h_.d 0 38)),
     fun _ h_ => rk (fa 10 rfl (h_.d 1 39)),
     fun _ h_ => rk (ld hS10 5 rfl (h_.d 2 40)),
     fun _ h_ => rmv (h_.b 0 s0),
     fun _ h_ => rk (run_nilCheck rfl (h_.d 4 42)),
     fun _ h_ => rk (fa 1 rfl (h_.d 5 43)),
     fun _ h_ => rk (ld hS10 5 rfl (h_.d 6 44)),
     fun _ h_ => rk (run_addI rfl (h_.d 7 45) rfl (by omega) rfl), ?_⟩
    have hSp := hS10
    clear hS10
    replace hSp := hSp.freeze
    refine ⟨fun a_ h_ => st_call (on_none rfl) (run_call rfl (map3 (h_.d 3 41) (h_.d 8 46) (h_.d 15 53)) rfl) (arm_any p.wg 1 _ _ _ [tmr 2 x.lan 0] _ _ (by omega) hSp) ?_, trivial⟩
    rintro e_ w11 ⟨rfl, hS11⟩
    refine ⟨_, rfl, _, rfl, ?_⟩
    clear h_ a_ hSp
    replace hS11 := hS11.dropI
    replace hS11 : S κ ((wheelA p.wg (armF (s.now + 8) [tmr 2 x.lan 0] (armF (s.now + 1) [tmr 1 x.lan 0] s.w))) :: (blkA ap 174 #[i6 x.lan, i6 x.prio, i6 x.cost, i6 ((stepF x.i 0 []).self), i6 ((stepF x.i 0 []).prio), i6 ((stepF x.i 0 []).state), i6 ((stepF x.i 0 []).dr), i6 ((stepF x.i 0 []).bdr), pt pg 0]) :: (peersA pg x.p) :: (sepA (((zipO p.pts s.ports).map portO).eraseIdx k)) :: (blkA p.g 168 #[i6 s.id, i6 s.now, i6 s.number, ptO p0, ptO p1, ptO p2, ptO p3, .map (some p.tm), .map (some p.mm), pt p.dg 0, pt p.wg 0, pt p.lg 0, pt p.ag 0, .slice v.A s.out.length v.c]) :: (talksA p.tm s.talks) :: (mapA keyE toldE p.mm s.mine) :: (dbA p.dg s.db) :: (rxmtA p.lg s.lists) :: (acksA p.ag s.later) :: (outA v s.out) :: L) (I) w11 := hS11
    intro a9 hput
    replace hz := hput.size.trans hz
    replace hd := hput.defers.trans hd
    clear hput s0 s1
    show bodyPost _ _ _ .ret _ _
    refine ret0 (P := Try.prog) (fn := Try.f108) hd (hR_ _ _ ?_)
    replace hS11 := hS11.front (i := 10) rfl
    replace hS11 := hS11.front (i := 10) rfl
    replace hS11 := hS11.front (i := 10) rfl
    replace hS11 := hS11.front (i := 3) rfl
    replace hS11 := hS11.front (i := 10) rfl
    replace hS11 := hS11.front (i := 10) rfl
    replace hS11 := hS11.front (i := 10) rfl
    replace hS11 := hS11.front (i := 10) rfl
    replace hS11 := hS11.front (i := 10) rfl
    replace hS11 := hS11.front (i := 10) rfl
    replace hS11 := hS11.front (i := 10) rfl
    replace hS11 : S κ ((blkA ap 174 #[i6 x.lan, i6 x.prio, i6 x.cost, i6 ((stepF x.i 0 []).self), i6 ((stepF x.i 0 []).prio), i6 ((stepF x.i 0 []).state), i6 ((stepF x.i 0 []).dr), i6 ((stepF x.i 0 []).bdr), pt pg 0]) :: (peersA pg x.p) :: (sepA (((zipO p.pts s.ports).map portO).eraseIdx k)) :: (blkA p.g 168 #[i6 s.id, i6 s.now, i6 s.number, ptO p0, ptO p1, ptO p2, ptO p3, .map (some p.tm), .map (some p.mm), pt p.dg 0, pt p.wg 0, pt p.lg 0, pt p.ag 0, .slice v.A s.out.length v.c]) :: (talksA p.tm s.talks) :: (mapA keyE toldE p.mm s.mine) :: (dbA p.dg s.db) :: (wheelA p.wg (armF (s.now + 8) [tmr 2 x.lan 0] (armF (s.now + 1) [tmr 1 x.lan 0] s.w))) :: (rxmtA p.lg s.lists) :: (acksA p.ag s.later) :: (outA v s.out) :: L) (I) w11 := hS11
    have hc1 := ports_put hk hx (port_close (x := { x with i := (stepF x.i 0 []) }) hS11)
    replace hc1 := hc1.front (i := 1) rfl
    have hF2 : Fits p (upF k x s) := ⟨hp4, by simp only [upF, List.length_set]; exact hs4, by simp only [upF]; rw [hsame]; exact (some_set hx).symm⟩
    have e : (upF k x s).w = (armF (s.now + 8) [tmr 2 x.lan 0] (armF (s.now + 1) [tmr 1 x.lan 0] s.w)) := by simp only [upF]; rw [if_pos hc37]
    rw [← e] at hc1
    have e3 : roCells p (upF k x s) v = #[i6 s.id, i6 s.now, i6 s.number, ptO p0, ptO p1, ptO p2, ptO p3, .map (some p.tm), .map (some p.mm), pt p.dg 0, pt p.wg 0, pt p.lg 0, pt p.ag 0, .slice v.A s.out.length v.c] := hro
    exact ⟨rfl, ro_close (v := v) hF2 (by rw [e3]; exact hc1)⟩
  · clear s37
    refine wp_skip ?_
    show bodyPost _ _ _ .ret _ _
    refine ret0 (P := Try.prog) (fn := Try.f108) hd (hR_ _ _ ?_)
    replace hS7 := hS7.front (i := 10) rfl
    replace hS7 := hS7.front (i := 10) rfl
    replace hS7 := hS7.front (i := 10) rfl
    replace hS7 := hS7.front (i := 3) rfl
    replace hS7 := hS7.front (i := 10) rfl
    replace hS7 := hS7.front (i := 10) rfl
    replace hS7 := hS7.front (i := 10) rfl
    replace hS7 := hS7.front (i := 10) rfl
    replace hS7 := hS7.front (i := 10) rfl
    replace hS7 := hS7.front (i := 10) rfl
    replace hS7 := hS7.front (i := 10) rfl
    replace hS7 : S κ ((blkA ap 174 #[i6 x.lan, i6 x.prio, i6 x.cost, i6 ((stepF x.i 0 []).self), i6 ((stepF x.i 0 []).prio), i6 ((stepF x.i 0 []).state), i6 ((stepF x.i 0 []).dr), i6 ((stepF x.i 0 []).bdr), pt pg 0]) :: (peersA pg x.p) :: (sepA (((zipO p.pts s.ports).map portO).eraseIdx k)) :: (blkA p.g 168 #[i6 s.id, i6 s.now, i6 s.number, ptO p0, ptO p1, ptO p2, ptO p3, .map (some p.tm), .map (some p.mm), pt p.dg 0, pt p.wg 0, pt p.lg 0, pt p.ag 0, .slice v.A s.out.length v.c]) :: (talksA p.tm s.talks) :: (mapA keyE toldE p.mm s.mine) :: (dbA p.dg s.db) :: (wheelA p.wg (armF (s.now + 1) [tmr 1 x.lan 0] s.w)) :: (rxmtA p.lg s.lists) :: (acksA p.ag s.later) :: (outA v s.out) :: L) (I) w7 := hS7
    have hc1 := ports_put hk hx (port_close (x := { x with i := (stepF x.i 0 []) }) hS7)
    replace hc1 := hc1.front (i := 1) rfl
    have hF2 : Fits p (upF k x s) := ⟨hp4, by simp only [upF, List.length_set]; exact hs4, by simp only [upF]; rw [hsame]; exact (some_set hx).symm⟩
    have e : (upF k x s).w = (armF (s.now + 1) [tmr 1 x.lan 0] s.w) := by simp only [upF]; rw [if_neg hc37]
    rw [← e] at hc1
    have e3 : roCells p (upF k x s) v = #[i6 s.id, i6 s.now, i6 s.number, ptO p0, ptO p1, ptO p2, ptO p3, .map (some p.tm), .map (some p.mm), pt p.dg 0, pt p.wg 0, pt p.lg 0, pt p.ag 0, .slice v.A s.out.length v.c] := hro
    exact ⟨rfl, ro_close (v := v) hF2 (by rw [e3]; exact hc1)⟩
end Go.Proofs.Ytdenfgnkbfbpmaa
