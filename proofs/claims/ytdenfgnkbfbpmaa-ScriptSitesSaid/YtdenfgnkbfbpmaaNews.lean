/-
  Timers, lists, descriptions, acknowledgements, neighbors: what begins; timers armed.
-/
import Derived.Test.YtdenfgnkbfbpmaaState
namespace Go.Proofs.Ytdenfgnkbfbpmaa
open Go.RowKit
set_option linter.unusedSimpArgs false
set_option linter.unusedVariables false

theorem S.addEmpty2 {κ : Kap} {L I : List Atom} {w : World} {a b : Atom} (h : S κ (a :: b :: L) I w) : S κ (a :: b :: sepA [] :: L) I w :=
  ((S.sep_close (l := []) h).perm (List.Perm.swap _ _ _)).perm (List.Perm.cons _ (List.Perm.swap _ _ _))
set_option maxRecDepth 100000 in
set_option maxHeartbeats 800000 in
theorem wheelNew_any {κ : Kap} {L I : List Atom}  (W : World) (hS : S κ (L) (I) W) :
    Calls Try.prog 103 #[] W (fun r w' => ∃ g, r = .returned (pt g 0) ∧ S κ (wheelA g [] :: L) I w') := by
  refine calls_walk Try.func103 rfl fun R_ hR_ a hz hd hargs => ?_
  replace hz : a.tmps.size = 4 := hz.trans (by kernel_rfl)
  clear hargs
  refine wp_seq ?_
  refine seq_l [] hz ?_
  refine ⟨.pointer none, fun _ h_ => rk (run_assign rfl rfl), ?_⟩
  intro a2 hput
  have s0 : sl a2 0 = .pointer none := hput.new 0 0 rfl
  replace hz := hput.size.trans hz
  replace hd := hput.defers.trans hd
  clear hput
  change Code.wp _ _ _ _ _
  refine wp_seq ?_
  refine seq_l [0, 2] hz ?_
  refine ⟨fun a_ h_ => st_makeMap (α := TmV) (β := Int) tmE intE hS (on_none rfl) rfl fun g4 w4 hS4 hb4 => ⟨_, rfl, ?_⟩, trivial⟩
  clear h_ a_ hS
  clear hb4
  refine ⟨.agg #[.map (some g4)], fun _ h_ => rk (run_build (vals := #[(0, .map (some g4))]) (r := .agg #[.map (some g4)]) rfl (bp1 (h_.d 0 1)) (by kernel_rfl)), ?_⟩
  refine ⟨fun a_ h_ => st_box (cells := #[.map (some g4)]) hS4 (on_none rfl) rfl (h_.d 1 2) (by kernel_rfl) fun g5 w5 hS5 hb5 => ⟨_, rfl, ?_⟩, trivial⟩
  clear h_ a_ hS4
  clear hb5
  refine ⟨pt g5 0, fun _ h_ => ras (h_.d 2 3), ?_⟩
  intro a3 hput
  replace s0 : sl a3 0 = pt g5 0 := hput.new 3 0 rfl
  replace hz := hput.size.trans hz
  replace hd := hput.defers.trans hd
  clear hput
  change Code.wp _ _ _ _ _
  refine wp_ret ?_
  refine ret1 (P := Try.prog) (fn := Try.f103) hd s0 (hR_ _ _ ?_)
  exact ⟨_, rfl, wheel_close hS5⟩
set_option maxRecDepth 100000 in
set_option maxHeartbeats 800000 in
theorem rxmtNew_any {κ : Kap} {L I : List Atom}  (W : World) (hS : S κ (L) (I) W) :
    Calls Try.prog 104 #[] W (fun r w' => ∃ g, r = .returned (pt g 0) ∧ S κ (rxmtA g [] :: L) I w') := by
  refine calls_walk Try.func104 rfl fun R_ hR_ a hz hd hargs => ?_
  replace hz : a.tmps.size = 4 := hz.trans (by kernel_rfl)
  clear hargs
  refine wp_seq ?_
  refine seq_l [] hz ?_
  refine ⟨.pointer none, fun _ h_ => rk (run_assign rfl rfl), ?_⟩
  intro a2 hput
  have s0 : sl a2 0 = .pointer none := hput.new 0 0 rfl
  replace hz := hput.size.trans hz
  replace hd := hput.defers.trans hd
  clear hput
  change Code.wp _ _ _ _ _
  refine wp_seq ?_
  refine seq_l [0, 2] hz ?_
  refine ⟨fun a_ h_ => st_makeMap (α := EnV) (β := Int) enE intE hS (on_none rfl) rfl fun g4 w4 hS4 hb4 => ⟨_, rfl, ?_⟩, trivial⟩
  clear h_ a_ hS
  clear hb4
  refine ⟨.agg #[.map (some g4)], fun _ h_ => rk (run_build (vals := #[(0, .map (some g4))]) (r := .agg #[.map (some g4)]) rfl (bp1 (h_.d 0 1)) (by kernel_rfl)), ?_⟩
  refine ⟨fun a_ h_ => st_box (cells := #[.map (some g4)]) hS4 (on_none rfl) rfl (h_.d 1 2) (by kernel_rfl) fun g5 w5 hS5 hb5 => ⟨_, rfl, ?_⟩, trivial⟩
  clear h_ a_ hS4
  clear hb5
  refine ⟨pt g5 0, fun _ h_ => ras (h_.d 2 3), ?_⟩
  intro a3 hput
  replace s0 : sl a3 0 = pt g5 0 := hput.new 3 0 rfl
  replace hz := hput.size.trans hz
  replace hd := hput.defers.trans hd
  clear hput
  change Code.wp _ _ _ _ _
  refine wp_ret ?_
  refine ret1 (P := Try.prog) (fn := Try.f104) hd s0 (hR_ _ _ ?_)
  exact ⟨_, rfl, rxmt_close hS5⟩
set_option maxRecDepth 100000 in
set_option maxHeartbeats 800000 in
theorem acksNew_any {κ : Kap} {L I : List Atom}  (W : World) (hS : S κ (L) (I) W) :
    Calls Try.prog 105 #[] W (fun r w' => ∃ g, r = .returned (pt g 0) ∧ S κ (acksA g [] :: L) I w') := by
  refine calls_walk Try.func105 rfl fun R_ hR_ a hz hd hargs => ?_
  replace hz : a.tmps.size = 4 := hz.trans (by kernel_rfl)
  clear hargs
  refine wp_seq ?_
  refine seq_l [] hz ?_
  refine ⟨.pointer none, fun _ h_ => rk (run_assign rfl rfl), ?_⟩
  intro a2 hput
  have s0 : sl a2 0 = .pointer none := hput.new 0 0 rfl
  replace hz := hput.size.trans hz
  replace hd := hput.defers.trans hd
  clear hput
  change Code.wp _ _ _ _ _
  refine wp_seq ?_
  refine seq_l [0, 2] hz ?_
  refine ⟨fun a_ h_ => st_makeMap (α := Int) (β := Value × List HD) intE (fun x => x.1) hS (on_none rfl) rfl fun g4 w4 hS4 hb4 => ⟨_, rfl, ?_⟩, trivial⟩
  clear h_ a_ hS
  clear hb4
  refine ⟨.agg #[.map (some g4)], fun _ h_ => rk (run_build (vals := #[(0, .map (some g4))]) (r := .agg #[.map (some g4)]) rfl (bp1 (h_.d 0 1)) (by kernel_rfl)), ?_⟩
  refine ⟨fun a_ h_ => st_box (cells := #[.map (some g4)]) hS4 (on_none rfl) rfl (h_.d 1 2) (by kernel_rfl) fun g5 w5 hS5 hb5 => ⟨_, rfl, ?_⟩, trivial⟩
  clear h_ a_ hS4
  clear hb5
  refine ⟨pt g5 0, fun _ h_ => ras (h_.d 2 3), ?_⟩
  intro a3 hput
  replace s0 : sl a3 0 = pt g5 0 := hput.new 3 0 rfl
  replace hz := hput.size.trans hz
  replace hd := hput.defers.trans hd
  clear hput
  change Code.wp _ _ _ _ _
  refine wp_ret ?_
  refine ret1 (P := Try.prog) (fn := Try.f105) hd s0 (hR_ _ _ ?_)
  exact ⟨_, rfl, acks_close (q := []) rfl (hS5.addEmpty2)⟩
/-- room, within its bounds -/
def roomF (room : Int) : Int := if 40 < (if (1 : Int) > room then 1 else room) then 40 else (if (1 : Int) > room then 1 else room)
set_option maxRecDepth 100000 in
set_option maxHeartbeats 800000 in
theorem dbNew_any {κ : Kap} {L I : List Atom} (room : Int) (W : World) (hS : S κ (L) (I) W) :
    Calls Try.prog 102 #[i6 room] W (fun r w' => ∃ g, r = .returned (pt g 0) ∧ S κ (dbA g ⟨roomF room, []⟩ :: L) I w') := by
  refine calls_walk Try.func102 rfl fun R_ hR_ a hz hd hargs => ?_
  replace hz : a.tmps.size = 9 := hz.trans (by kernel_rfl)
  have s0 := hargs 0 _ rfl
  clear hargs
  refine wp_seq ?_
  refine seq_l [] hz ?_
  refine ⟨.pointer none, fun _ h_ => rk (run_assign rfl rfl), ?_⟩
  intro a2 hput
  replace s0 := hput.o 0 s0
  have s2 : sl a2 2 = .pointer none := hput.new 0 2 rfl
  replace hz := hput.size.trans hz
  replace hd := hput.defers.trans hd
  clear hput
  change Code.wp _ _ _ _ _
  refine wp_seq ?_
  refine seq_l [3, 5] hz ?_
  refine ⟨i6 room, fun _ h_ => rmv (h_.b 0 s0),
   i6 (if (1 : Int) > room then 1 else room), fun _ h_ => rk (run_maxI rfl (h_.d 0 3) rfl rfl),
   i6 (roomF room), fun _ h_ => rk (run_minI rfl (h_.d 1 4) rfl rfl), ?_⟩
  refine ⟨fun a_ h_ => st_makeMap (α := KeyV) (β := LV × LP) keyE lsaE hS (on_none rfl) rfl fun g4 w4 hS4 hb4 => ⟨_, rfl, ?_⟩, trivial⟩
  clear h_ a_ hS
  clear hb4
  refine ⟨.agg #[i6 (roomF room), .map (some g4)], fun _ h_ => rk (run_build (vals := #[(0, i6 (roomF room)), (1, .map (some g4))]) (r := .agg #[i6 (roomF room), .map (some g4)]) rfl (bp2 (h_.d 2 5) (h_.d 3 6)) (by kernel_rfl)), ?_⟩
  refine ⟨fun a_ h_ => st_box (cells := #[i6 (roomF room), .map (some g4)]) hS4 (on_none rfl) rfl (h_.d 4 7) (by kernel_rfl) fun g5 w5 hS5 hb5 => ⟨_, rfl, ?_⟩, trivial⟩
  clear h_ a_ hS4
  clear hb5
  refine ⟨pt g5 0, fun _ h_ => ras (h_.d 5 8), ?_⟩
  intro a3 hput
  replace s2 : sl a3 2 = pt g5 0 := hput.new 6 2 rfl
  replace hz := hput.size.trans hz
  replace hd := hput.defers.trans hd
  clear hput s0
  change Code.wp _ _ _ _ _
  refine wp_ret ?_
  refine ret1 (P := Try.prog) (fn := Try.f102) hd s2 (hR_ _ _ ?_)
  exact ⟨_, rfl, db_close (d := ⟨roomF room, []⟩) (q := []) rfl (hS5.addEmpty2)⟩
theorem S.nothing {κ : Kap} {L I : List Atom} {w : World} (h : S κ L I w) : S κ (peerA none :: L) I w := S.pure_close trivial (S.sep_close (l := []) h)
theorem S.nothings {κ : Kap} {I : List Atom} {w : World} : ∀ (n : Nat) {L : List Atom}, S κ L I w → S κ (List.replicate n (peerA none) ++ L) I w
  | 0, _, h => h
  | n + 1, _, h => S.nothing (S.nothings n h)
theorem peers_none {κ : Kap} {L I : List Atom} {w : World} {a : Atom} (h : S κ (a :: L) I w) : S κ (a :: sepA ((List.replicate 16 (none : Option (Nat × PeV))).map peerA) :: L) I w := by
  rw [List.map_replicate]
  have h1 := S.nothings 16 h
  exact (S.sep_close h1).perm (List.Perm.swap _ _ _)
set_option maxRecDepth 100000 in
set_option maxHeartbeats 800000 in
theorem peersNew_any {κ : Kap} {L I : List Atom} (self lan : Int) (W : World) (hS : S κ (L) (I) W) :
    Calls Try.prog 107 #[i6 self, i6 lan] W (fun r w' => ∃ g, r = .returned (pt g 0) ∧ S κ (peersA g ⟨self, lan, List.replicate 16 none⟩ :: L) I w') := by
  refine calls_walk Try.func107 rfl fun R_ hR_ a hz hd hargs => ?_
  replace hz : a.tmps.size = 9 := hz.trans (by kernel_rfl)
  have s0 := hargs 0 _ rfl
  have s1 := hargs 1 _ rfl
  clear hargs
  refine wp_seq ?_
  refine seq_l [] hz ?_
  refine ⟨.pointer none, fun _ h_ => rk (run_assign rfl rfl), ?_⟩
  intro a2 hput
  replace s0 := hput.o 0 s0
  replace s1 := hput.o 1 s1
  have s4 : sl a2 4 = .pointer none := hput.new 0 4 rfl
  replace hz := hput.size.trans hz
  replace hd := hput.defers.trans hd
  clear hput
  change Code.wp _ _ _ _ _
  refine wp_seq ?_
  refine seq_l [3] hz ?_
  refine ⟨i6 self, fun _ h_ => rmv (h_.b 0 s0),
   i6 lan, fun _ h_ => rmv (h_.b 1 s1),
   .agg #[i6 self, i6 lan, .pointer none, .pointer none, .pointer none, .pointer none, .pointer none, .pointer none, .pointer none, .pointer none, .pointer none, .pointer none, .pointer none, .pointer none, .pointer none, .pointer none, .pointer none, .pointer none], fun _ h_ => rk (run_build (vals := #[(0, i6 self), (1, i6 lan)]) (r := .agg #[i6 self, i6 lan, .pointer none, .pointer none, .pointer none, .pointer none, .pointer none, .pointer none, .pointer none, .pointer none, .pointer none, .pointer none, .pointer none, .pointer none, .pointer none, .pointer none, .pointer none, .pointer none]) rfl (bp2 (h_.d 0 5) (h_.d 1 6)) (by kernel_rfl)), ?_⟩
  refine ⟨fun a_ h_ => st_box (cells := #[i6 self, i6 lan, .pointer none, .pointer none, .pointer none, .pointer none, .pointer none, .pointer none, .pointer none, .pointer none, .pointer none, .pointer none, .pointer none, .pointer none, .pointer none, .pointer none, .pointer none, .pointer none]) hS (on_none rfl) rfl (h_.d 2 7) (by kernel_rfl) fun g4 w4 hS4 hb4 => ⟨_, rfl, ?_⟩, trivial⟩
  clear h_ a_ hS
  clear hb4
  refine ⟨pt g4 0, fun _ h_ => ras (h_.d 3 8), ?_⟩
  intro a3 hput
  replace s4 : sl a3 4 = pt g4 0 := hput.new 4 4 rfl
  replace hz := hput.size.trans hz
  replace hd := hput.defers.trans hd
  clear hput s0 s1
  change Code.wp _ _ _ _ _
  refine wp_ret ?_
  refine ret1 (P := Try.prog) (fn := Try.f107) hd s4 (hR_ _ _ ?_)
  exact ⟨_, rfl, peers_close (p := ⟨self, lan, List.replicate 16 none⟩) (q := List.replicate 16 none) rfl rfl (peers_none hS4)⟩
/-- timers armed -/
def armF (tick : Int) (ts : List TmV) (l : List (TmV × Int)) : List (TmV × Int) := ts.foldl (fun l t => putL t tick l) l
theorem armF_next {tick : Int} {ts : List TmV} {l : List (TmV × Int)} {k : Nat} {z : TmV} (hz : ts[k]? = some z) : putL z tick (armF tick (ts.take k) l) = armF tick (ts.take (k + 1)) l := by
  rw [take_snoc ts k z hz, armF, armF, List.foldl_append]; rfl
theorem TmV.cells_len (x : TmV) : x.cells.length = 6 := rfl
theorem tms_len {w : World} {B n : Nat} {A : Option Addr} {l : List TmV} (h : Reads w B 6 A n (rowC TmV.cells l)) : l.length = n := by have := h.1; rw [rowC_length TmV.cells 6 TmV.cells_len] at this; omega
set_option maxRecDepth 100000 in
set_option maxHeartbeats 800000 in
theorem arm_any {κ : Kap} {L I : List Atom} (g n c : Nat) (tick : Int) (A : Option Addr) (ts : List TmV) (l : List (TmV × Int)) (W : World) (hn : n ≤ 100000) (hS : S κ ((wheelA g l) :: L) ((rowA (.slice A n c) 214 6 n (rowC TmV.cells ts)) :: I) W) :
    Calls Try.prog 131 #[pt g 0, i6 tick, .slice A n c] W (fun r w' => r = .returned (.tuple #[]) ∧ S κ (wheelA g (armF tick ts l) :: L) (rowA (.slice A n c) 214 6 n (rowC TmV.cells ts) :: I) w') := by
  obtain ⟨m, hS⟩ := wheel_open hS
  refine calls_walk Try.func131 rfl fun R_ hR_ a hz hd hargs => ?_
  replace hz : a.tmps.size = 23 := hz.trans (by kernel_rfl)
  have s0 := hargs 0 _ rfl
  have s1 := hargs 1 _ rfl
  have s2 := hargs 2 _ rfl
  clear hargs
  refine wp_seq ?_
  refine wp_seq ?_
  refine seq_l [] hz ?_
  refine ⟨pt g 0, fun _ h_ => rmv (h_.b 0 s0),
   .bool false, fun _ h_ => rk (run_bin2 rfl (h_.d 0 8) rfl (fun _ => by kernel_rfl) (fun _ => rfl)), ?_⟩
  intro a2 hput
  replace s0 := hput.o 0 s0
  replace s1 := hput.o 1 s1
  replace s2 := hput.o 2 s2
  have s9 : sl a2 9 = .bool false := hput.new 1 9 rfl
  replace hz := hput.size.trans hz
  replace hd := hput.defers.trans hd
  clear hput
  change Code.wp _ _ _ _ _
  refine wp_cond_false s9 ?_
  refine wp_skip ?_
  change Code.wp _ _ _ _ _
  refine wp_seq ?_
  refine seq_l [] hz ?_
  refine ⟨.slice A n c, fun _ h_ => rmv (h_.b 2 s2),
   i6 n, fun _ h_ => rk (run_lenS rfl (h_.d 0 10) (by kernel_rfl)),
   i6 0, fun _ h_ => rk (run_move rfl rfl), ?_⟩
  intro a3 hput
  replace s0 := hput.o 0 s0
  replace s1 := hput.o 1 s1
  have s10 : sl a3 10 = .slice A n c := hput.new 0 10 rfl
  have s11 : sl a3 11 = i6 n := hput.new 1 11 rfl
  have s12 : sl a3 12 = i6 0 := hput.new 2 12 rfl
  replace hz := hput.size.trans hz
  replace hd := hput.defers.trans hd
  clear hput s2 s9
  change Code.wp _ _ _ _ _
  refine wp_block ?_
  refine wp_loop (fun a_ w_ => ∃ k : Nat, (k ≤ n) ∧ a_.tmps.size = 23 ∧ a_.defers = [] ∧ sl a_ 0 = pt g 0 ∧ sl a_ 1 = i6 tick ∧ sl a_ 10 = .slice A n c ∧ sl a_ 11 = i6 n ∧ sl a_ 12 = i6 k ∧ S κ ((blkA g 199 #[.map (some m)]) :: (mapA tmE intE m (armF tick (ts.take k) l)) :: L) ((rowA (.slice A n c) 214 6 n (rowC TmV.cells ts)) :: I) w_) (fun a_ _ => n - (intOf (sl a_ 12)).toNat) ?_ ?_
  · exact ⟨0, Nat.zero_le _, hz, hd, s0, s1, s10, s11, s12, hS⟩
  · clear hz hd s0 s1 s10 s11 s12 hS
    rintro a4 w4 ⟨k, hc0_0, hz, hd, s0, s1, s10, s11, s12, hS4⟩
    have hmu0 := s12
    refine wp_seq ?_
    refine seq_l [] hz ?_
    refine ⟨.bool (decide ((k : Int) < n)), fun _ h_ => rk (run_cmp rfl (h_.b 12 s12) (h_.b 11 s11) rfl (by first | rfl | exact neq_dec _ _ | exact eq_dec _ _ | simp)), ?_⟩
    intro a5 hput
    replace s0 := hput.o 0 s0
    replace s1 := hput.o 1 s1
    replace s10 := hput.o 10 s10
    replace s11 := hput.o 11 s11
    replace s12 := hput.o 12 s12
    have s13 : sl a5 13 = .bool (decide ((k : Int) < n)) := hput.new 0 13 rfl
    replace hz := hput.size.trans hz
    replace hd := hput.defers.trans hd
    clear hput
    change Code.wp _ _ _ _ _
    refine wp_seq ?_
    refine wp_cond_d s13 (fun hc13 => ?_) (fun hc13 => ?_)
    · clear s13
      refine wp_skip ?_
      change Code.wp _ _ _ _ _
      refine wp_seq ?_
      refine wp_block ?_
      refine wp_seq ?_
      refine seq_l [2, 3] hz ?_
      obtain ⟨b7, o7, z7, hA7, hb7, hz7, hq7⟩ := Reads.row_at TmV.cells 6 TmV.cells_len (k := k) (hS4.rdI (i := 0) rfl) (by decide) (by omega)
      refine ⟨pt b7 (o7 + k * 6), fun _ h_ => rk (run_indexV (size := 6) rfl (h_.b 10 s10) hA7 (h_.b 12 s12) (by kernel_rfl) (by omega) (by simp)),
       .agg #[i6 z7.kind, i6 z7.lan, i6 z7.id, i6 z7.k.kind, i6 z7.k.id, i6 z7.k.adv], fun _ h_ => rk (run_loadV (size := 6) (cs := TmV.cells z7) rfl (h_.d 0 14) (by kernel_rfl) rfl hq7), ?_⟩
      refine ⟨fun a_ h_ => st_alloc (cells := #[i6 0, i6 0, i6 0, i6 0, i6 0, i6 0]) hS4 (on_none rfl) rfl (by kernel_rfl) fun g8 w8 hS8 hb8 => ⟨_, rfl, ?_⟩, trivial⟩
      clear h_ a_ hS4
      clear hb8
      refine ⟨fun a_ h_ => st_store (n := 6) (cells := #[i6 z7.kind, i6 z7.lan, i6 z7.id, i6 z7.k.kind, i6 z7.k.id, i6 z7.k.adv]) (cs' := #[i6 z7.kind, i6 z7.lan, i6 z7.id, i6 z7.k.kind, i6 z7.k.id, i6 z7.k.adv]) 0 hS8 rfl (on_none rfl) rfl (h_.d 2 7) (h_.d 1 15) rfl (by kernel_rfl) ⟨Nat.le_of_ble_eq_true rfl, rfl, by kernel_rfl⟩ rfl fun w9 hS9 he9 => ⟨_, rfl, ?_⟩, trivial⟩
      clear h_ a_ he9 hS8
      replace hS9 : S κ ((blkA g8 214 #[i6 z7.kind, i6 z7.lan, i6 z7.id, i6 z7.k.kind, i6 z7.k.id, i6 z7.k.adv]) :: (blkA g 199 #[.map (some m)]) :: (mapA tmE intE m (armF tick (ts.take k) l)) :: L) ((rowA (.slice A n c) 214 6 n (rowC TmV.cells ts)) :: I) w9 := hS9
      intro a6 hput
      replace s0 := hput.o 0 s0
      replace s1 := hput.o 1 s1
      have s7 : sl a6 7 = pt g8 0 := hput.new 2 7 rfl
      replace s10 := hput.o 10 s10
      replace s11 := hput.o 11 s11
      replace s12 := hput.o 12 s12
      have s14 : sl a6 14 = pt b7 (o7 + k * 6) := hput.new 0 14 rfl
      have s15 : sl a6 15 = .agg #[i6 z7.kind, i6 z7.lan, i6 z7.id, i6 z7.k.kind, i6 z7.k.id, i6 z7.k.adv] := hput.new 1 15 rfl
      replace hz := hput.size.trans hz
      replace hd := hput.defers.trans hd
      clear hput
      change Code.wp _ _ _ _ _
      refine seq_r [[], [0], [0, 1], [0, 1, 2], [], [], [0, 1, 2, 3, 4, 5]] [6] (.rd 0 (.rd 1 (.rd 2 (.rd 3 (.rd 4 (.rd 5 (.ef 6 (.fin) .non))))))) hz fun w10 hb10 => ?_
      replace hS9 := hS9.below hb10
      refine ⟨pt g 0, fun _ h_ => rmv (h_.b 0 s0),
       pt g 0, fun _ h_ => rk (run_nilCheck rfl (h_.d 0 16)),
       pt g 0, fun _ h_ => rk (fa 0 rfl (h_.d 1 17)),
       .map (some m), fun _ h_ => rk (ld hS9 1 rfl (h_.d 2 18)),
       .agg #[i6 z7.kind, i6 z7.lan, i6 z7.id, i6 z7.k.kind, i6 z7.k.id, i6 z7.k.adv], fun _ h_ => rk (lbS 6 (hS9.blk (i := 0) rfl) rfl (h_.b 7 s7)),
       i6 tick, fun _ h_ => rmv (h_.b 1 s1), ?_⟩
      refine ⟨fun a_ h_ => st_mapset (E := 3) 2 z7 tick tm_key hS9 (on_none rfl) (.inl rfl) (h_.d 3 19) (h_.d 4 20) (h_.d 5 21) fun w11 hS11 => ⟨_, rfl, ?_⟩, trivial⟩
      clear h_ a_ hS9
      replace hS11 : S κ ((blkA g8 214 #[i6 z7.kind, i6 z7.lan, i6 z7.id, i6 z7.k.kind, i6 z7.k.id, i6 z7.k.adv]) :: (blkA g 199 #[.map (some m)]) :: (mapA tmE intE m (putL z7 tick (armF tick (ts.take k) l))) :: L) ((rowA (.slice A n c) 214 6 n (rowC TmV.cells ts)) :: I) w11 := hS11
      intro a10 hput
      replace s0 := hput.o 0 s0
      replace s1 := hput.o 1 s1
      replace s7 := hput.o 7 s7
      replace s10 := hput.o 10 s10
      replace s11 := hput.o 11 s11
      replace s12 := hput.o 12 s12
      replace s14 := hput.o 14 s14
      replace s15 := hput.o 15 s15
      have s16 : sl a10 16 = pt g 0 := hput.new 0 16 rfl
      have s17 : sl a10 17 = pt g 0 := hput.new 1 17 rfl
      have s18 : sl a10 18 = pt g 0 := hput.new 2 18 rfl
      have s19 : sl a10 19 = .map (some m) := hput.new 3 19 rfl
      have s20 : sl a10 20 = .agg #[i6 z7.kind, i6 z7.lan, i6 z7.id, i6 z7.k.kind, i6 z7.k.id, i6 z7.k.adv] := hput.new 4 20 rfl
      have s21 : sl a10 21 = i6 tick := hput.new 5 21 rfl
      replace hz := hput.size.trans hz
      replace hd := hput.defers.trans hd
      clear hput
      change Code.wp _ _ _ _ _
      refine seq_l [] hz ?_
      refine ⟨i6 (k + 1), fun _ h_ => rk (run_addI rfl (h_.b 12 s12) rfl (by omega) rfl),
       i6 (k + 1), fun _ h_ => rmv (h_.d 0 22), ?_⟩
      intro a12 hput
      replace s0 := hput.o 0 s0
      replace s1 := hput.o 1 s1
      replace s7 := hput.o 7 s7
      replace s10 := hput.o 10 s10
      replace s11 := hput.o 11 s11
      replace s12 : sl a12 12 = i6 (k + 1) := hput.new 1 12 rfl
      replace s14 := hput.o 14 s14
      replace s15 := hput.o 15 s15
      replace s16 := hput.o 16 s16
      replace s17 := hput.o 17 s17
      replace s18 := hput.o 18 s18
      replace s19 := hput.o 19 s19
      replace s20 := hput.o 20 s20
      replace s21 := hput.o 21 s21
      have s22 : sl a12 22 = i6 (k + 1) := hput.new 0 22 rfl
      replace hz := hput.size.trans hz
      replace hd := hput.defers.trans hd
      clear hput
      rw [armF_next hz7] at hS11
      have hSd := hS11.drop
      refine ⟨⟨k + 1, by omega, hz, hd, s0, s1, s10, s11, s12, hSd⟩, ?_⟩
      show n - (intOf (sl a12 12)).toNat < n - (intOf (sl a4 12)).toNat
      rw [show sl a12 12 = _ from s12, show sl a4 12 = _ from hmu0]
      simp only [intOf]
      omega
    · clear s13
      refine wp_exit ?_
      show bodyPost _ _ _ .ret _ _
      refine ret0 (P := Try.prog) (fn := Try.f131) hd (hR_ _ _ ?_)
      obtain rfl : k = n := by omega
      have hln := tms_len (hS4.rdI (i := 0) rfl)
      rw [List.take_of_length_le (by omega)] at hS4
      exact ⟨rfl, (wheel_close hS4)⟩
/-- may a port be -/
def portOk (lan prio cost : Int) : Prop := 0 ≤ lan ∧ lan ≤ 3 ∧ 0 ≤ prio ∧ prio ≤ 255 ∧ 1 ≤ cost ∧ cost ≤ 100
instance (lan prio cost : Int) : Decidable (portOk lan prio cost) := by unfold portOk; infer_instance
set_option maxRecDepth 100000 in
set_option maxHeartbeats 800000 in
theorem portRight_any (lan prio cost : Int) (W : World) :
    Calls Try.prog 106 #[.agg #[i6 lan, i6 prio, i6 cost]] W (fun r w' => r = .returned (.bool (decide (portOk lan prio cost))) ∧ Below W.heap.size W w') := by
  have hS := S.start W
  refine calls_walk Try.func106 rfl fun R_ hR_ a hz hd hargs => ?_
  replace hz : a.tmps.size = 31 := hz.trans (by kernel_rfl)
  have s0 := hargs 0 _ rfl
  clear hargs
  refine wp_seq ?_
  refine seq_l [0] hz ?_
  refine ⟨fun a_ h_ => st_box (cells := #[i6 lan, i6 prio, i6 cost]) hS (on_none rfl) rfl (h_.b 0 s0) (by kernel_rfl) fun g3 w3 hS3 hb3 => ⟨_, rfl, ?_⟩, trivial⟩
  clear h_ a_ hS
  clear hb3
  refine ⟨.bool false, fun _ h_ => rk (run_assign rfl rfl), ?_⟩
  intro a2 hput
  have s1 : sl a2 1 = pt g3 0 := hput.new 0 1 rfl
  have s2 : sl a2 2 = .bool false := hput.new 1 2 rfl
  replace hz := hput.size.trans hz
  replace hd := hput.defers.trans hd
  clear hput s0
  change Code.wp _ _ _ _ _
  refine wp_seq ?_
  refine seq_l [] hz ?_
  refine ⟨pt g3 0, fun _ h_ => rk (fa 0 rfl (h_.b 1 s1)),
   i6 lan, fun _ h_ => rk (ld hS3 0 rfl (h_.d 0 3)),
   .bool (decide ((0 : Int) ≤ lan)), fun _ h_ => rk (run_cmp rfl (h_.d 1 4) rfl rfl (by first | rfl | exact neq_dec _ _ | exact eq_dec _ _ | simp)),
   .bool (decide ((0 : Int) ≤ lan)), fun _ h_ => rmv (h_.d 2 5), ?_⟩
  rcases dt ((0 : Int) ≤ lan) with ⟨he, hg3⟩ | ⟨he, hg3⟩
  · rw [he]
    clear he
    refine ⟨pt g3 0, fun _ h_ => r_ok (h_.on 3 6) (fa 0 rfl (h_.b 1 s1)),
     i6 lan, fun _ h_ => r_ok (h_.on 3 6) (ld hS3 0 rfl (h_.d 4 7)),
     .bool (decide ((lan : Int) ≤ 3)), fun _ h_ => r_ok (h_.on 3 6) (run_cmp rfl (h_.d 5 8) rfl rfl (by first | rfl | exact neq_dec _ _ | exact eq_dec _ _ | simp)),
     .bool (decide ((lan : Int) ≤ 3)), fun _ h_ => rk (run_pick_t rfl (h_.d 3 6) (h_.d 6 9)),
     .bool (decide ((lan : Int) ≤ 3)), fun _ h_ => rmv (h_.d 7 10), ?_⟩
    rcases dt ((lan : Int) ≤ 3) with ⟨he, hg8⟩ | ⟨he, hg8⟩
    · rw [he]
      clear he
      refine ⟨pt g3 1, fun _ h_ => r_ok (h_.on 8 11) (fa 1 rfl (h_.b 1 s1)),
       i6 prio, fun _ h_ => r_ok (h_.on 8 11) (ld hS3 0 rfl (h_.d 9 12)),
       .bool (decide ((0 : Int) ≤ prio)), fun _ h_ => r_ok (h_.on 8 11) (run_cmp rfl (h_.d 10 13) rfl rfl (by first | rfl | exact neq_dec _ _ | exact eq_dec _ _ | simp)),
       .bool (decide ((0 : Int) ≤ prio)), fun _ h_ => rk (run_pick_t rfl (h_.d 8 11) (h_.d 11 14)),
       .bool (decide ((0 : Int) ≤ prio)), fun _ h_ => rmv (h_.d 12 15), ?_⟩
      rcases dt ((0 : Int) ≤ prio) with ⟨he, hg13⟩ | ⟨he, hg13⟩
      · rw [he]
        clear he
        refine ⟨pt g3 1, fun _ h_ => r_ok (h_.on 13 16) (fa 1 rfl (h_.b 1 s1)),
         i6 prio, fun _ h_ => r_ok (h_.on 13 16) (ld hS3 0 rfl (h_.d 14 17)),
         .bool (decide ((prio : Int) ≤ 255)), fun _ h_ => r_ok (h_.on 13 16) (run_cmp rfl (h_.d 15 18) rfl rfl (by first | rfl | exact neq_dec _ _ | exact eq_dec _ _ | simp)),
         .bool (decide ((prio : Int) ≤ 255)), fun _ h_ => rk (run_pick_t rfl (h_.d 13 16) (h_.d 16 19)),
         .bool (decide ((prio : Int) ≤ 255)), fun _ h_ => rmv (h_.d 17 20), ?_⟩
        rcases dt ((prio : Int) ≤ 255) with ⟨he, hg18⟩ | ⟨he, hg18⟩
        · rw [he]
          clear he
          refine ⟨pt g3 2, fun _ h_ => r_ok (h_.on 18 21) (fa 2 rfl (h_.b 1 s1)),
           i6 cost, fun _ h_ => r_ok (h_.on 18 21) (ld hS3 0 rfl (h_.d 19 22)),
           .bool (decide ((1 : Int) ≤ cost)), fun _ h_ => r_ok (h_.on 18 21) (run_cmp rfl (h_.d 20 23) rfl rfl (by first | rfl | exact neq_dec _ _ | exact eq_dec _ _ | simp)),
           .bool (decide ((1 : Int) ≤ cost)), fun _ h_ => rk (run_pick_t rfl (h_.d 18 21) (h_.d 21 24)),
           .bool (decide ((1 : Int) ≤ cost)), fun _ h_ => rmv (h_.d 22 25), ?_⟩
          rcases dt ((1 : Int) ≤ cost) with ⟨he, hg23⟩ | ⟨he, hg23⟩
          · rw [he]
            clear he
            refine ⟨pt g3 2, fun _ h_ => r_ok (h_.on 23 26) (fa 2 rfl (h_.b 1 s1)),
             i6 cost, fun _ h_ => r_ok (h_.on 23 26) (ld hS3 0 rfl (h_.d 24 27)),
             .bool (decide ((cost : Int) ≤ 100)), fun _ h_ => r_ok (h_.on 23 26) (run_cmp rfl (h_.d 25 28) rfl rfl (by first | rfl | exact neq_dec _ _ | exact eq_dec _ _ | simp)),
             .bool (decide ((cost : Int) ≤ 100)), fun _ h_ => rk (run_pick_t rfl (h_.d 23 26) (h_.d 26 29)),
             .bool (decide ((cost : Int) ≤ 100)), fun _ h_ => ras (h_.d 27 30), ?_⟩
            intro a4 hput
            replace s2 : sl a4 2 = .bool (decide ((cost : Int) ≤ 100)) := hput.new 28 2 rfl
            replace hz := hput.size.trans hz
            replace hd := hput.defers.trans hd
            clear hput s1
            change Code.wp _ _ _ _ _
            refine wp_ret ?_
            refine ret1 (P := Try.prog) (fn := Try.f106) hd s2 (hR_ _ _ ?_)
            refine ⟨?_, (hS3.old (by simp))⟩
            congr 2
            first | (rw [decide_eq_decide]; unfold portOk; omega) | exact (decide_eq_false (by unfold portOk; omega)).symm | exact (decide_eq_true (by unfold portOk; omega)).symm
          · rw [he]
            clear he
            refine seq_off (j := 23) (d := 26) (b := true) [24, 25, 26] _ (by kernel_rfl) (.inl rfl) ?_
            refine ⟨.bool false, fun _ h_ => rk (run_pick_f rfl (h_.d 23 26) rfl),
             .bool false, fun _ h_ => ras (h_.d 27 30), ?_⟩
            intro a4 hput
            replace s2 : sl a4 2 = .bool false := hput.new 28 2 rfl
            replace hz := hput.size.trans hz
            replace hd := hput.defers.trans hd
            clear hput s1
            change Code.wp _ _ _ _ _
            refine wp_ret ?_
            refine ret1 (P := Try.prog) (fn := Try.f106) hd s2 (hR_ _ _ ?_)
            refine ⟨?_, (hS3.old (by simp))⟩
            congr 2
            first | (rw [decide_eq_decide]; unfold portOk; omega) | exact (decide_eq_false (by unfold portOk; omega)).symm | exact (decide_eq_true (by unfold portOk; omega)).symm
        · rw [he]
          clear he
          refine seq_off (j := 18) (d := 21) (b := true) [19, 20, 21] _ (by kernel_rfl) (.inl rfl) ?_
          refine ⟨.bool false, fun _ h_ => rk (run_pick_f rfl (h_.d 18 21) rfl),
           .bool false, fun _ h_ => rmv (h_.d 22 25), ?_⟩
          refine seq_off (j := 23) (d := 26) (b := true) [24, 25, 26] _ (by kernel_rfl) (.inl rfl) ?_
          refine ⟨.bool false, fun _ h_ => rk (run_pick_f rfl (h_.d 23 26) rfl),
           .bool false, fun _ h_ => ras (h_.d 27 30), ?_⟩
          intro a4 hput
          replace s2 : sl a4 2 = .bool false := hput.new 28 2 rfl
          replace hz := hput.size.trans hz
          replace hd := hput.defers.trans hd
          clear hput s1
          change Code.wp _ _ _ _ _
          refine wp_ret ?_
          refine ret1 (P := Try.prog) (fn := Try.f106) hd s2 (hR_ _ _ ?_)
          refine ⟨?_, (hS3.old (by simp))⟩
          congr 2
          first | (rw [decide_eq_decide]; unfold portOk; omega) | exact (decide_eq_false (by unfold portOk; omega)).symm | exact (decide_eq_true (by unfold portOk; omega)).symm
      · rw [he]
        clear he
        refine seq_off (j := 13) (d := 16) (b := true) [14, 15, 16] _ (by kernel_rfl) (.inl rfl) ?_
        refine ⟨.bool false, fun _ h_ => rk (run_pick_f rfl (h_.d 13 16) rfl),
         .bool false, fun _ h_ => rmv (h_.d 17 20), ?_⟩
        refine seq_off (j := 18) (d := 21) (b := true) [19, 20, 21] _ (by kernel_rfl) (.inl rfl) ?_
        refine ⟨.bool false, fun _ h_ => rk (run_pick_f rfl (h_.d 18 21) rfl),
         .bool false, fun _ h_ => rmv (h_.d 22 25), ?_⟩
        refine seq_off (j := 23) (d := 26) (b := true) [24, 25, 26] _ (by kernel_rfl) (.inl rfl) ?_
        refine ⟨.bool false, fun _ h_ => rk (run_pick_f rfl (h_.d 23 26) rfl),
         .bool false, fun _ h_ => ras (h_.d 27 30), ?_⟩
        intro a4 hput
        replace s2 : sl a4 2 = .bool false := hput.new 28 2 rfl
        replace hz := hput.size.trans hz
        replace hd := hput.defers.trans hd
        clear hput s1
        change Code.wp _ _ _ _ _
        refine wp_ret ?_
        refine ret1 (P := Try.prog) (fn := Try.f106) hd s2 (hR_ _ _ ?_)
        refine ⟨?_, (hS3.old (by simp))⟩
        congr 2
        first | (rw [decide_eq_decide]; unfold portOk; omega) | exact (decide_eq_false (by unfold portOk; omega)).symm | exact (decide_eq_true (by unfold portOk; omega)).symm
    · rw [he]
      clear he
      refine seq_off (j := 8) (d := 11) (b := true) [9, 10, 11] _ (by kernel_rfl) (.inl rfl) ?_
      refine ⟨.bool false, fun _ h_ => rk (run_pick_f rfl (h_.d 8 11) rfl),
       .bool false, fun _ h_ => rmv (h_.d 12 15), ?_⟩
      refine seq_off (j := 13) (d := 16) (b := true) [14, 15, 16] _ (by kernel_rfl) (.inl rfl) ?_
      refine ⟨.bool false, fun _ h_ => rk (run_pick_f rfl (h_.d 13 16) rfl),
       .bool false, fun _ h_ => rmv (h_.d 17 20), ?_⟩
      refine seq_off (j := 18) (d := 21) (b := true) [19, 20, 21] _ (by kernel_rfl) (.inl rfl) ?_
      refine ⟨.bool false, fun _ h_ => rk (run_pick_f rfl (h_.d 18 21) rfl),
       .bool false, fun _ h_ => rmv (h_.d 22 25), ?_⟩
      refine seq_off (j := 23) (d := 26) (b := true) [24, 25, 26] _ (by kernel_rfl) (.inl rfl) ?_
      refine ⟨.bool false, fun _ h_ => rk (run_pick_f rfl (h_.d 23 26) rfl),
       .bool false, fun _ h_ => ras (h_.d 27 30), ?_⟩
      intro a4 hput
      replace s2 : sl a4 2 = .bool false := hput.new 28 2 rfl
      replace hz := hput.size.trans hz
      replace hd := hput.defers.trans hd
      clear hput s1
      change Code.wp _ _ _ _ _
      refine wp_ret ?_
      refine ret1 (P := Try.prog) (fn := Try.f106) hd s2 (hR_ _ _ ?_)
      refine ⟨?_, (hS3.old (by simp))⟩
      congr 2
      first | (rw [decide_eq_decide]; unfold portOk; omega) | exact (decide_eq_false (by unfold portOk; omega)).symm | exact (decide_eq_true (by unfold portOk; omega)).symm
  · rw [he]
    clear he
    refine seq_off (j := 3) (d := 6) (b := true) [4, 5, 6] _ (by kernel_rfl) (.inl rfl) ?_
    refine ⟨.bool false, fun _ h_ => rk (run_pick_f rfl (h_.d 3 6) rfl),
     .bool false, fun _ h_ => rmv (h_.d 7 10), ?_⟩
    refine seq_off (j := 8) (d := 11) (b := true) [9, 10, 11] _ (by kernel_rfl) (.inl rfl) ?_
    refine ⟨.bool false, fun _ h_ => rk (run_pick_f rfl (h_.d 8 11) rfl),
     .bool false, fun _ h_ => rmv (h_.d 12 15), ?_⟩
    refine seq_off (j := 13) (d := 16) (b := true) [14, 15, 16] _ (by kernel_rfl) (.inl rfl) ?_
    refine ⟨.bool false, fun _ h_ => rk (run_pick_f rfl (h_.d 13 16) rfl),
     .bool false, fun _ h_ => rmv (h_.d 17 20), ?_⟩
    refine seq_off (j := 18) (d := 21) (b := true) [19, 20, 21] _ (by kernel_rfl) (.inl rfl) ?_
    refine ⟨.bool false, fun _ h_ => rk (run_pick_f rfl (h_.d 18 21) rfl),
     .bool false, fun _ h_ => rmv (h_.d 22 25), ?_⟩
    refine seq_off (j := 23) (d := 26) (b := true) [24, 25, 26] _ (by kernel_rfl) (.inl rfl) ?_
    refine ⟨.bool false, fun _ h_ => rk (run_pick_f rfl (h_.d 23 26) rfl),
     .bool false, fun _ h_ => ras (h_.d 27 30), ?_⟩
    intro a4 hput
    replace s2 : sl a4 2 = .bool false := hput.new 28 2 rfl
    replace hz := hput.size.trans hz
    replace hd := hput.defers.trans hd
    clear hput s1
    change Code.wp _ _ _ _ _
    refine wp_ret ?_
    refine ret1 (P := Try.prog) (fn := Try.f106) hd s2 (hR_ _ _ ?_)
    refine ⟨?_, (hS3.old (by simp))⟩
    congr 2
    first | (rw [decide_eq_decide]; unfold portOk; omega) | exact (decide_eq_false (by unfold portOk; omega)).symm | exact (decide_eq_true (by unfold portOk; omega)).symm
end Go.Proofs.Ytdenfgnkbfbpmaa
