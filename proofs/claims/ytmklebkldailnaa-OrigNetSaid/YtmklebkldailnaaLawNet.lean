/-
  OrigNet: the walk of the law.
-/
import Derived.Test.YtmklebkldailnaaNet2
import Derived.Test.YtmklebkldailnaaRight
import Derived.Test.YtmklebkldailnaaWakes
namespace Go.Proofs.Ytmklebkldailnaa
open Go.RowKit
set_option linter.unusedSimpArgs false
set_option linter.unusedVariables false

theorem great_no {x : VV × VP} (h : ([x].any greatB || decide (10 < ((1 : Nat) : Int))) = false) : x.1.peers.length ≤ 30 ∧ 0 ≤ x.1.lan ∧ x.1.lan ≤ 3 := by
  simp [greatB] at h
  omega
/-- what is new of a description is only read from then on -/
theorem S.pushL {κ : Kap} {L I : List Atom} {w w' : World} {l : LV} {q : LP} (hS : S κ L I w) (hb : Below w.heap.size w w') (hO : LOwn w' w.heap.size l q) :
    S κ L (rowA (.slice q.A l.links.length q.c) 69 4 l.links.length (rowC Lk.cells l.links) :: rowA (.slice q.B l.mem.length q.d) 3 1 l.mem.length (ints l.mem) :: I) w' := by
  refine hS.pushIs (M := [_, _]) hb fun a ha => ?_
  simp only [List.mem_cons, List.not_mem_nil, or_false] at ha
  rcases ha with rfl | rfl
  · exact ⟨_, ⟨rfl, own_mono hO.links (Nat.zero_le _)⟩, fun b hb => (own_base hO.links (by simpa using hb)).1⟩
  · exact ⟨_, ⟨rfl, own_mono hO.mem (Nat.zero_le _)⟩, fun b hb => (own_base hO.mem (by simpa using hb)).1⟩
theorem lok_of {κ : Kap} {L I : List Atom} {w : World} {l : LV} {q : LP} (hS : S κ L I w) (i : Nat) (h1 : I[i]? = some (rowA (.slice q.A l.links.length q.c) 69 4 l.links.length (rowC Lk.cells l.links)) := by rfl) (h2 : I[i + 1]? = some (rowA (.slice q.B l.mem.length q.d) 3 1 l.mem.length (ints l.mem)) := by rfl) : LOK w l q :=
  ⟨Reads.of_own (hS.rowI h1), Reads.of_own (hS.rowI h2)⟩
theorem netM_mem (self : Int) (v : VV) (hs : 1 ≤ self ∧ self ≤ 15) : ∀ k : Nat, k ≤ 16 → memB 0 (netM self v (List.range k)) = true ∧ (netM self v (List.range k)).getLastD 0 < max k 1
  | 0, _ => ⟨rfl, by show (0 : Int) < ((max 0 1 : Nat) : Int); decide⟩
  | k + 1, hk => by
    obtain ⟨h1, h2⟩ := netM_mem self v hs k (by omega)
    rw [List.range_succ, netM_snoc]
    split
    · rename_i hc
      have hk0 : 1 ≤ k := by
        rcases hc with hc | hc
        · omega
        · omega
      rw [memB_snoc, h1]
      refine ⟨?_, by simp; omega⟩
      simp only [Bool.true_and, decide_eq_true_eq]
      omega
    · rw [List.append_nil]
      exact ⟨h1, by omega⟩
theorem netM_pos (self : Int) (v : VV) : ∀ (l : List Nat) (k : Nat), k ∈ l → (k : Int) = self → 0 < (netM self v l).length
  | [], k, h, _ => by cases h
  | x :: l, k, h, e => by
    rw [netM, List.length_append]
    rcases List.mem_cons.1 h with rfl | h
    · rw [if_pos (.inl e)]; simp; omega
    · have := netM_pos self v l k h e; omega
def one_ (l : LV) : LV := { l with hd := { l.hd with seq := 1 } }
theorem net_right (self : Int) (v : VV) (hs : 1 ≤ self ∧ self ≤ 15) (hl : 0 ≤ v.lan ∧ v.lan ≤ 3) : rightB (one_ (netF self v)) = true := by
  refine rb_m3 ⟨?_, ?_, ?_, ?_⟩ ?_ ?_ rfl ?_ (netM_mem self v hs 16 (by omega)).1
  · show (0 : Int) ≤ 0 ∧ (0 : Int) ≤ 60; omega
  · show (1 : Int) ≤ 2 ∧ (2 : Int) ≤ 2; omega
  · show 1 ≤ self ∧ self ≤ 15; exact hs
  · show (-2147483647 : Int) ≤ 1 ∧ (1 : Int) ≤ 2147483647; omega
  · show ¬ (2 : Int) = 1; omega
  · show 0 ≤ v.lan * 16 + self ∧ v.lan * 16 + self ≤ 63; omega
  · exact netM_pos self v (List.range 16) self.toNat (List.mem_range.2 (by omega)) (by omega)
theorem same19_eq (x y : LV) (p q : LP) (W : World) (hx : LOK W x p) (hy : LOK W y q) (h1 : x.links.length ≤ 5000) (h2 : y.links.length ≤ 5000) (h3 : x.mem.length ≤ 5000) (h4 : y.mem.length ≤ 5000) (h : x = y) :
    Calls Try.prog 13 #[.agg (lsaA x p), .agg (lsaA y q)] W fun r w' => r = .returned (.bool true) ∧ Below W.heap.size W w' :=
  (same19_any x y p q W hx hy h1 h2 h3 h4).mono fun r w' ⟨h1, h2⟩ => ⟨by rw [h1, decide_eq_true h], h2⟩
theorem right04_eq (l : LV) (p : LP) (W : World) (h1 : l.links.length ≤ 100000) (h2 : l.mem.length ≤ 100000) (hok : LOK W l p) (h : rightB l = true) :
    Calls Try.prog 19 #[.agg (lsaA l p)] W fun r w' => r = .returned (.bool true) ∧ Below W.heap.size W w' :=
  (right04_any l p W h1 h2 hok).mono fun r w' ⟨h1, h2⟩ => ⟨by rw [h1, h], h2⟩
theorem netF_small (self : Int) (v : VV) : (netF self v).links.length ≤ 5000 ∧ (netF self v).mem.length ≤ 5000 := ⟨by simp [netF], by have := netM_len self v (List.range 16); simp at this; show (netM self v (List.range 16)).length ≤ 5000; omega⟩
theorem netR_yes {self : Int} {v : VV} (h : hasB v = true) : netR self v = netF self v := by unfold netR; rw [h]; rfl
theorem netR_no {self : Int} {v : VV} (h : hasB v = false) : netR self v = default := by unfold netR; rw [h]; rfl
theorem netR_small (self : Int) (v : VV) : (netR self v).links.length ≤ 5000 ∧ (netR self v).mem.length ≤ 5000 := by
  unfold netR
  split
  · exact netF_small self v
  · exact ⟨by decide, by decide⟩
set_option maxRecDepth 100000 in
set_option maxHeartbeats 800000 in
theorem lawNet_any (self : Int) (v : VV) (p : VP) (W : World) (hu : 0 ≤ self ∧ self < 256) (hv : VOK W v p) :
    Calls Try.prog 5 #[.int .u8 self, .agg #[i6 v.lan, i6 v.cost, i6 v.self, i6 v.prio, i6 v.state, i6 v.dr, i6 v.bdr, .slice p.A v.peers.length p.c, .slice p.B p.m p.d]] W (fun r w' => r = .returned (.bool true) ∧ Below W.heap.size W w') := by
  have hS := S.start W
  refine calls_walk Try.func5 rfl fun R_ hR_ a hz hd hargs => ?_
  replace hz : a.tmps.size = 51 := hz.trans (by kernel_rfl)
  have s0 := hargs 0 _ rfl
  have s1 := hargs 1 _ rfl
  clear hargs
  refine wp_seq ?_
  refine seq_l [0] hz ?_
  refine ⟨fun a_ h_ => st_box (cells := #[i6 v.lan, i6 v.cost, i6 v.self, i6 v.prio, i6 v.state, i6 v.dr, i6 v.bdr, .slice p.A v.peers.length p.c, .slice p.B p.m p.d]) hS (on_none rfl) rfl (h_.b 1 s1) (by kernel_rfl) fun g3 w3 hS3 hb3 => ⟨_, rfl, ?_⟩, trivial⟩
  clear h_ a_ hS
  clear hb3
  refine ⟨.bool false, fun _ h_ => rk (run_assign rfl rfl), ?_⟩
  intro a2 hput
  replace s0 := hput.o 0 s0
  have s3 : sl a2 3 = pt g3 0 := hput.new 0 3 rfl
  have s4 : sl a2 4 = .bool false := hput.new 1 4 rfl
  replace hz := hput.size.trans hz
  replace hd := hput.defers.trans hd
  clear hput s1
  change Code.wp _ _ _ _ _
  refine wp_seq ?_
  refine wp_seq ?_
  refine seq_l [0] hz ?_
  refine ⟨fun a_ h_ => st_call (on_none rfl) (run_call rfl (by simp) rfl) (wakes_any _) ?_, trivial⟩
  rintro e w5 ⟨rfl, hb5⟩
  refine ⟨_, rfl, _, rfl, ?_⟩
  clear h_ a_
  have hS5 := hS3.below hb5
  clear hS3 hb5
  refine ⟨.bool false, fun _ h_ => rk (run_not rfl (h_.d 0 9) rfl), ?_⟩
  intro a4 hput
  replace s0 := hput.o 0 s0
  replace s3 := hput.o 3 s3
  replace s4 := hput.o 4 s4
  have s10 : sl a4 10 = .bool false := hput.new 1 10 rfl
  replace hz := hput.size.trans hz
  replace hd := hput.defers.trans hd
  clear hput
  change Code.wp _ _ _ _ _
  refine wp_cond_false s10 ?_
  refine wp_skip ?_
  change Code.wp _ _ _ _ _
  refine wp_seq ?_
  refine wp_seq ?_
  refine seq_l [1, 2] hz ?_
  refine ⟨.agg #[i6 v.lan, i6 v.cost, i6 v.self, i6 v.prio, i6 v.state, i6 v.dr, i6 v.bdr, .slice p.A v.peers.length p.c, .slice p.B p.m p.d], fun _ h_ => rk (lbS 9 (hS5.blk (i := 0) rfl) rfl (h_.b 3 s3)), ?_⟩
  refine ⟨fun a_ h_ => st_lit (e := 48) (vals := [(0, .agg #[i6 v.lan, i6 v.cost, i6 v.self, i6 v.prio, i6 v.state, i6 v.dr, i6 v.bdr, .slice p.A v.peers.length p.c, .slice p.B p.m p.d])]) (cells := #[i6 v.lan, i6 v.cost, i6 v.self, i6 v.prio, i6 v.state, i6 v.dr, i6 v.bdr, .slice p.A v.peers.length p.c, .slice p.B p.m p.d]) hS5 (on_none rfl) rfl (parts1 (h_.d 0 11)) fun g7 w7 hS7 hb7 => ⟨_, rfl, ?_⟩, trivial⟩
  clear h_ a_ hS5
  clear hb7
  refine ⟨fun a_ h_ => st_call (on_none rfl) (run_call rfl (map1 (h_.d 1 12)) rfl) (great_any _ 1 _ [(v, p)] _ (by omega) ((reads_blk (size := 9) (n := 1) (hS7.blk (i := 0) rfl) rfl).more (hS7.blk (i := 0) rfl).lt)) ?_, trivial⟩
  rintro e w8 ⟨rfl, hb8⟩
  refine ⟨_, rfl, _, rfl, ?_⟩
  clear h_ a_
  have hS8 := hS7.below hb8
  clear hS7 hb8
  intro a6 hput
  replace s0 := hput.o 0 s0
  replace s3 := hput.o 3 s3
  replace s4 := hput.o 4 s4
  have s13 : sl a6 13 = .bool ([(v, p)].any greatB || decide (10 < ((1 : Nat) : Int))) := hput.new 2 13 rfl
  replace hz := hput.size.trans hz
  replace hd := hput.defers.trans hd
  clear hput s10
  change Code.wp _ _ _ _ _
  refine wp_cond_b s13 (fun hc13 => ?_) (fun hc13 => ?_)
  · clear s13
    refine wp_seq ?_
    refine seq_l [] hz ?_
    refine ⟨.bool true, fun _ h_ => rk (run_assign rfl rfl), ?_⟩
    intro a9 hput
    replace s0 := hput.o 0 s0
    replace s3 := hput.o 3 s3
    replace s4 : sl a9 4 = .bool true := hput.new 0 4 rfl
    replace hz := hput.size.trans hz
    replace hd := hput.defers.trans hd
    clear hput
    change Code.wp _ _ _ _ _
    refine wp_ret ?_
    refine ret1 (P := Try.prog) (fn := Try.f5) hd s4 (hR_ _ _ ?_)
    exact ⟨rfl, (hS8.old (by simp))⟩
  · clear s13
    obtain ⟨hn, hl⟩ := great_no hc13
    refine wp_skip ?_
    change Code.wp _ _ _ _ _
    refine wp_seq ?_
    refine seq_l [] hz ?_
    refine ⟨.int .u8 self, fun _ h_ => rmv (h_.b 0 s0),
     i6 self, fun _ h_ => rk (run_conv rfl (h_.d 0 14) (by kernel_rfl) (wrap_i64 (by omega)) (by kernel_rfl)),
     i6 (self % 15), fun _ h_ => rk (run_bin rfl (h_.d 1 15) rfl (by show (pure _ : Sem Value) = pure _; exact congrArg _ (congrArg _ (Int.tmod_eq_emod_of_nonneg hu.1)))),
     i6 (1 + (self % 15)), fun _ h_ => rk (run_addI rfl rfl (h_.d 2 16) (by omega) rfl),
     i6 (1 + (self % 15)), fun _ h_ => ras (h_.d 3 17), ?_⟩
    intro a10 hput
    replace s3 := hput.o 3 s3
    replace s4 := hput.o 4 s4
    have s5 : sl a10 5 = i6 (1 + (self % 15)) := hput.new 4 5 rfl
    replace hz := hput.size.trans hz
    replace hd := hput.defers.trans hd
    clear hput s0
    change Code.wp _ _ _ _ _
    refine wp_seq ?_
    refine seq_l [2, 6, 7] hz ?_
    refine ⟨i6 (1 + (self % 15)), fun _ h_ => rmv (h_.b 5 s5),
     .agg #[i6 v.lan, i6 v.cost, i6 v.self, i6 v.prio, i6 v.state, i6 v.dr, i6 v.bdr, .slice p.A v.peers.length p.c, .slice p.B p.m p.d], fun _ h_ => rk (lbS 9 (hS8.blk (i := 1) rfl) rfl (h_.b 3 s3)), ?_⟩
    refine ⟨fun a_ h_ => st_call (on_none rfl) (run_call rfl (map2 (h_.d 0 19) (h_.d 1 20)) rfl) (net_any (1 + self % 15) v p _ (Reads.old hv (hS8.old (by simp))) hn (by omega) hl) ?_, trivial⟩
    rintro e w12 ⟨q12, rfl, hO, hb12⟩
    refine ⟨_, rfl, _, rfl, ?_⟩
    clear h_ a_
    have hS12 := hS8.pushL hb12 hO
    clear hO hb12 hS8
    refine ⟨.tuple #[.agg #[i6 ((netR (1 + self % 15) v).hd.age), i6 ((netR (1 + self % 15) v).hd.kind), i6 ((netR (1 + self % 15) v).hd.id), i6 ((netR (1 + self % 15) v).hd.adv), i6 ((netR (1 + self % 15) v).hd.seq), i6 ((netR (1 + self % 15) v).hd.sum), i6 ((netR (1 + self % 15) v).hd.long), .slice q12.A ((netR (1 + self % 15) v).links.length) q12.c, .slice q12.B ((netR (1 + self % 15) v).mem.length) q12.d], .bool (hasB v)], fun _ h_ => rmv (h_.d 2 21),
     .agg #[i6 ((netR (1 + self % 15) v).hd.age), i6 ((netR (1 + self % 15) v).hd.kind), i6 ((netR (1 + self % 15) v).hd.id), i6 ((netR (1 + self % 15) v).hd.adv), i6 ((netR (1 + self % 15) v).hd.seq), i6 ((netR (1 + self % 15) v).hd.sum), i6 ((netR (1 + self % 15) v).hd.long), .slice q12.A ((netR (1 + self % 15) v).links.length) q12.c, .slice q12.B ((netR (1 + self % 15) v).mem.length) q12.d], fun _ h_ => rk (run_extract rfl (h_.d 3 18) rfl),
     .bool (hasB v), fun _ h_ => rk (run_extract rfl (h_.d 3 18) rfl), ?_⟩
    refine ⟨fun a_ h_ => st_alloc (cells := #[i6 0, i6 0, i6 0, i6 0, i6 0, i6 0, i6 0, .slice none 0 0, .slice none 0 0]) hS12 (on_none rfl) rfl (by kernel_rfl) fun g13 w13 hS13 hb13 => ⟨_, rfl, ?_⟩, trivial⟩
    clear h_ a_ hS12
    clear hb13
    refine ⟨fun a_ h_ => st_store (n := 9) (cells := #[i6 ((netR (1 + self % 15) v).hd.age), i6 ((netR (1 + self % 15) v).hd.kind), i6 ((netR (1 + self % 15) v).hd.id), i6 ((netR (1 + self % 15) v).hd.adv), i6 ((netR (1 + self % 15) v).hd.seq), i6 ((netR (1 + self % 15) v).hd.sum), i6 ((netR (1 + self % 15) v).hd.long), .slice q12.A ((netR (1 + self % 15) v).links.length) q12.c, .slice q12.B ((netR (1 + self % 15) v).mem.length) q12.d]) (cs' := #[i6 ((netR (1 + self % 15) v).hd.age), i6 ((netR (1 + self % 15) v).hd.kind), i6 ((netR (1 + self % 15) v).hd.id), i6 ((netR (1 + self % 15) v).hd.adv), i6 ((netR (1 + self % 15) v).hd.seq), i6 ((netR (1 + self % 15) v).hd.sum), i6 ((netR (1 + self % 15) v).hd.long), .slice q12.A ((netR (1 + self % 15) v).links.length) q12.c, .slice q12.B ((netR (1 + self % 15) v).mem.length) q12.d]) 0 hS13 rfl (on_none rfl) rfl (h_.d 6 6) (h_.d 4 22) rfl (by kernel_rfl) ⟨Nat.le_of_ble_eq_true rfl, rfl, by kernel_rfl⟩ rfl fun w14 hS14 he14 => ⟨_, rfl, ?_⟩, trivial⟩
    clear h_ a_ he14 hS13
    replace hS14 : S (kap W) ((blkA g13 27 #[i6 ((netR (1 + self % 15) v).hd.age), i6 ((netR (1 + self % 15) v).hd.kind), i6 ((netR (1 + self % 15) v).hd.id), i6 ((netR (1 + self % 15) v).hd.adv), i6 ((netR (1 + self % 15) v).hd.seq), i6 ((netR (1 + self % 15) v).hd.sum), i6 ((netR (1 + self % 15) v).hd.long), .slice q12.A ((netR (1 + self % 15) v).links.length) q12.c, .slice q12.B ((netR (1 + self % 15) v).mem.length) q12.d]) :: (blkA g7 48 #[i6 v.lan, i6 v.cost, i6 v.self, i6 v.prio, i6 v.state, i6 v.dr, i6 v.bdr, .slice p.A v.peers.length p.c, .slice p.B p.m p.d]) :: (blkA g3 48 #[i6 v.lan, i6 v.cost, i6 v.self, i6 v.prio, i6 v.state, i6 v.dr, i6 v.bdr, .slice p.A v.peers.length p.c, .slice p.B p.m p.d]) :: []) ((rowA (.slice q12.A (netR (1 + self % 15) v).links.length q12.c) 69 4 (netR (1 + self % 15) v).links.length (rowC Lk.cells (netR (1 + self % 15) v).links)) :: (rowA (.slice q12.B (netR (1 + self % 15) v).mem.length q12.d) 3 1 (netR (1 + self % 15) v).mem.length (ints (netR (1 + self % 15) v).mem)) :: (memA W W.heap.size) :: []) w14 := hS14
    refine ⟨.bool (hasB v), fun _ h_ => ras (h_.d 5 23), ?_⟩
    intro a11 hput
    replace s3 := hput.o 3 s3
    replace s4 := hput.o 4 s4
    replace s5 := hput.o 5 s5
    have s6 : sl a11 6 = pt g13 0 := hput.new 6 6 rfl
    have s7 : sl a11 7 = .bool (hasB v) := hput.new 8 7 rfl
    replace hz := hput.size.trans hz
    replace hd := hput.defers.trans hd
    clear hput
    change Code.wp _ _ _ _ _
    refine wp_seq ?_
    refine wp_seq ?_
    refine seq_l [1] hz ?_
    refine ⟨.agg #[i6 v.lan, i6 v.cost, i6 v.self, i6 v.prio, i6 v.state, i6 v.dr, i6 v.bdr, .slice p.A v.peers.length p.c, .slice p.B p.m p.d], fun _ h_ => rk (lbS 9 (hS14.blk (i := 2) rfl) rfl (h_.b 3 s3)), ?_⟩
    refine ⟨fun a_ h_ => st_call (on_none rfl) (run_call rfl (map1 (h_.d 0 24)) rfl) (has_any v p _ (Reads.old hv (hS14.old (by simp))) hn) ?_, trivial⟩
    rintro e w16 ⟨rfl, hb16⟩
    refine ⟨_, rfl, _, rfl, ?_⟩
    clear h_ a_
    have hS16 := hS14.below hb16
    clear hS14 hb16
    refine ⟨.bool (!(hasB v)), fun _ h_ => rk (run_not rfl (h_.d 1 25) rfl), ?_⟩
    intro a15 hput
    replace s3 := hput.o 3 s3
    replace s4 := hput.o 4 s4
    replace s5 := hput.o 5 s5
    replace s6 := hput.o 6 s6
    replace s7 := hput.o 7 s7
    have s26 : sl a15 26 = .bool (!(hasB v)) := hput.new 2 26 rfl
    replace hz := hput.size.trans hz
    replace hd := hput.defers.trans hd
    clear hput
    change Code.wp _ _ _ _ _
    refine wp_cond_b s26 (fun hc26 => ?_) (fun hc26 => ?_)
    · clear s26
      replace hc26 := nbt hc26
      rw [hc26] at s7
      refine wp_seq ?_
      refine seq_l [5] hz ?_
      refine ⟨.bool false, fun _ h_ => rmv (h_.b 7 s7),
       .bool true, fun _ h_ => rk (run_not rfl (h_.d 0 27) rfl),
       .bool true, fun _ h_ => rmv (h_.d 1 28),
       .agg #[i6 ((netR (1 + self % 15) v).hd.age), i6 ((netR (1 + self % 15) v).hd.kind), i6 ((netR (1 + self % 15) v).hd.id), i6 ((netR (1 + self % 15) v).hd.adv), i6 ((netR (1 + self % 15) v).hd.seq), i6 ((netR (1 + self % 15) v).hd.sum), i6 ((netR (1 + self % 15) v).hd.long), .slice q12.A ((netR (1 + self % 15) v).links.length) q12.c, .slice q12.B ((netR (1 + self % 15) v).mem.length) q12.d], fun _ h_ => r_ok (h_.on 2 29) (lbS 9 (hS16.blk (i := 0) rfl) rfl (h_.b 6 s6)),
       .agg #[i6 0, i6 0, i6 0, i6 0, i6 0, i6 0, i6 0, .slice none 0 0, .slice none 0 0], fun _ h_ => r_ok (h_.on 2 29) (run_build (vals := #[]) (r := .agg #[i6 0, i6 0, i6 0, i6 0, i6 0, i6 0, i6 0, .slice none 0 0, .slice none 0 0]) rfl (by simp) (by kernel_rfl)), ?_⟩
      refine ⟨fun a_ h_ => st_call (h_.on 2 29) (run_call rfl (map2 (h_.d 3 30) (h_.d 4 31)) rfl) (same19_eq (netR (1 + self % 15) v) default q12 ⟨none, 0, none, 0⟩ _ (lok_of hS16 0) ⟨Reads.none_, Reads.none_⟩ (netR_small (1 + self % 15) v).1 (by decide) (netR_small (1 + self % 15) v).2 (by decide) (netR_no hc26)) ?_, trivial⟩
      rintro e w18 ⟨rfl, hb18⟩
      refine ⟨_, rfl, _, rfl, ?_⟩
      clear h_ a_
      have hS18 := hS16.below hb18
      clear hS16 hb18
      refine ⟨.bool true, fun _ h_ => rk (run_pick_t rfl (h_.d 2 29) (h_.d 5 32)),
       .bool true, fun _ h_ => ras (h_.d 6 33), ?_⟩
      intro a17 hput
      replace s3 := hput.o 3 s3
      replace s4 : sl a17 4 = .bool true := hput.new 7 4 rfl
      replace s5 := hput.o 5 s5
      replace s6 := hput.o 6 s6
      replace s7 := hput.o 7 s7
      replace hz := hput.size.trans hz
      replace hd := hput.defers.trans hd
      clear hput
      change Code.wp _ _ _ _ _
      refine wp_ret ?_
      refine ret1 (P := Try.prog) (fn := Try.f5) hd s4 (hR_ _ _ ?_)
      exact ⟨rfl, (hS18.old (by simp))⟩
    · clear s26
      replace hc26 := nbf hc26
      rw [hc26] at s7
      refine wp_skip ?_
      change Code.wp _ _ _ _ _
      refine wp_seq ?_
      refine seq_l [2] hz ?_
      refine ⟨pt g13 0, fun _ h_ => rk (fa 0 rfl (h_.b 6 s6)),
       pt g13 4, fun _ h_ => rk (fa 4 rfl (h_.d 0 34)), ?_⟩
      refine ⟨fun a_ h_ => st_store (n := 1) (cells := #[i6 1]) (cs' := #[i6 ((netR (1 + self % 15) v).hd.age), i6 ((netR (1 + self % 15) v).hd.kind), i6 ((netR (1 + self % 15) v).hd.id), i6 ((netR (1 + self % 15) v).hd.adv), i6 1, i6 ((netR (1 + self % 15) v).hd.sum), i6 ((netR (1 + self % 15) v).hd.long), .slice q12.A ((netR (1 + self % 15) v).links.length) q12.c, .slice q12.B ((netR (1 + self % 15) v).mem.length) q12.d]) 0 hS16 rfl (on_none rfl) rfl (h_.d 1 35) rfl rfl (by kernel_rfl) ⟨Nat.le_of_ble_eq_true rfl, rfl, by kernel_rfl⟩ rfl fun w20 hS20 he20 => ⟨_, rfl, ?_⟩, trivial⟩
      clear h_ a_ he20 hS16
      replace hS20 : S (kap W) ((blkA g13 27 #[i6 ((netR (1 + self % 15) v).hd.age), i6 ((netR (1 + self % 15) v).hd.kind), i6 ((netR (1 + self % 15) v).hd.id), i6 ((netR (1 + self % 15) v).hd.adv), i6 1, i6 ((netR (1 + self % 15) v).hd.sum), i6 ((netR (1 + self % 15) v).hd.long), .slice q12.A ((netR (1 + self % 15) v).links.length) q12.c, .slice q12.B ((netR (1 + self % 15) v).mem.length) q12.d]) :: (blkA g7 48 #[i6 v.lan, i6 v.cost, i6 v.self, i6 v.prio, i6 v.state, i6 v.dr, i6 v.bdr, .slice p.A v.peers.length p.c, .slice p.B p.m p.d]) :: (blkA g3 48 #[i6 v.lan, i6 v.cost, i6 v.self, i6 v.prio, i6 v.state, i6 v.dr, i6 v.bdr, .slice p.A v.peers.length p.c, .slice p.B p.m p.d]) :: []) ((rowA (.slice q12.A (netR (1 + self % 15) v).links.length q12.c) 69 4 (netR (1 + self % 15) v).links.length (rowC Lk.cells (netR (1 + self % 15) v).links)) :: (rowA (.slice q12.B (netR (1 + self % 15) v).mem.length q12.d) 3 1 (netR (1 + self % 15) v).mem.length (ints (netR (1 + self % 15) v).mem)) :: (memA W W.heap.size) :: []) w20 := hS20
      intro a19 hput
      replace s3 := hput.o 3 s3
      replace s4 := hput.o 4 s4
      replace s5 := hput.o 5 s5
      replace s6 := hput.o 6 s6
      replace s7 := hput.o 7 s7
      replace hz := hput.size.trans hz
      replace hd := hput.defers.trans hd
      clear hput
      change Code.wp _ _ _ _ _
      refine wp_seq ?_
      refine seq_l [2, 3, 4] hz ?_
      refine ⟨i6 (1 + (self % 15)), fun _ h_ => rmv (h_.b 5 s5),
       .agg #[i6 v.lan, i6 v.cost, i6 v.self, i6 v.prio, i6 v.state, i6 v.dr, i6 v.bdr, .slice p.A v.peers.length p.c, .slice p.B p.m p.d], fun _ h_ => rk (lbS 9 (hS20.blk (i := 2) rfl) rfl (h_.b 3 s3)), ?_⟩
      refine ⟨fun a_ h_ => st_call (on_none rfl) (run_call rfl (map2 (h_.d 0 36) (h_.d 1 37)) rfl) (refNet_any (1 + self % 15) v p _ (Reads.old hv (hS20.old (by simp))) hn (by omega) hl) ?_, trivial⟩
      rintro e w22 ⟨q22, rfl, hO, hb22⟩
      refine ⟨_, rfl, _, rfl, ?_⟩
      clear h_ a_
      have hS22 := hS20.pushL hb22 hO
      clear hO hb22 hS20
      refine ⟨fun a_ h_ => st_alloc (cells := #[i6 0, i6 0, i6 0, i6 0, i6 0, i6 0, i6 0, .slice none 0 0, .slice none 0 0]) hS22 (on_none rfl) rfl (by kernel_rfl) fun g23 w23 hS23 hb23 => ⟨_, rfl, ?_⟩, trivial⟩
      clear h_ a_ hS22
      clear hb23
      refine ⟨fun a_ h_ => st_store (n := 9) (cells := #[i6 ((netF (1 + self % 15) v).hd.age), i6 ((netF (1 + self % 15) v).hd.kind), i6 ((netF (1 + self % 15) v).hd.id), i6 ((netF (1 + self % 15) v).hd.adv), i6 ((netF (1 + self % 15) v).hd.seq), i6 ((netF (1 + self % 15) v).hd.sum), i6 ((netF (1 + self % 15) v).hd.long), .slice q22.A ((netF (1 + self % 15) v).links.length) q22.c, .slice q22.B ((netF (1 + self % 15) v).mem.length) q22.d]) (cs' := #[i6 ((netF (1 + self % 15) v).hd.age), i6 ((netF (1 + self % 15) v).hd.kind), i6 ((netF (1 + self % 15) v).hd.id), i6 ((netF (1 + self % 15) v).hd.adv), i6 ((netF (1 + self % 15) v).hd.seq), i6 ((netF (1 + self % 15) v).hd.sum), i6 ((netF (1 + self % 15) v).hd.long), .slice q22.A ((netF (1 + self % 15) v).links.length) q22.c, .slice q22.B ((netF (1 + self % 15) v).mem.length) q22.d]) 0 hS23 rfl (on_none rfl) rfl (h_.d 3 8) (h_.d 2 38) rfl (by kernel_rfl) ⟨Nat.le_of_ble_eq_true rfl, rfl, by kernel_rfl⟩ rfl fun w24 hS24 he24 => ⟨_, rfl, ?_⟩, trivial⟩
      clear h_ a_ he24 hS23
      replace hS24 : S (kap W) ((blkA g23 27 #[i6 ((netF (1 + self % 15) v).hd.age), i6 ((netF (1 + self % 15) v).hd.kind), i6 ((netF (1 + self % 15) v).hd.id), i6 ((netF (1 + self % 15) v).hd.adv), i6 ((netF (1 + self % 15) v).hd.seq), i6 ((netF (1 + self % 15) v).hd.sum), i6 ((netF (1 + self % 15) v).hd.long), .slice q22.A ((netF (1 + self % 15) v).links.length) q22.c, .slice q22.B ((netF (1 + self % 15) v).mem.length) q22.d]) :: (blkA g13 27 #[i6 ((netR (1 + self % 15) v).hd.age), i6 ((netR (1 + self % 15) v).hd.kind), i6 ((netR (1 + self % 15) v).hd.id), i6 ((netR (1 + self % 15) v).hd.adv), i6 1, i6 ((netR (1 + self % 15) v).hd.sum), i6 ((netR (1 + self % 15) v).hd.long), .slice q12.A ((netR (1 + self % 15) v).links.length) q12.c, .slice q12.B ((netR (1 + self % 15) v).mem.length) q12.d]) :: (blkA g7 48 #[i6 v.lan, i6 v.cost, i6 v.self, i6 v.prio, i6 v.state, i6 v.dr, i6 v.bdr, .slice p.A v.peers.length p.c, .slice p.B p.m p.d]) :: (blkA g3 48 #[i6 v.lan, i6 v.cost, i6 v.self, i6 v.prio, i6 v.state, i6 v.dr, i6 v.bdr, .slice p.A v.peers.length p.c, .slice p.B p.m p.d]) :: []) ((rowA (.slice q22.A (netF (1 + self % 15) v).links.length q22.c) 69 4 (netF (1 + self % 15) v).links.length (rowC Lk.cells (netF (1 + self % 15) v).links)) :: (rowA (.slice q22.B (netF (1 + self % 15) v).mem.length q22.d) 3 1 (netF (1 + self % 15) v).mem.length (ints (netF (1 + self % 15) v).mem)) :: (rowA (.slice q12.A (netR (1 + self % 15) v).links.length q12.c) 69 4 (netR (1 + self % 15) v).links.length (rowC Lk.cells (netR (1 + self % 15) v).links)) :: (rowA (.slice q12.B (netR (1 + self % 15) v).mem.length q12.d) 3 1 (netR (1 + self % 15) v).mem.length (ints (netR (1 + self % 15) v).mem)) :: (memA W W.heap.size) :: []) w24 := hS24
      intro a21 hput
      replace s4 := hput.o 4 s4
      replace s6 := hput.o 6 s6
      replace s7 := hput.o 7 s7
      have s8 : sl a21 8 = pt g23 0 := hput.new 3 8 rfl
      replace hz := hput.size.trans hz
      replace hd := hput.defers.trans hd
      clear hput s3 s5
      change Code.wp _ _ _ _ _
      refine wp_seq ?_
      refine seq_l [2] hz ?_
      refine ⟨pt g23 0, fun _ h_ => rk (fa 0 rfl (h_.b 8 s8)),
       pt g23 4, fun _ h_ => rk (fa 4 rfl (h_.d 0 39)), ?_⟩
      refine ⟨fun a_ h_ => st_store (n := 1) (cells := #[i6 1]) (cs' := #[i6 ((netF (1 + self % 15) v).hd.age), i6 ((netF (1 + self % 15) v).hd.kind), i6 ((netF (1 + self % 15) v).hd.id), i6 ((netF (1 + self % 15) v).hd.adv), i6 1, i6 ((netF (1 + self % 15) v).hd.sum), i6 ((netF (1 + self % 15) v).hd.long), .slice q22.A ((netF (1 + self % 15) v).links.length) q22.c, .slice q22.B ((netF (1 + self % 15) v).mem.length) q22.d]) 0 hS24 rfl (on_none rfl) rfl (h_.d 1 40) rfl rfl (by kernel_rfl) ⟨Nat.le_of_ble_eq_true rfl, rfl, by kernel_rfl⟩ rfl fun w26 hS26 he26 => ⟨_, rfl, ?_⟩, trivial⟩
      clear h_ a_ he26 hS24
      replace hS26 : S (kap W) ((blkA g23 27 #[i6 ((netF (1 + self % 15) v).hd.age), i6 ((netF (1 + self % 15) v).hd.kind), i6 ((netF (1 + self % 15) v).hd.id), i6 ((netF (1 + self % 15) v).hd.adv), i6 1, i6 ((netF (1 + self % 15) v).hd.sum), i6 ((netF (1 + self % 15) v).hd.long), .slice q22.A ((netF (1 + self % 15) v).links.length) q22.c, .slice q22.B ((netF (1 + self % 15) v).mem.length) q22.d]) :: (blkA g13 27 #[i6 ((netR (1 + self % 15) v).hd.age), i6 ((netR (1 + self % 15) v).hd.kind), i6 ((netR (1 + self % 15) v).hd.id), i6 ((netR (1 + self % 15) v).hd.adv), i6 1, i6 ((netR (1 + self % 15) v).hd.sum), i6 ((netR (1 + self % 15) v).hd.long), .slice q12.A ((netR (1 + self % 15) v).links.length) q12.c, .slice q12.B ((netR (1 + self % 15) v).mem.length) q12.d]) :: (blkA g7 48 #[i6 v.lan, i6 v.cost, i6 v.self, i6 v.prio, i6 v.state, i6 v.dr, i6 v.bdr, .slice p.A v.peers.length p.c, .slice p.B p.m p.d]) :: (blkA g3 48 #[i6 v.lan, i6 v.cost, i6 v.self, i6 v.prio, i6 v.state, i6 v.dr, i6 v.bdr, .slice p.A v.peers.length p.c, .slice p.B p.m p.d]) :: []) ((rowA (.slice q22.A (netF (1 + self % 15) v).links.length q22.c) 69 4 (netF (1 + self % 15) v).links.length (rowC Lk.cells (netF (1 + self % 15) v).links)) :: (rowA (.slice q22.B (netF (1 + self % 15) v).mem.length q22.d) 3 1 (netF (1 + self % 15) v).mem.length (ints (netF (1 + self % 15) v).mem)) :: (rowA (.slice q12.A (netR (1 + self % 15) v).links.length q12.c) 69 4 (netR (1 + self % 15) v).links.length (rowC Lk.cells (netR (1 + self % 15) v).links)) :: (rowA (.slice q12.B (netR (1 + self % 15) v).mem.length q12.d) 3 1 (netR (1 + self % 15) v).mem.length (ints (netR (1 + self % 15) v).mem)) :: (memA W W.heap.size) :: []) w26 := hS26
      intro a25 hput
      replace s4 := hput.o 4 s4
      replace s6 := hput.o 6 s6
      replace s7 := hput.o 7 s7
      replace s8 := hput.o 8 s8
      replace hz := hput.size.trans hz
      replace hd := hput.defers.trans hd
      clear hput
      change Code.wp _ _ _ _ _
      refine wp_seq ?_
      refine seq_l [4, 8] hz ?_
      refine ⟨.bool true, fun _ h_ => rmv (h_.b 7 s7),
       .bool true, fun _ h_ => rmv (h_.d 0 41),
       .agg #[i6 ((netR (1 + self % 15) v).hd.age), i6 ((netR (1 + self % 15) v).hd.kind), i6 ((netR (1 + self % 15) v).hd.id), i6 ((netR (1 + self % 15) v).hd.adv), i6 1, i6 ((netR (1 + self % 15) v).hd.sum), i6 ((netR (1 + self % 15) v).hd.long), .slice q12.A ((netR (1 + self % 15) v).links.length) q12.c, .slice q12.B ((netR (1 + self % 15) v).mem.length) q12.d], fun _ h_ => r_ok (h_.on 1 42) (lbS 9 (hS26.blk (i := 1) rfl) rfl (h_.b 6 s6)),
       .agg #[i6 ((netF (1 + self % 15) v).hd.age), i6 ((netF (1 + self % 15) v).hd.kind), i6 ((netF (1 + self % 15) v).hd.id), i6 ((netF (1 + self % 15) v).hd.adv), i6 1, i6 ((netF (1 + self % 15) v).hd.sum), i6 ((netF (1 + self % 15) v).hd.long), .slice q22.A ((netF (1 + self % 15) v).links.length) q22.c, .slice q22.B ((netF (1 + self % 15) v).mem.length) q22.d], fun _ h_ => r_ok (h_.on 1 42) (lbS 9 (hS26.blk (i := 0) rfl) rfl (h_.b 8 s8)), ?_⟩
      refine ⟨fun a_ h_ => st_call (h_.on 1 42) (run_call rfl (map2 (h_.d 2 43) (h_.d 3 44)) rfl) (same19_eq (one_ (netR (1 + self % 15) v)) (one_ (netF (1 + self % 15) v)) q12 q22 _ (⟨(lok_of (l := (netR (1 + self % 15) v)) hS26 2).links, (lok_of (l := (netR (1 + self % 15) v)) hS26 2).mem⟩) (⟨(lok_of (l := (netF (1 + self % 15) v)) hS26 0).links, (lok_of (l := (netF (1 + self % 15) v)) hS26 0).mem⟩) (netR_small (1 + self % 15) v).1 (netF_small (1 + self % 15) v).1 (netR_small (1 + self % 15) v).2 (netF_small (1 + self % 15) v).2 (by rw [netR_yes hc26])) ?_, trivial⟩
      rintro e w28 ⟨rfl, hb28⟩
      refine ⟨_, rfl, _, rfl, ?_⟩
      clear h_ a_
      have hS28 := hS26.below hb28
      clear hS26 hb28
      refine ⟨.bool true, fun _ h_ => rk (run_pick_t rfl (h_.d 1 42) (h_.d 4 45)),
       .bool true, fun _ h_ => rmv (h_.d 5 46),
       .agg #[i6 ((netR (1 + self % 15) v).hd.age), i6 ((netR (1 + self % 15) v).hd.kind), i6 ((netR (1 + self % 15) v).hd.id), i6 ((netR (1 + self % 15) v).hd.adv), i6 1, i6 ((netR (1 + self % 15) v).hd.sum), i6 ((netR (1 + self % 15) v).hd.long), .slice q12.A ((netR (1 + self % 15) v).links.length) q12.c, .slice q12.B ((netR (1 + self % 15) v).mem.length) q12.d], fun _ h_ => r_ok (h_.on 6 47) (lbS 9 (hS28.blk (i := 1) rfl) rfl (h_.b 6 s6)), ?_⟩
      refine ⟨fun a_ h_ => st_call (h_.on 6 47) (run_call rfl (map1 (h_.d 7 48)) rfl) (right04_eq (one_ (netR (1 + self % 15) v)) q12 _ (by have := (netR_small (1 + self % 15) v).1; show (netR (1 + self % 15) v).links.length ≤ 100000; omega) (by have := (netR_small (1 + self % 15) v).2; show (netR (1 + self % 15) v).mem.length ≤ 100000; omega) (⟨(lok_of (l := (netR (1 + self % 15) v)) hS28 2).links, (lok_of (l := (netR (1 + self % 15) v)) hS28 2).mem⟩) (by rw [netR_yes hc26]; exact net_right _ v (by omega) hl)) ?_, trivial⟩
      rintro e w29 ⟨rfl, hb29⟩
      refine ⟨_, rfl, _, rfl, ?_⟩
      clear h_ a_
      have hS29 := hS28.below hb29
      clear hS28 hb29
      refine ⟨.bool true, fun _ h_ => rk (run_pick_t rfl (h_.d 6 47) (h_.d 8 49)),
       .bool true, fun _ h_ => ras (h_.d 9 50), ?_⟩
      intro a27 hput
      replace s4 : sl a27 4 = .bool true := hput.new 10 4 rfl
      replace hz := hput.size.trans hz
      replace hd := hput.defers.trans hd
      clear hput s6 s7 s8
      change Code.wp _ _ _ _ _
      refine wp_ret ?_
      refine ret1 (P := Try.prog) (fn := Try.f5) hd s4 (hR_ _ _ ?_)
      exact ⟨rfl, (hS29.old (by simp))⟩
end Go.Proofs.Ytmklebkldailnaa
