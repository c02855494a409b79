/-
  LanSpoils: the walk of the law.
-/
import Derived.Test.YtdenfgnkbfbpmaaLanH
import Derived.Test.YtdenfgnkbfbpmaaRef05q
import Derived.Test.YtdenfgnkbfbpmaaGet
import Derived.Test.YtdenfgnkbfbpmaaWset
namespace Go.Proofs.Ytdenfgnkbfbpmaa
open Go.RowKit
set_option linter.unusedSimpArgs false
set_option linter.unusedVariables false

/-- the small network, whose memory lies from B on, below T -/
def NetS (B T : Nat) (w : World) (pl : Nat) (cps : List CpO) : Prop := ∃ F l A c, LanRep w F pl (pl + 1) 1 (onFO [1, 2]) l A c ∧ l.map (·.cp) = cps ∧ (∀ g, F g → B ≤ g ∧ g < T) ∧ B ≤ pl
theorem NetS.below {B T pl : Nat} {w w' : World} {cps : List CpO} (h : NetS B T w pl cps) (hb : Below w.heap.size w w') : NetS B T w' pl cps := by
  obtain ⟨F, l, A, c, h1, h2⟩ := h
  exact ⟨F, l, A, c, h1.below hb, h2⟩
theorem net_new (W w : World) (A : Option Addr) (c : Nat) (hB : Below W.heap.size W w) (hr : Reads w w.heap.size 1 A 2 [.int .i64 1, .int .i64 2]) :
    Calls Try.prog 7 #[i6 1, .slice A 2 c] w fun r w' => ∃ pl, r = .returned (.pointer (some ⟨pl, 0, none⟩)) ∧ NetS W.heap.size w'.heap.size w' pl [] ∧ Below w.heap.size w w' := by
  refine (new_any 1 A 2 c [1, 2] w hr (by omega)).mono ?_
  rintro r w' ⟨rfl, hb, hB2⟩
  exact ⟨_, rfl, ⟨_, _, _, _, LanRep.new hb, rfl, (fun g hg => by subst hg; exact ⟨hB.size, hb.lt⟩), hB.size⟩, hB2⟩
theorem below_net {W w w' : World} {F : Nat → Prop} (hB : Below W.heap.size W w) (hk : Keeps F w w') (hF : ∀ g, F g → W.heap.size ≤ g) : Below W.heap.size W w' := below_keepsO hB hk hF
theorem onL12 : onL (onFO [1, 2]) 16 = [1, 2] := by decide
theorem send12 (bs : List Int) : sendF 1 0 2 0 bs [1, 2] [] = [⟨0, 2, 0, bs, 1, false⟩] := by
  simp [sendF, sendStep]
theorem net_send (W w : World) (T pl n c : Nat) (A : Option Addr) (bs : List Int) (hB : Below W.heap.size W w) (hN : NetS W.heap.size T w pl []) (ho : w.ownsRow T 5 1 (.slice A n c) n (u8s bs)) (hn : n ≤ 100000) :
    Calls Try.prog 8 #[.pointer (some ⟨pl, 0, none⟩), .agg #[i6 0, i6 2, i6 0, .slice A n c]] w fun r w' => r = .returned (i6 1) ∧ NetS W.heap.size w'.heap.size w' pl [⟨0, 2, 0, bs, 1, false⟩] ∧ Below W.heap.size W w' := by
  obtain ⟨F, l, A0, c0, h1, h2, h3, h4⟩ := hN
  obtain rfl : l = [] := by simpa using h2
  refine (send_any F pl _ 1 _ [] A0 c0 0 2 0 A n c bs w h1 (Reads.of_own ho) (fun _ b off e hF => ?_) (fun e => ?_) hn (by simp)).mono ?_
  · subst e
    obtain ⟨_, h⟩ := ho
    rcases h with ⟨h, _⟩ | ⟨g, cap, cur, h, hb, _⟩
    · cases h
    · cases h; have := (h3 _ hF).2; omega
  · subst e
    obtain ⟨_, h⟩ := ho
    rcases h with ⟨h, _⟩ | ⟨g, cap, cur, h, hb, _⟩
    · cases h; rfl
    · cases h
  · rintro r w' ⟨rfl, F', l', A', c', g1, g2, g3, g4⟩
    rw [onL12] at g2
    have hs : sendF 1 0 2 0 bs (onL (onFO [1, 2]) 16) (List.map (fun x => x.cp) ([] : List Raw)) = [⟨0, 2, 0, bs, 1, false⟩] := by rw [onL12]; exact send12 bs
    refine ⟨by rw [hs]; rfl, ⟨F', l', A', c', g1, g2.trans (send12 bs), (fun g hg => ?_), h4⟩, below_net hB g4 (fun g hg => (h3 g hg).1)⟩
    refine ⟨?_, g1.lt g hg⟩
    rcases g3 g hg with h | h
    · exact (h3 g h).1
    · exact Nat.le_trans hB.size h
theorem net_at {l : List Raw} {x : CpO} (h : l.map (·.cp) = [x]) : ∃ A c, l = [⟨x, A, c⟩] := by
  match l, h with
  | [⟨y, A, c⟩], h => simp at h; subst h; exact ⟨A, c, rfl⟩
theorem net_spoil (W w : World) (T pl : Nat) (at_ by_ : Int) (bs : List Int) (hB : Below W.heap.size W w) (hN : NetS W.heap.size T w pl [⟨0, 2, 0, bs, 1, false⟩]) (hn : 0 < bs.length ∧ bs.length ≤ 100000) (hby : by_ % 256 ≠ 0) :
    Calls Try.prog 10 #[.pointer (some ⟨pl, 0, none⟩), i6 0, i6 at_, i6 by_] w fun r w' => r = .returned (.bool true) ∧ NetS W.heap.size w'.heap.size w' pl [⟨0, 2, 0, spoilB at_ by_ bs, 1, true⟩] ∧ Below W.heap.size W w' := by
  obtain ⟨F, l, A0, c0, h1, h2, h3, h4⟩ := hN
  obtain ⟨A, c, rfl⟩ := net_at h2
  refine (spoil_yes F pl _ 1 _ _ A0 c0 0 _ at_ by_ w h1 rfl hn.2 (by simp) rfl hn.1 hby).mono ?_
  rintro r w' ⟨rfl, F', l', A', c', g1, g2, g3, g4⟩
  refine ⟨rfl, ⟨F', l', A', c', g1, g2, (fun g hg => ?_), h4⟩, below_net hB g4 (fun g hg => (h3 g hg).1)⟩
  refine ⟨?_, g1.lt g hg⟩
  rcases g3 g hg with h | h
  · exact (h3 g h).1
  · exact Nat.le_trans hB.size h
theorem net_take (W w : World) (T pl : Nat) (bs : List Int) (hB : Below W.heap.size W w) (hN : NetS W.heap.size T w pl [⟨0, 2, 0, bs, 1, true⟩]) (hn : bs.length ≤ 100000) :
    Calls Try.prog 11 #[.pointer (some ⟨pl, 0, none⟩), i6 0] w fun r w' => ∃ A c, r = .returned (.tuple #[.agg #[i6 0, i6 2, i6 0, .slice A bs.length c, i6 1, .bool true], .bool true]) ∧ w'.ownsRow W.heap.size 5 1 (.slice A bs.length c) bs.length (u8s bs) ∧ Below W.heap.size W w' := by
  obtain ⟨F, l, A0, c0, h1, h2, h3, h4⟩ := hN
  obtain ⟨A, c, rfl⟩ := net_at h2
  refine (take_in F pl _ 1 _ _ A0 c0 0 _ w h1 rfl hn (by simp)).mono ?_
  rintro r w' ⟨A1, c1, A', c', rfl, ho, g1, g4⟩
  exact ⟨A1, c1, rfl, own_mono ho hB.size, below_net hB g4 (fun g hg => (h3 g hg).1)⟩
theorem S.anew {W w : World} (h : Below W.heap.size W w) : S (kap W) [] [memA W W.heap.size] w := (S.start W).below h
theorem spoilB_eq (at_ by_ : Int) (bs : List Int) (hn : 0 < bs.length) (hev : bs.length % 2 = 0) (hby : Bys bs) (hw : wsum bs % 65535 = 0) (hb : by_ % 256 ≠ 0) : Bys (spoilB at_ by_ bs) ∧ ¬ wsum (spoilB at_ by_ bs) % 65535 = 0 := by
  have h1 := Int.emod_nonneg at_ (show (bs.length : Int) ≠ 0 by omega)
  have h2 := Int.emod_lt_of_pos at_ (show (0 : Int) < bs.length by omega)
  have hj : (at_ % bs.length).toNat < bs.length := by omega
  have hx : bs[(at_ % bs.length).toNat]? = some (bs.getD (at_ % bs.length).toNat 0) := by rw [List.getD_eq_getElem?_getD, List.getElem?_eq_getElem hj]; rfl
  have hm := List.mem_of_getElem? hx
  exact ⟨spoilt_bys _ _ _ hby, spoilt_bad _ _ _ _ hx hev (hby _ hm) (by omega) hw⟩
theorem tmod256 {n : Int} (h : ¬ n.tmod 256 = 0) : n % 256 ≠ 0 := fun h2 => h (Int.tmod_eq_zero_of_dvd (Int.dvd_of_emod_eq_zero h2))
set_option maxRecDepth 100000 in
set_option maxHeartbeats 800000 in
theorem lawSpoils_any (p : PkV) (q : PkP) (at_ by_ : Int) (W : World) (hok : PkOK W p q) (hlen : p.lsas.length ≤ 9223372036854775807) :
    Calls Try.prog 3 #[.agg #[i6 p.kind, i6 p.src, i6 p.every, i6 p.dead, i6 p.prio, i6 p.dr, i6 p.bdr, .slice q.sA p.seen.length q.sc, .bool p.init, .bool p.more, .bool p.master, i6 p.seq, .slice q.hA p.heads.length q.hc, .slice q.kA p.keys.length q.kc, .slice q.lA p.lsas.length q.lc, .slice q.aA p.acks.length q.ac], i6 at_, i6 by_] W (fun r w' => r = .returned (.bool true) ∧ Below W.heap.size W w') := by
  have hS := S.start W
  refine calls_walk Try.func3 rfl fun R_ hR_ a hz hd hargs => ?_
  replace hz : a.tmps.size = 103 := hz.trans (by kernel_rfl)
  have s0 := hargs 0 _ rfl
  have s1 := hargs 1 _ rfl
  have s2 := hargs 2 _ rfl
  clear hargs
  refine wp_seq ?_
  refine seq_l [0] hz ?_
  refine ⟨fun a_ h_ => st_box (cells := #[i6 p.kind, i6 p.src, i6 p.every, i6 p.dead, i6 p.prio, i6 p.dr, i6 p.bdr, .slice q.sA p.seen.length q.sc, .bool p.init, .bool p.more, .bool p.master, i6 p.seq, .slice q.hA p.heads.length q.hc, .slice q.kA p.keys.length q.kc, .slice q.lA p.lsas.length q.lc, .slice q.aA p.acks.length q.ac]) hS (on_none rfl) rfl (h_.b 0 s0) (by kernel_rfl) fun g3 w3 hS3 hb3 => ⟨_, rfl, ?_⟩, trivial⟩
  clear h_ a_ hS
  clear hb3
  refine ⟨.bool false, fun _ h_ => rk (run_assign rfl rfl), ?_⟩
  intro a2 hput
  replace s1 := hput.o 1 s1
  replace s2 := hput.o 2 s2
  have s3 : sl a2 3 = pt g3 0 := hput.new 0 3 rfl
  have s6 : sl a2 6 = .bool false := hput.new 1 6 rfl
  replace hz := hput.size.trans hz
  replace hd := hput.defers.trans hd
  clear hput s0
  change Code.wp _ _ _ _ _
  refine wp_seq ?_
  refine wp_seq ?_
  refine seq_l [0] hz ?_
  refine ⟨fun a_ h_ => st_call (on_none rfl) (run_call rfl (by simp) rfl) (wakes_any _) ?_, trivial⟩
  rintro e w5 ⟨rfl, hb5⟩
  refine ⟨_, rfl, _, rfl, ?_⟩
  clear h_ a_
  have hS5 := hS3.below hb5
  clear hS3 hb5
  refine ⟨.bool false, fun _ h_ => rk (run_not rfl (h_.d 0 14) rfl), ?_⟩
  intro a4 hput
  replace s1 := hput.o 1 s1
  replace s2 := hput.o 2 s2
  replace s3 := hput.o 3 s3
  replace s6 := hput.o 6 s6
  have s15 : sl a4 15 = .bool false := hput.new 1 15 rfl
  replace hz := hput.size.trans hz
  replace hd := hput.defers.trans hd
  clear hput
  change Code.wp _ _ _ _ _
  refine wp_cond_false s15 ?_
  refine wp_skip ?_
  change Code.wp _ _ _ _ _
  refine wp_seq ?_
  refine wp_seq ?_
  refine seq_l [] hz ?_
  refine ⟨pt g3 14, fun _ h_ => rk (fa 14 rfl (h_.b 3 s3)),
   .slice q.lA p.lsas.length q.lc, fun _ h_ => rk (ld hS5 0 rfl (h_.d 0 16)),
   i6 p.lsas.length, fun _ h_ => rk (run_lenS rfl (h_.d 1 17) (by kernel_rfl)),
   i6 0, fun _ h_ => rk (run_move rfl rfl), ?_⟩
  intro a6 hput
  replace s1 := hput.o 1 s1
  replace s2 := hput.o 2 s2
  replace s3 := hput.o 3 s3
  replace s6 := hput.o 6 s6
  have s17 : sl a6 17 = .slice q.lA p.lsas.length q.lc := hput.new 1 17 rfl
  have s18 : sl a6 18 = i6 p.lsas.length := hput.new 2 18 rfl
  have s19 : sl a6 19 = i6 0 := hput.new 3 19 rfl
  replace hz := hput.size.trans hz
  replace hd := hput.defers.trans hd
  clear hput s15
  change Code.wp _ _ _ _ _
  refine wp_block ?_
  refine wp_loop (fun a_ w_ => ∃ k : Nat, (k ≤ p.lsas.length) ∧ (∀ x ∈ p.lsas.take k, x.1.links.length ≤ 20 ∧ x.1.mem.length ≤ 20) ∧ a_.tmps.size = 103 ∧ a_.defers = [] ∧ sl a_ 1 = i6 at_ ∧ sl a_ 2 = i6 by_ ∧ sl a_ 3 = pt g3 0 ∧ sl a_ 6 = .bool false ∧ sl a_ 17 = .slice q.lA p.lsas.length q.lc ∧ sl a_ 18 = i6 p.lsas.length ∧ sl a_ 19 = i6 k ∧ S (kap W) ((blkA g3 31 #[i6 p.kind, i6 p.src, i6 p.every, i6 p.dead, i6 p.prio, i6 p.dr, i6 p.bdr, .slice q.sA p.seen.length q.sc, .bool p.init, .bool p.more, .bool p.master, i6 p.seq, .slice q.hA p.heads.length q.hc, .slice q.kA p.keys.length q.kc, .slice q.lA p.lsas.length q.lc, .slice q.aA p.acks.length q.ac]) :: []) ((memA W W.heap.size) :: []) w_) (fun a_ _ => p.lsas.length - (intOf (sl a_ 19)).toNat) ?_ ?_
  · exact ⟨0, Nat.zero_le _, (fun x hx => by simp at hx), hz, hd, s1, s2, s3, s6, s17, s18, s19, hS5⟩
  · clear hz hd s1 s2 s3 s6 s17 s18 s19 hS5
    rintro a7 w7 ⟨k, hc0_0, hc0_1, hz, hd, s1, s2, s3, s6, s17, s18, s19, hS7⟩
    have hmu0 := s19
    refine wp_seq ?_
    refine seq_l [] hz ?_
    refine ⟨.bool (decide ((k : Int) < p.lsas.length)), fun _ h_ => rk (run_cmp rfl (h_.b 19 s19) (h_.b 18 s18) rfl (by first | rfl | exact neq_dec _ _ | exact eq_dec _ _ | simp)), ?_⟩
    intro a8 hput
    replace s1 := hput.o 1 s1
    replace s2 := hput.o 2 s2
    replace s3 := hput.o 3 s3
    replace s6 := hput.o 6 s6
    replace s17 := hput.o 17 s17
    replace s18 := hput.o 18 s18
    replace s19 := hput.o 19 s19
    have s20 : sl a8 20 = .bool (decide ((k : Int) < p.lsas.length)) := hput.new 0 20 rfl
    replace hz := hput.size.trans hz
    replace hd := hput.defers.trans hd
    clear hput
    change Code.wp _ _ _ _ _
    refine wp_seq ?_
    refine wp_cond_d s20 (fun hc20 => ?_) (fun hc20 => ?_)
    · clear s20
      refine wp_skip ?_
      change Code.wp _ _ _ _ _
      refine wp_seq ?_
      refine wp_block ?_
      refine wp_seq ?_
      refine seq_l [2, 3] hz ?_
      obtain ⟨b10, o10, z10, hA10, hb10, hz10, hq10⟩ := Reads.row_at lsaC 9 lsaC_len (k := k) ((hok.below (hS7.old (by simp))).lsas) (by decide) (by omega)
      have hmz := List.mem_of_getElem? hz10
      refine ⟨pt b10 (o10 + k * 9), fun _ h_ => rk (run_indexV (size := 9) rfl (h_.b 17 s17) hA10 (h_.b 19 s19) (by kernel_rfl) (by omega) (by simp)),
       .agg #[i6 z10.1.hd.age, i6 z10.1.hd.kind, i6 z10.1.hd.id, i6 z10.1.hd.adv, i6 z10.1.hd.seq, i6 z10.1.hd.sum, i6 z10.1.hd.long, .slice z10.2.A z10.1.links.length z10.2.c, .slice z10.2.B z10.1.mem.length z10.2.d], fun _ h_ => rk (run_loadV (size := 9) (cs := lsaC z10) rfl (h_.d 0 21) (by kernel_rfl) rfl hq10), ?_⟩
      refine ⟨fun a_ h_ => st_alloc (cells := #[i6 0, i6 0, i6 0, i6 0, i6 0, i6 0, i6 0, .slice none 0 0, .slice none 0 0]) hS7 (on_none rfl) rfl (by kernel_rfl) fun g11 w11 hS11 hb11 => ⟨_, rfl, ?_⟩, trivial⟩
      clear h_ a_ hS7
      clear hb11
      refine ⟨fun a_ h_ => st_store (n := 9) (cells := #[i6 z10.1.hd.age, i6 z10.1.hd.kind, i6 z10.1.hd.id, i6 z10.1.hd.adv, i6 z10.1.hd.seq, i6 z10.1.hd.sum, i6 z10.1.hd.long, .slice z10.2.A z10.1.links.length z10.2.c, .slice z10.2.B z10.1.mem.length z10.2.d]) (cs' := #[i6 z10.1.hd.age, i6 z10.1.hd.kind, i6 z10.1.hd.id, i6 z10.1.hd.adv, i6 z10.1.hd.seq, i6 z10.1.hd.sum, i6 z10.1.hd.long, .slice z10.2.A z10.1.links.length z10.2.c, .slice z10.2.B z10.1.mem.length z10.2.d]) 0 hS11 rfl (on_none rfl) rfl (h_.d 2 8) (h_.d 1 22) rfl (by kernel_rfl) ⟨Nat.le_of_ble_eq_true rfl, rfl, by kernel_rfl⟩ rfl fun w12 hS12 he12 => ⟨_, rfl, ?_⟩, trivial⟩
      clear h_ a_ he12 hS11
      replace hS12 : S (kap W) ((blkA g11 37 #[i6 z10.1.hd.age, i6 z10.1.hd.kind, i6 z10.1.hd.id, i6 z10.1.hd.adv, i6 z10.1.hd.seq, i6 z10.1.hd.sum, i6 z10.1.hd.long, .slice z10.2.A z10.1.links.length z10.2.c, .slice z10.2.B z10.1.mem.length z10.2.d]) :: (blkA g3 31 #[i6 p.kind, i6 p.src, i6 p.every, i6 p.dead, i6 p.prio, i6 p.dr, i6 p.bdr, .slice q.sA p.seen.length q.sc, .bool p.init, .bool p.more, .bool p.master, i6 p.seq, .slice q.hA p.heads.length q.hc, .slice q.kA p.keys.length q.kc, .slice q.lA p.lsas.length q.lc, .slice q.aA p.acks.length q.ac]) :: []) ((memA W W.heap.size) :: []) w12 := hS12
      intro a9 hput
      replace s1 := hput.o 1 s1
      replace s2 := hput.o 2 s2
      replace s3 := hput.o 3 s3
      replace s6 := hput.o 6 s6
      have s8 : sl a9 8 = pt g11 0 := hput.new 2 8 rfl
      replace s17 := hput.o 17 s17
      replace s18 := hput.o 18 s18
      replace s19 := hput.o 19 s19
      have s21 : sl a9 21 = pt b10 (o10 + k * 9) := hput.new 0 21 rfl
      have s22 : sl a9 22 = .agg #[i6 z10.1.hd.age, i6 z10.1.hd.kind, i6 z10.1.hd.id, i6 z10.1.hd.adv, i6 z10.1.hd.seq, i6 z10.1.hd.sum, i6 z10.1.hd.long, .slice z10.2.A z10.1.links.length z10.2.c, .slice z10.2.B z10.1.mem.length z10.2.d] := hput.new 1 22 rfl
      replace hz := hput.size.trans hz
      replace hd := hput.defers.trans hd
      clear hput
      change Code.wp _ _ _ _ _
      refine wp_seq ?_
      refine seq_l [] hz ?_
      refine ⟨pt g11 7, fun _ h_ => rk (fa 7 rfl (h_.b 8 s8)),
       .slice z10.2.A z10.1.links.length z10.2.c, fun _ h_ => rk (ld hS12 0 rfl (h_.d 0 23)),
       i6 z10.1.links.length, fun _ h_ => rk (run_lenS rfl (h_.d 1 24) (by kernel_rfl)),
       .bool (decide ((20 : Int) < z10.1.links.length)), fun _ h_ => rk (run_cmp rfl (h_.d 2 25) rfl rfl (by first | rfl | exact neq_dec _ _ | exact eq_dec _ _ | simp)),
       .bool (decide ((20 : Int) < z10.1.links.length)), fun _ h_ => rmv (h_.d 3 26), ?_⟩
      rcases dt ((20 : Int) < z10.1.links.length) with ⟨he, hg4⟩ | ⟨he, hg4⟩
      · rw [he]
        clear he
        refine seq_off (j := 4) (d := 27) (b := false) [5, 6, 7, 8] _ (by kernel_rfl) (.inl rfl) ?_
        refine ⟨.bool true, fun _ h_ => rk (run_pick_t rfl (h_.d 4 27) rfl), ?_⟩
        intro a13 hput
        replace s1 := hput.o 1 s1
        replace s2 := hput.o 2 s2
        replace s3 := hput.o 3 s3
        replace s6 := hput.o 6 s6
        replace s8 := hput.o 8 s8
        replace s17 := hput.o 17 s17
        replace s18 := hput.o 18 s18
        replace s19 := hput.o 19 s19
        replace s21 := hput.o 21 s21
        replace s22 := hput.o 22 s22
        have s23 : sl a13 23 = pt g11 7 := hput.new 0 23 rfl
        have s24 : sl a13 24 = .slice z10.2.A z10.1.links.length z10.2.c := hput.new 1 24 rfl
        have s25 : sl a13 25 = i6 z10.1.links.length := hput.new 2 25 rfl
        have s26 : sl a13 26 = .bool true := hput.new 3 26 rfl
        have s27 : sl a13 27 = .bool true := hput.new 4 27 rfl
        have s32 : sl a13 32 = .bool true := hput.new 9 32 rfl
        replace hz := hput.size.trans hz
        replace hd := hput.defers.trans hd
        clear hput
        change Code.wp _ _ _ _ _
        refine wp_cond_true s32 ?_
        refine wp_seq ?_
        refine seq_l [] hz ?_
        refine ⟨.bool true, fun _ h_ => rk (run_assign rfl rfl), ?_⟩
        intro a14 hput
        replace s1 := hput.o 1 s1
        replace s2 := hput.o 2 s2
        replace s3 := hput.o 3 s3
        replace s6 : sl a14 6 = .bool true := hput.new 0 6 rfl
        replace s8 := hput.o 8 s8
        replace s17 := hput.o 17 s17
        replace s18 := hput.o 18 s18
        replace s19 := hput.o 19 s19
        replace s21 := hput.o 21 s21
        replace s22 := hput.o 22 s22
        replace s23 := hput.o 23 s23
        replace s24 := hput.o 24 s24
        replace s25 := hput.o 25 s25
        replace s26 := hput.o 26 s26
        replace s27 := hput.o 27 s27
        replace s32 := hput.o 32 s32
        replace hz := hput.size.trans hz
        replace hd := hput.defers.trans hd
        clear hput
        change Code.wp _ _ _ _ _
        refine wp_ret ?_
        refine ret1 (P := Try.prog) (fn := Try.f3) hd s6 (hR_ _ _ ?_)
        exact ⟨rfl, (hS12.old (by simp))⟩
      · rw [he]
        clear he
        refine ⟨pt g11 8, fun _ h_ => r_ok (h_.on 4 27) (fa 8 rfl (h_.b 8 s8)),
         .slice z10.2.B z10.1.mem.length z10.2.d, fun _ h_ => r_ok (h_.on 4 27) (ld hS12 0 rfl (h_.d 5 28)),
         i6 z10.1.mem.length, fun _ h_ => r_ok (h_.on 4 27) (run_lenS rfl (h_.d 6 29) (by kernel_rfl)),
         .bool (decide ((20 : Int) < z10.1.mem.length)), fun _ h_ => r_ok (h_.on 4 27) (run_cmp rfl (h_.d 7 30) rfl rfl (by first | rfl | exact neq_dec _ _ | exact eq_dec _ _ | simp)),
         .bool (decide ((20 : Int) < z10.1.mem.length)), fun _ h_ => rk (run_pick_f rfl (h_.d 4 27) (h_.d 8 31)), ?_⟩
        intro a13 hput
        replace s1 := hput.o 1 s1
        replace s2 := hput.o 2 s2
        replace s3 := hput.o 3 s3
        replace s6 := hput.o 6 s6
        replace s8 := hput.o 8 s8
        replace s17 := hput.o 17 s17
        replace s18 := hput.o 18 s18
        replace s19 := hput.o 19 s19
        replace s21 := hput.o 21 s21
        replace s22 := hput.o 22 s22
        have s23 : sl a13 23 = pt g11 7 := hput.new 0 23 rfl
        have s24 : sl a13 24 = .slice z10.2.A z10.1.links.length z10.2.c := hput.new 1 24 rfl
        have s25 : sl a13 25 = i6 z10.1.links.length := hput.new 2 25 rfl
        have s26 : sl a13 26 = .bool false := hput.new 3 26 rfl
        have s27 : sl a13 27 = .bool false := hput.new 4 27 rfl
        have s28 : sl a13 28 = pt g11 8 := hput.new 5 28 rfl
        have s29 : sl a13 29 = .slice z10.2.B z10.1.mem.length z10.2.d := hput.new 6 29 rfl
        have s30 : sl a13 30 = i6 z10.1.mem.length := hput.new 7 30 rfl
        have s31 : sl a13 31 = .bool (decide ((20 : Int) < z10.1.mem.length)) := hput.new 8 31 rfl
        have s32 : sl a13 32 = .bool (decide ((20 : Int) < z10.1.mem.length)) := hput.new 9 32 rfl
        replace hz := hput.size.trans hz
        replace hd := hput.defers.trans hd
        clear hput
        change Code.wp _ _ _ _ _
        refine wp_cond_d s32 (fun hc32 => ?_) (fun hc32 => ?_)
        · clear s32
          refine wp_seq ?_
          refine seq_l [] hz ?_
          refine ⟨.bool true, fun _ h_ => rk (run_assign rfl rfl), ?_⟩
          intro a15 hput
          replace s1 := hput.o 1 s1
          replace s2 := hput.o 2 s2
          replace s3 := hput.o 3 s3
          replace s6 : sl a15 6 = .bool true := hput.new 0 6 rfl
          replace s8 := hput.o 8 s8
          replace s17 := hput.o 17 s17
          replace s18 := hput.o 18 s18
          replace s19 := hput.o 19 s19
          replace s21 := hput.o 21 s21
          replace s22 := hput.o 22 s22
          replace s23 := hput.o 23 s23
          replace s24 := hput.o 24 s24
          replace s25 := hput.o 25 s25
          replace s26 := hput.o 26 s26
          replace s27 := hput.o 27 s27
          replace s28 := hput.o 28 s28
          replace s29 := hput.o 29 s29
          replace s30 := hput.o 30 s30
          replace s31 := hput.o 31 s31
          replace hz := hput.size.trans hz
          replace hd := hput.defers.trans hd
          clear hput
          change Code.wp _ _ _ _ _
          refine wp_ret ?_
          refine ret1 (P := Try.prog) (fn := Try.f3) hd s6 (hR_ _ _ ?_)
          exact ⟨rfl, (hS12.old (by simp))⟩
        · clear s32
          refine wp_skip ?_
          change Code.wp _ _ _ _ _
          refine seq_l [] hz ?_
          refine ⟨i6 (k + 1), fun _ h_ => rk (run_addI rfl (h_.b 19 s19) rfl (by omega) rfl),
           i6 (k + 1), fun _ h_ => rmv (h_.d 0 33), ?_⟩
          intro a16 hput
          replace s1 := hput.o 1 s1
          replace s2 := hput.o 2 s2
          replace s3 := hput.o 3 s3
          replace s6 := hput.o 6 s6
          replace s8 := hput.o 8 s8
          replace s17 := hput.o 17 s17
          replace s18 := hput.o 18 s18
          replace s19 : sl a16 19 = i6 (k + 1) := hput.new 1 19 rfl
          replace s21 := hput.o 21 s21
          replace s22 := hput.o 22 s22
          replace s23 := hput.o 23 s23
          replace s24 := hput.o 24 s24
          replace s25 := hput.o 25 s25
          replace s26 := hput.o 26 s26
          replace s27 := hput.o 27 s27
          replace s28 := hput.o 28 s28
          replace s29 := hput.o 29 s29
          replace s30 := hput.o 30 s30
          replace s31 := hput.o 31 s31
          have s33 : sl a16 33 = i6 (k + 1) := hput.new 0 33 rfl
          replace hz := hput.size.trans hz
          replace hd := hput.defers.trans hd
          clear hput
          have hSd := hS12.drop
          refine ⟨⟨k + 1, by omega, all_more hc0_1 hz10 ⟨by omega, by omega⟩, hz, hd, s1, s2, s3, s6, s17, s18, s19, hSd⟩, ?_⟩
          show p.lsas.length - (intOf (sl a16 19)).toNat < p.lsas.length - (intOf (sl a7 19)).toNat
          rw [show sl a16 19 = _ from s19, show sl a7 19 = _ from hmu0]
          simp only [intOf]
          omega
    · clear s20
      refine wp_exit ?_
      change Code.wp _ _ _ _ _
      refine wp_seq ?_
      refine wp_seq ?_
      refine seq_l [32] hz ?_
      refine ⟨pt g3 2, fun _ h_ => rk (fa 2 rfl (h_.b 3 s3)),
       pt g3 7, fun _ h_ => rk (fa 5 rfl (h_.d 0 34)),
       .slice q.sA p.seen.length q.sc, fun _ h_ => rk (ld hS7 0 rfl (h_.d 1 35)),
       i6 p.seen.length, fun _ h_ => rk (run_lenS rfl (h_.d 2 36) (by kernel_rfl)),
       .bool (decide ((30 : Int) < p.seen.length)), fun _ h_ => rk (run_cmp rfl (h_.d 3 37) rfl rfl (by first | rfl | exact neq_dec _ _ | exact eq_dec _ _ | simp)),
       .bool (decide ((30 : Int) < p.seen.length)), fun _ h_ => rmv (h_.d 4 38), ?_⟩
      rcases dt ((30 : Int) < p.seen.length) with ⟨he, hg5⟩ | ⟨he, hg5⟩
      · rw [he]
        clear he
        refine seq_off (j := 5) (d := 39) (b := false) [6, 7, 8, 9, 10] _ (by kernel_rfl) (.inl rfl) ?_
        refine ⟨.bool true, fun _ h_ => rk (run_pick_t rfl (h_.d 5 39) rfl),
         .bool true, fun _ h_ => rmv (h_.d 11 45), ?_⟩
        refine seq_off (j := 12) (d := 46) (b := false) [13, 14, 15, 16] _ (by kernel_rfl) (.inl rfl) ?_
        refine ⟨.bool true, fun _ h_ => rk (run_pick_t rfl (h_.d 12 46) rfl),
         .bool true, fun _ h_ => rmv (h_.d 17 51), ?_⟩
        refine seq_off (j := 18) (d := 52) (b := false) [19, 20, 21, 22] _ (by kernel_rfl) (.inl rfl) ?_
        refine ⟨.bool true, fun _ h_ => rk (run_pick_t rfl (h_.d 18 52) rfl),
         .bool true, fun _ h_ => rmv (h_.d 23 57), ?_⟩
        refine seq_off (j := 24) (d := 58) (b := false) [25, 26, 27, 28] _ (by kernel_rfl) (.inl rfl) ?_
        refine ⟨.bool true, fun _ h_ => rk (run_pick_t rfl (h_.d 24 58) rfl),
         .bool true, fun _ h_ => rmv (h_.d 29 63), ?_⟩
        refine seq_off (j := 30) (d := 64) (b := false) [31] _ (by kernel_rfl) (.inl rfl) ?_
        refine seq_offe (j := 30) (d := 64) (b := false) (by kernel_rfl) (.inl rfl) ?_
        refine seq_off (j := 30) (d := 64) (b := false) [33] _ (by kernel_rfl) (.inl rfl) ?_
        refine ⟨.bool true, fun _ h_ => rk (run_pick_t rfl (h_.d 30 64) rfl),
         .bool true, fun _ h_ => rmv (h_.d 34 68), ?_⟩
        refine seq_off (j := 35) (d := 69) (b := false) [36, 37, 38] _ (by kernel_rfl) (.inl rfl) ?_
        refine ⟨.bool true, fun _ h_ => rk (run_pick_t rfl (h_.d 35 69) rfl), ?_⟩
        intro a17 hput
        replace s1 := hput.o 1 s1
        replace s2 := hput.o 2 s2
        replace s3 := hput.o 3 s3
        replace s6 := hput.o 6 s6
        have s73 : sl a17 73 = .bool true := hput.new 39 73 rfl
        replace hz := hput.size.trans hz
        replace hd := hput.defers.trans hd
        clear hput s17 s18 s19
        change Code.wp _ _ _ _ _
        refine wp_cond_true s73 ?_
        refine wp_seq ?_
        refine seq_l [] hz ?_
        refine ⟨.bool true, fun _ h_ => rk (run_assign rfl rfl), ?_⟩
        intro a18 hput
        replace s1 := hput.o 1 s1
        replace s2 := hput.o 2 s2
        replace s3 := hput.o 3 s3
        replace s6 : sl a18 6 = .bool true := hput.new 0 6 rfl
        replace hz := hput.size.trans hz
        replace hd := hput.defers.trans hd
        clear hput s73
        change Code.wp _ _ _ _ _
        refine wp_ret ?_
        refine ret1 (P := Try.prog) (fn := Try.f3) hd s6 (hR_ _ _ ?_)
        exact ⟨rfl, (hS7.old (by simp))⟩
      · rw [he]
        clear he
        refine ⟨pt g3 8, fun _ h_ => r_ok (h_.on 5 39) (fa 8 rfl (h_.b 3 s3)),
         pt g3 12, fun _ h_ => r_ok (h_.on 5 39) (fa 4 rfl (h_.d 6 40)),
         .slice q.hA p.heads.length q.hc, fun _ h_ => r_ok (h_.on 5 39) (ld hS7 0 rfl (h_.d 7 41)),
         i6 p.heads.length, fun _ h_ => r_ok (h_.on 5 39) (run_lenS rfl (h_.d 8 42) (by kernel_rfl)),
         .bool (decide ((20 : Int) < p.heads.length)), fun _ h_ => r_ok (h_.on 5 39) (run_cmp rfl (h_.d 9 43) rfl rfl (by first | rfl | exact neq_dec _ _ | exact eq_dec _ _ | simp)),
         .bool (decide ((20 : Int) < p.heads.length)), fun _ h_ => rk (run_pick_f rfl (h_.d 5 39) (h_.d 10 44)),
         .bool (decide ((20 : Int) < p.heads.length)), fun _ h_ => rmv (h_.d 11 45), ?_⟩
        rcases dt ((20 : Int) < p.heads.length) with ⟨he, hg12⟩ | ⟨he, hg12⟩
        · rw [he]
          clear he
          refine seq_off (j := 12) (d := 46) (b := false) [13, 14, 15, 16] _ (by kernel_rfl) (.inl rfl) ?_
          refine ⟨.bool true, fun _ h_ => rk (run_pick_t rfl (h_.d 12 46) rfl),
           .bool true, fun _ h_ => rmv (h_.d 17 51), ?_⟩
          refine seq_off (j := 18) (d := 52) (b := false) [19, 20, 21, 22] _ (by kernel_rfl) (.inl rfl) ?_
          refine ⟨.bool true, fun _ h_ => rk (run_pick_t rfl (h_.d 18 52) rfl),
           .bool true, fun _ h_ => rmv (h_.d 23 57), ?_⟩
          refine seq_off (j := 24) (d := 58) (b := false) [25, 26, 27, 28] _ (by kernel_rfl) (.inl rfl) ?_
          refine ⟨.bool true, fun _ h_ => rk (run_pick_t rfl (h_.d 24 58) rfl),
           .bool true, fun _ h_ => rmv (h_.d 29 63), ?_⟩
          refine seq_off (j := 30) (d := 64) (b := false) [31] _ (by kernel_rfl) (.inl rfl) ?_
          refine seq_offe (j := 30) (d := 64) (b := false) (by kernel_rfl) (.inl rfl) ?_
          refine seq_off (j := 30) (d := 64) (b := false) [33] _ (by kernel_rfl) (.inl rfl) ?_
          refine ⟨.bool true, fun _ h_ => rk (run_pick_t rfl (h_.d 30 64) rfl),
           .bool true, fun _ h_ => rmv (h_.d 34 68), ?_⟩
          refine seq_off (j := 35) (d := 69) (b := false) [36, 37, 38] _ (by kernel_rfl) (.inl rfl) ?_
          refine ⟨.bool true, fun _ h_ => rk (run_pick_t rfl (h_.d 35 69) rfl), ?_⟩
          intro a17 hput
          replace s1 := hput.o 1 s1
          replace s2 := hput.o 2 s2
          replace s3 := hput.o 3 s3
          replace s6 := hput.o 6 s6
          have s73 : sl a17 73 = .bool true := hput.new 39 73 rfl
          replace hz := hput.size.trans hz
          replace hd := hput.defers.trans hd
          clear hput s17 s18 s19
          change Code.wp _ _ _ _ _
          refine wp_cond_true s73 ?_
          refine wp_seq ?_
          refine seq_l [] hz ?_
          refine ⟨.bool true, fun _ h_ => rk (run_assign rfl rfl), ?_⟩
          intro a19 hput
          replace s1 := hput.o 1 s1
          replace s2 := hput.o 2 s2
          replace s3 := hput.o 3 s3
          replace s6 : sl a19 6 = .bool true := hput.new 0 6 rfl
          replace hz := hput.size.trans hz
          replace hd := hput.defers.trans hd
          clear hput s73
          change Code.wp _ _ _ _ _
          refine wp_ret ?_
          refine ret1 (P := Try.prog) (fn := Try.f3) hd s6 (hR_ _ _ ?_)
          exact ⟨rfl, (hS7.old (by simp))⟩
        · rw [he]
          clear he
          refine ⟨pt g3 13, fun _ h_ => r_ok (h_.on 12 46) (fa 13 rfl (h_.b 3 s3)),
           .slice q.kA p.keys.length q.kc, fun _ h_ => r_ok (h_.on 12 46) (ld hS7 0 rfl (h_.d 13 47)),
           i6 p.keys.length, fun _ h_ => r_ok (h_.on 12 46) (run_lenS rfl (h_.d 14 48) (by kernel_rfl)),
           .bool (decide ((20 : Int) < p.keys.length)), fun _ h_ => r_ok (h_.on 12 46) (run_cmp rfl (h_.d 15 49) rfl rfl (by first | rfl | exact neq_dec _ _ | exact eq_dec _ _ | simp)),
           .bool (decide ((20 : Int) < p.keys.length)), fun _ h_ => rk (run_pick_f rfl (h_.d 12 46) (h_.d 16 50)),
           .bool (decide ((20 : Int) < p.keys.length)), fun _ h_ => rmv (h_.d 17 51), ?_⟩
          rcases dt ((20 : Int) < p.keys.length) with ⟨he, hg18⟩ | ⟨he, hg18⟩
          · rw [he]
            clear he
            refine seq_off (j := 18) (d := 52) (b := false) [19, 20, 21, 22] _ (by kernel_rfl) (.inl rfl) ?_
            refine ⟨.bool true, fun _ h_ => rk (run_pick_t rfl (h_.d 18 52) rfl),
             .bool true, fun _ h_ => rmv (h_.d 23 57), ?_⟩
            refine seq_off (j := 24) (d := 58) (b := false) [25, 26, 27, 28] _ (by kernel_rfl) (.inl rfl) ?_
            refine ⟨.bool true, fun _ h_ => rk (run_pick_t rfl (h_.d 24 58) rfl),
             .bool true, fun _ h_ => rmv (h_.d 29 63), ?_⟩
            refine seq_off (j := 30) (d := 64) (b := false) [31] _ (by kernel_rfl) (.inl rfl) ?_
            refine seq_offe (j := 30) (d := 64) (b := false) (by kernel_rfl) (.inl rfl) ?_
            refine seq_off (j := 30) (d := 64) (b := false) [33] _ (by kernel_rfl) (.inl rfl) ?_
            refine ⟨.bool true, fun _ h_ => rk (run_pick_t rfl (h_.d 30 64) rfl),
             .bool true, fun _ h_ => rmv (h_.d 34 68), ?_⟩
            refine seq_off (j := 35) (d := 69) (b := false) [36, 37, 38] _ (by kernel_rfl) (.inl rfl) ?_
            refine ⟨.bool true, fun _ h_ => rk (run_pick_t rfl (h_.d 35 69) rfl), ?_⟩
            intro a17 hput
            replace s1 := hput.o 1 s1
            replace s2 := hput.o 2 s2
            replace s3 := hput.o 3 s3
            replace s6 := hput.o 6 s6
            have s73 : sl a17 73 = .bool true := hput.new 39 73 rfl
            replace hz := hput.size.trans hz
            replace hd := hput.defers.trans hd
            clear hput s17 s18 s19
            change Code.wp _ _ _ _ _
            refine wp_cond_true s73 ?_
            refine wp_seq ?_
            refine seq_l [] hz ?_
            refine ⟨.bool true, fun _ h_ => rk (run_assign rfl rfl), ?_⟩
            intro a20 hput
            replace s1 := hput.o 1 s1
            replace s2 := hput.o 2 s2
            replace s3 := hput.o 3 s3
            replace s6 : sl a20 6 = .bool true := hput.new 0 6 rfl
            replace hz := hput.size.trans hz
            replace hd := hput.defers.trans hd
            clear hput s73
            change Code.wp _ _ _ _ _
            refine wp_ret ?_
            refine ret1 (P := Try.prog) (fn := Try.f3) hd s6 (hR_ _ _ ?_)
            exact ⟨rfl, (hS7.old (by simp))⟩
          · rw [he]
            clear he
            refine ⟨pt g3 14, fun _ h_ => r_ok (h_.on 18 52) (fa 14 rfl (h_.b 3 s3)),
             .slice q.lA p.lsas.length q.lc, fun _ h_ => r_ok (h_.on 18 52) (ld hS7 0 rfl (h_.d 19 53)),
             i6 p.lsas.length, fun _ h_ => r_ok (h_.on 18 52) (run_lenS rfl (h_.d 20 54) (by kernel_rfl)),
             .bool (decide ((20 : Int) < p.lsas.length)), fun _ h_ => r_ok (h_.on 18 52) (run_cmp rfl (h_.d 21 55) rfl rfl (by first | rfl | exact neq_dec _ _ | exact eq_dec _ _ | simp)),
             .bool (decide ((20 : Int) < p.lsas.length)), fun _ h_ => rk (run_pick_f rfl (h_.d 18 52) (h_.d 22 56)),
             .bool (decide ((20 : Int) < p.lsas.length)), fun _ h_ => rmv (h_.d 23 57), ?_⟩
            rcases dt ((20 : Int) < p.lsas.length) with ⟨he, hg24⟩ | ⟨he, hg24⟩
            · rw [he]
              clear he
              refine seq_off (j := 24) (d := 58) (b := false) [25, 26, 27, 28] _ (by kernel_rfl) (.inl rfl) ?_
              refine ⟨.bool true, fun _ h_ => rk (run_pick_t rfl (h_.d 24 58) rfl),
               .bool true, fun _ h_ => rmv (h_.d 29 63), ?_⟩
              refine seq_off (j := 30) (d := 64) (b := false) [31] _ (by kernel_rfl) (.inl rfl) ?_
              refine seq_offe (j := 30) (d := 64) (b := false) (by kernel_rfl) (.inl rfl) ?_
              refine seq_off (j := 30) (d := 64) (b := false) [33] _ (by kernel_rfl) (.inl rfl) ?_
              refine ⟨.bool true, fun _ h_ => rk (run_pick_t rfl (h_.d 30 64) rfl),
               .bool true, fun _ h_ => rmv (h_.d 34 68), ?_⟩
              refine seq_off (j := 35) (d := 69) (b := false) [36, 37, 38] _ (by kernel_rfl) (.inl rfl) ?_
              refine ⟨.bool true, fun _ h_ => rk (run_pick_t rfl (h_.d 35 69) rfl), ?_⟩
              intro a17 hput
              replace s1 := hput.o 1 s1
              replace s2 := hput.o 2 s2
              replace s3 := hput.o 3 s3
              replace s6 := hput.o 6 s6
              have s73 : sl a17 73 = .bool true := hput.new 39 73 rfl
              replace hz := hput.size.trans hz
              replace hd := hput.defers.trans hd
              clear hput s17 s18 s19
              change Code.wp _ _ _ _ _
              refine wp_cond_true s73 ?_
              refine wp_seq ?_
              refine seq_l [] hz ?_
              refine ⟨.bool true, fun _ h_ => rk (run_assign rfl rfl), ?_⟩
              intro a21 hput
              replace s1 := hput.o 1 s1
              replace s2 := hput.o 2 s2
              replace s3 := hput.o 3 s3
              replace s6 : sl a21 6 = .bool true := hput.new 0 6 rfl
              replace hz := hput.size.trans hz
              replace hd := hput.defers.trans hd
              clear hput s73
              change Code.wp _ _ _ _ _
              refine wp_ret ?_
              refine ret1 (P := Try.prog) (fn := Try.f3) hd s6 (hR_ _ _ ?_)
              exact ⟨rfl, (hS7.old (by simp))⟩
            · rw [he]
              clear he
              refine ⟨pt g3 15, fun _ h_ => r_ok (h_.on 24 58) (fa 15 rfl (h_.b 3 s3)),
               .slice q.aA p.acks.length q.ac, fun _ h_ => r_ok (h_.on 24 58) (ld hS7 0 rfl (h_.d 25 59)),
               i6 p.acks.length, fun _ h_ => r_ok (h_.on 24 58) (run_lenS rfl (h_.d 26 60) (by kernel_rfl)),
               .bool (decide ((20 : Int) < p.acks.length)), fun _ h_ => r_ok (h_.on 24 58) (run_cmp rfl (h_.d 27 61) rfl rfl (by first | rfl | exact neq_dec _ _ | exact eq_dec _ _ | simp)),
               .bool (decide ((20 : Int) < p.acks.length)), fun _ h_ => rk (run_pick_f rfl (h_.d 24 58) (h_.d 28 62)),
               .bool (decide ((20 : Int) < p.acks.length)), fun _ h_ => rmv (h_.d 29 63), ?_⟩
              rcases dt ((20 : Int) < p.acks.length) with ⟨he, hg30⟩ | ⟨he, hg30⟩
              · rw [he]
                clear he
                refine seq_off (j := 30) (d := 64) (b := false) [31] _ (by kernel_rfl) (.inl rfl) ?_
                refine seq_offe (j := 30) (d := 64) (b := false) (by kernel_rfl) (.inl rfl) ?_
                refine seq_off (j := 30) (d := 64) (b := false) [33] _ (by kernel_rfl) (.inl rfl) ?_
                refine ⟨.bool true, fun _ h_ => rk (run_pick_t rfl (h_.d 30 64) rfl),
                 .bool true, fun _ h_ => rmv (h_.d 34 68), ?_⟩
                refine seq_off (j := 35) (d := 69) (b := false) [36, 37, 38] _ (by kernel_rfl) (.inl rfl) ?_
                refine ⟨.bool true, fun _ h_ => rk (run_pick_t rfl (h_.d 35 69) rfl), ?_⟩
                intro a17 hput
                replace s1 := hput.o 1 s1
                replace s2 := hput.o 2 s2
                replace s3 := hput.o 3 s3
                replace s6 := hput.o 6 s6
                have s73 : sl a17 73 = .bool true := hput.new 39 73 rfl
                replace hz := hput.size.trans hz
                replace hd := hput.defers.trans hd
                clear hput s17 s18 s19
                change Code.wp _ _ _ _ _
                refine wp_cond_true s73 ?_
                refine wp_seq ?_
                refine seq_l [] hz ?_
                refine ⟨.bool true, fun _ h_ => rk (run_assign rfl rfl), ?_⟩
                intro a22 hput
                replace s1 := hput.o 1 s1
                replace s2 := hput.o 2 s2
                replace s3 := hput.o 3 s3
                replace s6 : sl a22 6 = .bool true := hput.new 0 6 rfl
                replace hz := hput.size.trans hz
                replace hd := hput.defers.trans hd
                clear hput s73
                change Code.wp _ _ _ _ _
                refine wp_ret ?_
                refine ret1 (P := Try.prog) (fn := Try.f3) hd s6 (hR_ _ _ ?_)
                exact ⟨rfl, (hS7.old (by simp))⟩
              · rw [he]
                clear he
                refine ⟨.agg #[i6 p.kind, i6 p.src, i6 p.every, i6 p.dead, i6 p.prio, i6 p.dr, i6 p.bdr, .slice q.sA p.seen.length q.sc, .bool p.init, .bool p.more, .bool p.master, i6 p.seq, .slice q.hA p.heads.length q.hc, .slice q.kA p.keys.length q.kc, .slice q.lA p.lsas.length q.lc, .slice q.aA p.acks.length q.ac], fun _ h_ => r_ok (h_.on 30 64) (lbS 16 (hS7.blk (i := 0) rfl) rfl (h_.b 3 s3)), ?_⟩
                have hsm : PkSm p := ⟨by omega, by omega, by omega, by omega, by omega, (by rw [List.take_of_length_le (by omega)] at hc0_1; exact hc0_1)⟩
                refine ⟨fun a_ h_ => st_call (h_.on 30 64) (run_call rfl (map1 (h_.d 31 65)) rfl) (right05_any p q _ hsm (hok.below (hS7.old (by simp)))) ?_, trivial⟩
                rintro e w23 ⟨b23, rfl, hrt, hb23⟩
                refine ⟨_, rfl, _, rfl, ?_⟩
                clear h_ a_
                have hS23 := hS7.below hb23
                clear hS7 hb23
                refine ⟨.bool (!b23), fun _ h_ => r_ok (h_.on 30 64) (run_not rfl (h_.d 32 66) rfl),
                 .bool (!b23), fun _ h_ => rk (run_pick_f rfl (h_.d 30 64) (h_.d 33 67)),
                 .bool (!b23), fun _ h_ => rmv (h_.d 34 68), ?_⟩
                rcases bt (!b23) with hg35 | hg35
                · rw [hg35]
                  refine seq_off (j := 35) (d := 69) (b := false) [36, 37, 38] _ (by kernel_rfl) (.inl rfl) ?_
                  refine ⟨.bool true, fun _ h_ => rk (run_pick_t rfl (h_.d 35 69) rfl), ?_⟩
                  intro a17 hput
                  replace s1 := hput.o 1 s1
                  replace s2 := hput.o 2 s2
                  replace s3 := hput.o 3 s3
                  replace s6 := hput.o 6 s6
                  have s73 : sl a17 73 = .bool true := hput.new 39 73 rfl
                  replace hz := hput.size.trans hz
                  replace hd := hput.defers.trans hd
                  clear hput s17 s18 s19
                  change Code.wp _ _ _ _ _
                  refine wp_cond_true s73 ?_
                  refine wp_seq ?_
                  refine seq_l [] hz ?_
                  refine ⟨.bool true, fun _ h_ => rk (run_assign rfl rfl), ?_⟩
                  intro a24 hput
                  replace s1 := hput.o 1 s1
                  replace s2 := hput.o 2 s2
                  replace s3 := hput.o 3 s3
                  replace s6 : sl a24 6 = .bool true := hput.new 0 6 rfl
                  replace hz := hput.size.trans hz
                  replace hd := hput.defers.trans hd
                  clear hput s73
                  change Code.wp _ _ _ _ _
                  refine wp_ret ?_
                  refine ret1 (P := Try.prog) (fn := Try.f3) hd s6 (hR_ _ _ ?_)
                  exact ⟨rfl, (hS23.old (by simp))⟩
                · rw [hg35]
                  refine ⟨i6 by_, fun _ h_ => r_ok (h_.on 35 69) (run_move rfl (h_.b 2 s2)),
                   i6 (by_.tmod 256), fun _ h_ => r_ok (h_.on 35 69) (run_bin2 rfl (h_.d 36 70) rfl (fun _ => rfl) (fun _ => rfl)),
                   .bool (decide ((by_.tmod 256 : Int) = 0)), fun _ h_ => r_ok (h_.on 35 69) (run_cmp rfl (h_.d 37 71) rfl rfl (by first | rfl | exact neq_dec _ _ | exact eq_dec _ _ | simp)),
                   .bool (decide ((by_.tmod 256 : Int) = 0)), fun _ h_ => rk (run_pick_f rfl (h_.d 35 69) (h_.d 38 72)), ?_⟩
                  intro a17 hput
                  replace s1 := hput.o 1 s1
                  replace s2 := hput.o 2 s2
                  replace s3 := hput.o 3 s3
                  replace s6 := hput.o 6 s6
                  have s73 : sl a17 73 = .bool (decide ((by_.tmod 256 : Int) = 0)) := hput.new 39 73 rfl
                  replace hz := hput.size.trans hz
                  replace hd := hput.defers.trans hd
                  clear hput s17 s18 s19
                  change Code.wp _ _ _ _ _
                  refine wp_cond_d s73 (fun hc73 => ?_) (fun hc73 => ?_)
                  · clear s73
                    refine wp_seq ?_
                    refine seq_l [] hz ?_
                    refine ⟨.bool true, fun _ h_ => rk (run_assign rfl rfl), ?_⟩
                    intro a25 hput
                    replace s1 := hput.o 1 s1
                    replace s2 := hput.o 2 s2
                    replace s3 := hput.o 3 s3
                    replace s6 : sl a25 6 = .bool true := hput.new 0 6 rfl
                    replace hz := hput.size.trans hz
                    replace hd := hput.defers.trans hd
                    clear hput
                    change Code.wp _ _ _ _ _
                    refine wp_ret ?_
                    refine ret1 (P := Try.prog) (fn := Try.f3) hd s6 (hR_ _ _ ?_)
                    exact ⟨rfl, (hS23.old (by simp))⟩
                  · clear s73
                    refine wp_skip ?_
                    change Code.wp _ _ _ _ _
                    refine wp_seq ?_
                    refine seq_l [0, 1] hz ?_
                    refine ⟨fun a_ h_ => st_lit (e := 3) (vals := [(0, i6 1), (1, i6 2)]) (cells := #[i6 1, i6 2]) hS23 (on_none rfl) rfl (parts2 rfl rfl) fun g27 w27 hS27 hb27 => ⟨_, rfl, ?_⟩, trivial⟩
                    clear h_ a_ hS23
                    clear hb27
                    refine ⟨fun a_ h_ => st_call (on_none rfl) (run_call rfl (map2 rfl (h_.d 0 74)) rfl) (net_new W _ _ _ (hS27.old (by simp)) ((reads_blk (size := 1) (n := 2) (hS27.blk (i := 0) rfl) rfl).more (hS27.blk (i := 0) rfl).lt)) ?_, trivial⟩
                    rintro e w28 ⟨pl, rfl, hN, hb28⟩
                    refine ⟨_, rfl, _, rfl, ?_⟩
                    clear h_ a_
                    have hS28 := hS27.below hb28
                    clear hS27 hb28
                    obtain ⟨T, hT⟩ : ∃ T, T = w28.heap.size := ⟨_, rfl⟩
                    have hTz : T ≤ w28.heap.size := Nat.le_of_eq hT
                    rw [← hT] at hN
                    clear hT
                    refine ⟨pt pl 0, fun _ h_ => ras (h_.d 1 75), ?_⟩
                    intro a26 hput
                    replace s1 := hput.o 1 s1
                    replace s2 := hput.o 2 s2
                    replace s3 := hput.o 3 s3
                    replace s6 := hput.o 6 s6
                    have s9 : sl a26 9 = pt pl 0 := hput.new 2 9 rfl
                    replace hz := hput.size.trans hz
                    replace hd := hput.defers.trans hd
                    clear hput
                    change Code.wp _ _ _ _ _
                    refine wp_seq ?_
                    refine wp_seq ?_
                    refine seq_l [2, 4, 10] hz ?_
                    refine ⟨pt pl 0, fun _ h_ => rmv (h_.b 9 s9),
                     .agg #[i6 p.kind, i6 p.src, i6 p.every, i6 p.dead, i6 p.prio, i6 p.dr, i6 p.bdr, .slice q.sA p.seen.length q.sc, .bool p.init, .bool p.more, .bool p.master, i6 p.seq, .slice q.hA p.heads.length q.hc, .slice q.kA p.keys.length q.kc, .slice q.lA p.lsas.length q.lc, .slice q.aA p.acks.length q.ac], fun _ h_ => rk (lbS 16 (hS28.blk (i := 1) rfl) rfl (h_.b 3 s3)), ?_⟩
                    refine ⟨fun a_ h_ => st_call (on_none rfl) (run_call rfl (map1 (h_.d 1 77)) rfl) (bytes05_any p q _ hsm (hok.below (hS28.old (by simp))) (hrt (by simpa using hg35))) ?_, trivial⟩
                    rintro e w30 ⟨A, n, c, bs, rfl, ho, hn, hev, hby, hws, hb30⟩
                    refine ⟨_, rfl, _, rfl, ?_⟩
                    clear h_ a_
                    have hS30 := hS28.below hb30
                    replace ho := own_mono ho hTz
                    replace hN := hN.below hb30
                    replace hTz := Nat.le_trans hTz hb30.size
                    clear hS28 hb30
                    refine ⟨.agg #[i6 0, i6 2, i6 0, .slice A n c], fun _ h_ => rk (run_build (vals := #[(1, i6 2), (3, .slice A n c)]) (r := .agg #[i6 0, i6 2, i6 0, .slice A n c]) rfl (bp2 rfl (h_.d 2 78)) (by kernel_rfl)), ?_⟩
                    refine ⟨fun a_ h_ => st_call (on_none rfl) (run_call rfl (map2 (h_.d 0 76) (h_.d 3 79)) rfl) (net_send W _ T pl n c A bs (hS30.old (by simp)) hN ho (by omega)) ?_, trivial⟩
                    rintro e w31 ⟨rfl, hN, hb⟩
                    refine ⟨_, rfl, _, rfl, ?_⟩
                    clear h_ a_
                    clear hS30
                    have hS31 := S.anew hb
                    clear hb
                    have hbl : bs.length = n := u8s_of (Reads.of_own ho)
                    obtain ⟨hq1, hq2⟩ := spoilB_eq at_ by_ bs (by omega) (by omega) hby hws (tmod256 hc73)
                    have hq3 : (spoilB at_ by_ bs).length = n := by rw [spoilB_length]; exact hbl
                    generalize hbs2 : spoilB at_ by_ bs = bs2 at hq1 hq2 hq3
                    refine ⟨.bool false, fun _ h_ => rk (run_cmp rfl (h_.d 4 80) rfl rfl (by decide)),
                     .bool false, fun _ h_ => rmv (h_.d 5 81),
                     pt pl 0, fun _ h_ => r_ok (h_.on 6 82) (run_move rfl (h_.b 9 s9)),
                     i6 at_, fun _ h_ => r_ok (h_.on 6 82) (run_move rfl (h_.b 1 s1)),
                     i6 by_, fun _ h_ => r_ok (h_.on 6 82) (run_move rfl (h_.b 2 s2)), ?_⟩
                    refine ⟨fun a_ h_ => st_call (h_.on 6 82) (run_call rfl (map4 (h_.d 7 83) rfl (h_.d 8 84) (h_.d 9 85)) rfl) (net_spoil W _ _ pl at_ by_ bs (hS31.old (by simp)) hN (by omega) (tmod256 hc73)) ?_, trivial⟩
                    rintro e w32 ⟨rfl, hN, hb⟩
                    refine ⟨_, rfl, _, rfl, ?_⟩
                    clear h_ a_
                    clear hS31
                    have hS32 := S.anew hb
                    clear hb
                    rw [hbs2] at hN
                    refine ⟨.bool false, fun _ h_ => r_ok (h_.on 6 82) (run_not rfl (h_.d 10 86) rfl),
                     .bool false, fun _ h_ => rk (run_pick_f rfl (h_.d 6 82) (h_.d 11 87)), ?_⟩
                    intro a29 hput
                    replace s6 := hput.o 6 s6
                    replace s9 := hput.o 9 s9
                    have s88 : sl a29 88 = .bool false := hput.new 12 88 rfl
                    replace hz := hput.size.trans hz
                    replace hd := hput.defers.trans hd
                    clear hput s1 s2 s3
                    change Code.wp _ _ _ _ _
                    refine wp_cond_false s88 ?_
                    refine wp_skip ?_
                    change Code.wp _ _ _ _ _
                    refine wp_seq ?_
                    refine seq_l [1, 5, 6] hz ?_
                    refine ⟨pt pl 0, fun _ h_ => rmv (h_.b 9 s9), ?_⟩
                    refine ⟨fun a_ h_ => st_call (on_none rfl) (run_call rfl (map2 (h_.d 0 90) rfl) rfl) (net_take W _ _ pl bs2 (hS32.old (by simp)) hN (by omega)) ?_, trivial⟩
                    rintro e w34 ⟨A2, c2, rfl, ho2, hb⟩
                    refine ⟨_, rfl, _, rfl, ?_⟩
                    clear h_ a_
                    clear hS32
                    have hS34 := (S.start W).pushRowI hb ho2
                    clear hb ho2
                    refine ⟨.tuple #[.agg #[i6 0, i6 2, i6 0, .slice A2 bs2.length c2, i6 1, .bool true], .bool true], fun _ h_ => rmv (h_.d 1 91),
                     .agg #[i6 0, i6 2, i6 0, .slice A2 bs2.length c2, i6 1, .bool true], fun _ h_ => rk (run_extract rfl (h_.d 2 89) rfl),
                     .bool true, fun _ h_ => rk (run_extract rfl (h_.d 2 89) rfl), ?_⟩
                    refine ⟨fun a_ h_ => st_alloc (cells := #[i6 0, i6 0, i6 0, .slice none 0 0, i6 0, .bool false]) hS34 (on_none rfl) rfl (by kernel_rfl) fun g35 w35 hS35 hb35 => ⟨_, rfl, ?_⟩, trivial⟩
                    clear h_ a_ hS34
                    clear hb35
                    refine ⟨fun a_ h_ => st_store (n := 6) (cells := #[i6 0, i6 2, i6 0, .slice A2 bs2.length c2, i6 1, .bool true]) (cs' := #[i6 0, i6 2, i6 0, .slice A2 bs2.length c2, i6 1, .bool true]) 0 hS35 rfl (on_none rfl) rfl (h_.d 5 10) (h_.d 3 92) rfl (by kernel_rfl) ⟨Nat.le_of_ble_eq_true rfl, rfl, by kernel_rfl⟩ rfl fun w36 hS36 he36 => ⟨_, rfl, ?_⟩, trivial⟩
                    clear h_ a_ he36 hS35
                    replace hS36 : S (kap W) ((blkA g35 48 #[i6 0, i6 2, i6 0, .slice A2 bs2.length c2, i6 1, .bool true]) :: []) ((rowA (.slice A2 bs2.length c2) 5 1 bs2.length (u8s bs2)) :: (memA W W.heap.size) :: []) w36 := hS36
                    refine ⟨.bool true, fun _ h_ => ras (h_.d 4 93), ?_⟩
                    intro a33 hput
                    replace s6 := hput.o 6 s6
                    have s10 : sl a33 10 = pt g35 0 := hput.new 5 10 rfl
                    replace hz := hput.size.trans hz
                    replace hd := hput.defers.trans hd
                    clear hput s9 s88
                    change Code.wp _ _ _ _ _
                    refine wp_seq ?_
                    refine seq_l [3, 7, 8] hz ?_
                    refine ⟨pt g35 0, fun _ h_ => rk (fa 0 rfl (h_.b 10 s10)),
                     pt g35 3, fun _ h_ => rk (fa 3 rfl (h_.d 0 95)),
                     .slice A2 bs2.length c2, fun _ h_ => rk (ld hS36 0 rfl (h_.d 1 96)), ?_⟩
                    refine ⟨fun a_ h_ => st_call (on_none rfl) (run_call rfl (map1 (h_.d 2 97)) rfl) (get_bad A2 bs2.length c2 bs2 _ (by omega) (by omega) (by omega) (hS36.rdI (i := 0) rfl) hq1 hq2) ?_, trivial⟩
                    rintro e w38 ⟨rfl, hb38⟩
                    refine ⟨_, rfl, _, rfl, ?_⟩
                    clear h_ a_
                    have hS38 := hS36.below hb38
                    clear hS36 hb38
                    refine ⟨.tuple #[.agg #[i6 0, i6 0, i6 0, i6 0, i6 0, i6 0, i6 0, .slice none 0 0, .bool false, .bool false, .bool false, i6 0, .slice none 0 0, .slice none 0 0, .slice none 0 0, .slice none 0 0], i6 5], fun _ h_ => rmv (h_.d 3 98),
                     .agg #[i6 0, i6 0, i6 0, i6 0, i6 0, i6 0, i6 0, .slice none 0 0, .bool false, .bool false, .bool false, i6 0, .slice none 0 0, .slice none 0 0, .slice none 0 0, .slice none 0 0], fun _ h_ => rk (run_extract rfl (h_.d 4 94) rfl),
                     i6 5, fun _ h_ => rk (run_extract rfl (h_.d 4 94) rfl), ?_⟩
                    refine ⟨fun a_ h_ => st_alloc (cells := #[i6 0, i6 0, i6 0, i6 0, i6 0, i6 0, i6 0, .slice none 0 0, .bool false, .bool false, .bool false, i6 0, .slice none 0 0, .slice none 0 0, .slice none 0 0, .slice none 0 0]) hS38 (on_none rfl) rfl (by kernel_rfl) fun g39 w39 hS39 hb39 => ⟨_, rfl, ?_⟩, trivial⟩
                    clear h_ a_ hS38
                    clear hb39
                    refine ⟨fun a_ h_ => st_store (n := 16) (cells := #[i6 0, i6 0, i6 0, i6 0, i6 0, i6 0, i6 0, .slice none 0 0, .bool false, .bool false, .bool false, i6 0, .slice none 0 0, .slice none 0 0, .slice none 0 0, .slice none 0 0]) (cs' := #[i6 0, i6 0, i6 0, i6 0, i6 0, i6 0, i6 0, .slice none 0 0, .bool false, .bool false, .bool false, i6 0, .slice none 0 0, .slice none 0 0, .slice none 0 0, .slice none 0 0]) 0 hS39 rfl (on_none rfl) rfl (h_.d 7 12) (h_.d 5 99) rfl (by kernel_rfl) ⟨Nat.le_of_ble_eq_true rfl, rfl, by kernel_rfl⟩ rfl fun w40 hS40 he40 => ⟨_, rfl, ?_⟩, trivial⟩
                    clear h_ a_ he40 hS39
                    replace hS40 : S (kap W) ((blkA g39 31 #[i6 0, i6 0, i6 0, i6 0, i6 0, i6 0, i6 0, .slice none 0 0, .bool false, .bool false, .bool false, i6 0, .slice none 0 0, .slice none 0 0, .slice none 0 0, .slice none 0 0]) :: (blkA g35 48 #[i6 0, i6 2, i6 0, .slice A2 bs2.length c2, i6 1, .bool true]) :: []) ((rowA (.slice A2 bs2.length c2) 5 1 bs2.length (u8s bs2)) :: (memA W W.heap.size) :: []) w40 := hS40
                    refine ⟨i6 5, fun _ h_ => ras (h_.d 6 100), ?_⟩
                    intro a37 hput
                    replace s6 := hput.o 6 s6
                    have s13 : sl a37 13 = i6 5 := hput.new 9 13 rfl
                    replace hz := hput.size.trans hz
                    replace hd := hput.defers.trans hd
                    clear hput s10
                    change Code.wp _ _ _ _ _
                    refine wp_seq ?_
                    refine seq_l [] hz ?_
                    refine ⟨i6 5, fun _ h_ => rmv (h_.b 13 s13),
                     .bool true, fun _ h_ => rk (run_cmp rfl (h_.d 0 101) rfl rfl (by decide)),
                     .bool true, fun _ h_ => ras (h_.d 1 102), ?_⟩
                    intro a41 hput
                    replace s6 : sl a41 6 = .bool true := hput.new 2 6 rfl
                    replace hz := hput.size.trans hz
                    replace hd := hput.defers.trans hd
                    clear hput s13
                    change Code.wp _ _ _ _ _
                    refine wp_ret ?_
                    refine ret1 (P := Try.prog) (fn := Try.f3) hd s6 (hR_ _ _ ?_)
                    exact ⟨rfl, (hS40.old (by simp))⟩
end Go.Proofs.Ytdenfgnkbfbpmaa
