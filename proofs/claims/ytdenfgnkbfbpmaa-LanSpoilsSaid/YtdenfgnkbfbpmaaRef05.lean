/-
  The reference's bytes of a packet: how many there are.
-/
import Derived.Test.YtdenfgnkbfbpmaaRef04c
namespace Go.Proofs.Ytdenfgnkbfbpmaa
open Go.RowKit
set_option linter.unusedSimpArgs false
set_option linter.unusedVariables false

theorem headB_byte (h : HD) (z : Int) (hz : z ∈ headB h) : 0 ≤ z ∧ z < 256 := by
  unfold headB at hz
  simp only [List.mem_append] at hz
  rcases hz with ((hz | hz) | hz) | hz <;> exact putB_byte _ _ z hz
def Bys (bs : List Int) : Prop := ∀ z ∈ bs, 0 ≤ z ∧ z < 256
theorem Bys.nil : Bys [] := fun z hz => by cases hz
theorem Bys.num (w : Nat) (v : Int) : Bys (numB w v) := fun z hz => numB_byte w v z hz
theorem Bys.lit2 (v : Int) : Bys [0, v % 256] := fun z hz => by simp at hz; omega
theorem Bys.lit4 {v : Int} (h : 0 ≤ v ∧ v < 256) : Bys [0, 0, 0, v] := fun z hz => by simp at hz; omega
theorem Bys.lsa (l : LV) : Bys (lsaB l) := lsaB_byte l
theorem Bys.app {a b : List Int} (h : Bys a) (h' : Bys b) : Bys (a ++ b) := fun z hz => (List.mem_append.1 hz).elim (h z) (h' z)
def hdC (h : HD) : List Value := [.int .i64 h.age, .int .i64 h.kind, .int .i64 h.id, .int .i64 h.adv, .int .i64 h.seq, .int .i64 h.sum, .int .i64 h.long]
theorem hdC_len (h : HD) : (hdC h).length = 7 := rfl
set_option maxRecDepth 100000 in
set_option maxHeartbeats 800000 in
theorem put05_any {κ : Kap} {L I : List Atom} (A : Option Addr) (n c q_ : Nat) (v : Int) (bs : List Int) (W : World) (hw : 1 ≤ q_ ∧ q_ ≤ 4) (hn : n ≤ 200000) (hS : S κ ((rowA (.slice A n c) 5 1 n (u8s bs)) :: L) (I) W) :
    Calls Try.prog 31 #[.slice A n c, i6 q_, i6 v] W (fun r w' => ∃ A' c', r = .returned (.slice A' (n + q_) c') ∧ S κ (rowA (.slice A' (n + q_) c') 5 1 (n + q_) (u8s (bs ++ numB q_ v)) :: L) I w') := by
  refine calls_walk Try.func31 rfl fun R_ hR_ a hz hd hargs => ?_
  replace hz : a.tmps.size = 12 := hz.trans (by kernel_rfl)
  have s0 := hargs 0 _ rfl
  have s1 := hargs 1 _ rfl
  have s2 := hargs 2 _ rfl
  clear hargs
  refine wp_seq ?_
  refine seq_l [] hz ?_
  refine ⟨.slice none 0 0, fun _ h_ => rk (run_assign rfl rfl), ?_⟩
  intro a2 hput
  replace s0 := hput.o 0 s0
  replace s1 := hput.o 1 s1
  replace s2 := hput.o 2 s2
  have s6 : sl a2 6 = .slice none 0 0 := hput.new 0 6 rfl
  replace hz := hput.size.trans hz
  replace hd := hput.defers.trans hd
  clear hput
  change Code.wp _ _ _ _ _
  refine wp_seq ?_
  refine seq_l [3, 4] hz ?_
  refine ⟨.slice A n c, fun _ h_ => rmv (h_.b 0 s0),
   i6 v, fun _ h_ => rmv (h_.b 2 s2),
   i6 q_, fun _ h_ => rmv (h_.b 1 s1), ?_⟩
  refine ⟨fun a_ h_ => st_call (on_none rfl) (run_call rfl (map2 (h_.d 1 8) (h_.d 2 9)) rfl) (bytes01_any v q_ _ (by omega)) ?_, trivial⟩
  rintro e w4 ⟨A4, c4, rfl, ho4, hb4⟩
  refine ⟨_, rfl, _, rfl, ?_⟩
  clear h_ a_
  have hS4 := hS.pushRowI hb4 ho4
  clear hS hb4 ho4
  refine ⟨fun a_ h_ => sap (bytes := 1) (news := u8s (numB q_ v)) hS4 0 (on_none rfl) rfl (h_.d 0 7) (h_.d 3 10) (hS4.rdI (i := 0) rfl) (by exact u8s_one _) (by (try unfold maxLen); omega) (by (try unfold maxLen); omega) fun A5 c5 w5 hS5 => ⟨_, rfl, ?_⟩, trivial⟩
  clear h_ a_ hS4
  replace hS5 : S κ ((rowA (.slice A5 (n + q_) c5) 5 1 (n + q_) (u8s bs ++ u8s (numB q_ v))) :: L) ((rowA (.slice A4 q_ c4) 5 1 q_ (u8s (numB q_ v))) :: I) w5 := hS5
  refine ⟨.slice A5 (n + q_) c5, fun _ h_ => ras (h_.d 4 11), ?_⟩
  intro a3 hput
  replace s6 : sl a3 6 = .slice A5 (n + q_) c5 := hput.new 5 6 rfl
  replace hz := hput.size.trans hz
  replace hd := hput.defers.trans hd
  clear hput s0 s1 s2
  change Code.wp _ _ _ _ _
  refine wp_ret ?_
  refine ret1 (P := Try.prog) (fn := Try.f31) hd s6 (hR_ _ _ ?_)
  rw [← u8s_append] at hS5
  exact ⟨_, _, rfl, hS5.dropI⟩
set_option maxRecDepth 100000 in
set_option maxHeartbeats 800000 in
theorem all05_any (A : Option Addr) (c : Nat) (l : List HD) (W : World) (hn : l.length ≤ 100) (hr : Reads W W.heap.size 7 A l.length (rowC hdC l)) :
    Calls Try.prog 64 #[.slice A l.length c] W (fun r w' => ∃ A n c bs, r = .returned (.slice A n c) ∧ w'.ownsRow W.heap.size 5 1 (.slice A n c) n (u8s bs) ∧ Bys bs ∧ n ≤ 2000 ∧ Below W.heap.size W w') := by
  have hS := S.start W
  refine calls_walk Try.func64 rfl fun R_ hR_ a hz hd hargs => ?_
  replace hz : a.tmps.size = 19 := hz.trans (by kernel_rfl)
  have s0 := hargs 0 _ rfl
  clear hargs
  refine wp_seq ?_
  refine seq_l [] hz ?_
  refine ⟨.slice none 0 0, fun _ h_ => rk (run_assign rfl rfl), ?_⟩
  intro a2 hput
  replace s0 := hput.o 0 s0
  have s2 : sl a2 2 = .slice none 0 0 := hput.new 0 2 rfl
  replace hz := hput.size.trans hz
  replace hd := hput.defers.trans hd
  clear hput
  change Code.wp _ _ _ _ _
  refine wp_seq ?_
  refine seq_l [] hz ?_
  refine ⟨.slice none 0 0, fun _ h_ => rk (run_assign rfl rfl), ?_⟩
  intro a3 hput
  replace s0 := hput.o 0 s0
  replace s2 := hput.o 2 s2
  have s3 : sl a3 3 = .slice none 0 0 := hput.new 0 3 rfl
  replace hz := hput.size.trans hz
  replace hd := hput.defers.trans hd
  clear hput
  change Code.wp _ _ _ _ _
  refine wp_seq ?_
  refine wp_seq ?_
  refine seq_l [] hz ?_
  refine ⟨i6 0, fun _ h_ => rk (run_assign rfl rfl), ?_⟩
  intro a4 hput
  replace s0 := hput.o 0 s0
  replace s2 := hput.o 2 s2
  replace s3 := hput.o 3 s3
  have s4 : sl a4 4 = i6 0 := hput.new 0 4 rfl
  replace hz := hput.size.trans hz
  replace hd := hput.defers.trans hd
  clear hput
  change Code.wp _ _ _ _ _
  refine wp_block ?_
  refine wp_loop (fun a_ w_ => ∃ k : Nat, ∃ m : Nat, ∃ B : Option Addr, ∃ d : Nat, ∃ bs : List Int, (k ≤ l.length) ∧ (m = 20 * k) ∧ (Bys bs) ∧ a_.tmps.size = 19 ∧ a_.defers = [] ∧ sl a_ 0 = .slice A l.length c ∧ sl a_ 2 = .slice none 0 0 ∧ sl a_ 3 = .slice B m d ∧ sl a_ 4 = i6 k ∧ S (kap W) ((rowA (.slice B m d) 5 1 m (u8s bs)) :: []) ((memA W W.heap.size) :: []) w_) (fun a_ _ => l.length - (intOf (sl a_ 4)).toNat) ?_ ?_
  · have hSn := hS.nilrow 5 1
    exact ⟨0, 0, none, 0, [], Nat.zero_le _, rfl, (fun z hz => by cases hz), hz, hd, s0, s2, s3, s4, hSn⟩
  · clear hz hd s0 s2 s3 s4 hS
    rintro a5 w5 ⟨k, m, B, d, bs, hc0_0, hc0_1, hc0_2, hz, hd, s0, s2, s3, s4, hS5⟩
    have hmu0 := s4
    refine wp_seq ?_
    refine wp_seq ?_
    refine seq_l [] hz ?_
    refine ⟨i6 k, fun _ h_ => rmv (h_.b 4 s4),
     .slice A l.length c, fun _ h_ => rmv (h_.b 0 s0),
     i6 l.length, fun _ h_ => rk (run_lenS rfl (h_.d 1 6) (by kernel_rfl)),
     .bool (decide ((k : Int) < l.length)), fun _ h_ => rk (run_cmp rfl (h_.d 0 5) (h_.d 2 7) rfl (by first | rfl | exact neq_dec _ _ | exact eq_dec _ _ | simp)), ?_⟩
    intro a6 hput
    replace s0 := hput.o 0 s0
    replace s2 := hput.o 2 s2
    replace s3 := hput.o 3 s3
    replace s4 := hput.o 4 s4
    have s5 : sl a6 5 = i6 k := hput.new 0 5 rfl
    have s6 : sl a6 6 = .slice A l.length c := hput.new 1 6 rfl
    have s7 : sl a6 7 = i6 l.length := hput.new 2 7 rfl
    have s8 : sl a6 8 = .bool (decide ((k : Int) < l.length)) := hput.new 3 8 rfl
    replace hz := hput.size.trans hz
    replace hd := hput.defers.trans hd
    clear hput
    change Code.wp _ _ _ _ _
    refine wp_cond_d s8 (fun hc8 => ?_) (fun hc8 => ?_)
    · clear s8
      refine wp_skip ?_
      change Code.wp _ _ _ _ _
      refine wp_seq ?_
      refine wp_block ?_
      refine seq_l [5, 6] hz ?_
      refine ⟨.slice B m d, fun _ h_ => rmv (h_.b 3 s3),
       .slice A l.length c, fun _ h_ => rmv (h_.b 0 s0),
       i6 k, fun _ h_ => rmv (h_.b 4 s4), ?_⟩
      obtain ⟨b8, o8, z8, hA8, hb8, hz8, hq8⟩ := Reads.row_at hdC 7 hdC_len (k := k) ((Reads.old hr (hS5.old (by simp)))) (by decide) (by omega)
      refine ⟨pt b8 (o8 + k * 7), fun _ h_ => rk (run_indexV (size := 7) rfl (h_.d 1 12) hA8 (h_.d 2 13) (by kernel_rfl) (by omega) (by simp)),
       .agg #[i6 z8.age, i6 z8.kind, i6 z8.id, i6 z8.adv, i6 z8.seq, i6 z8.sum, i6 z8.long], fun _ h_ => rk (run_loadV (size := 7) (cs := hdC z8) rfl (h_.d 3 14) (by kernel_rfl) rfl hq8), ?_⟩
      refine ⟨fun a_ h_ => st_call (on_none rfl) (run_call rfl (map1 (h_.d 4 15)) rfl) (headBytes04_any z8 _) ?_, trivial⟩
      rintro e w9 ⟨A9, c9, rfl, ho9, hb9⟩
      refine ⟨_, rfl, _, rfl, ?_⟩
      clear h_ a_
      have hS9 := hS5.pushRowI hb9 ho9
      clear hS5 hb9 ho9
      refine ⟨fun a_ h_ => sap (bytes := 1) (news := u8s (headB z8)) hS9 0 (on_none rfl) rfl (h_.d 0 11) (h_.d 5 16) (hS9.rdI (i := 0) rfl) (by exact u8s_one _) (by (try unfold maxLen); omega) (by (try unfold maxLen); omega) fun A10 c10 w10 hS10 => ⟨_, rfl, ?_⟩, trivial⟩
      clear h_ a_ hS9
      replace hS10 : S (kap W) ((rowA (.slice A10 (m + 20) c10) 5 1 (m + 20) (u8s bs ++ u8s (headB z8))) :: []) ((rowA (.slice A9 20 c9) 5 1 20 (u8s (headB z8))) :: (memA W W.heap.size) :: []) w10 := hS10
      refine ⟨.slice A10 (m + 20) c10, fun _ h_ => ras (h_.d 6 17), ?_⟩
      intro a7 hput
      replace s0 := hput.o 0 s0
      replace s2 := hput.o 2 s2
      replace s3 : sl a7 3 = .slice A10 (m + 20) c10 := hput.new 7 3 rfl
      replace s4 := hput.o 4 s4
      replace s5 := hput.o 5 s5
      replace s6 := hput.o 6 s6
      replace s7 := hput.o 7 s7
      have s11 : sl a7 11 = .slice B m d := hput.new 0 11 rfl
      have s12 : sl a7 12 = .slice A l.length c := hput.new 1 12 rfl
      have s13 : sl a7 13 = i6 k := hput.new 2 13 rfl
      have s14 : sl a7 14 = pt b8 (o8 + k * 7) := hput.new 3 14 rfl
      have s15 : sl a7 15 = .agg #[i6 z8.age, i6 z8.kind, i6 z8.id, i6 z8.adv, i6 z8.seq, i6 z8.sum, i6 z8.long] := hput.new 4 15 rfl
      have s16 : sl a7 16 = .slice A9 20 c9 := hput.new 5 16 rfl
      have s17 : sl a7 17 = .slice A10 (m + 20) c10 := hput.new 6 17 rfl
      replace hz := hput.size.trans hz
      replace hd := hput.defers.trans hd
      clear hput
      change Code.wp _ _ _ _ _
      refine seq_l [] hz ?_
      refine ⟨i6 k, fun _ h_ => rmv (h_.b 4 s4),
       i6 (k + 1), fun _ h_ => rk (run_addI rfl (h_.d 0 9) rfl (by omega) rfl),
       i6 (k + 1), fun _ h_ => ras (h_.d 1 10), ?_⟩
      intro a11 hput
      replace s0 := hput.o 0 s0
      replace s2 := hput.o 2 s2
      replace s3 := hput.o 3 s3
      replace s4 : sl a11 4 = i6 (k + 1) := hput.new 2 4 rfl
      replace s5 := hput.o 5 s5
      replace s6 := hput.o 6 s6
      replace s7 := hput.o 7 s7
      have s9 : sl a11 9 = i6 k := hput.new 0 9 rfl
      have s10 : sl a11 10 = i6 (k + 1) := hput.new 1 10 rfl
      replace s11 := hput.o 11 s11
      replace s12 := hput.o 12 s12
      replace s13 := hput.o 13 s13
      replace s14 := hput.o 14 s14
      replace s15 := hput.o 15 s15
      replace s16 := hput.o 16 s16
      replace s17 := hput.o 17 s17
      replace hz := hput.size.trans hz
      replace hd := hput.defers.trans hd
      clear hput
      rw [← u8s_append] at hS10
      have hSd := hS10.dropI
      refine ⟨⟨k + 1, _, _, _, _, by omega, by omega, Bys.app hc0_2 (headB_byte z8), hz, hd, s0, s2, s3, s4, hSd⟩, ?_⟩
      show l.length - (intOf (sl a11 4)).toNat < l.length - (intOf (sl a5 4)).toNat
      rw [show sl a11 4 = _ from s4, show sl a5 4 = _ from hmu0]
      simp only [intOf]
      omega
    · clear s8
      refine wp_exit ?_
      change Code.wp _ _ _ _ _
      refine wp_seq ?_
      refine seq_l [] hz ?_
      refine ⟨.slice B m d, fun _ h_ => rmv (h_.b 3 s3),
       .slice B m d, fun _ h_ => ras (h_.d 0 18), ?_⟩
      intro a12 hput
      replace s2 : sl a12 2 = .slice B m d := hput.new 1 2 rfl
      replace hz := hput.size.trans hz
      replace hd := hput.defers.trans hd
      clear hput s0 s3 s4 s5 s6 s7
      change Code.wp _ _ _ _ _
      refine wp_ret ?_
      refine ret1 (P := Try.prog) (fn := Try.f64) hd s2 (hR_ _ _ ?_)
      exact ⟨_, _, _, _, rfl, hS5.rowBase (i := 0) rfl (by simp : memA W W.heap.size ∈ _), hc0_2, (by omega), (hS5.old (by simp))⟩
/-- a key -/
structure KV where
  kind : Int
  id : Int
  adv : Int
def KV.cells (k : KV) : List Value := [.int .i64 k.kind, .int .i64 k.id, .int .i64 k.adv]
theorem KV.cells_len (k : KV) : k.cells.length = 3 := rfl
/-- a packet, and where its lists lie -/
structure PkV where
  kind : Int
  src : Int
  every : Int
  dead : Int
  prio : Int
  dr : Int
  bdr : Int
  seen : List Int
  init : Bool
  more : Bool
  master : Bool
  seq : Int
  heads : List HD
  keys : List KV
  lsas : List (LV × LP)
  acks : List HD
structure PkP where
  sA : Option Addr
  sc : Nat
  hA : Option Addr
  hc : Nat
  kA : Option Addr
  kc : Nat
  lA : Option Addr
  lc : Nat
  aA : Option Addr
  ac : Nat
def lsaC (x : LV × LP) : List Value := (lsaA x.1 x.2).toList
theorem lsaC_len (x : LV × LP) : (lsaC x).length = 9 := rfl
abbrev pkA (p : PkV) (q : PkP) : Array Value := #[.int .i64 p.kind, .int .i64 p.src, .int .i64 p.every, .int .i64 p.dead, .int .i64 p.prio, .int .i64 p.dr, .int .i64 p.bdr, .slice q.sA p.seen.length q.sc,
  .bool p.init, .bool p.more, .bool p.master, .int .i64 p.seq, .slice q.hA p.heads.length q.hc, .slice q.kA p.keys.length q.kc, .slice q.lA p.lsas.length q.lc, .slice q.aA p.acks.length q.ac]
structure PkOK (w : World) (p : PkV) (q : PkP) : Prop where
  seen : Reads w w.heap.size 1 q.sA p.seen.length (ints p.seen)
  heads : Reads w w.heap.size 7 q.hA p.heads.length (rowC hdC p.heads)
  keys : Reads w w.heap.size 3 q.kA p.keys.length (rowC KV.cells p.keys)
  lsas : Reads w w.heap.size 9 q.lA p.lsas.length (rowC lsaC p.lsas)
  acks : Reads w w.heap.size 7 q.aA p.acks.length (rowC hdC p.acks)
  each : ∀ x ∈ p.lsas, LOK w x.1 x.2
theorem PkOK.below {w w' : World} {p : PkV} {q : PkP} (h : PkOK w p q) (hb : Below w.heap.size w w') : PkOK w' p q :=
  ⟨Reads.old h.seen hb, Reads.old h.heads hb, Reads.old h.keys hb, Reads.old h.lsas hb, Reads.old h.acks hb, fun x hx => (h.each x hx).below hb⟩
structure PkSm (p : PkV) : Prop where
  seen : p.seen.length ≤ 30
  heads : p.heads.length ≤ 20
  keys : p.keys.length ≤ 20
  lsas : p.lsas.length ≤ 20
  acks : p.acks.length ≤ 20
  each : ∀ x ∈ p.lsas, x.1.links.length ≤ 20 ∧ x.1.mem.length ≤ 20
theorem lsaB_small (l : LV) (hl : l.links.length ≤ 20) (hm : l.mem.length ≤ 20) : (lsaB l).length ≤ 400 := by
  rw [lsaB_length]
  unfold bodyB
  split
  · rw [List.length_append, flat_len, putB_length]; simp; omega
  · rw [putB_length]; omega
theorem right_one {l : LV} (h : rightB l = true) : l.hd.kind = 1 → l.mem = [] := by
  intro hk
  unfold rightB at h
  rw [if_pos hk] at h
  simp only [Bool.and_eq_true, decide_eq_true_eq] at h
  exact List.length_eq_zero_iff.1 h.2.1.2
set_option maxRecDepth 100000 in
set_option maxHeartbeats 800000 in
theorem body05_any (p : PkV) (q : PkP) (W : World) (hsm : PkSm p) (hok : PkOK W p q) (hrt : p.kind = 4 → ∀ x ∈ p.lsas, rightB x.1 = true) :
    Calls Try.prog 30 #[.agg #[i6 p.kind, i6 p.src, i6 p.every, i6 p.dead, i6 p.prio, i6 p.dr, i6 p.bdr, .slice q.sA p.seen.length q.sc, .bool p.init, .bool p.more, .bool p.master, i6 p.seq, .slice q.hA p.heads.length q.hc, .slice q.kA p.keys.length q.kc, .slice q.lA p.lsas.length q.lc, .slice q.aA p.acks.length q.ac]] W (fun r w' => ∃ A n c bs, r = .returned (.slice A n c) ∧ w'.ownsRow W.heap.size 5 1 (.slice A n c) n (u8s bs) ∧ Bys bs ∧ n ≤ 11000 ∧ Below W.heap.size W w') := by
  obtain ⟨hsn, hhd, hky, hls, hak, _⟩ := id hsm
  have hS := S.start W
  refine calls_walk Try.func30 rfl fun R_ hR_ a hz hd hargs => ?_
  replace hz : a.tmps.size = 143 := hz.trans (by kernel_rfl)
  have s0 := hargs 0 _ rfl
  clear hargs
  refine wp_seq ?_
  refine seq_l [0] hz ?_
  refine ⟨fun a_ h_ => st_box (cells := #[i6 p.kind, i6 p.src, i6 p.every, i6 p.dead, i6 p.prio, i6 p.dr, i6 p.bdr, .slice q.sA p.seen.length q.sc, .bool p.init, .bool p.more, .bool p.master, i6 p.seq, .slice q.hA p.heads.length q.hc, .slice q.kA p.keys.length q.kc, .slice q.lA p.lsas.length q.lc, .slice q.aA p.acks.length q.ac]) hS (on_none rfl) rfl (h_.b 0 s0) (by kernel_rfl) fun g3 w3 hS3 hb3 => ⟨_, rfl, ?_⟩, trivial⟩
  clear h_ a_ hS
  clear hb3
  refine ⟨.slice none 0 0, fun _ h_ => rk (run_assign rfl rfl), ?_⟩
  intro a2 hput
  have s1 : sl a2 1 = pt g3 0 := hput.new 0 1 rfl
  have s2 : sl a2 2 = .slice none 0 0 := hput.new 1 2 rfl
  replace hz := hput.size.trans hz
  replace hd := hput.defers.trans hd
  clear hput s0
  change Code.wp _ _ _ _ _
  refine wp_seq ?_
  refine seq_l [] hz ?_
  refine ⟨.slice none 0 0, fun _ h_ => rk (run_assign rfl rfl), ?_⟩
  intro a4 hput
  replace s1 := hput.o 1 s1
  replace s2 := hput.o 2 s2
  have s3 : sl a4 3 = .slice none 0 0 := hput.new 0 3 rfl
  replace hz := hput.size.trans hz
  replace hd := hput.defers.trans hd
  clear hput
  change Code.wp _ _ _ _ _
  refine wp_seq ?_
  refine wp_seq ?_
  refine seq_l [] hz ?_
  refine ⟨pt g3 0, fun _ h_ => rk (fa 0 rfl (h_.b 1 s1)),
   i6 p.kind, fun _ h_ => rk (ld hS3 0 rfl (h_.d 0 9)),
   .bool (decide ((p.kind : Int) = 1)), fun _ h_ => rk (run_cmp rfl (h_.d 1 10) rfl rfl (by first | rfl | exact neq_dec _ _ | exact eq_dec _ _ | simp)), ?_⟩
  intro a5 hput
  replace s1 := hput.o 1 s1
  replace s2 := hput.o 2 s2
  replace s3 := hput.o 3 s3
  have s11 : sl a5 11 = .bool (decide ((p.kind : Int) = 1)) := hput.new 2 11 rfl
  replace hz := hput.size.trans hz
  replace hd := hput.defers.trans hd
  clear hput
  change Code.wp _ _ _ _ _
  refine wp_cond_d s11 (fun hc11 => ?_) (fun hc11 => ?_)
  · clear s11
    refine wp_seq ?_
    refine seq_l [2, 3] hz ?_
    refine ⟨pt g3 2, fun _ h_ => rk (fa 2 rfl (h_.b 1 s1)),
     .agg #[i6 p.every, i6 p.dead, i6 p.prio, i6 p.dr, i6 p.bdr, .slice q.sA p.seen.length q.sc], fun _ h_ => rk (lbS 6 (hS3.blk (i := 0) rfl) rfl (h_.d 0 12)), ?_⟩
    refine ⟨fun a_ h_ => st_alloc (cells := #[i6 0, i6 0, i6 0, i6 0, i6 0, .slice none 0 0]) hS3 (on_none rfl) rfl (by kernel_rfl) fun g7 w7 hS7 hb7 => ⟨_, rfl, ?_⟩, trivial⟩
    clear h_ a_ hS3
    clear hb7
    refine ⟨fun a_ h_ => st_store (n := 6) (cells := #[i6 p.every, i6 p.dead, i6 p.prio, i6 p.dr, i6 p.bdr, .slice q.sA p.seen.length q.sc]) (cs' := #[i6 p.every, i6 p.dead, i6 p.prio, i6 p.dr, i6 p.bdr, .slice q.sA p.seen.length q.sc]) 0 hS7 rfl (on_none rfl) rfl (h_.d 2 4) (h_.d 1 13) rfl (by kernel_rfl) ⟨Nat.le_of_ble_eq_true rfl, rfl, by kernel_rfl⟩ rfl fun w8 hS8 he8 => ⟨_, rfl, ?_⟩, trivial⟩
    clear h_ a_ he8 hS7
    replace hS8 : S (kap W) ((blkA g7 24 #[i6 p.every, i6 p.dead, i6 p.prio, i6 p.dr, i6 p.bdr, .slice q.sA p.seen.length q.sc]) :: (blkA g3 31 #[i6 p.kind, i6 p.src, i6 p.every, i6 p.dead, i6 p.prio, i6 p.dr, i6 p.bdr, .slice q.sA p.seen.length q.sc, .bool p.init, .bool p.more, .bool p.master, i6 p.seq, .slice q.hA p.heads.length q.hc, .slice q.kA p.keys.length q.kc, .slice q.lA p.lsas.length q.lc, .slice q.aA p.acks.length q.ac]) :: []) ((memA W W.heap.size) :: []) w8 := hS8
    intro a6 hput
    replace s1 := hput.o 1 s1
    replace s2 := hput.o 2 s2
    replace s3 := hput.o 3 s3
    have s4 : sl a6 4 = pt g7 0 := hput.new 2 4 rfl
    replace hz := hput.size.trans hz
    replace hd := hput.defers.trans hd
    clear hput
    change Code.wp _ _ _ _ _
    refine wp_seq ?_
    refine seq_l [3] hz ?_
    refine ⟨.slice none 0 0, fun _ h_ => rmv (h_.b 3 s3),
     pt g7 0, fun _ h_ => rk (fa 0 rfl (h_.b 4 s4)),
     i6 p.every, fun _ h_ => rk (ld hS8 0 rfl (h_.d 1 15)), ?_⟩
    have hS10 := hS8.nilrow 5 1
    clear hS8
    refine ⟨fun a_ h_ => st_call (on_none rfl) (run_call rfl (map3 (h_.d 0 14) rfl (h_.d 2 16)) rfl) (put05_any _ _ _ 2 p.every [] _ (by omega) (by omega) (hS10.front (i := 0) rfl)) ?_, trivial⟩
    rintro e w11 ⟨A11, c11, rfl, hS11⟩
    refine ⟨_, rfl, _, rfl, ?_⟩
    clear h_ a_ hS10
    replace hS11 : S (kap W) ((rowA (.slice A11 (0 + 2) c11) 5 1 (0 + 2) (u8s ([] ++ numB 2 p.every))) :: (blkA g7 24 #[i6 p.every, i6 p.dead, i6 p.prio, i6 p.dr, i6 p.bdr, .slice q.sA p.seen.length q.sc]) :: (blkA g3 31 #[i6 p.kind, i6 p.src, i6 p.every, i6 p.dead, i6 p.prio, i6 p.dr, i6 p.bdr, .slice q.sA p.seen.length q.sc, .bool p.init, .bool p.more, .bool p.master, i6 p.seq, .slice q.hA p.heads.length q.hc, .slice q.kA p.keys.length q.kc, .slice q.lA p.lsas.length q.lc, .slice q.aA p.acks.length q.ac]) :: []) ((memA W W.heap.size) :: []) w11 := hS11
    refine ⟨.slice A11 (0 + 2) c11, fun _ h_ => ras (h_.d 3 17), ?_⟩
    intro a9 hput
    replace s1 := hput.o 1 s1
    replace s2 := hput.o 2 s2
    replace s3 : sl a9 3 = .slice A11 (0 + 2) c11 := hput.new 4 3 rfl
    replace s4 := hput.o 4 s4
    replace hz := hput.size.trans hz
    replace hd := hput.defers.trans hd
    clear hput
    change Code.wp _ _ _ _ _
    refine wp_seq ?_
    refine seq_l [4, 5] hz ?_
    refine ⟨.slice A11 (0 + 2) c11, fun _ h_ => rmv (h_.b 3 s3),
     pt g7 2, fun _ h_ => rk (fa 2 rfl (h_.b 4 s4)),
     i6 p.prio, fun _ h_ => rk (ld hS11 1 rfl (h_.d 1 19)),
     .int .u8 (p.prio % 256), fun _ h_ => rk (run_convW rfl (h_.d 2 20) (by kernel_rfl) (wrap_u8m _) (by kernel_rfl)), ?_⟩
    refine ⟨fun a_ h_ => st_lit (e := 5) (vals := [(0, .int .u8 0), (1, .int .u8 (p.prio % 256))]) (cells := #[.int .u8 0, .int .u8 (p.prio % 256)]) hS11 (on_none rfl) rfl (parts2 rfl (h_.d 3 21)) fun g13 w13 hS13 hb13 => ⟨_, rfl, ?_⟩, trivial⟩
    clear h_ a_ hS11
    clear hb13
    refine ⟨fun a_ h_ => sap (bytes := 1) (news := [.int .u8 0, .int .u8 (p.prio % 256)]) hS13 1 (on_none rfl) rfl (h_.d 0 18) (h_.d 4 22) (reads_blk (hS13.blk (i := 0) rfl) rfl) (by simp [Value.oneCell']) (by (try unfold maxLen); omega) (by (try unfold maxLen); omega) fun A14 c14 w14 hS14 => ⟨_, rfl, ?_⟩, trivial⟩
    clear h_ a_ hS13
    replace hS14 : S (kap W) ((blkA g13 5 #[.int .u8 0, .int .u8 (p.prio % 256)]) :: (rowA (.slice A14 (0 + 2 + 2) c14) 5 1 (0 + 2 + 2) (u8s ([] ++ numB 2 p.every) ++ [.int .u8 0, .int .u8 (p.prio % 256)])) :: (blkA g7 24 #[i6 p.every, i6 p.dead, i6 p.prio, i6 p.dr, i6 p.bdr, .slice q.sA p.seen.length q.sc]) :: (blkA g3 31 #[i6 p.kind, i6 p.src, i6 p.every, i6 p.dead, i6 p.prio, i6 p.dr, i6 p.bdr, .slice q.sA p.seen.length q.sc, .bool p.init, .bool p.more, .bool p.master, i6 p.seq, .slice q.hA p.heads.length q.hc, .slice q.kA p.keys.length q.kc, .slice q.lA p.lsas.length q.lc, .slice q.aA p.acks.length q.ac]) :: []) ((memA W W.heap.size) :: []) w14 := hS14
    replace hS14 : S (kap W) ((blkA g13 5 #[.int .u8 0, .int .u8 (p.prio % 256)]) :: (rowA (.slice A14 (0 + 2 + 2) c14) 5 1 (0 + 2 + 2) (u8s (([] ++ numB 2 p.every) ++ [0, (p.prio % 256)]))) :: (blkA g7 24 #[i6 p.every, i6 p.dead, i6 p.prio, i6 p.dr, i6 p.bdr, .slice q.sA p.seen.length q.sc]) :: (blkA g3 31 #[i6 p.kind, i6 p.src, i6 p.every, i6 p.dead, i6 p.prio, i6 p.dr, i6 p.bdr, .slice q.sA p.seen.length q.sc, .bool p.init, .bool p.more, .bool p.master, i6 p.seq, .slice q.hA p.heads.length q.hc, .slice q.kA p.keys.length q.kc, .slice q.lA p.lsas.length q.lc, .slice q.aA p.acks.length q.ac]) :: []) ((memA W W.heap.size) :: []) w14 := by rw [u8s_append (([] ++ numB 2 p.every)) ([0, (p.prio % 256)])]; exact hS14
    refine ⟨.slice A14 (0 + 2 + 2) c14, fun _ h_ => ras (h_.d 5 23), ?_⟩
    intro a12 hput
    replace s1 := hput.o 1 s1
    replace s2 := hput.o 2 s2
    replace s3 : sl a12 3 = .slice A14 (0 + 2 + 2) c14 := hput.new 6 3 rfl
    replace s4 := hput.o 4 s4
    replace hz := hput.size.trans hz
    replace hd := hput.defers.trans hd
    clear hput
    change Code.wp _ _ _ _ _
    refine wp_seq ?_
    refine seq_l [3] hz ?_
    refine ⟨.slice A14 (0 + 2 + 2) c14, fun _ h_ => rmv (h_.b 3 s3),
     pt g7 1, fun _ h_ => rk (fa 1 rfl (h_.b 4 s4)),
     i6 p.dead, fun _ h_ => rk (ld hS14 2 rfl (h_.d 1 25)), ?_⟩
    refine ⟨fun a_ h_ => st_call (on_none rfl) (run_call rfl (map3 (h_.d 0 24) rfl (h_.d 2 26)) rfl) (put05_any _ _ _ 4 p.dead (([] ++ numB 2 p.every) ++ [0, (p.prio % 256)]) _ (by omega) (by omega) (hS14.front (i := 1) rfl)) ?_, trivial⟩
    rintro e w16 ⟨A16, c16, rfl, hS16⟩
    refine ⟨_, rfl, _, rfl, ?_⟩
    clear h_ a_ hS14
    replace hS16 : S (kap W) ((rowA (.slice A16 (0 + 2 + 2 + 4) c16) 5 1 (0 + 2 + 2 + 4) (u8s ((([] ++ numB 2 p.every) ++ [0, (p.prio % 256)]) ++ numB 4 p.dead))) :: (blkA g13 5 #[.int .u8 0, .int .u8 (p.prio % 256)]) :: (blkA g7 24 #[i6 p.every, i6 p.dead, i6 p.prio, i6 p.dr, i6 p.bdr, .slice q.sA p.seen.length q.sc]) :: (blkA g3 31 #[i6 p.kind, i6 p.src, i6 p.every, i6 p.dead, i6 p.prio, i6 p.dr, i6 p.bdr, .slice q.sA p.seen.length q.sc, .bool p.init, .bool p.more, .bool p.master, i6 p.seq, .slice q.hA p.heads.length q.hc, .slice q.kA p.keys.length q.kc, .slice q.lA p.lsas.length q.lc, .slice q.aA p.acks.length q.ac]) :: []) ((memA W W.heap.size) :: []) w16 := hS16
    refine ⟨.slice A16 (0 + 2 + 2 + 4) c16, fun _ h_ => ras (h_.d 3 27), ?_⟩
    intro a15 hput
    replace s1 := hput.o 1 s1
    replace s2 := hput.o 2 s2
    replace s3 : sl a15 3 = .slice A16 (0 + 2 + 2 + 4) c16 := hput.new 4 3 rfl
    replace s4 := hput.o 4 s4
    replace hz := hput.size.trans hz
    replace hd := hput.defers.trans hd
    clear hput
    change Code.wp _ _ _ _ _
    refine wp_seq ?_
    refine seq_l [3] hz ?_
    refine ⟨.slice A16 (0 + 2 + 2 + 4) c16, fun _ h_ => rmv (h_.b 3 s3),
     pt g7 3, fun _ h_ => rk (fa 3 rfl (h_.b 4 s4)),
     i6 p.dr, fun _ h_ => rk (ld hS16 2 rfl (h_.d 1 29)), ?_⟩
    refine ⟨fun a_ h_ => st_call (on_none rfl) (run_call rfl (map3 (h_.d 0 28) rfl (h_.d 2 30)) rfl) (put05_any _ _ _ 4 p.dr ((([] ++ numB 2 p.every) ++ [0, (p.prio % 256)]) ++ numB 4 p.dead) _ (by omega) (by omega) (hS16.front (i := 0) rfl)) ?_, trivial⟩
    rintro e w18 ⟨A18, c18, rfl, hS18⟩
    refine ⟨_, rfl, _, rfl, ?_⟩
    clear h_ a_ hS16
    replace hS18 : S (kap W) ((rowA (.slice A18 (0 + 2 + 2 + 4 + 4) c18) 5 1 (0 + 2 + 2 + 4 + 4) (u8s (((([] ++ numB 2 p.every) ++ [0, (p.prio % 256)]) ++ numB 4 p.dead) ++ numB 4 p.dr))) :: (blkA g13 5 #[.int .u8 0, .int .u8 (p.prio % 256)]) :: (blkA g7 24 #[i6 p.every, i6 p.dead, i6 p.prio, i6 p.dr, i6 p.bdr, .slice q.sA p.seen.length q.sc]) :: (blkA g3 31 #[i6 p.kind, i6 p.src, i6 p.every, i6 p.dead, i6 p.prio, i6 p.dr, i6 p.bdr, .slice q.sA p.seen.length q.sc, .bool p.init, .bool p.more, .bool p.master, i6 p.seq, .slice q.hA p.heads.length q.hc, .slice q.kA p.keys.length q.kc, .slice q.lA p.lsas.length q.lc, .slice q.aA p.acks.length q.ac]) :: []) ((memA W W.heap.size) :: []) w18 := hS18
    refine ⟨.slice A18 (0 + 2 + 2 + 4 + 4) c18, fun _ h_ => ras (h_.d 3 31), ?_⟩
    intro a17 hput
    replace s1 := hput.o 1 s1
    replace s2 := hput.o 2 s2
    replace s3 : sl a17 3 = .slice A18 (0 + 2 + 2 + 4 + 4) c18 := hput.new 4 3 rfl
    replace s4 := hput.o 4 s4
    replace hz := hput.size.trans hz
    replace hd := hput.defers.trans hd
    clear hput
    change Code.wp _ _ _ _ _
    refine wp_seq ?_
    refine seq_l [3] hz ?_
    refine ⟨.slice A18 (0 + 2 + 2 + 4 + 4) c18, fun _ h_ => rmv (h_.b 3 s3),
     pt g7 4, fun _ h_ => rk (fa 4 rfl (h_.b 4 s4)),
     i6 p.bdr, fun _ h_ => rk (ld hS18 2 rfl (h_.d 1 33)), ?_⟩
    refine ⟨fun a_ h_ => st_call (on_none rfl) (run_call rfl (map3 (h_.d 0 32) rfl (h_.d 2 34)) rfl) (put05_any _ _ _ 4 p.bdr (((([] ++ numB 2 p.every) ++ [0, (p.prio % 256)]) ++ numB 4 p.dead) ++ numB 4 p.dr) _ (by omega) (by omega) (hS18.front (i := 0) rfl)) ?_, trivial⟩
    rintro e w20 ⟨A20, c20, rfl, hS20⟩
    refine ⟨_, rfl, _, rfl, ?_⟩
    clear h_ a_ hS18
    replace hS20 : S (kap W) ((rowA (.slice A20 (0 + 2 + 2 + 4 + 4 + 4) c20) 5 1 (0 + 2 + 2 + 4 + 4 + 4) (u8s ((((([] ++ numB 2 p.every) ++ [0, (p.prio % 256)]) ++ numB 4 p.dead) ++ numB 4 p.dr) ++ numB 4 p.bdr))) :: (blkA g13 5 #[.int .u8 0, .int .u8 (p.prio % 256)]) :: (blkA g7 24 #[i6 p.every, i6 p.dead, i6 p.prio, i6 p.dr, i6 p.bdr, .slice q.sA p.seen.length q.sc]) :: (blkA g3 31 #[i6 p.kind, i6 p.src, i6 p.every, i6 p.dead, i6 p.prio, i6 p.dr, i6 p.bdr, .slice q.sA p.seen.length q.sc, .bool p.init, .bool p.more, .bool p.master, i6 p.seq, .slice q.hA p.heads.length q.hc, .slice q.kA p.keys.length q.kc, .slice q.lA p.lsas.length q.lc, .slice q.aA p.acks.length q.ac]) :: []) ((memA W W.heap.size) :: []) w20 := hS20
    refine ⟨.slice A20 (0 + 2 + 2 + 4 + 4 + 4) c20, fun _ h_ => ras (h_.d 3 35), ?_⟩
    intro a19 hput
    replace s1 := hput.o 1 s1
    replace s2 := hput.o 2 s2
    replace s3 : sl a19 3 = .slice A20 (0 + 2 + 2 + 4 + 4 + 4) c20 := hput.new 4 3 rfl
    replace s4 := hput.o 4 s4
    replace hz := hput.size.trans hz
    replace hd := hput.defers.trans hd
    clear hput
    change Code.wp _ _ _ _ _
    refine wp_seq ?_
    refine wp_seq ?_
    refine seq_l [] hz ?_
    refine ⟨i6 0, fun _ h_ => rk (run_assign rfl rfl), ?_⟩
    intro a21 hput
    replace s1 := hput.o 1 s1
    replace s2 := hput.o 2 s2
    replace s3 := hput.o 3 s3
    replace s4 := hput.o 4 s4
    have s5 : sl a21 5 = i6 0 := hput.new 0 5 rfl
    replace hz := hput.size.trans hz
    replace hd := hput.defers.trans hd
    clear hput
    change Code.wp _ _ _ _ _
    refine wp_block ?_
    refine wp_loop (fun a_ w_ => ∃ k : Nat, ∃ m : Nat, ∃ B : Option Addr, ∃ d : Nat, ∃ bs : List Int, (k ≤ p.seen.length) ∧ (m ≤ 16 + 4 * k) ∧ (Bys bs) ∧ a_.tmps.size = 143 ∧ a_.defers = [] ∧ sl a_ 1 = pt g3 0 ∧ sl a_ 2 = .slice none 0 0 ∧ sl a_ 3 = .slice B m d ∧ sl a_ 4 = pt g7 0 ∧ sl a_ 5 = i6 k ∧ S (kap W) ((rowA (.slice B m d) 5 1 m (u8s bs)) :: (blkA g13 5 #[.int .u8 0, .int .u8 (p.prio % 256)]) :: (blkA g7 24 #[i6 p.every, i6 p.dead, i6 p.prio, i6 p.dr, i6 p.bdr, .slice q.sA p.seen.length q.sc]) :: (blkA g3 31 #[i6 p.kind, i6 p.src, i6 p.every, i6 p.dead, i6 p.prio, i6 p.dr, i6 p.bdr, .slice q.sA p.seen.length q.sc, .bool p.init, .bool p.more, .bool p.master, i6 p.seq, .slice q.hA p.heads.length q.hc, .slice q.kA p.keys.length q.kc, .slice q.lA p.lsas.length q.lc, .slice q.aA p.acks.length q.ac]) :: []) ((memA W W.heap.size) :: []) w_) (fun a_ _ => p.seen.length - (intOf (sl a_ 5)).toNat) ?_ ?_
    · exact ⟨0, _, _, _, _, Nat.zero_le _, by omega, (by (repeat' (first | assumption | exact Bys.nil | exact Bys.num _ _ | exact Bys.lit2 _ | exact Bys.lit4 (by assumption) | exact Bys.lsa _ | refine Bys.app ?_ ?_))), hz, hd, s1, s2, s3, s4, s5, hS20⟩
    · clear hz hd s1 s2 s3 s4 s5 hS20
      rintro a22 w22 ⟨k, m, B, d, bs, hc0_0, hc0_1, hc0_2, hz, hd, s1, s2, s3, s4, s5, hS22⟩
      have hmu0 := s5
      refine wp_seq ?_
      refine wp_seq ?_
      refine seq_l [] hz ?_
      refine ⟨i6 k, fun _ h_ => rmv (h_.b 5 s5),
       pt g7 5, fun _ h_ => rk (fa 5 rfl (h_.b 4 s4)),
       .slice q.sA p.seen.length q.sc, fun _ h_ => rk (ld hS22 2 rfl (h_.d 1 37)),
       i6 p.seen.length, fun _ h_ => rk (run_lenS rfl (h_.d 2 38) (by kernel_rfl)),
       .bool (decide ((k : Int) < p.seen.length)), fun _ h_ => rk (run_cmp rfl (h_.d 0 36) (h_.d 3 39) rfl (by first | rfl | exact neq_dec _ _ | exact eq_dec _ _ | simp)), ?_⟩
      intro a23 hput
      replace s1 := hput.o 1 s1
      replace s2 := hput.o 2 s2
      replace s3 := hput.o 3 s3
      replace s4 := hput.o 4 s4
      replace s5 := hput.o 5 s5
      have s36 : sl a23 36 = i6 k := hput.new 0 36 rfl
      have s37 : sl a23 37 = pt g7 5 := hput.new 1 37 rfl
      have s38 : sl a23 38 = .slice q.sA p.seen.length q.sc := hput.new 2 38 rfl
      have s39 : sl a23 39 = i6 p.seen.length := hput.new 3 39 rfl
      have s40 : sl a23 40 = .bool (decide ((k : Int) < p.seen.length)) := hput.new 4 40 rfl
      replace hz := hput.size.trans hz
      replace hd := hput.defers.trans hd
      clear hput
      change Code.wp _ _ _ _ _
      refine wp_cond_d s40 (fun hc40 => ?_) (fun hc40 => ?_)
      · clear s40
        refine wp_skip ?_
        change Code.wp _ _ _ _ _
        refine wp_seq ?_
        refine wp_block ?_
        refine seq_l [6] hz ?_
        refine ⟨.slice B m d, fun _ h_ => rmv (h_.b 3 s3),
         pt g7 5, fun _ h_ => rk (fa 5 rfl (h_.b 4 s4)),
         .slice q.sA p.seen.length q.sc, fun _ h_ => rk (ld hS22 2 rfl (h_.d 1 44)),
         i6 k, fun _ h_ => rmv (h_.b 5 s5), ?_⟩
        obtain ⟨b25, o25, z25, hA25, hb25, hz25, hq25⟩ := Reads.int_at (k := k) ((hok.below (hS22.old (by simp))).seen) (by omega)
        refine ⟨pt b25 (o25 + k), fun _ h_ => rk (run_indexV (size := 1) rfl (h_.d 2 45) hA25 (h_.d 3 46) (by kernel_rfl) (by omega) (by simp)),
         i6 z25, fun _ h_ => rk (run_load rfl (h_.d 4 47) (by kernel_rfl) (show w22.cell? ⟨b25, o25 + k, none⟩ = some (i6 z25) from hq25)), ?_⟩
        refine ⟨fun a_ h_ => st_call (on_none rfl) (run_call rfl (map3 (h_.d 0 43) rfl (h_.d 5 48)) rfl) (put05_any _ _ _ 4 z25 bs _ (by omega) (by omega) (hS22.front (i := 0) rfl)) ?_, trivial⟩
        rintro e w26 ⟨A26, c26, rfl, hS26⟩
        refine ⟨_, rfl, _, rfl, ?_⟩
        clear h_ a_ hS22
        replace hS26 : S (kap W) ((rowA (.slice A26 (m + 4) c26) 5 1 (m + 4) (u8s (bs ++ numB 4 z25))) :: (blkA g13 5 #[.int .u8 0, .int .u8 (p.prio % 256)]) :: (blkA g7 24 #[i6 p.every, i6 p.dead, i6 p.prio, i6 p.dr, i6 p.bdr, .slice q.sA p.seen.length q.sc]) :: (blkA g3 31 #[i6 p.kind, i6 p.src, i6 p.every, i6 p.dead, i6 p.prio, i6 p.dr, i6 p.bdr, .slice q.sA p.seen.length q.sc, .bool p.init, .bool p.more, .bool p.master, i6 p.seq, .slice q.hA p.heads.length q.hc, .slice q.kA p.keys.length q.kc, .slice q.lA p.lsas.length q.lc, .slice q.aA p.acks.length q.ac]) :: []) ((memA W W.heap.size) :: []) w26 := hS26
        refine ⟨.slice A26 (m + 4) c26, fun _ h_ => ras (h_.d 6 49), ?_⟩
        intro a24 hput
        replace s1 := hput.o 1 s1
        replace s2 := hput.o 2 s2
        replace s3 : sl a24 3 = .slice A26 (m + 4) c26 := hput.new 7 3 rfl
        replace s4 := hput.o 4 s4
        replace s5 := hput.o 5 s5
        replace s36 := hput.o 36 s36
        replace s37 := hput.o 37 s37
        replace s38 := hput.o 38 s38
        replace s39 := hput.o 39 s39
        have s43 : sl a24 43 = .slice B m d := hput.new 0 43 rfl
        have s44 : sl a24 44 = pt g7 5 := hput.new 1 44 rfl
        have s45 : sl a24 45 = .slice q.sA p.seen.length q.sc := hput.new 2 45 rfl
        have s46 : sl a24 46 = i6 k := hput.new 3 46 rfl
        have s47 : sl a24 47 = pt b25 (o25 + k) := hput.new 4 47 rfl
        have s48 : sl a24 48 = i6 z25 := hput.new 5 48 rfl
        have s49 : sl a24 49 = .slice A26 (m + 4) c26 := hput.new 6 49 rfl
        replace hz := hput.size.trans hz
        replace hd := hput.defers.trans hd
        clear hput
        change Code.wp _ _ _ _ _
        refine seq_l [] hz ?_
        refine ⟨i6 k, fun _ h_ => rmv (h_.b 5 s5),
         i6 (k + 1), fun _ h_ => rk (run_addI rfl (h_.d 0 41) rfl (by omega) rfl),
         i6 (k + 1), fun _ h_ => ras (h_.d 1 42), ?_⟩
        intro a27 hput
        replace s1 := hput.o 1 s1
        replace s2 := hput.o 2 s2
        replace s3 := hput.o 3 s3
        replace s4 := hput.o 4 s4
        replace s5 : sl a27 5 = i6 (k + 1) := hput.new 2 5 rfl
        replace s36 := hput.o 36 s36
        replace s37 := hput.o 37 s37
        replace s38 := hput.o 38 s38
        replace s39 := hput.o 39 s39
        have s41 : sl a27 41 = i6 k := hput.new 0 41 rfl
        have s42 : sl a27 42 = i6 (k + 1) := hput.new 1 42 rfl
        replace s43 := hput.o 43 s43
        replace s44 := hput.o 44 s44
        replace s45 := hput.o 45 s45
        replace s46 := hput.o 46 s46
        replace s47 := hput.o 47 s47
        replace s48 := hput.o 48 s48
        replace s49 := hput.o 49 s49
        replace hz := hput.size.trans hz
        replace hd := hput.defers.trans hd
        clear hput
        refine ⟨⟨k + 1, _, _, _, _, by omega, by omega, (by (repeat' (first | assumption | exact Bys.nil | exact Bys.num _ _ | exact Bys.lit2 _ | exact Bys.lit4 (by assumption) | exact Bys.lsa _ | refine Bys.app ?_ ?_))), hz, hd, s1, s2, s3, s4, s5, hS26⟩, ?_⟩
        show p.seen.length - (intOf (sl a27 5)).toNat < p.seen.length - (intOf (sl a22 5)).toNat
        rw [show sl a27 5 = _ from s5, show sl a22 5 = _ from hmu0]
        simp only [intOf]
        omega
      · clear s40
        refine wp_exit ?_
        change Code.wp _ _ _ _ _
        refine wp_seq ?_
        refine seq_l [] hz ?_
        refine ⟨.slice B m d, fun _ h_ => rmv (h_.b 3 s3),
         .slice B m d, fun _ h_ => ras (h_.d 0 50), ?_⟩
        intro a28 hput
        replace s1 := hput.o 1 s1
        replace s2 : sl a28 2 = .slice B m d := hput.new 1 2 rfl
        replace s3 := hput.o 3 s3
        replace hz := hput.size.trans hz
        replace hd := hput.defers.trans hd
        clear hput s4 s5 s36 s37 s38 s39
        change Code.wp _ _ _ _ _
        refine wp_ret ?_
        refine ret1 (P := Try.prog) (fn := Try.f30) hd s2 (hR_ _ _ ?_)
        exact ⟨_, _, _, _, rfl, hS22.rowBase (i := 0) rfl (by simp : memA W W.heap.size ∈ _), (by (repeat' (first | assumption | exact Bys.nil | exact Bys.num _ _ | exact Bys.lit2 _ | exact Bys.lit4 (by assumption) | exact Bys.lsa _ | refine Bys.app ?_ ?_))), (by omega), (hS22.old (by simp))⟩
  · clear s11
    refine wp_skip ?_
    change Code.wp _ _ _ _ _
    refine wp_seq ?_
    refine wp_seq ?_
    refine seq_l [] hz ?_
    refine ⟨pt g3 0, fun _ h_ => rk (fa 0 rfl (h_.b 1 s1)),
     i6 p.kind, fun _ h_ => rk (ld hS3 0 rfl (h_.d 0 51)),
     .bool (decide ((p.kind : Int) = 2)), fun _ h_ => rk (run_cmp rfl (h_.d 1 52) rfl rfl (by first | rfl | exact neq_dec _ _ | exact eq_dec _ _ | simp)), ?_⟩
    intro a29 hput
    replace s1 := hput.o 1 s1
    replace s2 := hput.o 2 s2
    replace s3 := hput.o 3 s3
    have s53 : sl a29 53 = .bool (decide ((p.kind : Int) = 2)) := hput.new 2 53 rfl
    replace hz := hput.size.trans hz
    replace hd := hput.defers.trans hd
    clear hput
    change Code.wp _ _ _ _ _
    refine wp_cond_d s53 (fun hc53 => ?_) (fun hc53 => ?_)
    · clear s53
      refine wp_seq ?_
      refine seq_l [] hz ?_
      refine ⟨.int .u8 0, fun _ h_ => rk (run_assign rfl rfl), ?_⟩
      intro a30 hput
      replace s1 := hput.o 1 s1
      replace s2 := hput.o 2 s2
      replace s3 := hput.o 3 s3
      have s6 : sl a30 6 = .int .u8 0 := hput.new 0 6 rfl
      replace hz := hput.size.trans hz
      replace hd := hput.defers.trans hd
      clear hput
      change Code.wp _ _ _ _ _
      refine wp_seq_cut (fun a_ w_ => ∃ f : Int, (0 ≤ f ∧ f < 256) ∧ a_.tmps.size = 143 ∧ a_.defers = [] ∧ sl a_ 1 = pt g3 0 ∧ sl a_ 2 = .slice none 0 0 ∧ sl a_ 3 = .slice none 0 0 ∧ sl a_ 6 = .int .u8 f ∧ S (kap W) ((blkA g3 31 #[i6 p.kind, i6 p.src, i6 p.every, i6 p.dead, i6 p.prio, i6 p.dr, i6 p.bdr, .slice q.sA p.seen.length q.sc, .bool p.init, .bool p.more, .bool p.master, i6 p.seq, .slice q.hA p.heads.length q.hc, .slice q.kA p.keys.length q.kc, .slice q.lA p.lsas.length q.lc, .slice q.aA p.acks.length q.ac]) :: []) ((memA W W.heap.size) :: []) w_) ?_ ?_
      · refine wp_seq ?_
        refine seq_l [] hz ?_
        refine ⟨pt g3 8, fun _ h_ => rk (fa 8 rfl (h_.b 1 s1)),
         pt g3 8, fun _ h_ => rk (fa 0 rfl (h_.d 0 54)),
         .bool p.init, fun _ h_ => rk (ld hS3 0 rfl (h_.d 1 55)), ?_⟩
        intro a31 hput
        replace s1 := hput.o 1 s1
        replace s2 := hput.o 2 s2
        replace s3 := hput.o 3 s3
        replace s6 := hput.o 6 s6
        have s56 : sl a31 56 = .bool p.init := hput.new 2 56 rfl
        replace hz := hput.size.trans hz
        replace hd := hput.defers.trans hd
        clear hput
        change Code.wp _ _ _ _ _
        refine wp_cond_b s56 (fun hc56 => ?_) (fun hc56 => ?_)
        · clear s56
          refine seq_l [] hz ?_
          refine ⟨.int .u8 0, fun _ h_ => rmv (h_.b 6 s6),
           .int .u8 ((0 + 4) % 256), fun _ h_ => rk (run_bin rfl (h_.d 0 57) rfl (by show (pure _ : Sem Value) = pure _; exact congrArg _ (congrArg _ (wrap_u8m _)))),
           .int .u8 ((0 + 4) % 256), fun _ h_ => ras (h_.d 1 58), ?_⟩
          intro a32 hput
          replace s1 := hput.o 1 s1
          replace s2 := hput.o 2 s2
          replace s3 := hput.o 3 s3
          replace s6 : sl a32 6 = .int .u8 ((0 + 4) % 256) := hput.new 2 6 rfl
          replace hz := hput.size.trans hz
          replace hd := hput.defers.trans hd
          clear hput
          exact ⟨(0 + 4) % 256, by omega, hz, hd, s1, s2, s3, s6, hS3⟩
        · clear s56
          refine wp_skip ?_
          exact ⟨0, by omega, hz, hd, s1, s2, s3, s6, hS3⟩
      · clear hz hd s1 s2 s3 s6 hS3
        rintro a33 w33 ⟨f, hk18_0, hz, hd, s1, s2, s3, s6, hS33⟩
        refine wp_seq_cut (fun a_ w_ => ∃ f : Int, (0 ≤ f ∧ f < 256) ∧ a_.tmps.size = 143 ∧ a_.defers = [] ∧ sl a_ 1 = pt g3 0 ∧ sl a_ 2 = .slice none 0 0 ∧ sl a_ 3 = .slice none 0 0 ∧ sl a_ 6 = .int .u8 f ∧ S (kap W) ((blkA g3 31 #[i6 p.kind, i6 p.src, i6 p.every, i6 p.dead, i6 p.prio, i6 p.dr, i6 p.bdr, .slice q.sA p.seen.length q.sc, .bool p.init, .bool p.more, .bool p.master, i6 p.seq, .slice q.hA p.heads.length q.hc, .slice q.kA p.keys.length q.kc, .slice q.lA p.lsas.length q.lc, .slice q.aA p.acks.length q.ac]) :: []) ((memA W W.heap.size) :: []) w_) ?_ ?_
        · refine wp_seq ?_
          refine seq_l [] hz ?_
          refine ⟨pt g3 8, fun _ h_ => rk (fa 8 rfl (h_.b 1 s1)),
           pt g3 9, fun _ h_ => rk (fa 1 rfl (h_.d 0 59)),
           .bool p.more, fun _ h_ => rk (ld hS33 0 rfl (h_.d 1 60)), ?_⟩
          intro a34 hput
          replace s1 := hput.o 1 s1
          replace s2 := hput.o 2 s2
          replace s3 := hput.o 3 s3
          replace s6 := hput.o 6 s6
          have s61 : sl a34 61 = .bool p.more := hput.new 2 61 rfl
          replace hz := hput.size.trans hz
          replace hd := hput.defers.trans hd
          clear hput
          change Code.wp _ _ _ _ _
          refine wp_cond_b s61 (fun hc61 => ?_) (fun hc61 => ?_)
          · clear s61
            refine seq_l [] hz ?_
            refine ⟨.int .u8 f, fun _ h_ => rmv (h_.b 6 s6),
             .int .u8 ((f + 2) % 256), fun _ h_ => rk (run_bin rfl (h_.d 0 62) rfl (by show (pure _ : Sem Value) = pure _; exact congrArg _ (congrArg _ (wrap_u8m _)))),
             .int .u8 ((f + 2) % 256), fun _ h_ => ras (h_.d 1 63), ?_⟩
            intro a35 hput
            replace s1 := hput.o 1 s1
            replace s2 := hput.o 2 s2
            replace s3 := hput.o 3 s3
            replace s6 : sl a35 6 = .int .u8 ((f + 2) % 256) := hput.new 2 6 rfl
            replace hz := hput.size.trans hz
            replace hd := hput.defers.trans hd
            clear hput
            exact ⟨(f + 2) % 256, by omega, hz, hd, s1, s2, s3, s6, hS33⟩
          · clear s61
            refine wp_skip ?_
            exact ⟨f, by omega, hz, hd, s1, s2, s3, s6, hS33⟩
        · clear hz hd s1 s2 s3 s6 hS33
          rintro a36 w36 ⟨f, hk20_0, hz, hd, s1, s2, s3, s6, hS36⟩
          refine wp_seq_cut (fun a_ w_ => ∃ f : Int, (0 ≤ f ∧ f < 256) ∧ a_.tmps.size = 143 ∧ a_.defers = [] ∧ sl a_ 1 = pt g3 0 ∧ sl a_ 2 = .slice none 0 0 ∧ sl a_ 3 = .slice none 0 0 ∧ sl a_ 6 = .int .u8 f ∧ S (kap W) ((blkA g3 31 #[i6 p.kind, i6 p.src, i6 p.every, i6 p.dead, i6 p.prio, i6 p.dr, i6 p.bdr, .slice q.sA p.seen.length q.sc, .bool p.init, .bool p.more, .bool p.master, i6 p.seq, .slice q.hA p.heads.length q.hc, .slice q.kA p.keys.length q.kc, .slice q.lA p.lsas.length q.lc, .slice q.aA p.acks.length q.ac]) :: []) ((memA W W.heap.size) :: []) w_) ?_ ?_
          · refine wp_seq ?_
            refine seq_l [] hz ?_
            refine ⟨pt g3 8, fun _ h_ => rk (fa 8 rfl (h_.b 1 s1)),
             pt g3 10, fun _ h_ => rk (fa 2 rfl (h_.d 0 64)),
             .bool p.master, fun _ h_ => rk (ld hS36 0 rfl (h_.d 1 65)), ?_⟩
            intro a37 hput
            replace s1 := hput.o 1 s1
            replace s2 := hput.o 2 s2
            replace s3 := hput.o 3 s3
            replace s6 := hput.o 6 s6
            have s66 : sl a37 66 = .bool p.master := hput.new 2 66 rfl
            replace hz := hput.size.trans hz
            replace hd := hput.defers.trans hd
            clear hput
            change Code.wp _ _ _ _ _
            refine wp_cond_b s66 (fun hc66 => ?_) (fun hc66 => ?_)
            · clear s66
              refine seq_l [] hz ?_
              refine ⟨.int .u8 f, fun _ h_ => rmv (h_.b 6 s6),
               .int .u8 ((f + 1) % 256), fun _ h_ => rk (run_bin rfl (h_.d 0 67) rfl (by show (pure _ : Sem Value) = pure _; exact congrArg _ (congrArg _ (wrap_u8m _)))),
               .int .u8 ((f + 1) % 256), fun _ h_ => ras (h_.d 1 68), ?_⟩
              intro a38 hput
              replace s1 := hput.o 1 s1
              replace s2 := hput.o 2 s2
              replace s3 := hput.o 3 s3
              replace s6 : sl a38 6 = .int .u8 ((f + 1) % 256) := hput.new 2 6 rfl
              replace hz := hput.size.trans hz
              replace hd := hput.defers.trans hd
              clear hput
              exact ⟨(f + 1) % 256, by omega, hz, hd, s1, s2, s3, s6, hS36⟩
            · clear s66
              refine wp_skip ?_
              exact ⟨f, by omega, hz, hd, s1, s2, s3, s6, hS36⟩
          · clear hz hd s1 s2 s3 s6 hS36
            rintro a39 w39 ⟨f, hk22_0, hz, hd, s1, s2, s3, s6, hS39⟩
            refine wp_seq ?_
            refine seq_l [2, 3] hz ?_
            refine ⟨.slice none 0 0, fun _ h_ => rmv (h_.b 3 s3),
             .int .u8 f, fun _ h_ => rmv (h_.b 6 s6), ?_⟩
            refine ⟨fun a_ h_ => st_lit (e := 5) (vals := [(0, .int .u8 0), (1, .int .u8 0), (2, .int .u8 0), (3, .int .u8 f)]) (cells := #[.int .u8 0, .int .u8 0, .int .u8 0, .int .u8 f]) hS39 (on_none rfl) rfl (parts4 rfl rfl rfl (h_.d 1 70)) fun g41 w41 hS41 hb41 => ⟨_, rfl, ?_⟩, trivial⟩
            clear h_ a_ hS39
            clear hb41
            have hS42 := hS41.nilrow 5 1
            clear hS41
            refine ⟨fun a_ h_ => sap (bytes := 1) (news := [.int .u8 0, .int .u8 0, .int .u8 0, .int .u8 f]) hS42 0 (on_none rfl) rfl (h_.d 0 69) (h_.d 2 71) (reads_blk (hS42.blk (i := 1) rfl) rfl) (by simp [Value.oneCell']) (by (try unfold maxLen); omega) (by (try unfold maxLen); omega) fun A43 c43 w43 hS43 => ⟨_, rfl, ?_⟩, trivial⟩
            clear h_ a_ hS42
            replace hS43 : S (kap W) ((rowA (.slice A43 (0 + 4) c43) 5 1 (0 + 4) ([] ++ [.int .u8 0, .int .u8 0, .int .u8 0, .int .u8 f])) :: (blkA g41 5 #[.int .u8 0, .int .u8 0, .int .u8 0, .int .u8 f]) :: (blkA g3 31 #[i6 p.kind, i6 p.src, i6 p.every, i6 p.dead, i6 p.prio, i6 p.dr, i6 p.bdr, .slice q.sA p.seen.length q.sc, .bool p.init, .bool p.more, .bool p.master, i6 p.seq, .slice q.hA p.heads.length q.hc, .slice q.kA p.keys.length q.kc, .slice q.lA p.lsas.length q.lc, .slice q.aA p.acks.length q.ac]) :: []) ((memA W W.heap.size) :: []) w43 := hS43
            replace hS43 : S (kap W) ((rowA (.slice A43 (0 + 4) c43) 5 1 (0 + 4) (u8s ([] ++ [0, 0, 0, f]))) :: (blkA g41 5 #[.int .u8 0, .int .u8 0, .int .u8 0, .int .u8 f]) :: (blkA g3 31 #[i6 p.kind, i6 p.src, i6 p.every, i6 p.dead, i6 p.prio, i6 p.dr, i6 p.bdr, .slice q.sA p.seen.length q.sc, .bool p.init, .bool p.more, .bool p.master, i6 p.seq, .slice q.hA p.heads.length q.hc, .slice q.kA p.keys.length q.kc, .slice q.lA p.lsas.length q.lc, .slice q.aA p.acks.length q.ac]) :: []) ((memA W W.heap.size) :: []) w43 := by rw [u8s_append ([]) ([0, 0, 0, f])]; exact hS43
            refine ⟨.slice A43 (0 + 4) c43, fun _ h_ => ras (h_.d 3 72), ?_⟩
            intro a40 hput
            replace s1 := hput.o 1 s1
            replace s2 := hput.o 2 s2
            replace s3 : sl a40 3 = .slice A43 (0 + 4) c43 := hput.new 4 3 rfl
            replace hz := hput.size.trans hz
            replace hd := hput.defers.trans hd
            clear hput s6
            change Code.wp _ _ _ _ _
            refine wp_seq ?_
            refine seq_l [4] hz ?_
            refine ⟨.slice A43 (0 + 4) c43, fun _ h_ => rmv (h_.b 3 s3),
             pt g3 8, fun _ h_ => rk (fa 8 rfl (h_.b 1 s1)),
             pt g3 11, fun _ h_ => rk (fa 3 rfl (h_.d 1 74)),
             i6 p.seq, fun _ h_ => rk (ld hS43 2 rfl (h_.d 2 75)), ?_⟩
            refine ⟨fun a_ h_ => st_call (on_none rfl) (run_call rfl (map3 (h_.d 0 73) rfl (h_.d 3 76)) rfl) (put05_any _ _ _ 4 p.seq ([] ++ [0, 0, 0, f]) _ (by omega) (by omega) (hS43.front (i := 0) rfl)) ?_, trivial⟩
            rintro e w45 ⟨A45, c45, rfl, hS45⟩
            refine ⟨_, rfl, _, rfl, ?_⟩
            clear h_ a_ hS43
            replace hS45 : S (kap W) ((rowA (.slice A45 (0 + 4 + 4) c45) 5 1 (0 + 4 + 4) (u8s (([] ++ [0, 0, 0, f]) ++ numB 4 p.seq))) :: (blkA g41 5 #[.int .u8 0, .int .u8 0, .int .u8 0, .int .u8 f]) :: (blkA g3 31 #[i6 p.kind, i6 p.src, i6 p.every, i6 p.dead, i6 p.prio, i6 p.dr, i6 p.bdr, .slice q.sA p.seen.length q.sc, .bool p.init, .bool p.more, .bool p.master, i6 p.seq, .slice q.hA p.heads.length q.hc, .slice q.kA p.keys.length q.kc, .slice q.lA p.lsas.length q.lc, .slice q.aA p.acks.length q.ac]) :: []) ((memA W W.heap.size) :: []) w45 := hS45
            refine ⟨.slice A45 (0 + 4 + 4) c45, fun _ h_ => ras (h_.d 4 77), ?_⟩
            intro a44 hput
            replace s1 := hput.o 1 s1
            replace s2 := hput.o 2 s2
            replace s3 : sl a44 3 = .slice A45 (0 + 4 + 4) c45 := hput.new 5 3 rfl
            replace hz := hput.size.trans hz
            replace hd := hput.defers.trans hd
            clear hput
            change Code.wp _ _ _ _ _
            refine wp_seq ?_
            refine seq_l [4, 5] hz ?_
            refine ⟨.slice A45 (0 + 4 + 4) c45, fun _ h_ => rmv (h_.b 3 s3),
             pt g3 8, fun _ h_ => rk (fa 8 rfl (h_.b 1 s1)),
             pt g3 12, fun _ h_ => rk (fa 4 rfl (h_.d 1 79)),
             .slice q.hA p.heads.length q.hc, fun _ h_ => rk (ld hS45 2 rfl (h_.d 2 80)), ?_⟩
            refine ⟨fun a_ h_ => st_call (on_none rfl) (run_call rfl (map1 (h_.d 3 81)) rfl) (all05_any _ _ p.heads _ (by omega) (hok.below (hS45.old (by simp))).heads) ?_, trivial⟩
            rintro e w47 ⟨A47, n47, c47, bs47, rfl, ho47, hy47, hn47, hb47⟩
            refine ⟨_, rfl, _, rfl, ?_⟩
            clear h_ a_
            have hS47 := hS45.pushRowI hb47 ho47
            clear hS45 hb47 ho47
            refine ⟨fun a_ h_ => sap (bytes := 1) (news := u8s bs47) hS47 0 (on_none rfl) rfl (h_.d 0 78) (h_.d 4 82) (hS47.rdI (i := 0) rfl) (by exact u8s_one _) (by (try unfold maxLen); omega) (by (try unfold maxLen); omega) fun A48 c48 w48 hS48 => ⟨_, rfl, ?_⟩, trivial⟩
            clear h_ a_ hS47
            replace hS48 : S (kap W) ((rowA (.slice A48 (0 + 4 + 4 + n47) c48) 5 1 (0 + 4 + 4 + n47) (u8s (([] ++ [0, 0, 0, f]) ++ numB 4 p.seq) ++ u8s bs47)) :: (blkA g41 5 #[.int .u8 0, .int .u8 0, .int .u8 0, .int .u8 f]) :: (blkA g3 31 #[i6 p.kind, i6 p.src, i6 p.every, i6 p.dead, i6 p.prio, i6 p.dr, i6 p.bdr, .slice q.sA p.seen.length q.sc, .bool p.init, .bool p.more, .bool p.master, i6 p.seq, .slice q.hA p.heads.length q.hc, .slice q.kA p.keys.length q.kc, .slice q.lA p.lsas.length q.lc, .slice q.aA p.acks.length q.ac]) :: []) ((rowA (.slice A47 n47 c47) 5 1 n47 (u8s bs47)) :: (memA W W.heap.size) :: []) w48 := hS48
            replace hS48 : S (kap W) ((rowA (.slice A48 (0 + 4 + 4 + n47) c48) 5 1 (0 + 4 + 4 + n47) (u8s ((([] ++ [0, 0, 0, f]) ++ numB 4 p.seq) ++ bs47))) :: (blkA g41 5 #[.int .u8 0, .int .u8 0, .int .u8 0, .int .u8 f]) :: (blkA g3 31 #[i6 p.kind, i6 p.src, i6 p.every, i6 p.dead, i6 p.prio, i6 p.dr, i6 p.bdr, .slice q.sA p.seen.length q.sc, .bool p.init, .bool p.more, .bool p.master, i6 p.seq, .slice q.hA p.heads.length q.hc, .slice q.kA p.keys.length q.kc, .slice q.lA p.lsas.length q.lc, .slice q.aA p.acks.length q.ac]) :: []) ((rowA (.slice A47 n47 c47) 5 1 n47 (u8s bs47)) :: (memA W W.heap.size) :: []) w48 := by rw [u8s_append ((([] ++ [0, 0, 0, f]) ++ numB 4 p.seq)) (bs47)]; exact hS48
            refine ⟨.slice A48 (0 + 4 + 4 + n47) c48, fun _ h_ => ras (h_.d 5 83), ?_⟩
            intro a46 hput
            replace s1 := hput.o 1 s1
            replace s2 : sl a46 2 = .slice A48 (0 + 4 + 4 + n47) c48 := hput.new 6 2 rfl
            replace s3 := hput.o 3 s3
            replace hz := hput.size.trans hz
            replace hd := hput.defers.trans hd
            clear hput
            change Code.wp _ _ _ _ _
            refine wp_ret ?_
            refine ret1 (P := Try.prog) (fn := Try.f30) hd s2 (hR_ _ _ ?_)
            exact ⟨_, _, _, _, rfl, hS48.rowBase (i := 0) rfl (by simp : memA W W.heap.size ∈ _), (by (repeat' (first | assumption | exact Bys.nil | exact Bys.num _ _ | exact Bys.lit2 _ | exact Bys.lit4 (by assumption) | exact Bys.lsa _ | refine Bys.app ?_ ?_))), (by omega), (hS48.old (by simp))⟩
    · clear s53
      refine wp_skip ?_
      change Code.wp _ _ _ _ _
      refine wp_seq ?_
      refine wp_seq ?_
      refine seq_l [] hz ?_
      refine ⟨i6 0, fun _ h_ => rk (run_assign rfl rfl), ?_⟩
      intro a49 hput
      replace s1 := hput.o 1 s1
      replace s2 := hput.o 2 s2
      replace s3 := hput.o 3 s3
      have s7 : sl a49 7 = i6 0 := hput.new 0 7 rfl
      replace hz := hput.size.trans hz
      replace hd := hput.defers.trans hd
      clear hput
      change Code.wp _ _ _ _ _
      refine wp_block ?_
      refine wp_loop (fun a_ w_ => ∃ k : Nat, ∃ m : Nat, ∃ B : Option Addr, ∃ d : Nat, ∃ bs : List Int, (k ≤ p.keys.length) ∧ (m ≤ 12 * k) ∧ (Bys bs) ∧ a_.tmps.size = 143 ∧ a_.defers = [] ∧ sl a_ 1 = pt g3 0 ∧ sl a_ 2 = .slice none 0 0 ∧ sl a_ 3 = .slice B m d ∧ sl a_ 7 = i6 k ∧ S (kap W) ((rowA (.slice B m d) 5 1 m (u8s bs)) :: (blkA g3 31 #[i6 p.kind, i6 p.src, i6 p.every, i6 p.dead, i6 p.prio, i6 p.dr, i6 p.bdr, .slice q.sA p.seen.length q.sc, .bool p.init, .bool p.more, .bool p.master, i6 p.seq, .slice q.hA p.heads.length q.hc, .slice q.kA p.keys.length q.kc, .slice q.lA p.lsas.length q.lc, .slice q.aA p.acks.length q.ac]) :: []) ((memA W W.heap.size) :: []) w_) (fun a_ _ => p.keys.length - (intOf (sl a_ 7)).toNat) ?_ ?_
      · have hSn : S (kap W) ((rowA (.slice none 0 0) 5 1 0 (u8s [])) :: (blkA g3 31 #[i6 p.kind, i6 p.src, i6 p.every, i6 p.dead, i6 p.prio, i6 p.dr, i6 p.bdr, .slice q.sA p.seen.length q.sc, .bool p.init, .bool p.more, .bool p.master, i6 p.seq, .slice q.hA p.heads.length q.hc, .slice q.kA p.keys.length q.kc, .slice q.lA p.lsas.length q.lc, .slice q.aA p.acks.length q.ac]) :: []) ((memA W W.heap.size) :: []) w3 := hS3.nilrow 5 1
        exact ⟨0, _, _, _, _, Nat.zero_le _, by omega, (by (repeat' (first | assumption | exact Bys.nil | exact Bys.num _ _ | exact Bys.lit2 _ | exact Bys.lit4 (by assumption) | exact Bys.lsa _ | refine Bys.app ?_ ?_))), hz, hd, s1, s2, s3, s7, hSn⟩
      · clear hz hd s1 s2 s3 s7 hS3
        rintro a50 w50 ⟨k, m, B, d, bs, hc2_0, hc2_1, hc2_2, hz, hd, s1, s2, s3, s7, hS50⟩
        have hmu2 := s7
        refine wp_seq ?_
        refine wp_seq ?_
        refine seq_l [] hz ?_
        refine ⟨i6 k, fun _ h_ => rmv (h_.b 7 s7),
         pt g3 13, fun _ h_ => rk (fa 13 rfl (h_.b 1 s1)),
         .slice q.kA p.keys.length q.kc, fun _ h_ => rk (ld hS50 1 rfl (h_.d 1 85)),
         i6 p.keys.length, fun _ h_ => rk (run_lenS rfl (h_.d 2 86) (by kernel_rfl)),
         .bool (decide ((k : Int) < p.keys.length)), fun _ h_ => rk (run_cmp rfl (h_.d 0 84) (h_.d 3 87) rfl (by first | rfl | exact neq_dec _ _ | exact eq_dec _ _ | simp)), ?_⟩
        intro a51 hput
        replace s1 := hput.o 1 s1
        replace s2 := hput.o 2 s2
        replace s3 := hput.o 3 s3
        replace s7 := hput.o 7 s7
        have s84 : sl a51 84 = i6 k := hput.new 0 84 rfl
        have s85 : sl a51 85 = pt g3 13 := hput.new 1 85 rfl
        have s86 : sl a51 86 = .slice q.kA p.keys.length q.kc := hput.new 2 86 rfl
        have s87 : sl a51 87 = i6 p.keys.length := hput.new 3 87 rfl
        have s88 : sl a51 88 = .bool (decide ((k : Int) < p.keys.length)) := hput.new 4 88 rfl
        replace hz := hput.size.trans hz
        replace hd := hput.defers.trans hd
        clear hput
        change Code.wp _ _ _ _ _
        refine wp_cond_d s88 (fun hc88 => ?_) (fun hc88 => ?_)
        · clear s88
          refine wp_skip ?_
          change Code.wp _ _ _ _ _
          refine wp_seq ?_
          refine wp_block ?_
          refine wp_seq ?_
          refine seq_l [7] hz ?_
          refine ⟨.slice B m d, fun _ h_ => rmv (h_.b 3 s3),
           pt g3 13, fun _ h_ => rk (fa 13 rfl (h_.b 1 s1)),
           .slice q.kA p.keys.length q.kc, fun _ h_ => rk (ld hS50 1 rfl (h_.d 1 92)),
           i6 k, fun _ h_ => rmv (h_.b 7 s7), ?_⟩
          obtain ⟨b53, o53, z53, hA53, hb53, hz53, hq53⟩ := Reads.row_at KV.cells 3 KV.cells_len (k := k) ((hok.below (hS50.old (by simp))).keys) (by decide) (by omega)
          refine ⟨pt b53 (o53 + k * 3), fun _ h_ => rk (run_indexV (size := 3) rfl (h_.d 2 93) hA53 (h_.d 3 94) (by kernel_rfl) (by omega) (by simp)),
           pt b53 (o53 + k * 3), fun _ h_ => rk (fa 0 rfl (h_.d 4 95)),
           i6 z53.kind, fun _ h_ => rk (run_load rfl (h_.d 5 96) (by kernel_rfl) (show w50.cell? ⟨b53, o53 + k * 3 + 0, none⟩ = some (i6 z53.kind) from hq53 0 _ rfl)), ?_⟩
          refine ⟨fun a_ h_ => st_call (on_none rfl) (run_call rfl (map3 (h_.d 0 91) rfl (h_.d 6 97)) rfl) (put05_any _ _ _ 4 z53.kind bs _ (by omega) (by omega) (hS50.front (i := 0) rfl)) ?_, trivial⟩
          rintro e w54 ⟨A54, c54, rfl, hS54⟩
          refine ⟨_, rfl, _, rfl, ?_⟩
          clear h_ a_ hS50
          replace hS54 : S (kap W) ((rowA (.slice A54 (m + 4) c54) 5 1 (m + 4) (u8s (bs ++ numB 4 z53.kind))) :: (blkA g3 31 #[i6 p.kind, i6 p.src, i6 p.every, i6 p.dead, i6 p.prio, i6 p.dr, i6 p.bdr, .slice q.sA p.seen.length q.sc, .bool p.init, .bool p.more, .bool p.master, i6 p.seq, .slice q.hA p.heads.length q.hc, .slice q.kA p.keys.length q.kc, .slice q.lA p.lsas.length q.lc, .slice q.aA p.acks.length q.ac]) :: []) ((memA W W.heap.size) :: []) w54 := hS54
          refine ⟨.slice A54 (m + 4) c54, fun _ h_ => ras (h_.d 7 98), ?_⟩
          intro a52 hput
          replace s1 := hput.o 1 s1
          replace s2 := hput.o 2 s2
          replace s3 : sl a52 3 = .slice A54 (m + 4) c54 := hput.new 8 3 rfl
          replace s7 := hput.o 7 s7
          replace s84 := hput.o 84 s84
          replace s85 := hput.o 85 s85
          replace s86 := hput.o 86 s86
          replace s87 := hput.o 87 s87
          have s91 : sl a52 91 = .slice B m d := hput.new 0 91 rfl
          have s92 : sl a52 92 = pt g3 13 := hput.new 1 92 rfl
          have s93 : sl a52 93 = .slice q.kA p.keys.length q.kc := hput.new 2 93 rfl
          have s94 : sl a52 94 = i6 k := hput.new 3 94 rfl
          have s95 : sl a52 95 = pt b53 (o53 + k * 3) := hput.new 4 95 rfl
          have s96 : sl a52 96 = pt b53 (o53 + k * 3) := hput.new 5 96 rfl
          have s97 : sl a52 97 = i6 z53.kind := hput.new 6 97 rfl
          have s98 : sl a52 98 = .slice A54 (m + 4) c54 := hput.new 7 98 rfl
          replace hz := hput.size.trans hz
          replace hd := hput.defers.trans hd
          clear hput
          change Code.wp _ _ _ _ _
          refine wp_seq ?_
          refine seq_l [7] hz ?_
          refine ⟨.slice A54 (m + 4) c54, fun _ h_ => rmv (h_.b 3 s3),
           pt g3 13, fun _ h_ => rk (fa 13 rfl (h_.b 1 s1)),
           .slice q.kA p.keys.length q.kc, fun _ h_ => rk (ld hS54 1 rfl (h_.d 1 100)),
           i6 k, fun _ h_ => rmv (h_.b 7 s7), ?_⟩
          obtain ⟨b56, o56, z56, hA56, hb56, hz56, hq56⟩ := Reads.row_at KV.cells 3 KV.cells_len (k := k) ((hok.below (hS54.old (by simp))).keys) (by decide) (by omega)
          obtain rfl : z53 = z56 := Option.some.inj (hz53.symm.trans hz56)
          refine ⟨pt b56 (o56 + k * 3), fun _ h_ => rk (run_indexV (size := 3) rfl (h_.d 2 101) hA56 (h_.d 3 102) (by kernel_rfl) (by omega) (by simp)),
           pt b56 (o56 + k * 3 + 1), fun _ h_ => rk (fa 1 rfl (h_.d 4 103)),
           i6 z53.id, fun _ h_ => rk (run_load rfl (h_.d 5 104) (by kernel_rfl) (show w54.cell? ⟨b56, o56 + k * 3 + 1, none⟩ = some (i6 z53.id) from hq56 1 _ rfl)), ?_⟩
          refine ⟨fun a_ h_ => st_call (on_none rfl) (run_call rfl (map3 (h_.d 0 99) rfl (h_.d 6 105)) rfl) (put05_any _ _ _ 4 z53.id (bs ++ numB 4 z53.kind) _ (by omega) (by omega) (hS54.front (i := 0) rfl)) ?_, trivial⟩
          rintro e w57 ⟨A57, c57, rfl, hS57⟩
          refine ⟨_, rfl, _, rfl, ?_⟩
          clear h_ a_ hS54
          replace hS57 : S (kap W) ((rowA (.slice A57 (m + 4 + 4) c57) 5 1 (m + 4 + 4) (u8s ((bs ++ numB 4 z53.kind) ++ numB 4 z53.id))) :: (blkA g3 31 #[i6 p.kind, i6 p.src, i6 p.every, i6 p.dead, i6 p.prio, i6 p.dr, i6 p.bdr, .slice q.sA p.seen.length q.sc, .bool p.init, .bool p.more, .bool p.master, i6 p.seq, .slice q.hA p.heads.length q.hc, .slice q.kA p.keys.length q.kc, .slice q.lA p.lsas.length q.lc, .slice q.aA p.acks.length q.ac]) :: []) ((memA W W.heap.size) :: []) w57 := hS57
          refine ⟨.slice A57 (m + 4 + 4) c57, fun _ h_ => ras (h_.d 7 106), ?_⟩
          intro a55 hput
          replace s1 := hput.o 1 s1
          replace s2 := hput.o 2 s2
          replace s3 : sl a55 3 = .slice A57 (m + 4 + 4) c57 := hput.new 8 3 rfl
          replace s7 := hput.o 7 s7
          replace s84 := hput.o 84 s84
          replace s85 := hput.o 85 s85
          replace s86 := hput.o 86 s86
          replace s87 := hput.o 87 s87
          replace s91 := hput.o 91 s91
          replace s92 := hput.o 92 s92
          replace s93 := hput.o 93 s93
          replace s94 := hput.o 94 s94
          replace s95 := hput.o 95 s95
          replace s96 := hput.o 96 s96
          replace s97 := hput.o 97 s97
          replace s98 := hput.o 98 s98
          have s99 : sl a55 99 = .slice A54 (m + 4) c54 := hput.new 0 99 rfl
          have s100 : sl a55 100 = pt g3 13 := hput.new 1 100 rfl
          have s101 : sl a55 101 = .slice q.kA p.keys.length q.kc := hput.new 2 101 rfl
          have s102 : sl a55 102 = i6 k := hput.new 3 102 rfl
          have s103 : sl a55 103 = pt b56 (o56 + k * 3) := hput.new 4 103 rfl
          have s104 : sl a55 104 = pt b56 (o56 + k * 3 + 1) := hput.new 5 104 rfl
          have s105 : sl a55 105 = i6 z53.id := hput.new 6 105 rfl
          have s106 : sl a55 106 = .slice A57 (m + 4 + 4) c57 := hput.new 7 106 rfl
          replace hz := hput.size.trans hz
          replace hd := hput.defers.trans hd
          clear hput
          change Code.wp _ _ _ _ _
          refine seq_l [7] hz ?_
          refine ⟨.slice A57 (m + 4 + 4) c57, fun _ h_ => rmv (h_.b 3 s3),
           pt g3 13, fun _ h_ => rk (fa 13 rfl (h_.b 1 s1)),
           .slice q.kA p.keys.length q.kc, fun _ h_ => rk (ld hS57 1 rfl (h_.d 1 108)),
           i6 k, fun _ h_ => rmv (h_.b 7 s7), ?_⟩
          obtain ⟨b59, o59, z59, hA59, hb59, hz59, hq59⟩ := Reads.row_at KV.cells 3 KV.cells_len (k := k) ((hok.below (hS57.old (by simp))).keys) (by decide) (by omega)
          obtain rfl : z53 = z59 := Option.some.inj (hz53.symm.trans hz59)
          refine ⟨pt b59 (o59 + k * 3), fun _ h_ => rk (run_indexV (size := 3) rfl (h_.d 2 109) hA59 (h_.d 3 110) (by kernel_rfl) (by omega) (by simp)),
           pt b59 (o59 + k * 3 + 2), fun _ h_ => rk (fa 2 rfl (h_.d 4 111)),
           i6 z53.adv, fun _ h_ => rk (run_load rfl (h_.d 5 112) (by kernel_rfl) (show w57.cell? ⟨b59, o59 + k * 3 + 2, none⟩ = some (i6 z53.adv) from hq59 2 _ rfl)), ?_⟩
          refine ⟨fun a_ h_ => st_call (on_none rfl) (run_call rfl (map3 (h_.d 0 107) rfl (h_.d 6 113)) rfl) (put05_any _ _ _ 4 z53.adv ((bs ++ numB 4 z53.kind) ++ numB 4 z53.id) _ (by omega) (by omega) (hS57.front (i := 0) rfl)) ?_, trivial⟩
          rintro e w60 ⟨A60, c60, rfl, hS60⟩
          refine ⟨_, rfl, _, rfl, ?_⟩
          clear h_ a_ hS57
          replace hS60 : S (kap W) ((rowA (.slice A60 (m + 4 + 4 + 4) c60) 5 1 (m + 4 + 4 + 4) (u8s (((bs ++ numB 4 z53.kind) ++ numB 4 z53.id) ++ numB 4 z53.adv))) :: (blkA g3 31 #[i6 p.kind, i6 p.src, i6 p.every, i6 p.dead, i6 p.prio, i6 p.dr, i6 p.bdr, .slice q.sA p.seen.length q.sc, .bool p.init, .bool p.more, .bool p.master, i6 p.seq, .slice q.hA p.heads.length q.hc, .slice q.kA p.keys.length q.kc, .slice q.lA p.lsas.length q.lc, .slice q.aA p.acks.length q.ac]) :: []) ((memA W W.heap.size) :: []) w60 := hS60
          refine ⟨.slice A60 (m + 4 + 4 + 4) c60, fun _ h_ => ras (h_.d 7 114), ?_⟩
          intro a58 hput
          replace s1 := hput.o 1 s1
          replace s2 := hput.o 2 s2
          replace s3 : sl a58 3 = .slice A60 (m + 4 + 4 + 4) c60 := hput.new 8 3 rfl
          replace s7 := hput.o 7 s7
          replace s84 := hput.o 84 s84
          replace s85 := hput.o 85 s85
          replace s86 := hput.o 86 s86
          replace s87 := hput.o 87 s87
          replace s91 := hput.o 91 s91
          replace s92 := hput.o 92 s92
          replace s93 := hput.o 93 s93
          replace s94 := hput.o 94 s94
          replace s95 := hput.o 95 s95
          replace s96 := hput.o 96 s96
          replace s97 := hput.o 97 s97
          replace s98 := hput.o 98 s98
          replace s99 := hput.o 99 s99
          replace s100 := hput.o 100 s100
          replace s101 := hput.o 101 s101
          replace s102 := hput.o 102 s102
          replace s103 := hput.o 103 s103
          replace s104 := hput.o 104 s104
          replace s105 := hput.o 105 s105
          replace s106 := hput.o 106 s106
          have s107 : sl a58 107 = .slice A57 (m + 4 + 4) c57 := hput.new 0 107 rfl
          have s108 : sl a58 108 = pt g3 13 := hput.new 1 108 rfl
          have s109 : sl a58 109 = .slice q.kA p.keys.length q.kc := hput.new 2 109 rfl
          have s110 : sl a58 110 = i6 k := hput.new 3 110 rfl
          have s111 : sl a58 111 = pt b59 (o59 + k * 3) := hput.new 4 111 rfl
          have s112 : sl a58 112 = pt b59 (o59 + k * 3 + 2) := hput.new 5 112 rfl
          have s113 : sl a58 113 = i6 z53.adv := hput.new 6 113 rfl
          have s114 : sl a58 114 = .slice A60 (m + 4 + 4 + 4) c60 := hput.new 7 114 rfl
          replace hz := hput.size.trans hz
          replace hd := hput.defers.trans hd
          clear hput
          change Code.wp _ _ _ _ _
          refine seq_l [] hz ?_
          refine ⟨i6 k, fun _ h_ => rmv (h_.b 7 s7),
           i6 (k + 1), fun _ h_ => rk (run_addI rfl (h_.d 0 89) rfl (by omega) rfl),
           i6 (k + 1), fun _ h_ => ras (h_.d 1 90), ?_⟩
          intro a61 hput
          replace s1 := hput.o 1 s1
          replace s2 := hput.o 2 s2
          replace s3 := hput.o 3 s3
          replace s7 : sl a61 7 = i6 (k + 1) := hput.new 2 7 rfl
          replace s84 := hput.o 84 s84
          replace s85 := hput.o 85 s85
          replace s86 := hput.o 86 s86
          replace s87 := hput.o 87 s87
          have s89 : sl a61 89 = i6 k := hput.new 0 89 rfl
          have s90 : sl a61 90 = i6 (k + 1) := hput.new 1 90 rfl
          replace s91 := hput.o 91 s91
          replace s92 := hput.o 92 s92
          replace s93 := hput.o 93 s93
          replace s94 := hput.o 94 s94
          replace s95 := hput.o 95 s95
          replace s96 := hput.o 96 s96
          replace s97 := hput.o 97 s97
          replace s98 := hput.o 98 s98
          replace s99 := hput.o 99 s99
          replace s100 := hput.o 100 s100
          replace s101 := hput.o 101 s101
          replace s102 := hput.o 102 s102
          replace s103 := hput.o 103 s103
          replace s104 := hput.o 104 s104
          replace s105 := hput.o 105 s105
          replace s106 := hput.o 106 s106
          replace s107 := hput.o 107 s107
          replace s108 := hput.o 108 s108
          replace s109 := hput.o 109 s109
          replace s110 := hput.o 110 s110
          replace s111 := hput.o 111 s111
          replace s112 := hput.o 112 s112
          replace s113 := hput.o 113 s113
          replace s114 := hput.o 114 s114
          replace hz := hput.size.trans hz
          replace hd := hput.defers.trans hd
          clear hput
          refine ⟨⟨k + 1, _, _, _, _, by omega, by omega, (by (repeat' (first | assumption | exact Bys.nil | exact Bys.num _ _ | exact Bys.lit2 _ | exact Bys.lit4 (by assumption) | exact Bys.lsa _ | refine Bys.app ?_ ?_))), hz, hd, s1, s2, s3, s7, hS60⟩, ?_⟩
          show p.keys.length - (intOf (sl a61 7)).toNat < p.keys.length - (intOf (sl a50 7)).toNat
          rw [show sl a61 7 = _ from s7, show sl a50 7 = _ from hmu2]
          simp only [intOf]
          omega
        · clear s88
          refine wp_exit ?_
          change Code.wp _ _ _ _ _
          refine wp_seq_cut (fun a_ w_ => ∃ m : Nat, ∃ B : Option Addr, ∃ d : Nat, ∃ bs : List Int, (m ≤ 8300) ∧ (Bys bs) ∧ a_.tmps.size = 143 ∧ a_.defers = [] ∧ sl a_ 1 = pt g3 0 ∧ sl a_ 2 = .slice none 0 0 ∧ sl a_ 3 = .slice B m d ∧ S (kap W) ((rowA (.slice B m d) 5 1 m (u8s bs)) :: (blkA g3 31 #[i6 p.kind, i6 p.src, i6 p.every, i6 p.dead, i6 p.prio, i6 p.dr, i6 p.bdr, .slice q.sA p.seen.length q.sc, .bool p.init, .bool p.more, .bool p.master, i6 p.seq, .slice q.hA p.heads.length q.hc, .slice q.kA p.keys.length q.kc, .slice q.lA p.lsas.length q.lc, .slice q.aA p.acks.length q.ac]) :: []) ((memA W W.heap.size) :: []) w_) ?_ ?_
          · refine wp_seq ?_
            refine seq_l [] hz ?_
            refine ⟨pt g3 0, fun _ h_ => rk (fa 0 rfl (h_.b 1 s1)),
             i6 p.kind, fun _ h_ => rk (ld hS50 1 rfl (h_.d 0 115)),
             .bool (decide ((p.kind : Int) = 4)), fun _ h_ => rk (run_cmp rfl (h_.d 1 116) rfl rfl (by first | rfl | exact neq_dec _ _ | exact eq_dec _ _ | simp)), ?_⟩
            intro a62 hput
            replace s1 := hput.o 1 s1
            replace s2 := hput.o 2 s2
            replace s3 := hput.o 3 s3
            have s117 : sl a62 117 = .bool (decide ((p.kind : Int) = 4)) := hput.new 2 117 rfl
            replace hz := hput.size.trans hz
            replace hd := hput.defers.trans hd
            clear hput s7 s84 s85 s86 s87
            change Code.wp _ _ _ _ _
            refine wp_cond_d s117 (fun hc117 => ?_) (fun hc117 => ?_)
            · clear s117
              refine wp_seq ?_
              refine seq_l [4] hz ?_
              refine ⟨.slice B m d, fun _ h_ => rmv (h_.b 3 s3),
               pt g3 14, fun _ h_ => rk (fa 14 rfl (h_.b 1 s1)),
               .slice q.lA p.lsas.length q.lc, fun _ h_ => rk (ld hS50 1 rfl (h_.d 1 119)),
               i6 p.lsas.length, fun _ h_ => rk (run_lenS rfl (h_.d 2 120) (by kernel_rfl)), ?_⟩
              refine ⟨fun a_ h_ => st_call (on_none rfl) (run_call rfl (map3 (h_.d 0 118) rfl (h_.d 3 121)) rfl) (put05_any _ _ _ 4 p.lsas.length bs _ (by omega) (by omega) (hS50.front (i := 0) rfl)) ?_, trivial⟩
              rintro e w64 ⟨A64, c64, rfl, hS64⟩
              refine ⟨_, rfl, _, rfl, ?_⟩
              clear h_ a_ hS50
              replace hS64 : S (kap W) ((rowA (.slice A64 (m + 4) c64) 5 1 (m + 4) (u8s (bs ++ numB 4 p.lsas.length))) :: (blkA g3 31 #[i6 p.kind, i6 p.src, i6 p.every, i6 p.dead, i6 p.prio, i6 p.dr, i6 p.bdr, .slice q.sA p.seen.length q.sc, .bool p.init, .bool p.more, .bool p.master, i6 p.seq, .slice q.hA p.heads.length q.hc, .slice q.kA p.keys.length q.kc, .slice q.lA p.lsas.length q.lc, .slice q.aA p.acks.length q.ac]) :: []) ((memA W W.heap.size) :: []) w64 := hS64
              refine ⟨.slice A64 (m + 4) c64, fun _ h_ => ras (h_.d 4 122), ?_⟩
              intro a63 hput
              replace s1 := hput.o 1 s1
              replace s2 := hput.o 2 s2
              replace s3 : sl a63 3 = .slice A64 (m + 4) c64 := hput.new 5 3 rfl
              replace hz := hput.size.trans hz
              replace hd := hput.defers.trans hd
              clear hput
              change Code.wp _ _ _ _ _
              refine wp_seq ?_
              refine seq_l [] hz ?_
              refine ⟨i6 0, fun _ h_ => rk (run_assign rfl rfl), ?_⟩
              intro a65 hput
              replace s1 := hput.o 1 s1
              replace s2 := hput.o 2 s2
              replace s3 := hput.o 3 s3
              have s8 : sl a65 8 = i6 0 := hput.new 0 8 rfl
              replace hz := hput.size.trans hz
              replace hd := hput.defers.trans hd
              clear hput
              change Code.wp _ _ _ _ _
              refine wp_block ?_
              refine wp_loop (fun a_ w_ => ∃ k : Nat, ∃ m : Nat, ∃ B : Option Addr, ∃ d : Nat, ∃ bs : List Int, (k ≤ p.lsas.length) ∧ (m ≤ 244 + 400 * k) ∧ (Bys bs) ∧ a_.tmps.size = 143 ∧ a_.defers = [] ∧ sl a_ 1 = pt g3 0 ∧ sl a_ 2 = .slice none 0 0 ∧ sl a_ 3 = .slice B m d ∧ sl a_ 8 = i6 k ∧ S (kap W) ((rowA (.slice B m d) 5 1 m (u8s bs)) :: (blkA g3 31 #[i6 p.kind, i6 p.src, i6 p.every, i6 p.dead, i6 p.prio, i6 p.dr, i6 p.bdr, .slice q.sA p.seen.length q.sc, .bool p.init, .bool p.more, .bool p.master, i6 p.seq, .slice q.hA p.heads.length q.hc, .slice q.kA p.keys.length q.kc, .slice q.lA p.lsas.length q.lc, .slice q.aA p.acks.length q.ac]) :: []) ((memA W W.heap.size) :: []) w_) (fun a_ _ => p.lsas.length - (intOf (sl a_ 8)).toNat) ?_ ?_
              · exact ⟨0, _, _, _, _, Nat.zero_le _, by omega, (by (repeat' (first | assumption | exact Bys.nil | exact Bys.num _ _ | exact Bys.lit2 _ | exact Bys.lit4 (by assumption) | exact Bys.lsa _ | refine Bys.app ?_ ?_))), hz, hd, s1, s2, s3, s8, hS64⟩
              · clear hz hd s1 s2 s3 s8 hS64
                rintro a66 w66 ⟨k, m, B, d, bs, hc4_0, hc4_1, hc4_2, hz, hd, s1, s2, s3, s8, hS66⟩
                have hmu4 := s8
                refine wp_seq ?_
                refine wp_seq ?_
                refine seq_l [] hz ?_
                refine ⟨i6 k, fun _ h_ => rmv (h_.b 8 s8),
                 pt g3 14, fun _ h_ => rk (fa 14 rfl (h_.b 1 s1)),
                 .slice q.lA p.lsas.length q.lc, fun _ h_ => rk (ld hS66 1 rfl (h_.d 1 124)),
                 i6 p.lsas.length, fun _ h_ => rk (run_lenS rfl (h_.d 2 125) (by kernel_rfl)),
                 .bool (decide ((k : Int) < p.lsas.length)), fun _ h_ => rk (run_cmp rfl (h_.d 0 123) (h_.d 3 126) rfl (by first | rfl | exact neq_dec _ _ | exact eq_dec _ _ | simp)), ?_⟩
                intro a67 hput
                replace s1 := hput.o 1 s1
                replace s2 := hput.o 2 s2
                replace s3 := hput.o 3 s3
                replace s8 := hput.o 8 s8
                have s123 : sl a67 123 = i6 k := hput.new 0 123 rfl
                have s124 : sl a67 124 = pt g3 14 := hput.new 1 124 rfl
                have s125 : sl a67 125 = .slice q.lA p.lsas.length q.lc := hput.new 2 125 rfl
                have s126 : sl a67 126 = i6 p.lsas.length := hput.new 3 126 rfl
                have s127 : sl a67 127 = .bool (decide ((k : Int) < p.lsas.length)) := hput.new 4 127 rfl
                replace hz := hput.size.trans hz
                replace hd := hput.defers.trans hd
                clear hput
                change Code.wp _ _ _ _ _
                refine wp_cond_d s127 (fun hc127 => ?_) (fun hc127 => ?_)
                · clear s127
                  refine wp_skip ?_
                  change Code.wp _ _ _ _ _
                  refine wp_seq ?_
                  refine wp_block ?_
                  refine seq_l [6, 7] hz ?_
                  refine ⟨.slice B m d, fun _ h_ => rmv (h_.b 3 s3),
                   pt g3 14, fun _ h_ => rk (fa 14 rfl (h_.b 1 s1)),
                   .slice q.lA p.lsas.length q.lc, fun _ h_ => rk (ld hS66 1 rfl (h_.d 1 131)),
                   i6 k, fun _ h_ => rmv (h_.b 8 s8), ?_⟩
                  obtain ⟨b69, o69, z69, hA69, hb69, hz69, hq69⟩ := Reads.row_at lsaC 9 lsaC_len (k := k) ((hok.below (hS66.old (by simp))).lsas) (by decide) (by omega)
                  have hmz := List.mem_of_getElem? hz69
                  obtain ⟨hz1, hz2⟩ := hsm.each _ hmz
                  have hrz := hrt hc117 _ hmz
                  have hz3 := lsaB_small _ hz1 hz2
                  refine ⟨pt b69 (o69 + k * 9), fun _ h_ => rk (run_indexV (size := 9) rfl (h_.d 2 132) hA69 (h_.d 3 133) (by kernel_rfl) (by omega) (by simp)),
                   .agg #[i6 z69.1.hd.age, i6 z69.1.hd.kind, i6 z69.1.hd.id, i6 z69.1.hd.adv, i6 z69.1.hd.seq, i6 z69.1.hd.sum, i6 z69.1.hd.long, .slice z69.2.A z69.1.links.length z69.2.c, .slice z69.2.B z69.1.mem.length z69.2.d], fun _ h_ => rk (run_loadV (size := 9) (cs := lsaC z69) rfl (h_.d 4 134) (by kernel_rfl) rfl hq69), ?_⟩
                  refine ⟨fun a_ h_ => st_call (on_none rfl) (run_call rfl (map1 (h_.d 5 135)) rfl) (bytes04_any z69.1 z69.2 _ (by omega) (by omega) (right_one hrz) ((hok.each _ hmz).below (hS66.old (by simp)))) ?_, trivial⟩
                  rintro e w70 ⟨A70, c70, rfl, ho70, hb70⟩
                  refine ⟨_, rfl, _, rfl, ?_⟩
                  clear h_ a_
                  have hS70 := hS66.pushRowI hb70 ho70
                  clear hS66 hb70 ho70
                  refine ⟨fun a_ h_ => sap (bytes := 1) (news := u8s (lsaB z69.1)) hS70 0 (on_none rfl) rfl (h_.d 0 130) (h_.d 6 136) (hS70.rdI (i := 0) rfl) (by exact u8s_one _) (by (try unfold maxLen); omega) (by (try unfold maxLen); omega) fun A71 c71 w71 hS71 => ⟨_, rfl, ?_⟩, trivial⟩
                  clear h_ a_ hS70
                  replace hS71 : S (kap W) ((rowA (.slice A71 (m + ((lsaB z69.1).length)) c71) 5 1 (m + ((lsaB z69.1).length)) (u8s bs ++ u8s (lsaB z69.1))) :: (blkA g3 31 #[i6 p.kind, i6 p.src, i6 p.every, i6 p.dead, i6 p.prio, i6 p.dr, i6 p.bdr, .slice q.sA p.seen.length q.sc, .bool p.init, .bool p.more, .bool p.master, i6 p.seq, .slice q.hA p.heads.length q.hc, .slice q.kA p.keys.length q.kc, .slice q.lA p.lsas.length q.lc, .slice q.aA p.acks.length q.ac]) :: []) ((rowA (.slice A70 ((lsaB z69.1).length) c70) 5 1 ((lsaB z69.1).length) (u8s (lsaB z69.1))) :: (memA W W.heap.size) :: []) w71 := hS71
                  replace hS71 : S (kap W) ((rowA (.slice A71 (m + ((lsaB z69.1).length)) c71) 5 1 (m + ((lsaB z69.1).length)) (u8s (bs ++ (lsaB z69.1)))) :: (blkA g3 31 #[i6 p.kind, i6 p.src, i6 p.every, i6 p.dead, i6 p.prio, i6 p.dr, i6 p.bdr, .slice q.sA p.seen.length q.sc, .bool p.init, .bool p.more, .bool p.master, i6 p.seq, .slice q.hA p.heads.length q.hc, .slice q.kA p.keys.length q.kc, .slice q.lA p.lsas.length q.lc, .slice q.aA p.acks.length q.ac]) :: []) ((rowA (.slice A70 ((lsaB z69.1).length) c70) 5 1 ((lsaB z69.1).length) (u8s (lsaB z69.1))) :: (memA W W.heap.size) :: []) w71 := by rw [u8s_append (bs) ((lsaB z69.1))]; exact hS71
                  refine ⟨.slice A71 (m + ((lsaB z69.1).length)) c71, fun _ h_ => ras (h_.d 7 137), ?_⟩
                  intro a68 hput
                  replace s1 := hput.o 1 s1
                  replace s2 := hput.o 2 s2
                  replace s3 : sl a68 3 = .slice A71 (m + ((lsaB z69.1).length)) c71 := hput.new 8 3 rfl
                  replace s8 := hput.o 8 s8
                  replace s123 := hput.o 123 s123
                  replace s124 := hput.o 124 s124
                  replace s125 := hput.o 125 s125
                  replace s126 := hput.o 126 s126
                  have s130 : sl a68 130 = .slice B m d := hput.new 0 130 rfl
                  have s131 : sl a68 131 = pt g3 14 := hput.new 1 131 rfl
                  have s132 : sl a68 132 = .slice q.lA p.lsas.length q.lc := hput.new 2 132 rfl
                  have s133 : sl a68 133 = i6 k := hput.new 3 133 rfl
                  have s134 : sl a68 134 = pt b69 (o69 + k * 9) := hput.new 4 134 rfl
                  have s135 : sl a68 135 = .agg #[i6 z69.1.hd.age, i6 z69.1.hd.kind, i6 z69.1.hd.id, i6 z69.1.hd.adv, i6 z69.1.hd.seq, i6 z69.1.hd.sum, i6 z69.1.hd.long, .slice z69.2.A z69.1.links.length z69.2.c, .slice z69.2.B z69.1.mem.length z69.2.d] := hput.new 5 135 rfl
                  have s136 : sl a68 136 = .slice A70 ((lsaB z69.1).length) c70 := hput.new 6 136 rfl
                  have s137 : sl a68 137 = .slice A71 (m + ((lsaB z69.1).length)) c71 := hput.new 7 137 rfl
                  replace hz := hput.size.trans hz
                  replace hd := hput.defers.trans hd
                  clear hput
                  change Code.wp _ _ _ _ _
                  refine seq_l [] hz ?_
                  refine ⟨i6 k, fun _ h_ => rmv (h_.b 8 s8),
                   i6 (k + 1), fun _ h_ => rk (run_addI rfl (h_.d 0 128) rfl (by omega) rfl),
                   i6 (k + 1), fun _ h_ => ras (h_.d 1 129), ?_⟩
                  intro a72 hput
                  replace s1 := hput.o 1 s1
                  replace s2 := hput.o 2 s2
                  replace s3 := hput.o 3 s3
                  replace s8 : sl a72 8 = i6 (k + 1) := hput.new 2 8 rfl
                  replace s123 := hput.o 123 s123
                  replace s124 := hput.o 124 s124
                  replace s125 := hput.o 125 s125
                  replace s126 := hput.o 126 s126
                  have s128 : sl a72 128 = i6 k := hput.new 0 128 rfl
                  have s129 : sl a72 129 = i6 (k + 1) := hput.new 1 129 rfl
                  replace s130 := hput.o 130 s130
                  replace s131 := hput.o 131 s131
                  replace s132 := hput.o 132 s132
                  replace s133 := hput.o 133 s133
                  replace s134 := hput.o 134 s134
                  replace s135 := hput.o 135 s135
                  replace s136 := hput.o 136 s136
                  replace s137 := hput.o 137 s137
                  replace hz := hput.size.trans hz
                  replace hd := hput.defers.trans hd
                  clear hput
                  have hSd := hS71.dropI
                  refine ⟨⟨k + 1, _, _, _, _, by omega, by omega, (by (repeat' (first | assumption | exact Bys.nil | exact Bys.num _ _ | exact Bys.lit2 _ | exact Bys.lit4 (by assumption) | exact Bys.lsa _ | refine Bys.app ?_ ?_))), hz, hd, s1, s2, s3, s8, hSd⟩, ?_⟩
                  show p.lsas.length - (intOf (sl a72 8)).toNat < p.lsas.length - (intOf (sl a66 8)).toNat
                  rw [show sl a72 8 = _ from s8, show sl a66 8 = _ from hmu4]
                  simp only [intOf]
                  omega
                · clear s127
                  refine wp_exit ?_
                  exact ⟨_, _, _, _, by omega, by assumption, hz, hd, s1, s2, s3, hS66⟩
            · clear s117
              refine wp_skip ?_
              exact ⟨_, _, _, _, by omega, by assumption, hz, hd, s1, s2, s3, hS50⟩
          · clear hz hd s1 s2 s3 s7 s84 s85 s86 s87 hS50
            rintro a73 w73 ⟨m, B, d, bs, hk37_0, hk37_1, hz, hd, s1, s2, s3, hS73⟩
            refine wp_seq ?_
            refine seq_l [3, 4] hz ?_
            refine ⟨.slice B m d, fun _ h_ => rmv (h_.b 3 s3),
             pt g3 15, fun _ h_ => rk (fa 15 rfl (h_.b 1 s1)),
             .slice q.aA p.acks.length q.ac, fun _ h_ => rk (ld hS73 1 rfl (h_.d 1 139)), ?_⟩
            refine ⟨fun a_ h_ => st_call (on_none rfl) (run_call rfl (map1 (h_.d 2 140)) rfl) (all05_any _ _ p.acks _ (by omega) (hok.below (hS73.old (by simp))).acks) ?_, trivial⟩
            rintro e w75 ⟨A75, n75, c75, bs75, rfl, ho75, hy75, hn75, hb75⟩
            refine ⟨_, rfl, _, rfl, ?_⟩
            clear h_ a_
            have hS75 := hS73.pushRowI hb75 ho75
            clear hS73 hb75 ho75
            refine ⟨fun a_ h_ => sap (bytes := 1) (news := u8s bs75) hS75 0 (on_none rfl) rfl (h_.d 0 138) (h_.d 3 141) (hS75.rdI (i := 0) rfl) (by exact u8s_one _) (by (try unfold maxLen); omega) (by (try unfold maxLen); omega) fun A76 c76 w76 hS76 => ⟨_, rfl, ?_⟩, trivial⟩
            clear h_ a_ hS75
            replace hS76 : S (kap W) ((rowA (.slice A76 (m + n75) c76) 5 1 (m + n75) (u8s bs ++ u8s bs75)) :: (blkA g3 31 #[i6 p.kind, i6 p.src, i6 p.every, i6 p.dead, i6 p.prio, i6 p.dr, i6 p.bdr, .slice q.sA p.seen.length q.sc, .bool p.init, .bool p.more, .bool p.master, i6 p.seq, .slice q.hA p.heads.length q.hc, .slice q.kA p.keys.length q.kc, .slice q.lA p.lsas.length q.lc, .slice q.aA p.acks.length q.ac]) :: []) ((rowA (.slice A75 n75 c75) 5 1 n75 (u8s bs75)) :: (memA W W.heap.size) :: []) w76 := hS76
            replace hS76 : S (kap W) ((rowA (.slice A76 (m + n75) c76) 5 1 (m + n75) (u8s (bs ++ bs75))) :: (blkA g3 31 #[i6 p.kind, i6 p.src, i6 p.every, i6 p.dead, i6 p.prio, i6 p.dr, i6 p.bdr, .slice q.sA p.seen.length q.sc, .bool p.init, .bool p.more, .bool p.master, i6 p.seq, .slice q.hA p.heads.length q.hc, .slice q.kA p.keys.length q.kc, .slice q.lA p.lsas.length q.lc, .slice q.aA p.acks.length q.ac]) :: []) ((rowA (.slice A75 n75 c75) 5 1 n75 (u8s bs75)) :: (memA W W.heap.size) :: []) w76 := by rw [u8s_append (bs) (bs75)]; exact hS76
            refine ⟨.slice A76 (m + n75) c76, fun _ h_ => ras (h_.d 4 142), ?_⟩
            intro a74 hput
            replace s2 : sl a74 2 = .slice A76 (m + n75) c76 := hput.new 5 2 rfl
            replace hz := hput.size.trans hz
            replace hd := hput.defers.trans hd
            clear hput s1 s3
            change Code.wp _ _ _ _ _
            refine wp_ret ?_
            refine ret1 (P := Try.prog) (fn := Try.f30) hd s2 (hR_ _ _ ?_)
            exact ⟨_, _, _, _, rfl, hS76.rowBase (i := 0) rfl (by simp : memA W W.heap.size ∈ _), (by (repeat' (first | assumption | exact Bys.nil | exact Bys.num _ _ | exact Bys.lit2 _ | exact Bys.lit4 (by assumption) | exact Bys.lsa _ | refine Bys.app ?_ ?_))), (by omega), (hS76.old (by simp))⟩
end Go.Proofs.Ytdenfgnkbfbpmaa
