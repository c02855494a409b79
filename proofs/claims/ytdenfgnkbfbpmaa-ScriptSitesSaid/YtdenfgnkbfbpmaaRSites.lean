/-
  The reference's sites; whether sites are alike.
-/
import Derived.Test.YtdenfgnkbfbpmaaSites
namespace Go.Proofs.Ytdenfgnkbfbpmaa
open Go.RowKit
set_option linter.unusedSimpArgs false
set_option linter.unusedVariables false

def rowS (x : SitV × SlP) : Atom := rowA (.slice x.2.A x.1.ports.length x.2.c) 99 3 x.1.ports.length (rowC PtV.cells x.1.ports)
theorem sep_snoc {κ : Kap} {L I : List Atom} {w : World} {a : Atom} {l : List Atom} (h : S κ (a :: sepA l :: L) I w) : S κ (sepA (l ++ [a]) :: L) I w := by
  refine S.sep_close (l := l ++ [a]) ?_
  exact h.unmid1.sep_open.perm ((List.perm_append_singleton _ _).symm.append_right L)
theorem any_take_yes {α : Type} {l : List α} {j : Nat} {z : α} {p : α → Bool} (hz : l[j]? = some z) (h : p z = true) : true = (l.take (j + 1)).any p := by
  rw [take_snoc l j z hz, List.any_append]; simp [h]
theorem any_take_no {α : Type} {l : List α} {j : Nat} {z : α} {p : α → Bool} {b : Bool} (hb : b = (l.take j).any p) (hz : l[j]? = some z) (h : p z = false) : b = (l.take (j + 1)).any p := by
  rw [take_snoc l j z hz, List.any_append, ← hb]; simp [h]
theorem portsOf_no {bs : List Int} {i : Int} {k : Nat} (h : 1 + bs.getD (k * 3) 0 % 5 ≠ i + 1) : portsOf bs i (k + 1) = portsOf bs i k := by
  simp only [portsOf]; rw [if_neg (by omega)]
theorem portsOf_has {bs : List Int} {i : Int} {k : Nat} {l : List PtV} (h : ¬ 1 + bs.getD (k * 3) 0 % 5 ≠ i + 1) (hl : l = portsOf bs i k) (ha : l.any (fun p => decide (p.lan = bs.getD (k * 3) 0 / 5 % 4)) = true) : l = portsOf bs i (k + 1) := by
  simp only [portsOf]; rw [if_pos (by omega), ← hl]; unfold addPt; rw [if_pos ha]
theorem portsOf_add {bs : List Int} {i : Int} {k : Nat} {l : List PtV} (h : ¬ 1 + bs.getD (k * 3) 0 % 5 ≠ i + 1) (hl : l = portsOf bs i k) (ha : l.any (fun p => decide (p.lan = bs.getD (k * 3) 0 / 5 % 4)) = false) : l ++ [⟨bs.getD (k * 3) 0 / 5 % 4, bs.getD (k * 3 + 1) 0 % 3, 1 + bs.getD (k * 3 + 2) 0 % 100⟩] = portsOf bs i (k + 1) := by
  simp only [portsOf]; rw [if_pos (by omega), ← hl]; unfold addPt; rw [if_neg (by rw [ha]; simp)]
set_option maxRecDepth 100000 in
set_option maxHeartbeats 800000 in
theorem rsites_any (A : Option Addr) (n c : Nat) (bs : List Int) (W : World) (hn : n ≤ 1000) (hr : Reads W W.heap.size 1 A n (u8s bs)) (hby : ∀ z ∈ bs, 0 ≤ z ∧ z < 256) :
    Calls Try.prog 16 #[.slice A n c] W (fun r w' => ∃ B m d q, r = .returned (.slice B m d) ∧ q.map (·.1) = sitesF bs ∧ w'.ownsRow W.heap.size 102 2 (.slice B m d) m (rowC sitC q) ∧ (∀ x ∈ q, Reads w' w'.heap.size 3 x.2.A x.1.ports.length (rowC PtV.cells x.1.ports)) ∧ Below W.heap.size W w') := by
  obtain ⟨b, off, hAb⟩ : ∃ b off, 0 < n → A = some ⟨b, off, none⟩ ∧ b < W.heap.size := by
    rcases Nat.eq_zero_or_pos n with h0 | h0
    · exact ⟨0, 0, fun h => absurd h (by omega)⟩
    · obtain ⟨b, off, h1, h2, _⟩ := hr.2 h0
      exact ⟨b, off, fun _ => ⟨h1, h2⟩⟩
  have hS := S.start W
  refine calls_walk Try.func16 rfl fun R_ hR_ a hz hd hargs => ?_
  replace hz : a.tmps.size = 85 := hz.trans (by kernel_rfl)
  have s0 := hargs 0 _ rfl
  clear hargs
  refine wp_seq ?_
  refine seq_l [] hz ?_
  refine ⟨.slice none 0 0, fun _ h_ => rk (run_assign rfl rfl), ?_⟩
  intro a2 hput
  replace s0 := hput.o 0 s0
  have s2 : sl a2 2 = .slice none 0 0 := hput.new 0 2 rfl
  replace hz := hput.size.trans hz
  replace hd := hput.defers.trans hd
  clear hput
  change Code.wp _ _ _ _ _
  refine wp_seq ?_
  refine seq_l [] hz ?_
  refine ⟨.slice none 0 0, fun _ h_ => rk (run_assign rfl rfl), ?_⟩
  intro a3 hput
  replace s0 := hput.o 0 s0
  replace s2 := hput.o 2 s2
  have s3 : sl a3 3 = .slice none 0 0 := hput.new 0 3 rfl
  replace hz := hput.size.trans hz
  replace hd := hput.defers.trans hd
  clear hput
  change Code.wp _ _ _ _ _
  refine wp_seq ?_
  refine wp_seq ?_
  refine seq_l [] hz ?_
  refine ⟨i6 1, fun _ h_ => rk (run_assign rfl rfl), ?_⟩
  intro a4 hput
  replace s0 := hput.o 0 s0
  replace s2 := hput.o 2 s2
  replace s3 := hput.o 3 s3
  have s4 : sl a4 4 = i6 1 := hput.new 0 4 rfl
  replace hz := hput.size.trans hz
  replace hd := hput.defers.trans hd
  clear hput
  change Code.wp _ _ _ _ _
  refine wp_block ?_
  refine wp_loop (fun a_ w_ => ∃ i : Nat, ∃ m : Nat, ∃ B : Option Addr, ∃ d : Nat, ∃ q : List (SitV × SlP), (i ≤ 5) ∧ (m ≤ i) ∧ (q.map (·.1) = sitesU (portsK bs (n / 3)) i) ∧ a_.tmps.size = 85 ∧ a_.defers = [] ∧ sl a_ 0 = .slice A n c ∧ sl a_ 2 = .slice none 0 0 ∧ sl a_ 3 = .slice B m d ∧ sl a_ 4 = i6 ((i : Int) + 1) ∧ S (kap W) ((rowA (.slice B m d) 102 2 m (rowC sitC q)) :: (sepA (q.map rowS)) :: []) ((memA W W.heap.size) :: []) w_) (fun a_ _ => 6 - (intOf (sl a_ 4)).toNat) ?_ ?_
  · have hSn4 := S.sep_close (l := []) hS
    have hSn5 := hSn4.nilrow 102 2
    exact ⟨0, 0, none, 0, [], Nat.zero_le _, Nat.le_refl _, rfl, hz, hd, s0, s2, s3, s4, hSn5⟩
  · clear hz hd s0 s2 s3 s4 hS
    rintro a5 w5 ⟨i, m, B, d, q, hc0_0, hc0_1, hc0_2, hz, hd, s0, s2, s3, s4, hS5⟩
    have hmu0 := s4
    refine wp_seq ?_
    refine wp_seq ?_
    refine seq_l [] hz ?_
    refine ⟨i6 ((i : Int) + 1), fun _ h_ => rmv (h_.b 4 s4),
     .bool (decide (((i : Int) + 1 : Int) ≤ 5)), fun _ h_ => rk (run_cmp rfl (h_.d 0 10) rfl rfl (by first | rfl | exact neq_dec _ _ | exact eq_dec _ _ | simp)), ?_⟩
    intro a6 hput
    replace s0 := hput.o 0 s0
    replace s2 := hput.o 2 s2
    replace s3 := hput.o 3 s3
    replace s4 := hput.o 4 s4
    have s10 : sl a6 10 = i6 ((i : Int) + 1) := hput.new 0 10 rfl
    have s11 : sl a6 11 = .bool (decide (((i : Int) + 1 : Int) ≤ 5)) := hput.new 1 11 rfl
    replace hz := hput.size.trans hz
    replace hd := hput.defers.trans hd
    clear hput
    change Code.wp _ _ _ _ _
    refine wp_cond_d s11 (fun hc11 => ?_) (fun hc11 => ?_)
    · clear s11
      refine wp_skip ?_
      change Code.wp _ _ _ _ _
      refine wp_seq ?_
      refine wp_block ?_
      refine wp_seq ?_
      refine seq_l [2, 3] hz ?_
      refine ⟨i6 ((i : Int) + 1), fun _ h_ => rmv (h_.b 4 s4),
       .agg #[i6 ((i : Int) + 1), .slice none 0 0], fun _ h_ => rk (run_build (vals := #[(0, i6 ((i : Int) + 1))]) (r := .agg #[i6 ((i : Int) + 1), .slice none 0 0]) rfl (bp1 (h_.d 0 14)) (by kernel_rfl)), ?_⟩
      refine ⟨fun a_ h_ => st_alloc (cells := #[i6 0, .slice none 0 0]) hS5 (on_none rfl) rfl (by kernel_rfl) fun g8 w8 hS8 hb8 => ⟨_, rfl, ?_⟩, trivial⟩
      clear h_ a_ hS5
      clear hb8
      refine ⟨fun a_ h_ => st_store (n := 2) (cells := #[i6 ((i : Int) + 1), .slice none 0 0]) (cs' := #[i6 ((i : Int) + 1), .slice none 0 0]) 0 hS8 rfl (on_none rfl) rfl (h_.d 2 5) (h_.d 1 15) rfl (by kernel_rfl) ⟨Nat.le_of_ble_eq_true rfl, rfl, by kernel_rfl⟩ rfl fun w9 hS9 he9 => ⟨_, rfl, ?_⟩, trivial⟩
      clear h_ a_ he9 hS8
      replace hS9 : S (kap W) ((blkA g8 102 #[i6 ((i : Int) + 1), .slice none 0 0]) :: (rowA (.slice B m d) 102 2 m (rowC sitC q)) :: (sepA (q.map rowS)) :: []) ((memA W W.heap.size) :: []) w9 := hS9
      intro a7 hput
      replace s0 := hput.o 0 s0
      replace s2 := hput.o 2 s2
      replace s3 := hput.o 3 s3
      replace s4 := hput.o 4 s4
      have s5 : sl a7 5 = pt g8 0 := hput.new 2 5 rfl
      replace s10 := hput.o 10 s10
      have s14 : sl a7 14 = i6 ((i : Int) + 1) := hput.new 0 14 rfl
      have s15 : sl a7 15 = .agg #[i6 ((i : Int) + 1), .slice none 0 0] := hput.new 1 15 rfl
      replace hz := hput.size.trans hz
      replace hd := hput.defers.trans hd
      clear hput
      change Code.wp _ _ _ _ _
      refine wp_seq ?_
      refine wp_seq ?_
      refine seq_l [] hz ?_
      refine ⟨i6 0, fun _ h_ => rk (run_assign rfl rfl), ?_⟩
      intro a10 hput
      replace s0 := hput.o 0 s0
      replace s2 := hput.o 2 s2
      replace s3 := hput.o 3 s3
      replace s4 := hput.o 4 s4
      replace s5 := hput.o 5 s5
      have s6 : sl a10 6 = i6 0 := hput.new 0 6 rfl
      replace s10 := hput.o 10 s10
      replace s14 := hput.o 14 s14
      replace s15 := hput.o 15 s15
      replace hz := hput.size.trans hz
      replace hd := hput.defers.trans hd
      clear hput
      change Code.wp _ _ _ _ _
      refine wp_block ?_
      refine wp_loop (fun a_ w_ => ∃ k : Nat, ∃ C : Option Addr, ∃ pl : List PtV, ∃ e : Nat, (k * 3 ≤ n) ∧ (pl = portsOf bs i k) ∧ a_.tmps.size = 85 ∧ a_.defers = [] ∧ sl a_ 0 = .slice A n c ∧ sl a_ 2 = .slice none 0 0 ∧ sl a_ 3 = .slice B m d ∧ sl a_ 4 = i6 ((i : Int) + 1) ∧ sl a_ 5 = pt g8 0 ∧ sl a_ 6 = i6 ((k : Int) * 3) ∧ sl a_ 10 = i6 ((i : Int) + 1) ∧ sl a_ 14 = i6 ((i : Int) + 1) ∧ sl a_ 15 = .agg #[i6 ((i : Int) + 1), .slice none 0 0] ∧ S (kap W) ((blkA g8 102 #[i6 ((i : Int) + 1), .slice C pl.length e]) :: (rowA (.slice C pl.length e) 99 3 pl.length (rowC PtV.cells pl)) :: (rowA (.slice B m d) 102 2 m (rowC sitC q)) :: (sepA (q.map rowS)) :: []) ((memA W W.heap.size) :: []) w_) (fun a_ _ => n - (intOf (sl a_ 6)).toNat) ?_ ?_
      · have hSn6 := hS9.nilrow 99 3
        replace hSn6 := hSn6.front (i := 3) rfl
        replace hSn6 := hSn6.front (i := 3) rfl
        replace hSn6 := hSn6.front (i := 2) rfl
        replace hSn6 := hSn6.front (i := 3) rfl
        replace hSn6 : S (kap W) ((blkA g8 102 #[i6 ((i : Int) + 1), .slice none 0 0]) :: (rowA (.slice none 0 0) 99 3 0 []) :: (rowA (.slice B m d) 102 2 m (rowC sitC q)) :: (sepA (q.map rowS)) :: []) ((memA W W.heap.size) :: []) w9 := hSn6
        exact ⟨0, none, [], 0, by omega, rfl, hz, hd, s0, s2, s3, s4, s5, s6, s10, s14, s15, hSn6⟩
      · clear hz hd s0 s2 s3 s4 s5 s6 s10 s14 s15 hS9
        rintro a11 w11 ⟨k, C, pl, e, hc2_0, hc2_1, hz, hd, s0, s2, s3, s4, s5, s6, s10, s14, s15, hS11⟩
        have hmu2 := s6
        refine wp_seq ?_
        refine wp_seq ?_
        refine seq_l [] hz ?_
        refine ⟨i6 ((k : Int) * 3), fun _ h_ => rmv (h_.b 6 s6),
         i6 ((k : Int) * 3 + 3), fun _ h_ => rk (run_addI rfl (h_.d 0 16) rfl (by omega) rfl),
         .slice A n c, fun _ h_ => rmv (h_.b 0 s0),
         i6 n, fun _ h_ => rk (run_lenS rfl (h_.d 2 18) (by kernel_rfl)),
         .bool (decide (((k : Int) * 3 + 3 : Int) ≤ n)), fun _ h_ => rk (run_cmp rfl (h_.d 1 17) (h_.d 3 19) rfl (by first | rfl | exact neq_dec _ _ | exact eq_dec _ _ | simp)), ?_⟩
        intro a12 hput
        replace s0 := hput.o 0 s0
        replace s2 := hput.o 2 s2
        replace s3 := hput.o 3 s3
        replace s4 := hput.o 4 s4
        replace s5 := hput.o 5 s5
        replace s6 := hput.o 6 s6
        replace s10 := hput.o 10 s10
        replace s14 := hput.o 14 s14
        replace s15 := hput.o 15 s15
        have s16 : sl a12 16 = i6 ((k : Int) * 3) := hput.new 0 16 rfl
        have s17 : sl a12 17 = i6 ((k : Int) * 3 + 3) := hput.new 1 17 rfl
        have s18 : sl a12 18 = .slice A n c := hput.new 2 18 rfl
        have s19 : sl a12 19 = i6 n := hput.new 3 19 rfl
        have s20 : sl a12 20 = .bool (decide (((k : Int) * 3 + 3 : Int) ≤ n)) := hput.new 4 20 rfl
        replace hz := hput.size.trans hz
        replace hd := hput.defers.trans hd
        clear hput
        change Code.wp _ _ _ _ _
        refine wp_cond_d s20 (fun hc20 => ?_) (fun hc20 => ?_)
        · clear s20
          refine wp_skip ?_
          change Code.wp _ _ _ _ _
          refine wp_seq ?_
          refine wp_block ?_
          refine wp_seq ?_
          have hk3 : k * 3 + 3 ≤ n := by omega
          obtain ⟨hA1, hbW⟩ := hAb (by omega)
          have hrb := hr
          rw [hA1] at hrb
          have hbl : bs.length = n := u8s_of2 hr
          obtain ⟨e0, e1, e2⟩ := byte3 (bs := bs) (k := k) (by omega)
          have hc_0 := (u8_cell hrb (by omega) e0).2
          have hc_1 := (u8_cell hrb (by omega) e1).2
          have hc_2 := (u8_cell hrb (by omega) e2).2
          have hy0 := hby _ (List.mem_of_getElem? e0)
          have hy1 := hby _ (List.mem_of_getElem? e1)
          have hy2 := hby _ (List.mem_of_getElem? e2)
          have hpl : pl.length ≤ k := by rw [hc2_1]; exact portsOf_len bs i k
          clear e0 e1 e2 hrb
          refine seq_l [] hz ?_
          refine ⟨.slice A n c, fun _ h_ => rmv (h_.b 0 s0),
           i6 ((k : Int) * 3), fun _ h_ => rmv (h_.b 6 s6),
           pt b (off + (k * 3)), fun _ h_ => rk (run_indexV (size := 1) rfl (h_.d 0 23) hA1 (h_.d 1 24) (by kernel_rfl) (by omega) (by omega)),
           .int .u8 (bs.getD (k * 3) 0), fun _ h_ => rk (run_load rfl (h_.d 2 25) (by kernel_rfl) (((hS11.old (by simp)).cell hbW).trans hc_0)),
           i6 (bs.getD (k * 3) 0), fun _ h_ => rk (run_conv rfl (h_.d 3 26) (by kernel_rfl) (wrap_i64 (by omega)) (by kernel_rfl)),
           i6 (bs.getD (k * 3) 0), fun _ h_ => ras (h_.d 4 27), ?_⟩
          intro a13 hput
          replace s0 := hput.o 0 s0
          replace s2 := hput.o 2 s2
          replace s3 := hput.o 3 s3
          replace s4 := hput.o 4 s4
          replace s5 := hput.o 5 s5
          replace s6 := hput.o 6 s6
          have s7 : sl a13 7 = i6 (bs.getD (k * 3) 0) := hput.new 5 7 rfl
          replace s10 := hput.o 10 s10
          replace s14 := hput.o 14 s14
          replace s15 := hput.o 15 s15
          replace s16 := hput.o 16 s16
          replace s17 := hput.o 17 s17
          replace s18 := hput.o 18 s18
          replace s19 := hput.o 19 s19
          have s23 : sl a13 23 = .slice A n c := hput.new 0 23 rfl
          have s24 : sl a13 24 = i6 ((k : Int) * 3) := hput.new 1 24 rfl
          have s25 : sl a13 25 = pt b (off + (k * 3)) := hput.new 2 25 rfl
          have s26 : sl a13 26 = .int .u8 (bs.getD (k * 3) 0) := hput.new 3 26 rfl
          have s27 : sl a13 27 = i6 (bs.getD (k * 3) 0) := hput.new 4 27 rfl
          replace hz := hput.size.trans hz
          replace hd := hput.defers.trans hd
          clear hput
          change Code.wp _ _ _ _ _
          refine wp_seq ?_
          refine wp_seq ?_
          refine seq_l [] hz ?_
          refine ⟨i6 (bs.getD (k * 3) 0), fun _ h_ => rmv (h_.b 7 s7),
           i6 (bs.getD (k * 3) 0 % 5), fun _ h_ => rk (run_bin rfl (h_.d 0 28) rfl (by show (pure _ : Sem Value) = pure _; exact congrArg _ (congrArg _ (Int.tmod_eq_emod_of_nonneg (by omega))))),
           i6 (1 + (bs.getD (k * 3) 0 % 5)), fun _ h_ => rk (run_addI rfl rfl (h_.d 1 29) (by omega) rfl),
           i6 ((i : Int) + 1), fun _ h_ => rmv (h_.b 4 s4),
           .bool (decide ((1 + (bs.getD (k * 3) 0 % 5) : Int) ≠ (i : Int) + 1)), fun _ h_ => rk (run_cmp rfl (h_.d 2 30) (h_.d 3 31) rfl (by first | rfl | exact neq_dec _ _ | exact eq_dec _ _ | simp)), ?_⟩
          intro a14 hput
          replace s0 := hput.o 0 s0
          replace s2 := hput.o 2 s2
          replace s3 := hput.o 3 s3
          replace s4 := hput.o 4 s4
          replace s5 := hput.o 5 s5
          replace s6 := hput.o 6 s6
          replace s7 := hput.o 7 s7
          replace s10 := hput.o 10 s10
          replace s14 := hput.o 14 s14
          replace s15 := hput.o 15 s15
          replace s16 := hput.o 16 s16
          replace s17 := hput.o 17 s17
          replace s18 := hput.o 18 s18
          replace s19 := hput.o 19 s19
          replace s23 := hput.o 23 s23
          replace s24 := hput.o 24 s24
          replace s25 := hput.o 25 s25
          replace s26 := hput.o 26 s26
          replace s27 := hput.o 27 s27
          have s28 : sl a14 28 = i6 (bs.getD (k * 3) 0) := hput.new 0 28 rfl
          have s29 : sl a14 29 = i6 (bs.getD (k * 3) 0 % 5) := hput.new 1 29 rfl
          have s30 : sl a14 30 = i6 (1 + (bs.getD (k * 3) 0 % 5)) := hput.new 2 30 rfl
          have s31 : sl a14 31 = i6 ((i : Int) + 1) := hput.new 3 31 rfl
          have s32 : sl a14 32 = .bool (decide ((1 + (bs.getD (k * 3) 0 % 5) : Int) ≠ (i : Int) + 1)) := hput.new 4 32 rfl
          replace hz := hput.size.trans hz
          replace hd := hput.defers.trans hd
          clear hput
          change Code.wp _ _ _ _ _
          refine wp_cond_d s32 (fun hc32 => ?_) (fun hc32 => ?_)
          · clear s32
            refine wp_exit ?_
            change Code.wp _ _ _ _ _
            refine seq_l [] hz ?_
            refine ⟨i6 ((k : Int) * 3), fun _ h_ => rmv (h_.b 6 s6),
             i6 ((k : Int) * 3 + 3), fun _ h_ => rk (run_addI rfl (h_.d 0 21) rfl (by omega) rfl),
             i6 ((k : Int) * 3 + 3), fun _ h_ => ras (h_.d 1 22), ?_⟩
            intro a15 hput
            replace s0 := hput.o 0 s0
            replace s2 := hput.o 2 s2
            replace s3 := hput.o 3 s3
            replace s4 := hput.o 4 s4
            replace s5 := hput.o 5 s5
            replace s6 : sl a15 6 = i6 ((k : Int) * 3 + 3) := hput.new 2 6 rfl
            replace s7 := hput.o 7 s7
            replace s10 := hput.o 10 s10
            replace s14 := hput.o 14 s14
            replace s15 := hput.o 15 s15
            replace s16 := hput.o 16 s16
            replace s17 := hput.o 17 s17
            replace s18 := hput.o 18 s18
            replace s19 := hput.o 19 s19
            have s21 : sl a15 21 = i6 ((k : Int) * 3) := hput.new 0 21 rfl
            have s22 : sl a15 22 = i6 ((k : Int) * 3 + 3) := hput.new 1 22 rfl
            replace s23 := hput.o 23 s23
            replace s24 := hput.o 24 s24
            replace s25 := hput.o 25 s25
            replace s26 := hput.o 26 s26
            replace s27 := hput.o 27 s27
            replace s28 := hput.o 28 s28
            replace s29 := hput.o 29 s29
            replace s30 := hput.o 30 s30
            replace s31 := hput.o 31 s31
            replace hz := hput.size.trans hz
            replace hd := hput.defers.trans hd
            clear hput
            replace hS11 := hS11.front (i := 3) rfl
            replace hS11 := hS11.front (i := 3) rfl
            replace hS11 := hS11.front (i := 3) rfl
            replace hS11 := hS11.front (i := 3) rfl
            replace hS11 : S (kap W) ((blkA g8 102 #[i6 ((i : Int) + 1), .slice C pl.length e]) :: (rowA (.slice C pl.length e) 99 3 pl.length (rowC PtV.cells pl)) :: (rowA (.slice B m d) 102 2 m (rowC sitC q)) :: (sepA (q.map rowS)) :: []) ((memA W W.heap.size) :: []) w11 := hS11
            replace s6 : sl a15 6 = i6 (((k + 1 : Nat) : Int) * 3) := s6.trans (congrArg _ (by omega))
            refine ⟨⟨k + 1, _, pl, _, by omega, hc2_1.trans (portsOf_no hc32).symm, hz, hd, s0, s2, s3, s4, s5, s6, s10, s14, s15, hS11⟩, ?_⟩
            show n - (intOf (sl a15 6)).toNat < n - (intOf (sl a11 6)).toNat
            rw [show sl a15 6 = _ from s6, show sl a11 6 = _ from hmu2]
            simp only [intOf]
            omega
          · clear s32
            refine wp_skip ?_
            change Code.wp _ _ _ _ _
            refine wp_seq ?_
            refine seq_l [] hz ?_
            refine ⟨.bool false, fun _ h_ => rk (run_assign rfl rfl), ?_⟩
            intro a16 hput
            replace s0 := hput.o 0 s0
            replace s2 := hput.o 2 s2
            replace s3 := hput.o 3 s3
            replace s4 := hput.o 4 s4
            replace s5 := hput.o 5 s5
            replace s6 := hput.o 6 s6
            replace s7 := hput.o 7 s7
            have s8 : sl a16 8 = .bool false := hput.new 0 8 rfl
            replace s10 := hput.o 10 s10
            replace s14 := hput.o 14 s14
            replace s15 := hput.o 15 s15
            replace s16 := hput.o 16 s16
            replace s17 := hput.o 17 s17
            replace s18 := hput.o 18 s18
            replace s19 := hput.o 19 s19
            replace s23 := hput.o 23 s23
            replace s24 := hput.o 24 s24
            replace s25 := hput.o 25 s25
            replace s26 := hput.o 26 s26
            replace s27 := hput.o 27 s27
            replace s28 := hput.o 28 s28
            replace s29 := hput.o 29 s29
            replace s30 := hput.o 30 s30
            replace s31 := hput.o 31 s31
            replace hz := hput.size.trans hz
            replace hd := hput.defers.trans hd
            clear hput
            change Code.wp _ _ _ _ _
            refine wp_seq ?_
            refine wp_seq ?_
            refine seq_l [] hz ?_
            refine ⟨i6 0, fun _ h_ => rk (run_assign rfl rfl), ?_⟩
            intro a17 hput
            replace s0 := hput.o 0 s0
            replace s2 := hput.o 2 s2
            replace s3 := hput.o 3 s3
            replace s4 := hput.o 4 s4
            replace s5 := hput.o 5 s5
            replace s6 := hput.o 6 s6
            replace s7 := hput.o 7 s7
            replace s8 := hput.o 8 s8
            have s9 : sl a17 9 = i6 0 := hput.new 0 9 rfl
            replace s10 := hput.o 10 s10
            replace s14 := hput.o 14 s14
            replace s15 := hput.o 15 s15
            replace s16 := hput.o 16 s16
            replace s17 := hput.o 17 s17
            replace s18 := hput.o 18 s18
            replace s19 := hput.o 19 s19
            replace s23 := hput.o 23 s23
            replace s24 := hput.o 24 s24
            replace s25 := hput.o 25 s25
            replace s26 := hput.o 26 s26
            replace s27 := hput.o 27 s27
            replace s28 := hput.o 28 s28
            replace s29 := hput.o 29 s29
            replace s30 := hput.o 30 s30
            replace s31 := hput.o 31 s31
            replace hz := hput.size.trans hz
            replace hd := hput.defers.trans hd
            clear hput
            change Code.wp _ _ _ _ _
            refine wp_block ?_
            refine wp_loop (fun a_ w_ => ∃ j : Nat, ∃ bb : Bool, (j ≤ pl.length) ∧ (bb = (pl.take j).any (fun p => decide (p.lan = bs.getD (k * 3) 0 / 5 % 4))) ∧ a_.tmps.size = 85 ∧ a_.defers = [] ∧ sl a_ 0 = .slice A n c ∧ sl a_ 2 = .slice none 0 0 ∧ sl a_ 3 = .slice B m d ∧ sl a_ 4 = i6 ((i : Int) + 1) ∧ sl a_ 5 = pt g8 0 ∧ sl a_ 6 = i6 ((k : Int) * 3) ∧ sl a_ 7 = i6 (bs.getD (k * 3) 0) ∧ sl a_ 8 = .bool bb ∧ sl a_ 9 = i6 j ∧ sl a_ 10 = i6 ((i : Int) + 1) ∧ sl a_ 14 = i6 ((i : Int) + 1) ∧ sl a_ 15 = .agg #[i6 ((i : Int) + 1), .slice none 0 0] ∧ sl a_ 16 = i6 ((k : Int) * 3) ∧ sl a_ 17 = i6 ((k : Int) * 3 + 3) ∧ sl a_ 18 = .slice A n c ∧ sl a_ 19 = i6 n ∧ sl a_ 23 = .slice A n c ∧ sl a_ 24 = i6 ((k : Int) * 3) ∧ sl a_ 25 = pt b (off + (k * 3)) ∧ sl a_ 26 = .int .u8 (bs.getD (k * 3) 0) ∧ sl a_ 27 = i6 (bs.getD (k * 3) 0) ∧ sl a_ 28 = i6 (bs.getD (k * 3) 0) ∧ sl a_ 29 = i6 (bs.getD (k * 3) 0 % 5) ∧ sl a_ 30 = i6 (1 + (bs.getD (k * 3) 0 % 5)) ∧ sl a_ 31 = i6 ((i : Int) + 1) ∧ S (kap W) ((blkA g8 102 #[i6 ((i : Int) + 1), .slice C pl.length e]) :: (rowA (.slice C pl.length e) 99 3 pl.length (rowC PtV.cells pl)) :: (rowA (.slice B m d) 102 2 m (rowC sitC q)) :: (sepA (q.map rowS)) :: []) ((memA W W.heap.size) :: []) w_) (fun a_ _ => pl.length - (intOf (sl a_ 9)).toNat) ?_ ?_
            · exact ⟨0, false, Nat.zero_le _, by simp, hz, hd, s0, s2, s3, s4, s5, s6, s7, s8, s9, s10, s14, s15, s16, s17, s18, s19, s23, s24, s25, s26, s27, s28, s29, s30, s31, hS11⟩
            · clear hz hd s0 s2 s3 s4 s5 s6 s7 s8 s9 s10 s14 s15 s16 s17 s18 s19 s23 s24 s25 s26 s27 s28 s29 s30 s31 hS11
              rintro a18 w18 ⟨j, bb, hc4_0, hc4_1, hz, hd, s0, s2, s3, s4, s5, s6, s7, s8, s9, s10, s14, s15, s16, s17, s18, s19, s23, s24, s25, s26, s27, s28, s29, s30, s31, hS18⟩
              have hmu4 := s9
              refine wp_seq ?_
              refine wp_seq ?_
              refine seq_l [] hz ?_
              refine ⟨i6 j, fun _ h_ => rmv (h_.b 9 s9),
               pt g8 1, fun _ h_ => rk (fa 1 rfl (h_.b 5 s5)),
               .slice C pl.length e, fun _ h_ => rk (ld hS18 0 rfl (h_.d 1 34)),
               i6 pl.length, fun _ h_ => rk (run_lenS rfl (h_.d 2 35) (by kernel_rfl)),
               .bool (decide ((j : Int) < pl.length)), fun _ h_ => rk (run_cmp rfl (h_.d 0 33) (h_.d 3 36) rfl (by first | rfl | exact neq_dec _ _ | exact eq_dec _ _ | simp)), ?_⟩
              intro a19 hput
              replace s0 := hput.o 0 s0
              replace s2 := hput.o 2 s2
              replace s3 := hput.o 3 s3
              replace s4 := hput.o 4 s4
              replace s5 := hput.o 5 s5
              replace s6 := hput.o 6 s6
              replace s7 := hput.o 7 s7
              replace s8 := hput.o 8 s8
              replace s9 := hput.o 9 s9
              replace s10 := hput.o 10 s10
              replace s14 := hput.o 14 s14
              replace s15 := hput.o 15 s15
              replace s16 := hput.o 16 s16
              replace s17 := hput.o 17 s17
              replace s18 := hput.o 18 s18
              replace s19 := hput.o 19 s19
              replace s23 := hput.o 23 s23
              replace s24 := hput.o 24 s24
              replace s25 := hput.o 25 s25
              replace s26 := hput.o 26 s26
              replace s27 := hput.o 27 s27
              replace s28 := hput.o 28 s28
              replace s29 := hput.o 29 s29
              replace s30 := hput.o 30 s30
              replace s31 := hput.o 31 s31
              have s33 : sl a19 33 = i6 j := hput.new 0 33 rfl
              have s34 : sl a19 34 = pt g8 1 := hput.new 1 34 rfl
              have s35 : sl a19 35 = .slice C pl.length e := hput.new 2 35 rfl
              have s36 : sl a19 36 = i6 pl.length := hput.new 3 36 rfl
              have s37 : sl a19 37 = .bool (decide ((j : Int) < pl.length)) := hput.new 4 37 rfl
              replace hz := hput.size.trans hz
              replace hd := hput.defers.trans hd
              clear hput
              change Code.wp _ _ _ _ _
              refine wp_cond_d s37 (fun hc37 => ?_) (fun hc37 => ?_)
              · clear s37
                refine wp_skip ?_
                change Code.wp _ _ _ _ _
                refine wp_seq ?_
                refine wp_block ?_
                refine wp_seq ?_
                refine seq_l [] hz ?_
                refine ⟨pt g8 1, fun _ h_ => rk (fa 1 rfl (h_.b 5 s5)),
                 .slice C pl.length e, fun _ h_ => rk (ld hS18 0 rfl (h_.d 0 40)),
                 i6 j, fun _ h_ => rmv (h_.b 9 s9), ?_⟩
                obtain ⟨b21, o21, z21, hA21, hb21, hz21, hq21⟩ := Reads.row_at PtV.cells 3 PtV.cells_len (k := j) (hS18.rd (i := 1) rfl) (by decide) (by omega)
                refine ⟨pt b21 (o21 + j * 3), fun _ h_ => rk (run_indexV (size := 3) rfl (h_.d 1 41) hA21 (h_.d 2 42) (by kernel_rfl) (by omega) (by simp)),
                 pt b21 (o21 + j * 3), fun _ h_ => rk (fa 0 rfl (h_.d 3 43)),
                 i6 z21.lan, fun _ h_ => rk (run_load rfl (h_.d 4 44) (by kernel_rfl) (show w18.cell? ⟨b21, o21 + j * 3 + 0, none⟩ = some (i6 z21.lan) from hq21 0 _ rfl)),
                 i6 (bs.getD (k * 3) 0), fun _ h_ => rmv (h_.b 7 s7),
                 i6 (bs.getD (k * 3) 0 / 5), fun _ h_ => rk (run_bin2 rfl (h_.d 6 46) rfl (fun _ => rfl) (fun _ => by show (pure (Value.int .i64 (IntKind.i64.wrap (Int.tdiv _ 5))) : Sem Value).run _ _ = _; rw [Int.tdiv_eq_ediv_of_nonneg (by omega), wrap_i64 (by omega)]; rfl)),
                 i6 (bs.getD (k * 3) 0 / 5 % 4), fun _ h_ => rk (run_bin rfl (h_.d 7 47) rfl (by show (pure _ : Sem Value) = pure _; exact congrArg _ (congrArg _ (Int.tmod_eq_emod_of_nonneg (by omega))))),
                 .bool (decide ((z21.lan : Int) = bs.getD (k * 3) 0 / 5 % 4)), fun _ h_ => rk (run_cmp rfl (h_.d 5 45) (h_.d 8 48) rfl (by first | rfl | exact neq_dec _ _ | exact eq_dec _ _ | simp)), ?_⟩
                intro a20 hput
                replace s0 := hput.o 0 s0
                replace s2 := hput.o 2 s2
                replace s3 := hput.o 3 s3
                replace s4 := hput.o 4 s4
                replace s5 := hput.o 5 s5
                replace s6 := hput.o 6 s6
                replace s7 := hput.o 7 s7
                replace s8 := hput.o 8 s8
                replace s9 := hput.o 9 s9
                replace s10 := hput.o 10 s10
                replace s14 := hput.o 14 s14
                replace s15 := hput.o 15 s15
                replace s16 := hput.o 16 s16
                replace s17 := hput.o 17 s17
                replace s18 := hput.o 18 s18
                replace s19 := hput.o 19 s19
                replace s23 := hput.o 23 s23
                replace s24 := hput.o 24 s24
                replace s25 := hput.o 25 s25
                replace s26 := hput.o 26 s26
                replace s27 := hput.o 27 s27
                replace s28 := hput.o 28 s28
                replace s29 := hput.o 29 s29
                replace s30 := hput.o 30 s30
                replace s31 := hput.o 31 s31
                replace s33 := hput.o 33 s33
                replace s34 := hput.o 34 s34
                replace s35 := hput.o 35 s35
                replace s36 := hput.o 36 s36
                have s40 : sl a20 40 = pt g8 1 := hput.new 0 40 rfl
                have s41 : sl a20 41 = .slice C pl.length e := hput.new 1 41 rfl
                have s42 : sl a20 42 = i6 j := hput.new 2 42 rfl
                have s43 : sl a20 43 = pt b21 (o21 + j * 3) := hput.new 3 43 rfl
                have s44 : sl a20 44 = pt b21 (o21 + j * 3) := hput.new 4 44 rfl
                have s45 : sl a20 45 = i6 z21.lan := hput.new 5 45 rfl
                have s46 : sl a20 46 = i6 (bs.getD (k * 3) 0) := hput.new 6 46 rfl
                have s47 : sl a20 47 = i6 (bs.getD (k * 3) 0 / 5) := hput.new 7 47 rfl
                have s48 : sl a20 48 = i6 (bs.getD (k * 3) 0 / 5 % 4) := hput.new 8 48 rfl
                have s49 : sl a20 49 = .bool (decide ((z21.lan : Int) = bs.getD (k * 3) 0 / 5 % 4)) := hput.new 9 49 rfl
                replace hz := hput.size.trans hz
                replace hd := hput.defers.trans hd
                clear hput
                change Code.wp _ _ _ _ _
                refine wp_cond_d s49 (fun hc49 => ?_) (fun hc49 => ?_)
                · clear s49
                  refine seq_l [] hz ?_
                  refine ⟨.bool true, fun _ h_ => rk (run_assign rfl rfl), ?_⟩
                  intro a22 hput
                  replace s0 := hput.o 0 s0
                  replace s2 := hput.o 2 s2
                  replace s3 := hput.o 3 s3
                  replace s4 := hput.o 4 s4
                  replace s5 := hput.o 5 s5
                  replace s6 := hput.o 6 s6
                  replace s7 := hput.o 7 s7
                  replace s8 : sl a22 8 = .bool true := hput.new 0 8 rfl
                  replace s9 := hput.o 9 s9
                  replace s10 := hput.o 10 s10
                  replace s14 := hput.o 14 s14
                  replace s15 := hput.o 15 s15
                  replace s16 := hput.o 16 s16
                  replace s17 := hput.o 17 s17
                  replace s18 := hput.o 18 s18
                  replace s19 := hput.o 19 s19
                  replace s23 := hput.o 23 s23
                  replace s24 := hput.o 24 s24
                  replace s25 := hput.o 25 s25
                  replace s26 := hput.o 26 s26
                  replace s27 := hput.o 27 s27
                  replace s28 := hput.o 28 s28
                  replace s29 := hput.o 29 s29
                  replace s30 := hput.o 30 s30
                  replace s31 := hput.o 31 s31
                  replace s33 := hput.o 33 s33
                  replace s34 := hput.o 34 s34
                  replace s35 := hput.o 35 s35
                  replace s36 := hput.o 36 s36
                  replace s40 := hput.o 40 s40
                  replace s41 := hput.o 41 s41
                  replace s42 := hput.o 42 s42
                  replace s43 := hput.o 43 s43
                  replace s44 := hput.o 44 s44
                  replace s45 := hput.o 45 s45
                  replace s46 := hput.o 46 s46
                  replace s47 := hput.o 47 s47
                  replace s48 := hput.o 48 s48
                  replace hz := hput.size.trans hz
                  replace hd := hput.defers.trans hd
                  clear hput
                  change Code.wp _ _ _ _ _
                  refine seq_l [] hz ?_
                  refine ⟨i6 j, fun _ h_ => rmv (h_.b 9 s9),
                   i6 (j + 1), fun _ h_ => rk (run_addI rfl (h_.d 0 38) rfl (by omega) rfl),
                   i6 (j + 1), fun _ h_ => ras (h_.d 1 39), ?_⟩
                  intro a23 hput
                  replace s0 := hput.o 0 s0
                  replace s2 := hput.o 2 s2
                  replace s3 := hput.o 3 s3
                  replace s4 := hput.o 4 s4
                  replace s5 := hput.o 5 s5
                  replace s6 := hput.o 6 s6
                  replace s7 := hput.o 7 s7
                  replace s8 := hput.o 8 s8
                  replace s9 : sl a23 9 = i6 (j + 1) := hput.new 2 9 rfl
                  replace s10 := hput.o 10 s10
                  replace s14 := hput.o 14 s14
                  replace s15 := hput.o 15 s15
                  replace s16 := hput.o 16 s16
                  replace s17 := hput.o 17 s17
                  replace s18 := hput.o 18 s18
                  replace s19 := hput.o 19 s19
                  replace s23 := hput.o 23 s23
                  replace s24 := hput.o 24 s24
                  replace s25 := hput.o 25 s25
                  replace s26 := hput.o 26 s26
                  replace s27 := hput.o 27 s27
                  replace s28 := hput.o 28 s28
                  replace s29 := hput.o 29 s29
                  replace s30 := hput.o 30 s30
                  replace s31 := hput.o 31 s31
                  replace s33 := hput.o 33 s33
                  replace s34 := hput.o 34 s34
                  replace s35 := hput.o 35 s35
                  replace s36 := hput.o 36 s36
                  have s38 : sl a23 38 = i6 j := hput.new 0 38 rfl
                  have s39 : sl a23 39 = i6 (j + 1) := hput.new 1 39 rfl
                  replace s40 := hput.o 40 s40
                  replace s41 := hput.o 41 s41
                  replace s42 := hput.o 42 s42
                  replace s43 := hput.o 43 s43
                  replace s44 := hput.o 44 s44
                  replace s45 := hput.o 45 s45
                  replace s46 := hput.o 46 s46
                  replace s47 := hput.o 47 s47
                  replace s48 := hput.o 48 s48
                  replace hz := hput.size.trans hz
                  replace hd := hput.defers.trans hd
                  clear hput
                  refine ⟨⟨j + 1, true, by omega, any_take_yes hz21 (decide_eq_true hc49), hz, hd, s0, s2, s3, s4, s5, s6, s7, s8, s9, s10, s14, s15, s16, s17, s18, s19, s23, s24, s25, s26, s27, s28, s29, s30, s31, hS18⟩, ?_⟩
                  show pl.length - (intOf (sl a23 9)).toNat < pl.length - (intOf (sl a18 9)).toNat
                  rw [show sl a23 9 = _ from s9, show sl a18 9 = _ from hmu4]
                  simp only [intOf]
                  omega
                · clear s49
                  refine wp_skip ?_
                  change Code.wp _ _ _ _ _
                  refine seq_l [] hz ?_
                  refine ⟨i6 j, fun _ h_ => rmv (h_.b 9 s9),
                   i6 (j + 1), fun _ h_ => rk (run_addI rfl (h_.d 0 38) rfl (by omega) rfl),
                   i6 (j + 1), fun _ h_ => ras (h_.d 1 39), ?_⟩
                  intro a24 hput
                  replace s0 := hput.o 0 s0
                  replace s2 := hput.o 2 s2
                  replace s3 := hput.o 3 s3
                  replace s4 := hput.o 4 s4
                  replace s5 := hput.o 5 s5
                  replace s6 := hput.o 6 s6
                  replace s7 := hput.o 7 s7
                  replace s8 := hput.o 8 s8
                  replace s9 : sl a24 9 = i6 (j + 1) := hput.new 2 9 rfl
                  replace s10 := hput.o 10 s10
                  replace s14 := hput.o 14 s14
                  replace s15 := hput.o 15 s15
                  replace s16 := hput.o 16 s16
                  replace s17 := hput.o 17 s17
                  replace s18 := hput.o 18 s18
                  replace s19 := hput.o 19 s19
                  replace s23 := hput.o 23 s23
                  replace s24 := hput.o 24 s24
                  replace s25 := hput.o 25 s25
                  replace s26 := hput.o 26 s26
                  replace s27 := hput.o 27 s27
                  replace s28 := hput.o 28 s28
                  replace s29 := hput.o 29 s29
                  replace s30 := hput.o 30 s30
                  replace s31 := hput.o 31 s31
                  replace s33 := hput.o 33 s33
                  replace s34 := hput.o 34 s34
                  replace s35 := hput.o 35 s35
                  replace s36 := hput.o 36 s36
                  have s38 : sl a24 38 = i6 j := hput.new 0 38 rfl
                  have s39 : sl a24 39 = i6 (j + 1) := hput.new 1 39 rfl
                  replace s40 := hput.o 40 s40
                  replace s41 := hput.o 41 s41
                  replace s42 := hput.o 42 s42
                  replace s43 := hput.o 43 s43
                  replace s44 := hput.o 44 s44
                  replace s45 := hput.o 45 s45
                  replace s46 := hput.o 46 s46
                  replace s47 := hput.o 47 s47
                  replace s48 := hput.o 48 s48
                  replace hz := hput.size.trans hz
                  replace hd := hput.defers.trans hd
                  clear hput
                  refine ⟨⟨j + 1, bb, by omega, any_take_no hc4_1 hz21 (decide_eq_false hc49), hz, hd, s0, s2, s3, s4, s5, s6, s7, s8, s9, s10, s14, s15, s16, s17, s18, s19, s23, s24, s25, s26, s27, s28, s29, s30, s31, hS18⟩, ?_⟩
                  show pl.length - (intOf (sl a24 9)).toNat < pl.length - (intOf (sl a18 9)).toNat
                  rw [show sl a24 9 = _ from s9, show sl a18 9 = _ from hmu4]
                  simp only [intOf]
                  omega
              · clear s37
                refine wp_exit ?_
                change Code.wp _ _ _ _ _
                refine wp_seq ?_
                have hbe : bb = pl.any (fun p => decide (p.lan = bs.getD (k * 3) 0 / 5 % 4)) := by rw [hc4_1, List.take_of_length_le (by omega)]
                refine seq_l [] hz ?_
                refine ⟨.bool bb, fun _ h_ => rmv (h_.b 8 s8),
                 .bool (!bb), fun _ h_ => rk (run_not rfl (h_.d 0 50) rfl), ?_⟩
                intro a25 hput
                replace s0 := hput.o 0 s0
                replace s2 := hput.o 2 s2
                replace s3 := hput.o 3 s3
                replace s4 := hput.o 4 s4
                replace s5 := hput.o 5 s5
                replace s6 := hput.o 6 s6
                replace s7 := hput.o 7 s7
                replace s8 := hput.o 8 s8
                replace s9 := hput.o 9 s9
                replace s10 := hput.o 10 s10
                replace s14 := hput.o 14 s14
                replace s15 := hput.o 15 s15
                replace s16 := hput.o 16 s16
                replace s17 := hput.o 17 s17
                replace s18 := hput.o 18 s18
                replace s19 := hput.o 19 s19
                replace s23 := hput.o 23 s23
                replace s24 := hput.o 24 s24
                replace s25 := hput.o 25 s25
                replace s26 := hput.o 26 s26
                replace s27 := hput.o 27 s27
                replace s28 := hput.o 28 s28
                replace s29 := hput.o 29 s29
                replace s30 := hput.o 30 s30
                replace s31 := hput.o 31 s31
                replace s33 := hput.o 33 s33
                replace s34 := hput.o 34 s34
                replace s35 := hput.o 35 s35
                replace s36 := hput.o 36 s36
                have s50 : sl a25 50 = .bool bb := hput.new 0 50 rfl
                have s51 : sl a25 51 = .bool (!bb) := hput.new 1 51 rfl
                replace hz := hput.size.trans hz
                replace hd := hput.defers.trans hd
                clear hput
                change Code.wp _ _ _ _ _
                refine wp_cond_b s51 (fun hc51 => ?_) (fun hc51 => ?_)
                · clear s51
                  replace hc51 := nbt hc51
                  rw [hc51] at s8
                  rw [hc51] at s50
                  refine seq_r [[], [0], [], [2], [2, 3], [], [], [6], [5, 6, 7], [5, 6, 7, 8], [5, 6, 7, 8, 9], [5, 6, 7, 8, 9, 10], [], [], [13], [12, 13, 14], [12, 13, 14, 15], [12, 13, 14, 15, 16], [12, 13, 14, 15, 16, 17], [12, 13, 14, 15, 16, 17, 18], [2, 3, 4, 5, 6, 7, 8, 9, 10, 11, 12, 13, 14, 15, 16, 17, 18, 19], [2, 3, 4, 5, 6, 7, 8, 9, 10, 11, 12, 13, 14, 15, 16, 17, 18, 19, 20], [0, 1, 2, 3, 4, 5, 6, 7, 8, 9, 10, 11, 12, 13, 14, 15, 16, 17, 18, 19, 20, 21], [0, 1, 2, 3, 4, 5, 6, 7, 8, 9, 10, 11, 12, 13, 14, 15, 16, 17, 18, 19, 20, 21, 22], [0, 1, 2, 3, 4, 5, 6, 7, 8, 9, 10, 11, 12, 13, 14, 15, 16, 17, 18, 19, 20, 21, 22, 23]] [21, 22, 24] (.rd 0 (.rd 1 (.rd 2 (.rd 3 (.rd 4 (.rd 5 (.rd 6 (.rd 7 (.rd 8 (.rd 9 (.rd 10 (.rd 11 (.rd 12 (.rd 13 (.rd 14 (.rd 15 (.rd 16 (.rd 17 (.rd 18 (.rd 19 (.rd 20 (.ef 21 (.ag 0 (.ag 1 (.ef 22 (.rd 23 (.ef 24 (.fin) .non)) .non))) .non)))))))))))))))))))))) hz fun w26 hb26 => ?_
                  replace hS18 := hS18.below hb26
                  refine ⟨pt g8 1, fun _ h_ => rk (fa 1 rfl (h_.b 5 s5)),
                   .slice C pl.length e, fun _ h_ => rk (ld hS18 0 rfl (h_.d 0 52)),
                   i6 (bs.getD (k * 3) 0), fun _ h_ => rmv (h_.b 7 s7),
                   i6 (bs.getD (k * 3) 0 / 5), fun _ h_ => rk (run_bin2 rfl (h_.d 2 54) rfl (fun _ => rfl) (fun _ => by show (pure (Value.int .i64 (IntKind.i64.wrap (Int.tdiv _ 5))) : Sem Value).run _ _ = _; rw [Int.tdiv_eq_ediv_of_nonneg (by omega), wrap_i64 (by omega)]; rfl)),
                   i6 (bs.getD (k * 3) 0 / 5 % 4), fun _ h_ => rk (run_bin rfl (h_.d 3 55) rfl (by show (pure _ : Sem Value) = pure _; exact congrArg _ (congrArg _ (Int.tmod_eq_emod_of_nonneg (by omega))))),
                   .slice A n c, fun _ h_ => rmv (h_.b 0 s0),
                   i6 ((k : Int) * 3), fun _ h_ => rmv (h_.b 6 s6),
                   i6 ((k : Int) * 3 + 1), fun _ h_ => rk (run_addI rfl (h_.d 6 58) rfl (by omega) rfl),
                   pt b (off + (k * 3 + 1)), fun _ h_ => rk (run_indexV (size := 1) rfl (h_.d 5 57) hA1 (h_.d 7 59) (by kernel_rfl) (by omega) (by omega)),
                   .int .u8 (bs.getD (k * 3 + 1) 0), fun _ h_ => rk (run_load rfl (h_.d 8 60) (by kernel_rfl) (((hS18.old (by simp)).cell hbW).trans hc_1)),
                   i6 (bs.getD (k * 3 + 1) 0), fun _ h_ => rk (run_conv rfl (h_.d 9 61) (by kernel_rfl) (wrap_i64 (by omega)) (by kernel_rfl)),
                   i6 (bs.getD (k * 3 + 1) 0 % 3), fun _ h_ => rk (run_bin rfl (h_.d 10 62) rfl (by show (pure _ : Sem Value) = pure _; exact congrArg _ (congrArg _ (Int.tmod_eq_emod_of_nonneg (by omega))))),
                   .slice A n c, fun _ h_ => rmv (h_.b 0 s0),
                   i6 ((k : Int) * 3), fun _ h_ => rmv (h_.b 6 s6),
                   i6 ((k : Int) * 3 + 2), fun _ h_ => rk (run_addI rfl (h_.d 13 65) rfl (by omega) rfl),
                   pt b (off + (k * 3 + 2)), fun _ h_ => rk (run_indexV (size := 1) rfl (h_.d 12 64) hA1 (h_.d 14 66) (by kernel_rfl) (by omega) (by omega)),
                   .int .u8 (bs.getD (k * 3 + 2) 0), fun _ h_ => rk (run_load rfl (h_.d 15 67) (by kernel_rfl) (((hS18.old (by simp)).cell hbW).trans hc_2)),
                   i6 (bs.getD (k * 3 + 2) 0), fun _ h_ => rk (run_conv rfl (h_.d 16 68) (by kernel_rfl) (wrap_i64 (by omega)) (by kernel_rfl)),
                   i6 (bs.getD (k * 3 + 2) 0 % 100), fun _ h_ => rk (run_bin rfl (h_.d 17 69) rfl (by show (pure _ : Sem Value) = pure _; exact congrArg _ (congrArg _ (Int.tmod_eq_emod_of_nonneg (by omega))))),
                   i6 (1 + (bs.getD (k * 3 + 2) 0 % 100)), fun _ h_ => rk (run_addI rfl rfl (h_.d 18 70) (by omega) rfl),
                   .agg #[i6 (bs.getD (k * 3) 0 / 5 % 4), i6 (bs.getD (k * 3 + 1) 0 % 3), i6 (1 + (bs.getD (k * 3 + 2) 0 % 100))], fun _ h_ => rk (run_build (vals := #[(0, i6 (bs.getD (k * 3) 0 / 5 % 4)), (1, i6 (bs.getD (k * 3 + 1) 0 % 3)), (2, i6 (1 + (bs.getD (k * 3 + 2) 0 % 100)))]) (r := .agg #[i6 (bs.getD (k * 3) 0 / 5 % 4), i6 (bs.getD (k * 3 + 1) 0 % 3), i6 (1 + (bs.getD (k * 3 + 2) 0 % 100))]) rfl (bp3 (h_.d 4 56) (h_.d 11 63) (h_.d 19 71)) (by kernel_rfl)), ?_⟩
                  refine ⟨fun a_ h_ => st_lit (e := 99) (vals := [(0, .agg #[i6 (bs.getD (k * 3) 0 / 5 % 4), i6 (bs.getD (k * 3 + 1) 0 % 3), i6 (1 + (bs.getD (k * 3 + 2) 0 % 100))])]) (cells := #[i6 (bs.getD (k * 3) 0 / 5 % 4), i6 (bs.getD (k * 3 + 1) 0 % 3), i6 (1 + (bs.getD (k * 3 + 2) 0 % 100))]) hS18 (on_none rfl) rfl (parts1 (h_.d 20 72)) fun g27 w27 hS27 hb27 => ⟨_, rfl, ?_⟩, trivial⟩
                  clear h_ a_ hS18
                  clear hb27
                  refine ⟨fun _ h_ => rk (fa 1 rfl (h_.b 5 s5)),
                   fun _ h_ => rk (ld hS27 1 rfl (h_.d 0 52)), ?_⟩
                  refine ⟨fun a_ h_ => sap (bytes := 24) (news := [i6 (bs.getD (k * 3) 0 / 5 % 4), i6 (bs.getD (k * 3 + 1) 0 % 3), i6 (1 + (bs.getD (k * 3 + 2) 0 % 100))]) hS27 2 (on_none rfl) rfl (h_.d 1 53) (h_.d 21 73) (reads_blk (hS27.blk (i := 0) rfl) rfl) (by simp [Value.oneCell']) (by (try unfold maxLen); omega) (by (try unfold maxLen); omega) fun A28 c28 w28 hS28 => ⟨_, rfl, ?_⟩, trivial⟩
                  clear h_ a_ hS27
                  replace hS28 : S (kap W) ((blkA g27 99 #[i6 (bs.getD (k * 3) 0 / 5 % 4), i6 (bs.getD (k * 3 + 1) 0 % 3), i6 (1 + (bs.getD (k * 3 + 2) 0 % 100))]) :: (blkA g8 102 #[i6 ((i : Int) + 1), .slice C pl.length e]) :: (rowA (.slice A28 (pl.length + 1) c28) 99 3 (pl.length + 1) (rowC PtV.cells pl ++ [i6 (bs.getD (k * 3) 0 / 5 % 4), i6 (bs.getD (k * 3 + 1) 0 % 3), i6 (1 + (bs.getD (k * 3 + 2) 0 % 100))])) :: (rowA (.slice B m d) 102 2 m (rowC sitC q)) :: (sepA (q.map rowS)) :: []) ((memA W W.heap.size) :: []) w28 := hS28
                  refine ⟨pt g8 1, fun _ h_ => rk (fa 1 rfl (h_.b 5 s5)), ?_⟩
                  refine ⟨fun a_ h_ => st_store (n := 1) (cells := #[.slice A28 (pl.length + 1) c28]) (cs' := #[i6 ((i : Int) + 1), .slice A28 (pl.length + 1) c28]) 1 hS28 rfl (on_none rfl) rfl (h_.d 23 75) (h_.d 22 74) rfl (by kernel_rfl) ⟨Nat.le_of_ble_eq_true rfl, rfl, by kernel_rfl⟩ rfl fun w29 hS29 he29 => ⟨_, rfl, ?_⟩, trivial⟩
                  clear h_ a_ he29 hS28
                  replace hS29 : S (kap W) ((blkA g27 99 #[i6 (bs.getD (k * 3) 0 / 5 % 4), i6 (bs.getD (k * 3 + 1) 0 % 3), i6 (1 + (bs.getD (k * 3 + 2) 0 % 100))]) :: (blkA g8 102 #[i6 ((i : Int) + 1), .slice A28 (pl.length + 1) c28]) :: (rowA (.slice A28 (pl.length + 1) c28) 99 3 (pl.length + 1) (rowC PtV.cells pl ++ [i6 (bs.getD (k * 3) 0 / 5 % 4), i6 (bs.getD (k * 3 + 1) 0 % 3), i6 (1 + (bs.getD (k * 3 + 2) 0 % 100))])) :: (rowA (.slice B m d) 102 2 m (rowC sitC q)) :: (sepA (q.map rowS)) :: []) ((memA W W.heap.size) :: []) w29 := hS29
                  intro a26 hput
                  replace s0 := hput.o 0 s0
                  replace s2 := hput.o 2 s2
                  replace s3 := hput.o 3 s3
                  replace s4 := hput.o 4 s4
                  replace s5 := hput.o 5 s5
                  replace s6 := hput.o 6 s6
                  replace s7 := hput.o 7 s7
                  replace s8 := hput.o 8 s8
                  replace s9 := hput.o 9 s9
                  replace s10 := hput.o 10 s10
                  replace s14 := hput.o 14 s14
                  replace s15 := hput.o 15 s15
                  replace s16 := hput.o 16 s16
                  replace s17 := hput.o 17 s17
                  replace s18 := hput.o 18 s18
                  replace s19 := hput.o 19 s19
                  replace s23 := hput.o 23 s23
                  replace s24 := hput.o 24 s24
                  replace s25 := hput.o 25 s25
                  replace s26 := hput.o 26 s26
                  replace s27 := hput.o 27 s27
                  replace s28 := hput.o 28 s28
                  replace s29 := hput.o 29 s29
                  replace s30 := hput.o 30 s30
                  replace s31 := hput.o 31 s31
                  replace s33 := hput.o 33 s33
                  replace s34 := hput.o 34 s34
                  replace s35 := hput.o 35 s35
                  replace s36 := hput.o 36 s36
                  replace s50 := hput.o 50 s50
                  have s52 : sl a26 52 = pt g8 1 := hput.new 0 52 rfl
                  have s53 : sl a26 53 = .slice C pl.length e := hput.new 1 53 rfl
                  have s54 : sl a26 54 = i6 (bs.getD (k * 3) 0) := hput.new 2 54 rfl
                  have s55 : sl a26 55 = i6 (bs.getD (k * 3) 0 / 5) := hput.new 3 55 rfl
                  have s56 : sl a26 56 = i6 (bs.getD (k * 3) 0 / 5 % 4) := hput.new 4 56 rfl
                  have s57 : sl a26 57 = .slice A n c := hput.new 5 57 rfl
                  have s58 : sl a26 58 = i6 ((k : Int) * 3) := hput.new 6 58 rfl
                  have s59 : sl a26 59 = i6 ((k : Int) * 3 + 1) := hput.new 7 59 rfl
                  have s60 : sl a26 60 = pt b (off + (k * 3 + 1)) := hput.new 8 60 rfl
                  have s61 : sl a26 61 = .int .u8 (bs.getD (k * 3 + 1) 0) := hput.new 9 61 rfl
                  have s62 : sl a26 62 = i6 (bs.getD (k * 3 + 1) 0) := hput.new 10 62 rfl
                  have s63 : sl a26 63 = i6 (bs.getD (k * 3 + 1) 0 % 3) := hput.new 11 63 rfl
                  have s64 : sl a26 64 = .slice A n c := hput.new 12 64 rfl
                  have s65 : sl a26 65 = i6 ((k : Int) * 3) := hput.new 13 65 rfl
                  have s66 : sl a26 66 = i6 ((k : Int) * 3 + 2) := hput.new 14 66 rfl
                  have s67 : sl a26 67 = pt b (off + (k * 3 + 2)) := hput.new 15 67 rfl
                  have s68 : sl a26 68 = .int .u8 (bs.getD (k * 3 + 2) 0) := hput.new 16 68 rfl
                  have s69 : sl a26 69 = i6 (bs.getD (k * 3 + 2) 0) := hput.new 17 69 rfl
                  have s70 : sl a26 70 = i6 (bs.getD (k * 3 + 2) 0 % 100) := hput.new 18 70 rfl
                  have s71 : sl a26 71 = i6 (1 + (bs.getD (k * 3 + 2) 0 % 100)) := hput.new 19 71 rfl
                  have s72 : sl a26 72 = .agg #[i6 (bs.getD (k * 3) 0 / 5 % 4), i6 (bs.getD (k * 3 + 1) 0 % 3), i6 (1 + (bs.getD (k * 3 + 2) 0 % 100))] := hput.new 20 72 rfl
                  have s73 : sl a26 73 = .slice (some ⟨g27, 0, none⟩) 1 1 := hput.new 21 73 rfl
                  have s74 : sl a26 74 = .slice A28 (pl.length + 1) c28 := hput.new 22 74 rfl
                  have s75 : sl a26 75 = pt g8 1 := hput.new 23 75 rfl
                  replace hz := hput.size.trans hz
                  replace hd := hput.defers.trans hd
                  clear hput
                  change Code.wp _ _ _ _ _
                  refine seq_l [] hz ?_
                  refine ⟨i6 ((k : Int) * 3), fun _ h_ => rmv (h_.b 6 s6),
                   i6 ((k : Int) * 3 + 3), fun _ h_ => rk (run_addI rfl (h_.d 0 21) rfl (by omega) rfl),
                   i6 ((k : Int) * 3 + 3), fun _ h_ => ras (h_.d 1 22), ?_⟩
                  intro a30 hput
                  replace s0 := hput.o 0 s0
                  replace s2 := hput.o 2 s2
                  replace s3 := hput.o 3 s3
                  replace s4 := hput.o 4 s4
                  replace s5 := hput.o 5 s5
                  replace s6 : sl a30 6 = i6 ((k : Int) * 3 + 3) := hput.new 2 6 rfl
                  replace s7 := hput.o 7 s7
                  replace s8 := hput.o 8 s8
                  replace s9 := hput.o 9 s9
                  replace s10 := hput.o 10 s10
                  replace s14 := hput.o 14 s14
                  replace s15 := hput.o 15 s15
                  replace s16 := hput.o 16 s16
                  replace s17 := hput.o 17 s17
                  replace s18 := hput.o 18 s18
                  replace s19 := hput.o 19 s19
                  have s21 : sl a30 21 = i6 ((k : Int) * 3) := hput.new 0 21 rfl
                  have s22 : sl a30 22 = i6 ((k : Int) * 3 + 3) := hput.new 1 22 rfl
                  replace s23 := hput.o 23 s23
                  replace s24 := hput.o 24 s24
                  replace s25 := hput.o 25 s25
                  replace s26 := hput.o 26 s26
                  replace s27 := hput.o 27 s27
                  replace s28 := hput.o 28 s28
                  replace s29 := hput.o 29 s29
                  replace s30 := hput.o 30 s30
                  replace s31 := hput.o 31 s31
                  replace s33 := hput.o 33 s33
                  replace s34 := hput.o 34 s34
                  replace s35 := hput.o 35 s35
                  replace s36 := hput.o 36 s36
                  replace s50 := hput.o 50 s50
                  replace s52 := hput.o 52 s52
                  replace s53 := hput.o 53 s53
                  replace s54 := hput.o 54 s54
                  replace s55 := hput.o 55 s55
                  replace s56 := hput.o 56 s56
                  replace s57 := hput.o 57 s57
                  replace s58 := hput.o 58 s58
                  replace s59 := hput.o 59 s59
                  replace s60 := hput.o 60 s60
                  replace s61 := hput.o 61 s61
                  replace s62 := hput.o 62 s62
                  replace s63 := hput.o 63 s63
                  replace s64 := hput.o 64 s64
                  replace s65 := hput.o 65 s65
                  replace s66 := hput.o 66 s66
                  replace s67 := hput.o 67 s67
                  replace s68 := hput.o 68 s68
                  replace s69 := hput.o 69 s69
                  replace s70 := hput.o 70 s70
                  replace s71 := hput.o 71 s71
                  replace s72 := hput.o 72 s72
                  replace s73 := hput.o 73 s73
                  replace s74 := hput.o 74 s74
                  replace s75 := hput.o 75 s75
                  replace hz := hput.size.trans hz
                  replace hd := hput.defers.trans hd
                  clear hput
                  replace hS29 := hS29.drop
                  replace hS29 := hS29.front (i := 3) rfl
                  replace hS29 := hS29.front (i := 3) rfl
                  replace hS29 := hS29.front (i := 3) rfl
                  replace hS29 := hS29.front (i := 3) rfl
                  replace hS29 : S (kap W) ((blkA g8 102 #[i6 ((i : Int) + 1), .slice A28 (pl.length + 1) c28]) :: (rowA (.slice A28 (pl.length + 1) c28) 99 3 (pl.length + 1) (rowC PtV.cells pl ++ [i6 (bs.getD (k * 3) 0 / 5 % 4), i6 (bs.getD (k * 3 + 1) 0 % 3), i6 (1 + (bs.getD (k * 3 + 2) 0 % 100))])) :: (rowA (.slice B m d) 102 2 m (rowC sitC q)) :: (sepA (q.map rowS)) :: []) ((memA W W.heap.size) :: []) w29 := hS29
                  replace s6 : sl a30 6 = i6 (((k + 1 : Nat) : Int) * 3) := s6.trans (congrArg _ (by omega))
                  rw [rowC_snocP] at hS29
                  rw [show pl.length + 1 = (pl ++ [(⟨bs.getD (k * 3) 0 / 5 % 4, bs.getD (k * 3 + 1) 0 % 3, 1 + bs.getD (k * 3 + 2) 0 % 100⟩ : PtV)]).length by simp] at hS29
                  refine ⟨⟨k + 1, _, pl ++ [(⟨bs.getD (k * 3) 0 / 5 % 4, bs.getD (k * 3 + 1) 0 % 3, 1 + bs.getD (k * 3 + 2) 0 % 100⟩ : PtV)], _, by omega, portsOf_add hc32 hc2_1 (hbe.symm.trans hc51), hz, hd, s0, s2, s3, s4, s5, s6, s10, s14, s15, hS29⟩, ?_⟩
                  show n - (intOf (sl a30 6)).toNat < n - (intOf (sl a11 6)).toNat
                  rw [show sl a30 6 = _ from s6, show sl a11 6 = _ from hmu2]
                  simp only [intOf]
                  omega
                · clear s51
                  replace hc51 := nbf hc51
                  rw [hc51] at s8
                  rw [hc51] at s50
                  refine wp_skip ?_
                  change Code.wp _ _ _ _ _
                  refine seq_l [] hz ?_
                  refine ⟨i6 ((k : Int) * 3), fun _ h_ => rmv (h_.b 6 s6),
                   i6 ((k : Int) * 3 + 3), fun _ h_ => rk (run_addI rfl (h_.d 0 21) rfl (by omega) rfl),
                   i6 ((k : Int) * 3 + 3), fun _ h_ => ras (h_.d 1 22), ?_⟩
                  intro a31 hput
                  replace s0 := hput.o 0 s0
                  replace s2 := hput.o 2 s2
                  replace s3 := hput.o 3 s3
                  replace s4 := hput.o 4 s4
                  replace s5 := hput.o 5 s5
                  replace s6 : sl a31 6 = i6 ((k : Int) * 3 + 3) := hput.new 2 6 rfl
                  replace s7 := hput.o 7 s7
                  replace s8 := hput.o 8 s8
                  replace s9 := hput.o 9 s9
                  replace s10 := hput.o 10 s10
                  replace s14 := hput.o 14 s14
                  replace s15 := hput.o 15 s15
                  replace s16 := hput.o 16 s16
                  replace s17 := hput.o 17 s17
                  replace s18 := hput.o 18 s18
                  replace s19 := hput.o 19 s19
                  have s21 : sl a31 21 = i6 ((k : Int) * 3) := hput.new 0 21 rfl
                  have s22 : sl a31 22 = i6 ((k : Int) * 3 + 3) := hput.new 1 22 rfl
                  replace s23 := hput.o 23 s23
                  replace s24 := hput.o 24 s24
                  replace s25 := hput.o 25 s25
                  replace s26 := hput.o 26 s26
                  replace s27 := hput.o 27 s27
                  replace s28 := hput.o 28 s28
                  replace s29 := hput.o 29 s29
                  replace s30 := hput.o 30 s30
                  replace s31 := hput.o 31 s31
                  replace s33 := hput.o 33 s33
                  replace s34 := hput.o 34 s34
                  replace s35 := hput.o 35 s35
                  replace s36 := hput.o 36 s36
                  replace s50 := hput.o 50 s50
                  replace hz := hput.size.trans hz
                  replace hd := hput.defers.trans hd
                  clear hput
                  replace hS18 := hS18.front (i := 3) rfl
                  replace hS18 := hS18.front (i := 3) rfl
                  replace hS18 := hS18.front (i := 3) rfl
                  replace hS18 := hS18.front (i := 3) rfl
                  replace hS18 : S (kap W) ((blkA g8 102 #[i6 ((i : Int) + 1), .slice C pl.length e]) :: (rowA (.slice C pl.length e) 99 3 pl.length (rowC PtV.cells pl)) :: (rowA (.slice B m d) 102 2 m (rowC sitC q)) :: (sepA (q.map rowS)) :: []) ((memA W W.heap.size) :: []) w18 := hS18
                  replace s6 : sl a31 6 = i6 (((k + 1 : Nat) : Int) * 3) := s6.trans (congrArg _ (by omega))
                  refine ⟨⟨k + 1, _, pl, _, by omega, portsOf_has hc32 hc2_1 (hbe.symm.trans hc51), hz, hd, s0, s2, s3, s4, s5, s6, s10, s14, s15, hS18⟩, ?_⟩
                  show n - (intOf (sl a31 6)).toNat < n - (intOf (sl a11 6)).toNat
                  rw [show sl a31 6 = _ from s6, show sl a11 6 = _ from hmu2]
                  simp only [intOf]
                  omega
        · clear s20
          refine wp_exit ?_
          change Code.wp _ _ _ _ _
          refine wp_seq ?_
          obtain rfl : k = n / 3 := by omega
          have hpe : pl = portsOf bs i (n / 3) := hc2_1
          have hpl : pl.length ≤ n / 3 := by rw [hc2_1]; exact portsOf_len bs i (n / 3)
          refine seq_l [] hz ?_
          refine ⟨pt g8 1, fun _ h_ => rk (fa 1 rfl (h_.b 5 s5)),
           .slice C pl.length e, fun _ h_ => rk (ld hS11 0 rfl (h_.d 0 76)),
           i6 pl.length, fun _ h_ => rk (run_lenS rfl (h_.d 1 77) (by kernel_rfl)),
           .bool (decide ((0 : Int) < pl.length)), fun _ h_ => rk (run_cmp rfl (h_.d 2 78) rfl rfl (by first | rfl | exact neq_dec _ _ | exact eq_dec _ _ | simp)), ?_⟩
          intro a32 hput
          replace s0 := hput.o 0 s0
          replace s2 := hput.o 2 s2
          replace s3 := hput.o 3 s3
          replace s4 := hput.o 4 s4
          replace s5 := hput.o 5 s5
          replace s6 := hput.o 6 s6
          replace s10 := hput.o 10 s10
          replace s14 := hput.o 14 s14
          replace s15 := hput.o 15 s15
          replace s16 := hput.o 16 s16
          replace s17 := hput.o 17 s17
          replace s18 := hput.o 18 s18
          replace s19 := hput.o 19 s19
          have s76 : sl a32 76 = pt g8 1 := hput.new 0 76 rfl
          have s77 : sl a32 77 = .slice C pl.length e := hput.new 1 77 rfl
          have s78 : sl a32 78 = i6 pl.length := hput.new 2 78 rfl
          have s79 : sl a32 79 = .bool (decide ((0 : Int) < pl.length)) := hput.new 3 79 rfl
          replace hz := hput.size.trans hz
          replace hd := hput.defers.trans hd
          clear hput
          change Code.wp _ _ _ _ _
          refine wp_cond_d s79 (fun hc79 => ?_) (fun hc79 => ?_)
          · clear s79
            refine seq_l [2, 3] hz ?_
            refine ⟨.slice B m d, fun _ h_ => rmv (h_.b 3 s3),
             .agg #[i6 ((i : Int) + 1), .slice C pl.length e], fun _ h_ => rk (lbS 2 (hS11.blk (i := 0) rfl) rfl (h_.b 5 s5)), ?_⟩
            refine ⟨fun a_ h_ => st_lit (e := 102) (vals := [(0, .agg #[i6 ((i : Int) + 1), .slice C pl.length e])]) (cells := #[i6 ((i : Int) + 1), .slice C pl.length e]) hS11 (on_none rfl) rfl (parts1 (h_.d 1 81)) fun g34 w34 hS34 hb34 => ⟨_, rfl, ?_⟩, trivial⟩
            clear h_ a_ hS11
            clear hb34
            refine ⟨fun a_ h_ => sap (bytes := 32) (news := [i6 ((i : Int) + 1), .slice C pl.length e]) hS34 3 (on_none rfl) rfl (h_.d 0 80) (h_.d 2 82) (reads_blk (hS34.blk (i := 0) rfl) rfl) (by simp [Value.oneCell']) (by (try unfold maxLen); omega) (by (try unfold maxLen); omega) fun A35 c35 w35 hS35 => ⟨_, rfl, ?_⟩, trivial⟩
            clear h_ a_ hS34
            replace hS35 : S (kap W) ((blkA g34 102 #[i6 ((i : Int) + 1), .slice C pl.length e]) :: (blkA g8 102 #[i6 ((i : Int) + 1), .slice C pl.length e]) :: (rowA (.slice C pl.length e) 99 3 pl.length (rowC PtV.cells pl)) :: (rowA (.slice A35 (m + 1) c35) 102 2 (m + 1) (rowC sitC q ++ [i6 ((i : Int) + 1), .slice C pl.length e])) :: (sepA (q.map rowS)) :: []) ((memA W W.heap.size) :: []) w35 := hS35
            refine ⟨.slice A35 (m + 1) c35, fun _ h_ => ras (h_.d 3 83), ?_⟩
            intro a33 hput
            replace s0 := hput.o 0 s0
            replace s2 := hput.o 2 s2
            replace s3 : sl a33 3 = .slice A35 (m + 1) c35 := hput.new 4 3 rfl
            replace s4 := hput.o 4 s4
            replace s5 := hput.o 5 s5
            replace s6 := hput.o 6 s6
            replace s10 := hput.o 10 s10
            replace s14 := hput.o 14 s14
            replace s15 := hput.o 15 s15
            replace s16 := hput.o 16 s16
            replace s17 := hput.o 17 s17
            replace s18 := hput.o 18 s18
            replace s19 := hput.o 19 s19
            replace s76 := hput.o 76 s76
            replace s77 := hput.o 77 s77
            replace s78 := hput.o 78 s78
            have s80 : sl a33 80 = .slice B m d := hput.new 0 80 rfl
            have s81 : sl a33 81 = .agg #[i6 ((i : Int) + 1), .slice C pl.length e] := hput.new 1 81 rfl
            have s82 : sl a33 82 = .slice (some ⟨g34, 0, none⟩) 1 1 := hput.new 2 82 rfl
            have s83 : sl a33 83 = .slice A35 (m + 1) c35 := hput.new 3 83 rfl
            replace hz := hput.size.trans hz
            replace hd := hput.defers.trans hd
            clear hput
            change Code.wp _ _ _ _ _
            refine seq_l [] hz ?_
            refine ⟨i6 ((i : Int) + 1), fun _ h_ => rmv (h_.b 4 s4),
             i6 ((i : Int) + 1 + 1), fun _ h_ => rk (run_addI rfl (h_.d 0 12) rfl (by omega) rfl),
             i6 ((i : Int) + 1 + 1), fun _ h_ => ras (h_.d 1 13), ?_⟩
            intro a36 hput
            replace s0 := hput.o 0 s0
            replace s2 := hput.o 2 s2
            replace s3 := hput.o 3 s3
            replace s4 : sl a36 4 = i6 ((i : Int) + 1 + 1) := hput.new 2 4 rfl
            replace s5 := hput.o 5 s5
            replace s6 := hput.o 6 s6
            replace s10 := hput.o 10 s10
            have s12 : sl a36 12 = i6 ((i : Int) + 1) := hput.new 0 12 rfl
            have s13 : sl a36 13 = i6 ((i : Int) + 1 + 1) := hput.new 1 13 rfl
            replace s14 := hput.o 14 s14
            replace s15 := hput.o 15 s15
            replace s16 := hput.o 16 s16
            replace s17 := hput.o 17 s17
            replace s18 := hput.o 18 s18
            replace s19 := hput.o 19 s19
            replace s76 := hput.o 76 s76
            replace s77 := hput.o 77 s77
            replace s78 := hput.o 78 s78
            replace s80 := hput.o 80 s80
            replace s81 := hput.o 81 s81
            replace s82 := hput.o 82 s82
            replace s83 := hput.o 83 s83
            replace hz := hput.size.trans hz
            replace hd := hput.defers.trans hd
            clear hput
            replace hS35 := hS35.front (i := 1) rfl
            replace hS35 := hS35.front (i := 1) rfl
            replace hS35 : S (kap W) ((blkA g34 102 #[i6 ((i : Int) + 1), .slice C pl.length e]) :: (blkA g8 102 #[i6 ((i : Int) + 1), .slice C pl.length e]) :: (rowA (.slice C pl.length e) 99 3 pl.length (rowC PtV.cells pl)) :: (rowA (.slice A35 (m + 1) c35) 102 2 (m + 1) (rowC sitC q ++ [i6 ((i : Int) + 1), .slice C pl.length e])) :: (sepA (q.map rowS)) :: []) ((memA W W.heap.size) :: []) w35 := hS35
            replace hS35 := hS35.drop.drop
            replace hS35 := hS35.front (i := 1) rfl
            replace hS35 := hS35.front (i := 2) rfl
            replace hS35 := hS35.front (i := 2) rfl
            replace hS35 : S (kap W) ((rowA (.slice C pl.length e) 99 3 pl.length (rowC PtV.cells pl)) :: (sepA (q.map rowS)) :: (rowA (.slice A35 (m + 1) c35) 102 2 (m + 1) (rowC sitC q ++ [i6 ((i : Int) + 1), .slice C pl.length e])) :: []) ((memA W W.heap.size) :: []) w35 := hS35
            have hSq := sep_snoc (a := rowS ((⟨(i : Int) + 1, pl⟩ : SitV), (⟨C, e⟩ : SlP))) hS35
            replace hSq := hSq.front (i := 1) rfl
            replace hSq : S (kap W) ((rowA (.slice A35 (m + 1) c35) 102 2 (m + 1) (rowC sitC (q ++ [((⟨(i : Int) + 1, pl⟩ : SitV), (⟨C, e⟩ : SlP))]))) :: (sepA ((q ++ [((⟨(i : Int) + 1, pl⟩ : SitV), (⟨C, e⟩ : SlP))]).map rowS)) :: []) ((memA W W.heap.size) :: []) w35 := by rw [List.map_append, ← rowC_snoc]; exact hSq
            refine ⟨⟨i + 1, m + 1, _, _, q ++ [((⟨(i : Int) + 1, pl⟩ : SitV), (⟨C, e⟩ : SlP))], by omega, by omega, by rw [List.map_append, hc0_2]; show _ = sitesU (portsK bs (n / 3)) i ++ siteI (portsK bs (n / 3)) i; unfold siteI; rw [portsK_of bs i (by omega), ← hpe, if_pos (by omega)]; rfl, hz, hd, s0, s2, s3, s4, hSq⟩, ?_⟩
            show 6 - (intOf (sl a36 4)).toNat < 6 - (intOf (sl a5 4)).toNat
            rw [show sl a36 4 = _ from s4, show sl a5 4 = _ from hmu0]
            simp only [intOf]
            omega
          · clear s79
            refine wp_skip ?_
            change Code.wp _ _ _ _ _
            refine seq_l [] hz ?_
            refine ⟨i6 ((i : Int) + 1), fun _ h_ => rmv (h_.b 4 s4),
             i6 ((i : Int) + 1 + 1), fun _ h_ => rk (run_addI rfl (h_.d 0 12) rfl (by omega) rfl),
             i6 ((i : Int) + 1 + 1), fun _ h_ => ras (h_.d 1 13), ?_⟩
            intro a37 hput
            replace s0 := hput.o 0 s0
            replace s2 := hput.o 2 s2
            replace s3 := hput.o 3 s3
            replace s4 : sl a37 4 = i6 ((i : Int) + 1 + 1) := hput.new 2 4 rfl
            replace s5 := hput.o 5 s5
            replace s6 := hput.o 6 s6
            replace s10 := hput.o 10 s10
            have s12 : sl a37 12 = i6 ((i : Int) + 1) := hput.new 0 12 rfl
            have s13 : sl a37 13 = i6 ((i : Int) + 1 + 1) := hput.new 1 13 rfl
            replace s14 := hput.o 14 s14
            replace s15 := hput.o 15 s15
            replace s16 := hput.o 16 s16
            replace s17 := hput.o 17 s17
            replace s18 := hput.o 18 s18
            replace s19 := hput.o 19 s19
            replace s76 := hput.o 76 s76
            replace s77 := hput.o 77 s77
            replace s78 := hput.o 78 s78
            replace hz := hput.size.trans hz
            replace hd := hput.defers.trans hd
            clear hput
            replace hS11 := hS11.front (i := 1) rfl
            replace hS11 := hS11.front (i := 1) rfl
            replace hS11 : S (kap W) ((blkA g8 102 #[i6 ((i : Int) + 1), .slice C pl.length e]) :: (rowA (.slice C pl.length e) 99 3 pl.length (rowC PtV.cells pl)) :: (rowA (.slice B m d) 102 2 m (rowC sitC q)) :: (sepA (q.map rowS)) :: []) ((memA W W.heap.size) :: []) w11 := hS11
            replace hS11 := hS11.drop.drop
            replace hS11 := hS11.front (i := 1) rfl
            replace hS11 := hS11.front (i := 1) rfl
            replace hS11 : S (kap W) ((rowA (.slice B m d) 102 2 m (rowC sitC q)) :: (sepA (q.map rowS)) :: []) ((memA W W.heap.size) :: []) w11 := hS11
            refine ⟨⟨i + 1, _, _, _, q, by omega, by omega, by rw [hc0_2]; show _ = sitesU (portsK bs (n / 3)) i ++ siteI (portsK bs (n / 3)) i; unfold siteI; rw [portsK_of bs i (by omega), ← hpe, if_neg (by omega)]; simp, hz, hd, s0, s2, s3, s4, hS11⟩, ?_⟩
            show 6 - (intOf (sl a37 4)).toNat < 6 - (intOf (sl a5 4)).toNat
            rw [show sl a37 4 = _ from s4, show sl a5 4 = _ from hmu0]
            simp only [intOf]
            omega
    · clear s11
      refine wp_exit ?_
      change Code.wp _ _ _ _ _
      refine wp_seq ?_
      refine seq_l [] hz ?_
      refine ⟨.slice B m d, fun _ h_ => rmv (h_.b 3 s3),
       .slice B m d, fun _ h_ => ras (h_.d 0 84), ?_⟩
      intro a38 hput
      replace s2 : sl a38 2 = .slice B m d := hput.new 1 2 rfl
      replace hz := hput.size.trans hz
      replace hd := hput.defers.trans hd
      clear hput s0 s3 s4 s10
      change Code.wp _ _ _ _ _
      refine wp_ret ?_
      refine ret1 (P := Try.prog) (fn := Try.f16) hd s2 (hR_ _ _ ?_)
      obtain rfl : i = 5 := by omega
      have hbl2 : bs.length = n := u8s_of2 hr
      refine ⟨B, m, d, q, rfl, by rw [hc0_2, sitesF, hbl2], hS5.rowBase (i := 0) rfl (by simp : memA W W.heap.size ∈ _), fun x hx => ?_, (hS5.old (by simp))⟩
      obtain ⟨j, hj⟩ := List.getElem?_of_mem hx
      exact S.rd (i := 0) (e := 99) (S.sep_at (hS5.front (i := 1) rfl) (show (q.map rowS)[j]? = some (rowS x) by rw [List.getElem?_map, hj]; rfl)) rfl
end Go.Proofs.Ytdenfgnkbfbpmaa
