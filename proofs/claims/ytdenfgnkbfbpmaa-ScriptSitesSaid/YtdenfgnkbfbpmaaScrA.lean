/-
  Sites that are alike; script.Get.
-/
import Derived.Test.YtdenfgnkbfbpmaaRSites
namespace Go.Proofs.Ytdenfgnkbfbpmaa
open Go.RowKit
set_option linter.unusedSimpArgs false
set_option linter.unusedVariables false

theorem neq_port (x : PtV) (w : World) : (binOp .neq 99 (.agg (PtV.cells x).toArray) (.agg (PtV.cells x).toArray)).run Try.prog w = .ok (.bool false) w := by
  obtain ⟨a1, a2, a3⟩ := x
  dsimp only [PtV.cells]
  go_simp
theorem pair_at {q q2 : List (SitV × SlP)} (h : q.map (·.1) = q2.map (·.1)) {i : Nat} (hi : i < q.length) : ∃ z u, q[i]? = some z ∧ q2[i]? = some (z.1, u) := by
  have h1 : q[i]? = some q[i] := List.getElem?_eq_getElem hi
  have hl : q2.length = q.length := by have := congrArg List.length h; simpa using this.symm
  have h2 : q2[i]? = some q2[i] := List.getElem?_eq_getElem (by omega)
  refine ⟨q[i], q2[i].2, h1, ?_⟩
  have h3 : (q.map (·.1))[i]? = (q2.map (·.1))[i]? := by rw [h]
  rw [List.getElem?_map, List.getElem?_map, h1, h2] at h3
  have h4 : q[i].1 = q2[i].1 := by simpa using h3
  rw [h2, h4]
theorem getD_some {bs : List Int} {j : Nat} (h : j < bs.length) : bs[j]? = some (bs.getD j 0) := by
  rw [List.getD_eq_getElem?_getD, List.getElem?_eq_getElem h]; rfl
/-- an entry of a script -/
structure EntV where
  op : Int
  a : Int
  b : Int
  c : Int
def EntV.cells (x : EntV) : List Value := [.int .i64 x.op, .int .i64 x.a, .int .i64 x.b, .int .i64 x.c]
theorem EntV.cells_len (x : EntV) : (EntV.cells x).length = 4 := rfl
def getF (bs : List Int) : Nat → List EntV
  | 0 => []
  | k + 1 => getF bs k ++ [⟨bs.getD (k * 4) 0 % 11, bs.getD (k * 4 + 1) 0, bs.getD (k * 4 + 2) 0, bs.getD (k * 4 + 3) 0⟩]
def getA (G : Nat) (bs : List Int) (k : Nat) : Atom := exA fun v : SlP => sepA [blkA G 88 #[.slice v.A k v.c], rowA (.slice v.A k v.c) 91 4 k (rowC EntV.cells (getF bs k))]
theorem get_open {κ : Kap} {L I : List Atom} {w : World} {G k : Nat} {bs : List Int} (h : S κ (getA G bs k :: L) I w) : ∃ v : SlP, S κ (blkA G 88 #[.slice v.A k v.c] :: rowA (.slice v.A k v.c) 91 4 k (rowC EntV.cells (getF bs k)) :: L) I w := by
  obtain ⟨v, h⟩ := h.ex_open
  exact ⟨v, h.sep_open⟩
theorem get_close {κ : Kap} {L I : List Atom} {w : World} {G k c : Nat} {A : Option Addr} {bs : List Int} (h : S κ (blkA G 88 #[.slice A k c] :: rowA (.slice A k c) 91 4 k (rowC EntV.cells (getF bs k)) :: L) I w) : S κ (getA G bs k :: L) I w := by
  unfold getA
  refine S.ex_close ⟨A, c⟩ ?_
  exact S.sep_close (l := [_, _]) h
theorem get_more {κ : Kap} {L I : List Atom} {w : World} {G k c : Nat} {A : Option Addr} {bs : List Int} (h : S κ (blkA G 88 #[.slice A (k + 1) c] :: rowA (.slice A (k + 1) c) 91 4 (k + 1) (rowC EntV.cells (getF bs k) ++ [.int .i64 (bs.getD (k * 4) 0 % 11), .int .i64 (bs.getD (k * 4 + 1) 0), .int .i64 (bs.getD (k * 4 + 2) 0), .int .i64 (bs.getD (k * 4 + 3) 0)]) :: L) I w) : S κ (getA G bs (k + 1) :: L) I w := by
  refine get_close (A := A) (c := c) ?_
  have e : rowC EntV.cells (getF bs (k + 1)) = rowC EntV.cells (getF bs k) ++ [.int .i64 (bs.getD (k * 4) 0 % 11), .int .i64 (bs.getD (k * 4 + 1) 0), .int .i64 (bs.getD (k * 4 + 2) 0), .int .i64 (bs.getD (k * 4 + 3) 0)] := by simp [getF, rowC, EntV.cells]
  rw [e]; exact h
set_option maxRecDepth 100000 in
set_option maxHeartbeats 800000 in
theorem same26_any (A B : Option Addr) (n c d : Nat) (q q2 : List (SitV × SlP)) (W : World) (hn : n ≤ 1000) (hq : q.map (·.1) = q2.map (·.1)) (hA : Reads W W.heap.size 2 A n (rowC sitC q)) (hB : Reads W W.heap.size 2 B n (rowC sitC q2)) (hAe : ∀ x ∈ q, Reads W W.heap.size 3 x.2.A x.1.ports.length (rowC PtV.cells x.1.ports) ∧ x.1.ports.length ≤ 1000) (hBe : ∀ x ∈ q2, Reads W W.heap.size 3 x.2.A x.1.ports.length (rowC PtV.cells x.1.ports)) :
    Calls Try.prog 15 #[.slice A n c, .slice B n d] W (fun r w' => r = .returned (.bool true) ∧ Below W.heap.size W w') := by
  have hS := S.start W
  refine calls_walk Try.func15 rfl fun R_ hR_ a hz hd hargs => ?_
  replace hz : a.tmps.size = 71 := hz.trans (by kernel_rfl)
  have s0 := hargs 0 _ rfl
  have s1 := hargs 1 _ rfl
  clear hargs
  refine wp_seq ?_
  refine seq_l [] hz ?_
  refine ⟨.bool false, fun _ h_ => rk (run_assign rfl rfl), ?_⟩
  intro a2 hput
  replace s0 := hput.o 0 s0
  replace s1 := hput.o 1 s1
  have s4 : sl a2 4 = .bool false := hput.new 0 4 rfl
  replace hz := hput.size.trans hz
  replace hd := hput.defers.trans hd
  clear hput
  change Code.wp _ _ _ _ _
  refine wp_seq ?_
  refine wp_seq ?_
  refine seq_l [] hz ?_
  refine ⟨.slice A n c, fun _ h_ => rmv (h_.b 0 s0),
   i6 n, fun _ h_ => rk (run_lenS rfl (h_.d 0 7) (by kernel_rfl)),
   .slice B n d, fun _ h_ => rmv (h_.b 1 s1),
   i6 n, fun _ h_ => rk (run_lenS rfl (h_.d 2 9) (by kernel_rfl)),
   .bool false, fun _ h_ => rk (run_cmp rfl (h_.d 1 8) (h_.d 3 10) rfl (by simp)), ?_⟩
  intro a3 hput
  replace s0 := hput.o 0 s0
  replace s1 := hput.o 1 s1
  replace s4 := hput.o 4 s4
  have s11 : sl a3 11 = .bool false := hput.new 4 11 rfl
  replace hz := hput.size.trans hz
  replace hd := hput.defers.trans hd
  clear hput
  change Code.wp _ _ _ _ _
  refine wp_cond_false s11 ?_
  refine wp_skip ?_
  change Code.wp _ _ _ _ _
  refine wp_seq ?_
  refine wp_seq ?_
  refine seq_l [] hz ?_
  refine ⟨i6 0, fun _ h_ => rk (run_assign rfl rfl), ?_⟩
  intro a4 hput
  replace s0 := hput.o 0 s0
  replace s1 := hput.o 1 s1
  replace s4 := hput.o 4 s4
  have s5 : sl a4 5 = i6 0 := hput.new 0 5 rfl
  replace hz := hput.size.trans hz
  replace hd := hput.defers.trans hd
  clear hput s11
  change Code.wp _ _ _ _ _
  refine wp_block ?_
  refine wp_loop (fun a_ w_ => ∃ i : Nat, (i ≤ n) ∧ a_.tmps.size = 71 ∧ a_.defers = [] ∧ sl a_ 0 = .slice A n c ∧ sl a_ 1 = .slice B n d ∧ sl a_ 4 = .bool false ∧ sl a_ 5 = i6 i ∧ S (kap W) ([]) ((memA W W.heap.size) :: []) w_) (fun a_ _ => n - (intOf (sl a_ 5)).toNat) ?_ ?_
  · exact ⟨0, Nat.zero_le _, hz, hd, s0, s1, s4, s5, hS⟩
  · clear hz hd s0 s1 s4 s5 hS
    rintro a5 w5 ⟨i, hc0_0, hz, hd, s0, s1, s4, s5, hS5⟩
    have hmu0 := s5
    refine wp_seq ?_
    refine wp_seq ?_
    refine seq_l [] hz ?_
    refine ⟨i6 i, fun _ h_ => rmv (h_.b 5 s5),
     .slice A n c, fun _ h_ => rmv (h_.b 0 s0),
     i6 n, fun _ h_ => rk (run_lenS rfl (h_.d 1 13) (by kernel_rfl)),
     .bool (decide ((i : Int) < n)), fun _ h_ => rk (run_cmp rfl (h_.d 0 12) (h_.d 2 14) rfl (by first | rfl | exact neq_dec _ _ | exact eq_dec _ _ | simp)), ?_⟩
    intro a6 hput
    replace s0 := hput.o 0 s0
    replace s1 := hput.o 1 s1
    replace s4 := hput.o 4 s4
    replace s5 := hput.o 5 s5
    have s12 : sl a6 12 = i6 i := hput.new 0 12 rfl
    have s13 : sl a6 13 = .slice A n c := hput.new 1 13 rfl
    have s14 : sl a6 14 = i6 n := hput.new 2 14 rfl
    have s15 : sl a6 15 = .bool (decide ((i : Int) < n)) := hput.new 3 15 rfl
    replace hz := hput.size.trans hz
    replace hd := hput.defers.trans hd
    clear hput
    change Code.wp _ _ _ _ _
    refine wp_cond_d s15 (fun hc15 => ?_) (fun hc15 => ?_)
    · clear s15
      refine wp_skip ?_
      change Code.wp _ _ _ _ _
      refine wp_seq ?_
      refine wp_block ?_
      refine wp_seq ?_
      refine wp_seq ?_
      obtain ⟨z, u, hz0, hu0⟩ := pair_at hq (show i < q.length by have := sits_len hA; omega)
      obtain ⟨hrz, hzl⟩ := hAe _ (List.mem_of_getElem? hz0)
      have hru := hBe _ (List.mem_of_getElem? hu0)
      have hule : (z.1, u).1.ports.length = z.1.ports.length := rfl
      refine seq_r [[], [], [0, 1], [0, 1, 2], [0, 1, 2, 3], [], [], [5, 6], [5, 6, 7], [5, 6, 7, 8], [0, 1, 2, 3, 4, 5, 6, 7, 8, 9], [0, 1, 2, 3, 4, 5, 6, 7, 8, 9, 10], [0, 1, 2, 3, 4, 5, 6, 7, 8, 9, 10, 11], [0, 1, 2, 3, 4, 5, 6, 7, 8, 9, 10, 11], [0, 1, 2, 3, 4, 5, 6, 7, 8, 9, 10, 11, 12, 13], [0, 1, 2, 3, 4, 5, 6, 7, 8, 9, 10, 11, 12, 13, 14], [0, 1, 2, 3, 4, 5, 6, 7, 8, 9, 10, 11, 12, 13, 14, 15], [0, 1, 2, 3, 4, 5, 6, 7, 8, 9, 10, 11, 12, 13, 14, 15, 16], [0, 1, 2, 3, 4, 5, 6, 7, 8, 9, 10, 11], [0, 1, 2, 3, 4, 5, 6, 7, 8, 9, 10, 11], [0, 1, 2, 3, 4, 5, 6, 7, 8, 9, 10, 11, 18, 19], [0, 1, 2, 3, 4, 5, 6, 7, 8, 9, 10, 11, 18, 19, 20], [0, 1, 2, 3, 4, 5, 6, 7, 8, 9, 10, 11, 18, 19, 20, 21], [0, 1, 2, 3, 4, 5, 6, 7, 8, 9, 10, 11, 18, 19, 20, 21, 22], [0, 1, 2, 3, 4, 5, 6, 7, 8, 9, 10, 11, 12, 13, 14, 15, 16, 17, 18, 19, 20, 21, 22, 23], [0, 1, 2, 3, 4, 5, 6, 7, 8, 9, 10, 11, 12, 13, 14, 15, 16, 17, 18, 19, 20, 21, 22, 23, 24]] [] (.rd 0 (.rd 1 (.rd 2 (.rd 3 (.rd 4 (.rd 5 (.rd 6 (.rd 7 (.rd 8 (.rd 9 (.rd 10 (.rd 11 (.rd 12 (.rd 13 (.rd 14 (.rd 15 (.rd 16 (.rd 17 (.rd 18 (.rd 19 (.rd 20 (.rd 21 (.rd 22 (.rd 23 (.rd 24 (.rd 25 (.fin))))))))))))))))))))))))))) hz fun w7 hb7 => ?_
      replace hS5 := hS5.below hb7
      refine ⟨.slice A n c, fun _ h_ => rmv (h_.b 0 s0),
       i6 i, fun _ h_ => rmv (h_.b 5 s5), ?_⟩
      obtain ⟨b8, o8, z8, hA8, hb8, hz8, hq8⟩ := Reads.row_at sitC 2 sitC_len (k := i) (Reads.old hA (hS5.old (by simp))) (by decide) (by omega)
      obtain rfl : z = z8 := Option.some.inj (hz0.symm.trans hz8)
      refine ⟨pt b8 (o8 + i * 2), fun _ h_ => rk (run_indexV (size := 2) rfl (h_.d 0 18) hA8 (h_.d 1 19) (by kernel_rfl) (by omega) (by simp)),
       pt b8 (o8 + i * 2), fun _ h_ => rk (fa 0 rfl (h_.d 2 20)),
       i6 z.1.id, fun _ h_ => rk (run_load rfl (h_.d 3 21) (by kernel_rfl) (show w7.cell? ⟨b8, o8 + i * 2 + 0, none⟩ = some (i6 z.1.id) from hq8 0 _ rfl)),
       .slice B n d, fun _ h_ => rmv (h_.b 1 s1),
       i6 i, fun _ h_ => rmv (h_.b 5 s5), ?_⟩
      obtain ⟨b9, o9, z9, hA9, hb9, hz9, hq9⟩ := Reads.row_at sitC 2 sitC_len (k := i) (Reads.old hB (hS5.old (by simp))) (by decide) (by omega)
      obtain rfl : (z.1, u) = z9 := Option.some.inj (hu0.symm.trans hz9)
      refine ⟨pt b9 (o9 + i * 2), fun _ h_ => rk (run_indexV (size := 2) rfl (h_.d 5 23) hA9 (h_.d 6 24) (by kernel_rfl) (by omega) (by simp)),
       pt b9 (o9 + i * 2), fun _ h_ => rk (fa 0 rfl (h_.d 7 25)),
       i6 ((z.1, u).1.id), fun _ h_ => rk (run_load rfl (h_.d 8 26) (by kernel_rfl) (show w7.cell? ⟨b9, o9 + i * 2 + 0, none⟩ = some (i6 ((z.1, u).1.id)) from hq9 0 _ rfl)),
       .bool false, fun _ h_ => rk (run_cmp rfl (h_.d 4 22) (h_.d 9 27) rfl (by simp)),
       .bool false, fun _ h_ => rmv (h_.d 10 28),
       .slice A n c, fun _ h_ => r_ok (h_.on 11 29) (run_move rfl (h_.b 0 s0)),
       i6 i, fun _ h_ => r_ok (h_.on 11 29) (run_move rfl (h_.b 5 s5)), ?_⟩
      obtain ⟨b10, o10, z10, hA10, hb10, hz10, hq10⟩ := Reads.row_at sitC 2 sitC_len (k := i) (Reads.old hA (hS5.old (by simp))) (by decide) (by omega)
      obtain rfl : z = z10 := Option.some.inj (hz0.symm.trans hz10)
      refine ⟨pt b10 (o10 + i * 2), fun _ h_ => r_ok (h_.on 11 29) (run_indexV (size := 2) rfl (h_.d 12 30) hA10 (h_.d 13 31) (by kernel_rfl) (by omega) (by simp)),
       pt b10 (o10 + i * 2 + 1), fun _ h_ => r_ok (h_.on 11 29) (fa 1 rfl (h_.d 14 32)),
       .slice z.2.A z.1.ports.length z.2.c, fun _ h_ => r_ok (h_.on 11 29) (run_load rfl (h_.d 15 33) (by kernel_rfl) (show w7.cell? ⟨b10, o10 + i * 2 + 1, none⟩ = some (.slice z.2.A z.1.ports.length z.2.c) from hq10 1 _ rfl)),
       i6 z.1.ports.length, fun _ h_ => r_ok (h_.on 11 29) (run_lenS rfl (h_.d 16 34) (by kernel_rfl)),
       .slice B n d, fun _ h_ => r_ok (h_.on 11 29) (run_move rfl (h_.b 1 s1)),
       i6 i, fun _ h_ => r_ok (h_.on 11 29) (run_move rfl (h_.b 5 s5)), ?_⟩
      obtain ⟨b11, o11, z11, hA11, hb11, hz11, hq11⟩ := Reads.row_at sitC 2 sitC_len (k := i) (Reads.old hB (hS5.old (by simp))) (by decide) (by omega)
      obtain rfl : (z.1, u) = z11 := Option.some.inj (hu0.symm.trans hz11)
      refine ⟨pt b11 (o11 + i * 2), fun _ h_ => r_ok (h_.on 11 29) (run_indexV (size := 2) rfl (h_.d 18 36) hA11 (h_.d 19 37) (by kernel_rfl) (by omega) (by simp)),
       pt b11 (o11 + i * 2 + 1), fun _ h_ => r_ok (h_.on 11 29) (fa 1 rfl (h_.d 20 38)),
       .slice ((z.1, u).2.A) ((z.1, u).1.ports.length) ((z.1, u).2.c), fun _ h_ => r_ok (h_.on 11 29) (run_load rfl (h_.d 21 39) (by kernel_rfl) (show w7.cell? ⟨b11, o11 + i * 2 + 1, none⟩ = some (.slice ((z.1, u).2.A) ((z.1, u).1.ports.length) ((z.1, u).2.c)) from hq11 1 _ rfl)),
       i6 (((z.1, u).1.ports.length : Nat) : Int), fun _ h_ => r_ok (h_.on 11 29) (run_lenS rfl (h_.d 22 40) (by kernel_rfl)),
       .bool false, fun _ h_ => r_ok (h_.on 11 29) (run_cmp rfl (h_.d 17 35) (h_.d 23 41) rfl (by simp)),
       .bool false, fun _ h_ => rk (run_pick_f rfl (h_.d 11 29) (h_.d 24 42)), ?_⟩
      intro a7 hput
      replace s0 := hput.o 0 s0
      replace s1 := hput.o 1 s1
      replace s4 := hput.o 4 s4
      replace s5 := hput.o 5 s5
      replace s12 := hput.o 12 s12
      replace s13 := hput.o 13 s13
      replace s14 := hput.o 14 s14
      have s18 : sl a7 18 = .slice A n c := hput.new 0 18 rfl
      have s19 : sl a7 19 = i6 i := hput.new 1 19 rfl
      have s20 : sl a7 20 = pt b8 (o8 + i * 2) := hput.new 2 20 rfl
      have s21 : sl a7 21 = pt b8 (o8 + i * 2) := hput.new 3 21 rfl
      have s22 : sl a7 22 = i6 z.1.id := hput.new 4 22 rfl
      have s23 : sl a7 23 = .slice B n d := hput.new 5 23 rfl
      have s24 : sl a7 24 = i6 i := hput.new 6 24 rfl
      have s25 : sl a7 25 = pt b9 (o9 + i * 2) := hput.new 7 25 rfl
      have s26 : sl a7 26 = pt b9 (o9 + i * 2) := hput.new 8 26 rfl
      have s27 : sl a7 27 = i6 ((z.1, u).1.id) := hput.new 9 27 rfl
      have s28 : sl a7 28 = .bool false := hput.new 10 28 rfl
      have s29 : sl a7 29 = .bool false := hput.new 11 29 rfl
      have s30 : sl a7 30 = .slice A n c := hput.new 12 30 rfl
      have s31 : sl a7 31 = i6 i := hput.new 13 31 rfl
      have s32 : sl a7 32 = pt b10 (o10 + i * 2) := hput.new 14 32 rfl
      have s33 : sl a7 33 = pt b10 (o10 + i * 2 + 1) := hput.new 15 33 rfl
      have s34 : sl a7 34 = .slice z.2.A z.1.ports.length z.2.c := hput.new 16 34 rfl
      have s35 : sl a7 35 = i6 z.1.ports.length := hput.new 17 35 rfl
      have s36 : sl a7 36 = .slice B n d := hput.new 18 36 rfl
      have s37 : sl a7 37 = i6 i := hput.new 19 37 rfl
      have s38 : sl a7 38 = pt b11 (o11 + i * 2) := hput.new 20 38 rfl
      have s39 : sl a7 39 = pt b11 (o11 + i * 2 + 1) := hput.new 21 39 rfl
      have s40 : sl a7 40 = .slice ((z.1, u).2.A) ((z.1, u).1.ports.length) ((z.1, u).2.c) := hput.new 22 40 rfl
      have s41 : sl a7 41 = i6 (((z.1, u).1.ports.length : Nat) : Int) := hput.new 23 41 rfl
      have s42 : sl a7 42 = .bool false := hput.new 24 42 rfl
      have s43 : sl a7 43 = .bool false := hput.new 25 43 rfl
      replace hz := hput.size.trans hz
      replace hd := hput.defers.trans hd
      clear hput
      change Code.wp _ _ _ _ _
      refine wp_cond_false s43 ?_
      refine wp_skip ?_
      change Code.wp _ _ _ _ _
      refine wp_seq ?_
      refine seq_l [] hz ?_
      refine ⟨i6 0, fun _ h_ => rk (run_assign rfl rfl), ?_⟩
      intro a12 hput
      replace s0 := hput.o 0 s0
      replace s1 := hput.o 1 s1
      replace s4 := hput.o 4 s4
      replace s5 := hput.o 5 s5
      have s6 : sl a12 6 = i6 0 := hput.new 0 6 rfl
      replace s12 := hput.o 12 s12
      replace s13 := hput.o 13 s13
      replace s14 := hput.o 14 s14
      replace s18 := hput.o 18 s18
      replace s19 := hput.o 19 s19
      replace s20 := hput.o 20 s20
      replace s21 := hput.o 21 s21
      replace s22 := hput.o 22 s22
      replace s23 := hput.o 23 s23
      replace s24 := hput.o 24 s24
      replace s25 := hput.o 25 s25
      replace s26 := hput.o 26 s26
      replace s27 := hput.o 27 s27
      replace s28 := hput.o 28 s28
      replace s29 := hput.o 29 s29
      replace s30 := hput.o 30 s30
      replace s31 := hput.o 31 s31
      replace s32 := hput.o 32 s32
      replace s33 := hput.o 33 s33
      replace s34 := hput.o 34 s34
      replace s35 := hput.o 35 s35
      replace s36 := hput.o 36 s36
      replace s37 := hput.o 37 s37
      replace s38 := hput.o 38 s38
      replace s39 := hput.o 39 s39
      replace s40 := hput.o 40 s40
      replace s41 := hput.o 41 s41
      replace s42 := hput.o 42 s42
      replace s43 := hput.o 43 s43
      replace hz := hput.size.trans hz
      replace hd := hput.defers.trans hd
      clear hput
      change Code.wp _ _ _ _ _
      refine wp_block ?_
      refine wp_loop (fun a_ w_ => ∃ j : Nat, (j ≤ z.1.ports.length) ∧ a_.tmps.size = 71 ∧ a_.defers = [] ∧ sl a_ 0 = .slice A n c ∧ sl a_ 1 = .slice B n d ∧ sl a_ 4 = .bool false ∧ sl a_ 5 = i6 i ∧ sl a_ 6 = i6 j ∧ sl a_ 12 = i6 i ∧ sl a_ 13 = .slice A n c ∧ sl a_ 14 = i6 n ∧ sl a_ 18 = .slice A n c ∧ sl a_ 19 = i6 i ∧ sl a_ 20 = pt b8 (o8 + i * 2) ∧ sl a_ 21 = pt b8 (o8 + i * 2) ∧ sl a_ 22 = i6 z.1.id ∧ sl a_ 23 = .slice B n d ∧ sl a_ 24 = i6 i ∧ sl a_ 25 = pt b9 (o9 + i * 2) ∧ sl a_ 26 = pt b9 (o9 + i * 2) ∧ sl a_ 27 = i6 ((z.1, u).1.id) ∧ sl a_ 28 = .bool false ∧ sl a_ 29 = .bool false ∧ sl a_ 30 = .slice A n c ∧ sl a_ 31 = i6 i ∧ sl a_ 32 = pt b10 (o10 + i * 2) ∧ sl a_ 33 = pt b10 (o10 + i * 2 + 1) ∧ sl a_ 34 = .slice z.2.A z.1.ports.length z.2.c ∧ sl a_ 35 = i6 z.1.ports.length ∧ sl a_ 36 = .slice B n d ∧ sl a_ 37 = i6 i ∧ sl a_ 38 = pt b11 (o11 + i * 2) ∧ sl a_ 39 = pt b11 (o11 + i * 2 + 1) ∧ sl a_ 40 = .slice ((z.1, u).2.A) ((z.1, u).1.ports.length) ((z.1, u).2.c) ∧ sl a_ 41 = i6 (((z.1, u).1.ports.length : Nat) : Int) ∧ sl a_ 42 = .bool false ∧ sl a_ 43 = .bool false ∧ S (kap W) ([]) ((memA W W.heap.size) :: []) w_) (fun a_ _ => z.1.ports.length - (intOf (sl a_ 6)).toNat) ?_ ?_
      · exact ⟨0, Nat.zero_le _, hz, hd, s0, s1, s4, s5, s6, s12, s13, s14, s18, s19, s20, s21, s22, s23, s24, s25, s26, s27, s28, s29, s30, s31, s32, s33, s34, s35, s36, s37, s38, s39, s40, s41, s42, s43, hS5⟩
      · clear hz hd s0 s1 s4 s5 s6 s12 s13 s14 s18 s19 s20 s21 s22 s23 s24 s25 s26 s27 s28 s29 s30 s31 s32 s33 s34 s35 s36 s37 s38 s39 s40 s41 s42 s43 hS5
        rintro a13 w13 ⟨j, hc2_0, hz, hd, s0, s1, s4, s5, s6, s12, s13, s14, s18, s19, s20, s21, s22, s23, s24, s25, s26, s27, s28, s29, s30, s31, s32, s33, s34, s35, s36, s37, s38, s39, s40, s41, s42, s43, hS13⟩
        have hmu2 := s6
        refine wp_seq ?_
        refine wp_seq ?_
        refine seq_l [] hz ?_
        refine ⟨i6 j, fun _ h_ => rmv (h_.b 6 s6),
         .slice A n c, fun _ h_ => rmv (h_.b 0 s0),
         i6 i, fun _ h_ => rmv (h_.b 5 s5), ?_⟩
        obtain ⟨b15, o15, z15, hA15, hb15, hz15, hq15⟩ := Reads.row_at sitC 2 sitC_len (k := i) (Reads.old hA (hS13.old (by simp))) (by decide) (by omega)
        obtain rfl : z = z15 := Option.some.inj (hz0.symm.trans hz15)
        refine ⟨pt b15 (o15 + i * 2), fun _ h_ => rk (run_indexV (size := 2) rfl (h_.d 1 45) hA15 (h_.d 2 46) (by kernel_rfl) (by omega) (by simp)),
         pt b15 (o15 + i * 2 + 1), fun _ h_ => rk (fa 1 rfl (h_.d 3 47)),
         .slice z.2.A z.1.ports.length z.2.c, fun _ h_ => rk (run_load rfl (h_.d 4 48) (by kernel_rfl) (show w13.cell? ⟨b15, o15 + i * 2 + 1, none⟩ = some (.slice z.2.A z.1.ports.length z.2.c) from hq15 1 _ rfl)),
         i6 z.1.ports.length, fun _ h_ => rk (run_lenS rfl (h_.d 5 49) (by kernel_rfl)),
         .bool (decide ((j : Int) < z.1.ports.length)), fun _ h_ => rk (run_cmp rfl (h_.d 0 44) (h_.d 6 50) rfl (by first | rfl | exact neq_dec _ _ | exact eq_dec _ _ | simp)), ?_⟩
        intro a14 hput
        replace s0 := hput.o 0 s0
        replace s1 := hput.o 1 s1
        replace s4 := hput.o 4 s4
        replace s5 := hput.o 5 s5
        replace s6 := hput.o 6 s6
        replace s12 := hput.o 12 s12
        replace s13 := hput.o 13 s13
        replace s14 := hput.o 14 s14
        replace s18 := hput.o 18 s18
        replace s19 := hput.o 19 s19
        replace s20 := hput.o 20 s20
        replace s21 := hput.o 21 s21
        replace s22 := hput.o 22 s22
        replace s23 := hput.o 23 s23
        replace s24 := hput.o 24 s24
        replace s25 := hput.o 25 s25
        replace s26 := hput.o 26 s26
        replace s27 := hput.o 27 s27
        replace s28 := hput.o 28 s28
        replace s29 := hput.o 29 s29
        replace s30 := hput.o 30 s30
        replace s31 := hput.o 31 s31
        replace s32 := hput.o 32 s32
        replace s33 := hput.o 33 s33
        replace s34 := hput.o 34 s34
        replace s35 := hput.o 35 s35
        replace s36 := hput.o 36 s36
        replace s37 := hput.o 37 s37
        replace s38 := hput.o 38 s38
        replace s39 := hput.o 39 s39
        replace s40 := hput.o 40 s40
        replace s41 := hput.o 41 s41
        replace s42 := hput.o 42 s42
        replace s43 := hput.o 43 s43
        have s44 : sl a14 44 = i6 j := hput.new 0 44 rfl
        have s45 : sl a14 45 = .slice A n c := hput.new 1 45 rfl
        have s46 : sl a14 46 = i6 i := hput.new 2 46 rfl
        have s47 : sl a14 47 = pt b15 (o15 + i * 2) := hput.new 3 47 rfl
        have s48 : sl a14 48 = pt b15 (o15 + i * 2 + 1) := hput.new 4 48 rfl
        have s49 : sl a14 49 = .slice z.2.A z.1.ports.length z.2.c := hput.new 5 49 rfl
        have s50 : sl a14 50 = i6 z.1.ports.length := hput.new 6 50 rfl
        have s51 : sl a14 51 = .bool (decide ((j : Int) < z.1.ports.length)) := hput.new 7 51 rfl
        replace hz := hput.size.trans hz
        replace hd := hput.defers.trans hd
        clear hput
        change Code.wp _ _ _ _ _
        refine wp_cond_d s51 (fun hc51 => ?_) (fun hc51 => ?_)
        · clear s51
          refine wp_skip ?_
          change Code.wp _ _ _ _ _
          refine wp_seq ?_
          refine wp_block ?_
          refine wp_seq ?_
          obtain ⟨p, hp0⟩ : ∃ p, z.1.ports[j]? = some p := ⟨_, List.getElem?_eq_getElem (by omega)⟩
          refine seq_r [[], [], [0, 1], [0, 1, 2], [0, 1, 2, 3], [], [0, 1, 2, 3, 4, 5], [0, 1, 2, 3, 4, 5, 6], [], [], [8, 9], [8, 9, 10], [8, 9, 10, 11], [], [8, 9, 10, 11, 12, 13], [8, 9, 10, 11, 12, 13, 14], [0, 1, 2, 3, 4, 5, 6, 7, 8, 9, 10, 11, 12, 13, 14, 15]] [] (.rd 0 (.rd 1 (.rd 2 (.rd 3 (.rd 4 (.rd 5 (.rd 6 (.rd 7 (.rd 8 (.rd 9 (.rd 10 (.rd 11 (.rd 12 (.rd 13 (.rd 14 (.rd 15 (.rd 16 (.fin)))))))))))))))))) hz fun w16 hb16 => ?_
          replace hS13 := hS13.below hb16
          refine ⟨.slice A n c, fun _ h_ => rmv (h_.b 0 s0),
           i6 i, fun _ h_ => rmv (h_.b 5 s5), ?_⟩
          obtain ⟨b17, o17, z17, hA17, hb17, hz17, hq17⟩ := Reads.row_at sitC 2 sitC_len (k := i) (Reads.old hA (hS13.old (by simp))) (by decide) (by omega)
          obtain rfl : z = z17 := Option.some.inj (hz0.symm.trans hz17)
          refine ⟨pt b17 (o17 + i * 2), fun _ h_ => rk (run_indexV (size := 2) rfl (h_.d 0 54) hA17 (h_.d 1 55) (by kernel_rfl) (by omega) (by simp)),
           pt b17 (o17 + i * 2 + 1), fun _ h_ => rk (fa 1 rfl (h_.d 2 56)),
           .slice z.2.A z.1.ports.length z.2.c, fun _ h_ => rk (run_load rfl (h_.d 3 57) (by kernel_rfl) (show w16.cell? ⟨b17, o17 + i * 2 + 1, none⟩ = some (.slice z.2.A z.1.ports.length z.2.c) from hq17 1 _ rfl)),
           i6 j, fun _ h_ => rmv (h_.b 6 s6), ?_⟩
          obtain ⟨b18, o18, z18, hA18, hb18, hz18, hq18⟩ := Reads.row_at PtV.cells 3 PtV.cells_len (k := j) (Reads.old hrz (hS13.old (by simp))) (by decide) (by omega)
          obtain rfl : p = z18 := Option.some.inj (hp0.symm.trans hz18)
          refine ⟨pt b18 (o18 + j * 3), fun _ h_ => rk (run_indexV (size := 3) rfl (h_.d 4 58) hA18 (h_.d 5 59) (by kernel_rfl) (by omega) (by simp)),
           .agg #[i6 p.lan, i6 p.prio, i6 p.cost], fun _ h_ => rk (run_loadV (size := 3) (cs := PtV.cells p) rfl (h_.d 6 60) (by kernel_rfl) rfl hq18),
           .slice B n d, fun _ h_ => rmv (h_.b 1 s1),
           i6 i, fun _ h_ => rmv (h_.b 5 s5), ?_⟩
          obtain ⟨b19, o19, z19, hA19, hb19, hz19, hq19⟩ := Reads.row_at sitC 2 sitC_len (k := i) (Reads.old hB (hS13.old (by simp))) (by decide) (by omega)
          obtain rfl : (z.1, u) = z19 := Option.some.inj (hu0.symm.trans hz19)
          refine ⟨pt b19 (o19 + i * 2), fun _ h_ => rk (run_indexV (size := 2) rfl (h_.d 8 62) hA19 (h_.d 9 63) (by kernel_rfl) (by omega) (by simp)),
           pt b19 (o19 + i * 2 + 1), fun _ h_ => rk (fa 1 rfl (h_.d 10 64)),
           .slice ((z.1, u).2.A) ((z.1, u).1.ports.length) ((z.1, u).2.c), fun _ h_ => rk (run_load rfl (h_.d 11 65) (by kernel_rfl) (show w16.cell? ⟨b19, o19 + i * 2 + 1, none⟩ = some (.slice ((z.1, u).2.A) ((z.1, u).1.ports.length) ((z.1, u).2.c)) from hq19 1 _ rfl)),
           i6 j, fun _ h_ => rmv (h_.b 6 s6), ?_⟩
          obtain ⟨b20, o20, z20, hA20, hb20, hz20, hq20⟩ := Reads.row_at PtV.cells 3 PtV.cells_len (k := j) (Reads.old hru (hS13.old (by simp))) (by decide) (by omega)
          obtain rfl : p = z20 := Option.some.inj (hp0.symm.trans hz20)
          refine ⟨pt b20 (o20 + j * 3), fun _ h_ => rk (run_indexV (size := 3) rfl (h_.d 12 66) hA20 (h_.d 13 67) (by kernel_rfl) (by omega) (by simp)),
           .agg #[i6 p.lan, i6 p.prio, i6 p.cost], fun _ h_ => rk (run_loadV (size := 3) (cs := PtV.cells p) rfl (h_.d 14 68) (by kernel_rfl) rfl hq20),
           .bool false, fun _ h_ => rk (run_bin2 rfl (h_.d 7 61) (h_.d 15 69) (fun _ => by kernel_rfl) (neq_port p)), ?_⟩
          intro a16 hput
          replace s0 := hput.o 0 s0
          replace s1 := hput.o 1 s1
          replace s4 := hput.o 4 s4
          replace s5 := hput.o 5 s5
          replace s6 := hput.o 6 s6
          replace s12 := hput.o 12 s12
          replace s13 := hput.o 13 s13
          replace s14 := hput.o 14 s14
          replace s18 := hput.o 18 s18
          replace s19 := hput.o 19 s19
          replace s20 := hput.o 20 s20
          replace s21 := hput.o 21 s21
          replace s22 := hput.o 22 s22
          replace s23 := hput.o 23 s23
          replace s24 := hput.o 24 s24
          replace s25 := hput.o 25 s25
          replace s26 := hput.o 26 s26
          replace s27 := hput.o 27 s27
          replace s28 := hput.o 28 s28
          replace s29 := hput.o 29 s29
          replace s30 := hput.o 30 s30
          replace s31 := hput.o 31 s31
          replace s32 := hput.o 32 s32
          replace s33 := hput.o 33 s33
          replace s34 := hput.o 34 s34
          replace s35 := hput.o 35 s35
          replace s36 := hput.o 36 s36
          replace s37 := hput.o 37 s37
          replace s38 := hput.o 38 s38
          replace s39 := hput.o 39 s39
          replace s40 := hput.o 40 s40
          replace s41 := hput.o 41 s41
          replace s42 := hput.o 42 s42
          replace s43 := hput.o 43 s43
          replace s44 := hput.o 44 s44
          replace s45 := hput.o 45 s45
          replace s46 := hput.o 46 s46
          replace s47 := hput.o 47 s47
          replace s48 := hput.o 48 s48
          replace s49 := hput.o 49 s49
          replace s50 := hput.o 50 s50
          have s54 : sl a16 54 = .slice A n c := hput.new 0 54 rfl
          have s55 : sl a16 55 = i6 i := hput.new 1 55 rfl
          have s56 : sl a16 56 = pt b17 (o17 + i * 2) := hput.new 2 56 rfl
          have s57 : sl a16 57 = pt b17 (o17 + i * 2 + 1) := hput.new 3 57 rfl
          have s58 : sl a16 58 = .slice z.2.A z.1.ports.length z.2.c := hput.new 4 58 rfl
          have s59 : sl a16 59 = i6 j := hput.new 5 59 rfl
          have s60 : sl a16 60 = pt b18 (o18 + j * 3) := hput.new 6 60 rfl
          have s61 : sl a16 61 = .agg #[i6 p.lan, i6 p.prio, i6 p.cost] := hput.new 7 61 rfl
          have s62 : sl a16 62 = .slice B n d := hput.new 8 62 rfl
          have s63 : sl a16 63 = i6 i := hput.new 9 63 rfl
          have s64 : sl a16 64 = pt b19 (o19 + i * 2) := hput.new 10 64 rfl
          have s65 : sl a16 65 = pt b19 (o19 + i * 2 + 1) := hput.new 11 65 rfl
          have s66 : sl a16 66 = .slice ((z.1, u).2.A) ((z.1, u).1.ports.length) ((z.1, u).2.c) := hput.new 12 66 rfl
          have s67 : sl a16 67 = i6 j := hput.new 13 67 rfl
          have s68 : sl a16 68 = pt b20 (o20 + j * 3) := hput.new 14 68 rfl
          have s69 : sl a16 69 = .agg #[i6 p.lan, i6 p.prio, i6 p.cost] := hput.new 15 69 rfl
          have s70 : sl a16 70 = .bool false := hput.new 16 70 rfl
          replace hz := hput.size.trans hz
          replace hd := hput.defers.trans hd
          clear hput
          change Code.wp _ _ _ _ _
          refine wp_cond_false s70 ?_
          refine wp_skip ?_
          change Code.wp _ _ _ _ _
          refine seq_l [] hz ?_
          refine ⟨i6 j, fun _ h_ => rmv (h_.b 6 s6),
           i6 (j + 1), fun _ h_ => rk (run_addI rfl (h_.d 0 52) rfl (by omega) rfl),
           i6 (j + 1), fun _ h_ => ras (h_.d 1 53), ?_⟩
          intro a21 hput
          replace s0 := hput.o 0 s0
          replace s1 := hput.o 1 s1
          replace s4 := hput.o 4 s4
          replace s5 := hput.o 5 s5
          replace s6 : sl a21 6 = i6 (j + 1) := hput.new 2 6 rfl
          replace s12 := hput.o 12 s12
          replace s13 := hput.o 13 s13
          replace s14 := hput.o 14 s14
          replace s18 := hput.o 18 s18
          replace s19 := hput.o 19 s19
          replace s20 := hput.o 20 s20
          replace s21 := hput.o 21 s21
          replace s22 := hput.o 22 s22
          replace s23 := hput.o 23 s23
          replace s24 := hput.o 24 s24
          replace s25 := hput.o 25 s25
          replace s26 := hput.o 26 s26
          replace s27 := hput.o 27 s27
          replace s28 := hput.o 28 s28
          replace s29 := hput.o 29 s29
          replace s30 := hput.o 30 s30
          replace s31 := hput.o 31 s31
          replace s32 := hput.o 32 s32
          replace s33 := hput.o 33 s33
          replace s34 := hput.o 34 s34
          replace s35 := hput.o 35 s35
          replace s36 := hput.o 36 s36
          replace s37 := hput.o 37 s37
          replace s38 := hput.o 38 s38
          replace s39 := hput.o 39 s39
          replace s40 := hput.o 40 s40
          replace s41 := hput.o 41 s41
          replace s42 := hput.o 42 s42
          replace s43 := hput.o 43 s43
          replace s44 := hput.o 44 s44
          replace s45 := hput.o 45 s45
          replace s46 := hput.o 46 s46
          replace s47 := hput.o 47 s47
          replace s48 := hput.o 48 s48
          replace s49 := hput.o 49 s49
          replace s50 := hput.o 50 s50
          have s52 : sl a21 52 = i6 j := hput.new 0 52 rfl
          have s53 : sl a21 53 = i6 (j + 1) := hput.new 1 53 rfl
          replace s54 := hput.o 54 s54
          replace s55 := hput.o 55 s55
          replace s56 := hput.o 56 s56
          replace s57 := hput.o 57 s57
          replace s58 := hput.o 58 s58
          replace s59 := hput.o 59 s59
          replace s60 := hput.o 60 s60
          replace s61 := hput.o 61 s61
          replace s62 := hput.o 62 s62
          replace s63 := hput.o 63 s63
          replace s64 := hput.o 64 s64
          replace s65 := hput.o 65 s65
          replace s66 := hput.o 66 s66
          replace s67 := hput.o 67 s67
          replace s68 := hput.o 68 s68
          replace s69 := hput.o 69 s69
          replace s70 := hput.o 70 s70
          replace hz := hput.size.trans hz
          replace hd := hput.defers.trans hd
          clear hput
          refine ⟨⟨j + 1, by omega, hz, hd, s0, s1, s4, s5, s6, s12, s13, s14, s18, s19, s20, s21, s22, s23, s24, s25, s26, s27, s28, s29, s30, s31, s32, s33, s34, s35, s36, s37, s38, s39, s40, s41, s42, s43, hS13⟩, ?_⟩
          show z.1.ports.length - (intOf (sl a21 6)).toNat < z.1.ports.length - (intOf (sl a13 6)).toNat
          rw [show sl a21 6 = _ from s6, show sl a13 6 = _ from hmu2]
          simp only [intOf]
          omega
        · clear s51
          refine wp_exit ?_
          change Code.wp _ _ _ _ _
          refine seq_l [] hz ?_
          refine ⟨i6 i, fun _ h_ => rmv (h_.b 5 s5),
           i6 (i + 1), fun _ h_ => rk (run_addI rfl (h_.d 0 16) rfl (by omega) rfl),
           i6 (i + 1), fun _ h_ => ras (h_.d 1 17), ?_⟩
          intro a22 hput
          replace s0 := hput.o 0 s0
          replace s1 := hput.o 1 s1
          replace s4 := hput.o 4 s4
          replace s5 : sl a22 5 = i6 (i + 1) := hput.new 2 5 rfl
          replace s6 := hput.o 6 s6
          replace s12 := hput.o 12 s12
          replace s13 := hput.o 13 s13
          replace s14 := hput.o 14 s14
          have s16 : sl a22 16 = i6 i := hput.new 0 16 rfl
          have s17 : sl a22 17 = i6 (i + 1) := hput.new 1 17 rfl
          replace s18 := hput.o 18 s18
          replace s19 := hput.o 19 s19
          replace s20 := hput.o 20 s20
          replace s21 := hput.o 21 s21
          replace s22 := hput.o 22 s22
          replace s23 := hput.o 23 s23
          replace s24 := hput.o 24 s24
          replace s25 := hput.o 25 s25
          replace s26 := hput.o 26 s26
          replace s27 := hput.o 27 s27
          replace s28 := hput.o 28 s28
          replace s29 := hput.o 29 s29
          replace s30 := hput.o 30 s30
          replace s31 := hput.o 31 s31
          replace s32 := hput.o 32 s32
          replace s33 := hput.o 33 s33
          replace s34 := hput.o 34 s34
          replace s35 := hput.o 35 s35
          replace s36 := hput.o 36 s36
          replace s37 := hput.o 37 s37
          replace s38 := hput.o 38 s38
          replace s39 := hput.o 39 s39
          replace s40 := hput.o 40 s40
          replace s41 := hput.o 41 s41
          replace s42 := hput.o 42 s42
          replace s43 := hput.o 43 s43
          replace s44 := hput.o 44 s44
          replace s45 := hput.o 45 s45
          replace s46 := hput.o 46 s46
          replace s47 := hput.o 47 s47
          replace s48 := hput.o 48 s48
          replace s49 := hput.o 49 s49
          replace s50 := hput.o 50 s50
          replace hz := hput.size.trans hz
          replace hd := hput.defers.trans hd
          clear hput
          refine ⟨⟨i + 1, by omega, hz, hd, s0, s1, s4, s5, hS13⟩, ?_⟩
          show n - (intOf (sl a22 5)).toNat < n - (intOf (sl a5 5)).toNat
          rw [show sl a22 5 = _ from s5, show sl a5 5 = _ from hmu0]
          simp only [intOf]
          omega
    · clear s15
      refine wp_exit ?_
      change Code.wp _ _ _ _ _
      refine wp_seq ?_
      refine seq_l [] hz ?_
      refine ⟨.bool true, fun _ h_ => rk (run_assign rfl rfl), ?_⟩
      intro a23 hput
      replace s4 : sl a23 4 = .bool true := hput.new 0 4 rfl
      replace hz := hput.size.trans hz
      replace hd := hput.defers.trans hd
      clear hput s0 s1 s5 s12 s13 s14
      change Code.wp _ _ _ _ _
      refine wp_ret ?_
      refine ret1 (P := Try.prog) (fn := Try.f15) hd s4 (hR_ _ _ ?_)
      exact ⟨rfl, (hS5.old (by simp))⟩
set_option maxRecDepth 100000 in
set_option maxHeartbeats 800000 in
theorem get_any (A : Option Addr) (n c : Nat) (bs : List Int) (W : World) (hn : n ≤ 1000) (hnc : n ≤ c) (hcap : c ≤ 9223372036854775807) (hr : Reads W W.heap.size 1 A n (u8s bs)) (hby : ∀ z ∈ bs, 0 ≤ z ∧ z < 256) :
    Calls Try.prog 47 #[.slice A n c] W (fun r w' => ∃ B d, r = .returned (.slice B (n / 4) d) ∧ w'.ownsRow W.heap.size 91 4 (.slice B (n / 4) d) (n / 4) (rowC EntV.cells (getF bs (n / 4))) ∧ Below W.heap.size W w') := by
  obtain ⟨b, off, hAb⟩ : ∃ b off, 0 < n → A = some ⟨b, off, none⟩ ∧ b < W.heap.size := by
    rcases Nat.eq_zero_or_pos n with h0 | h0
    · exact ⟨0, 0, fun h => absurd h (by omega)⟩
    · obtain ⟨b, off, h1, h2, _⟩ := hr.2 h0
      exact ⟨b, off, fun _ => ⟨h1, h2⟩⟩
  have hS := S.start W
  refine calls_walkM Try.func47 rfl fun R_ hR_ a hz hd hargs => ?_
  replace hz : a.tmps.size = 30 := hz.trans (by kernel_rfl)
  have s0 := hargs 0 _ rfl
  clear hargs
  refine wp_seq ?_
  refine seq_l [] hz ?_
  refine ⟨.slice none 0 0, fun _ h_ => rk (run_assign rfl rfl), ?_⟩
  intro a2 hput
  replace s0 := hput.o 0 s0
  have s2 : sl a2 2 = .slice none 0 0 := hput.new 0 2 rfl
  replace hz := hput.size.trans hz
  replace hd := hput.defers.trans hd
  clear hput
  change Code.wp _ _ _ _ _
  refine wp_seq ?_
  refine seq_l [0] hz ?_
  refine ⟨fun a_ h_ => st_alloc (cells := #[.slice none 0 0]) hS (on_none rfl) rfl (by kernel_rfl) fun g4 w4 hS4 hb4 => ⟨_, rfl, ?_⟩, trivial⟩
  clear h_ a_ hS
  clear hb4
  intro a3 hput
  replace s0 := hput.o 0 s0
  replace s2 := hput.o 2 s2
  have s3 : sl a3 3 = pt g4 0 := hput.new 0 3 rfl
  replace hz := hput.size.trans hz
  replace hd := hput.defers.trans hd
  clear hput
  change Code.wp _ _ _ _ _
  refine wp_seq ?_
  refine wp_seq ?_
  have hSn := hS4.nilrow 91 4
  replace hSn := hSn.front (i := 1) rfl
  have hSg := get_close (bs := bs) (k := 0) hSn
  clear hS4 hSn
  obtain ⟨G, hG⟩ : ∃ G, G = g4 := ⟨_, rfl⟩
  rw [← hG] at hSg s3
  clear hG
  replace hSg : S (kap W) ((getA G bs 0) :: []) ((memA W W.heap.size) :: []) w4 := hSg
  refine seq_l [1] hz ?_
  refine ⟨.slice A n c, fun _ h_ => rmv (h_.b 0 s0), ?_⟩
  have hSp := hSg
  clear hSg
  refine ⟨fun a_ h_ => st_call (on_none rfl) (run_call rfl (map2 (h_.d 0 5) rfl) rfl) (cuts2_any (κ := kap W) A n c 4 _ hSp) ?_, trivial⟩
  rintro e_ w6 ⟨Bb6, Bn6, rfl, hS6⟩
  refine ⟨_, rfl, _, rfl, ?_⟩
  clear h_ a_ hSp
  replace hS6 : S (kap W) ((blkA Bn6 3 #[i6 4]) :: (blkA Bb6 42 #[.slice A n c]) :: (getA G bs 0) :: []) ((memA W W.heap.size) :: []) w6 := hS6
  intro a5 hput
  replace s2 := hput.o 2 s2
  replace s3 := hput.o 3 s3
  have s6 : sl a5 6 = .func (.func 78) #[] #[pt Bb6 0, pt Bn6 0] := hput.new 1 6 rfl
  replace hz := hput.size.trans hz
  replace hd := hput.defers.trans hd
  clear hput s0
  change Code.wp _ _ _ _ _
  refine wp_block ?_
  replace hS6 := hS6.front (i := 1) rfl
  replace hS6 := hS6.front (i := 2) rfl
  replace hS6 : S (kap W) ((getA G bs 0) :: (blkA Bb6 42 #[.slice A n c]) :: (blkA Bn6 3 #[i6 4]) :: []) ((memA W W.heap.size) :: []) w6 := hS6
  refine wp_cuts (κ := kap W) (L := ([])) 9 Bb6 Bn6 b off n c 4 A (by omega) (by omega) hnc hcap (fun h => (hAb h).1) s6 (by rw [hz]; decide) (fun k => getA G bs k) hS6 (fun k a_ => a_.tmps.size = 30 ∧ a_.defers = [] ∧ sl a_ 3 = pt G 0 ∧ sl a_ 4 = .slice (some ⟨b, off + k * 4, none⟩) 4 (c - k * 4)) ?_ ?_ ?_
  · intro lp k W1 K_ a1 hz1 hd1 hp1 ho1 hK
    have hz : a1.tmps.size = 30 := hz1.trans hz
    have hd := hd1
    have sv7 : sl a1 7 = _ := hp1
    have s3v : sl a1 3 = pt G 0 := (ho1 3 (by decide)).trans s3
    clear s6
    refine seq_lIn [] hz ?_ (by rintro ⟨_, _, h⟩; exact h)
    refine ⟨_, fun _ h_ => rk (run_assign rfl (h_.b 7 sv7)), ?_⟩
    intro a2 hput
    exact hK _ ⟨hput.size.trans hz, hput.defers.trans hd, hput.o 3 s3v, hput.new 0 4 rfl⟩
  · clear hz hd s2 s3 s6 hS6
    rintro lp k W1 M a3 ⟨hz, hd, s3, s4⟩ hlk hSb
    have hkN : k * 4 + 4 ≤ n := by omega
    obtain ⟨hA1, hbW⟩ := hAb (by omega)
    subst hA1
    have hbl : bs.length = n := u8s_of2 hr
    have e0 : bs[k * 4]? = some (bs.getD (k * 4) 0) := getD_some (by omega)
    have hc0 := (u8_cell hr (by omega) e0).2
    have hy0 := hby _ (List.mem_of_getElem? e0)
    have e1 : bs[k * 4 + 1]? = some (bs.getD (k * 4 + 1) 0) := getD_some (by omega)
    have hc1 := (u8_cell hr (by omega) e1).2
    have hy1 := hby _ (List.mem_of_getElem? e1)
    have e2 : bs[k * 4 + 2]? = some (bs.getD (k * 4 + 2) 0) := getD_some (by omega)
    have hc2 := (u8_cell hr (by omega) e2).2
    have hy2 := hby _ (List.mem_of_getElem? e2)
    have e3 : bs[k * 4 + 3]? = some (bs.getD (k * 4 + 3) 0) := getD_some (by omega)
    have hc3 := (u8_cell hr (by omega) e3).2
    have hy3 := hby _ (List.mem_of_getElem? e3)
    clear e0 e1 e2 e3
    replace hc0 : W.cell? ⟨b, off + k * 4, none⟩ = some (.int .u8 (bs.getD (k * 4) 0)) := hc0
    refine wpIn_block ?_
    obtain ⟨v, hSo⟩ := get_open hSb
    clear hSb
    have hSb : S (kap W) ((blkA G 88 #[.slice v.A k v.c]) :: (rowA (.slice v.A k v.c) 91 4 k (rowC EntV.cells (getF bs k))) :: M) ((memA W W.heap.size) :: []) W1 := hSo
    clear hSo
    refine seq_rIn [[], [], [1], [1, 2], [1, 2, 3], [1, 2, 3, 4], [], [6], [6, 7], [6, 7, 8], [], [10], [10, 11], [10, 11, 12], [], [14], [14, 15], [14, 15, 16], [1, 2, 3, 4, 5, 6, 7, 8, 9, 10, 11, 12, 13, 14, 15, 16, 17], [1, 2, 3, 4, 5, 6, 7, 8, 9, 10, 11, 12, 13, 14, 15, 16, 17, 18], [0, 1, 2, 3, 4, 5, 6, 7, 8, 9, 10, 11, 12, 13, 14, 15, 16, 17, 18, 19], [0, 1, 2, 3, 4, 5, 6, 7, 8, 9, 10, 11, 12, 13, 14, 15, 16, 17, 18, 19, 20]] [19, 20, 21] (.rd 0 (.rd 1 (.rd 2 (.rd 3 (.rd 4 (.rd 5 (.rd 6 (.rd 7 (.rd 8 (.rd 9 (.rd 10 (.rd 11 (.rd 12 (.rd 13 (.rd 14 (.rd 15 (.rd 16 (.rd 17 (.rd 18 (.ef 19 (.ag 0 (.ef 20 (.ef 21 (.fin) .non) .non)) .non)))))))))))))))))))) hz fun w7 hb7 => ?_
    replace hSb := hSb.below hb7
    refine ⟨.slice v.A k v.c, fun _ h_ => rk (ld hSb 0 rfl (h_.b 3 s3)),
     .slice (some ⟨b, off + k * 4, none⟩) 4 (c - k * 4), fun _ h_ => rmv (h_.b 4 s4),
     pt b (off + k * 4), fun _ h_ => rk (run_indexV (size := 1) rfl (h_.d 1 9) rfl rfl (by kernel_rfl) (by omega) (by simp)),
     .int .u8 (bs.getD (k * 4) 0), fun _ h_ => rk (run_load rfl (h_.d 2 10) (by kernel_rfl) (((hSb.old (by simp)).cell hbW).trans hc0)),
     i6 (bs.getD (k * 4) 0), fun _ h_ => rk (run_conv rfl (h_.d 3 11) (by kernel_rfl) (wrap_i64 (by omega)) (by kernel_rfl)),
     i6 (bs.getD (k * 4) 0 % 11), fun _ h_ => rk (run_bin rfl (h_.d 4 12) rfl (by show (pure _ : Sem Value) = pure _; exact congrArg _ (congrArg _ (Int.tmod_eq_emod_of_nonneg (by omega))))),
     .slice (some ⟨b, off + k * 4, none⟩) 4 (c - k * 4), fun _ h_ => rmv (h_.b 4 s4),
     pt b (off + k * 4 + 1), fun _ h_ => rk (run_indexV (size := 1) rfl (h_.d 6 14) rfl rfl (by kernel_rfl) (by omega) (by simp)),
     .int .u8 (bs.getD (k * 4 + 1) 0), fun _ h_ => rk (run_load rfl (h_.d 7 15) (by kernel_rfl) ((((hSb.old (by simp)).cell hbW).trans (by rw [Nat.add_assoc]; exact hc1)))),
     i6 (bs.getD (k * 4 + 1) 0), fun _ h_ => rk (run_conv rfl (h_.d 8 16) (by kernel_rfl) (wrap_i64 (by omega)) (by kernel_rfl)),
     .slice (some ⟨b, off + k * 4, none⟩) 4 (c - k * 4), fun _ h_ => rmv (h_.b 4 s4),
     pt b (off + k * 4 + 2), fun _ h_ => rk (run_indexV (size := 1) rfl (h_.d 10 18) rfl rfl (by kernel_rfl) (by omega) (by simp)),
     .int .u8 (bs.getD (k * 4 + 2) 0), fun _ h_ => rk (run_load rfl (h_.d 11 19) (by kernel_rfl) ((((hSb.old (by simp)).cell hbW).trans (by rw [Nat.add_assoc]; exact hc2)))),
     i6 (bs.getD (k * 4 + 2) 0), fun _ h_ => rk (run_conv rfl (h_.d 12 20) (by kernel_rfl) (wrap_i64 (by omega)) (by kernel_rfl)),
     .slice (some ⟨b, off + k * 4, none⟩) 4 (c - k * 4), fun _ h_ => rmv (h_.b 4 s4),
     pt b (off + k * 4 + 3), fun _ h_ => rk (run_indexV (size := 1) rfl (h_.d 14 22) rfl rfl (by kernel_rfl) (by omega) (by simp)),
     .int .u8 (bs.getD (k * 4 + 3) 0), fun _ h_ => rk (run_load rfl (h_.d 15 23) (by kernel_rfl) ((((hSb.old (by simp)).cell hbW).trans (by rw [Nat.add_assoc]; exact hc3)))),
     i6 (bs.getD (k * 4 + 3) 0), fun _ h_ => rk (run_conv rfl (h_.d 16 24) (by kernel_rfl) (wrap_i64 (by omega)) (by kernel_rfl)),
     .agg #[i6 (bs.getD (k * 4) 0 % 11), i6 (bs.getD (k * 4 + 1) 0), i6 (bs.getD (k * 4 + 2) 0), i6 (bs.getD (k * 4 + 3) 0)], fun _ h_ => rk (run_build (vals := #[(0, i6 (bs.getD (k * 4) 0 % 11)), (1, i6 (bs.getD (k * 4 + 1) 0)), (2, i6 (bs.getD (k * 4 + 2) 0)), (3, i6 (bs.getD (k * 4 + 3) 0))]) (r := .agg #[i6 (bs.getD (k * 4) 0 % 11), i6 (bs.getD (k * 4 + 1) 0), i6 (bs.getD (k * 4 + 2) 0), i6 (bs.getD (k * 4 + 3) 0)]) rfl (bp4 (h_.d 5 13) (h_.d 9 17) (h_.d 13 21) (h_.d 17 25)) (by kernel_rfl)), ?_⟩
    refine ⟨fun a_ h_ => st_lit (e := 91) (vals := [(0, .agg #[i6 (bs.getD (k * 4) 0 % 11), i6 (bs.getD (k * 4 + 1) 0), i6 (bs.getD (k * 4 + 2) 0), i6 (bs.getD (k * 4 + 3) 0)])]) (cells := #[i6 (bs.getD (k * 4) 0 % 11), i6 (bs.getD (k * 4 + 1) 0), i6 (bs.getD (k * 4 + 2) 0), i6 (bs.getD (k * 4 + 3) 0)]) hSb (on_none rfl) rfl (parts1 (h_.d 18 26)) fun g8 w8 hS8 hb8 => ⟨_, rfl, ?_⟩, trivial⟩
    clear h_ a_ hSb
    clear hb8
    refine ⟨fun _ h_ => rk (ld hS8 1 rfl (h_.b 3 s3)), ?_⟩
    refine ⟨fun a_ h_ => sap (bytes := 32) (news := [i6 (bs.getD (k * 4) 0 % 11), i6 (bs.getD (k * 4 + 1) 0), i6 (bs.getD (k * 4 + 2) 0), i6 (bs.getD (k * 4 + 3) 0)]) hS8 2 (on_none rfl) rfl (h_.d 0 8) (h_.d 19 27) (reads_blk (hS8.blk (i := 0) rfl) rfl) (by simp [Value.oneCell']) (by (try unfold maxLen); omega) (by (try unfold maxLen); omega) fun A9 c9 w9 hS9 => ⟨_, rfl, ?_⟩, trivial⟩
    clear h_ a_ hS8
    replace hS9 : S (kap W) ((blkA g8 91 #[i6 (bs.getD (k * 4) 0 % 11), i6 (bs.getD (k * 4 + 1) 0), i6 (bs.getD (k * 4 + 2) 0), i6 (bs.getD (k * 4 + 3) 0)]) :: (blkA G 88 #[.slice v.A k v.c]) :: (rowA (.slice A9 (k + 1) c9) 91 4 (k + 1) (rowC EntV.cells (getF bs k) ++ [i6 (bs.getD (k * 4) 0 % 11), i6 (bs.getD (k * 4 + 1) 0), i6 (bs.getD (k * 4 + 2) 0), i6 (bs.getD (k * 4 + 3) 0)])) :: M) ((memA W W.heap.size) :: []) w9 := hS9
    refine ⟨fun a_ h_ => st_store (n := 1) (cells := #[.slice A9 (k + 1) c9]) (cs' := #[.slice A9 (k + 1) c9]) 1 hS9 rfl (on_none rfl) rfl (h_.b 3 s3) (h_.d 20 28) rfl (by kernel_rfl) ⟨Nat.le_of_ble_eq_true rfl, rfl, by kernel_rfl⟩ rfl fun w10 hS10 he10 => ⟨_, rfl, ?_⟩, trivial⟩
    clear h_ a_ he10 hS9
    replace hS10 : S (kap W) ((blkA g8 91 #[i6 (bs.getD (k * 4) 0 % 11), i6 (bs.getD (k * 4 + 1) 0), i6 (bs.getD (k * 4 + 2) 0), i6 (bs.getD (k * 4 + 3) 0)]) :: (blkA G 88 #[.slice A9 (k + 1) c9]) :: (rowA (.slice A9 (k + 1) c9) 91 4 (k + 1) (rowC EntV.cells (getF bs k) ++ [i6 (bs.getD (k * 4) 0 % 11), i6 (bs.getD (k * 4 + 1) 0), i6 (bs.getD (k * 4 + 2) 0), i6 (bs.getD (k * 4 + 3) 0)])) :: M) ((memA W W.heap.size) :: []) w10 := hS10
    intro a7 hput
    replace hz := hput.size.trans hz
    replace hd := hput.defers.trans hd
    clear hput s3 s4
    replace hS10 := hS10.drop
    replace hS10 := hS10.front (i := 1) rfl
    replace hS10 := hS10.front (i := 1) rfl
    replace hS10 : S (kap W) ((blkA G 88 #[.slice A9 (k + 1) c9]) :: (rowA (.slice A9 (k + 1) c9) 91 4 (k + 1) (rowC EntV.cells (getF bs k) ++ [i6 (bs.getD (k * 4) 0 % 11), i6 (bs.getD (k * 4 + 1) 0), i6 (bs.getD (k * 4 + 2) 0), i6 (bs.getD (k * 4 + 3) 0)])) :: M) ((memA W W.heap.size) :: []) w10 := hS10
    exact ⟨rfl, get_more hS10⟩
  · intro D k W1 hk1 hk2 hSd
    have hz2 := hz
    clear hz
    generalize ha2 : ({ a5 with defers := { target := .collected D, args := #[] } :: a5.defers } : Act) = a9
    have hz : a9.tmps.size = 30 := by rw [← ha2]; exact hz2
    have hdm : a9.defers = [{ target := .collected D, args := #[] }] := by rw [← ha2, ← hd]
    replace hd := hdm
    clear hdm
    replace s2 : sl a9 2 = .slice none 0 0 := by rw [← ha2]; exact s2
    replace s3 : sl a9 3 = pt G 0 := by rw [← ha2]; exact s3
    replace s6 : sl a9 6 = .func (.func 78) #[] #[pt Bb6 0, pt Bn6 0] := by rw [← ha2]; exact s6
    clear ha2 hz2
    obtain rfl : n / 4 = k := by omega
    replace hSd : S (kap W) ((getA G bs (n / 4)) :: (objA D (.deferred (some []))) :: []) ((memA W W.heap.size) :: []) W1 := hSd
    change Code.wp _ _ _ _ _
    refine wp_seq ?_
    obtain ⟨v, hSo⟩ := get_open (hSd.front (i := 0) rfl)
    clear hSd
    replace hSo : S (kap W) ((blkA G 88 #[.slice v.A (n / 4) v.c]) :: (rowA (.slice v.A (n / 4) v.c) 91 4 (n / 4) (rowC EntV.cells (getF bs (n / 4)))) :: (objA D (.deferred (some []))) :: []) ((memA W W.heap.size) :: []) W1 := hSo
    refine seq_l [] hz ?_
    refine ⟨.slice v.A (n / 4) v.c, fun _ h_ => rk (ld hSo 0 rfl (h_.b 3 s3)),
     .slice v.A (n / 4) v.c, fun _ h_ => ras (h_.d 0 29), ?_⟩
    intro a11 hput
    replace s2 : sl a11 2 = .slice v.A (n / 4) v.c := hput.new 1 2 rfl
    replace hz := hput.size.trans hz
    replace hd := hput.defers.trans hd
    clear hput s3 s6
    change Code.wp _ _ _ _ _
    refine wp_ret ?_
    have hSf := hSo.putObj 2 (.deferred none) rfl
    refine ret1M (P := Try.prog) (fn := Try.f47) hd (hSo.obj (i := 2) rfl) s2 (hR_ _ _ ?_)
    exact ⟨_, _, rfl, hSf.rowBase (i := 1) rfl (by simp : memA W W.heap.size ∈ _), (hSf.old (by simp))⟩
end Go.Proofs.Ytdenfgnkbfbpmaa
