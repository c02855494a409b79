/-
  The reference's bytes of a description.
-/
import Derived.Test.YtdenfgnkbfbpmaaRef03
import Derived.Test.YtdenfgnkbfbpmaaRef04b
import Derived.Test.YtdenfgnkbfbpmaaBytes
import Derived.Test.YtdenfgnkbfbpmaaSeal
import Derived.Test.YtdenfgnkbfbpmaaRight
namespace Go.Proofs.Ytdenfgnkbfbpmaa
open Go.RowKit
set_option linter.unusedSimpArgs false
set_option linter.unusedVariables false


theorem Reads.cutU {w : World} {B n c l h : Nat} {A : Option Addr} {bs : List Int} (hr : Reads w B 1 A n (u8s bs)) (h1 : l ≤ h) (h2 : h ≤ n) (h3 : n ≤ c) : Reads w B 1 (cutA A l c 1) (h - l) (u8s ((bs.drop l).take (h - l))) := by
  have := hr.cut (l := l) (h := h) h1 h2 h3
  rw [u8s_take, u8s_drop]
  simpa using this
theorem Reads.cutT {w : World} {B n c l : Nat} {A : Option Addr} {bs : List Int} (hr : Reads w B 1 A n (u8s bs)) (h1 : l ≤ n) (h3 : n ≤ c) : Reads w B 1 (cutA A l c 1) (n - l) (u8s (bs.drop l)) := by
  have := hr.cutU (l := l) (h := n) h1 (Nat.le_refl _) h3
  rwa [List.take_of_length_le (by rw [List.length_drop, u8s_of hr]; exact Nat.le_refl _)] at this
/-- the part ahead of the members -/
def pre1 (l : LV) : List Int := if l.hd.kind = 1 then putB 4 [(l.links.length : Int)] ++ l.links.flatMap linkB else []
theorem flat_len : ∀ l : List Lk, (l.flatMap linkB).length = 12 * l.length
  | [] => rfl
  | x :: l => by rw [List.flatMap_cons, List.length_append, linkB_length, flat_len l, List.length_cons]; omega
theorem pre1_len (l : LV) (h : l.links.length ≤ 100) : (pre1 l).length ≤ 1204 := by
  unfold pre1; split
  · rw [List.length_append, flat_len, putB_length]; simp; omega
  · simp
theorem pre1_at (l : LV) (h : l.hd.kind = 1) : pre1 l = putB 4 [(l.links.length : Int)] ++ l.links.flatMap linkB := by rw [pre1, if_pos h]
theorem pre1_len1 (l : LV) (h : l.hd.kind = 1) : (pre1 l).length = 4 + 12 * l.links.length := by
  rw [pre1_at l h, List.length_append, flat_len, putB_length]; simp
theorem body_eq (l : LV) (hk : l.hd.kind = 1 → l.mem = []) : pre1 l ++ putB 4 l.mem = bodyB l := by
  unfold pre1 bodyB
  by_cases h : l.hd.kind = 1
  · rw [if_pos h, if_pos h, hk h]; simp [putB]
  · rw [if_neg h, if_neg h]; simp
theorem all_eq (l : LV) (m : Nat) (hm : m = (bodyB l).length) : u8s (headB { l.hd with sum := 0, long := 20 + (m : Int) }) ++ u8s (bodyB l) = u8s (allB l) := by
  rw [← u8s_append, allB, hm]
theorem put_num (v : Nat) (n : Int) (hv : v = 1 ∨ v = 2 ∨ v = 4) : putB v [n] = numB v n := by
  rcases hv with rfl | rfl | rfl <;> simp [putB, numB]
theorem link_step (l : List Lk) (k : Nat) (z : Lk) (pre : List Int) (hz : l[k]? = some z) : u8s (pre ++ (l.take k).flatMap linkB) ++ u8s (numB 4 z.id) ++ u8s (numB 4 z.data) ++ [.int .u8 (z.kind % 256), .int .u8 0] ++ u8s (numB 2 z.cost) = u8s (pre ++ (l.take (k + 1)).flatMap linkB) := by
  rw [take_snoc l k z hz]
  simp [u8s, linkB, putB, numB]
theorem mem_step (l : List Int) (k : Nat) (z : Int) (pre : List Int) (hz : l[k]? = some z) : u8s (pre ++ putB 4 (l.take k)) ++ u8s (numB 4 z) = u8s (pre ++ putB 4 (l.take (k + 1))) := by
  rw [take_snoc l k z hz]
  simp [u8s, putB, numB]
set_option maxRecDepth 100000 in
set_option maxHeartbeats 800000 in
theorem bytes04_any (l : LV) (p : LP) (W : World) (hl : l.links.length ≤ 100) (hm : l.mem.length ≤ 100) (hk : l.hd.kind = 1 → l.mem = []) (hok : LOK W l p) :
    Calls Try.prog 26 #[.agg #[i6 l.hd.age, i6 l.hd.kind, i6 l.hd.id, i6 l.hd.adv, i6 l.hd.seq, i6 l.hd.sum, i6 l.hd.long, .slice p.A l.links.length p.c, .slice p.B l.mem.length p.d]] W (fun r w' => ∃ A c, r = .returned (.slice A (lsaB l).length c) ∧ w'.ownsRow W.heap.size 5 1 (.slice A (lsaB l).length c) (lsaB l).length (u8s (lsaB l)) ∧ Below W.heap.size W w') := by
  have hpb := pre1_len l hl
  have hS := S.start W
  refine calls_walk Try.func26 rfl fun R_ hR_ a hz hd hargs => ?_
  replace hz : a.tmps.size = 89 := hz.trans (by kernel_rfl)
  have s0 := hargs 0 _ rfl
  clear hargs
  refine wp_seq ?_
  refine seq_l [0] hz ?_
  refine ⟨fun a_ h_ => st_box (cells := #[i6 l.hd.age, i6 l.hd.kind, i6 l.hd.id, i6 l.hd.adv, i6 l.hd.seq, i6 l.hd.sum, i6 l.hd.long, .slice p.A l.links.length p.c, .slice p.B l.mem.length p.d]) hS (on_none rfl) rfl (h_.b 0 s0) (by kernel_rfl) fun g3 w3 hS3 hb3 => ⟨_, rfl, ?_⟩, trivial⟩
  clear h_ a_ hS
  clear hb3
  refine ⟨.slice none 0 0, fun _ h_ => rk (run_assign rfl rfl), ?_⟩
  intro a2 hput
  have s1 : sl a2 1 = pt g3 0 := hput.new 0 1 rfl
  have s2 : sl a2 2 = .slice none 0 0 := hput.new 1 2 rfl
  replace hz := hput.size.trans hz
  replace hd := hput.defers.trans hd
  clear hput s0
  change Code.wp _ _ _ _ _
  refine wp_seq ?_
  refine seq_l [] hz ?_
  refine ⟨.slice none 0 0, fun _ h_ => rk (run_assign rfl rfl), ?_⟩
  intro a4 hput
  replace s1 := hput.o 1 s1
  replace s2 := hput.o 2 s2
  have s3 : sl a4 3 = .slice none 0 0 := hput.new 0 3 rfl
  replace hz := hput.size.trans hz
  replace hd := hput.defers.trans hd
  clear hput
  change Code.wp _ _ _ _ _
  refine wp_seq_cut (fun a_ w_ => ∃ m A c, a_.tmps.size = 89 ∧ a_.defers = [] ∧ sl a_ 1 = pt g3 0 ∧ sl a_ 3 = .slice A m c ∧ m = (pre1 l).length ∧ S (kap W) ((rowA (.slice A m c) 5 1 m (u8s (pre1 l))) :: (blkA g3 37 #[i6 l.hd.age, i6 l.hd.kind, i6 l.hd.id, i6 l.hd.adv, i6 l.hd.seq, i6 l.hd.sum, i6 l.hd.long, .slice p.A l.links.length p.c, .slice p.B l.mem.length p.d]) :: []) ((memA W W.heap.size) :: []) w_) ?_ ?_
  · refine wp_seq ?_
    refine seq_l [] hz ?_
    refine ⟨pt g3 0, fun _ h_ => rk (fa 0 rfl (h_.b 1 s1)),
     pt g3 1, fun _ h_ => rk (fa 1 rfl (h_.d 0 10)),
     i6 l.hd.kind, fun _ h_ => rk (ld hS3 0 rfl (h_.d 1 11)),
     .bool (decide ((l.hd.kind : Int) = 1)), fun _ h_ => rk (run_cmp rfl (h_.d 2 12) rfl rfl (by first | rfl | exact neq_dec _ _ | exact eq_dec _ _ | simp)), ?_⟩
    intro a5 hput
    replace s1 := hput.o 1 s1
    replace s2 := hput.o 2 s2
    replace s3 := hput.o 3 s3
    have s13 : sl a5 13 = .bool (decide ((l.hd.kind : Int) = 1)) := hput.new 3 13 rfl
    replace hz := hput.size.trans hz
    replace hd := hput.defers.trans hd
    clear hput
    change Code.wp _ _ _ _ _
    refine wp_cond_d s13 (fun hc13 => ?_) (fun hc13 => ?_)
    · clear s13
      refine wp_seq ?_
      refine seq_l [4, 5] hz ?_
      refine ⟨.slice none 0 0, fun _ h_ => rmv (h_.b 3 s3),
       pt g3 7, fun _ h_ => rk (fa 7 rfl (h_.b 1 s1)),
       .slice p.A l.links.length p.c, fun _ h_ => rk (ld hS3 0 rfl (h_.d 1 15)),
       i6 l.links.length, fun _ h_ => rk (run_lenS rfl (h_.d 2 16) (by kernel_rfl)), ?_⟩
      refine ⟨fun a_ h_ => st_call (on_none rfl) (run_call rfl (map2 (h_.d 3 17) rfl) rfl) (bytes01_any l.links.length 4 _ (by omega)) ?_, trivial⟩
      rintro e w7 ⟨A7, c7, rfl, ho7, hb7⟩
      refine ⟨_, rfl, _, rfl, ?_⟩
      clear h_ a_
      have hS7 := hS3.pushRowI hb7 ho7
      clear hS3 hb7 ho7
      have hS8 := hS7.nilrow 5 1
      clear hS7
      refine ⟨fun a_ h_ => sap0 (bytes := 1) (news := u8s (numB 4 l.links.length)) hS8 0 (on_none rfl) rfl (h_.d 0 14) (h_.d 4 18) (hS8.rdI (i := 0) rfl) (by exact u8s_one _) (by (try unfold maxLen); omega) (by (try unfold maxLen); omega) fun A9 c9 w9 hS9 => ⟨_, rfl, ?_⟩, trivial⟩
      clear h_ a_ hS8
      replace hS9 : S (kap W) ((rowA (.slice A9 4 c9) 5 1 4 (u8s (numB 4 l.links.length))) :: (blkA g3 37 #[i6 l.hd.age, i6 l.hd.kind, i6 l.hd.id, i6 l.hd.adv, i6 l.hd.seq, i6 l.hd.sum, i6 l.hd.long, .slice p.A l.links.length p.c, .slice p.B l.mem.length p.d]) :: []) ((rowA (.slice A7 4 c7) 5 1 4 (u8s (numB 4 l.links.length))) :: (memA W W.heap.size) :: []) w9 := hS9
      refine ⟨.slice A9 4 c9, fun _ h_ => ras (h_.d 5 19), ?_⟩
      intro a6 hput
      replace s1 := hput.o 1 s1
      replace s2 := hput.o 2 s2
      replace s3 : sl a6 3 = .slice A9 4 c9 := hput.new 6 3 rfl
      replace hz := hput.size.trans hz
      replace hd := hput.defers.trans hd
      clear hput
      change Code.wp _ _ _ _ _
      refine wp_seq ?_
      refine seq_l [] hz ?_
      refine ⟨i6 0, fun _ h_ => rk (run_assign rfl rfl), ?_⟩
      intro a10 hput
      replace s1 := hput.o 1 s1
      replace s2 := hput.o 2 s2
      replace s3 := hput.o 3 s3
      have s4 : sl a10 4 = i6 0 := hput.new 0 4 rfl
      replace hz := hput.size.trans hz
      replace hd := hput.defers.trans hd
      clear hput
      have hSd := hS9.dropI
      change Code.wp _ _ _ _ _
      refine wp_block ?_
      refine wp_loop (fun a_ w_ => ∃ k : Nat, ∃ m : Nat, ∃ A : Option Addr, ∃ c : Nat, ∃ xs : List Value, (k ≤ l.links.length) ∧ (m = 4 + 12 * k) ∧ (xs = u8s (putB 4 [(l.links.length : Int)] ++ (l.links.take k).flatMap linkB)) ∧ a_.tmps.size = 89 ∧ a_.defers = [] ∧ sl a_ 1 = pt g3 0 ∧ sl a_ 2 = .slice none 0 0 ∧ sl a_ 3 = .slice A m c ∧ sl a_ 4 = i6 k ∧ S (kap W) ((rowA (.slice A m c) 5 1 m xs) :: (blkA g3 37 #[i6 l.hd.age, i6 l.hd.kind, i6 l.hd.id, i6 l.hd.adv, i6 l.hd.seq, i6 l.hd.sum, i6 l.hd.long, .slice p.A l.links.length p.c, .slice p.B l.mem.length p.d]) :: []) ((memA W W.heap.size) :: []) w_) (fun a_ _ => l.links.length - (intOf (sl a_ 4)).toNat) ?_ ?_
      · exact ⟨0, _, _, _, _, Nat.zero_le _, rfl, (by simp [put_num 4 _ (by omega)]), hz, hd, s1, s2, s3, s4, hSd⟩
      · clear hz hd s1 s2 s3 s4 hSd
        rintro a11 w11 ⟨k, m, A, c, xs, hc0_0, hc0_1, hc0_2, hz, hd, s1, s2, s3, s4, hS11⟩
        have hmu0 := s4
        refine wp_seq ?_
        refine wp_seq ?_
        refine seq_l [] hz ?_
        refine ⟨i6 k, fun _ h_ => rmv (h_.b 4 s4),
         pt g3 7, fun _ h_ => rk (fa 7 rfl (h_.b 1 s1)),
         .slice p.A l.links.length p.c, fun _ h_ => rk (ld hS11 1 rfl (h_.d 1 21)),
         i6 l.links.length, fun _ h_ => rk (run_lenS rfl (h_.d 2 22) (by kernel_rfl)),
         .bool (decide ((k : Int) < l.links.length)), fun _ h_ => rk (run_cmp rfl (h_.d 0 20) (h_.d 3 23) rfl (by first | rfl | exact neq_dec _ _ | exact eq_dec _ _ | simp)), ?_⟩
        intro a12 hput
        replace s1 := hput.o 1 s1
        replace s2 := hput.o 2 s2
        replace s3 := hput.o 3 s3
        replace s4 := hput.o 4 s4
        have s20 : sl a12 20 = i6 k := hput.new 0 20 rfl
        have s21 : sl a12 21 = pt g3 7 := hput.new 1 21 rfl
        have s22 : sl a12 22 = .slice p.A l.links.length p.c := hput.new 2 22 rfl
        have s23 : sl a12 23 = i6 l.links.length := hput.new 3 23 rfl
        have s24 : sl a12 24 = .bool (decide ((k : Int) < l.links.length)) := hput.new 4 24 rfl
        replace hz := hput.size.trans hz
        replace hd := hput.defers.trans hd
        clear hput
        change Code.wp _ _ _ _ _
        refine wp_cond_d s24 (fun hc24 => ?_) (fun hc24 => ?_)
        · clear s24
          refine wp_skip ?_
          change Code.wp _ _ _ _ _
          refine wp_seq ?_
          refine wp_block ?_
          refine wp_seq ?_
          refine seq_l [5, 6] hz ?_
          refine ⟨pt g3 7, fun _ h_ => rk (fa 7 rfl (h_.b 1 s1)),
           .slice p.A l.links.length p.c, fun _ h_ => rk (ld hS11 1 rfl (h_.d 0 27)),
           i6 k, fun _ h_ => rmv (h_.b 4 s4), ?_⟩
          obtain ⟨b14, o14, z14, hA14, hb14, hz14, hq14⟩ := Reads.row_at Lk.cells 4 Lk.cells_len (k := k) ((Reads.old hok.links (hS11.old (by simp)))) (by decide) (by omega)
          refine ⟨pt b14 (o14 + k * 4), fun _ h_ => rk (run_indexV (size := 4) rfl (h_.d 1 28) hA14 (h_.d 2 29) (by kernel_rfl) (by omega) (by simp)),
           .agg #[i6 z14.kind, i6 z14.id, i6 z14.data, i6 z14.cost], fun _ h_ => rk (run_loadV (size := 4) (cs := Lk.cells z14) rfl (h_.d 3 30) (by kernel_rfl) rfl hq14), ?_⟩
          refine ⟨fun a_ h_ => st_alloc (cells := #[i6 0, i6 0, i6 0, i6 0]) hS11 (on_none rfl) rfl (by kernel_rfl) fun g15 w15 hS15 hb15 => ⟨_, rfl, ?_⟩, trivial⟩
          clear h_ a_ hS11
          clear hb15
          refine ⟨fun a_ h_ => st_store (n := 4) (cells := #[i6 z14.kind, i6 z14.id, i6 z14.data, i6 z14.cost]) (cs' := #[i6 z14.kind, i6 z14.id, i6 z14.data, i6 z14.cost]) 0 hS15 rfl (on_none rfl) rfl (h_.d 5 5) (h_.d 4 31) rfl (by kernel_rfl) ⟨Nat.le_of_ble_eq_true rfl, rfl, by kernel_rfl⟩ rfl fun w16 hS16 he16 => ⟨_, rfl, ?_⟩, trivial⟩
          clear h_ a_ he16 hS15
          replace hS16 : S (kap W) ((blkA g15 117 #[i6 z14.kind, i6 z14.id, i6 z14.data, i6 z14.cost]) :: (rowA (.slice A m c) 5 1 m xs) :: (blkA g3 37 #[i6 l.hd.age, i6 l.hd.kind, i6 l.hd.id, i6 l.hd.adv, i6 l.hd.seq, i6 l.hd.sum, i6 l.hd.long, .slice p.A l.links.length p.c, .slice p.B l.mem.length p.d]) :: []) ((memA W W.heap.size) :: []) w16 := hS16
          intro a13 hput
          replace s1 := hput.o 1 s1
          replace s2 := hput.o 2 s2
          replace s3 := hput.o 3 s3
          replace s4 := hput.o 4 s4
          have s5 : sl a13 5 = pt g15 0 := hput.new 5 5 rfl
          replace s20 := hput.o 20 s20
          replace s21 := hput.o 21 s21
          replace s22 := hput.o 22 s22
          replace s23 := hput.o 23 s23
          have s27 : sl a13 27 = pt g3 7 := hput.new 0 27 rfl
          have s28 : sl a13 28 = .slice p.A l.links.length p.c := hput.new 1 28 rfl
          have s29 : sl a13 29 = i6 k := hput.new 2 29 rfl
          have s30 : sl a13 30 = pt b14 (o14 + k * 4) := hput.new 3 30 rfl
          have s31 : sl a13 31 = .agg #[i6 z14.kind, i6 z14.id, i6 z14.data, i6 z14.cost] := hput.new 4 31 rfl
          replace hz := hput.size.trans hz
          replace hd := hput.defers.trans hd
          clear hput
          change Code.wp _ _ _ _ _
          refine wp_seq ?_
          refine seq_l [3, 4] hz ?_
          refine ⟨.slice A m c, fun _ h_ => rmv (h_.b 3 s3),
           pt g15 1, fun _ h_ => rk (fa 1 rfl (h_.b 5 s5)),
           i6 z14.id, fun _ h_ => rk (ld hS16 0 rfl (h_.d 1 33)), ?_⟩
          refine ⟨fun a_ h_ => st_call (on_none rfl) (run_call rfl (map2 (h_.d 2 34) rfl) rfl) (bytes01_any z14.id 4 _ (by omega)) ?_, trivial⟩
          rintro e w18 ⟨A18, c18, rfl, ho18, hb18⟩
          refine ⟨_, rfl, _, rfl, ?_⟩
          clear h_ a_
          have hS18 := hS16.pushRowI hb18 ho18
          clear hS16 hb18 ho18
          refine ⟨fun a_ h_ => sap (bytes := 1) (news := u8s (numB 4 z14.id)) hS18 1 (on_none rfl) rfl (h_.d 0 32) (h_.d 3 35) (hS18.rdI (i := 0) rfl) (by exact u8s_one _) (by (try unfold maxLen); omega) (by (try unfold maxLen); omega) fun A19 c19 w19 hS19 => ⟨_, rfl, ?_⟩, trivial⟩
          clear h_ a_ hS18
          replace hS19 : S (kap W) ((blkA g15 117 #[i6 z14.kind, i6 z14.id, i6 z14.data, i6 z14.cost]) :: (rowA (.slice A19 (m + 4) c19) 5 1 (m + 4) (xs ++ u8s (numB 4 z14.id))) :: (blkA g3 37 #[i6 l.hd.age, i6 l.hd.kind, i6 l.hd.id, i6 l.hd.adv, i6 l.hd.seq, i6 l.hd.sum, i6 l.hd.long, .slice p.A l.links.length p.c, .slice p.B l.mem.length p.d]) :: []) ((rowA (.slice A18 4 c18) 5 1 4 (u8s (numB 4 z14.id))) :: (memA W W.heap.size) :: []) w19 := hS19
          refine ⟨.slice A19 (m + 4) c19, fun _ h_ => ras (h_.d 4 36), ?_⟩
          intro a17 hput
          replace s1 := hput.o 1 s1
          replace s2 := hput.o 2 s2
          replace s3 : sl a17 3 = .slice A19 (m + 4) c19 := hput.new 5 3 rfl
          replace s4 := hput.o 4 s4
          replace s5 := hput.o 5 s5
          replace s20 := hput.o 20 s20
          replace s21 := hput.o 21 s21
          replace s22 := hput.o 22 s22
          replace s23 := hput.o 23 s23
          replace s27 := hput.o 27 s27
          replace s28 := hput.o 28 s28
          replace s29 := hput.o 29 s29
          replace s30 := hput.o 30 s30
          replace s31 := hput.o 31 s31
          have s32 : sl a17 32 = .slice A m c := hput.new 0 32 rfl
          have s33 : sl a17 33 = pt g15 1 := hput.new 1 33 rfl
          have s34 : sl a17 34 = i6 z14.id := hput.new 2 34 rfl
          have s35 : sl a17 35 = .slice A18 4 c18 := hput.new 3 35 rfl
          have s36 : sl a17 36 = .slice A19 (m + 4) c19 := hput.new 4 36 rfl
          replace hz := hput.size.trans hz
          replace hd := hput.defers.trans hd
          clear hput
          change Code.wp _ _ _ _ _
          refine wp_seq ?_
          refine seq_l [3, 4] hz ?_
          refine ⟨.slice A19 (m + 4) c19, fun _ h_ => rmv (h_.b 3 s3),
           pt g15 2, fun _ h_ => rk (fa 2 rfl (h_.b 5 s5)),
           i6 z14.data, fun _ h_ => rk (ld hS19 0 rfl (h_.d 1 38)), ?_⟩
          refine ⟨fun a_ h_ => st_call (on_none rfl) (run_call rfl (map2 (h_.d 2 39) rfl) rfl) (bytes01_any z14.data 4 _ (by omega)) ?_, trivial⟩
          rintro e w21 ⟨A21, c21, rfl, ho21, hb21⟩
          refine ⟨_, rfl, _, rfl, ?_⟩
          clear h_ a_
          have hS21 := hS19.pushRowI hb21 ho21
          clear hS19 hb21 ho21
          refine ⟨fun a_ h_ => sap (bytes := 1) (news := u8s (numB 4 z14.data)) hS21 1 (on_none rfl) rfl (h_.d 0 37) (h_.d 3 40) (hS21.rdI (i := 0) rfl) (by exact u8s_one _) (by (try unfold maxLen); omega) (by (try unfold maxLen); omega) fun A22 c22 w22 hS22 => ⟨_, rfl, ?_⟩, trivial⟩
          clear h_ a_ hS21
          replace hS22 : S (kap W) ((blkA g15 117 #[i6 z14.kind, i6 z14.id, i6 z14.data, i6 z14.cost]) :: (rowA (.slice A22 (m + 4 + 4) c22) 5 1 (m + 4 + 4) (xs ++ u8s (numB 4 z14.id) ++ u8s (numB 4 z14.data))) :: (blkA g3 37 #[i6 l.hd.age, i6 l.hd.kind, i6 l.hd.id, i6 l.hd.adv, i6 l.hd.seq, i6 l.hd.sum, i6 l.hd.long, .slice p.A l.links.length p.c, .slice p.B l.mem.length p.d]) :: []) ((rowA (.slice A21 4 c21) 5 1 4 (u8s (numB 4 z14.data))) :: (rowA (.slice A18 4 c18) 5 1 4 (u8s (numB 4 z14.id))) :: (memA W W.heap.size) :: []) w22 := hS22
          refine ⟨.slice A22 (m + 4 + 4) c22, fun _ h_ => ras (h_.d 4 41), ?_⟩
          intro a20 hput
          replace s1 := hput.o 1 s1
          replace s2 := hput.o 2 s2
          replace s3 : sl a20 3 = .slice A22 (m + 4 + 4) c22 := hput.new 5 3 rfl
          replace s4 := hput.o 4 s4
          replace s5 := hput.o 5 s5
          replace s20 := hput.o 20 s20
          replace s21 := hput.o 21 s21
          replace s22 := hput.o 22 s22
          replace s23 := hput.o 23 s23
          replace s27 := hput.o 27 s27
          replace s28 := hput.o 28 s28
          replace s29 := hput.o 29 s29
          replace s30 := hput.o 30 s30
          replace s31 := hput.o 31 s31
          replace s32 := hput.o 32 s32
          replace s33 := hput.o 33 s33
          replace s34 := hput.o 34 s34
          replace s35 := hput.o 35 s35
          replace s36 := hput.o 36 s36
          have s37 : sl a20 37 = .slice A19 (m + 4) c19 := hput.new 0 37 rfl
          have s38 : sl a20 38 = pt g15 2 := hput.new 1 38 rfl
          have s39 : sl a20 39 = i6 z14.data := hput.new 2 39 rfl
          have s40 : sl a20 40 = .slice A21 4 c21 := hput.new 3 40 rfl
          have s41 : sl a20 41 = .slice A22 (m + 4 + 4) c22 := hput.new 4 41 rfl
          replace hz := hput.size.trans hz
          replace hd := hput.defers.trans hd
          clear hput
          change Code.wp _ _ _ _ _
          refine wp_seq ?_
          refine seq_l [4, 5] hz ?_
          refine ⟨.slice A22 (m + 4 + 4) c22, fun _ h_ => rmv (h_.b 3 s3),
           pt g15 0, fun _ h_ => rk (fa 0 rfl (h_.b 5 s5)),
           i6 z14.kind, fun _ h_ => rk (ld hS22 0 rfl (h_.d 1 43)),
           .int .u8 (z14.kind % 256), fun _ h_ => rk (run_convW rfl (h_.d 2 44) (by kernel_rfl) (wrap_u8m _) (by kernel_rfl)), ?_⟩
          refine ⟨fun a_ h_ => st_lit (e := 5) (vals := [(0, .int .u8 (z14.kind % 256)), (1, .int .u8 0)]) (cells := #[.int .u8 (z14.kind % 256), .int .u8 0]) hS22 (on_none rfl) rfl (parts2 (h_.d 3 45) rfl) fun g24 w24 hS24 hb24 => ⟨_, rfl, ?_⟩, trivial⟩
          clear h_ a_ hS22
          clear hb24
          refine ⟨fun a_ h_ => sap (bytes := 1) (news := [.int .u8 (z14.kind % 256), .int .u8 0]) hS24 2 (on_none rfl) rfl (h_.d 0 42) (h_.d 4 46) (reads_blk (hS24.blk (i := 0) rfl) rfl) (by simp [Value.oneCell']) (by (try unfold maxLen); omega) (by (try unfold maxLen); omega) fun A25 c25 w25 hS25 => ⟨_, rfl, ?_⟩, trivial⟩
          clear h_ a_ hS24
          replace hS25 : S (kap W) ((blkA g24 5 #[.int .u8 (z14.kind % 256), .int .u8 0]) :: (blkA g15 117 #[i6 z14.kind, i6 z14.id, i6 z14.data, i6 z14.cost]) :: (rowA (.slice A25 (m + 4 + 4 + 2) c25) 5 1 (m + 4 + 4 + 2) (xs ++ u8s (numB 4 z14.id) ++ u8s (numB 4 z14.data) ++ [.int .u8 (z14.kind % 256), .int .u8 0])) :: (blkA g3 37 #[i6 l.hd.age, i6 l.hd.kind, i6 l.hd.id, i6 l.hd.adv, i6 l.hd.seq, i6 l.hd.sum, i6 l.hd.long, .slice p.A l.links.length p.c, .slice p.B l.mem.length p.d]) :: []) ((rowA (.slice A21 4 c21) 5 1 4 (u8s (numB 4 z14.data))) :: (rowA (.slice A18 4 c18) 5 1 4 (u8s (numB 4 z14.id))) :: (memA W W.heap.size) :: []) w25 := hS25
          refine ⟨.slice A25 (m + 4 + 4 + 2) c25, fun _ h_ => ras (h_.d 5 47), ?_⟩
          intro a23 hput
          replace s1 := hput.o 1 s1
          replace s2 := hput.o 2 s2
          replace s3 : sl a23 3 = .slice A25 (m + 4 + 4 + 2) c25 := hput.new 6 3 rfl
          replace s4 := hput.o 4 s4
          replace s5 := hput.o 5 s5
          replace s20 := hput.o 20 s20
          replace s21 := hput.o 21 s21
          replace s22 := hput.o 22 s22
          replace s23 := hput.o 23 s23
          replace s27 := hput.o 27 s27
          replace s28 := hput.o 28 s28
          replace s29 := hput.o 29 s29
          replace s30 := hput.o 30 s30
          replace s31 := hput.o 31 s31
          replace s32 := hput.o 32 s32
          replace s33 := hput.o 33 s33
          replace s34 := hput.o 34 s34
          replace s35 := hput.o 35 s35
          replace s36 := hput.o 36 s36
          replace s37 := hput.o 37 s37
          replace s38 := hput.o 38 s38
          replace s39 := hput.o 39 s39
          replace s40 := hput.o 40 s40
          replace s41 := hput.o 41 s41
          have s42 : sl a23 42 = .slice A22 (m + 4 + 4) c22 := hput.new 0 42 rfl
          have s43 : sl a23 43 = pt g15 0 := hput.new 1 43 rfl
          have s44 : sl a23 44 = i6 z14.kind := hput.new 2 44 rfl
          have s45 : sl a23 45 = .int .u8 (z14.kind % 256) := hput.new 3 45 rfl
          have s46 : sl a23 46 = .slice (some ⟨g24, 0, none⟩) 2 2 := hput.new 4 46 rfl
          have s47 : sl a23 47 = .slice A25 (m + 4 + 4 + 2) c25 := hput.new 5 47 rfl
          replace hz := hput.size.trans hz
          replace hd := hput.defers.trans hd
          clear hput
          change Code.wp _ _ _ _ _
          refine seq_l [3, 4] hz ?_
          refine ⟨.slice A25 (m + 4 + 4 + 2) c25, fun _ h_ => rmv (h_.b 3 s3),
           pt g15 3, fun _ h_ => rk (fa 3 rfl (h_.b 5 s5)),
           i6 z14.cost, fun _ h_ => rk (ld hS25 1 rfl (h_.d 1 49)), ?_⟩
          refine ⟨fun a_ h_ => st_call (on_none rfl) (run_call rfl (map2 (h_.d 2 50) rfl) rfl) (bytes01_any z14.cost 2 _ (by omega)) ?_, trivial⟩
          rintro e w27 ⟨A27, c27, rfl, ho27, hb27⟩
          refine ⟨_, rfl, _, rfl, ?_⟩
          clear h_ a_
          have hS27 := hS25.pushRowI hb27 ho27
          clear hS25 hb27 ho27
          refine ⟨fun a_ h_ => sap (bytes := 1) (news := u8s (numB 2 z14.cost)) hS27 2 (on_none rfl) rfl (h_.d 0 48) (h_.d 3 51) (hS27.rdI (i := 0) rfl) (by exact u8s_one _) (by (try unfold maxLen); omega) (by (try unfold maxLen); omega) fun A28 c28 w28 hS28 => ⟨_, rfl, ?_⟩, trivial⟩
          clear h_ a_ hS27
          replace hS28 : S (kap W) ((blkA g24 5 #[.int .u8 (z14.kind % 256), .int .u8 0]) :: (blkA g15 117 #[i6 z14.kind, i6 z14.id, i6 z14.data, i6 z14.cost]) :: (rowA (.slice A28 (m + 4 + 4 + 2 + 2) c28) 5 1 (m + 4 + 4 + 2 + 2) (xs ++ u8s (numB 4 z14.id) ++ u8s (numB 4 z14.data) ++ [.int .u8 (z14.kind % 256), .int .u8 0] ++ u8s (numB 2 z14.cost))) :: (blkA g3 37 #[i6 l.hd.age, i6 l.hd.kind, i6 l.hd.id, i6 l.hd.adv, i6 l.hd.seq, i6 l.hd.sum, i6 l.hd.long, .slice p.A l.links.length p.c, .slice p.B l.mem.length p.d]) :: []) ((rowA (.slice A27 2 c27) 5 1 2 (u8s (numB 2 z14.cost))) :: (rowA (.slice A21 4 c21) 5 1 4 (u8s (numB 4 z14.data))) :: (rowA (.slice A18 4 c18) 5 1 4 (u8s (numB 4 z14.id))) :: (memA W W.heap.size) :: []) w28 := hS28
          refine ⟨.slice A28 (m + 4 + 4 + 2 + 2) c28, fun _ h_ => ras (h_.d 4 52), ?_⟩
          intro a26 hput
          replace s1 := hput.o 1 s1
          replace s2 := hput.o 2 s2
          replace s3 : sl a26 3 = .slice A28 (m + 4 + 4 + 2 + 2) c28 := hput.new 5 3 rfl
          replace s4 := hput.o 4 s4
          replace s5 := hput.o 5 s5
          replace s20 := hput.o 20 s20
          replace s21 := hput.o 21 s21
          replace s22 := hput.o 22 s22
          replace s23 := hput.o 23 s23
          replace s27 := hput.o 27 s27
          replace s28 := hput.o 28 s28
          replace s29 := hput.o 29 s29
          replace s30 := hput.o 30 s30
          replace s31 := hput.o 31 s31
          replace s32 := hput.o 32 s32
          replace s33 := hput.o 33 s33
          replace s34 := hput.o 34 s34
          replace s35 := hput.o 35 s35
          replace s36 := hput.o 36 s36
          replace s37 := hput.o 37 s37
          replace s38 := hput.o 38 s38
          replace s39 := hput.o 39 s39
          replace s40 := hput.o 40 s40
          replace s41 := hput.o 41 s41
          replace s42 := hput.o 42 s42
          replace s43 := hput.o 43 s43
          replace s44 := hput.o 44 s44
          replace s45 := hput.o 45 s45
          replace s46 := hput.o 46 s46
          replace s47 := hput.o 47 s47
          have s48 : sl a26 48 = .slice A25 (m + 4 + 4 + 2) c25 := hput.new 0 48 rfl
          have s49 : sl a26 49 = pt g15 3 := hput.new 1 49 rfl
          have s50 : sl a26 50 = i6 z14.cost := hput.new 2 50 rfl
          have s51 : sl a26 51 = .slice A27 2 c27 := hput.new 3 51 rfl
          have s52 : sl a26 52 = .slice A28 (m + 4 + 4 + 2 + 2) c28 := hput.new 4 52 rfl
          replace hz := hput.size.trans hz
          replace hd := hput.defers.trans hd
          clear hput
          change Code.wp _ _ _ _ _
          refine seq_l [] hz ?_
          refine ⟨i6 k, fun _ h_ => rmv (h_.b 4 s4),
           i6 (k + 1), fun _ h_ => rk (run_addI rfl (h_.d 0 25) rfl (by omega) rfl),
           i6 (k + 1), fun _ h_ => ras (h_.d 1 26), ?_⟩
          intro a29 hput
          replace s1 := hput.o 1 s1
          replace s2 := hput.o 2 s2
          replace s3 := hput.o 3 s3
          replace s4 : sl a29 4 = i6 (k + 1) := hput.new 2 4 rfl
          replace s5 := hput.o 5 s5
          replace s20 := hput.o 20 s20
          replace s21 := hput.o 21 s21
          replace s22 := hput.o 22 s22
          replace s23 := hput.o 23 s23
          have s25 : sl a29 25 = i6 k := hput.new 0 25 rfl
          have s26 : sl a29 26 = i6 (k + 1) := hput.new 1 26 rfl
          replace s27 := hput.o 27 s27
          replace s28 := hput.o 28 s28
          replace s29 := hput.o 29 s29
          replace s30 := hput.o 30 s30
          replace s31 := hput.o 31 s31
          replace s32 := hput.o 32 s32
          replace s33 := hput.o 33 s33
          replace s34 := hput.o 34 s34
          replace s35 := hput.o 35 s35
          replace s36 := hput.o 36 s36
          replace s37 := hput.o 37 s37
          replace s38 := hput.o 38 s38
          replace s39 := hput.o 39 s39
          replace s40 := hput.o 40 s40
          replace s41 := hput.o 41 s41
          replace s42 := hput.o 42 s42
          replace s43 := hput.o 43 s43
          replace s44 := hput.o 44 s44
          replace s45 := hput.o 45 s45
          replace s46 := hput.o 46 s46
          replace s47 := hput.o 47 s47
          replace s48 := hput.o 48 s48
          replace s49 := hput.o 49 s49
          replace s50 := hput.o 50 s50
          replace s51 := hput.o 51 s51
          replace s52 := hput.o 52 s52
          replace hz := hput.size.trans hz
          replace hd := hput.defers.trans hd
          clear hput
          have hSd := hS28.drop.drop.dropI.dropI.dropI
          refine ⟨⟨k + 1, _, _, _, _, by omega, by omega, (by rw [hc0_2]; exact link_step l.links k _ _ hz14), hz, hd, s1, s2, s3, s4, hSd⟩, ?_⟩
          show l.links.length - (intOf (sl a29 4)).toNat < l.links.length - (intOf (sl a11 4)).toNat
          rw [show sl a29 4 = _ from s4, show sl a11 4 = _ from hmu0]
          simp only [intOf]
          omega
        · clear s24
          refine wp_exit ?_
          obtain rfl : k = l.links.length := by omega
          rw [List.take_of_length_le (Nat.le_refl _), ← pre1_at l hc13] at hc0_2
          subst hc0_2
          exact ⟨_, _, _, hz, hd, s1, s3, (by rw [pre1_len1 l hc13]; omega), hS11⟩
    · clear s13
      refine wp_skip ?_
      have hSn := hS3.nilrow 5 1
      have hnil : pre1 l = [] := by rw [pre1, if_neg hc13]
      exact ⟨0, none, 0, hz, hd, s1, s3, (by rw [hnil]; rfl), (by rw [hnil]; exact hSn)⟩
  · clear hS3 hz hd
    rintro ac wc ⟨m, A, c, hz, hd, s1, s3, hm0, hSc⟩
    refine wp_seq ?_
    refine wp_seq ?_
    refine seq_l [] hz ?_
    refine ⟨i6 0, fun _ h_ => rk (run_assign rfl rfl), ?_⟩
    intro a30 hput
    replace s1 := hput.o 1 s1
    replace s3 := hput.o 3 s3
    have s6 : sl a30 6 = i6 0 := hput.new 0 6 rfl
    replace hz := hput.size.trans hz
    replace hd := hput.defers.trans hd
    clear hput
    change Code.wp _ _ _ _ _
    refine wp_block ?_
    refine wp_loop (fun a_ w_ => ∃ k : Nat, ∃ m : Nat, ∃ A : Option Addr, ∃ c : Nat, ∃ xs : List Value, (k ≤ l.mem.length) ∧ (m = (pre1 l).length + 4 * k) ∧ (xs = u8s (pre1 l ++ putB 4 (l.mem.take k))) ∧ a_.tmps.size = 89 ∧ a_.defers = [] ∧ sl a_ 1 = pt g3 0 ∧ sl a_ 3 = .slice A m c ∧ sl a_ 6 = i6 k ∧ S (kap W) ((rowA (.slice A m c) 5 1 m xs) :: (blkA g3 37 #[i6 l.hd.age, i6 l.hd.kind, i6 l.hd.id, i6 l.hd.adv, i6 l.hd.seq, i6 l.hd.sum, i6 l.hd.long, .slice p.A l.links.length p.c, .slice p.B l.mem.length p.d]) :: []) ((memA W W.heap.size) :: []) w_) (fun a_ _ => l.mem.length - (intOf (sl a_ 6)).toNat) ?_ ?_
    · exact ⟨0, _, _, _, _, Nat.zero_le _, hm0, (by simp [putB]), hz, hd, s1, s3, s6, hSc⟩
    · clear hz hd s1 s3 s6 hSc
      rintro a31 w31 ⟨k, m, A, c, xs, hc2_0, hc2_1, hc2_2, hz, hd, s1, s3, s6, hS31⟩
      have hmu2 := s6
      refine wp_seq ?_
      refine wp_seq ?_
      refine seq_l [] hz ?_
      refine ⟨i6 k, fun _ h_ => rmv (h_.b 6 s6),
       pt g3 8, fun _ h_ => rk (fa 8 rfl (h_.b 1 s1)),
       .slice p.B l.mem.length p.d, fun _ h_ => rk (ld hS31 1 rfl (h_.d 1 54)),
       i6 l.mem.length, fun _ h_ => rk (run_lenS rfl (h_.d 2 55) (by kernel_rfl)),
       .bool (decide ((k : Int) < l.mem.length)), fun _ h_ => rk (run_cmp rfl (h_.d 0 53) (h_.d 3 56) rfl (by first | rfl | exact neq_dec _ _ | exact eq_dec _ _ | simp)), ?_⟩
      intro a32 hput
      replace s1 := hput.o 1 s1
      replace s3 := hput.o 3 s3
      replace s6 := hput.o 6 s6
      have s53 : sl a32 53 = i6 k := hput.new 0 53 rfl
      have s54 : sl a32 54 = pt g3 8 := hput.new 1 54 rfl
      have s55 : sl a32 55 = .slice p.B l.mem.length p.d := hput.new 2 55 rfl
      have s56 : sl a32 56 = i6 l.mem.length := hput.new 3 56 rfl
      have s57 : sl a32 57 = .bool (decide ((k : Int) < l.mem.length)) := hput.new 4 57 rfl
      replace hz := hput.size.trans hz
      replace hd := hput.defers.trans hd
      clear hput
      change Code.wp _ _ _ _ _
      refine wp_cond_d s57 (fun hc57 => ?_) (fun hc57 => ?_)
      · clear s57
        refine wp_skip ?_
        change Code.wp _ _ _ _ _
        refine wp_seq ?_
        refine wp_block ?_
        refine seq_l [6, 7] hz ?_
        refine ⟨.slice A m c, fun _ h_ => rmv (h_.b 3 s3),
         pt g3 8, fun _ h_ => rk (fa 8 rfl (h_.b 1 s1)),
         .slice p.B l.mem.length p.d, fun _ h_ => rk (ld hS31 1 rfl (h_.d 1 61)),
         i6 k, fun _ h_ => rmv (h_.b 6 s6), ?_⟩
        obtain ⟨b34, o34, z34, hA34, hb34, hz34, hq34⟩ := Reads.int_at (k := k) ((Reads.old hok.mem (hS31.old (by simp)))) (by omega)
        refine ⟨pt b34 (o34 + k), fun _ h_ => rk (run_indexV (size := 1) rfl (h_.d 2 62) hA34 (h_.d 3 63) (by kernel_rfl) (by omega) (by simp)),
         i6 z34, fun _ h_ => rk (run_load rfl (h_.d 4 64) (by kernel_rfl) (show w31.cell? ⟨b34, o34 + k, none⟩ = some (i6 z34) from hq34)), ?_⟩
        refine ⟨fun a_ h_ => st_call (on_none rfl) (run_call rfl (map2 (h_.d 5 65) rfl) rfl) (bytes01_any z34 4 _ (by omega)) ?_, trivial⟩
        rintro e w35 ⟨A35, c35, rfl, ho35, hb35⟩
        refine ⟨_, rfl, _, rfl, ?_⟩
        clear h_ a_
        have hS35 := hS31.pushRowI hb35 ho35
        clear hS31 hb35 ho35
        refine ⟨fun a_ h_ => sap (bytes := 1) (news := u8s (numB 4 z34)) hS35 0 (on_none rfl) rfl (h_.d 0 60) (h_.d 6 66) (hS35.rdI (i := 0) rfl) (by exact u8s_one _) (by (try unfold maxLen); omega) (by (try unfold maxLen); omega) fun A36 c36 w36 hS36 => ⟨_, rfl, ?_⟩, trivial⟩
        clear h_ a_ hS35
        replace hS36 : S (kap W) ((rowA (.slice A36 (m + 4) c36) 5 1 (m + 4) (xs ++ u8s (numB 4 z34))) :: (blkA g3 37 #[i6 l.hd.age, i6 l.hd.kind, i6 l.hd.id, i6 l.hd.adv, i6 l.hd.seq, i6 l.hd.sum, i6 l.hd.long, .slice p.A l.links.length p.c, .slice p.B l.mem.length p.d]) :: []) ((rowA (.slice A35 4 c35) 5 1 4 (u8s (numB 4 z34))) :: (memA W W.heap.size) :: []) w36 := hS36
        refine ⟨.slice A36 (m + 4) c36, fun _ h_ => ras (h_.d 7 67), ?_⟩
        intro a33 hput
        replace s1 := hput.o 1 s1
        replace s3 : sl a33 3 = .slice A36 (m + 4) c36 := hput.new 8 3 rfl
        replace s6 := hput.o 6 s6
        replace s53 := hput.o 53 s53
        replace s54 := hput.o 54 s54
        replace s55 := hput.o 55 s55
        replace s56 := hput.o 56 s56
        have s60 : sl a33 60 = .slice A m c := hput.new 0 60 rfl
        have s61 : sl a33 61 = pt g3 8 := hput.new 1 61 rfl
        have s62 : sl a33 62 = .slice p.B l.mem.length p.d := hput.new 2 62 rfl
        have s63 : sl a33 63 = i6 k := hput.new 3 63 rfl
        have s64 : sl a33 64 = pt b34 (o34 + k) := hput.new 4 64 rfl
        have s65 : sl a33 65 = i6 z34 := hput.new 5 65 rfl
        have s66 : sl a33 66 = .slice A35 4 c35 := hput.new 6 66 rfl
        have s67 : sl a33 67 = .slice A36 (m + 4) c36 := hput.new 7 67 rfl
        replace hz := hput.size.trans hz
        replace hd := hput.defers.trans hd
        clear hput
        change Code.wp _ _ _ _ _
        refine seq_l [] hz ?_
        refine ⟨i6 k, fun _ h_ => rmv (h_.b 6 s6),
         i6 (k + 1), fun _ h_ => rk (run_addI rfl (h_.d 0 58) rfl (by omega) rfl),
         i6 (k + 1), fun _ h_ => ras (h_.d 1 59), ?_⟩
        intro a37 hput
        replace s1 := hput.o 1 s1
        replace s3 := hput.o 3 s3
        replace s6 : sl a37 6 = i6 (k + 1) := hput.new 2 6 rfl
        replace s53 := hput.o 53 s53
        replace s54 := hput.o 54 s54
        replace s55 := hput.o 55 s55
        replace s56 := hput.o 56 s56
        have s58 : sl a37 58 = i6 k := hput.new 0 58 rfl
        have s59 : sl a37 59 = i6 (k + 1) := hput.new 1 59 rfl
        replace s60 := hput.o 60 s60
        replace s61 := hput.o 61 s61
        replace s62 := hput.o 62 s62
        replace s63 := hput.o 63 s63
        replace s64 := hput.o 64 s64
        replace s65 := hput.o 65 s65
        replace s66 := hput.o 66 s66
        replace s67 := hput.o 67 s67
        replace hz := hput.size.trans hz
        replace hd := hput.defers.trans hd
        clear hput
        have hSd := hS36.dropI
        refine ⟨⟨k + 1, _, _, _, _, by omega, by omega, (by rw [hc2_2]; exact mem_step l.mem k _ _ hz34), hz, hd, s1, s3, s6, hSd⟩, ?_⟩
        show l.mem.length - (intOf (sl a37 6)).toNat < l.mem.length - (intOf (sl a31 6)).toNat
        rw [show sl a37 6 = _ from s6, show sl a31 6 = _ from hmu2]
        simp only [intOf]
        omega
      · clear s57
        refine wp_exit ?_
        change Code.wp _ _ _ _ _
        refine wp_seq ?_
        obtain rfl : k = l.mem.length := by omega
        rw [List.take_of_length_le (Nat.le_refl _), body_eq l hk] at hc2_2
        subst hc2_2
        have hmb : m = (bodyB l).length := by have := u8s_of (hS31.rd (i := 0) rfl); exact this.symm
        refine seq_l [2, 3] hz ?_
        refine ⟨pt g3 0, fun _ h_ => rk (fa 0 rfl (h_.b 1 s1)),
         .agg #[i6 l.hd.age, i6 l.hd.kind, i6 l.hd.id, i6 l.hd.adv, i6 l.hd.seq, i6 l.hd.sum, i6 l.hd.long], fun _ h_ => rk (lbS 7 (hS31.blk (i := 1) rfl) rfl (h_.d 0 68)), ?_⟩
        refine ⟨fun a_ h_ => st_alloc (cells := #[i6 0, i6 0, i6 0, i6 0, i6 0, i6 0, i6 0]) hS31 (on_none rfl) rfl (by kernel_rfl) fun g39 w39 hS39 hb39 => ⟨_, rfl, ?_⟩, trivial⟩
        clear h_ a_ hS31
        clear hb39
        refine ⟨fun a_ h_ => st_store (n := 7) (cells := #[i6 l.hd.age, i6 l.hd.kind, i6 l.hd.id, i6 l.hd.adv, i6 l.hd.seq, i6 l.hd.sum, i6 l.hd.long]) (cs' := #[i6 l.hd.age, i6 l.hd.kind, i6 l.hd.id, i6 l.hd.adv, i6 l.hd.seq, i6 l.hd.sum, i6 l.hd.long]) 0 hS39 rfl (on_none rfl) rfl (h_.d 2 7) (h_.d 1 69) rfl (by kernel_rfl) ⟨Nat.le_of_ble_eq_true rfl, rfl, by kernel_rfl⟩ rfl fun w40 hS40 he40 => ⟨_, rfl, ?_⟩, trivial⟩
        clear h_ a_ he40 hS39
        replace hS40 : S (kap W) ((blkA g39 34 #[i6 l.hd.age, i6 l.hd.kind, i6 l.hd.id, i6 l.hd.adv, i6 l.hd.seq, i6 l.hd.sum, i6 l.hd.long]) :: (rowA (.slice A m c) 5 1 m (u8s (bodyB l))) :: (blkA g3 37 #[i6 l.hd.age, i6 l.hd.kind, i6 l.hd.id, i6 l.hd.adv, i6 l.hd.seq, i6 l.hd.sum, i6 l.hd.long, .slice p.A l.links.length p.c, .slice p.B l.mem.length p.d]) :: []) ((memA W W.heap.size) :: []) w40 := hS40
        intro a38 hput
        replace s3 := hput.o 3 s3
        have s7 : sl a38 7 = pt g39 0 := hput.new 2 7 rfl
        replace hz := hput.size.trans hz
        replace hd := hput.defers.trans hd
        clear hput s1 s6 s53 s54 s55 s56
        change Code.wp _ _ _ _ _
        refine wp_seq ?_
        refine seq_l [1] hz ?_
        refine ⟨pt g39 5, fun _ h_ => rk (fa 5 rfl (h_.b 7 s7)), ?_⟩
        refine ⟨fun a_ h_ => st_store (n := 1) (cells := #[i6 0]) (cs' := #[i6 l.hd.age, i6 l.hd.kind, i6 l.hd.id, i6 l.hd.adv, i6 l.hd.seq, i6 0, i6 l.hd.long]) 0 hS40 rfl (on_none rfl) rfl (h_.d 0 70) rfl rfl (by kernel_rfl) ⟨Nat.le_of_ble_eq_true rfl, rfl, by kernel_rfl⟩ rfl fun w42 hS42 he42 => ⟨_, rfl, ?_⟩, trivial⟩
        clear h_ a_ he42 hS40
        replace hS42 : S (kap W) ((blkA g39 34 #[i6 l.hd.age, i6 l.hd.kind, i6 l.hd.id, i6 l.hd.adv, i6 l.hd.seq, i6 0, i6 l.hd.long]) :: (rowA (.slice A m c) 5 1 m (u8s (bodyB l))) :: (blkA g3 37 #[i6 l.hd.age, i6 l.hd.kind, i6 l.hd.id, i6 l.hd.adv, i6 l.hd.seq, i6 l.hd.sum, i6 l.hd.long, .slice p.A l.links.length p.c, .slice p.B l.mem.length p.d]) :: []) ((memA W W.heap.size) :: []) w42 := hS42
        intro a41 hput
        replace s3 := hput.o 3 s3
        replace s7 := hput.o 7 s7
        replace hz := hput.size.trans hz
        replace hd := hput.defers.trans hd
        clear hput
        change Code.wp _ _ _ _ _
        refine wp_seq ?_
        refine seq_l [4] hz ?_
        refine ⟨.slice A m c, fun _ h_ => rmv (h_.b 3 s3),
         i6 m, fun _ h_ => rk (run_lenS rfl (h_.d 0 71) (by kernel_rfl)),
         i6 (20 + m), fun _ h_ => rk (run_addI rfl rfl (h_.d 1 72) (by omega) rfl),
         pt g39 6, fun _ h_ => rk (fa 6 rfl (h_.b 7 s7)), ?_⟩
        refine ⟨fun a_ h_ => st_store (n := 1) (cells := #[i6 (20 + m)]) (cs' := #[i6 l.hd.age, i6 l.hd.kind, i6 l.hd.id, i6 l.hd.adv, i6 l.hd.seq, i6 0, i6 (20 + m)]) 0 hS42 rfl (on_none rfl) rfl (h_.d 3 74) (h_.d 2 73) rfl (by kernel_rfl) ⟨Nat.le_of_ble_eq_true rfl, rfl, by kernel_rfl⟩ rfl fun w44 hS44 he44 => ⟨_, rfl, ?_⟩, trivial⟩
        clear h_ a_ he44 hS42
        replace hS44 : S (kap W) ((blkA g39 34 #[i6 l.hd.age, i6 l.hd.kind, i6 l.hd.id, i6 l.hd.adv, i6 l.hd.seq, i6 0, i6 (20 + m)]) :: (rowA (.slice A m c) 5 1 m (u8s (bodyB l))) :: (blkA g3 37 #[i6 l.hd.age, i6 l.hd.kind, i6 l.hd.id, i6 l.hd.adv, i6 l.hd.seq, i6 l.hd.sum, i6 l.hd.long, .slice p.A l.links.length p.c, .slice p.B l.mem.length p.d]) :: []) ((memA W W.heap.size) :: []) w44 := hS44
        intro a43 hput
        replace s3 := hput.o 3 s3
        replace s7 := hput.o 7 s7
        replace hz := hput.size.trans hz
        replace hd := hput.defers.trans hd
        clear hput
        change Code.wp _ _ _ _ _
        refine wp_seq ?_
        refine seq_l [1] hz ?_
        refine ⟨.agg #[i6 l.hd.age, i6 l.hd.kind, i6 l.hd.id, i6 l.hd.adv, i6 l.hd.seq, i6 0, i6 (20 + m)], fun _ h_ => rk (lbS 7 (hS44.blk (i := 0) rfl) rfl (h_.b 7 s7)), ?_⟩
        refine ⟨fun a_ h_ => st_call (on_none rfl) (run_call rfl (map1 (h_.d 0 75)) rfl) (headBytes04_any { l.hd with sum := 0, long := 20 + (m : Int) } _) ?_, trivial⟩
        rintro e w46 ⟨A46, c46, rfl, ho46, hb46⟩
        refine ⟨_, rfl, _, rfl, ?_⟩
        clear h_ a_
        have hS46 := hS44.pushRow hb46 ho46
        clear hS44 hb46 ho46
        refine ⟨.slice A46 20 c46, fun _ h_ => ras (h_.d 1 76), ?_⟩
        intro a45 hput
        replace s3 := hput.o 3 s3
        have s8 : sl a45 8 = .slice A46 20 c46 := hput.new 2 8 rfl
        replace hz := hput.size.trans hz
        replace hd := hput.defers.trans hd
        clear hput s7
        change Code.wp _ _ _ _ _
        refine wp_seq ?_
        refine seq_l [2] hz ?_
        refine ⟨.slice A46 20 c46, fun _ h_ => rmv (h_.b 8 s8),
         .slice A m c, fun _ h_ => rmv (h_.b 3 s3), ?_⟩
        refine ⟨fun a_ h_ => sap (bytes := 1) (news := u8s (bodyB l)) hS46 0 (on_none rfl) rfl (h_.d 0 77) (h_.d 1 78) (hS46.rd (i := 2) rfl) (by exact u8s_one _) (by (try unfold maxLen); omega) (by (try unfold maxLen); omega) fun A48 c48 w48 hS48 => ⟨_, rfl, ?_⟩, trivial⟩
        clear h_ a_ hS46
        replace hS48 : S (kap W) ((rowA (.slice A48 (20 + m) c48) 5 1 (20 + m) (u8s (headB { l.hd with sum := 0, long := 20 + (m : Int) }) ++ u8s (bodyB l))) :: (blkA g39 34 #[i6 l.hd.age, i6 l.hd.kind, i6 l.hd.id, i6 l.hd.adv, i6 l.hd.seq, i6 0, i6 (20 + m)]) :: (rowA (.slice A m c) 5 1 m (u8s (bodyB l))) :: (blkA g3 37 #[i6 l.hd.age, i6 l.hd.kind, i6 l.hd.id, i6 l.hd.adv, i6 l.hd.seq, i6 l.hd.sum, i6 l.hd.long, .slice p.A l.links.length p.c, .slice p.B l.mem.length p.d]) :: []) ((memA W W.heap.size) :: []) w48 := hS48
        rw [all_eq l m hmb] at hS48
        replace hS48 : S (kap W) ((rowA (.slice A48 (20 + m) c48) 5 1 (20 + m) (u8s (allB l))) :: (blkA g39 34 #[i6 l.hd.age, i6 l.hd.kind, i6 l.hd.id, i6 l.hd.adv, i6 l.hd.seq, i6 0, i6 (20 + m)]) :: (rowA (.slice A m c) 5 1 m (u8s (bodyB l))) :: (blkA g3 37 #[i6 l.hd.age, i6 l.hd.kind, i6 l.hd.id, i6 l.hd.adv, i6 l.hd.seq, i6 l.hd.sum, i6 l.hd.long, .slice p.A l.links.length p.c, .slice p.B l.mem.length p.d]) :: []) ((memA W W.heap.size) :: []) w48 := hS48
        refine ⟨.slice A48 (20 + m) c48, fun _ h_ => ras (h_.d 2 79), ?_⟩
        intro a47 hput
        replace s8 : sl a47 8 = .slice A48 (20 + m) c48 := hput.new 3 8 rfl
        replace hz := hput.size.trans hz
        replace hd := hput.defers.trans hd
        clear hput s3
        change Code.wp _ _ _ _ _
        refine wp_seq ?_
        refine seq_l [] hz ?_
        refine ⟨.slice none 0 0, fun _ h_ => rk (run_assign rfl rfl), ?_⟩
        intro a49 hput
        replace s8 := hput.o 8 s8
        have s9 : sl a49 9 = .slice none 0 0 := hput.new 0 9 rfl
        replace hz := hput.size.trans hz
        replace hd := hput.defers.trans hd
        clear hput
        change Code.wp _ _ _ _ _
        refine wp_seq ?_
        refine seq_l [3] hz ?_
        refine ⟨.slice none 0 0, fun _ h_ => rmv (h_.b 9 s9),
         .slice A48 (20 + m) c48, fun _ h_ => rmv (h_.b 8 s8),
         .slice (cutA A48 0 c48 1) (2 - 0) (c48 - 0), fun _ h_ => rk (run_cutH rfl (h_.d 1 81) rfl (by have := hS48.rowCap (i := 0) rfl; omega) rfl), ?_⟩
        have hS51 := hS48.nilrow 5 1
        clear hS48
        refine ⟨fun a_ h_ => sap0 (bytes := 1) (news := u8s (((allB l).drop 0).take (2 - 0))) hS51 0 (on_none rfl) rfl (h_.d 0 80) (h_.d 2 82) ((hS51.rd (i := 1) rfl).cutU (l := 0) (h := 2) (by omega) (by omega) (hS51.rowCap (i := 1) rfl)) (by exact u8s_one _) (by (try unfold maxLen); omega) (by (try unfold maxLen); omega) fun A52 c52 w52 hS52 => ⟨_, rfl, ?_⟩, trivial⟩
        clear h_ a_ hS51
        replace hS52 : S (kap W) ((rowA (.slice A52 (2 - 0) c52) 5 1 (2 - 0) (u8s (((allB l).drop 0).take (2 - 0)))) :: (rowA (.slice A48 (20 + m) c48) 5 1 (20 + m) (u8s (allB l))) :: (blkA g39 34 #[i6 l.hd.age, i6 l.hd.kind, i6 l.hd.id, i6 l.hd.adv, i6 l.hd.seq, i6 0, i6 (20 + m)]) :: (rowA (.slice A m c) 5 1 m (u8s (bodyB l))) :: (blkA g3 37 #[i6 l.hd.age, i6 l.hd.kind, i6 l.hd.id, i6 l.hd.adv, i6 l.hd.seq, i6 l.hd.sum, i6 l.hd.long, .slice p.A l.links.length p.c, .slice p.B l.mem.length p.d]) :: []) ((memA W W.heap.size) :: []) w52 := hS52
        refine ⟨.slice A52 (2 - 0) c52, fun _ h_ => ras (h_.d 3 83), ?_⟩
        intro a50 hput
        replace s8 := hput.o 8 s8
        replace s9 : sl a50 9 = .slice A52 (2 - 0) c52 := hput.new 4 9 rfl
        replace hz := hput.size.trans hz
        replace hd := hput.defers.trans hd
        clear hput
        change Code.wp _ _ _ _ _
        refine wp_seq ?_
        refine seq_l [3, 4] hz ?_
        refine ⟨.slice A52 (2 - 0) c52, fun _ h_ => rmv (h_.b 9 s9),
         .slice A48 (20 + m) c48, fun _ h_ => rmv (h_.b 8 s8),
         .slice (cutA A48 2 c48 1) ((20 + m) - 2) (c48 - 2), fun _ h_ => rk (run_cutL rfl (h_.d 1 85) rfl (by omega) rfl), ?_⟩
        refine ⟨fun a_ h_ => st_call (on_none rfl) (run_call rfl (map2 (h_.d 2 86) rfl) rfl) (fill03_any _ _ _ 14 ((allB l).drop 2) _ (by omega) (by omega) ((hS52.rd (i := 1) rfl).cutT (l := 2) (by omega) (hS52.rowCap (i := 1) rfl)) (fun z hz => allB_byte l z (List.mem_of_mem_drop hz))) ?_, trivial⟩
        rintro e w54 ⟨A54, c54, rfl, ho54, hb54⟩
        refine ⟨_, rfl, _, rfl, ?_⟩
        clear h_ a_
        have hS54 := hS52.pushRowI hb54 ho54
        clear hS52 hb54 ho54
        refine ⟨fun a_ h_ => sap (bytes := 1) (news := u8s (fillF ((allB l).drop 2) 14)) hS54 0 (on_none rfl) rfl (h_.d 0 84) (h_.d 3 87) (hS54.rdI (i := 0) rfl) (by exact u8s_one _) (by (try unfold maxLen); omega) (by (try unfold maxLen); omega) fun A55 c55 w55 hS55 => ⟨_, rfl, ?_⟩, trivial⟩
        clear h_ a_ hS54
        replace hS55 : S (kap W) ((rowA (.slice A55 (2 - 0 + ((20 + m) - 2)) c55) 5 1 (2 - 0 + ((20 + m) - 2)) (u8s (((allB l).drop 0).take (2 - 0)) ++ u8s (fillF ((allB l).drop 2) 14))) :: (rowA (.slice A48 (20 + m) c48) 5 1 (20 + m) (u8s (allB l))) :: (blkA g39 34 #[i6 l.hd.age, i6 l.hd.kind, i6 l.hd.id, i6 l.hd.adv, i6 l.hd.seq, i6 0, i6 (20 + m)]) :: (rowA (.slice A m c) 5 1 m (u8s (bodyB l))) :: (blkA g3 37 #[i6 l.hd.age, i6 l.hd.kind, i6 l.hd.id, i6 l.hd.adv, i6 l.hd.seq, i6 l.hd.sum, i6 l.hd.long, .slice p.A l.links.length p.c, .slice p.B l.mem.length p.d]) :: []) ((rowA (.slice A54 ((20 + m) - 2) c54) 5 1 ((20 + m) - 2) (u8s (fillF ((allB l).drop 2) 14))) :: (memA W W.heap.size) :: []) w55 := hS55
        refine ⟨.slice A55 (2 - 0 + ((20 + m) - 2)) c55, fun _ h_ => ras (h_.d 4 88), ?_⟩
        intro a53 hput
        have s2 : sl a53 2 = .slice A55 (2 - 0 + ((20 + m) - 2)) c55 := hput.new 5 2 rfl
        replace hz := hput.size.trans hz
        replace hd := hput.defers.trans hd
        clear hput s8 s9
        change Code.wp _ _ _ _ _
        refine wp_ret ?_
        refine ret1 (P := Try.prog) (fn := Try.f26) hd s2 (hR_ _ _ ?_)
        have hr := hS55.rowBase (i := 0) rfl (by simp : memA W W.heap.size ∈ _)
        have hn : 2 - 0 + ((20 + m) - 2) = (lsaB l).length := by rw [lsaB_length]; omega
        rw [List.drop_zero, ← u8s_append] at hr
        rw [hn] at hr ⊢
        exact ⟨_, _, rfl, hr, (hS55.old (by simp))⟩
end Go.Proofs.Ytdenfgnkbfbpmaa
