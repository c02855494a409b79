/-
  The reference's bytes of a head.
-/
import Derived.Test.YtdenfgnkbfbpmaaRef01
import Derived.Test.YtdenfgnkbfbpmaaHead
namespace Go.Proofs.Ytdenfgnkbfbpmaa
open Go.RowKit
set_option linter.unusedSimpArgs false
set_option linter.unusedVariables false

theorem head_row (h : HD) : ([] : List Value) ++ u8s (numB 2 h.age) ++ [.int .u8 0, .int .u8 (h.kind % 256)] ++ u8s (numB 4 h.id) ++ u8s (numB 4 h.adv) ++ u8s (numB 4 h.seq) ++ u8s (numB 2 h.sum) ++ u8s (numB 2 h.long) = u8s (headB h) := by
  simp [headB, putB, u8s, numB]
set_option maxRecDepth 100000 in
set_option maxHeartbeats 800000 in
theorem headBytes04_any (h : HD) (W : World) :
    Calls Try.prog 61 #[.agg #[i6 h.age, i6 h.kind, i6 h.id, i6 h.adv, i6 h.seq, i6 h.sum, i6 h.long]] W (fun r w' => ∃ A c, r = .returned (.slice A 20 c) ∧ w'.ownsRow W.heap.size 5 1 (.slice A 20 c) 20 (u8s (headB h)) ∧ Below W.heap.size W w') := by
  have hS := S.start W
  refine calls_walk Try.func61 rfl fun R_ hR_ a hz hd hargs => ?_
  replace hz : a.tmps.size = 42 := hz.trans (by kernel_rfl)
  have s0 := hargs 0 _ rfl
  clear hargs
  refine wp_seq ?_
  refine seq_l [0] hz ?_
  refine ⟨fun a_ h_ => st_box (cells := #[i6 h.age, i6 h.kind, i6 h.id, i6 h.adv, i6 h.seq, i6 h.sum, i6 h.long]) hS (on_none rfl) rfl (h_.b 0 s0) (by kernel_rfl) fun g3 w3 hS3 hb3 => ⟨_, rfl, ?_⟩, trivial⟩
  clear h_ a_ hS
  clear hb3
  refine ⟨.slice none 0 0, fun _ h_ => rk (run_assign rfl rfl), ?_⟩
  intro a2 hput
  have s1 : sl a2 1 = pt g3 0 := hput.new 0 1 rfl
  have s2 : sl a2 2 = .slice none 0 0 := hput.new 1 2 rfl
  replace hz := hput.size.trans hz
  replace hd := hput.defers.trans hd
  clear hput s0
  change Code.wp _ _ _ _ _
  refine wp_seq ?_
  refine seq_l [] hz ?_
  refine ⟨.slice none 0 0, fun _ h_ => rk (run_assign rfl rfl), ?_⟩
  intro a4 hput
  replace s1 := hput.o 1 s1
  replace s2 := hput.o 2 s2
  have s3 : sl a4 3 = .slice none 0 0 := hput.new 0 3 rfl
  replace hz := hput.size.trans hz
  replace hd := hput.defers.trans hd
  clear hput
  change Code.wp _ _ _ _ _
  refine wp_seq ?_
  refine seq_l [3, 4] hz ?_
  refine ⟨.slice none 0 0, fun _ h_ => rmv (h_.b 3 s3),
   pt g3 0, fun _ h_ => rk (fa 0 rfl (h_.b 1 s1)),
   i6 h.age, fun _ h_ => rk (ld hS3 0 rfl (h_.d 1 5)), ?_⟩
  refine ⟨fun a_ h_ => st_call (on_none rfl) (run_call rfl (map2 (h_.d 2 6) rfl) rfl) (bytes01_any h.age 2 _ (by omega)) ?_, trivial⟩
  rintro e w6 ⟨A6, c6, rfl, ho6, hb6⟩
  refine ⟨_, rfl, _, rfl, ?_⟩
  clear h_ a_
  have hS6 := hS3.pushRowI hb6 ho6
  clear hS3 hb6 ho6
  have hS7 := hS6.nilrow 5 1
  clear hS6
  refine ⟨fun a_ h_ => sap (bytes := 1) (news := u8s (numB 2 h.age)) hS7 0 (on_none rfl) rfl (h_.d 0 4) (h_.d 3 7) (hS7.rdI (i := 0) rfl) (by exact u8s_one _) (by (try unfold maxLen); omega) (by (try unfold maxLen); omega) fun A8 c8 w8 hS8 => ⟨_, rfl, ?_⟩, trivial⟩
  clear h_ a_ hS7
  replace hS8 : S (kap W) ((rowA (.slice A8 (0 + 2) c8) 5 1 (0 + 2) ([] ++ u8s (numB 2 h.age))) :: (blkA g3 34 #[i6 h.age, i6 h.kind, i6 h.id, i6 h.adv, i6 h.seq, i6 h.sum, i6 h.long]) :: []) ((rowA (.slice A6 2 c6) 5 1 2 (u8s (numB 2 h.age))) :: (memA W W.heap.size) :: []) w8 := hS8
  refine ⟨.slice A8 (0 + 2) c8, fun _ h_ => ras (h_.d 4 8), ?_⟩
  intro a5 hput
  replace s1 := hput.o 1 s1
  replace s2 := hput.o 2 s2
  replace s3 : sl a5 3 = .slice A8 (0 + 2) c8 := hput.new 5 3 rfl
  replace hz := hput.size.trans hz
  replace hd := hput.defers.trans hd
  clear hput
  change Code.wp _ _ _ _ _
  refine wp_seq ?_
  refine seq_l [6, 7] hz ?_
  refine ⟨.slice A8 (0 + 2) c8, fun _ h_ => rmv (h_.b 3 s3),
   pt g3 1, fun _ h_ => rk (fa 1 rfl (h_.b 1 s1)),
   i6 h.kind, fun _ h_ => rk (ld hS8 1 rfl (h_.d 1 10)),
   .int .u64 (h.kind % 18446744073709551616), fun _ h_ => rk (run_convW rfl (h_.d 2 11) (by kernel_rfl) (wrap_u64 _) (by kernel_rfl)),
   .int .u64 (h.kind % 18446744073709551616 % 256), fun _ h_ => rk (run_bin rfl (h_.d 3 12) rfl (by show (pure _ : Sem Value) = pure _; exact congrArg _ (congrArg _ (Int.tmod_eq_emod_of_nonneg (by omega))))),
   .int .u8 (h.kind % 256), fun _ h_ => rk (run_convW rfl (h_.d 4 13) (by kernel_rfl) (by rw [wrap_u8 (by omega)]; omega) (by kernel_rfl)), ?_⟩
  refine ⟨fun a_ h_ => st_lit (e := 5) (vals := [(0, .int .u8 0), (1, .int .u8 (h.kind % 256))]) (cells := #[.int .u8 0, .int .u8 (h.kind % 256)]) hS8 (on_none rfl) rfl (parts2 rfl (h_.d 5 14)) fun g10 w10 hS10 hb10 => ⟨_, rfl, ?_⟩, trivial⟩
  clear h_ a_ hS8
  clear hb10
  refine ⟨fun a_ h_ => sap (bytes := 1) (news := [.int .u8 0, .int .u8 (h.kind % 256)]) hS10 1 (on_none rfl) rfl (h_.d 0 9) (h_.d 6 15) (reads_blk (hS10.blk (i := 0) rfl) rfl) (by simp [Value.oneCell']) (by (try unfold maxLen); omega) (by (try unfold maxLen); omega) fun A11 c11 w11 hS11 => ⟨_, rfl, ?_⟩, trivial⟩
  clear h_ a_ hS10
  replace hS11 : S (kap W) ((blkA g10 5 #[.int .u8 0, .int .u8 (h.kind % 256)]) :: (rowA (.slice A11 (0 + 2 + 2) c11) 5 1 (0 + 2 + 2) ([] ++ u8s (numB 2 h.age) ++ [.int .u8 0, .int .u8 (h.kind % 256)])) :: (blkA g3 34 #[i6 h.age, i6 h.kind, i6 h.id, i6 h.adv, i6 h.seq, i6 h.sum, i6 h.long]) :: []) ((rowA (.slice A6 2 c6) 5 1 2 (u8s (numB 2 h.age))) :: (memA W W.heap.size) :: []) w11 := hS11
  refine ⟨.slice A11 (0 + 2 + 2) c11, fun _ h_ => ras (h_.d 7 16), ?_⟩
  intro a9 hput
  replace s1 := hput.o 1 s1
  replace s2 := hput.o 2 s2
  replace s3 : sl a9 3 = .slice A11 (0 + 2 + 2) c11 := hput.new 8 3 rfl
  replace hz := hput.size.trans hz
  replace hd := hput.defers.trans hd
  clear hput
  change Code.wp _ _ _ _ _
  refine wp_seq ?_
  refine seq_l [3, 4] hz ?_
  refine ⟨.slice A11 (0 + 2 + 2) c11, fun _ h_ => rmv (h_.b 3 s3),
   pt g3 2, fun _ h_ => rk (fa 2 rfl (h_.b 1 s1)),
   i6 h.id, fun _ h_ => rk (ld hS11 2 rfl (h_.d 1 18)), ?_⟩
  refine ⟨fun a_ h_ => st_call (on_none rfl) (run_call rfl (map2 (h_.d 2 19) rfl) rfl) (bytes01_any h.id 4 _ (by omega)) ?_, trivial⟩
  rintro e w13 ⟨A13, c13, rfl, ho13, hb13⟩
  refine ⟨_, rfl, _, rfl, ?_⟩
  clear h_ a_
  have hS13 := hS11.pushRowI hb13 ho13
  clear hS11 hb13 ho13
  refine ⟨fun a_ h_ => sap (bytes := 1) (news := u8s (numB 4 h.id)) hS13 1 (on_none rfl) rfl (h_.d 0 17) (h_.d 3 20) (hS13.rdI (i := 0) rfl) (by exact u8s_one _) (by (try unfold maxLen); omega) (by (try unfold maxLen); omega) fun A14 c14 w14 hS14 => ⟨_, rfl, ?_⟩, trivial⟩
  clear h_ a_ hS13
  replace hS14 : S (kap W) ((blkA g10 5 #[.int .u8 0, .int .u8 (h.kind % 256)]) :: (rowA (.slice A14 (0 + 2 + 2 + 4) c14) 5 1 (0 + 2 + 2 + 4) ([] ++ u8s (numB 2 h.age) ++ [.int .u8 0, .int .u8 (h.kind % 256)] ++ u8s (numB 4 h.id))) :: (blkA g3 34 #[i6 h.age, i6 h.kind, i6 h.id, i6 h.adv, i6 h.seq, i6 h.sum, i6 h.long]) :: []) ((rowA (.slice A13 4 c13) 5 1 4 (u8s (numB 4 h.id))) :: (rowA (.slice A6 2 c6) 5 1 2 (u8s (numB 2 h.age))) :: (memA W W.heap.size) :: []) w14 := hS14
  refine ⟨.slice A14 (0 + 2 + 2 + 4) c14, fun _ h_ => ras (h_.d 4 21), ?_⟩
  intro a12 hput
  replace s1 := hput.o 1 s1
  replace s2 := hput.o 2 s2
  replace s3 : sl a12 3 = .slice A14 (0 + 2 + 2 + 4) c14 := hput.new 5 3 rfl
  replace hz := hput.size.trans hz
  replace hd := hput.defers.trans hd
  clear hput
  change Code.wp _ _ _ _ _
  refine wp_seq ?_
  refine seq_l [3, 4] hz ?_
  refine ⟨.slice A14 (0 + 2 + 2 + 4) c14, fun _ h_ => rmv (h_.b 3 s3),
   pt g3 3, fun _ h_ => rk (fa 3 rfl (h_.b 1 s1)),
   i6 h.adv, fun _ h_ => rk (ld hS14 2 rfl (h_.d 1 23)), ?_⟩
  refine ⟨fun a_ h_ => st_call (on_none rfl) (run_call rfl (map2 (h_.d 2 24) rfl) rfl) (bytes01_any h.adv 4 _ (by omega)) ?_, trivial⟩
  rintro e w16 ⟨A16, c16, rfl, ho16, hb16⟩
  refine ⟨_, rfl, _, rfl, ?_⟩
  clear h_ a_
  have hS16 := hS14.pushRowI hb16 ho16
  clear hS14 hb16 ho16
  refine ⟨fun a_ h_ => sap (bytes := 1) (news := u8s (numB 4 h.adv)) hS16 1 (on_none rfl) rfl (h_.d 0 22) (h_.d 3 25) (hS16.rdI (i := 0) rfl) (by exact u8s_one _) (by (try unfold maxLen); omega) (by (try unfold maxLen); omega) fun A17 c17 w17 hS17 => ⟨_, rfl, ?_⟩, trivial⟩
  clear h_ a_ hS16
  replace hS17 : S (kap W) ((blkA g10 5 #[.int .u8 0, .int .u8 (h.kind % 256)]) :: (rowA (.slice A17 (0 + 2 + 2 + 4 + 4) c17) 5 1 (0 + 2 + 2 + 4 + 4) ([] ++ u8s (numB 2 h.age) ++ [.int .u8 0, .int .u8 (h.kind % 256)] ++ u8s (numB 4 h.id) ++ u8s (numB 4 h.adv))) :: (blkA g3 34 #[i6 h.age, i6 h.kind, i6 h.id, i6 h.adv, i6 h.seq, i6 h.sum, i6 h.long]) :: []) ((rowA (.slice A16 4 c16) 5 1 4 (u8s (numB 4 h.adv))) :: (rowA (.slice A13 4 c13) 5 1 4 (u8s (numB 4 h.id))) :: (rowA (.slice A6 2 c6) 5 1 2 (u8s (numB 2 h.age))) :: (memA W W.heap.size) :: []) w17 := hS17
  refine ⟨.slice A17 (0 + 2 + 2 + 4 + 4) c17, fun _ h_ => ras (h_.d 4 26), ?_⟩
  intro a15 hput
  replace s1 := hput.o 1 s1
  replace s2 := hput.o 2 s2
  replace s3 : sl a15 3 = .slice A17 (0 + 2 + 2 + 4 + 4) c17 := hput.new 5 3 rfl
  replace hz := hput.size.trans hz
  replace hd := hput.defers.trans hd
  clear hput
  change Code.wp _ _ _ _ _
  refine wp_seq ?_
  refine seq_l [3, 4] hz ?_
  refine ⟨.slice A17 (0 + 2 + 2 + 4 + 4) c17, fun _ h_ => rmv (h_.b 3 s3),
   pt g3 4, fun _ h_ => rk (fa 4 rfl (h_.b 1 s1)),
   i6 h.seq, fun _ h_ => rk (ld hS17 2 rfl (h_.d 1 28)), ?_⟩
  refine ⟨fun a_ h_ => st_call (on_none rfl) (run_call rfl (map2 (h_.d 2 29) rfl) rfl) (bytes01_any h.seq 4 _ (by omega)) ?_, trivial⟩
  rintro e w19 ⟨A19, c19, rfl, ho19, hb19⟩
  refine ⟨_, rfl, _, rfl, ?_⟩
  clear h_ a_
  have hS19 := hS17.pushRowI hb19 ho19
  clear hS17 hb19 ho19
  refine ⟨fun a_ h_ => sap (bytes := 1) (news := u8s (numB 4 h.seq)) hS19 1 (on_none rfl) rfl (h_.d 0 27) (h_.d 3 30) (hS19.rdI (i := 0) rfl) (by exact u8s_one _) (by (try unfold maxLen); omega) (by (try unfold maxLen); omega) fun A20 c20 w20 hS20 => ⟨_, rfl, ?_⟩, trivial⟩
  clear h_ a_ hS19
  replace hS20 : S (kap W) ((blkA g10 5 #[.int .u8 0, .int .u8 (h.kind % 256)]) :: (rowA (.slice A20 (0 + 2 + 2 + 4 + 4 + 4) c20) 5 1 (0 + 2 + 2 + 4 + 4 + 4) ([] ++ u8s (numB 2 h.age) ++ [.int .u8 0, .int .u8 (h.kind % 256)] ++ u8s (numB 4 h.id) ++ u8s (numB 4 h.adv) ++ u8s (numB 4 h.seq))) :: (blkA g3 34 #[i6 h.age, i6 h.kind, i6 h.id, i6 h.adv, i6 h.seq, i6 h.sum, i6 h.long]) :: []) ((rowA (.slice A19 4 c19) 5 1 4 (u8s (numB 4 h.seq))) :: (rowA (.slice A16 4 c16) 5 1 4 (u8s (numB 4 h.adv))) :: (rowA (.slice A13 4 c13) 5 1 4 (u8s (numB 4 h.id))) :: (rowA (.slice A6 2 c6) 5 1 2 (u8s (numB 2 h.age))) :: (memA W W.heap.size) :: []) w20 := hS20
  refine ⟨.slice A20 (0 + 2 + 2 + 4 + 4 + 4) c20, fun _ h_ => ras (h_.d 4 31), ?_⟩
  intro a18 hput
  replace s1 := hput.o 1 s1
  replace s2 := hput.o 2 s2
  replace s3 : sl a18 3 = .slice A20 (0 + 2 + 2 + 4 + 4 + 4) c20 := hput.new 5 3 rfl
  replace hz := hput.size.trans hz
  replace hd := hput.defers.trans hd
  clear hput
  change Code.wp _ _ _ _ _
  refine wp_seq ?_
  refine seq_l [3, 4] hz ?_
  refine ⟨.slice A20 (0 + 2 + 2 + 4 + 4 + 4) c20, fun _ h_ => rmv (h_.b 3 s3),
   pt g3 5, fun _ h_ => rk (fa 5 rfl (h_.b 1 s1)),
   i6 h.sum, fun _ h_ => rk (ld hS20 2 rfl (h_.d 1 33)), ?_⟩
  refine ⟨fun a_ h_ => st_call (on_none rfl) (run_call rfl (map2 (h_.d 2 34) rfl) rfl) (bytes01_any h.sum 2 _ (by omega)) ?_, trivial⟩
  rintro e w22 ⟨A22, c22, rfl, ho22, hb22⟩
  refine ⟨_, rfl, _, rfl, ?_⟩
  clear h_ a_
  have hS22 := hS20.pushRowI hb22 ho22
  clear hS20 hb22 ho22
  refine ⟨fun a_ h_ => sap (bytes := 1) (news := u8s (numB 2 h.sum)) hS22 1 (on_none rfl) rfl (h_.d 0 32) (h_.d 3 35) (hS22.rdI (i := 0) rfl) (by exact u8s_one _) (by (try unfold maxLen); omega) (by (try unfold maxLen); omega) fun A23 c23 w23 hS23 => ⟨_, rfl, ?_⟩, trivial⟩
  clear h_ a_ hS22
  replace hS23 : S (kap W) ((blkA g10 5 #[.int .u8 0, .int .u8 (h.kind % 256)]) :: (rowA (.slice A23 (0 + 2 + 2 + 4 + 4 + 4 + 2) c23) 5 1 (0 + 2 + 2 + 4 + 4 + 4 + 2) ([] ++ u8s (numB 2 h.age) ++ [.int .u8 0, .int .u8 (h.kind % 256)] ++ u8s (numB 4 h.id) ++ u8s (numB 4 h.adv) ++ u8s (numB 4 h.seq) ++ u8s (numB 2 h.sum))) :: (blkA g3 34 #[i6 h.age, i6 h.kind, i6 h.id, i6 h.adv, i6 h.seq, i6 h.sum, i6 h.long]) :: []) ((rowA (.slice A22 2 c22) 5 1 2 (u8s (numB 2 h.sum))) :: (rowA (.slice A19 4 c19) 5 1 4 (u8s (numB 4 h.seq))) :: (rowA (.slice A16 4 c16) 5 1 4 (u8s (numB 4 h.adv))) :: (rowA (.slice A13 4 c13) 5 1 4 (u8s (numB 4 h.id))) :: (rowA (.slice A6 2 c6) 5 1 2 (u8s (numB 2 h.age))) :: (memA W W.heap.size) :: []) w23 := hS23
  refine ⟨.slice A23 (0 + 2 + 2 + 4 + 4 + 4 + 2) c23, fun _ h_ => ras (h_.d 4 36), ?_⟩
  intro a21 hput
  replace s1 := hput.o 1 s1
  replace s2 := hput.o 2 s2
  replace s3 : sl a21 3 = .slice A23 (0 + 2 + 2 + 4 + 4 + 4 + 2) c23 := hput.new 5 3 rfl
  replace hz := hput.size.trans hz
  replace hd := hput.defers.trans hd
  clear hput
  change Code.wp _ _ _ _ _
  refine wp_seq ?_
  refine seq_l [3, 4] hz ?_
  refine ⟨.slice A23 (0 + 2 + 2 + 4 + 4 + 4 + 2) c23, fun _ h_ => rmv (h_.b 3 s3),
   pt g3 6, fun _ h_ => rk (fa 6 rfl (h_.b 1 s1)),
   i6 h.long, fun _ h_ => rk (ld hS23 2 rfl (h_.d 1 38)), ?_⟩
  refine ⟨fun a_ h_ => st_call (on_none rfl) (run_call rfl (map2 (h_.d 2 39) rfl) rfl) (bytes01_any h.long 2 _ (by omega)) ?_, trivial⟩
  rintro e w25 ⟨A25, c25, rfl, ho25, hb25⟩
  refine ⟨_, rfl, _, rfl, ?_⟩
  clear h_ a_
  have hS25 := hS23.pushRowI hb25 ho25
  clear hS23 hb25 ho25
  refine ⟨fun a_ h_ => sap (bytes := 1) (news := u8s (numB 2 h.long)) hS25 1 (on_none rfl) rfl (h_.d 0 37) (h_.d 3 40) (hS25.rdI (i := 0) rfl) (by exact u8s_one _) (by (try unfold maxLen); omega) (by (try unfold maxLen); omega) fun A26 c26 w26 hS26 => ⟨_, rfl, ?_⟩, trivial⟩
  clear h_ a_ hS25
  replace hS26 : S (kap W) ((blkA g10 5 #[.int .u8 0, .int .u8 (h.kind % 256)]) :: (rowA (.slice A26 (0 + 2 + 2 + 4 + 4 + 4 + 2 + 2) c26) 5 1 (0 + 2 + 2 + 4 + 4 + 4 + 2 + 2) ([] ++ u8s (numB 2 h.age) ++ [.int .u8 0, .int .u8 (h.kind % 256)] ++ u8s (numB 4 h.id) ++ u8s (numB 4 h.adv) ++ u8s (numB 4 h.seq) ++ u8s (numB 2 h.sum) ++ u8s (numB 2 h.long))) :: (blkA g3 34 #[i6 h.age, i6 h.kind, i6 h.id, i6 h.adv, i6 h.seq, i6 h.sum, i6 h.long]) :: []) ((rowA (.slice A25 2 c25) 5 1 2 (u8s (numB 2 h.long))) :: (rowA (.slice A22 2 c22) 5 1 2 (u8s (numB 2 h.sum))) :: (rowA (.slice A19 4 c19) 5 1 4 (u8s (numB 4 h.seq))) :: (rowA (.slice A16 4 c16) 5 1 4 (u8s (numB 4 h.adv))) :: (rowA (.slice A13 4 c13) 5 1 4 (u8s (numB 4 h.id))) :: (rowA (.slice A6 2 c6) 5 1 2 (u8s (numB 2 h.age))) :: (memA W W.heap.size) :: []) w26 := hS26
  refine ⟨.slice A26 (0 + 2 + 2 + 4 + 4 + 4 + 2 + 2) c26, fun _ h_ => ras (h_.d 4 41), ?_⟩
  intro a24 hput
  replace s2 : sl a24 2 = .slice A26 (0 + 2 + 2 + 4 + 4 + 4 + 2 + 2) c26 := hput.new 5 2 rfl
  replace hz := hput.size.trans hz
  replace hd := hput.defers.trans hd
  clear hput s1 s3
  change Code.wp _ _ _ _ _
  refine wp_ret ?_
  refine ret1 (P := Try.prog) (fn := Try.f61) hd s2 (hR_ _ _ ?_)
  have hr := hS26.rowBase (i := 1) rfl (by simp : memA W W.heap.size ∈ _)
  rw [head_row h] at hr
  exact ⟨_, _, rfl, hr, (hS26.old (by simp))⟩
end Go.Proofs.Ytdenfgnkbfbpmaa
