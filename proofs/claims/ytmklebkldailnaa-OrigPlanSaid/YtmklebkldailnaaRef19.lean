/-
  The reference's seal and plan.
-/
import Derived.Test.YtmklebkldailnaaRef04c
import Derived.Test.YtmklebkldailnaaSame04
import Derived.Test.YtmklebkldailnaaPlan
namespace Go.Proofs.Ytmklebkldailnaa
open Go.RowKit
set_option linter.unusedSimpArgs false
set_option linter.unusedVariables false

/-- a row of its own above a bound -/
def rowB (B : Nat) (v : Value) (e size n : Nat) (xs : List Value) : Atom where
  holds w fp := fp = v.ownBlock.toList ∧ w.ownsRow B e size v n xs
  loc := fun ⟨h1, ho⟩ hb => ⟨h1, ho.1, by
    rcases ho.2 with h0 | ⟨g, cap, cur, rfl, h3, hh, r⟩
    · exact .inl h0
    · exact .inr ⟨g, cap, cur, rfl, h3, (hb g (by rw [h1]; simp [Value.ownBlock])).trans hh, r⟩⟩
  dom := fun ⟨h1, h2⟩ b hb => by
    rw [h1] at hb
    exact own_lt (own_mono h2 (Nat.zero_le _)) (by simpa using hb)
theorem S.pushLB {κ : Kap} {L I : List Atom} {B : Nat} {w w' : World} {l : LV} {q : LP} (hS : S κ L I w) (hB : B ≤ w.heap.size) (hb : Below w.heap.size w w') (hO : LOwn w' w.heap.size l q) :
    S κ L (rowB B (.slice q.A l.links.length q.c) 69 4 l.links.length (rowC Lk.cells l.links) :: rowB B (.slice q.B l.mem.length q.d) 3 1 l.mem.length (ints l.mem) :: I) w' := by
  refine hS.pushIs (M := [_, _]) hb fun a ha => ?_
  simp only [List.mem_cons, List.not_mem_nil, or_false] at ha
  rcases ha with rfl | rfl
  · exact ⟨_, ⟨rfl, own_mono hO.links hB⟩, fun b hb => (own_base hO.links (by simpa using hb)).1⟩
  · exact ⟨_, ⟨rfl, own_mono hO.mem hB⟩, fun b hb => (own_base hO.mem (by simpa using hb)).1⟩
theorem lown_of {κ : Kap} {L I : List Atom} {B : Nat} {w : World} {l : LV} {q : LP} (hS : S κ L I w) (i : Nat) (h1 : I[i]? = some (rowB B (.slice q.A l.links.length q.c) 69 4 l.links.length (rowC Lk.cells l.links)) := by rfl) (h2 : I[i + 1]? = some (rowB B (.slice q.B l.mem.length q.d) 3 1 l.mem.length (ints l.mem)) := by rfl) : LOwn w B l q :=
  ⟨(hS.imm h1).elim fun _ h => h.2, (hS.imm h2).elim fun _ h => h.2⟩
theorem lkC_one (l : List Lk) : ∀ u ∈ rowC Lk.cells l, u.oneCell' = true := by
  intro u hu
  obtain ⟨x, _, hx⟩ := List.mem_flatMap.1 hu
  exact Lk.cells_one x u hx
theorem ints_one19 (l : List Int) : ∀ u ∈ ints l, u.oneCell' = true := by
  intro u hu
  obtain ⟨x, _, rfl⟩ := List.mem_map.1 hu
  rfl
abbrev withF (l : LV) (age seq : Int) : LV := { l with hd := { l.hd with age := age, seq := seq } }
abbrev doneA (l : LV) (q : LP) (n : Int) : Array Value := #[.int .i64 l.hd.age, .int .i64 l.hd.kind, .int .i64 l.hd.id, .int .i64 l.hd.adv, .int .i64 l.hd.seq, .int .i64 l.hd.sum, .int .i64 l.hd.long, .slice q.A l.links.length q.c, .slice q.B l.mem.length q.d, .int .i64 n]
theorem right_one {l : LV} (h : rightB l = true) : l.hd.kind = 1 → l.mem = [] := by
  intro hk
  unfold rightB at h
  rw [if_pos hk] at h
  simp only [Bool.and_eq_true, decide_eq_true_eq] at h
  exact List.length_eq_zero_iff.1 h.2.1.2
theorem num_two (n : Int) (h : 0 ≤ n ∧ n < 65536) : numOf (numB 2 n) = n := by
  simp [numB, numOf]; omega
theorem head_long (h : HD) : (headB h).drop 18 = numB 2 h.long := by simp [headB, putB, numB]
theorem body_small (l : LV) (hl : l.links.length ≤ 100) (hm : l.mem.length ≤ 100) : (bodyB l).length ≤ 2000 := by
  unfold bodyB
  split
  · rw [List.length_append, flat_len, putB_length]; simp; omega
  · rw [putB_length]; omega
theorem lsaB_tail (l : LV) : (lsaB l).drop 18 = (allB l).drop 18 := by
  have hal := allB_length l
  have hd : ((allB l).drop 2).length = 18 + (bodyB l).length := by rw [List.length_drop]; omega
  have ht : ((allB l).take 2).length = 2 := by rw [List.length_take]; omega
  have e1 : (fillF ((allB l).drop 2) 14).drop 16 = ((allB l).drop 2).drop 16 := by
    unfold fillF
    generalize (allB l).drop 2 = X at hd ⊢
    rw [two_parts X 14 _ _ (by omega), List.drop_append]
    have h14 : (X.take 14).length = 14 := by rw [List.length_take]; omega
    rw [List.drop_eq_nil_of_le (by omega), h14, List.nil_append]
    rfl
  rw [lsaB, List.drop_append, List.drop_eq_nil_of_le (by omega), ht, List.nil_append, show 18 - 2 = 16 from rfl, e1, List.drop_drop]
theorem long_len (l : LV) (hl : l.links.length ≤ 100) (hm : l.mem.length ≤ 100) : numOf (((lsaB l).drop 18).take 2) = ((lsaB l).length : Int) := by
  have hb := body_small l hl hm
  have h20 : (headB { l.hd with sum := 0, long := 20 + (bodyB l).length }).length = 20 := headB_length _
  rw [lsaB_tail, lsaB_length, allB, List.drop_append_of_le_length (by omega), head_long, List.take_append_of_le_length (by simp [numB]), List.take_of_length_le (by simp [numB])]
  show numOf (numB 2 (20 + ((bodyB l).length : Int))) = _
  rw [num_two (20 + ((bodyB l).length : Int)) (by omega)]
  omega
set_option maxRecDepth 100000 in
set_option maxHeartbeats 800000 in
theorem with19_any (l : LV) (p : LP) (age seq : Int) (W : World) (h1 : l.links.length ≤ 100) (h2 : l.mem.length ≤ 100) (hok : LOK W l p) :
    Calls Try.prog 25 #[.agg #[i6 l.hd.age, i6 l.hd.kind, i6 l.hd.id, i6 l.hd.adv, i6 l.hd.seq, i6 l.hd.sum, i6 l.hd.long, .slice p.A l.links.length p.c, .slice p.B l.mem.length p.d], i6 age, i6 seq] W (fun r w' => ∃ q, r = .returned (.agg (lsaA (withF l age seq) q)) ∧ LOwn w' W.heap.size (withF l age seq) q ∧ Below W.heap.size W w') := by
  have hS := S.start W
  refine calls_walk Try.func25 rfl fun R_ hR_ a hz hd hargs => ?_
  replace hz : a.tmps.size = 30 := hz.trans (by kernel_rfl)
  have s0 := hargs 0 _ rfl
  have s1 := hargs 1 _ rfl
  have s2 := hargs 2 _ rfl
  clear hargs
  refine wp_seq ?_
  refine seq_l [0, 1] hz ?_
  refine ⟨fun a_ h_ => st_box (cells := #[i6 l.hd.age, i6 l.hd.kind, i6 l.hd.id, i6 l.hd.adv, i6 l.hd.seq, i6 l.hd.sum, i6 l.hd.long, .slice p.A l.links.length p.c, .slice p.B l.mem.length p.d]) hS (on_none rfl) rfl (h_.b 0 s0) (by kernel_rfl) fun g3 w3 hS3 hb3 => ⟨_, rfl, ?_⟩, trivial⟩
  clear h_ a_ hS
  clear hb3
  refine ⟨fun a_ h_ => st_alloc (cells := #[i6 0, i6 0, i6 0, i6 0, i6 0, i6 0, i6 0, .slice none 0 0, .slice none 0 0]) hS3 (on_none rfl) rfl (by kernel_rfl) fun g4 w4 hS4 hb4 => ⟨_, rfl, ?_⟩, trivial⟩
  clear h_ a_ hS3
  clear hb4
  intro a2 hput
  replace s1 := hput.o 1 s1
  replace s2 := hput.o 2 s2
  have s3 : sl a2 3 = pt g3 0 := hput.new 0 3 rfl
  have s6 : sl a2 6 = pt g4 0 := hput.new 1 6 rfl
  replace hz := hput.size.trans hz
  replace hd := hput.defers.trans hd
  clear hput s0
  change Code.wp _ _ _ _ _
  refine wp_seq ?_
  refine seq_l [3, 4] hz ?_
  refine ⟨pt g3 0, fun _ h_ => rk (fa 0 rfl (h_.b 3 s3)),
   .agg #[i6 l.hd.age, i6 l.hd.kind, i6 l.hd.id, i6 l.hd.adv, i6 l.hd.seq, i6 l.hd.sum, i6 l.hd.long], fun _ h_ => rk (lbS 7 (hS4.blk (i := 1) rfl) rfl (h_.d 0 8)),
   .agg #[i6 l.hd.age, i6 l.hd.kind, i6 l.hd.id, i6 l.hd.adv, i6 l.hd.seq, i6 l.hd.sum, i6 l.hd.long, .slice none 0 0, .slice none 0 0], fun _ h_ => rk (run_build (vals := #[(0, .agg #[i6 l.hd.age, i6 l.hd.kind, i6 l.hd.id, i6 l.hd.adv, i6 l.hd.seq, i6 l.hd.sum, i6 l.hd.long])]) (r := .agg #[i6 l.hd.age, i6 l.hd.kind, i6 l.hd.id, i6 l.hd.adv, i6 l.hd.seq, i6 l.hd.sum, i6 l.hd.long, .slice none 0 0, .slice none 0 0]) rfl (bp1 (h_.d 1 9)) (by kernel_rfl)), ?_⟩
  refine ⟨fun a_ h_ => st_alloc (cells := #[i6 0, i6 0, i6 0, i6 0, i6 0, i6 0, i6 0, .slice none 0 0, .slice none 0 0]) hS4 (on_none rfl) rfl (by kernel_rfl) fun g6 w6 hS6 hb6 => ⟨_, rfl, ?_⟩, trivial⟩
  clear h_ a_ hS4
  clear hb6
  refine ⟨fun a_ h_ => st_store (n := 9) (cells := #[i6 l.hd.age, i6 l.hd.kind, i6 l.hd.id, i6 l.hd.adv, i6 l.hd.seq, i6 l.hd.sum, i6 l.hd.long, .slice none 0 0, .slice none 0 0]) (cs' := #[i6 l.hd.age, i6 l.hd.kind, i6 l.hd.id, i6 l.hd.adv, i6 l.hd.seq, i6 l.hd.sum, i6 l.hd.long, .slice none 0 0, .slice none 0 0]) 0 hS6 rfl (on_none rfl) rfl (h_.d 3 7) (h_.d 2 10) rfl (by kernel_rfl) ⟨Nat.le_of_ble_eq_true rfl, rfl, by kernel_rfl⟩ rfl fun w7 hS7 he7 => ⟨_, rfl, ?_⟩, trivial⟩
  clear h_ a_ he7 hS6
  replace hS7 : S (kap W) ((blkA g6 27 #[i6 l.hd.age, i6 l.hd.kind, i6 l.hd.id, i6 l.hd.adv, i6 l.hd.seq, i6 l.hd.sum, i6 l.hd.long, .slice none 0 0, .slice none 0 0]) :: (blkA g4 27 #[i6 0, i6 0, i6 0, i6 0, i6 0, i6 0, i6 0, .slice none 0 0, .slice none 0 0]) :: (blkA g3 27 #[i6 l.hd.age, i6 l.hd.kind, i6 l.hd.id, i6 l.hd.adv, i6 l.hd.seq, i6 l.hd.sum, i6 l.hd.long, .slice p.A l.links.length p.c, .slice p.B l.mem.length p.d]) :: []) ((memA W W.heap.size) :: []) w7 := hS7
  intro a5 hput
  replace s1 := hput.o 1 s1
  replace s2 := hput.o 2 s2
  replace s3 := hput.o 3 s3
  replace s6 := hput.o 6 s6
  have s7 : sl a5 7 = pt g6 0 := hput.new 3 7 rfl
  replace hz := hput.size.trans hz
  replace hd := hput.defers.trans hd
  clear hput
  change Code.wp _ _ _ _ _
  refine wp_seq ?_
  refine seq_l [4, 6] hz ?_
  refine ⟨pt g6 7, fun _ h_ => rk (fa 7 rfl (h_.b 7 s7)),
   .slice none 0 0, fun _ h_ => rk (ld hS7 0 rfl (h_.d 0 11)),
   pt g3 7, fun _ h_ => rk (fa 7 rfl (h_.b 3 s3)),
   .slice p.A l.links.length p.c, fun _ h_ => rk (ld hS7 2 rfl (h_.d 2 13)), ?_⟩
  have hS9 := hS7.nilrow 69 4
  clear hS7
  refine ⟨fun a_ h_ => sap0 (bytes := 32) (news := rowC Lk.cells l.links) hS9 0 (on_none rfl) rfl (h_.d 1 12) (h_.d 3 14) (Reads.old hok.links (hS9.old (by simp))) (by exact lkC_one _) (by (try unfold maxLen); omega) (by (try unfold maxLen); omega) fun A10 c10 w10 hS10 => ⟨_, rfl, ?_⟩, trivial⟩
  clear h_ a_ hS9
  replace hS10 : S (kap W) ((rowA (.slice A10 l.links.length c10) 69 4 l.links.length (rowC Lk.cells l.links)) :: (blkA g6 27 #[i6 l.hd.age, i6 l.hd.kind, i6 l.hd.id, i6 l.hd.adv, i6 l.hd.seq, i6 l.hd.sum, i6 l.hd.long, .slice none 0 0, .slice none 0 0]) :: (blkA g4 27 #[i6 0, i6 0, i6 0, i6 0, i6 0, i6 0, i6 0, .slice none 0 0, .slice none 0 0]) :: (blkA g3 27 #[i6 l.hd.age, i6 l.hd.kind, i6 l.hd.id, i6 l.hd.adv, i6 l.hd.seq, i6 l.hd.sum, i6 l.hd.long, .slice p.A l.links.length p.c, .slice p.B l.mem.length p.d]) :: []) ((memA W W.heap.size) :: []) w10 := hS10
  refine ⟨pt g6 7, fun _ h_ => rk (fa 7 rfl (h_.b 7 s7)), ?_⟩
  refine ⟨fun a_ h_ => st_store (n := 1) (cells := #[.slice A10 l.links.length c10]) (cs' := #[i6 l.hd.age, i6 l.hd.kind, i6 l.hd.id, i6 l.hd.adv, i6 l.hd.seq, i6 l.hd.sum, i6 l.hd.long, .slice A10 l.links.length c10, .slice none 0 0]) 1 hS10 rfl (on_none rfl) rfl (h_.d 5 16) (h_.d 4 15) rfl (by kernel_rfl) ⟨Nat.le_of_ble_eq_true rfl, rfl, by kernel_rfl⟩ rfl fun w11 hS11 he11 => ⟨_, rfl, ?_⟩, trivial⟩
  clear h_ a_ he11 hS10
  replace hS11 : S (kap W) ((rowA (.slice A10 l.links.length c10) 69 4 l.links.length (rowC Lk.cells l.links)) :: (blkA g6 27 #[i6 l.hd.age, i6 l.hd.kind, i6 l.hd.id, i6 l.hd.adv, i6 l.hd.seq, i6 l.hd.sum, i6 l.hd.long, .slice A10 l.links.length c10, .slice none 0 0]) :: (blkA g4 27 #[i6 0, i6 0, i6 0, i6 0, i6 0, i6 0, i6 0, .slice none 0 0, .slice none 0 0]) :: (blkA g3 27 #[i6 l.hd.age, i6 l.hd.kind, i6 l.hd.id, i6 l.hd.adv, i6 l.hd.seq, i6 l.hd.sum, i6 l.hd.long, .slice p.A l.links.length p.c, .slice p.B l.mem.length p.d]) :: []) ((memA W W.heap.size) :: []) w11 := hS11
  intro a8 hput
  replace s1 := hput.o 1 s1
  replace s2 := hput.o 2 s2
  replace s3 := hput.o 3 s3
  replace s6 := hput.o 6 s6
  replace s7 := hput.o 7 s7
  replace hz := hput.size.trans hz
  replace hd := hput.defers.trans hd
  clear hput
  change Code.wp _ _ _ _ _
  refine wp_seq ?_
  refine seq_l [4, 6] hz ?_
  refine ⟨pt g6 8, fun _ h_ => rk (fa 8 rfl (h_.b 7 s7)),
   .slice none 0 0, fun _ h_ => rk (ld hS11 1 rfl (h_.d 0 17)),
   pt g3 8, fun _ h_ => rk (fa 8 rfl (h_.b 3 s3)),
   .slice p.B l.mem.length p.d, fun _ h_ => rk (ld hS11 3 rfl (h_.d 2 19)), ?_⟩
  have hS13 := hS11.nilrow 3 1
  clear hS11
  refine ⟨fun a_ h_ => sap0 (bytes := 8) (news := ints l.mem) hS13 0 (on_none rfl) rfl (h_.d 1 18) (h_.d 3 20) (Reads.old hok.mem (hS13.old (by simp))) (by exact ints_one19 _) (by (try unfold maxLen); omega) (by (try unfold maxLen); omega) fun A14 c14 w14 hS14 => ⟨_, rfl, ?_⟩, trivial⟩
  clear h_ a_ hS13
  replace hS14 : S (kap W) ((rowA (.slice A14 l.mem.length c14) 3 1 l.mem.length (ints l.mem)) :: (rowA (.slice A10 l.links.length c10) 69 4 l.links.length (rowC Lk.cells l.links)) :: (blkA g6 27 #[i6 l.hd.age, i6 l.hd.kind, i6 l.hd.id, i6 l.hd.adv, i6 l.hd.seq, i6 l.hd.sum, i6 l.hd.long, .slice A10 l.links.length c10, .slice none 0 0]) :: (blkA g4 27 #[i6 0, i6 0, i6 0, i6 0, i6 0, i6 0, i6 0, .slice none 0 0, .slice none 0 0]) :: (blkA g3 27 #[i6 l.hd.age, i6 l.hd.kind, i6 l.hd.id, i6 l.hd.adv, i6 l.hd.seq, i6 l.hd.sum, i6 l.hd.long, .slice p.A l.links.length p.c, .slice p.B l.mem.length p.d]) :: []) ((memA W W.heap.size) :: []) w14 := hS14
  refine ⟨pt g6 8, fun _ h_ => rk (fa 8 rfl (h_.b 7 s7)), ?_⟩
  refine ⟨fun a_ h_ => st_store (n := 1) (cells := #[.slice A14 l.mem.length c14]) (cs' := #[i6 l.hd.age, i6 l.hd.kind, i6 l.hd.id, i6 l.hd.adv, i6 l.hd.seq, i6 l.hd.sum, i6 l.hd.long, .slice A10 l.links.length c10, .slice A14 l.mem.length c14]) 2 hS14 rfl (on_none rfl) rfl (h_.d 5 22) (h_.d 4 21) rfl (by kernel_rfl) ⟨Nat.le_of_ble_eq_true rfl, rfl, by kernel_rfl⟩ rfl fun w15 hS15 he15 => ⟨_, rfl, ?_⟩, trivial⟩
  clear h_ a_ he15 hS14
  replace hS15 : S (kap W) ((rowA (.slice A14 l.mem.length c14) 3 1 l.mem.length (ints l.mem)) :: (rowA (.slice A10 l.links.length c10) 69 4 l.links.length (rowC Lk.cells l.links)) :: (blkA g6 27 #[i6 l.hd.age, i6 l.hd.kind, i6 l.hd.id, i6 l.hd.adv, i6 l.hd.seq, i6 l.hd.sum, i6 l.hd.long, .slice A10 l.links.length c10, .slice A14 l.mem.length c14]) :: (blkA g4 27 #[i6 0, i6 0, i6 0, i6 0, i6 0, i6 0, i6 0, .slice none 0 0, .slice none 0 0]) :: (blkA g3 27 #[i6 l.hd.age, i6 l.hd.kind, i6 l.hd.id, i6 l.hd.adv, i6 l.hd.seq, i6 l.hd.sum, i6 l.hd.long, .slice p.A l.links.length p.c, .slice p.B l.mem.length p.d]) :: []) ((memA W W.heap.size) :: []) w15 := hS15
  intro a12 hput
  replace s1 := hput.o 1 s1
  replace s2 := hput.o 2 s2
  replace s6 := hput.o 6 s6
  replace s7 := hput.o 7 s7
  replace hz := hput.size.trans hz
  replace hd := hput.defers.trans hd
  clear hput s3
  change Code.wp _ _ _ _ _
  refine wp_seq ?_
  refine seq_l [3] hz ?_
  refine ⟨i6 age, fun _ h_ => rmv (h_.b 1 s1),
   pt g6 0, fun _ h_ => rk (fa 0 rfl (h_.b 7 s7)),
   pt g6 0, fun _ h_ => rk (fa 0 rfl (h_.d 1 24)), ?_⟩
  refine ⟨fun a_ h_ => st_store (n := 1) (cells := #[i6 age]) (cs' := #[i6 age, i6 l.hd.kind, i6 l.hd.id, i6 l.hd.adv, i6 l.hd.seq, i6 l.hd.sum, i6 l.hd.long, .slice A10 l.links.length c10, .slice A14 l.mem.length c14]) 2 hS15 rfl (on_none rfl) rfl (h_.d 2 25) (h_.d 0 23) rfl (by kernel_rfl) ⟨Nat.le_of_ble_eq_true rfl, rfl, by kernel_rfl⟩ rfl fun w17 hS17 he17 => ⟨_, rfl, ?_⟩, trivial⟩
  clear h_ a_ he17 hS15
  replace hS17 : S (kap W) ((rowA (.slice A14 l.mem.length c14) 3 1 l.mem.length (ints l.mem)) :: (rowA (.slice A10 l.links.length c10) 69 4 l.links.length (rowC Lk.cells l.links)) :: (blkA g6 27 #[i6 age, i6 l.hd.kind, i6 l.hd.id, i6 l.hd.adv, i6 l.hd.seq, i6 l.hd.sum, i6 l.hd.long, .slice A10 l.links.length c10, .slice A14 l.mem.length c14]) :: (blkA g4 27 #[i6 0, i6 0, i6 0, i6 0, i6 0, i6 0, i6 0, .slice none 0 0, .slice none 0 0]) :: (blkA g3 27 #[i6 l.hd.age, i6 l.hd.kind, i6 l.hd.id, i6 l.hd.adv, i6 l.hd.seq, i6 l.hd.sum, i6 l.hd.long, .slice p.A l.links.length p.c, .slice p.B l.mem.length p.d]) :: []) ((memA W W.heap.size) :: []) w17 := hS17
  intro a16 hput
  replace s2 := hput.o 2 s2
  replace s6 := hput.o 6 s6
  replace s7 := hput.o 7 s7
  replace hz := hput.size.trans hz
  replace hd := hput.defers.trans hd
  clear hput s1
  change Code.wp _ _ _ _ _
  refine wp_seq ?_
  refine seq_l [3] hz ?_
  refine ⟨i6 seq, fun _ h_ => rmv (h_.b 2 s2),
   pt g6 0, fun _ h_ => rk (fa 0 rfl (h_.b 7 s7)),
   pt g6 4, fun _ h_ => rk (fa 4 rfl (h_.d 1 27)), ?_⟩
  refine ⟨fun a_ h_ => st_store (n := 1) (cells := #[i6 seq]) (cs' := #[i6 age, i6 l.hd.kind, i6 l.hd.id, i6 l.hd.adv, i6 seq, i6 l.hd.sum, i6 l.hd.long, .slice A10 l.links.length c10, .slice A14 l.mem.length c14]) 2 hS17 rfl (on_none rfl) rfl (h_.d 2 28) (h_.d 0 26) rfl (by kernel_rfl) ⟨Nat.le_of_ble_eq_true rfl, rfl, by kernel_rfl⟩ rfl fun w19 hS19 he19 => ⟨_, rfl, ?_⟩, trivial⟩
  clear h_ a_ he19 hS17
  replace hS19 : S (kap W) ((rowA (.slice A14 l.mem.length c14) 3 1 l.mem.length (ints l.mem)) :: (rowA (.slice A10 l.links.length c10) 69 4 l.links.length (rowC Lk.cells l.links)) :: (blkA g6 27 #[i6 age, i6 l.hd.kind, i6 l.hd.id, i6 l.hd.adv, i6 seq, i6 l.hd.sum, i6 l.hd.long, .slice A10 l.links.length c10, .slice A14 l.mem.length c14]) :: (blkA g4 27 #[i6 0, i6 0, i6 0, i6 0, i6 0, i6 0, i6 0, .slice none 0 0, .slice none 0 0]) :: (blkA g3 27 #[i6 l.hd.age, i6 l.hd.kind, i6 l.hd.id, i6 l.hd.adv, i6 l.hd.seq, i6 l.hd.sum, i6 l.hd.long, .slice p.A l.links.length p.c, .slice p.B l.mem.length p.d]) :: []) ((memA W W.heap.size) :: []) w19 := hS19
  intro a18 hput
  replace s6 := hput.o 6 s6
  replace s7 := hput.o 7 s7
  replace hz := hput.size.trans hz
  replace hd := hput.defers.trans hd
  clear hput s2
  change Code.wp _ _ _ _ _
  refine wp_seq ?_
  refine seq_l [1] hz ?_
  refine ⟨.agg #[i6 age, i6 l.hd.kind, i6 l.hd.id, i6 l.hd.adv, i6 seq, i6 l.hd.sum, i6 l.hd.long, .slice A10 l.links.length c10, .slice A14 l.mem.length c14], fun _ h_ => rk (lbS 9 (hS19.blk (i := 2) rfl) rfl (h_.b 7 s7)), ?_⟩
  refine ⟨fun a_ h_ => st_store (n := 9) (cells := #[i6 age, i6 l.hd.kind, i6 l.hd.id, i6 l.hd.adv, i6 seq, i6 l.hd.sum, i6 l.hd.long, .slice A10 l.links.length c10, .slice A14 l.mem.length c14]) (cs' := #[i6 age, i6 l.hd.kind, i6 l.hd.id, i6 l.hd.adv, i6 seq, i6 l.hd.sum, i6 l.hd.long, .slice A10 l.links.length c10, .slice A14 l.mem.length c14]) 3 hS19 rfl (on_none rfl) rfl (h_.b 6 s6) (h_.d 0 29) rfl (by kernel_rfl) ⟨Nat.le_of_ble_eq_true rfl, rfl, by kernel_rfl⟩ rfl fun w21 hS21 he21 => ⟨_, rfl, ?_⟩, trivial⟩
  clear h_ a_ he21 hS19
  replace hS21 : S (kap W) ((rowA (.slice A14 l.mem.length c14) 3 1 l.mem.length (ints l.mem)) :: (rowA (.slice A10 l.links.length c10) 69 4 l.links.length (rowC Lk.cells l.links)) :: (blkA g6 27 #[i6 age, i6 l.hd.kind, i6 l.hd.id, i6 l.hd.adv, i6 seq, i6 l.hd.sum, i6 l.hd.long, .slice A10 l.links.length c10, .slice A14 l.mem.length c14]) :: (blkA g4 27 #[i6 age, i6 l.hd.kind, i6 l.hd.id, i6 l.hd.adv, i6 seq, i6 l.hd.sum, i6 l.hd.long, .slice A10 l.links.length c10, .slice A14 l.mem.length c14]) :: (blkA g3 27 #[i6 l.hd.age, i6 l.hd.kind, i6 l.hd.id, i6 l.hd.adv, i6 l.hd.seq, i6 l.hd.sum, i6 l.hd.long, .slice p.A l.links.length p.c, .slice p.B l.mem.length p.d]) :: []) ((memA W W.heap.size) :: []) w21 := hS21
  intro a20 hput
  replace s6 := hput.o 6 s6
  replace hz := hput.size.trans hz
  replace hd := hput.defers.trans hd
  clear hput s7
  change Code.wp _ _ _ _ _
  refine wp_ret ?_
  refine retC (P := Try.prog) (fn := Try.f25) hd s6 (hS21.blk (i := 3) rfl) (hR_ _ _ ?_) Try.underlying27
  exact ⟨⟨A10, c10, A14, c14⟩, rfl, ⟨hS21.rowBase (i := 1) rfl (by simp : memA W W.heap.size ∈ _), hS21.rowBase (i := 0) rfl (by simp : memA W W.heap.size ∈ _)⟩, (hS21.old (by simp))⟩
set_option maxRecDepth 100000 in
set_option maxHeartbeats 800000 in
theorem sealed07_any (l : LV) (p : LP) (W : World) (hr : rightB l = true) (h1 : l.links.length ≤ 100) (h2 : l.mem.length ≤ 100) (hok : LOK W l p) :
    Calls Try.prog 39 #[.agg #[i6 l.hd.age, i6 l.hd.kind, i6 l.hd.id, i6 l.hd.adv, i6 l.hd.seq, i6 l.hd.sum, i6 l.hd.long, .slice p.A l.links.length p.c, .slice p.B l.mem.length p.d]] W (fun r w' => ∃ q, r = .returned (.agg (lsaA (sealF l) q)) ∧ LOwn w' W.heap.size (sealF l) q ∧ Below W.heap.size W w') := by
  have hll := lsaB_length l
  have hS := S.start W
  refine calls_walk Try.func39 rfl fun R_ hR_ a hz hd hargs => ?_
  replace hz : a.tmps.size = 32 := hz.trans (by kernel_rfl)
  have s0 := hargs 0 _ rfl
  clear hargs
  refine wp_seq ?_
  refine seq_l [0, 1] hz ?_
  refine ⟨fun a_ h_ => st_box (cells := #[i6 l.hd.age, i6 l.hd.kind, i6 l.hd.id, i6 l.hd.adv, i6 l.hd.seq, i6 l.hd.sum, i6 l.hd.long, .slice p.A l.links.length p.c, .slice p.B l.mem.length p.d]) hS (on_none rfl) rfl (h_.b 0 s0) (by kernel_rfl) fun g3 w3 hS3 hb3 => ⟨_, rfl, ?_⟩, trivial⟩
  clear h_ a_ hS
  clear hb3
  refine ⟨fun a_ h_ => st_alloc (cells := #[i6 0, i6 0, i6 0, i6 0, i6 0, i6 0, i6 0, .slice none 0 0, .slice none 0 0]) hS3 (on_none rfl) rfl (by kernel_rfl) fun g4 w4 hS4 hb4 => ⟨_, rfl, ?_⟩, trivial⟩
  clear h_ a_ hS3
  clear hb4
  intro a2 hput
  have s1 : sl a2 1 = pt g3 0 := hput.new 0 1 rfl
  have s2 : sl a2 2 = pt g4 0 := hput.new 1 2 rfl
  replace hz := hput.size.trans hz
  replace hd := hput.defers.trans hd
  clear hput s0
  change Code.wp _ _ _ _ _
  refine wp_seq ?_
  refine seq_l [1] hz ?_
  refine ⟨.agg #[i6 l.hd.age, i6 l.hd.kind, i6 l.hd.id, i6 l.hd.adv, i6 l.hd.seq, i6 l.hd.sum, i6 l.hd.long, .slice p.A l.links.length p.c, .slice p.B l.mem.length p.d], fun _ h_ => rk (lbS 9 (hS4.blk (i := 1) rfl) rfl (h_.b 1 s1)), ?_⟩
  refine ⟨fun a_ h_ => st_call (on_none rfl) (run_call rfl (map1 (h_.d 0 5)) rfl) (bytes04_any l p _ h1 h2 (right_one hr) (hok.below (hS4.old (by simp)))) ?_, trivial⟩
  rintro e w6 ⟨A6, c6, rfl, ho6, hb6⟩
  refine ⟨_, rfl, _, rfl, ?_⟩
  clear h_ a_
  have hS6 := hS4.pushRowI hb6 ho6
  clear hS4 hb6 ho6
  refine ⟨.slice A6 ((lsaB l).length) c6, fun _ h_ => ras (h_.d 1 6), ?_⟩
  intro a5 hput
  replace s1 := hput.o 1 s1
  replace s2 := hput.o 2 s2
  have s3 : sl a5 3 = .slice A6 ((lsaB l).length) c6 := hput.new 2 3 rfl
  replace hz := hput.size.trans hz
  replace hd := hput.defers.trans hd
  clear hput
  change Code.wp _ _ _ _ _
  refine wp_seq ?_
  refine seq_l [3, 4] hz ?_
  refine ⟨pt g3 0, fun _ h_ => rk (fa 0 rfl (h_.b 1 s1)),
   .agg #[i6 l.hd.age, i6 l.hd.kind, i6 l.hd.id, i6 l.hd.adv, i6 l.hd.seq, i6 l.hd.sum, i6 l.hd.long], fun _ h_ => rk (lbS 7 (hS6.blk (i := 1) rfl) rfl (h_.d 0 7)),
   .agg #[i6 l.hd.age, i6 l.hd.kind, i6 l.hd.id, i6 l.hd.adv, i6 l.hd.seq, i6 l.hd.sum, i6 l.hd.long, .slice none 0 0, .slice none 0 0], fun _ h_ => rk (run_build (vals := #[(0, .agg #[i6 l.hd.age, i6 l.hd.kind, i6 l.hd.id, i6 l.hd.adv, i6 l.hd.seq, i6 l.hd.sum, i6 l.hd.long])]) (r := .agg #[i6 l.hd.age, i6 l.hd.kind, i6 l.hd.id, i6 l.hd.adv, i6 l.hd.seq, i6 l.hd.sum, i6 l.hd.long, .slice none 0 0, .slice none 0 0]) rfl (bp1 (h_.d 1 8)) (by kernel_rfl)), ?_⟩
  refine ⟨fun a_ h_ => st_alloc (cells := #[i6 0, i6 0, i6 0, i6 0, i6 0, i6 0, i6 0, .slice none 0 0, .slice none 0 0]) hS6 (on_none rfl) rfl (by kernel_rfl) fun g8 w8 hS8 hb8 => ⟨_, rfl, ?_⟩, trivial⟩
  clear h_ a_ hS6
  clear hb8
  refine ⟨fun a_ h_ => st_store (n := 9) (cells := #[i6 l.hd.age, i6 l.hd.kind, i6 l.hd.id, i6 l.hd.adv, i6 l.hd.seq, i6 l.hd.sum, i6 l.hd.long, .slice none 0 0, .slice none 0 0]) (cs' := #[i6 l.hd.age, i6 l.hd.kind, i6 l.hd.id, i6 l.hd.adv, i6 l.hd.seq, i6 l.hd.sum, i6 l.hd.long, .slice none 0 0, .slice none 0 0]) 0 hS8 rfl (on_none rfl) rfl (h_.d 3 4) (h_.d 2 9) rfl (by kernel_rfl) ⟨Nat.le_of_ble_eq_true rfl, rfl, by kernel_rfl⟩ rfl fun w9 hS9 he9 => ⟨_, rfl, ?_⟩, trivial⟩
  clear h_ a_ he9 hS8
  replace hS9 : S (kap W) ((blkA g8 27 #[i6 l.hd.age, i6 l.hd.kind, i6 l.hd.id, i6 l.hd.adv, i6 l.hd.seq, i6 l.hd.sum, i6 l.hd.long, .slice none 0 0, .slice none 0 0]) :: (blkA g4 27 #[i6 0, i6 0, i6 0, i6 0, i6 0, i6 0, i6 0, .slice none 0 0, .slice none 0 0]) :: (blkA g3 27 #[i6 l.hd.age, i6 l.hd.kind, i6 l.hd.id, i6 l.hd.adv, i6 l.hd.seq, i6 l.hd.sum, i6 l.hd.long, .slice p.A l.links.length p.c, .slice p.B l.mem.length p.d]) :: []) ((rowA (.slice A6 ((lsaB l).length) c6) 5 1 ((lsaB l).length) (u8s (lsaB l))) :: (memA W W.heap.size) :: []) w9 := hS9
  intro a7 hput
  replace s1 := hput.o 1 s1
  replace s2 := hput.o 2 s2
  replace s3 := hput.o 3 s3
  have s4 : sl a7 4 = pt g8 0 := hput.new 3 4 rfl
  replace hz := hput.size.trans hz
  replace hd := hput.defers.trans hd
  clear hput
  change Code.wp _ _ _ _ _
  refine wp_seq ?_
  refine seq_l [4, 6] hz ?_
  refine ⟨pt g8 7, fun _ h_ => rk (fa 7 rfl (h_.b 4 s4)),
   .slice none 0 0, fun _ h_ => rk (ld hS9 0 rfl (h_.d 0 10)),
   pt g3 7, fun _ h_ => rk (fa 7 rfl (h_.b 1 s1)),
   .slice p.A l.links.length p.c, fun _ h_ => rk (ld hS9 2 rfl (h_.d 2 12)), ?_⟩
  have hS11 := hS9.nilrow 69 4
  clear hS9
  refine ⟨fun a_ h_ => sap0 (bytes := 32) (news := rowC Lk.cells l.links) hS11 0 (on_none rfl) rfl (h_.d 1 11) (h_.d 3 13) (Reads.old hok.links (hS11.old (by simp))) (by exact lkC_one _) (by (try unfold maxLen); omega) (by (try unfold maxLen); omega) fun A12 c12 w12 hS12 => ⟨_, rfl, ?_⟩, trivial⟩
  clear h_ a_ hS11
  replace hS12 : S (kap W) ((rowA (.slice A12 l.links.length c12) 69 4 l.links.length (rowC Lk.cells l.links)) :: (blkA g8 27 #[i6 l.hd.age, i6 l.hd.kind, i6 l.hd.id, i6 l.hd.adv, i6 l.hd.seq, i6 l.hd.sum, i6 l.hd.long, .slice none 0 0, .slice none 0 0]) :: (blkA g4 27 #[i6 0, i6 0, i6 0, i6 0, i6 0, i6 0, i6 0, .slice none 0 0, .slice none 0 0]) :: (blkA g3 27 #[i6 l.hd.age, i6 l.hd.kind, i6 l.hd.id, i6 l.hd.adv, i6 l.hd.seq, i6 l.hd.sum, i6 l.hd.long, .slice p.A l.links.length p.c, .slice p.B l.mem.length p.d]) :: []) ((rowA (.slice A6 ((lsaB l).length) c6) 5 1 ((lsaB l).length) (u8s (lsaB l))) :: (memA W W.heap.size) :: []) w12 := hS12
  refine ⟨pt g8 7, fun _ h_ => rk (fa 7 rfl (h_.b 4 s4)), ?_⟩
  refine ⟨fun a_ h_ => st_store (n := 1) (cells := #[.slice A12 l.links.length c12]) (cs' := #[i6 l.hd.age, i6 l.hd.kind, i6 l.hd.id, i6 l.hd.adv, i6 l.hd.seq, i6 l.hd.sum, i6 l.hd.long, .slice A12 l.links.length c12, .slice none 0 0]) 1 hS12 rfl (on_none rfl) rfl (h_.d 5 15) (h_.d 4 14) rfl (by kernel_rfl) ⟨Nat.le_of_ble_eq_true rfl, rfl, by kernel_rfl⟩ rfl fun w13 hS13 he13 => ⟨_, rfl, ?_⟩, trivial⟩
  clear h_ a_ he13 hS12
  replace hS13 : S (kap W) ((rowA (.slice A12 l.links.length c12) 69 4 l.links.length (rowC Lk.cells l.links)) :: (blkA g8 27 #[i6 l.hd.age, i6 l.hd.kind, i6 l.hd.id, i6 l.hd.adv, i6 l.hd.seq, i6 l.hd.sum, i6 l.hd.long, .slice A12 l.links.length c12, .slice none 0 0]) :: (blkA g4 27 #[i6 0, i6 0, i6 0, i6 0, i6 0, i6 0, i6 0, .slice none 0 0, .slice none 0 0]) :: (blkA g3 27 #[i6 l.hd.age, i6 l.hd.kind, i6 l.hd.id, i6 l.hd.adv, i6 l.hd.seq, i6 l.hd.sum, i6 l.hd.long, .slice p.A l.links.length p.c, .slice p.B l.mem.length p.d]) :: []) ((rowA (.slice A6 ((lsaB l).length) c6) 5 1 ((lsaB l).length) (u8s (lsaB l))) :: (memA W W.heap.size) :: []) w13 := hS13
  intro a10 hput
  replace s1 := hput.o 1 s1
  replace s2 := hput.o 2 s2
  replace s3 := hput.o 3 s3
  replace s4 := hput.o 4 s4
  replace hz := hput.size.trans hz
  replace hd := hput.defers.trans hd
  clear hput
  change Code.wp _ _ _ _ _
  refine wp_seq ?_
  refine seq_l [4, 6] hz ?_
  refine ⟨pt g8 8, fun _ h_ => rk (fa 8 rfl (h_.b 4 s4)),
   .slice none 0 0, fun _ h_ => rk (ld hS13 1 rfl (h_.d 0 16)),
   pt g3 8, fun _ h_ => rk (fa 8 rfl (h_.b 1 s1)),
   .slice p.B l.mem.length p.d, fun _ h_ => rk (ld hS13 3 rfl (h_.d 2 18)), ?_⟩
  have hS15 := hS13.nilrow 3 1
  clear hS13
  refine ⟨fun a_ h_ => sap0 (bytes := 8) (news := ints l.mem) hS15 0 (on_none rfl) rfl (h_.d 1 17) (h_.d 3 19) (Reads.old hok.mem (hS15.old (by simp))) (by exact ints_one19 _) (by (try unfold maxLen); omega) (by (try unfold maxLen); omega) fun A16 c16 w16 hS16 => ⟨_, rfl, ?_⟩, trivial⟩
  clear h_ a_ hS15
  replace hS16 : S (kap W) ((rowA (.slice A16 l.mem.length c16) 3 1 l.mem.length (ints l.mem)) :: (rowA (.slice A12 l.links.length c12) 69 4 l.links.length (rowC Lk.cells l.links)) :: (blkA g8 27 #[i6 l.hd.age, i6 l.hd.kind, i6 l.hd.id, i6 l.hd.adv, i6 l.hd.seq, i6 l.hd.sum, i6 l.hd.long, .slice A12 l.links.length c12, .slice none 0 0]) :: (blkA g4 27 #[i6 0, i6 0, i6 0, i6 0, i6 0, i6 0, i6 0, .slice none 0 0, .slice none 0 0]) :: (blkA g3 27 #[i6 l.hd.age, i6 l.hd.kind, i6 l.hd.id, i6 l.hd.adv, i6 l.hd.seq, i6 l.hd.sum, i6 l.hd.long, .slice p.A l.links.length p.c, .slice p.B l.mem.length p.d]) :: []) ((rowA (.slice A6 ((lsaB l).length) c6) 5 1 ((lsaB l).length) (u8s (lsaB l))) :: (memA W W.heap.size) :: []) w16 := hS16
  refine ⟨pt g8 8, fun _ h_ => rk (fa 8 rfl (h_.b 4 s4)), ?_⟩
  refine ⟨fun a_ h_ => st_store (n := 1) (cells := #[.slice A16 l.mem.length c16]) (cs' := #[i6 l.hd.age, i6 l.hd.kind, i6 l.hd.id, i6 l.hd.adv, i6 l.hd.seq, i6 l.hd.sum, i6 l.hd.long, .slice A12 l.links.length c12, .slice A16 l.mem.length c16]) 2 hS16 rfl (on_none rfl) rfl (h_.d 5 21) (h_.d 4 20) rfl (by kernel_rfl) ⟨Nat.le_of_ble_eq_true rfl, rfl, by kernel_rfl⟩ rfl fun w17 hS17 he17 => ⟨_, rfl, ?_⟩, trivial⟩
  clear h_ a_ he17 hS16
  replace hS17 : S (kap W) ((rowA (.slice A16 l.mem.length c16) 3 1 l.mem.length (ints l.mem)) :: (rowA (.slice A12 l.links.length c12) 69 4 l.links.length (rowC Lk.cells l.links)) :: (blkA g8 27 #[i6 l.hd.age, i6 l.hd.kind, i6 l.hd.id, i6 l.hd.adv, i6 l.hd.seq, i6 l.hd.sum, i6 l.hd.long, .slice A12 l.links.length c12, .slice A16 l.mem.length c16]) :: (blkA g4 27 #[i6 0, i6 0, i6 0, i6 0, i6 0, i6 0, i6 0, .slice none 0 0, .slice none 0 0]) :: (blkA g3 27 #[i6 l.hd.age, i6 l.hd.kind, i6 l.hd.id, i6 l.hd.adv, i6 l.hd.seq, i6 l.hd.sum, i6 l.hd.long, .slice p.A l.links.length p.c, .slice p.B l.mem.length p.d]) :: []) ((rowA (.slice A6 ((lsaB l).length) c6) 5 1 ((lsaB l).length) (u8s (lsaB l))) :: (memA W W.heap.size) :: []) w17 := hS17
  intro a14 hput
  replace s2 := hput.o 2 s2
  replace s3 := hput.o 3 s3
  replace s4 := hput.o 4 s4
  replace hz := hput.size.trans hz
  replace hd := hput.defers.trans hd
  clear hput s1
  change Code.wp _ _ _ _ _
  refine wp_seq ?_
  refine seq_l [2, 5] hz ?_
  refine ⟨.slice A6 ((lsaB l).length) c6, fun _ h_ => rmv (h_.b 3 s3),
   .slice (cutA A6 16 c6 1) (18 - 16) (c6 - 16), fun _ h_ => rk (run_cutLH rfl (h_.d 0 22) rfl rfl (by have := hS17.rowCapI (i := 0) rfl; omega) rfl rfl), ?_⟩
  refine ⟨fun a_ h_ => st_call (on_none rfl) (run_call rfl (map1 (h_.d 1 23)) rfl) (number01_any _ _ _ (((lsaB l).drop 16).take (18 - 16)) _ (by omega) ((hS17.rdI (i := 0) rfl).cutU (l := 16) (h := 18) (by omega) (by omega) (hS17.rowCapI (i := 0) rfl)) (fun z hz => lsaB_byte l z (List.mem_of_mem_drop (List.mem_of_mem_take hz)))) ?_, trivial⟩
  rintro e w19 ⟨rfl, hb19⟩
  refine ⟨_, rfl, _, rfl, ?_⟩
  clear h_ a_
  have hS19 := hS17.below hb19
  clear hS17 hb19
  refine ⟨pt g8 0, fun _ h_ => rk (fa 0 rfl (h_.b 4 s4)),
   pt g8 5, fun _ h_ => rk (fa 5 rfl (h_.d 3 25)), ?_⟩
  refine ⟨fun a_ h_ => st_store (n := 1) (cells := #[i6 (numOf (((lsaB l).drop 16).take 2))]) (cs' := #[i6 l.hd.age, i6 l.hd.kind, i6 l.hd.id, i6 l.hd.adv, i6 l.hd.seq, i6 (numOf (((lsaB l).drop 16).take 2)), i6 l.hd.long, .slice A12 l.links.length c12, .slice A16 l.mem.length c16]) 2 hS19 rfl (on_none rfl) rfl (h_.d 4 26) (h_.d 2 24) rfl (by kernel_rfl) ⟨Nat.le_of_ble_eq_true rfl, rfl, by kernel_rfl⟩ rfl fun w20 hS20 he20 => ⟨_, rfl, ?_⟩, trivial⟩
  clear h_ a_ he20 hS19
  replace hS20 : S (kap W) ((rowA (.slice A16 l.mem.length c16) 3 1 l.mem.length (ints l.mem)) :: (rowA (.slice A12 l.links.length c12) 69 4 l.links.length (rowC Lk.cells l.links)) :: (blkA g8 27 #[i6 l.hd.age, i6 l.hd.kind, i6 l.hd.id, i6 l.hd.adv, i6 l.hd.seq, i6 (numOf (((lsaB l).drop 16).take 2)), i6 l.hd.long, .slice A12 l.links.length c12, .slice A16 l.mem.length c16]) :: (blkA g4 27 #[i6 0, i6 0, i6 0, i6 0, i6 0, i6 0, i6 0, .slice none 0 0, .slice none 0 0]) :: (blkA g3 27 #[i6 l.hd.age, i6 l.hd.kind, i6 l.hd.id, i6 l.hd.adv, i6 l.hd.seq, i6 l.hd.sum, i6 l.hd.long, .slice p.A l.links.length p.c, .slice p.B l.mem.length p.d]) :: []) ((rowA (.slice A6 ((lsaB l).length) c6) 5 1 ((lsaB l).length) (u8s (lsaB l))) :: (memA W W.heap.size) :: []) w20 := hS20
  intro a18 hput
  replace s2 := hput.o 2 s2
  replace s3 := hput.o 3 s3
  replace s4 := hput.o 4 s4
  replace hz := hput.size.trans hz
  replace hd := hput.defers.trans hd
  clear hput
  change Code.wp _ _ _ _ _
  refine wp_seq ?_
  refine seq_l [4] hz ?_
  refine ⟨.slice A6 ((lsaB l).length) c6, fun _ h_ => rmv (h_.b 3 s3),
   i6 ((lsaB l).length), fun _ h_ => rk (run_lenS rfl (h_.d 0 27) (by kernel_rfl)),
   pt g8 0, fun _ h_ => rk (fa 0 rfl (h_.b 4 s4)),
   pt g8 6, fun _ h_ => rk (fa 6 rfl (h_.d 2 29)), ?_⟩
  refine ⟨fun a_ h_ => st_store (n := 1) (cells := #[i6 ((lsaB l).length)]) (cs' := #[i6 l.hd.age, i6 l.hd.kind, i6 l.hd.id, i6 l.hd.adv, i6 l.hd.seq, i6 (numOf (((lsaB l).drop 16).take 2)), i6 ((lsaB l).length), .slice A12 l.links.length c12, .slice A16 l.mem.length c16]) 2 hS20 rfl (on_none rfl) rfl (h_.d 3 30) (h_.d 1 28) rfl (by kernel_rfl) ⟨Nat.le_of_ble_eq_true rfl, rfl, by kernel_rfl⟩ rfl fun w22 hS22 he22 => ⟨_, rfl, ?_⟩, trivial⟩
  clear h_ a_ he22 hS20
  replace hS22 : S (kap W) ((rowA (.slice A16 l.mem.length c16) 3 1 l.mem.length (ints l.mem)) :: (rowA (.slice A12 l.links.length c12) 69 4 l.links.length (rowC Lk.cells l.links)) :: (blkA g8 27 #[i6 l.hd.age, i6 l.hd.kind, i6 l.hd.id, i6 l.hd.adv, i6 l.hd.seq, i6 (numOf (((lsaB l).drop 16).take 2)), i6 ((lsaB l).length), .slice A12 l.links.length c12, .slice A16 l.mem.length c16]) :: (blkA g4 27 #[i6 0, i6 0, i6 0, i6 0, i6 0, i6 0, i6 0, .slice none 0 0, .slice none 0 0]) :: (blkA g3 27 #[i6 l.hd.age, i6 l.hd.kind, i6 l.hd.id, i6 l.hd.adv, i6 l.hd.seq, i6 l.hd.sum, i6 l.hd.long, .slice p.A l.links.length p.c, .slice p.B l.mem.length p.d]) :: []) ((rowA (.slice A6 ((lsaB l).length) c6) 5 1 ((lsaB l).length) (u8s (lsaB l))) :: (memA W W.heap.size) :: []) w22 := hS22
  intro a21 hput
  replace s2 := hput.o 2 s2
  replace s4 := hput.o 4 s4
  replace hz := hput.size.trans hz
  replace hd := hput.defers.trans hd
  clear hput s3
  change Code.wp _ _ _ _ _
  refine wp_seq ?_
  refine seq_l [1] hz ?_
  refine ⟨.agg #[i6 l.hd.age, i6 l.hd.kind, i6 l.hd.id, i6 l.hd.adv, i6 l.hd.seq, i6 (numOf (((lsaB l).drop 16).take 2)), i6 ((lsaB l).length), .slice A12 l.links.length c12, .slice A16 l.mem.length c16], fun _ h_ => rk (lbS 9 (hS22.blk (i := 2) rfl) rfl (h_.b 4 s4)), ?_⟩
  refine ⟨fun a_ h_ => st_store (n := 9) (cells := #[i6 l.hd.age, i6 l.hd.kind, i6 l.hd.id, i6 l.hd.adv, i6 l.hd.seq, i6 (numOf (((lsaB l).drop 16).take 2)), i6 ((lsaB l).length), .slice A12 l.links.length c12, .slice A16 l.mem.length c16]) (cs' := #[i6 l.hd.age, i6 l.hd.kind, i6 l.hd.id, i6 l.hd.adv, i6 l.hd.seq, i6 (numOf (((lsaB l).drop 16).take 2)), i6 ((lsaB l).length), .slice A12 l.links.length c12, .slice A16 l.mem.length c16]) 3 hS22 rfl (on_none rfl) rfl (h_.b 2 s2) (h_.d 0 31) rfl (by kernel_rfl) ⟨Nat.le_of_ble_eq_true rfl, rfl, by kernel_rfl⟩ rfl fun w24 hS24 he24 => ⟨_, rfl, ?_⟩, trivial⟩
  clear h_ a_ he24 hS22
  replace hS24 : S (kap W) ((rowA (.slice A16 l.mem.length c16) 3 1 l.mem.length (ints l.mem)) :: (rowA (.slice A12 l.links.length c12) 69 4 l.links.length (rowC Lk.cells l.links)) :: (blkA g8 27 #[i6 l.hd.age, i6 l.hd.kind, i6 l.hd.id, i6 l.hd.adv, i6 l.hd.seq, i6 (numOf (((lsaB l).drop 16).take 2)), i6 ((lsaB l).length), .slice A12 l.links.length c12, .slice A16 l.mem.length c16]) :: (blkA g4 27 #[i6 l.hd.age, i6 l.hd.kind, i6 l.hd.id, i6 l.hd.adv, i6 l.hd.seq, i6 (numOf (((lsaB l).drop 16).take 2)), i6 ((lsaB l).length), .slice A12 l.links.length c12, .slice A16 l.mem.length c16]) :: (blkA g3 27 #[i6 l.hd.age, i6 l.hd.kind, i6 l.hd.id, i6 l.hd.adv, i6 l.hd.seq, i6 l.hd.sum, i6 l.hd.long, .slice p.A l.links.length p.c, .slice p.B l.mem.length p.d]) :: []) ((rowA (.slice A6 ((lsaB l).length) c6) 5 1 ((lsaB l).length) (u8s (lsaB l))) :: (memA W W.heap.size) :: []) w24 := hS24
  intro a23 hput
  replace s2 := hput.o 2 s2
  replace hz := hput.size.trans hz
  replace hd := hput.defers.trans hd
  clear hput s4
  change Code.wp _ _ _ _ _
  refine wp_ret ?_
  refine retC (P := Try.prog) (fn := Try.f39) hd s2 (hS24.blk (i := 3) rfl) (hR_ _ _ ?_) Try.underlying27
  rw [show sealF l = ⟨{ l.hd with sum := numOf (((lsaB l).drop 16).take 2), long := ((lsaB l).length : Int) }, l.links, l.mem⟩ by rw [sealF, if_pos hr, long_len l h1 h2]]
  exact ⟨⟨A12, c12, A16, c16⟩, rfl, ⟨hS24.rowBase (i := 1) rfl (by simp : memA W W.heap.size ∈ _), hS24.rowBase (i := 0) rfl (by simp : memA W W.heap.size ∈ _)⟩, (hS24.old (by simp))⟩
set_option maxRecDepth 100000 in
set_option maxHeartbeats 800000 in
theorem alike19_any (l l' : LV) (p p' : LP) (W : World) (h1 : l.links.length ≤ 100) (h2 : l.mem.length ≤ 100) (hok : LOK W l p) (h1' : l'.links.length ≤ 100) (h2' : l'.mem.length ≤ 100) (hok' : LOK W l' p') :
    Calls Try.prog 26 #[.agg #[i6 l.hd.age, i6 l.hd.kind, i6 l.hd.id, i6 l.hd.adv, i6 l.hd.seq, i6 l.hd.sum, i6 l.hd.long, .slice p.A l.links.length p.c, .slice p.B l.mem.length p.d], .agg #[i6 l'.hd.age, i6 l'.hd.kind, i6 l'.hd.id, i6 l'.hd.adv, i6 l'.hd.seq, i6 l'.hd.sum, i6 l'.hd.long, .slice p'.A l'.links.length p'.c, .slice p'.B l'.mem.length p'.d]] W (fun r w' => r = .returned (.bool (decide (l.links = l'.links) && decide (l.mem = l'.mem))) ∧ Below W.heap.size W w') := by
  have hS := S.start W
  refine calls_walk Try.func26 rfl fun R_ hR_ a hz hd hargs => ?_
  replace hz : a.tmps.size = 11 := hz.trans (by kernel_rfl)
  have s0 := hargs 0 _ rfl
  have s1 := hargs 1 _ rfl
  clear hargs
  refine wp_seq ?_
  refine seq_l [0, 1] hz ?_
  refine ⟨fun a_ h_ => st_box (cells := #[i6 l.hd.age, i6 l.hd.kind, i6 l.hd.id, i6 l.hd.adv, i6 l.hd.seq, i6 l.hd.sum, i6 l.hd.long, .slice p.A l.links.length p.c, .slice p.B l.mem.length p.d]) hS (on_none rfl) rfl (h_.b 0 s0) (by kernel_rfl) fun g3 w3 hS3 hb3 => ⟨_, rfl, ?_⟩, trivial⟩
  clear h_ a_ hS
  clear hb3
  refine ⟨fun a_ h_ => st_box (cells := #[i6 l'.hd.age, i6 l'.hd.kind, i6 l'.hd.id, i6 l'.hd.adv, i6 l'.hd.seq, i6 l'.hd.sum, i6 l'.hd.long, .slice p'.A l'.links.length p'.c, .slice p'.B l'.mem.length p'.d]) hS3 (on_none rfl) rfl (h_.b 1 s1) (by kernel_rfl) fun g4 w4 hS4 hb4 => ⟨_, rfl, ?_⟩, trivial⟩
  clear h_ a_ hS3
  clear hb4
  refine ⟨.bool false, fun _ h_ => rk (run_assign rfl rfl), ?_⟩
  intro a2 hput
  have s2 : sl a2 2 = pt g3 0 := hput.new 0 2 rfl
  have s3 : sl a2 3 = pt g4 0 := hput.new 1 3 rfl
  have s4 : sl a2 4 = .bool false := hput.new 2 4 rfl
  replace hz := hput.size.trans hz
  replace hd := hput.defers.trans hd
  clear hput s0 s1
  change Code.wp _ _ _ _ _
  refine wp_seq ?_
  refine seq_l [3] hz ?_
  refine ⟨pt g4 0, fun _ h_ => rk (fa 0 rfl (h_.b 3 s3)),
   .agg #[i6 l'.hd.age, i6 l'.hd.kind, i6 l'.hd.id, i6 l'.hd.adv, i6 l'.hd.seq, i6 l'.hd.sum, i6 l'.hd.long], fun _ h_ => rk (lbS 7 (hS4.blk (i := 0) rfl) rfl (h_.d 0 5)),
   pt g3 0, fun _ h_ => rk (fa 0 rfl (h_.b 2 s2)), ?_⟩
  refine ⟨fun a_ h_ => st_store (n := 7) (cells := #[i6 l'.hd.age, i6 l'.hd.kind, i6 l'.hd.id, i6 l'.hd.adv, i6 l'.hd.seq, i6 l'.hd.sum, i6 l'.hd.long]) (cs' := #[i6 l'.hd.age, i6 l'.hd.kind, i6 l'.hd.id, i6 l'.hd.adv, i6 l'.hd.seq, i6 l'.hd.sum, i6 l'.hd.long, .slice p.A l.links.length p.c, .slice p.B l.mem.length p.d]) 1 hS4 rfl (on_none rfl) rfl (h_.d 2 7) (h_.d 1 6) rfl (by kernel_rfl) ⟨Nat.le_of_ble_eq_true rfl, rfl, by kernel_rfl⟩ rfl fun w6 hS6 he6 => ⟨_, rfl, ?_⟩, trivial⟩
  clear h_ a_ he6 hS4
  replace hS6 : S (kap W) ((blkA g4 27 #[i6 l'.hd.age, i6 l'.hd.kind, i6 l'.hd.id, i6 l'.hd.adv, i6 l'.hd.seq, i6 l'.hd.sum, i6 l'.hd.long, .slice p'.A l'.links.length p'.c, .slice p'.B l'.mem.length p'.d]) :: (blkA g3 27 #[i6 l'.hd.age, i6 l'.hd.kind, i6 l'.hd.id, i6 l'.hd.adv, i6 l'.hd.seq, i6 l'.hd.sum, i6 l'.hd.long, .slice p.A l.links.length p.c, .slice p.B l.mem.length p.d]) :: []) ((memA W W.heap.size) :: []) w6 := hS6
  intro a5 hput
  replace s2 := hput.o 2 s2
  replace s3 := hput.o 3 s3
  replace s4 := hput.o 4 s4
  replace hz := hput.size.trans hz
  replace hd := hput.defers.trans hd
  clear hput
  change Code.wp _ _ _ _ _
  refine wp_seq ?_
  refine seq_l [2] hz ?_
  refine ⟨.agg #[i6 l'.hd.age, i6 l'.hd.kind, i6 l'.hd.id, i6 l'.hd.adv, i6 l'.hd.seq, i6 l'.hd.sum, i6 l'.hd.long, .slice p.A l.links.length p.c, .slice p.B l.mem.length p.d], fun _ h_ => rk (lbS 9 (hS6.blk (i := 1) rfl) rfl (h_.b 2 s2)),
   .agg #[i6 l'.hd.age, i6 l'.hd.kind, i6 l'.hd.id, i6 l'.hd.adv, i6 l'.hd.seq, i6 l'.hd.sum, i6 l'.hd.long, .slice p'.A l'.links.length p'.c, .slice p'.B l'.mem.length p'.d], fun _ h_ => rk (lbS 9 (hS6.blk (i := 0) rfl) rfl (h_.b 3 s3)), ?_⟩
  refine ⟨fun a_ h_ => st_call (on_none rfl) (run_call rfl (map2 (h_.d 0 8) (h_.d 1 9)) rfl) (same04_any { l with hd := l'.hd } l' p p' _ ⟨(hok.below (hS6.old (by simp))).links, (hok.below (hS6.old (by simp))).mem⟩ (hok'.below (hS6.old (by simp))) (by show l.links.length ≤ 5000; omega) (by omega) (by show l.mem.length ≤ 5000; omega) (by omega)) ?_, trivial⟩
  rintro e w8 ⟨rfl, hb8⟩
  refine ⟨_, rfl, _, rfl, ?_⟩
  clear h_ a_
  have hS8 := hS6.below hb8
  clear hS6 hb8
  refine ⟨.bool (decide ((⟨l'.hd, l.links, l.mem⟩ : LV) = l')), fun _ h_ => ras (h_.d 2 10), ?_⟩
  intro a7 hput
  replace s4 : sl a7 4 = .bool (decide ((⟨l'.hd, l.links, l.mem⟩ : LV) = l')) := hput.new 3 4 rfl
  replace hz := hput.size.trans hz
  replace hd := hput.defers.trans hd
  clear hput s2 s3
  change Code.wp _ _ _ _ _
  refine wp_ret ?_
  refine ret1 (P := Try.prog) (fn := Try.f26) hd s4 (hR_ _ _ ?_)
  refine ⟨?_, (hS8.old (by simp))⟩
  congr 2
  obtain ⟨x, y, z⟩ := l
  obtain ⟨x2, y2, z2⟩ := l'
  simp only [LV.mk.injEq, true_and]
  by_cases e1 : y = y2 <;> by_cases e2 : z = z2 <;> simp [e1, e2]
set_option maxRecDepth 100000 in
set_option maxHeartbeats 800000 in
theorem told19_any (m : MV) (p q : LP) (n : Int) (W : World) (hw1 : m.want.links.length ≤ 20) (hw2 : m.want.mem.length ≤ 20) (hh1 : m.held.links.length ≤ 20) (hh2 : m.held.mem.length ≤ 20) (hok : MOK W m p q) :
    Calls Try.prog 27 #[.agg #[i6 m.want.hd.age, i6 m.want.hd.kind, i6 m.want.hd.id, i6 m.want.hd.adv, i6 m.want.hd.seq, i6 m.want.hd.sum, i6 m.want.hd.long, .slice p.A m.want.links.length p.c, .slice p.B m.want.mem.length p.d, .bool m.wanted, i6 m.held.hd.age, i6 m.held.hd.kind, i6 m.held.hd.id, i6 m.held.hd.adv, i6 m.held.hd.seq, i6 m.held.hd.sum, i6 m.held.hd.long, .slice q.A m.held.links.length q.c, .slice q.B m.held.mem.length q.d, .bool m.is_, i6 m.last, i6 m.at_, .bool m.ever], i6 n] W (fun r w' => ∃ q, r = .returned (.agg (doneA (tellF m n) q 1)) ∧ LOwn w' W.heap.size (tellF m n) q ∧ Below W.heap.size W w') := by
  have hS := S.start W
  refine calls_walk Try.func27 rfl fun R_ hR_ a hz hd hargs => ?_
  replace hz : a.tmps.size = 16 := hz.trans (by kernel_rfl)
  have s0 := hargs 0 _ rfl
  have s1 := hargs 1 _ rfl
  clear hargs
  refine wp_seq ?_
  refine seq_l [0, 1] hz ?_
  refine ⟨fun a_ h_ => st_box (cells := #[i6 m.want.hd.age, i6 m.want.hd.kind, i6 m.want.hd.id, i6 m.want.hd.adv, i6 m.want.hd.seq, i6 m.want.hd.sum, i6 m.want.hd.long, .slice p.A m.want.links.length p.c, .slice p.B m.want.mem.length p.d, .bool m.wanted, i6 m.held.hd.age, i6 m.held.hd.kind, i6 m.held.hd.id, i6 m.held.hd.adv, i6 m.held.hd.seq, i6 m.held.hd.sum, i6 m.held.hd.long, .slice q.A m.held.links.length q.c, .slice q.B m.held.mem.length q.d, .bool m.is_, i6 m.last, i6 m.at_, .bool m.ever]) hS (on_none rfl) rfl (h_.b 0 s0) (by kernel_rfl) fun g3 w3 hS3 hb3 => ⟨_, rfl, ?_⟩, trivial⟩
  clear h_ a_ hS
  clear hb3
  refine ⟨fun a_ h_ => st_alloc (cells := #[i6 0, i6 0, i6 0, i6 0, i6 0, i6 0, i6 0, .slice none 0 0, .slice none 0 0, i6 0]) hS3 (on_none rfl) rfl (by kernel_rfl) fun g4 w4 hS4 hb4 => ⟨_, rfl, ?_⟩, trivial⟩
  clear h_ a_ hS3
  clear hb4
  intro a2 hput
  replace s1 := hput.o 1 s1
  have s2 : sl a2 2 = pt g3 0 := hput.new 0 2 rfl
  have s4 : sl a2 4 = pt g4 0 := hput.new 1 4 rfl
  replace hz := hput.size.trans hz
  replace hd := hput.defers.trans hd
  clear hput s0
  change Code.wp _ _ _ _ _
  refine wp_seq ?_
  refine seq_l [3, 4, 5] hz ?_
  refine ⟨pt g3 0, fun _ h_ => rk (fa 0 rfl (h_.b 2 s2)),
   .agg #[i6 m.want.hd.age, i6 m.want.hd.kind, i6 m.want.hd.id, i6 m.want.hd.adv, i6 m.want.hd.seq, i6 m.want.hd.sum, i6 m.want.hd.long, .slice p.A m.want.links.length p.c, .slice p.B m.want.mem.length p.d], fun _ h_ => rk (lbS 9 (hS4.blk (i := 1) rfl) rfl (h_.d 0 6)),
   i6 n, fun _ h_ => rmv (h_.b 1 s1), ?_⟩
  refine ⟨fun a_ h_ => st_call (on_none rfl) (run_call rfl (map3 (h_.d 1 7) rfl (h_.d 2 8)) rfl) (with19_any m.want p 0 n _ (by omega) (by omega) (hok.below (hS4.old (by simp))).want) ?_, trivial⟩
  rintro e w6 ⟨q6, rfl, hO, hb6⟩
  refine ⟨_, rfl, _, rfl, ?_⟩
  clear h_ a_
  have hS6 := hS4.pushLB (hS4.old (by simp)).size hb6 hO
  clear hO hb6 hS4
  refine ⟨fun a_ h_ => st_alloc (cells := #[i6 0, i6 0, i6 0, i6 0, i6 0, i6 0, i6 0, .slice none 0 0, .slice none 0 0]) hS6 (on_none rfl) rfl (by kernel_rfl) fun g7 w7 hS7 hb7 => ⟨_, rfl, ?_⟩, trivial⟩
  clear h_ a_ hS6
  clear hb7
  refine ⟨fun a_ h_ => st_store (n := 9) (cells := #[i6 ((withF m.want 0 n).hd.age), i6 ((withF m.want 0 n).hd.kind), i6 ((withF m.want 0 n).hd.id), i6 ((withF m.want 0 n).hd.adv), i6 ((withF m.want 0 n).hd.seq), i6 ((withF m.want 0 n).hd.sum), i6 ((withF m.want 0 n).hd.long), .slice q6.A ((withF m.want 0 n).links.length) q6.c, .slice q6.B ((withF m.want 0 n).mem.length) q6.d]) (cs' := #[i6 ((withF m.want 0 n).hd.age), i6 ((withF m.want 0 n).hd.kind), i6 ((withF m.want 0 n).hd.id), i6 ((withF m.want 0 n).hd.adv), i6 ((withF m.want 0 n).hd.seq), i6 ((withF m.want 0 n).hd.sum), i6 ((withF m.want 0 n).hd.long), .slice q6.A ((withF m.want 0 n).links.length) q6.c, .slice q6.B ((withF m.want 0 n).mem.length) q6.d]) 0 hS7 rfl (on_none rfl) rfl (h_.d 4 5) (h_.d 3 9) rfl (by kernel_rfl) ⟨Nat.le_of_ble_eq_true rfl, rfl, by kernel_rfl⟩ rfl fun w8 hS8 he8 => ⟨_, rfl, ?_⟩, trivial⟩
  clear h_ a_ he8 hS7
  replace hS8 : S (kap W) ((blkA g7 27 #[i6 ((withF m.want 0 n).hd.age), i6 ((withF m.want 0 n).hd.kind), i6 ((withF m.want 0 n).hd.id), i6 ((withF m.want 0 n).hd.adv), i6 ((withF m.want 0 n).hd.seq), i6 ((withF m.want 0 n).hd.sum), i6 ((withF m.want 0 n).hd.long), .slice q6.A ((withF m.want 0 n).links.length) q6.c, .slice q6.B ((withF m.want 0 n).mem.length) q6.d]) :: (blkA g4 36 #[i6 0, i6 0, i6 0, i6 0, i6 0, i6 0, i6 0, .slice none 0 0, .slice none 0 0, i6 0]) :: (blkA g3 29 #[i6 m.want.hd.age, i6 m.want.hd.kind, i6 m.want.hd.id, i6 m.want.hd.adv, i6 m.want.hd.seq, i6 m.want.hd.sum, i6 m.want.hd.long, .slice p.A m.want.links.length p.c, .slice p.B m.want.mem.length p.d, .bool m.wanted, i6 m.held.hd.age, i6 m.held.hd.kind, i6 m.held.hd.id, i6 m.held.hd.adv, i6 m.held.hd.seq, i6 m.held.hd.sum, i6 m.held.hd.long, .slice q.A m.held.links.length q.c, .slice q.B m.held.mem.length q.d, .bool m.is_, i6 m.last, i6 m.at_, .bool m.ever]) :: []) ((rowB W.heap.size (.slice q6.A (withF m.want 0 n).links.length q6.c) 69 4 (withF m.want 0 n).links.length (rowC Lk.cells (withF m.want 0 n).links)) :: (rowB W.heap.size (.slice q6.B (withF m.want 0 n).mem.length q6.d) 3 1 (withF m.want 0 n).mem.length (ints (withF m.want 0 n).mem)) :: (memA W W.heap.size) :: []) w8 := hS8
  intro a5 hput
  replace s4 := hput.o 4 s4
  have s5 : sl a5 5 = pt g7 0 := hput.new 4 5 rfl
  replace hz := hput.size.trans hz
  replace hd := hput.defers.trans hd
  clear hput s1 s2
  change Code.wp _ _ _ _ _
  refine wp_seq ?_
  refine wp_seq ?_
  refine seq_l [1] hz ?_
  refine ⟨.agg #[i6 ((withF m.want 0 n).hd.age), i6 ((withF m.want 0 n).hd.kind), i6 ((withF m.want 0 n).hd.id), i6 ((withF m.want 0 n).hd.adv), i6 ((withF m.want 0 n).hd.seq), i6 ((withF m.want 0 n).hd.sum), i6 ((withF m.want 0 n).hd.long), .slice q6.A ((withF m.want 0 n).links.length) q6.c, .slice q6.B ((withF m.want 0 n).mem.length) q6.d], fun _ h_ => rk (lbS 9 (hS8.blk (i := 0) rfl) rfl (h_.b 5 s5)), ?_⟩
  refine ⟨fun a_ h_ => st_call (on_none rfl) (run_call rfl (map1 (h_.d 0 10)) rfl) (right04_any (withF m.want 0 n) q6 _ (by show m.want.links.length ≤ 100000; omega) (by show m.want.mem.length ≤ 100000; omega) (lown_of (l := (withF m.want 0 n)) hS8 0).ok) ?_, trivial⟩
  rintro e w10 ⟨rfl, hb10⟩
  refine ⟨_, rfl, _, rfl, ?_⟩
  clear h_ a_
  have hS10 := hS8.below hb10
  clear hS8 hb10
  intro a9 hput
  replace s4 := hput.o 4 s4
  replace s5 := hput.o 5 s5
  have s11 : sl a9 11 = .bool (rightB (withF m.want 0 n)) := hput.new 1 11 rfl
  replace hz := hput.size.trans hz
  replace hd := hput.defers.trans hd
  clear hput
  change Code.wp _ _ _ _ _
  refine wp_cond_b s11 (fun hc11 => ?_) (fun hc11 => ?_)
  · clear s11
    refine seq_l [1, 2] hz ?_
    refine ⟨.agg #[i6 ((withF m.want 0 n).hd.age), i6 ((withF m.want 0 n).hd.kind), i6 ((withF m.want 0 n).hd.id), i6 ((withF m.want 0 n).hd.adv), i6 ((withF m.want 0 n).hd.seq), i6 ((withF m.want 0 n).hd.sum), i6 ((withF m.want 0 n).hd.long), .slice q6.A ((withF m.want 0 n).links.length) q6.c, .slice q6.B ((withF m.want 0 n).mem.length) q6.d], fun _ h_ => rk (lbS 9 (hS10.blk (i := 0) rfl) rfl (h_.b 5 s5)), ?_⟩
    refine ⟨fun a_ h_ => st_call (on_none rfl) (run_call rfl (map1 (h_.d 0 12)) rfl) (sealed07_any (withF m.want 0 n) q6 _ hc11 (by show m.want.links.length ≤ 100; omega) (by show m.want.mem.length ≤ 100; omega) (lown_of (l := (withF m.want 0 n)) hS10 0).ok) ?_, trivial⟩
    rintro e w12 ⟨q12, rfl, hO, hb12⟩
    refine ⟨_, rfl, _, rfl, ?_⟩
    clear h_ a_
    have hS12 := hS10.pushLB (hS10.old (by simp)).size hb12 hO
    clear hO hb12 hS10
    refine ⟨fun a_ h_ => st_store (n := 9) (cells := #[i6 ((sealF (withF m.want 0 n)).hd.age), i6 ((sealF (withF m.want 0 n)).hd.kind), i6 ((sealF (withF m.want 0 n)).hd.id), i6 ((sealF (withF m.want 0 n)).hd.adv), i6 ((sealF (withF m.want 0 n)).hd.seq), i6 ((sealF (withF m.want 0 n)).hd.sum), i6 ((sealF (withF m.want 0 n)).hd.long), .slice q12.A ((sealF (withF m.want 0 n)).links.length) q12.c, .slice q12.B ((sealF (withF m.want 0 n)).mem.length) q12.d]) (cs' := #[i6 ((sealF (withF m.want 0 n)).hd.age), i6 ((sealF (withF m.want 0 n)).hd.kind), i6 ((sealF (withF m.want 0 n)).hd.id), i6 ((sealF (withF m.want 0 n)).hd.adv), i6 ((sealF (withF m.want 0 n)).hd.seq), i6 ((sealF (withF m.want 0 n)).hd.sum), i6 ((sealF (withF m.want 0 n)).hd.long), .slice q12.A ((sealF (withF m.want 0 n)).links.length) q12.c, .slice q12.B ((sealF (withF m.want 0 n)).mem.length) q12.d]) 0 hS12 rfl (on_none rfl) rfl (h_.b 5 s5) (h_.d 1 13) rfl (by kernel_rfl) ⟨Nat.le_of_ble_eq_true rfl, rfl, by kernel_rfl⟩ rfl fun w13 hS13 he13 => ⟨_, rfl, ?_⟩, trivial⟩
    clear h_ a_ he13 hS12
    replace hS13 : S (kap W) ((blkA g7 27 #[i6 ((sealF (withF m.want 0 n)).hd.age), i6 ((sealF (withF m.want 0 n)).hd.kind), i6 ((sealF (withF m.want 0 n)).hd.id), i6 ((sealF (withF m.want 0 n)).hd.adv), i6 ((sealF (withF m.want 0 n)).hd.seq), i6 ((sealF (withF m.want 0 n)).hd.sum), i6 ((sealF (withF m.want 0 n)).hd.long), .slice q12.A ((sealF (withF m.want 0 n)).links.length) q12.c, .slice q12.B ((sealF (withF m.want 0 n)).mem.length) q12.d]) :: (blkA g4 36 #[i6 0, i6 0, i6 0, i6 0, i6 0, i6 0, i6 0, .slice none 0 0, .slice none 0 0, i6 0]) :: (blkA g3 29 #[i6 m.want.hd.age, i6 m.want.hd.kind, i6 m.want.hd.id, i6 m.want.hd.adv, i6 m.want.hd.seq, i6 m.want.hd.sum, i6 m.want.hd.long, .slice p.A m.want.links.length p.c, .slice p.B m.want.mem.length p.d, .bool m.wanted, i6 m.held.hd.age, i6 m.held.hd.kind, i6 m.held.hd.id, i6 m.held.hd.adv, i6 m.held.hd.seq, i6 m.held.hd.sum, i6 m.held.hd.long, .slice q.A m.held.links.length q.c, .slice q.B m.held.mem.length q.d, .bool m.is_, i6 m.last, i6 m.at_, .bool m.ever]) :: []) ((rowB W.heap.size (.slice q12.A (sealF (withF m.want 0 n)).links.length q12.c) 69 4 (sealF (withF m.want 0 n)).links.length (rowC Lk.cells (sealF (withF m.want 0 n)).links)) :: (rowB W.heap.size (.slice q12.B (sealF (withF m.want 0 n)).mem.length q12.d) 3 1 (sealF (withF m.want 0 n)).mem.length (ints (sealF (withF m.want 0 n)).mem)) :: (rowB W.heap.size (.slice q6.A (withF m.want 0 n).links.length q6.c) 69 4 (withF m.want 0 n).links.length (rowC Lk.cells (withF m.want 0 n).links)) :: (rowB W.heap.size (.slice q6.B (withF m.want 0 n).mem.length q6.d) 3 1 (withF m.want 0 n).mem.length (ints (withF m.want 0 n).mem)) :: (memA W W.heap.size) :: []) w13 := hS13
    intro a11 hput
    replace s4 := hput.o 4 s4
    replace s5 := hput.o 5 s5
    replace hz := hput.size.trans hz
    replace hd := hput.defers.trans hd
    clear hput
    change Code.wp _ _ _ _ _
    refine wp_seq ?_
    refine seq_l [2] hz ?_
    refine ⟨.agg #[i6 ((sealF (withF m.want 0 n)).hd.age), i6 ((sealF (withF m.want 0 n)).hd.kind), i6 ((sealF (withF m.want 0 n)).hd.id), i6 ((sealF (withF m.want 0 n)).hd.adv), i6 ((sealF (withF m.want 0 n)).hd.seq), i6 ((sealF (withF m.want 0 n)).hd.sum), i6 ((sealF (withF m.want 0 n)).hd.long), .slice q12.A ((sealF (withF m.want 0 n)).links.length) q12.c, .slice q12.B ((sealF (withF m.want 0 n)).mem.length) q12.d], fun _ h_ => rk (lbS 9 (hS13.blk (i := 0) rfl) rfl (h_.b 5 s5)),
     .agg #[i6 ((sealF (withF m.want 0 n)).hd.age), i6 ((sealF (withF m.want 0 n)).hd.kind), i6 ((sealF (withF m.want 0 n)).hd.id), i6 ((sealF (withF m.want 0 n)).hd.adv), i6 ((sealF (withF m.want 0 n)).hd.seq), i6 ((sealF (withF m.want 0 n)).hd.sum), i6 ((sealF (withF m.want 0 n)).hd.long), .slice q12.A ((sealF (withF m.want 0 n)).links.length) q12.c, .slice q12.B ((sealF (withF m.want 0 n)).mem.length) q12.d, i6 1], fun _ h_ => rk (run_build (vals := #[(0, .agg #[i6 ((sealF (withF m.want 0 n)).hd.age), i6 ((sealF (withF m.want 0 n)).hd.kind), i6 ((sealF (withF m.want 0 n)).hd.id), i6 ((sealF (withF m.want 0 n)).hd.adv), i6 ((sealF (withF m.want 0 n)).hd.seq), i6 ((sealF (withF m.want 0 n)).hd.sum), i6 ((sealF (withF m.want 0 n)).hd.long), .slice q12.A ((sealF (withF m.want 0 n)).links.length) q12.c, .slice q12.B ((sealF (withF m.want 0 n)).mem.length) q12.d]), (1, i6 1)]) (r := .agg #[i6 ((sealF (withF m.want 0 n)).hd.age), i6 ((sealF (withF m.want 0 n)).hd.kind), i6 ((sealF (withF m.want 0 n)).hd.id), i6 ((sealF (withF m.want 0 n)).hd.adv), i6 ((sealF (withF m.want 0 n)).hd.seq), i6 ((sealF (withF m.want 0 n)).hd.sum), i6 ((sealF (withF m.want 0 n)).hd.long), .slice q12.A ((sealF (withF m.want 0 n)).links.length) q12.c, .slice q12.B ((sealF (withF m.want 0 n)).mem.length) q12.d, i6 1]) rfl (bp2 (h_.d 0 14) rfl) (by kernel_rfl)), ?_⟩
    refine ⟨fun a_ h_ => st_store (n := 10) (cells := #[i6 ((sealF (withF m.want 0 n)).hd.age), i6 ((sealF (withF m.want 0 n)).hd.kind), i6 ((sealF (withF m.want 0 n)).hd.id), i6 ((sealF (withF m.want 0 n)).hd.adv), i6 ((sealF (withF m.want 0 n)).hd.seq), i6 ((sealF (withF m.want 0 n)).hd.sum), i6 ((sealF (withF m.want 0 n)).hd.long), .slice q12.A ((sealF (withF m.want 0 n)).links.length) q12.c, .slice q12.B ((sealF (withF m.want 0 n)).mem.length) q12.d, i6 1]) (cs' := #[i6 ((sealF (withF m.want 0 n)).hd.age), i6 ((sealF (withF m.want 0 n)).hd.kind), i6 ((sealF (withF m.want 0 n)).hd.id), i6 ((sealF (withF m.want 0 n)).hd.adv), i6 ((sealF (withF m.want 0 n)).hd.seq), i6 ((sealF (withF m.want 0 n)).hd.sum), i6 ((sealF (withF m.want 0 n)).hd.long), .slice q12.A ((sealF (withF m.want 0 n)).links.length) q12.c, .slice q12.B ((sealF (withF m.want 0 n)).mem.length) q12.d, i6 1]) 1 hS13 rfl (on_none rfl) rfl (h_.b 4 s4) (h_.d 1 15) rfl (by kernel_rfl) ⟨Nat.le_of_ble_eq_true rfl, rfl, by kernel_rfl⟩ rfl fun w15 hS15 he15 => ⟨_, rfl, ?_⟩, trivial⟩
    clear h_ a_ he15 hS13
    replace hS15 : S (kap W) ((blkA g7 27 #[i6 ((sealF (withF m.want 0 n)).hd.age), i6 ((sealF (withF m.want 0 n)).hd.kind), i6 ((sealF (withF m.want 0 n)).hd.id), i6 ((sealF (withF m.want 0 n)).hd.adv), i6 ((sealF (withF m.want 0 n)).hd.seq), i6 ((sealF (withF m.want 0 n)).hd.sum), i6 ((sealF (withF m.want 0 n)).hd.long), .slice q12.A ((sealF (withF m.want 0 n)).links.length) q12.c, .slice q12.B ((sealF (withF m.want 0 n)).mem.length) q12.d]) :: (blkA g4 36 #[i6 ((sealF (withF m.want 0 n)).hd.age), i6 ((sealF (withF m.want 0 n)).hd.kind), i6 ((sealF (withF m.want 0 n)).hd.id), i6 ((sealF (withF m.want 0 n)).hd.adv), i6 ((sealF (withF m.want 0 n)).hd.seq), i6 ((sealF (withF m.want 0 n)).hd.sum), i6 ((sealF (withF m.want 0 n)).hd.long), .slice q12.A ((sealF (withF m.want 0 n)).links.length) q12.c, .slice q12.B ((sealF (withF m.want 0 n)).mem.length) q12.d, i6 1]) :: (blkA g3 29 #[i6 m.want.hd.age, i6 m.want.hd.kind, i6 m.want.hd.id, i6 m.want.hd.adv, i6 m.want.hd.seq, i6 m.want.hd.sum, i6 m.want.hd.long, .slice p.A m.want.links.length p.c, .slice p.B m.want.mem.length p.d, .bool m.wanted, i6 m.held.hd.age, i6 m.held.hd.kind, i6 m.held.hd.id, i6 m.held.hd.adv, i6 m.held.hd.seq, i6 m.held.hd.sum, i6 m.held.hd.long, .slice q.A m.held.links.length q.c, .slice q.B m.held.mem.length q.d, .bool m.is_, i6 m.last, i6 m.at_, .bool m.ever]) :: []) ((rowB W.heap.size (.slice q12.A (sealF (withF m.want 0 n)).links.length q12.c) 69 4 (sealF (withF m.want 0 n)).links.length (rowC Lk.cells (sealF (withF m.want 0 n)).links)) :: (rowB W.heap.size (.slice q12.B (sealF (withF m.want 0 n)).mem.length q12.d) 3 1 (sealF (withF m.want 0 n)).mem.length (ints (sealF (withF m.want 0 n)).mem)) :: (rowB W.heap.size (.slice q6.A (withF m.want 0 n).links.length q6.c) 69 4 (withF m.want 0 n).links.length (rowC Lk.cells (withF m.want 0 n).links)) :: (rowB W.heap.size (.slice q6.B (withF m.want 0 n).mem.length q6.d) 3 1 (withF m.want 0 n).mem.length (ints (withF m.want 0 n).mem)) :: (memA W W.heap.size) :: []) w15 := hS15
    intro a14 hput
    replace s4 := hput.o 4 s4
    replace hz := hput.size.trans hz
    replace hd := hput.defers.trans hd
    clear hput s5
    change Code.wp _ _ _ _ _
    refine wp_ret ?_
    refine retC (P := Try.prog) (fn := Try.f27) hd s4 (hS15.blk (i := 1) rfl) (hR_ _ _ ?_) Try.underlying36
    exact ⟨q12, rfl, lown_of (l := (sealF (withF m.want 0 n))) hS15 0, (hS15.old (by simp))⟩
  · clear s11
    refine wp_skip ?_
    change Code.wp _ _ _ _ _
    refine wp_seq ?_
    refine seq_l [2] hz ?_
    refine ⟨.agg #[i6 ((withF m.want 0 n).hd.age), i6 ((withF m.want 0 n).hd.kind), i6 ((withF m.want 0 n).hd.id), i6 ((withF m.want 0 n).hd.adv), i6 ((withF m.want 0 n).hd.seq), i6 ((withF m.want 0 n).hd.sum), i6 ((withF m.want 0 n).hd.long), .slice q6.A ((withF m.want 0 n).links.length) q6.c, .slice q6.B ((withF m.want 0 n).mem.length) q6.d], fun _ h_ => rk (lbS 9 (hS10.blk (i := 0) rfl) rfl (h_.b 5 s5)),
     .agg #[i6 ((withF m.want 0 n).hd.age), i6 ((withF m.want 0 n).hd.kind), i6 ((withF m.want 0 n).hd.id), i6 ((withF m.want 0 n).hd.adv), i6 ((withF m.want 0 n).hd.seq), i6 ((withF m.want 0 n).hd.sum), i6 ((withF m.want 0 n).hd.long), .slice q6.A ((withF m.want 0 n).links.length) q6.c, .slice q6.B ((withF m.want 0 n).mem.length) q6.d, i6 1], fun _ h_ => rk (run_build (vals := #[(0, .agg #[i6 ((withF m.want 0 n).hd.age), i6 ((withF m.want 0 n).hd.kind), i6 ((withF m.want 0 n).hd.id), i6 ((withF m.want 0 n).hd.adv), i6 ((withF m.want 0 n).hd.seq), i6 ((withF m.want 0 n).hd.sum), i6 ((withF m.want 0 n).hd.long), .slice q6.A ((withF m.want 0 n).links.length) q6.c, .slice q6.B ((withF m.want 0 n).mem.length) q6.d]), (1, i6 1)]) (r := .agg #[i6 ((withF m.want 0 n).hd.age), i6 ((withF m.want 0 n).hd.kind), i6 ((withF m.want 0 n).hd.id), i6 ((withF m.want 0 n).hd.adv), i6 ((withF m.want 0 n).hd.seq), i6 ((withF m.want 0 n).hd.sum), i6 ((withF m.want 0 n).hd.long), .slice q6.A ((withF m.want 0 n).links.length) q6.c, .slice q6.B ((withF m.want 0 n).mem.length) q6.d, i6 1]) rfl (bp2 (h_.d 0 14) rfl) (by kernel_rfl)), ?_⟩
    refine ⟨fun a_ h_ => st_store (n := 10) (cells := #[i6 ((withF m.want 0 n).hd.age), i6 ((withF m.want 0 n).hd.kind), i6 ((withF m.want 0 n).hd.id), i6 ((withF m.want 0 n).hd.adv), i6 ((withF m.want 0 n).hd.seq), i6 ((withF m.want 0 n).hd.sum), i6 ((withF m.want 0 n).hd.long), .slice q6.A ((withF m.want 0 n).links.length) q6.c, .slice q6.B ((withF m.want 0 n).mem.length) q6.d, i6 1]) (cs' := #[i6 ((withF m.want 0 n).hd.age), i6 ((withF m.want 0 n).hd.kind), i6 ((withF m.want 0 n).hd.id), i6 ((withF m.want 0 n).hd.adv), i6 ((withF m.want 0 n).hd.seq), i6 ((withF m.want 0 n).hd.sum), i6 ((withF m.want 0 n).hd.long), .slice q6.A ((withF m.want 0 n).links.length) q6.c, .slice q6.B ((withF m.want 0 n).mem.length) q6.d, i6 1]) 1 hS10 rfl (on_none rfl) rfl (h_.b 4 s4) (h_.d 1 15) rfl (by kernel_rfl) ⟨Nat.le_of_ble_eq_true rfl, rfl, by kernel_rfl⟩ rfl fun w17 hS17 he17 => ⟨_, rfl, ?_⟩, trivial⟩
    clear h_ a_ he17 hS10
    replace hS17 : S (kap W) ((blkA g7 27 #[i6 ((withF m.want 0 n).hd.age), i6 ((withF m.want 0 n).hd.kind), i6 ((withF m.want 0 n).hd.id), i6 ((withF m.want 0 n).hd.adv), i6 ((withF m.want 0 n).hd.seq), i6 ((withF m.want 0 n).hd.sum), i6 ((withF m.want 0 n).hd.long), .slice q6.A ((withF m.want 0 n).links.length) q6.c, .slice q6.B ((withF m.want 0 n).mem.length) q6.d]) :: (blkA g4 36 #[i6 ((withF m.want 0 n).hd.age), i6 ((withF m.want 0 n).hd.kind), i6 ((withF m.want 0 n).hd.id), i6 ((withF m.want 0 n).hd.adv), i6 ((withF m.want 0 n).hd.seq), i6 ((withF m.want 0 n).hd.sum), i6 ((withF m.want 0 n).hd.long), .slice q6.A ((withF m.want 0 n).links.length) q6.c, .slice q6.B ((withF m.want 0 n).mem.length) q6.d, i6 1]) :: (blkA g3 29 #[i6 m.want.hd.age, i6 m.want.hd.kind, i6 m.want.hd.id, i6 m.want.hd.adv, i6 m.want.hd.seq, i6 m.want.hd.sum, i6 m.want.hd.long, .slice p.A m.want.links.length p.c, .slice p.B m.want.mem.length p.d, .bool m.wanted, i6 m.held.hd.age, i6 m.held.hd.kind, i6 m.held.hd.id, i6 m.held.hd.adv, i6 m.held.hd.seq, i6 m.held.hd.sum, i6 m.held.hd.long, .slice q.A m.held.links.length q.c, .slice q.B m.held.mem.length q.d, .bool m.is_, i6 m.last, i6 m.at_, .bool m.ever]) :: []) ((rowB W.heap.size (.slice q6.A (withF m.want 0 n).links.length q6.c) 69 4 (withF m.want 0 n).links.length (rowC Lk.cells (withF m.want 0 n).links)) :: (rowB W.heap.size (.slice q6.B (withF m.want 0 n).mem.length q6.d) 3 1 (withF m.want 0 n).mem.length (ints (withF m.want 0 n).mem)) :: (memA W W.heap.size) :: []) w17 := hS17
    intro a16 hput
    replace s4 := hput.o 4 s4
    replace hz := hput.size.trans hz
    replace hd := hput.defers.trans hd
    clear hput s5
    change Code.wp _ _ _ _ _
    refine wp_ret ?_
    refine retC (P := Try.prog) (fn := Try.f27) hd s4 (hS17.blk (i := 1) rfl) (hR_ _ _ ?_) Try.underlying36
    rw [show tellF m n = withF m.want 0 n by show sealF (withF m.want 0 n) = _; unfold sealF; rw [hc11]; rfl]
    exact ⟨q6, rfl, lown_of (l := (withF m.want 0 n)) hS17 0, (hS17.old (by simp))⟩
end Go.Proofs.Ytmklebkldailnaa
