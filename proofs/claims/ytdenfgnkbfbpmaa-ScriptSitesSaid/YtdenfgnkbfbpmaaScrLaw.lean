/-
  ScriptSites: the walk of the law.
-/
import Derived.Test.YtdenfgnkbfbpmaaScrA
namespace Go.Proofs.Ytdenfgnkbfbpmaa
open Go.RowKit
set_option linter.unusedSimpArgs false
set_option linter.unusedVariables false

theorem st_lit0 {P : Program} {ops : Array Oper} {Q : Exit → Act → World → Prop} {o : Oper} {a : Act} {w : World} {K : Act → World → Prop} {E : Prop} {κ : Kap} {L I : List Atom} {t e : TypeId} (size : Nat) (hS : S κ L I w) (hw : Region.wanted o (yielded ops a.tmps) = true) (ho : o.op = .buildSlice t 0 #[])
    (h : ∀ g w', S κ (rowA (.slice (some ⟨g, 0, none⟩) 0 0) e size 0 [] :: L) I w' → Below w.heap.size w w' → K (a.put o.dst (.slice (some ⟨g, 0, none⟩) 0 0)) w')
    (ht : P.underlying t = some (.slice e) := by kernel_rfl) (he : (P.info? e).isSome = true := by kernel_rfl) : if Region.wanted o (yielded ops a.tmps) = true then o.wp P a w K Q else E := by
  obtain ⟨ie, hi⟩ := Option.isSome_iff_exists.1 he
  have hS2 := hS.push (below_new w (.cells #[] e)) (a := blkA w.heap.size e #[]) ⟨rfl, Blk.new w e _⟩ (by simp)
  refine step_ok (w' := w.alloc (.cells #[] e)) (v := .slice (some ⟨w.heap.size, 0, none⟩) 0 0) hw ?_ (h _ _ (hS2.litRow (size := size) (by simp) (by omega)) (below_new w _))
  unfold execOp; simp only [ho]
  have hr : (Instr.buildSlice t 0 #[]).run P w = .ok (.slice (some ⟨w.heap.size, 0, none⟩) 0 0) (w.alloc (.cells #[] e)) := by
    simp [Instr.buildSlice, run_underlying ht, sizeOf, typeInfo, hi, Instr.fill, newRow]
    exact congrArg (fun c => w.alloc (.cells c e)) (by simp [Array.range])
  simp only [List.map_toArray, List.map_nil, Sem.run_bind, hr]; rfl
theorem eq_ent (w : World) : (binOp .eql 91 (.agg #[i6 4, i6 2, i6 0, i6 0]) (.agg #[i6 4, i6 2, i6 0, i6 0])).run Try.prog w = .ok (.bool true) w := by
  go_simp
theorem row_cap {κ : Kap} {L I : List Atom} {w : World} {i e size n c : Nat} {A : Option Addr} {xs : List Value} (h : S κ L I w) (hi : L[i]? = some (rowA (.slice A n c) e size n xs)) : n ≤ c ∧ c ≤ 9223372036854775807 := by
  obtain ⟨_, h | ⟨g, cap, cur, h, _, _, h2, h3, _⟩⟩ := h.row hi
  · obtain ⟨h, rfl⟩ := h
    cases h; exact ⟨Nat.le_refl _, by omega⟩
  · cases h
    exact ⟨h2, h3⟩
theorem sitesF_mem {bs : List Int} {x : SitV} (h : x ∈ sitesF bs) : (1 ≤ x.id ∧ x.id ≤ 15) ∧ x.ports.length ≤ bs.length / 3 ∧ goodP x.ports := by
  obtain ⟨i, hi, rfl, _⟩ := sitesU_mem h
  refine ⟨⟨by show 1 ≤ (i : Int) + 1; omega, by show (i : Int) + 1 ≤ 15; omega⟩, ?_, ?_⟩
  · show ((portsK bs (bs.length / 3)).getD i []).length ≤ _
    rw [portsK_of bs i hi]; exact portsOf_len _ _ _
  · show goodP ((portsK bs (bs.length / 3)).getD i [])
    rw [portsK_of bs i hi]; exact portsOf_good _ _ _
theorem q_mem {bs : List Int} {q : List (SitV × SlP)} (hq : q.map (·.1) = sitesF bs) {x : SitV × SlP} (hx : x ∈ q) : x.1 ∈ sitesF bs := by
  rw [← hq]; exact List.mem_map_of_mem hx
theorem q_rise {bs : List Int} {q : List (SitV × SlP)} (hq : q.map (·.1) = sitesF bs) (i j : Nat) (x y : SitV × SlP) (hij : i < j) (hx : q[i]? = some x) (hy : q[j]? = some y) : x.1.id < y.1.id := by
  have hp : (q.map (·.1)).Pairwise (fun x y => x.id < y.id) := by rw [hq]; exact sitesU_rise
  have h1 : (q.map (·.1))[i]? = some x.1 := by rw [List.getElem?_map, hx]; rfl
  have h2 : (q.map (·.1))[j]? = some y.1 := by rw [List.getElem?_map, hy]; rfl
  obtain ⟨g1, e1⟩ := List.getElem?_eq_some_iff.1 h1
  obtain ⟨g2, e2⟩ := List.getElem?_eq_some_iff.1 h2
  have := List.pairwise_iff_getElem.1 hp i j g1 g2 hij
  rwa [e1, e2] at this
theorem q_small {bs : List Int} {q : List (SitV × SlP)} (hq : q.map (·.1) = sitesF bs) : q.length ≤ 5 := by
  have h1 : (q.map (·.1)).length = (sitesF bs).length := by rw [hq]
  rw [List.length_map] at h1
  have h2 : (sitesF bs).length ≤ 5 := sitesU_len _ 5
  omega
set_option maxRecDepth 100000 in
set_option maxHeartbeats 800000 in
theorem wakes26_any  (W : World) :
    Calls Try.prog 13 #[] W (fun r w' => r = .returned (.bool true) ∧ Below W.heap.size W w') := by
  have hS := S.start W
  refine calls_walk Try.func13 rfl fun R_ hR_ a hz hd hargs => ?_
  replace hz : a.tmps.size = 14 := hz.trans (by kernel_rfl)
  clear hargs
  refine wp_seq ?_
  refine seq_l [] hz ?_
  refine ⟨.bool false, fun _ h_ => rk (run_assign rfl rfl), ?_⟩
  intro a2 hput
  have s0 : sl a2 0 = .bool false := hput.new 0 0 rfl
  replace hz := hput.size.trans hz
  replace hd := hput.defers.trans hd
  clear hput
  change Code.wp _ _ _ _ _
  refine wp_seq ?_
  refine seq_l [0, 1] hz ?_
  refine ⟨fun a_ h_ => st_lit (e := 5) (vals := [(0, .int .u8 4), (1, .int .u8 2), (2, .int .u8 0), (3, .int .u8 0)]) (cells := #[.int .u8 4, .int .u8 2, .int .u8 0, .int .u8 0]) hS (on_none rfl) rfl (parts4 rfl rfl rfl rfl) fun g4 w4 hS4 hb4 => ⟨_, rfl, ?_⟩, trivial⟩
  clear h_ a_ hS
  clear hb4
  refine ⟨fun a_ h_ => st_call (on_none rfl) (run_call rfl (map1 (h_.d 0 2)) rfl) (get_any _ 4 4 [4, 2, 0, 0] _ (by omega) (by omega) (by omega) ((reads_blk (size := 1) (n := 4) (hS4.blk (i := 0) rfl) rfl).more (hS4.blk (i := 0) rfl).lt) (by decide)) ?_, trivial⟩
  rintro e w5 ⟨B, d, rfl, ho, hb⟩
  refine ⟨_, rfl, _, rfl, ?_⟩
  clear h_ a_
  replace ho : w5.ownsRow _ 91 4 (.slice B 1 d) 1 (rowC EntV.cells [⟨4, 2, 0, 0⟩]) := ho
  have hr := Reads.of_own ho
  have hS5 := hS4.below hb
  clear hS4 hb ho
  refine ⟨.slice B 1 d, fun _ h_ => ras (h_.d 1 3), ?_⟩
  intro a3 hput
  replace s0 := hput.o 0 s0
  have s1 : sl a3 1 = .slice B 1 d := hput.new 2 1 rfl
  replace hz := hput.size.trans hz
  replace hd := hput.defers.trans hd
  clear hput
  change Code.wp _ _ _ _ _
  refine wp_seq ?_
  refine seq_l [] hz ?_
  refine ⟨.slice B 1 d, fun _ h_ => rmv (h_.b 1 s1),
   i6 1, fun _ h_ => rk (run_lenS rfl (h_.d 0 4) (by kernel_rfl)),
   .bool true, fun _ h_ => rk (run_cmp rfl (h_.d 1 5) rfl rfl (by decide)),
   .bool true, fun _ h_ => rmv (h_.d 2 6),
   .slice B 1 d, fun _ h_ => r_ok (h_.on 3 7) (run_move rfl (h_.b 1 s1)), ?_⟩
  obtain ⟨b7, o7, z7, hA7, hb7, hz7, hq7⟩ := Reads.row_at EntV.cells 4 EntV.cells_len (k := 0) (Reads.old hr (Below.refl _ _)) (by decide) (by omega)
  obtain rfl : (⟨4, 2, 0, 0⟩ : EntV) = z7 := Option.some.inj ((rfl : ([⟨4, 2, 0, 0⟩] : List EntV)[0]? = _).symm.trans hz7)
  refine ⟨pt b7 (o7 + 0 * 4), fun _ h_ => r_ok (h_.on 3 7) (run_indexV (size := 4) rfl (h_.d 4 8) hA7 rfl (by kernel_rfl) (by omega) (by simp)),
   .agg #[i6 4, i6 2, i6 0, i6 0], fun _ h_ => r_ok (h_.on 3 7) (run_loadV (size := 4) (cs := EntV.cells (⟨4, 2, 0, 0⟩ : EntV)) rfl (h_.d 5 9) (by kernel_rfl) rfl hq7),
   .agg #[i6 4, i6 2, i6 0, i6 0], fun _ h_ => r_ok (h_.on 3 7) (run_build (vals := #[(0, i6 4), (1, i6 2)]) (r := .agg #[i6 4, i6 2, i6 0, i6 0]) rfl (bp2 rfl rfl) (by kernel_rfl)),
   .bool true, fun _ h_ => r_ok (h_.on 3 7) (run_bin2 rfl (h_.d 6 10) (h_.d 7 11) (fun _ => by kernel_rfl) eq_ent),
   .bool true, fun _ h_ => rk (run_pick_t rfl (h_.d 3 7) (h_.d 8 12)),
   .bool true, fun _ h_ => ras (h_.d 9 13), ?_⟩
  intro a6 hput
  replace s0 : sl a6 0 = .bool true := hput.new 10 0 rfl
  replace hz := hput.size.trans hz
  replace hd := hput.defers.trans hd
  clear hput s1
  change Code.wp _ _ _ _ _
  refine wp_ret ?_
  refine ret1 (P := Try.prog) (fn := Try.f13) hd s0 (hR_ _ _ ?_)
  exact ⟨rfl, (hS5.old (by simp))⟩
set_option maxRecDepth 100000 in
set_option maxHeartbeats 800000 in
theorem lawSites_any (A : Option Addr) (n c : Nat) (bs : List Int) (W : World) (hnc : n ≤ c) (hcap : c ≤ 9223372036854775807) (hr : Reads W W.heap.size 1 A n (u8s bs)) (hby : ∀ z ∈ bs, 0 ≤ z ∧ z < 256) :
    Calls Try.prog 4 #[.slice A n c] W (fun r w' => r = .returned (.bool true) ∧ Below W.heap.size W w') := by
  have hS := S.start W
  refine calls_walk Try.func4 rfl fun R_ hR_ a hz hd hargs => ?_
  replace hz : a.tmps.size = 45 := hz.trans (by kernel_rfl)
  have s0 := hargs 0 _ rfl
  clear hargs
  refine wp_seq ?_
  refine seq_l [] hz ?_
  refine ⟨.bool false, fun _ h_ => rk (run_assign rfl rfl), ?_⟩
  intro a2 hput
  replace s0 := hput.o 0 s0
  have s2 : sl a2 2 = .bool false := hput.new 0 2 rfl
  replace hz := hput.size.trans hz
  replace hd := hput.defers.trans hd
  clear hput
  change Code.wp _ _ _ _ _
  refine wp_seq ?_
  refine wp_seq ?_
  refine seq_l [0] hz ?_
  refine ⟨fun a_ h_ => st_call (on_none rfl) (run_call rfl (by simp) rfl) (wakes26_any _) ?_, trivial⟩
  rintro e w4 ⟨rfl, hb4⟩
  refine ⟨_, rfl, _, rfl, ?_⟩
  clear h_ a_
  have hS4 := hS.below hb4
  clear hS hb4
  refine ⟨.bool false, fun _ h_ => rk (run_not rfl (h_.d 0 6) rfl), ?_⟩
  intro a3 hput
  replace s0 := hput.o 0 s0
  replace s2 := hput.o 2 s2
  have s7 : sl a3 7 = .bool false := hput.new 1 7 rfl
  replace hz := hput.size.trans hz
  replace hd := hput.defers.trans hd
  clear hput
  change Code.wp _ _ _ _ _
  refine wp_cond_false s7 ?_
  refine wp_skip ?_
  change Code.wp _ _ _ _ _
  refine wp_seq ?_
  refine wp_seq ?_
  refine seq_l [] hz ?_
  refine ⟨.slice A n c, fun _ h_ => rmv (h_.b 0 s0),
   i6 n, fun _ h_ => rk (run_lenS rfl (h_.d 0 8) (by kernel_rfl)),
   .bool (decide ((200 : Int) < n)), fun _ h_ => rk (run_cmp rfl (h_.d 1 9) rfl rfl (by first | rfl | exact neq_dec _ _ | exact eq_dec _ _ | simp)), ?_⟩
  intro a5 hput
  replace s0 := hput.o 0 s0
  replace s2 := hput.o 2 s2
  have s10 : sl a5 10 = .bool (decide ((200 : Int) < n)) := hput.new 2 10 rfl
  replace hz := hput.size.trans hz
  replace hd := hput.defers.trans hd
  clear hput s7
  change Code.wp _ _ _ _ _
  refine wp_cond_d s10 (fun hc10 => ?_) (fun hc10 => ?_)
  · clear s10
    refine wp_seq ?_
    refine seq_l [] hz ?_
    refine ⟨.bool true, fun _ h_ => rk (run_assign rfl rfl), ?_⟩
    intro a6 hput
    replace s0 := hput.o 0 s0
    replace s2 : sl a6 2 = .bool true := hput.new 0 2 rfl
    replace hz := hput.size.trans hz
    replace hd := hput.defers.trans hd
    clear hput
    change Code.wp _ _ _ _ _
    refine wp_ret ?_
    refine ret1 (P := Try.prog) (fn := Try.f4) hd s2 (hR_ _ _ ?_)
    exact ⟨rfl, (hS4.old (by simp))⟩
  · clear s10
    refine wp_skip ?_
    change Code.wp _ _ _ _ _
    refine wp_seq ?_
    refine seq_l [0, 2] hz ?_
    refine ⟨fun a_ h_ => st_lit0 (e := 5) 1 hS4 (on_none rfl) rfl fun g8 w8 hS8 hb8 => ⟨_, rfl, ?_⟩, trivial⟩
    clear h_ a_ hS4
    clear hb8
    refine ⟨.slice A n c, fun _ h_ => rmv (h_.b 0 s0), ?_⟩
    refine ⟨fun a_ h_ => sap0 (bytes := 1) (news := u8s bs) hS8 0 (on_none rfl) rfl (h_.d 0 11) (h_.d 1 12) (Reads.old hr (hS8.old (by simp))) (by exact u8s_one _) (by (try unfold maxLen); omega) (by (try unfold maxLen); omega) fun A9 c9 w9 hS9 => ⟨_, rfl, ?_⟩, trivial⟩
    clear h_ a_ hS8
    replace hS9 : S (kap W) ((rowA (.slice A9 n c9) 5 1 n (u8s bs)) :: []) ((memA W W.heap.size) :: []) w9 := hS9
    refine ⟨.slice A9 n c9, fun _ h_ => ras (h_.d 2 13), ?_⟩
    intro a7 hput
    replace s0 := hput.o 0 s0
    replace s2 := hput.o 2 s2
    have s3 : sl a7 3 = .slice A9 n c9 := hput.new 3 3 rfl
    replace hz := hput.size.trans hz
    replace hd := hput.defers.trans hd
    clear hput
    change Code.wp _ _ _ _ _
    refine wp_seq ?_
    refine seq_l [1] hz ?_
    refine ⟨.slice A9 n c9, fun _ h_ => rmv (h_.b 3 s3), ?_⟩
    obtain ⟨hcp1, hcp2⟩ := row_cap (i := 0) hS9 rfl
    refine ⟨fun a_ h_ => st_call (on_none rfl) (run_call rfl (map1 (h_.d 0 14)) rfl) (sites_any _ _ _ bs _ (by omega) hcp1 hcp2 (hS9.rd (i := 0) rfl) hby) ?_, trivial⟩
    rintro e w11 ⟨B, m, d, q, rfl, hq, ho, hqe, hb⟩
    refine ⟨_, rfl, _, rfl, ?_⟩
    clear h_ a_
    have hS11 := hS9.pushRow hb ho
    clear hS9 hb ho
    refine ⟨.slice B m d, fun _ h_ => ras (h_.d 1 15), ?_⟩
    intro a10 hput
    replace s0 := hput.o 0 s0
    replace s2 := hput.o 2 s2
    replace s3 := hput.o 3 s3
    have s4 : sl a10 4 = .slice B m d := hput.new 2 4 rfl
    replace hz := hput.size.trans hz
    replace hd := hput.defers.trans hd
    clear hput
    change Code.wp _ _ _ _ _
    refine wp_seq ?_
    refine wp_seq ?_
    have hqn := sits_len (hS11.rd (i := 0) rfl)
    have hq5 := q_small hq
    have hbl : bs.length = n := u8s_of2 hr
    refine seq_l [2, 3, 7, 8] hz ?_
    refine ⟨.slice B m d, fun _ h_ => rmv (h_.b 4 s4),
     .slice A n c, fun _ h_ => rmv (h_.b 0 s0), ?_⟩
    refine ⟨fun a_ h_ => st_call (on_none rfl) (run_call rfl (map1 (h_.d 1 17)) rfl) (rsites_any _ _ _ bs _ (by omega) (Reads.old hr (hS11.old (by simp))) hby) ?_, trivial⟩
    rintro e w13 ⟨B2, m2, d2, q2, rfl, hq2, ho, hqe2, hb⟩
    refine ⟨_, rfl, _, rfl, ?_⟩
    clear h_ a_
    have hS13 := hS11.pushRow hb ho
    replace hqe := fun x hx => Reads.old (hqe x hx) hb
    clear hS11 hb ho
    obtain rfl : m2 = m := by have h1 := sits_len (hS13.rd (i := 0) rfl); have h2 := congrArg List.length (hq.trans hq2.symm); rw [List.length_map, List.length_map] at h2; omega
    refine ⟨fun a_ h_ => st_call (on_none rfl) (run_call rfl (map2 (h_.d 0 16) (h_.d 2 18)) rfl) (same26_any _ _ _ _ _ q q2 _ (by omega) (hq.trans hq2.symm) (hS13.rd (i := 1) rfl) (hS13.rd (i := 0) rfl) (fun x hx => ⟨hqe x hx, (by have := (sitesF_mem (q_mem hq hx)).2.1; omega)⟩) hqe2) ?_, trivial⟩
    rintro e w14 ⟨rfl, hb14⟩
    refine ⟨_, rfl, _, rfl, ?_⟩
    clear h_ a_
    have hS14 := hS13.below hb14
    replace hqe := fun x hx => Reads.old (hqe x hx) hb14
    replace hqe2 := fun x hx => Reads.old (hqe2 x hx) hb14
    clear hS13 hb14
    refine ⟨.bool false, fun _ h_ => rk (run_not rfl (h_.d 3 19) rfl),
     .bool false, fun _ h_ => rmv (h_.d 4 20),
     .slice B m2 d, fun _ h_ => r_ok (h_.on 5 21) (run_move rfl (h_.b 4 s4)), ?_⟩
    refine ⟨fun a_ h_ => st_call (h_.on 5 21) (run_call rfl (map1 (h_.d 6 22)) rfl) (worldNew_any _ _ _ q _ (by omega) (hS14.rd (i := 1) rfl) (fun x hx => ⟨hqe x hx, (by have := (sitesF_mem (q_mem hq hx)).2.1; omega)⟩) (fun x hx => new_good (sitesF_mem (q_mem hq hx)).1 (sitesF_mem (q_mem hq hx)).2.2) (q_rise hq)) ?_, trivial⟩
    rintro e w15 ⟨gw, Bw, dw, us, ns, rfl, hus, hSw⟩
    refine ⟨_, rfl, _, rfl, ?_⟩
    clear h_ a_
    have hb : Below _ _ w15 := hSw.old (by simp)
    have hwb := hSw.blk (i := 0) rfl
    have hwr := hSw.rd (i := 1) rfl
    have hwi := ids_ready (i := 2) hSw rfl
    have hS15 := hS14.below hb
    replace hqe := fun x hx => Reads.old (hqe x hx) hb
    replace hqe2 := fun x hx => Reads.old (hqe2 x hx) hb
    clear hS14 hb hSw
    refine ⟨fun a_ h_ => st_call (h_.on 5 21) (run_call rfl (map1 (h_.d 7 23)) rfl) (ids_any _ _ _ _ us ns _ (by omega) hwb hwr hwi) ?_, trivial⟩
    rintro e w16 ⟨Bi, di, rfl, hb⟩
    refine ⟨_, rfl, _, rfl, ?_⟩
    clear h_ a_ hwb hwr hwi
    have hS16 := hS15.below hb
    replace hqe := fun x hx => Reads.old (hqe x hx) hb
    replace hqe2 := fun x hx => Reads.old (hqe2 x hx) hb
    clear hS15 hb
    refine ⟨i6 m2, fun _ h_ => r_ok (h_.on 5 21) (run_lenS rfl (h_.d 8 24) (by kernel_rfl)),
     .slice B m2 d, fun _ h_ => r_ok (h_.on 5 21) (run_move rfl (h_.b 4 s4)),
     i6 m2, fun _ h_ => r_ok (h_.on 5 21) (run_lenS rfl (h_.d 10 26) (by kernel_rfl)),
     .bool false, fun _ h_ => r_ok (h_.on 5 21) (run_cmp rfl (h_.d 9 25) (h_.d 11 27) rfl (by simp)),
     .bool false, fun _ h_ => rk (run_pick_f rfl (h_.d 5 21) (h_.d 12 28)), ?_⟩
    intro a12 hput
    replace s0 := hput.o 0 s0
    replace s2 := hput.o 2 s2
    replace s3 := hput.o 3 s3
    have s29 : sl a12 29 = .bool false := hput.new 13 29 rfl
    replace hz := hput.size.trans hz
    replace hd := hput.defers.trans hd
    clear hput s4
    change Code.wp _ _ _ _ _
    refine wp_cond_false s29 ?_
    refine wp_skip ?_
    change Code.wp _ _ _ _ _
    refine wp_seq ?_
    refine wp_seq ?_
    refine seq_l [] hz ?_
    refine ⟨.slice A n c, fun _ h_ => rmv (h_.b 0 s0),
     i6 n, fun _ h_ => rk (run_lenS rfl (h_.d 0 30) (by kernel_rfl)),
     i6 0, fun _ h_ => rk (run_move rfl rfl), ?_⟩
    intro a17 hput
    replace s0 := hput.o 0 s0
    replace s2 := hput.o 2 s2
    replace s3 := hput.o 3 s3
    have s31 : sl a17 31 = i6 n := hput.new 1 31 rfl
    have s32 : sl a17 32 = i6 0 := hput.new 2 32 rfl
    replace hz := hput.size.trans hz
    replace hd := hput.defers.trans hd
    clear hput s29
    change Code.wp _ _ _ _ _
    refine wp_block ?_
    refine wp_loop (fun a_ w_ => ∃ k : Nat, (k ≤ n) ∧ a_.tmps.size = 45 ∧ a_.defers = [] ∧ sl a_ 0 = .slice A n c ∧ sl a_ 2 = .bool false ∧ sl a_ 3 = .slice A9 n c9 ∧ sl a_ 31 = i6 n ∧ sl a_ 32 = i6 k ∧ S (kap W) ((rowA (.slice B2 m2 d2) 102 2 m2 (rowC sitC q2)) :: (rowA (.slice B m2 d) 102 2 m2 (rowC sitC q)) :: (rowA (.slice A9 n c9) 5 1 n (u8s bs)) :: []) ((memA W W.heap.size) :: []) w_) (fun a_ _ => n - (intOf (sl a_ 32)).toNat) ?_ ?_
    · exact ⟨0, Nat.zero_le _, hz, hd, s0, s2, s3, s31, s32, hS16⟩
    · clear hz hd s0 s2 s3 s31 s32 hS16
      rintro a18 w18 ⟨k, hc0_0, hz, hd, s0, s2, s3, s31, s32, hS18⟩
      have hmu0 := s32
      refine wp_seq ?_
      refine seq_l [] hz ?_
      refine ⟨.bool (decide ((k : Int) < n)), fun _ h_ => rk (run_cmp rfl (h_.b 32 s32) (h_.b 31 s31) rfl (by first | rfl | exact neq_dec _ _ | exact eq_dec _ _ | simp)), ?_⟩
      intro a19 hput
      replace s0 := hput.o 0 s0
      replace s2 := hput.o 2 s2
      replace s3 := hput.o 3 s3
      replace s31 := hput.o 31 s31
      replace s32 := hput.o 32 s32
      have s33 : sl a19 33 = .bool (decide ((k : Int) < n)) := hput.new 0 33 rfl
      replace hz := hput.size.trans hz
      replace hd := hput.defers.trans hd
      clear hput
      change Code.wp _ _ _ _ _
      refine wp_seq ?_
      refine wp_cond_d s33 (fun hc33 => ?_) (fun hc33 => ?_)
      · clear s33
        refine wp_skip ?_
        change Code.wp _ _ _ _ _
        refine wp_seq ?_
        refine wp_block ?_
        refine wp_seq ?_
        refine seq_l [] hz ?_
        refine ⟨i6 k, fun _ h_ => rmv (h_.b 32 s32),
         i6 k, fun _ h_ => ras (h_.d 0 34), ?_⟩
        intro a20 hput
        replace s0 := hput.o 0 s0
        replace s2 := hput.o 2 s2
        replace s3 := hput.o 3 s3
        have s5 : sl a20 5 = i6 k := hput.new 1 5 rfl
        replace s31 := hput.o 31 s31
        replace s32 := hput.o 32 s32
        have s34 : sl a20 34 = i6 k := hput.new 0 34 rfl
        replace hz := hput.size.trans hz
        replace hd := hput.defers.trans hd
        clear hput
        change Code.wp _ _ _ _ _
        refine wp_seq ?_
        obtain ⟨z, hz0⟩ : ∃ z, bs[k]? = some z := ⟨_, List.getElem?_eq_getElem (by have : bs.length = n := u8s_of2 hr; omega)⟩
        refine seq_r [[], [], [0, 1], [0, 1, 2], [], [], [4, 5], [4, 5, 6], [0, 1, 2, 3, 4, 5, 6, 7]] [] (.rd 0 (.rd 1 (.rd 2 (.rd 3 (.rd 4 (.rd 5 (.rd 6 (.rd 7 (.rd 8 (.fin)))))))))) hz fun w21 hb21 => ?_
        replace hS18 := hS18.below hb21
        refine ⟨.slice A9 n c9, fun _ h_ => rmv (h_.b 3 s3),
         i6 k, fun _ h_ => rmv (h_.b 5 s5), ?_⟩
        obtain ⟨b22, o22, z22, hA22, hb22, hz22, hq22⟩ := Reads.byte_at (k := k) (hS18.rd (i := 2) rfl) (by omega)
        obtain rfl : z = z22 := Option.some.inj (hz0.symm.trans hz22)
        refine ⟨pt b22 (o22 + k), fun _ h_ => rk (run_indexV (size := 1) rfl (h_.d 0 35) hA22 (h_.d 1 36) (by kernel_rfl) (by omega) (by simp)),
         .int .u8 z, fun _ h_ => rk (run_load rfl (h_.d 2 37) (by kernel_rfl) (show w21.cell? ⟨b22, o22 + k, none⟩ = some (.int .u8 z) from hq22)),
         .slice A n c, fun _ h_ => rmv (h_.b 0 s0),
         i6 k, fun _ h_ => rmv (h_.b 5 s5), ?_⟩
        obtain ⟨b23, o23, z23, hA23, hb23, hz23, hq23⟩ := Reads.byte_at (k := k) (Reads.old hr (hS18.old (by simp))) (by omega)
        obtain rfl : z = z23 := Option.some.inj (hz0.symm.trans hz23)
        refine ⟨pt b23 (o23 + k), fun _ h_ => rk (run_indexV (size := 1) rfl (h_.d 4 39) hA23 (h_.d 5 40) (by kernel_rfl) (by omega) (by simp)),
         .int .u8 z, fun _ h_ => rk (run_load rfl (h_.d 6 41) (by kernel_rfl) (show w21.cell? ⟨b23, o23 + k, none⟩ = some (.int .u8 z) from hq23)),
         .bool false, fun _ h_ => rk (run_cmp rfl (h_.d 3 38) (h_.d 7 42) rfl (by simp)), ?_⟩
        intro a21 hput
        replace s0 := hput.o 0 s0
        replace s2 := hput.o 2 s2
        replace s3 := hput.o 3 s3
        replace s5 := hput.o 5 s5
        replace s31 := hput.o 31 s31
        replace s32 := hput.o 32 s32
        replace s34 := hput.o 34 s34
        have s35 : sl a21 35 = .slice A9 n c9 := hput.new 0 35 rfl
        have s36 : sl a21 36 = i6 k := hput.new 1 36 rfl
        have s37 : sl a21 37 = pt b22 (o22 + k) := hput.new 2 37 rfl
        have s38 : sl a21 38 = .int .u8 z := hput.new 3 38 rfl
        have s39 : sl a21 39 = .slice A n c := hput.new 4 39 rfl
        have s40 : sl a21 40 = i6 k := hput.new 5 40 rfl
        have s41 : sl a21 41 = pt b23 (o23 + k) := hput.new 6 41 rfl
        have s42 : sl a21 42 = .int .u8 z := hput.new 7 42 rfl
        have s43 : sl a21 43 = .bool false := hput.new 8 43 rfl
        replace hz := hput.size.trans hz
        replace hd := hput.defers.trans hd
        clear hput
        change Code.wp _ _ _ _ _
        refine wp_cond_false s43 ?_
        refine wp_skip ?_
        change Code.wp _ _ _ _ _
        refine seq_l [] hz ?_
        refine ⟨i6 (k + 1), fun _ h_ => rk (run_addI rfl (h_.b 32 s32) rfl (by omega) rfl),
         i6 (k + 1), fun _ h_ => rmv (h_.d 0 44), ?_⟩
        intro a24 hput
        replace s0 := hput.o 0 s0
        replace s2 := hput.o 2 s2
        replace s3 := hput.o 3 s3
        replace s5 := hput.o 5 s5
        replace s31 := hput.o 31 s31
        replace s32 : sl a24 32 = i6 (k + 1) := hput.new 1 32 rfl
        replace s34 := hput.o 34 s34
        replace s35 := hput.o 35 s35
        replace s36 := hput.o 36 s36
        replace s37 := hput.o 37 s37
        replace s38 := hput.o 38 s38
        replace s39 := hput.o 39 s39
        replace s40 := hput.o 40 s40
        replace s41 := hput.o 41 s41
        replace s42 := hput.o 42 s42
        replace s43 := hput.o 43 s43
        have s44 : sl a24 44 = i6 (k + 1) := hput.new 0 44 rfl
        replace hz := hput.size.trans hz
        replace hd := hput.defers.trans hd
        clear hput
        refine ⟨⟨k + 1, by omega, hz, hd, s0, s2, s3, s31, s32, hS18⟩, ?_⟩
        show n - (intOf (sl a24 32)).toNat < n - (intOf (sl a18 32)).toNat
        rw [show sl a24 32 = _ from s32, show sl a18 32 = _ from hmu0]
        simp only [intOf]
        omega
      · clear s33
        refine wp_exit ?_
        change Code.wp _ _ _ _ _
        refine wp_seq ?_
        refine seq_l [] hz ?_
        refine ⟨.bool true, fun _ h_ => rk (run_assign rfl rfl), ?_⟩
        intro a25 hput
        replace s2 : sl a25 2 = .bool true := hput.new 0 2 rfl
        replace hz := hput.size.trans hz
        replace hd := hput.defers.trans hd
        clear hput s0 s3 s31 s32
        change Code.wp _ _ _ _ _
        refine wp_ret ?_
        refine ret1 (P := Try.prog) (fn := Try.f4) hd s2 (hR_ _ _ ?_)
        exact ⟨rfl, (hS18.old (by simp))⟩
end Go.Proofs.Ytdenfgnkbfbpmaa
