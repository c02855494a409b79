/-
  world.New of sites that are right and rise; Ids.
-/
import Derived.Test.YtdenfgnkbfbpmaaSite
namespace Go.Proofs.Ytdenfgnkbfbpmaa
open Go.RowKit
set_option linter.unusedSimpArgs false
set_option linter.unusedVariables false

/-- a site, us told -/
structure SitV where
  id : Int
  ports : List PtV
def sitC (x : SitV × SlP) : List Value := [.int .i64 x.1.id, .slice x.2.A x.1.ports.length x.2.c]
theorem sitC_len (x : SitV × SlP) : (sitC x).length = 2 := rfl
theorem sits_len {w : World} {B n : Nat} {A : Option Addr} {l : List (SitV × SlP)} (h : Reads w B 2 A n (rowC sitC l)) : l.length = n := by have := h.1; rw [rowC_length sitC 2 sitC_len] at this; omega
/-- it lives -/
def siF (x : SitV) : SiS := bootF ⟨x.id, x.ports, 0, none⟩
def sitesL (us : List (Nat × SitV)) : List Atom := us.map fun x => siteA x.1 (siF x.2)
def wC (v : Value) (ns : List Value) : Array Value := (v :: ns).toArray
theorem roO_some {κ : Kap} {L I : List Atom} {w : World} {p : Option RoP} {o : Option RoS} (h : S κ (roO p o :: L) I w) (ho : o.isSome = true) : ∃ q, p = some q := by
  cases o with
  | none => cases ho
  | some s => cases p with
    | some q => exact ⟨q, rfl⟩
    | none => exact absurd (S.pure_open h).1 id
theorem sites_blk {κ : Kap} {L I : List Atom} {w : World} {us : List (Nat × SitV)} {i : Nat} (h : S κ L I w) (hi : L[i]? = some (sepA (sitesL us))) {k : Nat} {x : Nat × SitV} (hx : us[k]? = some x) :
    ∃ (v : SlP) (p : Option RoP), Blk w x.1 111 #[.int .i64 x.2.id, .slice v.A x.2.ports.length v.c, .int .i64 (siF x.2).boots, roE p] ∧ Reads w w.heap.size 3 v.A x.2.ports.length (rowC PtV.cells x.2.ports) := by
  have h2 := S.sep_at (h.front hi) (show (sitesL us)[k]? = some (siteA x.1 (siF x.2)) by rw [sitesL, List.getElem?_map, hx]; rfl)
  exact site_blk h2 (i := 0) rfl
theorem sites_more {κ : Kap} {L I : List Atom} {w : World} {us : List (Nat × SitV)} {x : Nat × SitV} (h : S κ (siteA x.1 (siF x.2) :: sepA (sitesL us) :: L) I w) : S κ (sepA (sitesL (us ++ [x])) :: L) I w := by
  have h1 := h.unmid1.sep_open
  have e : sitesL (us ++ [x]) = sitesL us ++ [siteA x.1 (siF x.2)] := by simp [sitesL]
  rw [e]
  refine S.sep_close (l := sitesL us ++ [siteA x.1 (siF x.2)]) ?_
  exact h1.perm ((List.perm_append_singleton _ _).symm.append_right L)
theorem ads_len {α : Type} {w : World} {B n : Nat} {A : Option Addr} {l : List (Nat × α)} (h : Reads w B 1 A n (rowC adC l)) : l.length = n := by have := h.1; rw [rowC_length adC 1 adC_len] at this; omega
theorem map_len {α β : Type} {f : α → β} {l : List α} {m : List β} (h : l.map f = m) : l.length = m.length := by rw [← h]; simp
theorem adC_one {α : Type} (l : List (Nat × α)) : ∀ u ∈ rowC adC l, u.oneCell' = true := fun u hu => by
  obtain ⟨x, _, h⟩ := List.mem_flatMap.1 hu
  simp [adC] at h; subst h; rfl
theorem rowC_snoc {α : Type} (cells : α → List Value) (l : List α) (x : α) : rowC cells l ++ cells x = rowC cells (l ++ [x]) := by simp [rowC]
set_option maxRecDepth 100000 in
set_option maxHeartbeats 800000 in
theorem findNone_any (g n c : Nat) (id : Int) (A : Option Addr) (us : List (Nat × SitV)) (ns : List Value) (W : World) (hn : n ≤ 1000) (hg : Blk W g 106 (wC (.slice A n c) ns)) (hR : Reads W W.heap.size 1 A n (rowC adC us)) (hb : ∀ x ∈ us, ∃ u A_ m_ c_ b_ r_, u ≠ id ∧ Blk W x.1 111 #[.int .i64 u, .slice A_ m_ c_, .int .i64 b_, r_]) :
    Calls Try.prog 53 #[pt g 0, i6 id] W (fun r w' => r = .returned (.pointer none) ∧ Below W.heap.size W w') := by
  have hS := S.start W
  refine calls_walk Try.func53 rfl fun R_ hR_ a hz hd hargs => ?_
  replace hz : a.tmps.size = 25 := hz.trans (by kernel_rfl)
  have s0 := hargs 0 _ rfl
  have s1 := hargs 1 _ rfl
  clear hargs
  refine wp_seq ?_
  refine seq_l [] hz ?_
  refine ⟨.pointer none, fun _ h_ => rk (run_assign rfl rfl), ?_⟩
  intro a2 hput
  replace s0 := hput.o 0 s0
  replace s1 := hput.o 1 s1
  have s4 : sl a2 4 = .pointer none := hput.new 0 4 rfl
  replace hz := hput.size.trans hz
  replace hd := hput.defers.trans hd
  clear hput
  change Code.wp _ _ _ _ _
  refine wp_seq ?_
  refine wp_seq ?_
  refine seq_l [] hz ?_
  refine ⟨pt g 0, fun _ h_ => rmv (h_.b 0 s0),
   pt g 0, fun _ h_ => rk (run_nilCheck rfl (h_.d 0 7)),
   pt g 0, fun _ h_ => rk (fa 0 rfl (h_.d 1 8)),
   .slice A n c, fun _ h_ => rk (run_load rfl (h_.d 2 9) (by kernel_rfl) (((hg.below (hS.old (by simp)) hg.lt).cell 0).trans rfl)),
   i6 n, fun _ h_ => rk (run_lenS rfl (h_.d 3 10) (by kernel_rfl)),
   i6 0, fun _ h_ => rk (run_move rfl rfl), ?_⟩
  intro a3 hput
  replace s1 := hput.o 1 s1
  replace s4 := hput.o 4 s4
  have s10 : sl a3 10 = .slice A n c := hput.new 3 10 rfl
  have s11 : sl a3 11 = i6 n := hput.new 4 11 rfl
  have s12 : sl a3 12 = i6 0 := hput.new 5 12 rfl
  replace hz := hput.size.trans hz
  replace hd := hput.defers.trans hd
  clear hput s0
  change Code.wp _ _ _ _ _
  refine wp_block ?_
  refine wp_loop (fun a_ w_ => ∃ k : Nat, (k ≤ n) ∧ a_.tmps.size = 25 ∧ a_.defers = [] ∧ sl a_ 1 = i6 id ∧ sl a_ 4 = .pointer none ∧ sl a_ 10 = .slice A n c ∧ sl a_ 11 = i6 n ∧ sl a_ 12 = i6 k ∧ S (kap W) ([]) ((memA W W.heap.size) :: []) w_) (fun a_ _ => n - (intOf (sl a_ 12)).toNat) ?_ ?_
  · exact ⟨0, Nat.zero_le _, hz, hd, s1, s4, s10, s11, s12, hS⟩
  · clear hz hd s1 s4 s10 s11 s12 hS
    rintro a4 w4 ⟨k, hc0_0, hz, hd, s1, s4, s10, s11, s12, hS4⟩
    have hmu0 := s12
    refine wp_seq ?_
    refine seq_l [] hz ?_
    refine ⟨.bool (decide ((k : Int) < n)), fun _ h_ => rk (run_cmp rfl (h_.b 12 s12) (h_.b 11 s11) rfl (by first | rfl | exact neq_dec _ _ | exact eq_dec _ _ | simp)), ?_⟩
    intro a5 hput
    replace s1 := hput.o 1 s1
    replace s4 := hput.o 4 s4
    replace s10 := hput.o 10 s10
    replace s11 := hput.o 11 s11
    replace s12 := hput.o 12 s12
    have s13 : sl a5 13 = .bool (decide ((k : Int) < n)) := hput.new 0 13 rfl
    replace hz := hput.size.trans hz
    replace hd := hput.defers.trans hd
    clear hput
    change Code.wp _ _ _ _ _
    refine wp_seq ?_
    refine wp_cond_d s13 (fun hc13 => ?_) (fun hc13 => ?_)
    · clear s13
      refine wp_skip ?_
      change Code.wp _ _ _ _ _
      refine wp_seq ?_
      refine wp_block ?_
      refine wp_seq ?_
      refine seq_l [] hz ?_
      obtain ⟨b7, o7, z7, hA7, hb7, hz7, hq7⟩ := Reads.row_at adC 1 adC_len (k := k) ((Reads.old hR (hS4.old (by simp)))) (by decide) (by omega)
      obtain ⟨u, A_, m_, c_, b_, r_, hu, hub⟩ := hb _ (List.mem_of_getElem? hz7)
      refine ⟨pt b7 (o7 + k * 1), fun _ h_ => rk (run_indexV (size := 1) rfl (h_.b 10 s10) hA7 (h_.b 12 s12) (by kernel_rfl) (by omega) (by simp)),
       pt z7.1 0, fun _ h_ => rk (run_load rfl (h_.d 0 14) (by kernel_rfl) (show w4.cell? ⟨b7, o7 + k * 1 + 0, none⟩ = some (pt z7.1 0) from hq7 0 _ rfl)),
       pt z7.1 0, fun _ h_ => ras (h_.d 1 15), ?_⟩
      intro a6 hput
      replace s1 := hput.o 1 s1
      replace s4 := hput.o 4 s4
      have s6 : sl a6 6 = pt z7.1 0 := hput.new 2 6 rfl
      replace s10 := hput.o 10 s10
      replace s11 := hput.o 11 s11
      replace s12 := hput.o 12 s12
      have s14 : sl a6 14 = pt b7 (o7 + k * 1) := hput.new 0 14 rfl
      have s15 : sl a6 15 = pt z7.1 0 := hput.new 1 15 rfl
      replace hz := hput.size.trans hz
      replace hd := hput.defers.trans hd
      clear hput
      change Code.wp _ _ _ _ _
      refine wp_seq ?_
      refine seq_l [] hz ?_
      refine ⟨pt z7.1 0, fun _ h_ => rmv (h_.b 6 s6),
       pt z7.1 0, fun _ h_ => rk (run_nilCheck rfl (h_.d 0 16)),
       pt z7.1 0, fun _ h_ => rk (fa 0 rfl (h_.d 1 17)),
       pt z7.1 0, fun _ h_ => rk (fa 0 rfl (h_.d 2 18)),
       i6 u, fun _ h_ => rk (run_load rfl (h_.d 3 19) (by kernel_rfl) ((hub.below (hS4.old (by simp)) hub.lt).cell 0)),
       i6 id, fun _ h_ => rmv (h_.b 1 s1),
       .bool false, fun _ h_ => rk (run_cmp rfl (h_.d 4 20) (h_.d 5 21) rfl (decide_eq_false hu)), ?_⟩
      intro a8 hput
      replace s1 := hput.o 1 s1
      replace s4 := hput.o 4 s4
      replace s6 := hput.o 6 s6
      replace s10 := hput.o 10 s10
      replace s11 := hput.o 11 s11
      replace s12 := hput.o 12 s12
      replace s14 := hput.o 14 s14
      replace s15 := hput.o 15 s15
      have s16 : sl a8 16 = pt z7.1 0 := hput.new 0 16 rfl
      have s17 : sl a8 17 = pt z7.1 0 := hput.new 1 17 rfl
      have s18 : sl a8 18 = pt z7.1 0 := hput.new 2 18 rfl
      have s19 : sl a8 19 = pt z7.1 0 := hput.new 3 19 rfl
      have s20 : sl a8 20 = i6 u := hput.new 4 20 rfl
      have s21 : sl a8 21 = i6 id := hput.new 5 21 rfl
      have s22 : sl a8 22 = .bool false := hput.new 6 22 rfl
      replace hz := hput.size.trans hz
      replace hd := hput.defers.trans hd
      clear hput
      change Code.wp _ _ _ _ _
      refine wp_cond_false s22 ?_
      refine wp_skip ?_
      change Code.wp _ _ _ _ _
      refine seq_l [] hz ?_
      refine ⟨i6 (k + 1), fun _ h_ => rk (run_addI rfl (h_.b 12 s12) rfl (by omega) rfl),
       i6 (k + 1), fun _ h_ => rmv (h_.d 0 24), ?_⟩
      intro a9 hput
      replace s1 := hput.o 1 s1
      replace s4 := hput.o 4 s4
      replace s6 := hput.o 6 s6
      replace s10 := hput.o 10 s10
      replace s11 := hput.o 11 s11
      replace s12 : sl a9 12 = i6 (k + 1) := hput.new 1 12 rfl
      replace s14 := hput.o 14 s14
      replace s15 := hput.o 15 s15
      replace s16 := hput.o 16 s16
      replace s17 := hput.o 17 s17
      replace s18 := hput.o 18 s18
      replace s19 := hput.o 19 s19
      replace s20 := hput.o 20 s20
      replace s21 := hput.o 21 s21
      replace s22 := hput.o 22 s22
      have s24 : sl a9 24 = i6 (k + 1) := hput.new 0 24 rfl
      replace hz := hput.size.trans hz
      replace hd := hput.defers.trans hd
      clear hput
      refine ⟨⟨k + 1, by omega, hz, hd, s1, s4, s10, s11, s12, hS4⟩, ?_⟩
      show n - (intOf (sl a9 12)).toNat < n - (intOf (sl a4 12)).toNat
      rw [show sl a9 12 = _ from s12, show sl a4 12 = _ from hmu0]
      simp only [intOf]
      omega
    · clear s13
      refine wp_exit ?_
      change Code.wp _ _ _ _ _
      refine wp_seq ?_
      refine seq_l [] hz ?_
      refine ⟨.pointer none, fun _ h_ => rk (run_assign rfl rfl), ?_⟩
      intro a10 hput
      replace s4 : sl a10 4 = .pointer none := hput.new 0 4 rfl
      replace hz := hput.size.trans hz
      replace hd := hput.defers.trans hd
      clear hput s1 s10 s11 s12
      change Code.wp _ _ _ _ _
      refine wp_ret ?_
      refine ret1 (P := Try.prog) (fn := Try.f53) hd s4 (hR_ _ _ ?_)
      exact ⟨rfl, (hS4.old (by simp))⟩
set_option maxRecDepth 100000 in
set_option maxHeartbeats 800000 in
theorem ids_any (g n c : Nat) (A : Option Addr) (us : List (Nat × SitV)) (ns : List Value) (W : World) (hn : n ≤ 1000) (hg : Blk W g 106 (wC (.slice A n c) ns)) (hR : Reads W W.heap.size 1 A n (rowC adC us)) (hb : ∀ x ∈ us, ∃ u A_ m_ c_ b_ r_, Blk W x.1 111 #[.int .i64 u, .slice A_ m_ c_, .int .i64 b_, r_]) :
    Calls Try.prog 18 #[pt g 0] W (fun r w' => ∃ B d, r = .returned (.slice B n d) ∧ Below W.heap.size W w') := by
  have hS := S.start W
  refine calls_walk Try.func18 rfl fun R_ hR_ a hz hd hargs => ?_
  replace hz : a.tmps.size = 28 := hz.trans (by kernel_rfl)
  have s0 := hargs 0 _ rfl
  clear hargs
  refine wp_seq ?_
  refine seq_l [] hz ?_
  refine ⟨.slice none 0 0, fun _ h_ => rk (run_assign rfl rfl), ?_⟩
  intro a2 hput
  replace s0 := hput.o 0 s0
  have s2 : sl a2 2 = .slice none 0 0 := hput.new 0 2 rfl
  replace hz := hput.size.trans hz
  replace hd := hput.defers.trans hd
  clear hput
  change Code.wp _ _ _ _ _
  refine wp_seq ?_
  refine seq_l [] hz ?_
  refine ⟨.slice none 0 0, fun _ h_ => rk (run_assign rfl rfl), ?_⟩
  intro a3 hput
  replace s0 := hput.o 0 s0
  replace s2 := hput.o 2 s2
  have s3 : sl a3 3 = .slice none 0 0 := hput.new 0 3 rfl
  replace hz := hput.size.trans hz
  replace hd := hput.defers.trans hd
  clear hput
  change Code.wp _ _ _ _ _
  refine wp_seq ?_
  refine wp_seq ?_
  refine seq_l [] hz ?_
  refine ⟨pt g 0, fun _ h_ => rmv (h_.b 0 s0),
   .bool false, fun _ h_ => rk (run_bin2 rfl (h_.d 0 6) rfl (fun _ => by kernel_rfl) (fun _ => rfl)), ?_⟩
  intro a4 hput
  replace s0 := hput.o 0 s0
  replace s2 := hput.o 2 s2
  replace s3 := hput.o 3 s3
  have s7 : sl a4 7 = .bool false := hput.new 1 7 rfl
  replace hz := hput.size.trans hz
  replace hd := hput.defers.trans hd
  clear hput
  change Code.wp _ _ _ _ _
  refine wp_cond_false s7 ?_
  refine wp_skip ?_
  change Code.wp _ _ _ _ _
  refine wp_seq ?_
  refine wp_seq ?_
  refine seq_l [] hz ?_
  refine ⟨pt g 0, fun _ h_ => rmv (h_.b 0 s0),
   pt g 0, fun _ h_ => rk (run_nilCheck rfl (h_.d 0 9)),
   pt g 0, fun _ h_ => rk (fa 0 rfl (h_.d 1 10)),
   .slice A n c, fun _ h_ => rk (run_load rfl (h_.d 2 11) (by kernel_rfl) (((hg.below (hS.old (by simp)) hg.lt).cell 0).trans rfl)),
   i6 n, fun _ h_ => rk (run_lenS rfl (h_.d 3 12) (by kernel_rfl)),
   i6 0, fun _ h_ => rk (run_move rfl rfl), ?_⟩
  intro a5 hput
  replace s2 := hput.o 2 s2
  replace s3 := hput.o 3 s3
  have s12 : sl a5 12 = .slice A n c := hput.new 3 12 rfl
  have s13 : sl a5 13 = i6 n := hput.new 4 13 rfl
  have s14 : sl a5 14 = i6 0 := hput.new 5 14 rfl
  replace hz := hput.size.trans hz
  replace hd := hput.defers.trans hd
  clear hput s0 s7
  change Code.wp _ _ _ _ _
  refine wp_block ?_
  refine wp_loop (fun a_ w_ => ∃ k : Nat, ∃ B : Option Addr, ∃ d : Nat, ∃ xs : List Value, (k ≤ n) ∧ a_.tmps.size = 28 ∧ a_.defers = [] ∧ sl a_ 2 = .slice none 0 0 ∧ sl a_ 3 = .slice B k d ∧ sl a_ 12 = .slice A n c ∧ sl a_ 13 = i6 n ∧ sl a_ 14 = i6 k ∧ S (kap W) ((rowA (.slice B k d) 3 1 k xs) :: []) ((memA W W.heap.size) :: []) w_) (fun a_ _ => n - (intOf (sl a_ 14)).toNat) ?_ ?_
  · have hSn := hS.nilrow 3 1
    exact ⟨0, none, 0, [], Nat.zero_le _, hz, hd, s2, s3, s12, s13, s14, hSn⟩
  · clear hz hd s2 s3 s12 s13 s14 hS
    rintro a6 w6 ⟨k, B, d, xs, hc0_0, hz, hd, s2, s3, s12, s13, s14, hS6⟩
    have hmu0 := s14
    refine wp_seq ?_
    refine seq_l [] hz ?_
    refine ⟨.bool (decide ((k : Int) < n)), fun _ h_ => rk (run_cmp rfl (h_.b 14 s14) (h_.b 13 s13) rfl (by first | rfl | exact neq_dec _ _ | exact eq_dec _ _ | simp)), ?_⟩
    intro a7 hput
    replace s2 := hput.o 2 s2
    replace s3 := hput.o 3 s3
    replace s12 := hput.o 12 s12
    replace s13 := hput.o 13 s13
    replace s14 := hput.o 14 s14
    have s15 : sl a7 15 = .bool (decide ((k : Int) < n)) := hput.new 0 15 rfl
    replace hz := hput.size.trans hz
    replace hd := hput.defers.trans hd
    clear hput
    change Code.wp _ _ _ _ _
    refine wp_seq ?_
    refine wp_cond_d s15 (fun hc15 => ?_) (fun hc15 => ?_)
    · clear s15
      refine wp_skip ?_
      change Code.wp _ _ _ _ _
      refine wp_seq ?_
      refine wp_block ?_
      refine wp_seq ?_
      refine seq_l [] hz ?_
      obtain ⟨b9, o9, z9, hA9, hb9, hz9, hq9⟩ := Reads.row_at adC 1 adC_len (k := k) ((Reads.old hR (hS6.old (by simp)))) (by decide) (by omega)
      obtain ⟨u, A_, m_, c_, b_, r_, hub⟩ := hb _ (List.mem_of_getElem? hz9)
      refine ⟨pt b9 (o9 + k * 1), fun _ h_ => rk (run_indexV (size := 1) rfl (h_.b 12 s12) hA9 (h_.b 14 s14) (by kernel_rfl) (by omega) (by simp)),
       pt z9.1 0, fun _ h_ => rk (run_load rfl (h_.d 0 16) (by kernel_rfl) (show w6.cell? ⟨b9, o9 + k * 1 + 0, none⟩ = some (pt z9.1 0) from hq9 0 _ rfl)),
       pt z9.1 0, fun _ h_ => ras (h_.d 1 17), ?_⟩
      intro a8 hput
      replace s2 := hput.o 2 s2
      replace s3 := hput.o 3 s3
      have s5 : sl a8 5 = pt z9.1 0 := hput.new 2 5 rfl
      replace s12 := hput.o 12 s12
      replace s13 := hput.o 13 s13
      replace s14 := hput.o 14 s14
      have s16 : sl a8 16 = pt b9 (o9 + k * 1) := hput.new 0 16 rfl
      have s17 : sl a8 17 = pt z9.1 0 := hput.new 1 17 rfl
      replace hz := hput.size.trans hz
      replace hd := hput.defers.trans hd
      clear hput
      change Code.wp _ _ _ _ _
      refine seq_l [6, 7] hz ?_
      refine ⟨.slice B k d, fun _ h_ => rmv (h_.b 3 s3),
       pt z9.1 0, fun _ h_ => rmv (h_.b 5 s5),
       pt z9.1 0, fun _ h_ => rk (run_nilCheck rfl (h_.d 1 19)),
       pt z9.1 0, fun _ h_ => rk (fa 0 rfl (h_.d 2 20)),
       pt z9.1 0, fun _ h_ => rk (fa 0 rfl (h_.d 3 21)),
       i6 u, fun _ h_ => rk (run_load rfl (h_.d 4 22) (by kernel_rfl) ((hub.below (hS6.old (by simp)) hub.lt).cell 0)), ?_⟩
      refine ⟨fun a_ h_ => st_lit (e := 3) (vals := [(0, i6 u)]) (cells := #[i6 u]) hS6 (on_none rfl) rfl (parts1 (h_.d 5 23)) fun g11 w11 hS11 hb11 => ⟨_, rfl, ?_⟩, trivial⟩
      clear h_ a_ hS6
      clear hb11
      refine ⟨fun a_ h_ => sap (bytes := 8) (news := [i6 u]) hS11 1 (on_none rfl) rfl (h_.d 0 18) (h_.d 6 24) (reads_blk (hS11.blk (i := 0) rfl) rfl) (by simp [Value.oneCell']) (by (try unfold maxLen); omega) (by (try unfold maxLen); omega) fun A12 c12 w12 hS12 => ⟨_, rfl, ?_⟩, trivial⟩
      clear h_ a_ hS11
      replace hS12 : S (kap W) ((blkA g11 3 #[i6 u]) :: (rowA (.slice A12 (k + 1) c12) 3 1 (k + 1) (xs ++ [i6 u])) :: []) ((memA W W.heap.size) :: []) w12 := hS12
      refine ⟨.slice A12 (k + 1) c12, fun _ h_ => ras (h_.d 7 25), ?_⟩
      intro a10 hput
      replace s2 := hput.o 2 s2
      replace s3 : sl a10 3 = .slice A12 (k + 1) c12 := hput.new 8 3 rfl
      replace s5 := hput.o 5 s5
      replace s12 := hput.o 12 s12
      replace s13 := hput.o 13 s13
      replace s14 := hput.o 14 s14
      replace s16 := hput.o 16 s16
      replace s17 := hput.o 17 s17
      have s18 : sl a10 18 = .slice B k d := hput.new 0 18 rfl
      have s19 : sl a10 19 = pt z9.1 0 := hput.new 1 19 rfl
      have s20 : sl a10 20 = pt z9.1 0 := hput.new 2 20 rfl
      have s21 : sl a10 21 = pt z9.1 0 := hput.new 3 21 rfl
      have s22 : sl a10 22 = pt z9.1 0 := hput.new 4 22 rfl
      have s23 : sl a10 23 = i6 u := hput.new 5 23 rfl
      have s24 : sl a10 24 = .slice (some ⟨g11, 0, none⟩) 1 1 := hput.new 6 24 rfl
      have s25 : sl a10 25 = .slice A12 (k + 1) c12 := hput.new 7 25 rfl
      replace hz := hput.size.trans hz
      replace hd := hput.defers.trans hd
      clear hput
      change Code.wp _ _ _ _ _
      refine seq_l [] hz ?_
      refine ⟨i6 (k + 1), fun _ h_ => rk (run_addI rfl (h_.b 14 s14) rfl (by omega) rfl),
       i6 (k + 1), fun _ h_ => rmv (h_.d 0 26), ?_⟩
      intro a13 hput
      replace s2 := hput.o 2 s2
      replace s3 := hput.o 3 s3
      replace s5 := hput.o 5 s5
      replace s12 := hput.o 12 s12
      replace s13 := hput.o 13 s13
      replace s14 : sl a13 14 = i6 (k + 1) := hput.new 1 14 rfl
      replace s16 := hput.o 16 s16
      replace s17 := hput.o 17 s17
      replace s18 := hput.o 18 s18
      replace s19 := hput.o 19 s19
      replace s20 := hput.o 20 s20
      replace s21 := hput.o 21 s21
      replace s22 := hput.o 22 s22
      replace s23 := hput.o 23 s23
      replace s24 := hput.o 24 s24
      replace s25 := hput.o 25 s25
      have s26 : sl a13 26 = i6 (k + 1) := hput.new 0 26 rfl
      replace hz := hput.size.trans hz
      replace hd := hput.defers.trans hd
      clear hput
      have hSd := hS12.drop
      refine ⟨⟨k + 1, _, _, _, by omega, hz, hd, s2, s3, s12, s13, s14, hSd⟩, ?_⟩
      show n - (intOf (sl a13 14)).toNat < n - (intOf (sl a6 14)).toNat
      rw [show sl a13 14 = _ from s14, show sl a6 14 = _ from hmu0]
      simp only [intOf]
      omega
    · clear s15
      refine wp_exit ?_
      change Code.wp _ _ _ _ _
      refine wp_seq ?_
      refine seq_l [] hz ?_
      refine ⟨.slice B k d, fun _ h_ => rmv (h_.b 3 s3),
       .slice B k d, fun _ h_ => ras (h_.d 0 27), ?_⟩
      intro a14 hput
      replace s2 : sl a14 2 = .slice B k d := hput.new 1 2 rfl
      replace hz := hput.size.trans hz
      replace hd := hput.defers.trans hd
      clear hput s3 s12 s13 s14
      change Code.wp _ _ _ _ _
      refine wp_ret ?_
      refine ret1 (P := Try.prog) (fn := Try.f18) hd s2 (hR_ _ _ ?_)
      obtain rfl : k = n := by omega
      exact ⟨_, _, rfl, (hS6.old (by simp))⟩
theorem site_new {κ : Kap} {L I : List Atom} {w : World} {a c : Nat} {A : Option Addr} {id : Int} {ports : List PtV} (h : S κ (blkA a 111 #[.int .i64 id, .slice A ports.length c, .int .i64 0, .pointer none] :: rowA (.slice A ports.length c) 99 3 ports.length (rowC PtV.cells ports) :: L) I w) : S κ (siteA a ⟨id, ports, 0, none⟩ :: L) I w :=
  site_close (v := ⟨A, c⟩) (p := none) (x := ⟨id, ports, 0, none⟩) (((roO_none h).front (i := 2) rfl).front (i := 2) rfl)
theorem ids_rise {l : List (SitV × SlP)} {us : List (Nat × SitV)} {k : Nat} {z : SitV × SlP} (hso : ∀ (i j : Nat) (x y : SitV × SlP), i < j → l[i]? = some x → l[j]? = some y → x.1.id < y.1.id) (hz : l[k]? = some z) (hus : us.map (·.2) = (l.take k).map (·.1)) {x : Nat × SitV} (hx : x ∈ us) : x.2.id < z.1.id := by
  have h1 : x.2 ∈ us.map (·.2) := List.mem_map_of_mem hx
  rw [hus] at h1
  obtain ⟨y, hy, e⟩ := List.mem_map.1 h1
  obtain ⟨j, hj⟩ := List.getElem?_of_mem hy
  have hjk : j < k := by
    have := (List.getElem?_eq_some_iff.1 hj).1; rw [List.length_take] at this; omega
  rw [List.getElem?_take_of_lt hjk] at hj
  rw [← e]; exact hso j k y z hjk hj hz
theorem find_ready {κ : Kap} {L I : List Atom} {w : World} {us : List (Nat × SitV)} {i : Nat} {id : Int} (h : S κ L I w) (hi : L[i]? = some (sepA (sitesL us))) (hr : ∀ x ∈ us, x.2.id < id) :
    ∀ x ∈ us, ∃ u A_ m_ c_ b_ r_, u ≠ id ∧ Blk w x.1 111 #[.int .i64 u, .slice A_ m_ c_, .int .i64 b_, r_] := by
  intro x hx
  obtain ⟨k, hk⟩ := List.getElem?_of_mem hx
  obtain ⟨v, p, h1, _⟩ := sites_blk h hi hk
  exact ⟨_, _, _, _, _, _, by have := hr x hx; omega, h1⟩
theorem ids_ready {κ : Kap} {L I : List Atom} {w : World} {us : List (Nat × SitV)} {i : Nat} (h : S κ L I w) (hi : L[i]? = some (sepA (sitesL us))) :
    ∀ x ∈ us, ∃ u A_ m_ c_ b_ r_, Blk w x.1 111 #[.int .i64 u, .slice A_ m_ c_, .int .i64 b_, r_] := by
  intro x hx
  obtain ⟨k, hk⟩ := List.getElem?_of_mem hx
  obtain ⟨v, p, h1, _⟩ := sites_blk h hi hk
  exact ⟨_, _, _, _, _, _, h1⟩
def idsL (us : List (Nat × SitV)) : List (Nat × Int) := us.map fun x => (x.1, x.2.id)
theorem rowC_ids (us : List (Nat × SitV)) : rowC adC us = rowC adC (idsL us) := by
  unfold rowC idsL
  rw [List.flatMap_map]; rfl
theorem sort_cl {κ : Kap} {L I : List Atom} {w : World} {us : List (Nat × SitV)} {i : Nat} (h : S κ L I w) (hi : L[i]? = some (sepA (sitesL us))) :
    ∀ w' x y, x ∈ idsL us → y ∈ idsL us → Below w.heap.size w w' → Calls Try.prog 55 (#[.pointer (some ⟨x.1, 0, none⟩), .pointer (some ⟨y.1, 0, none⟩)] ++ #[]) w' fun r w2 => r = .returned (.int .i64 (cmpF x.2 y.2)) ∧ Below w'.heap.size w' w2 := by
  intro w' x y hx hy hb
  obtain ⟨x', hx', rfl⟩ := List.mem_map.1 hx
  obtain ⟨y', hy', rfl⟩ := List.mem_map.1 hy
  obtain ⟨k, hk⟩ := List.getElem?_of_mem hx'
  obtain ⟨k2, hk2⟩ := List.getElem?_of_mem hy'
  obtain ⟨v, p, h1, _⟩ := sites_blk h hi hk
  obtain ⟨v2, p2, h2, _⟩ := sites_blk h hi hk2
  exact wnew1_any _ _ _ _ _ _ _ _ _ _ _ _ _ _ w' (h1.below hb h1.lt) (h2.below hb h2.lt)
theorem sort_up {l : List (SitV × SlP)} {us : List (Nat × SitV)} (hso : ∀ (i j : Nat) (x y : SitV × SlP), i < j → l[i]? = some x → l[j]? = some y → x.1.id < y.1.id) (hus : us.map (·.2) = l.map (·.1)) : ∀ k x y, (idsL us)[k]? = some x → (idsL us)[k + 1]? = some y → 0 ≤ cmpF y.2 x.2 := by
  intro k x y hx hy
  unfold idsL at hx hy
  rw [List.getElem?_map] at hx hy
  obtain ⟨x', hx', rfl⟩ := Option.map_eq_some_iff.1 hx
  obtain ⟨y', hy', rfl⟩ := Option.map_eq_some_iff.1 hy
  have e1 : (us.map (·.2))[k]? = some x'.2 := by rw [List.getElem?_map, hx']; rfl
  have e2 : (us.map (·.2))[k + 1]? = some y'.2 := by rw [List.getElem?_map, hy']; rfl
  rw [hus, List.getElem?_map] at e1 e2
  obtain ⟨a, ha, e3⟩ := Option.map_eq_some_iff.1 e1
  obtain ⟨b, hb, e4⟩ := Option.map_eq_some_iff.1 e2
  have := hso k (k + 1) a b (by omega) ha hb
  unfold cmpF
  rw [e3, e4] at this
  rw [if_neg (by omega)]; split <;> omega
theorem us_small {l : List (SitV × SlP)} {us : List (Nat × SitV)} (he : ∀ x ∈ l, x.1.ports.length ≤ 100) (hus : us.map (·.2) = l.map (·.1)) {x : Nat × SitV} (hx : x ∈ us) : x.2.ports.length ≤ 100 := by
  have h1 : x.2 ∈ us.map (·.2) := List.mem_map_of_mem hx
  rw [hus] at h1
  obtain ⟨y, hy, e⟩ := List.mem_map.1 h1
  rw [← e]; exact he y hy
theorem us_next {l : List (SitV × SlP)} {us : List (Nat × SitV)} {k g : Nat} {z : SitV × SlP} (hz : l[k]? = some z) (hus : us.map (·.2) = (l.take k).map (·.1)) : (us ++ [(g, z.1)]).map (·.2) = (l.take (k + 1)).map (·.1) := by
  rw [take_snoc l k z hz, List.map_append, List.map_append, hus]; rfl
theorem wC_set (v u : Value) (ns : List Value) (i : Nat) : (wC v ns).setIfInBounds (1 + i) u = wC v (ns.set i u) := by
  unfold wC; rw [Nat.add_comm]; simp
theorem ints_snoc_ (l : List Int) (z : Int) : ints (l ++ [z]) = ints l ++ [.int .i64 z] := by simp [ints]
set_option maxRecDepth 100000 in
set_option maxHeartbeats 800000 in
theorem worldNew_any (A : Option Addr) (n c : Nat) (l : List (SitV × SlP)) (W : World) (hn : n ≤ 5) (hR : Reads W W.heap.size 2 A n (rowC sitC l)) (he : ∀ x ∈ l, Reads W W.heap.size 3 x.2.A x.1.ports.length (rowC PtV.cells x.1.ports) ∧ x.1.ports.length ≤ 100) (hok : ∀ x ∈ l, (newF x.1.id 1 40 x.1.ports).isSome = true) (hso : ∀ (i j : Nat) (x y : SitV × SlP), i < j → l[i]? = some x → l[j]? = some y → x.1.id < y.1.id) :
    Calls Try.prog 17 #[.slice A n c] W (fun r w' => ∃ g B d us ns, r = .returned (pt g 0) ∧ us.map (·.2) = l.map (·.1) ∧ S (kap W) [blkA g 106 (wC (.slice B n d) ns), rowA (.slice B n d) 107 1 n (rowC adC us), sepA (sitesL us)] [memA W W.heap.size] w') := by
  have hS := S.start W
  refine calls_walk Try.func17 rfl fun R_ hR_ a hz hd hargs => ?_
  replace hz : a.tmps.size = 99 := hz.trans (by kernel_rfl)
  have s0 := hargs 0 _ rfl
  clear hargs
  refine wp_seq ?_
  refine seq_l [] hz ?_
  refine ⟨.pointer none, fun _ h_ => rk (run_assign rfl rfl), ?_⟩
  intro a2 hput
  replace s0 := hput.o 0 s0
  have s2 : sl a2 2 = .pointer none := hput.new 0 2 rfl
  replace hz := hput.size.trans hz
  replace hd := hput.defers.trans hd
  clear hput
  change Code.wp _ _ _ _ _
  refine wp_seq ?_
  refine seq_l [1] hz ?_
  refine ⟨.agg #[.slice none 0 0, .pointer none, .pointer none, .pointer none, .pointer none], fun _ h_ => rk (run_build (vals := #[]) (r := .agg #[.slice none 0 0, .pointer none, .pointer none, .pointer none, .pointer none]) rfl (by simp) (by kernel_rfl)), ?_⟩
  refine ⟨fun a_ h_ => st_box (cells := #[.slice none 0 0, .pointer none, .pointer none, .pointer none, .pointer none]) hS (on_none rfl) rfl (h_.d 0 11) (by kernel_rfl) fun g4 w4 hS4 hb4 => ⟨_, rfl, ?_⟩, trivial⟩
  clear h_ a_ hS
  clear hb4
  refine ⟨pt g4 0, fun _ h_ => ras (h_.d 1 12), ?_⟩
  intro a3 hput
  replace s0 := hput.o 0 s0
  replace s2 := hput.o 2 s2
  have s3 : sl a3 3 = pt g4 0 := hput.new 2 3 rfl
  replace hz := hput.size.trans hz
  replace hd := hput.defers.trans hd
  clear hput
  change Code.wp _ _ _ _ _
  refine wp_seq ?_
  refine wp_seq ?_
  refine seq_l [] hz ?_
  refine ⟨.slice A n c, fun _ h_ => rmv (h_.b 0 s0),
   i6 n, fun _ h_ => rk (run_lenS rfl (h_.d 0 13) (by kernel_rfl)),
   i6 0, fun _ h_ => rk (run_move rfl rfl), ?_⟩
  intro a5 hput
  replace s2 := hput.o 2 s2
  replace s3 := hput.o 3 s3
  have s13 : sl a5 13 = .slice A n c := hput.new 0 13 rfl
  have s14 : sl a5 14 = i6 n := hput.new 1 14 rfl
  have s15 : sl a5 15 = i6 0 := hput.new 2 15 rfl
  replace hz := hput.size.trans hz
  replace hd := hput.defers.trans hd
  clear hput s0
  change Code.wp _ _ _ _ _
  refine wp_block ?_
  refine wp_loop (fun a_ w_ => ∃ k : Nat, ∃ B : Option Addr, ∃ d : Nat, ∃ us : List (Nat × SitV), (k ≤ n) ∧ (us.map (·.2) = (l.take k).map (·.1)) ∧ a_.tmps.size = 99 ∧ a_.defers = [] ∧ sl a_ 2 = .pointer none ∧ sl a_ 3 = pt g4 0 ∧ sl a_ 13 = .slice A n c ∧ sl a_ 14 = i6 n ∧ sl a_ 15 = i6 k ∧ S (kap W) ((sepA (sitesL us)) :: (rowA (.slice B k d) 107 1 k (rowC adC us)) :: (blkA g4 106 #[.slice B k d, .pointer none, .pointer none, .pointer none, .pointer none]) :: []) ((memA W W.heap.size) :: []) w_) (fun a_ _ => n - (intOf (sl a_ 15)).toNat) ?_ ?_
  · have hSn := hS4.nilrow 107 1
    have hSn2 := S.sep_close (l := []) hSn
    exact ⟨0, none, 0, [], Nat.zero_le _, rfl, hz, hd, s2, s3, s13, s14, s15, hSn2⟩
  · clear hz hd s2 s3 s13 s14 s15 hS4
    rintro a6 w6 ⟨k, B, d, us, hc0_0, hc0_1, hz, hd, s2, s3, s13, s14, s15, hS6⟩
    have hmu0 := s15
    refine wp_seq ?_
    refine seq_l [] hz ?_
    refine ⟨.bool (decide ((k : Int) < n)), fun _ h_ => rk (run_cmp rfl (h_.b 15 s15) (h_.b 14 s14) rfl (by first | rfl | exact neq_dec _ _ | exact eq_dec _ _ | simp)), ?_⟩
    intro a7 hput
    replace s2 := hput.o 2 s2
    replace s3 := hput.o 3 s3
    replace s13 := hput.o 13 s13
    replace s14 := hput.o 14 s14
    replace s15 := hput.o 15 s15
    have s16 : sl a7 16 = .bool (decide ((k : Int) < n)) := hput.new 0 16 rfl
    replace hz := hput.size.trans hz
    replace hd := hput.defers.trans hd
    clear hput
    change Code.wp _ _ _ _ _
    refine wp_seq ?_
    refine wp_cond_d s16 (fun hc16 => ?_) (fun hc16 => ?_)
    · clear s16
      refine wp_skip ?_
      change Code.wp _ _ _ _ _
      refine wp_seq ?_
      refine wp_block ?_
      refine wp_seq ?_
      refine seq_l [2, 3] hz ?_
      obtain ⟨b9, o9, z9, hA9, hb9, hz9, hq9⟩ := Reads.row_at sitC 2 sitC_len (k := k) ((Reads.old hR (hS6.old (by simp)))) (by decide) (by omega)
      obtain ⟨hzr, hzn⟩ := he _ (List.mem_of_getElem? hz9)
      have hzk := hz9
      refine ⟨pt b9 (o9 + k * 2), fun _ h_ => rk (run_indexV (size := 2) rfl (h_.b 13 s13) hA9 (h_.b 15 s15) (by kernel_rfl) (by omega) (by simp)),
       .agg #[i6 z9.1.id, .slice z9.2.A z9.1.ports.length z9.2.c], fun _ h_ => rk (run_loadV (size := 2) (cs := sitC z9) rfl (h_.d 0 17) (by kernel_rfl) rfl hq9), ?_⟩
      refine ⟨fun a_ h_ => st_alloc (cells := #[i6 0, .slice none 0 0]) hS6 (on_none rfl) rfl (by kernel_rfl) fun g10 w10 hS10 hb10 => ⟨_, rfl, ?_⟩, trivial⟩
      clear h_ a_ hS6
      clear hb10
      refine ⟨fun a_ h_ => st_store (n := 2) (cells := #[i6 z9.1.id, .slice z9.2.A z9.1.ports.length z9.2.c]) (cs' := #[i6 z9.1.id, .slice z9.2.A z9.1.ports.length z9.2.c]) 0 hS10 rfl (on_none rfl) rfl (h_.d 2 5) (h_.d 1 18) rfl (by kernel_rfl) ⟨Nat.le_of_ble_eq_true rfl, rfl, by kernel_rfl⟩ rfl fun w11 hS11 he11 => ⟨_, rfl, ?_⟩, trivial⟩
      clear h_ a_ he11 hS10
      replace hS11 : S (kap W) ((blkA g10 102 #[i6 z9.1.id, .slice z9.2.A z9.1.ports.length z9.2.c]) :: (sepA (sitesL us)) :: (rowA (.slice B k d) 107 1 k (rowC adC us)) :: (blkA g4 106 #[.slice B k d, .pointer none, .pointer none, .pointer none, .pointer none]) :: []) ((memA W W.heap.size) :: []) w11 := hS11
      intro a8 hput
      replace s2 := hput.o 2 s2
      replace s3 := hput.o 3 s3
      have s5 : sl a8 5 = pt g10 0 := hput.new 2 5 rfl
      replace s13 := hput.o 13 s13
      replace s14 := hput.o 14 s14
      replace s15 := hput.o 15 s15
      have s17 : sl a8 17 = pt b9 (o9 + k * 2) := hput.new 0 17 rfl
      have s18 : sl a8 18 = .agg #[i6 z9.1.id, .slice z9.2.A z9.1.ports.length z9.2.c] := hput.new 1 18 rfl
      replace hz := hput.size.trans hz
      replace hd := hput.defers.trans hd
      clear hput
      change Code.wp _ _ _ _ _
      refine wp_seq ?_
      refine seq_r [[], [0], [], [2], [2, 3], [0, 1, 2, 3, 4], [0, 1, 2, 3, 4, 5], [0, 1, 2, 3, 4, 5, 6], [0, 1, 2, 3, 4, 5, 6, 7]] [4, 7] (.rd 0 (.rd 1 (.rd 2 (.rd 3 (.ef 4 (.ag 0 (.ag 1 (.rd 5 (.rd 6 (.ef 7 (.rd 8 (.fin)) .non))))) .non))))) hz fun w12 hb12 => ?_
      replace hS11 := hS11.below hb12
      refine ⟨pt g10 0, fun _ h_ => rk (fa 0 rfl (h_.b 5 s5)),
       i6 z9.1.id, fun _ h_ => rk (ld hS11 0 rfl (h_.d 0 19)),
       pt g10 1, fun _ h_ => rk (fa 1 rfl (h_.b 5 s5)),
       .slice z9.2.A z9.1.ports.length z9.2.c, fun _ h_ => rk (ld hS11 0 rfl (h_.d 2 21)), ?_⟩
      refine ⟨fun a_ h_ => st_call (on_none rfl) (run_call rfl (map1 (h_.d 3 22)) rfl) (clonePt_any z9.2.A z9.1.ports.length z9.2.c z9.1.ports _ (by omega) (Reads.old hzr (hS11.old (by simp)))) ?_, trivial⟩
      rintro e w13 ⟨A13, c13, rfl, ho13, hb13⟩
      refine ⟨_, rfl, _, rfl, ?_⟩
      clear h_ a_
      have hS13 := hS11.pushRow hb13 ho13
      clear hS11 hb13 ho13
      refine ⟨fun _ h_ => rk (fa 0 rfl (h_.b 5 s5)),
       fun _ h_ => rk (ld hS13 1 rfl (h_.d 0 19)),
       .agg #[i6 z9.1.id, .slice A13 z9.1.ports.length c13], fun _ h_ => rk (run_build (vals := #[(0, i6 z9.1.id), (1, .slice A13 z9.1.ports.length c13)]) (r := .agg #[i6 z9.1.id, .slice A13 z9.1.ports.length c13]) rfl (bp2 (h_.d 1 20) (h_.d 4 23)) (by kernel_rfl)),
       .agg #[i6 z9.1.id, .slice A13 z9.1.ports.length c13, i6 0, .pointer none], fun _ h_ => rk (run_build (vals := #[(0, .agg #[i6 z9.1.id, .slice A13 z9.1.ports.length c13])]) (r := .agg #[i6 z9.1.id, .slice A13 z9.1.ports.length c13, i6 0, .pointer none]) rfl (bp1 (h_.d 5 24)) (by kernel_rfl)), ?_⟩
      refine ⟨fun a_ h_ => st_box (cells := #[i6 z9.1.id, .slice A13 z9.1.ports.length c13, i6 0, .pointer none]) hS13 (on_none rfl) rfl (h_.d 6 25) (by kernel_rfl) fun g14 w14 hS14 hb14 => ⟨_, rfl, ?_⟩, trivial⟩
      clear h_ a_ hS13
      clear hb14
      refine ⟨pt g14 0, fun _ h_ => ras (h_.d 7 26), ?_⟩
      intro a12 hput
      replace s2 := hput.o 2 s2
      replace s3 := hput.o 3 s3
      replace s5 := hput.o 5 s5
      have s6 : sl a12 6 = pt g14 0 := hput.new 8 6 rfl
      replace s13 := hput.o 13 s13
      replace s14 := hput.o 14 s14
      replace s15 := hput.o 15 s15
      replace s17 := hput.o 17 s17
      replace s18 := hput.o 18 s18
      have s19 : sl a12 19 = pt g10 0 := hput.new 0 19 rfl
      have s20 : sl a12 20 = i6 z9.1.id := hput.new 1 20 rfl
      have s21 : sl a12 21 = pt g10 1 := hput.new 2 21 rfl
      have s22 : sl a12 22 = .slice z9.2.A z9.1.ports.length z9.2.c := hput.new 3 22 rfl
      have s23 : sl a12 23 = .slice A13 z9.1.ports.length c13 := hput.new 4 23 rfl
      have s24 : sl a12 24 = .agg #[i6 z9.1.id, .slice A13 z9.1.ports.length c13] := hput.new 5 24 rfl
      have s25 : sl a12 25 = .agg #[i6 z9.1.id, .slice A13 z9.1.ports.length c13, i6 0, .pointer none] := hput.new 6 25 rfl
      have s26 : sl a12 26 = pt g14 0 := hput.new 7 26 rfl
      replace hz := hput.size.trans hz
      replace hd := hput.defers.trans hd
      clear hput
      change Code.wp _ _ _ _ _
      refine wp_seq ?_
      replace hS14 := hS14.front (i := 1) rfl
      replace hS14 := hS14.front (i := 1) rfl
      replace hS14 : S (kap W) ((blkA g14 111 #[i6 z9.1.id, .slice A13 z9.1.ports.length c13, i6 0, .pointer none]) :: (rowA (.slice A13 z9.1.ports.length c13) 99 3 z9.1.ports.length (rowC PtV.cells z9.1.ports)) :: (blkA g10 102 #[i6 z9.1.id, .slice z9.2.A z9.1.ports.length z9.2.c]) :: (sepA (sitesL us)) :: (rowA (.slice B k d) 107 1 k (rowC adC us)) :: (blkA g4 106 #[.slice B k d, .pointer none, .pointer none, .pointer none, .pointer none]) :: []) ((memA W W.heap.size) :: []) w14 := hS14
      have hSb := site_new hS14
      clear hS14
      replace hSb : S (kap W) ((siteA g14 ⟨z9.1.id, z9.1.ports, 0, none⟩) :: (blkA g10 102 #[i6 z9.1.id, .slice z9.2.A z9.1.ports.length z9.2.c]) :: (sepA (sitesL us)) :: (rowA (.slice B k d) 107 1 k (rowC adC us)) :: (blkA g4 106 #[.slice B k d, .pointer none, .pointer none, .pointer none, .pointer none]) :: []) ((memA W W.heap.size) :: []) w14 := hSb
      refine seq_l [1] hz ?_
      refine ⟨pt g14 0, fun _ h_ => rmv (h_.b 6 s6), ?_⟩
      have hSp := hSb
      clear hSb
      refine ⟨fun a_ h_ => st_call (on_none rfl) (run_call rfl (map1 (h_.d 0 27)) rfl) (begin2_any g14 _ _ (by show z9.1.ports.length ≤ 100000; omega) (by show (0 : Int) ≤ 0 ∧ (0 : Int) ≤ 1000000000000; omega) hSp) ?_, trivial⟩
      rintro e_ w16 ⟨rfl, hS16⟩
      refine ⟨_, rfl, _, rfl, ?_⟩
      clear h_ a_ hSp
      replace hS16 : S (kap W) ((siteA g14 (siF z9.1)) :: (blkA g10 102 #[i6 z9.1.id, .slice z9.2.A z9.1.ports.length z9.2.c]) :: (sepA (sitesL us)) :: (rowA (.slice B k d) 107 1 k (rowC adC us)) :: (blkA g4 106 #[.slice B k d, .pointer none, .pointer none, .pointer none, .pointer none]) :: []) ((memA W W.heap.size) :: []) w16 := hS16
      intro a15 hput
      replace s2 := hput.o 2 s2
      replace s3 := hput.o 3 s3
      replace s5 := hput.o 5 s5
      replace s6 := hput.o 6 s6
      replace s13 := hput.o 13 s13
      replace s14 := hput.o 14 s14
      replace s15 := hput.o 15 s15
      replace s17 := hput.o 17 s17
      replace s18 := hput.o 18 s18
      replace s19 := hput.o 19 s19
      replace s20 := hput.o 20 s20
      replace s21 := hput.o 21 s21
      replace s22 := hput.o 22 s22
      replace s23 := hput.o 23 s23
      replace s24 := hput.o 24 s24
      replace s25 := hput.o 25 s25
      replace s26 := hput.o 26 s26
      have s27 : sl a15 27 = pt g14 0 := hput.new 0 27 rfl
      replace hz := hput.size.trans hz
      replace hd := hput.defers.trans hd
      clear hput
      change Code.wp _ _ _ _ _
      refine wp_seq ?_
      obtain ⟨v7, p7, hSo⟩ := site_open (hS16.front (i := 0) rfl)
      obtain ⟨q7, rfl⟩ := roO_some (hSo.front (i := 2) rfl) (hok _ (List.mem_of_getElem? hzk))
      clear hS16
      replace hSo : S (kap W) ((blkA g14 111 #[i6 z9.1.id, .slice v7.A z9.1.ports.length v7.c, i6 ((siF z9.1).boots), pt q7.g 0]) :: (rowP 99 3 PtV.cells v7 (siF z9.1).ports) :: (roO (some q7) (siF z9.1).r) :: (blkA g10 102 #[i6 z9.1.id, .slice z9.2.A z9.1.ports.length z9.2.c]) :: (sepA (sitesL us)) :: (rowA (.slice B k d) 107 1 k (rowC adC us)) :: (blkA g4 106 #[.slice B k d, .pointer none, .pointer none, .pointer none, .pointer none]) :: []) ((memA W W.heap.size) :: []) w16 := hSo
      refine seq_l [17] hz ?_
      refine ⟨pt g14 0, fun _ h_ => rmv (h_.b 6 s6),
       pt g14 0, fun _ h_ => rk (run_nilCheck rfl (h_.d 0 29)),
       pt g14 3, fun _ h_ => rk (fa 3 rfl (h_.d 1 30)),
       pt q7.g 0, fun _ h_ => rk (ld hSo 0 rfl (h_.d 2 31)),
       .bool true, fun _ h_ => rk (run_bin2 rfl (h_.d 3 32) rfl (fun _ => by kernel_rfl) (fun _ => rfl)),
       .bool true, fun _ h_ => rmv (h_.d 4 33),
       pt g4 0, fun _ h_ => r_ok (h_.on 5 34) (run_move rfl (h_.b 3 s3)),
       pt g4 0, fun _ h_ => r_ok (h_.on 5 34) (run_nilCheck rfl (h_.d 6 35)),
       pt g4 0, fun _ h_ => r_ok (h_.on 5 34) (fa 0 rfl (h_.d 7 36)),
       .slice B k d, fun _ h_ => r_ok (h_.on 5 34) (ld hSo 6 rfl (h_.d 8 37)),
       i6 k, fun _ h_ => r_ok (h_.on 5 34) (run_lenS rfl (h_.d 9 38) (by kernel_rfl)),
       .bool true, fun _ h_ => r_ok (h_.on 5 34) (run_cmp rfl (h_.d 10 39) rfl rfl (decide_eq_true (by omega))),
       .bool true, fun _ h_ => rk (run_pick_t rfl (h_.d 5 34) (h_.d 11 40)),
       .bool true, fun _ h_ => rmv (h_.d 12 41),
       pt g4 0, fun _ h_ => r_ok (h_.on 13 42) (run_move rfl (h_.b 3 s3)),
       pt g10 0, fun _ h_ => r_ok (h_.on 13 42) (fa 0 rfl (h_.b 5 s5)),
       i6 z9.1.id, fun _ h_ => r_ok (h_.on 13 42) (ld hSo 3 rfl (h_.d 15 44)), ?_⟩
      refine ⟨fun a_ h_ => st_call (h_.on 13 42) (run_call rfl (map2 (h_.d 14 43) (h_.d 16 45)) rfl) (findNone_any g4 k d z9.1.id B us [.pointer none, .pointer none, .pointer none, .pointer none] _ (by omega) (hSo.blk (i := 6) rfl) (hSo.rd (i := 5) rfl) (find_ready hSo (i := 4) rfl (fun x hx => ids_rise hso hzk hc0_1 hx))) ?_, trivial⟩
      rintro e w18 ⟨rfl, hb18⟩
      refine ⟨_, rfl, _, rfl, ?_⟩
      clear h_ a_
      have hS18 := hSo.below hb18
      clear hSo hb18
      refine ⟨.bool true, fun _ h_ => r_ok (h_.on 13 42) (run_bin2 rfl (h_.d 17 46) rfl (fun _ => by kernel_rfl) (fun _ => rfl)),
       .bool true, fun _ h_ => rk (run_pick_t rfl (h_.d 13 42) (h_.d 18 47)), ?_⟩
      intro a17 hput
      replace s2 := hput.o 2 s2
      replace s3 := hput.o 3 s3
      replace s5 := hput.o 5 s5
      replace s6 := hput.o 6 s6
      replace s13 := hput.o 13 s13
      replace s14 := hput.o 14 s14
      replace s15 := hput.o 15 s15
      replace s17 := hput.o 17 s17
      replace s18 := hput.o 18 s18
      replace s19 := hput.o 19 s19
      replace s20 := hput.o 20 s20
      replace s21 := hput.o 21 s21
      replace s22 := hput.o 22 s22
      replace s23 := hput.o 23 s23
      replace s24 := hput.o 24 s24
      replace s25 := hput.o 25 s25
      replace s26 := hput.o 26 s26
      replace s27 := hput.o 27 s27
      have s29 : sl a17 29 = pt g14 0 := hput.new 0 29 rfl
      have s30 : sl a17 30 = pt g14 0 := hput.new 1 30 rfl
      have s31 : sl a17 31 = pt g14 3 := hput.new 2 31 rfl
      have s32 : sl a17 32 = pt q7.g 0 := hput.new 3 32 rfl
      have s33 : sl a17 33 = .bool true := hput.new 4 33 rfl
      have s34 : sl a17 34 = .bool true := hput.new 5 34 rfl
      have s35 : sl a17 35 = pt g4 0 := hput.new 6 35 rfl
      have s36 : sl a17 36 = pt g4 0 := hput.new 7 36 rfl
      have s37 : sl a17 37 = pt g4 0 := hput.new 8 37 rfl
      have s38 : sl a17 38 = .slice B k d := hput.new 9 38 rfl
      have s39 : sl a17 39 = i6 k := hput.new 10 39 rfl
      have s40 : sl a17 40 = .bool true := hput.new 11 40 rfl
      have s41 : sl a17 41 = .bool true := hput.new 12 41 rfl
      have s42 : sl a17 42 = .bool true := hput.new 13 42 rfl
      have s43 : sl a17 43 = pt g4 0 := hput.new 14 43 rfl
      have s44 : sl a17 44 = pt g10 0 := hput.new 15 44 rfl
      have s45 : sl a17 45 = i6 z9.1.id := hput.new 16 45 rfl
      have s46 : sl a17 46 = .pointer none := hput.new 17 46 rfl
      have s47 : sl a17 47 = .bool true := hput.new 18 47 rfl
      have s48 : sl a17 48 = .bool true := hput.new 19 48 rfl
      replace hz := hput.size.trans hz
      replace hd := hput.defers.trans hd
      clear hput
      change Code.wp _ _ _ _ _
      refine wp_cond_true s48 ?_
      refine seq_l [6, 7, 10] hz ?_
      refine ⟨pt g4 0, fun _ h_ => rmv (h_.b 3 s3),
       pt g4 0, fun _ h_ => rmv (h_.b 3 s3),
       pt g4 0, fun _ h_ => rk (run_nilCheck rfl (h_.d 1 50)),
       pt g4 0, fun _ h_ => rk (fa 0 rfl (h_.d 2 51)),
       .slice B k d, fun _ h_ => rk (ld hS18 6 rfl (h_.d 3 52)),
       pt g14 0, fun _ h_ => rmv (h_.b 6 s6), ?_⟩
      refine ⟨fun a_ h_ => st_lit (e := 107) (vals := [(0, pt g14 0)]) (cells := #[pt g14 0]) hS18 (on_none rfl) rfl (parts1 (h_.d 5 54)) fun g20 w20 hS20 hb20 => ⟨_, rfl, ?_⟩, trivial⟩
      clear h_ a_ hS18
      clear hb20
      refine ⟨fun a_ h_ => sap (bytes := 8) (news := [pt g14 0]) hS20 6 (on_none rfl) rfl (h_.d 4 53) (h_.d 6 55) (reads_blk (hS20.blk (i := 0) rfl) rfl) (by simp [Value.oneCell']) (by (try unfold maxLen); omega) (by (try unfold maxLen); omega) fun A21 c21 w21 hS21 => ⟨_, rfl, ?_⟩, trivial⟩
      clear h_ a_ hS20
      replace hS21 : S (kap W) ((blkA g20 107 #[pt g14 0]) :: (blkA g14 111 #[i6 z9.1.id, .slice v7.A z9.1.ports.length v7.c, i6 ((siF z9.1).boots), pt q7.g 0]) :: (rowP 99 3 PtV.cells v7 (siF z9.1).ports) :: (roO (some q7) (siF z9.1).r) :: (blkA g10 102 #[i6 z9.1.id, .slice z9.2.A z9.1.ports.length z9.2.c]) :: (sepA (sitesL us)) :: (rowA (.slice A21 (k + 1) c21) 107 1 (k + 1) (rowC adC us ++ [pt g14 0])) :: (blkA g4 106 #[.slice B k d, .pointer none, .pointer none, .pointer none, .pointer none]) :: []) ((memA W W.heap.size) :: []) w21 := hS21
      refine ⟨pt g4 0, fun _ h_ => rk (run_nilCheck rfl (h_.d 0 49)),
       pt g4 0, fun _ h_ => rk (fa 0 rfl (h_.d 8 57)), ?_⟩
      refine ⟨fun a_ h_ => st_store (n := 1) (cells := #[.slice A21 (k + 1) c21]) (cs' := #[.slice A21 (k + 1) c21, .pointer none, .pointer none, .pointer none, .pointer none]) 7 hS21 rfl (on_none rfl) rfl (h_.d 9 58) (h_.d 7 56) rfl (by kernel_rfl) ⟨Nat.le_of_ble_eq_true rfl, rfl, by kernel_rfl⟩ rfl fun w22 hS22 he22 => ⟨_, rfl, ?_⟩, trivial⟩
      clear h_ a_ he22 hS21
      replace hS22 : S (kap W) ((blkA g20 107 #[pt g14 0]) :: (blkA g14 111 #[i6 z9.1.id, .slice v7.A z9.1.ports.length v7.c, i6 ((siF z9.1).boots), pt q7.g 0]) :: (rowP 99 3 PtV.cells v7 (siF z9.1).ports) :: (roO (some q7) (siF z9.1).r) :: (blkA g10 102 #[i6 z9.1.id, .slice z9.2.A z9.1.ports.length z9.2.c]) :: (sepA (sitesL us)) :: (rowA (.slice A21 (k + 1) c21) 107 1 (k + 1) (rowC adC us ++ [pt g14 0])) :: (blkA g4 106 #[.slice A21 (k + 1) c21, .pointer none, .pointer none, .pointer none, .pointer none]) :: []) ((memA W W.heap.size) :: []) w22 := hS22
      intro a19 hput
      replace s2 := hput.o 2 s2
      replace s3 := hput.o 3 s3
      replace s5 := hput.o 5 s5
      replace s6 := hput.o 6 s6
      replace s13 := hput.o 13 s13
      replace s14 := hput.o 14 s14
      replace s15 := hput.o 15 s15
      replace s17 := hput.o 17 s17
      replace s18 := hput.o 18 s18
      replace s19 := hput.o 19 s19
      replace s20 := hput.o 20 s20
      replace s21 := hput.o 21 s21
      replace s22 := hput.o 22 s22
      replace s23 := hput.o 23 s23
      replace s24 := hput.o 24 s24
      replace s25 := hput.o 25 s25
      replace s26 := hput.o 26 s26
      replace s27 := hput.o 27 s27
      replace s29 := hput.o 29 s29
      replace s30 := hput.o 30 s30
      replace s31 := hput.o 31 s31
      replace s32 := hput.o 32 s32
      replace s33 := hput.o 33 s33
      replace s34 := hput.o 34 s34
      replace s35 := hput.o 35 s35
      replace s36 := hput.o 36 s36
      replace s37 := hput.o 37 s37
      replace s38 := hput.o 38 s38
      replace s39 := hput.o 39 s39
      replace s40 := hput.o 40 s40
      replace s41 := hput.o 41 s41
      replace s42 := hput.o 42 s42
      replace s43 := hput.o 43 s43
      replace s44 := hput.o 44 s44
      replace s45 := hput.o 45 s45
      replace s46 := hput.o 46 s46
      replace s47 := hput.o 47 s47
      replace s48 := hput.o 48 s48
      have s49 : sl a19 49 = pt g4 0 := hput.new 0 49 rfl
      have s50 : sl a19 50 = pt g4 0 := hput.new 1 50 rfl
      have s51 : sl a19 51 = pt g4 0 := hput.new 2 51 rfl
      have s52 : sl a19 52 = pt g4 0 := hput.new 3 52 rfl
      have s53 : sl a19 53 = .slice B k d := hput.new 4 53 rfl
      have s54 : sl a19 54 = pt g14 0 := hput.new 5 54 rfl
      have s55 : sl a19 55 = .slice (some ⟨g20, 0, none⟩) 1 1 := hput.new 6 55 rfl
      have s56 : sl a19 56 = .slice A21 (k + 1) c21 := hput.new 7 56 rfl
      have s57 : sl a19 57 = pt g4 0 := hput.new 8 57 rfl
      have s58 : sl a19 58 = pt g4 0 := hput.new 9 58 rfl
      replace hz := hput.size.trans hz
      replace hd := hput.defers.trans hd
      clear hput
      change Code.wp _ _ _ _ _
      refine seq_l [] hz ?_
      refine ⟨i6 (k + 1), fun _ h_ => rk (run_addI rfl (h_.b 15 s15) rfl (by omega) rfl),
       i6 (k + 1), fun _ h_ => rmv (h_.d 0 59), ?_⟩
      intro a23 hput
      replace s2 := hput.o 2 s2
      replace s3 := hput.o 3 s3
      replace s5 := hput.o 5 s5
      replace s6 := hput.o 6 s6
      replace s13 := hput.o 13 s13
      replace s14 := hput.o 14 s14
      replace s15 : sl a23 15 = i6 (k + 1) := hput.new 1 15 rfl
      replace s17 := hput.o 17 s17
      replace s18 := hput.o 18 s18
      replace s19 := hput.o 19 s19
      replace s20 := hput.o 20 s20
      replace s21 := hput.o 21 s21
      replace s22 := hput.o 22 s22
      replace s23 := hput.o 23 s23
      replace s24 := hput.o 24 s24
      replace s25 := hput.o 25 s25
      replace s26 := hput.o 26 s26
      replace s27 := hput.o 27 s27
      replace s29 := hput.o 29 s29
      replace s30 := hput.o 30 s30
      replace s31 := hput.o 31 s31
      replace s32 := hput.o 32 s32
      replace s33 := hput.o 33 s33
      replace s34 := hput.o 34 s34
      replace s35 := hput.o 35 s35
      replace s36 := hput.o 36 s36
      replace s37 := hput.o 37 s37
      replace s38 := hput.o 38 s38
      replace s39 := hput.o 39 s39
      replace s40 := hput.o 40 s40
      replace s41 := hput.o 41 s41
      replace s42 := hput.o 42 s42
      replace s43 := hput.o 43 s43
      replace s44 := hput.o 44 s44
      replace s45 := hput.o 45 s45
      replace s46 := hput.o 46 s46
      replace s47 := hput.o 47 s47
      replace s48 := hput.o 48 s48
      replace s49 := hput.o 49 s49
      replace s50 := hput.o 50 s50
      replace s51 := hput.o 51 s51
      replace s52 := hput.o 52 s52
      replace s53 := hput.o 53 s53
      replace s54 := hput.o 54 s54
      replace s55 := hput.o 55 s55
      replace s56 := hput.o 56 s56
      replace s57 := hput.o 57 s57
      replace s58 := hput.o 58 s58
      have s59 : sl a23 59 = i6 (k + 1) := hput.new 0 59 rfl
      replace hz := hput.size.trans hz
      replace hd := hput.defers.trans hd
      clear hput
      replace hS22 := hS22.front (i := 4) rfl
      replace hS22 := hS22.front (i := 1) rfl
      replace hS22 : S (kap W) ((blkA g20 107 #[pt g14 0]) :: (blkA g10 102 #[i6 z9.1.id, .slice z9.2.A z9.1.ports.length z9.2.c]) :: (blkA g14 111 #[i6 z9.1.id, .slice v7.A z9.1.ports.length v7.c, i6 ((siF z9.1).boots), pt q7.g 0]) :: (rowP 99 3 PtV.cells v7 (siF z9.1).ports) :: (roO (some q7) (siF z9.1).r) :: (sepA (sitesL us)) :: (rowA (.slice A21 (k + 1) c21) 107 1 (k + 1) (rowC adC us ++ [pt g14 0])) :: (blkA g4 106 #[.slice A21 (k + 1) c21, .pointer none, .pointer none, .pointer none, .pointer none]) :: []) ((memA W W.heap.size) :: []) w22 := hS22
      replace hS22 := hS22.drop.drop
      replace hS22 := hS22.front (i := 5) rfl
      replace hS22 := hS22.front (i := 5) rfl
      replace hS22 := hS22.front (i := 5) rfl
      replace hS22 := hS22.front (i := 5) rfl
      replace hS22 := hS22.front (i := 5) rfl
      replace hS22 := hS22.front (i := 5) rfl
      replace hS22 : S (kap W) ((blkA g14 111 #[i6 z9.1.id, .slice v7.A z9.1.ports.length v7.c, i6 ((siF z9.1).boots), pt q7.g 0]) :: (rowP 99 3 PtV.cells v7 (siF z9.1).ports) :: (roO (some q7) (siF z9.1).r) :: (sepA (sitesL us)) :: (rowA (.slice A21 (k + 1) c21) 107 1 (k + 1) (rowC adC us ++ [pt g14 0])) :: (blkA g4 106 #[.slice A21 (k + 1) c21, .pointer none, .pointer none, .pointer none, .pointer none]) :: []) ((memA W W.heap.size) :: []) w22 := hS22
      have hS1 := sites_more (x := (g14, z9.1)) (site_close (x := siF z9.1) (v := v7) (p := some q7) hS22)
      rw [show rowC adC us ++ [pt g14 0] = rowC adC (us ++ [(g14, z9.1)]) from rowC_snoc adC us (g14, z9.1)] at hS1
      refine ⟨⟨k + 1, _, _, us ++ [(g14, z9.1)], by omega, us_next hzk hc0_1, hz, hd, s2, s3, s13, s14, s15, hS1⟩, ?_⟩
      show n - (intOf (sl a23 15)).toNat < n - (intOf (sl a6 15)).toNat
      rw [show sl a23 15 = _ from s15, show sl a6 15 = _ from hmu0]
      simp only [intOf]
      omega
    · clear s16
      refine wp_exit ?_
      change Code.wp _ _ _ _ _
      refine wp_seq ?_
      obtain rfl : k = n := by omega
      have hus2 : us.map (·.2) = l.map (·.1) := by rw [hc0_1, List.take_of_length_le (by have := sits_len hR; omega)]
      refine seq_l [4] hz ?_
      refine ⟨pt g4 0, fun _ h_ => rmv (h_.b 3 s3),
       pt g4 0, fun _ h_ => rk (run_nilCheck rfl (h_.d 0 60)),
       pt g4 0, fun _ h_ => rk (fa 0 rfl (h_.d 1 61)),
       .slice B k d, fun _ h_ => rk (ld hS6 2 rfl (h_.d 2 62)), ?_⟩
      refine ⟨fun a_ h_ => st_call (on_none rfl) (run_call rfl (map2 (h_.d 3 63) rfl) rfl) (wssort B _ d (idsL us) 55 #[] (fun x y => cmpF x.2 y.2) _ (by omega) (by rw [← rowC_ids]; exact hS6.rd (i := 1) rfl) (sort_cl hS6 (i := 0) rfl) (fun _ _ => by kernel_rfl) (sort_up hso hus2)) ?_, trivial⟩
      rintro e w25 ⟨rfl, hb25⟩
      refine ⟨_, rfl, _, rfl, ?_⟩
      clear h_ a_
      have hS25 := hS6.below hb25
      clear hS6 hb25
      intro a24 hput
      replace s2 := hput.o 2 s2
      replace s3 := hput.o 3 s3
      replace hz := hput.size.trans hz
      replace hd := hput.defers.trans hd
      clear hput s13 s14 s15
      change Code.wp _ _ _ _ _
      refine wp_seq ?_
      refine wp_seq ?_
      refine seq_l [] hz ?_
      refine ⟨i6 0, fun _ h_ => rk (run_move rfl rfl), ?_⟩
      intro a26 hput
      replace s2 := hput.o 2 s2
      replace s3 := hput.o 3 s3
      have s65 : sl a26 65 = i6 0 := hput.new 0 65 rfl
      replace hz := hput.size.trans hz
      replace hd := hput.defers.trans hd
      clear hput
      change Code.wp _ _ _ _ _
      refine wp_block ?_
      refine wp_loop (fun a_ w_ => ∃ i : Nat, ∃ ns : List Value, (i ≤ 4) ∧ (ns.length = 4) ∧ a_.tmps.size = 99 ∧ a_.defers = [] ∧ sl a_ 2 = .pointer none ∧ sl a_ 3 = pt g4 0 ∧ sl a_ 65 = i6 i ∧ S (kap W) ((sepA (sitesL us)) :: (rowA (.slice B k d) 107 1 k (rowC adC us)) :: (blkA g4 106 (wC (.slice B k d) ns)) :: []) ((memA W W.heap.size) :: []) w_) (fun a_ _ => 4 - (intOf (sl a_ 65)).toNat) ?_ ?_
      · exact ⟨0, [.pointer none, .pointer none, .pointer none, .pointer none], Nat.zero_le _, rfl, hz, hd, s2, s3, s65, hS25⟩
      · clear hz hd s2 s3 s65 hS25
        rintro a27 w27 ⟨i, ns, hc2_0, hc2_1, hz, hd, s2, s3, s65, hS27⟩
        have hmu2 := s65
        refine wp_seq ?_
        refine seq_l [] hz ?_
        refine ⟨.bool (decide ((i : Int) < 4)), fun _ h_ => rk (run_cmp rfl (h_.b 65 s65) rfl rfl (by first | rfl | exact neq_dec _ _ | exact eq_dec _ _ | simp)), ?_⟩
        intro a28 hput
        replace s2 := hput.o 2 s2
        replace s3 := hput.o 3 s3
        replace s65 := hput.o 65 s65
        have s66 : sl a28 66 = .bool (decide ((i : Int) < 4)) := hput.new 0 66 rfl
        replace hz := hput.size.trans hz
        replace hd := hput.defers.trans hd
        clear hput
        change Code.wp _ _ _ _ _
        refine wp_seq ?_
        refine wp_cond_d s66 (fun hc66 => ?_) (fun hc66 => ?_)
        · clear s66
          refine wp_skip ?_
          change Code.wp _ _ _ _ _
          refine wp_seq ?_
          refine wp_block ?_
          refine wp_seq ?_
          refine seq_l [] hz ?_
          refine ⟨i6 i, fun _ h_ => rmv (h_.b 65 s65),
           i6 i, fun _ h_ => ras (h_.d 0 67), ?_⟩
          intro a29 hput
          replace s2 := hput.o 2 s2
          replace s3 := hput.o 3 s3
          have s7 : sl a29 7 = i6 i := hput.new 1 7 rfl
          replace s65 := hput.o 65 s65
          have s67 : sl a29 67 = i6 i := hput.new 0 67 rfl
          replace hz := hput.size.trans hz
          replace hd := hput.defers.trans hd
          clear hput
          change Code.wp _ _ _ _ _
          refine wp_seq ?_
          refine seq_l [] hz ?_
          refine ⟨.slice none 0 0, fun _ h_ => rk (run_assign rfl rfl), ?_⟩
          intro a30 hput
          replace s2 := hput.o 2 s2
          replace s3 := hput.o 3 s3
          replace s7 := hput.o 7 s7
          have s8 : sl a30 8 = .slice none 0 0 := hput.new 0 8 rfl
          replace s65 := hput.o 65 s65
          replace s67 := hput.o 67 s67
          replace hz := hput.size.trans hz
          replace hd := hput.defers.trans hd
          clear hput
          change Code.wp _ _ _ _ _
          refine wp_seq ?_
          refine wp_seq ?_
          refine seq_l [] hz ?_
          refine ⟨pt g4 0, fun _ h_ => rmv (h_.b 3 s3),
           pt g4 0, fun _ h_ => rk (run_nilCheck rfl (h_.d 0 68)),
           pt g4 0, fun _ h_ => rk (fa 0 rfl (h_.d 1 69)),
           .slice B k d, fun _ h_ => rk (run_load rfl (h_.d 2 70) (by kernel_rfl) (((hS27.blk (i := 2) rfl).cell 0).trans rfl)),
           i6 k, fun _ h_ => rk (run_lenS rfl (h_.d 3 71) (by kernel_rfl)),
           i6 0, fun _ h_ => rk (run_move rfl rfl), ?_⟩
          intro a31 hput
          replace s2 := hput.o 2 s2
          replace s3 := hput.o 3 s3
          replace s7 := hput.o 7 s7
          replace s8 := hput.o 8 s8
          replace s65 := hput.o 65 s65
          replace s67 := hput.o 67 s67
          have s68 : sl a31 68 = pt g4 0 := hput.new 0 68 rfl
          have s69 : sl a31 69 = pt g4 0 := hput.new 1 69 rfl
          have s70 : sl a31 70 = pt g4 0 := hput.new 2 70 rfl
          have s71 : sl a31 71 = .slice B k d := hput.new 3 71 rfl
          have s72 : sl a31 72 = i6 k := hput.new 4 72 rfl
          have s73 : sl a31 73 = i6 0 := hput.new 5 73 rfl
          replace hz := hput.size.trans hz
          replace hd := hput.defers.trans hd
          clear hput
          change Code.wp _ _ _ _ _
          refine wp_block ?_
          refine wp_loop (fun a_ w_ => ∃ j : Nat, ∃ m : Nat, ∃ C : Option Addr, ∃ e : Nat, ∃ xs : List Int, (j ≤ k) ∧ (m ≤ j) ∧ a_.tmps.size = 99 ∧ a_.defers = [] ∧ sl a_ 2 = .pointer none ∧ sl a_ 3 = pt g4 0 ∧ sl a_ 7 = i6 i ∧ sl a_ 8 = .slice C m e ∧ sl a_ 65 = i6 i ∧ sl a_ 67 = i6 i ∧ sl a_ 68 = pt g4 0 ∧ sl a_ 69 = pt g4 0 ∧ sl a_ 70 = pt g4 0 ∧ sl a_ 71 = .slice B k d ∧ sl a_ 72 = i6 k ∧ sl a_ 73 = i6 j ∧ S (kap W) ((rowA (.slice C m e) 3 1 m (ints xs)) :: (sepA (sitesL us)) :: (rowA (.slice B k d) 107 1 k (rowC adC us)) :: (blkA g4 106 (wC (.slice B k d) ns)) :: []) ((memA W W.heap.size) :: []) w_) (fun a_ _ => k - (intOf (sl a_ 73)).toNat) ?_ ?_
          · have hSn3 := hS27.nilrow 3 1
            exact ⟨0, 0, none, 0, [], Nat.zero_le _, Nat.le_refl _, hz, hd, s2, s3, s7, s8, s65, s67, s68, s69, s70, s71, s72, s73, hSn3⟩
          · clear hz hd s2 s3 s7 s8 s65 s67 s68 s69 s70 s71 s72 s73 hS27
            rintro a32 w32 ⟨j, m, C, e, xs, hc4_0, hc4_1, hz, hd, s2, s3, s7, s8, s65, s67, s68, s69, s70, s71, s72, s73, hS32⟩
            have hmu4 := s73
            refine wp_seq ?_
            refine seq_l [] hz ?_
            refine ⟨.bool (decide ((j : Int) < k)), fun _ h_ => rk (run_cmp rfl (h_.b 73 s73) (h_.b 72 s72) rfl (by first | rfl | exact neq_dec _ _ | exact eq_dec _ _ | simp)), ?_⟩
            intro a33 hput
            replace s2 := hput.o 2 s2
            replace s3 := hput.o 3 s3
            replace s7 := hput.o 7 s7
            replace s8 := hput.o 8 s8
            replace s65 := hput.o 65 s65
            replace s67 := hput.o 67 s67
            replace s68 := hput.o 68 s68
            replace s69 := hput.o 69 s69
            replace s70 := hput.o 70 s70
            replace s71 := hput.o 71 s71
            replace s72 := hput.o 72 s72
            replace s73 := hput.o 73 s73
            have s74 : sl a33 74 = .bool (decide ((j : Int) < k)) := hput.new 0 74 rfl
            replace hz := hput.size.trans hz
            replace hd := hput.defers.trans hd
            clear hput
            change Code.wp _ _ _ _ _
            refine wp_seq ?_
            refine wp_cond_d s74 (fun hc74 => ?_) (fun hc74 => ?_)
            · clear s74
              refine wp_skip ?_
              change Code.wp _ _ _ _ _
              refine wp_seq ?_
              refine wp_block ?_
              refine wp_seq ?_
              refine seq_l [] hz ?_
              obtain ⟨b35, o35, z35, hA35, hb35, hz35, hq35⟩ := Reads.row_at adC 1 adC_len (k := j) (hS32.rd (i := 2) rfl) (by decide) (by omega)
              obtain ⟨vs, ps, hsb, hsr⟩ := sites_blk hS32 (i := 1) rfl hz35
              have hsn := us_small (fun x hx => (he x hx).2) hus2 (List.mem_of_getElem? hz35)
              refine ⟨pt b35 (o35 + j * 1), fun _ h_ => rk (run_indexV (size := 1) rfl (h_.b 71 s71) hA35 (h_.b 73 s73) (by kernel_rfl) (by omega) (by simp)),
               pt z35.1 0, fun _ h_ => rk (run_load rfl (h_.d 0 75) (by kernel_rfl) (show w32.cell? ⟨b35, o35 + j * 1 + 0, none⟩ = some (pt z35.1 0) from hq35 0 _ rfl)),
               pt z35.1 0, fun _ h_ => ras (h_.d 1 76), ?_⟩
              intro a34 hput
              replace s2 := hput.o 2 s2
              replace s3 := hput.o 3 s3
              replace s7 := hput.o 7 s7
              replace s8 := hput.o 8 s8
              have s10 : sl a34 10 = pt z35.1 0 := hput.new 2 10 rfl
              replace s65 := hput.o 65 s65
              replace s67 := hput.o 67 s67
              replace s68 := hput.o 68 s68
              replace s69 := hput.o 69 s69
              replace s70 := hput.o 70 s70
              replace s71 := hput.o 71 s71
              replace s72 := hput.o 72 s72
              replace s73 := hput.o 73 s73
              have s75 : sl a34 75 = pt b35 (o35 + j * 1) := hput.new 0 75 rfl
              have s76 : sl a34 76 = pt z35.1 0 := hput.new 1 76 rfl
              replace hz := hput.size.trans hz
              replace hd := hput.defers.trans hd
              clear hput
              change Code.wp _ _ _ _ _
              refine wp_seq ?_
              refine seq_l [2] hz ?_
              refine ⟨pt z35.1 0, fun _ h_ => rmv (h_.b 10 s10),
               i6 i, fun _ h_ => rmv (h_.b 7 s7), ?_⟩
              refine ⟨fun a_ h_ => st_call (on_none rfl) (run_call rfl (map2 (h_.d 0 77) (h_.d 1 78)) rfl) (sport_any z35.1 _ (siF z35.2) vs ps _ (by show z35.2.ports.length ≤ 100000; omega) hsb hsr) ?_, trivial⟩
              rintro e w37 ⟨rfl, hb37⟩
              refine ⟨_, rfl, _, rfl, ?_⟩
              clear h_ a_
              have hS37 := hS32.below hb37
              replace hsb := hsb.below hb37 hsb.lt
              clear hS32 hb37
              refine ⟨.bool (decide ((0 : Int) ≤ idxF (fun q => decide (q.lan = (i : Int))) z35.2.ports)), fun _ h_ => rk (run_cmp rfl (h_.d 2 79) rfl rfl (by first | rfl | exact neq_dec _ _ | exact eq_dec _ _ | simp)), ?_⟩
              intro a36 hput
              replace s2 := hput.o 2 s2
              replace s3 := hput.o 3 s3
              replace s7 := hput.o 7 s7
              replace s8 := hput.o 8 s8
              replace s10 := hput.o 10 s10
              replace s65 := hput.o 65 s65
              replace s67 := hput.o 67 s67
              replace s68 := hput.o 68 s68
              replace s69 := hput.o 69 s69
              replace s70 := hput.o 70 s70
              replace s71 := hput.o 71 s71
              replace s72 := hput.o 72 s72
              replace s73 := hput.o 73 s73
              replace s75 := hput.o 75 s75
              replace s76 := hput.o 76 s76
              have s77 : sl a36 77 = pt z35.1 0 := hput.new 0 77 rfl
              have s78 : sl a36 78 = i6 i := hput.new 1 78 rfl
              have s79 : sl a36 79 = i6 (idxF (fun q => decide (q.lan = (i : Int))) z35.2.ports) := hput.new 2 79 rfl
              have s80 : sl a36 80 = .bool (decide ((0 : Int) ≤ idxF (fun q => decide (q.lan = (i : Int))) z35.2.ports)) := hput.new 3 80 rfl
              replace hz := hput.size.trans hz
              replace hd := hput.defers.trans hd
              clear hput
              change Code.wp _ _ _ _ _
              refine wp_cond_d s80 (fun hc80 => ?_) (fun hc80 => ?_)
              · clear s80
                refine seq_l [6, 7] hz ?_
                refine ⟨.slice C m e, fun _ h_ => rmv (h_.b 8 s8),
                 pt z35.1 0, fun _ h_ => rmv (h_.b 10 s10),
                 pt z35.1 0, fun _ h_ => rk (run_nilCheck rfl (h_.d 1 82)),
                 pt z35.1 0, fun _ h_ => rk (fa 0 rfl (h_.d 2 83)),
                 pt z35.1 0, fun _ h_ => rk (fa 0 rfl (h_.d 3 84)),
                 i6 z35.2.id, fun _ h_ => rk (run_load rfl (h_.d 4 85) (by kernel_rfl) (hsb.cell 0)), ?_⟩
                refine ⟨fun a_ h_ => st_lit (e := 3) (vals := [(0, i6 z35.2.id)]) (cells := #[i6 z35.2.id]) hS37 (on_none rfl) rfl (parts1 (h_.d 5 86)) fun g39 w39 hS39 hb39 => ⟨_, rfl, ?_⟩, trivial⟩
                clear h_ a_ hS37
                replace hsb := hsb.below hb39 hsb.lt
                clear hb39
                refine ⟨fun a_ h_ => sap (bytes := 8) (news := [i6 z35.2.id]) hS39 1 (on_none rfl) rfl (h_.d 0 81) (h_.d 6 87) (reads_blk (hS39.blk (i := 0) rfl) rfl) (by simp [Value.oneCell']) (by (try unfold maxLen); omega) (by (try unfold maxLen); omega) fun A40 c40 w40 hS40 => ⟨_, rfl, ?_⟩, trivial⟩
                clear h_ a_ hS39
                replace hS40 : S (kap W) ((blkA g39 3 #[i6 z35.2.id]) :: (rowA (.slice A40 (m + 1) c40) 3 1 (m + 1) (ints xs ++ [i6 z35.2.id])) :: (sepA (sitesL us)) :: (rowA (.slice B k d) 107 1 k (rowC adC us)) :: (blkA g4 106 (wC (.slice B k d) ns)) :: []) ((memA W W.heap.size) :: []) w40 := hS40
                refine ⟨.slice A40 (m + 1) c40, fun _ h_ => ras (h_.d 7 88), ?_⟩
                intro a38 hput
                replace s2 := hput.o 2 s2
                replace s3 := hput.o 3 s3
                replace s7 := hput.o 7 s7
                replace s8 : sl a38 8 = .slice A40 (m + 1) c40 := hput.new 8 8 rfl
                replace s10 := hput.o 10 s10
                replace s65 := hput.o 65 s65
                replace s67 := hput.o 67 s67
                replace s68 := hput.o 68 s68
                replace s69 := hput.o 69 s69
                replace s70 := hput.o 70 s70
                replace s71 := hput.o 71 s71
                replace s72 := hput.o 72 s72
                replace s73 := hput.o 73 s73
                replace s75 := hput.o 75 s75
                replace s76 := hput.o 76 s76
                replace s77 := hput.o 77 s77
                replace s78 := hput.o 78 s78
                replace s79 := hput.o 79 s79
                have s81 : sl a38 81 = .slice C m e := hput.new 0 81 rfl
                have s82 : sl a38 82 = pt z35.1 0 := hput.new 1 82 rfl
                have s83 : sl a38 83 = pt z35.1 0 := hput.new 2 83 rfl
                have s84 : sl a38 84 = pt z35.1 0 := hput.new 3 84 rfl
                have s85 : sl a38 85 = pt z35.1 0 := hput.new 4 85 rfl
                have s86 : sl a38 86 = i6 z35.2.id := hput.new 5 86 rfl
                have s87 : sl a38 87 = .slice (some ⟨g39, 0, none⟩) 1 1 := hput.new 6 87 rfl
                have s88 : sl a38 88 = .slice A40 (m + 1) c40 := hput.new 7 88 rfl
                replace hz := hput.size.trans hz
                replace hd := hput.defers.trans hd
                clear hput
                change Code.wp _ _ _ _ _
                refine seq_l [] hz ?_
                refine ⟨i6 (j + 1), fun _ h_ => rk (run_addI rfl (h_.b 73 s73) rfl (by omega) rfl),
                 i6 (j + 1), fun _ h_ => rmv (h_.d 0 89), ?_⟩
                intro a41 hput
                replace s2 := hput.o 2 s2
                replace s3 := hput.o 3 s3
                replace s7 := hput.o 7 s7
                replace s8 := hput.o 8 s8
                replace s10 := hput.o 10 s10
                replace s65 := hput.o 65 s65
                replace s67 := hput.o 67 s67
                replace s68 := hput.o 68 s68
                replace s69 := hput.o 69 s69
                replace s70 := hput.o 70 s70
                replace s71 := hput.o 71 s71
                replace s72 := hput.o 72 s72
                replace s73 : sl a41 73 = i6 (j + 1) := hput.new 1 73 rfl
                replace s75 := hput.o 75 s75
                replace s76 := hput.o 76 s76
                replace s77 := hput.o 77 s77
                replace s78 := hput.o 78 s78
                replace s79 := hput.o 79 s79
                replace s81 := hput.o 81 s81
                replace s82 := hput.o 82 s82
                replace s83 := hput.o 83 s83
                replace s84 := hput.o 84 s84
                replace s85 := hput.o 85 s85
                replace s86 := hput.o 86 s86
                replace s87 := hput.o 87 s87
                replace s88 := hput.o 88 s88
                have s89 : sl a41 89 = i6 (j + 1) := hput.new 0 89 rfl
                replace hz := hput.size.trans hz
                replace hd := hput.defers.trans hd
                clear hput
                replace hS40 := hS40.drop
                replace hS40 := hS40.front (i := 3) rfl
                replace hS40 := hS40.front (i := 3) rfl
                replace hS40 := hS40.front (i := 3) rfl
                replace hS40 := hS40.front (i := 3) rfl
                replace hS40 : S (kap W) ((rowA (.slice A40 (m + 1) c40) 3 1 (m + 1) (ints xs ++ [i6 z35.2.id])) :: (sepA (sitesL us)) :: (rowA (.slice B k d) 107 1 k (rowC adC us)) :: (blkA g4 106 (wC (.slice B k d) ns)) :: []) ((memA W W.heap.size) :: []) w40 := hS40
                rw [← ints_snoc_] at hS40
                refine ⟨⟨j + 1, _, _, _, _, by omega, by omega, hz, hd, s2, s3, s7, s8, s65, s67, s68, s69, s70, s71, s72, s73, hS40⟩, ?_⟩
                show k - (intOf (sl a41 73)).toNat < k - (intOf (sl a32 73)).toNat
                rw [show sl a41 73 = _ from s73, show sl a32 73 = _ from hmu4]
                simp only [intOf]
                omega
              · clear s80
                refine wp_skip ?_
                change Code.wp _ _ _ _ _
                refine seq_l [] hz ?_
                refine ⟨i6 (j + 1), fun _ h_ => rk (run_addI rfl (h_.b 73 s73) rfl (by omega) rfl),
                 i6 (j + 1), fun _ h_ => rmv (h_.d 0 89), ?_⟩
                intro a42 hput
                replace s2 := hput.o 2 s2
                replace s3 := hput.o 3 s3
                replace s7 := hput.o 7 s7
                replace s8 := hput.o 8 s8
                replace s10 := hput.o 10 s10
                replace s65 := hput.o 65 s65
                replace s67 := hput.o 67 s67
                replace s68 := hput.o 68 s68
                replace s69 := hput.o 69 s69
                replace s70 := hput.o 70 s70
                replace s71 := hput.o 71 s71
                replace s72 := hput.o 72 s72
                replace s73 : sl a42 73 = i6 (j + 1) := hput.new 1 73 rfl
                replace s75 := hput.o 75 s75
                replace s76 := hput.o 76 s76
                replace s77 := hput.o 77 s77
                replace s78 := hput.o 78 s78
                replace s79 := hput.o 79 s79
                have s89 : sl a42 89 = i6 (j + 1) := hput.new 0 89 rfl
                replace hz := hput.size.trans hz
                replace hd := hput.defers.trans hd
                clear hput
                replace hS37 := hS37.front (i := 3) rfl
                replace hS37 := hS37.front (i := 3) rfl
                replace hS37 := hS37.front (i := 3) rfl
                replace hS37 := hS37.front (i := 3) rfl
                replace hS37 : S (kap W) ((rowA (.slice C m e) 3 1 m (ints xs)) :: (sepA (sitesL us)) :: (rowA (.slice B k d) 107 1 k (rowC adC us)) :: (blkA g4 106 (wC (.slice B k d) ns)) :: []) ((memA W W.heap.size) :: []) w37 := hS37
                refine ⟨⟨j + 1, _, _, _, _, by omega, by omega, hz, hd, s2, s3, s7, s8, s65, s67, s68, s69, s70, s71, s72, s73, hS37⟩, ?_⟩
                show k - (intOf (sl a42 73)).toNat < k - (intOf (sl a32 73)).toNat
                rw [show sl a42 73 = _ from s73, show sl a32 73 = _ from hmu4]
                simp only [intOf]
                omega
            · clear s74
              refine wp_exit ?_
              change Code.wp _ _ _ _ _
              refine seq_r [[], [], [], [2], [0], [0, 4], [0, 1, 2, 3, 4, 5], [0, 1, 2, 3, 4, 5, 6]] [3, 7] (.rd 0 (.rd 1 (.rd 2 (.rd 4 (.rd 5 (.ef 3 (.ag 0 (.ag 1 (.ag 4 (.ag 5 (.rd 6 (.ef 7 (.fin) .non)))))) .non)))))) hz fun w43 hb43 => ?_
              replace hS32 := hS32.below hb43
              refine ⟨pt g4 0, fun _ h_ => rmv (h_.b 3 s3),
               i6 i, fun _ h_ => rmv (h_.b 7 s7),
               .slice C m e, fun _ h_ => rmv (h_.b 8 s8),
               pt g4 0, fun _ h_ => rk (run_nilCheck rfl (h_.d 0 90)),
               pt g4 1, fun _ h_ => rk (fa 1 rfl (h_.d 4 94)), ?_⟩
              refine ⟨fun a_ h_ => st_call (on_none rfl) (run_call rfl (map2 rfl (h_.d 2 92)) rfl) (lanNew_any 1024 C m e xs _ (by omega) (by omega) (hS32.rd (i := 0) rfl)) ?_, trivial⟩
              rintro e_ w44 ⟨g44, rfl, _, _, hb44⟩
              refine ⟨_, rfl, _, rfl, ?_⟩
              clear h_ a_
              have hS44 := hS32.below hb44
              clear hS32 hb44
              refine ⟨fun _ h_ => rmv (h_.b 3 s3),
               fun _ h_ => rmv (h_.b 7 s7),
               fun _ h_ => rk (run_nilCheck rfl (h_.d 0 90)),
               fun _ h_ => rk (fa 1 rfl (h_.d 4 94)),
               pt g4 (1 + i), fun _ h_ => rk (run_indexP (n := 4) (size := 1) rfl (h_.d 5 95) (h_.d 1 91) (by kernel_rfl) (by omega) (by omega)), ?_⟩
              refine ⟨fun a_ h_ => st_set1 (k := 1 + i) (u := pt g44 0) 3 hS44 rfl (on_none rfl) rfl (h_.d 6 96) (h_.d 3 93) rfl (by kernel_rfl) (by show 1 + i < (_ :: ns).length; simp only [List.length_cons]; omega) rfl fun w45 hS45 _ => ⟨_, rfl, ?_⟩, trivial⟩
              clear h_ a_ hS44
              rw [wC_set] at hS45
              replace hS45 : S (kap W) ((rowA (.slice C m e) 3 1 m (ints xs)) :: (sepA (sitesL us)) :: (rowA (.slice B k d) 107 1 k (rowC adC us)) :: (blkA g4 106 (wC (.slice B k d) (ns.set i (pt g44 0)))) :: []) ((memA W W.heap.size) :: []) w45 := hS45
              intro a43 hput
              replace s2 := hput.o 2 s2
              replace s3 := hput.o 3 s3
              replace s7 := hput.o 7 s7
              replace s8 := hput.o 8 s8
              replace s65 := hput.o 65 s65
              replace s67 := hput.o 67 s67
              replace s68 := hput.o 68 s68
              replace s69 := hput.o 69 s69
              replace s70 := hput.o 70 s70
              replace s71 := hput.o 71 s71
              replace s72 := hput.o 72 s72
              replace s73 := hput.o 73 s73
              have s90 : sl a43 90 = pt g4 0 := hput.new 0 90 rfl
              have s91 : sl a43 91 = i6 i := hput.new 1 91 rfl
              have s92 : sl a43 92 = .slice C m e := hput.new 2 92 rfl
              have s93 : sl a43 93 = pt g44 0 := hput.new 3 93 rfl
              have s94 : sl a43 94 = pt g4 0 := hput.new 4 94 rfl
              have s95 : sl a43 95 = pt g4 1 := hput.new 5 95 rfl
              have s96 : sl a43 96 = pt g4 (1 + i) := hput.new 6 96 rfl
              replace hz := hput.size.trans hz
              replace hd := hput.defers.trans hd
              clear hput
              change Code.wp _ _ _ _ _
              refine seq_l [] hz ?_
              refine ⟨i6 (i + 1), fun _ h_ => rk (run_addI rfl (h_.b 65 s65) rfl (by omega) rfl),
               i6 (i + 1), fun _ h_ => rmv (h_.d 0 97), ?_⟩
              intro a46 hput
              replace s2 := hput.o 2 s2
              replace s3 := hput.o 3 s3
              replace s7 := hput.o 7 s7
              replace s8 := hput.o 8 s8
              replace s65 : sl a46 65 = i6 (i + 1) := hput.new 1 65 rfl
              replace s67 := hput.o 67 s67
              replace s68 := hput.o 68 s68
              replace s69 := hput.o 69 s69
              replace s70 := hput.o 70 s70
              replace s71 := hput.o 71 s71
              replace s72 := hput.o 72 s72
              replace s73 := hput.o 73 s73
              replace s90 := hput.o 90 s90
              replace s91 := hput.o 91 s91
              replace s92 := hput.o 92 s92
              replace s93 := hput.o 93 s93
              replace s94 := hput.o 94 s94
              replace s95 := hput.o 95 s95
              replace s96 := hput.o 96 s96
              have s97 : sl a46 97 = i6 (i + 1) := hput.new 0 97 rfl
              replace hz := hput.size.trans hz
              replace hd := hput.defers.trans hd
              clear hput
              replace hS45 := hS45.drop
              replace hS45 := hS45.front (i := 2) rfl
              replace hS45 := hS45.front (i := 2) rfl
              replace hS45 := hS45.front (i := 2) rfl
              replace hS45 : S (kap W) ((sepA (sitesL us)) :: (rowA (.slice B k d) 107 1 k (rowC adC us)) :: (blkA g4 106 (wC (.slice B k d) (ns.set i (pt g44 0)))) :: []) ((memA W W.heap.size) :: []) w45 := hS45
              refine ⟨⟨i + 1, _, by omega, by rw [List.length_set]; exact hc2_1, hz, hd, s2, s3, s65, hS45⟩, ?_⟩
              show 4 - (intOf (sl a46 65)).toNat < 4 - (intOf (sl a27 65)).toNat
              rw [show sl a46 65 = _ from s65, show sl a27 65 = _ from hmu2]
              simp only [intOf]
              omega
        · clear s66
          refine wp_exit ?_
          change Code.wp _ _ _ _ _
          refine wp_seq ?_
          refine seq_l [] hz ?_
          refine ⟨pt g4 0, fun _ h_ => rmv (h_.b 3 s3),
           pt g4 0, fun _ h_ => ras (h_.d 0 98), ?_⟩
          intro a47 hput
          replace s2 : sl a47 2 = pt g4 0 := hput.new 1 2 rfl
          replace hz := hput.size.trans hz
          replace hd := hput.defers.trans hd
          clear hput s3 s65
          change Code.wp _ _ _ _ _
          refine wp_ret ?_
          refine ret1 (P := Try.prog) (fn := Try.f17) hd s2 (hR_ _ _ ?_)
          replace hS27 := hS27.front (i := 1) rfl
          replace hS27 := hS27.front (i := 2) rfl
          replace hS27 : S (kap W) ((blkA g4 106 (wC (.slice B k d) ns)) :: (rowA (.slice B k d) 107 1 k (rowC adC us)) :: (sepA (sitesL us)) :: []) ((memA W W.heap.size) :: []) w27 := hS27
          exact ⟨g4, B, d, us, ns, rfl, hus2, hS27⟩
end Go.Proofs.Ytdenfgnkbfbpmaa
