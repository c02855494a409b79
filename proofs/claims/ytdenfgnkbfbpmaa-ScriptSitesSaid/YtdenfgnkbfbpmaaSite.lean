/-
  world: sites.
-/
import Derived.Test.YtdenfgnkbfbpmaaRoNew
import Derived.Test.YtdenfgnkbfbpmaaSortD
import Derived.Test.YtdenfgnkbfbpmaaLanNew
import Derived.Lib.SliceRun
namespace Go.Proofs.Ytdenfgnkbfbpmaa
open Go.RowKit
set_option linter.unusedSimpArgs false
set_option linter.unusedVariables false

theorem clonePt_info : (Try.prog.info? 99).map (fun i => (i.zero, i.size, i.bytes)) = some (some (.agg #[.int .i64 0, .int .i64 0, .int .i64 0]), 3, 24) := by kernel_rfl
theorem clonePt_one (l : List PtV) : ∀ u ∈ rowC PtV.cells l, u.oneCell' = true := fun u hu => by
  obtain ⟨x, _, h⟩ := List.mem_flatMap.1 hu
  simp [PtV.cells] at h
  rcases h with rfl | rfl | rfl <;> rfl
set_option maxHeartbeats 2000000 in
theorem clonePt_any (A : Option Addr) (n c : Nat) (zs : List PtV) (w : World) (hn : n ≤ 100000) (hr : Reads w w.heap.size 3 A n (rowC PtV.cells zs)) :
    Calls Try.prog 51 #[.slice A n c] w fun r w' => ∃ A' c', r = .returned (.slice A' n c') ∧ w'.ownsRow w.heap.size 99 3 (.slice A' n c') n (rowC PtV.cells zs) ∧ Below w.heap.size w w' := by
  have hnc : A = none → n = 0 := fun h => by
    by_cases h0 : n = 0
    · exact h0
    · obtain ⟨b, off, e, _⟩ := hr.2 (by omega)
      rw [h] at e; cases e
  have hq : ∀ w : World, (binOp .eql 92 (.slice A n c) (.slice none 0 0)).run Try.prog w = .ok (.bool A.isNone) w := fun w => Lib.run_eql_slice_nil w 92 99 A n c 0 0 Try.underlying92
  obtain ⟨i0, hi, hz0, hz1, hz2⟩ := info_parts clonePt_info
  have hown := World.ownsRow_made (e := 99) (size := 3) w #[] 0 (Nat.le_refl _) (Nat.zero_le _) rfl
  go_enter Try.func51, Try.ntmps51
  cases A with
  | none =>
    obtain rfl := hnc rfl
    have hbs := hide (show rowC PtV.cells zs = [] from List.eq_nil_of_length_eq_zero (by have := hr.1; omega))
    go_wp2
    go_ret
    exact ⟨none, 0, rfl, by rw [hbs.out]; exact World.ownsRow_nil _ _ _ _, Below.refl _ _⟩
  | some A =>
    go_wp2_with (first
      | (at_builtin
         refine wpList_append_any _ rfl (.tmp 5) (.tmp 6) 92 rfl w.heap.size 99 i0 _ 3 24 Try.underlying92 hi hz0 hz1 hz2 rfl (by omega) (.slice (some ⟨w.heap.size, 0, none⟩) 0 0) 0 [] rfl
           hown w.heap.size (some A) n c (rowC PtV.cells zs) rfl (hr.alloc (Nat.le_refl _) _) (clonePt_one zs) (by simp only [maxLen]; omega) (by omega) (by simp) ?_
         intro A3 c3 w3 hown3 hg3 hloc3))
    have hb3 : Below w.heap.size w w3 := ((Below.refl _ _).alloc (Nat.le_refl _) _).grown hg3 (by simp) (fun g hg => (own_base hown hg).1)
    go_wp2
    go_ret
    exact ⟨A3, c3, rfl, by simpa using hown3, hb3⟩
set_option maxRecDepth 100000 in
set_option maxHeartbeats 800000 in
theorem indexPt_any (A : Option Addr) (n c : Nat) (l : List PtV) (f : Nat) (cap : Array Value) (pr : PtV → Bool) (W : World) (hn : n ≤ 100000) (hR : Reads W W.heap.size 3 A n (rowC PtV.cells l)) (hcl : ∀ w z, Below W.heap.size W w → Calls Try.prog f (#[.agg (PtV.cells z).toArray] ++ cap) w fun r w' => r = .returned (.bool (pr z)) ∧ Below w.heap.size w w') (hfn : ∀ xs w, (callFunc f xs).run Try.prog w = .ok (.enter f xs) w) :
    Calls Try.prog 79 #[.slice A n c, .func (.func f) #[] cap] W (fun r w' => r = .returned (.int .i64 (idxF pr l)) ∧ Below W.heap.size W w') := by
  have hS := S.start W
  refine calls_walk Try.func79 rfl fun R_ hR_ a hz hd hargs => ?_
  replace hz : a.tmps.size = 19 := hz.trans (by kernel_rfl)
  have s0 := hargs 0 _ rfl
  have s1 := hargs 1 _ rfl
  clear hargs
  refine wp_seq ?_
  refine seq_l [] hz ?_
  refine ⟨i6 0, fun _ h_ => rk (run_assign rfl rfl), ?_⟩
  intro a2 hput
  replace s0 := hput.o 0 s0
  replace s1 := hput.o 1 s1
  have s4 : sl a2 4 = i6 0 := hput.new 0 4 rfl
  replace hz := hput.size.trans hz
  replace hd := hput.defers.trans hd
  clear hput
  change Code.wp _ _ _ _ _
  refine wp_seq ?_
  refine wp_seq ?_
  refine seq_l [] hz ?_
  refine ⟨.slice A n c, fun _ h_ => rmv (h_.b 0 s0),
   i6 n, fun _ h_ => rk (run_lenS rfl (h_.d 0 6) (by kernel_rfl)),
   i6 0, fun _ h_ => rk (run_move rfl rfl), ?_⟩
  intro a3 hput
  replace s0 := hput.o 0 s0
  replace s1 := hput.o 1 s1
  replace s4 := hput.o 4 s4
  have s7 : sl a3 7 = i6 n := hput.new 1 7 rfl
  have s8 : sl a3 8 = i6 0 := hput.new 2 8 rfl
  replace hz := hput.size.trans hz
  replace hd := hput.defers.trans hd
  clear hput
  change Code.wp _ _ _ _ _
  refine wp_block ?_
  refine wp_loop (fun a_ w_ => ∃ k : Nat, (k ≤ n) ∧ (∀ j x, j < k → l[j]? = some x → pr x = false) ∧ a_.tmps.size = 19 ∧ a_.defers = [] ∧ sl a_ 0 = .slice A n c ∧ sl a_ 1 = .func (.func f) #[] cap ∧ sl a_ 7 = i6 n ∧ sl a_ 8 = i6 k ∧ S (kap W) ([]) ((memA W W.heap.size) :: []) w_) (fun a_ _ => n - (intOf (sl a_ 8)).toNat) ?_ ?_
  · exact ⟨0, Nat.zero_le _, (fun j x hj => absurd hj (Nat.not_lt_zero _)), hz, hd, s0, s1, s7, s8, hS⟩
  · clear hz hd s0 s1 s4 s7 s8 hS
    rintro a4 w4 ⟨k, hc0_0, hc0_1, hz, hd, s0, s1, s7, s8, hS4⟩
    have hmu0 := s8
    refine wp_seq ?_
    refine seq_l [] hz ?_
    refine ⟨.bool (decide ((k : Int) < n)), fun _ h_ => rk (run_cmp rfl (h_.b 8 s8) (h_.b 7 s7) rfl (by first | rfl | exact neq_dec _ _ | exact eq_dec _ _ | simp)), ?_⟩
    intro a5 hput
    replace s0 := hput.o 0 s0
    replace s1 := hput.o 1 s1
    replace s7 := hput.o 7 s7
    replace s8 := hput.o 8 s8
    have s9 : sl a5 9 = .bool (decide ((k : Int) < n)) := hput.new 0 9 rfl
    replace hz := hput.size.trans hz
    replace hd := hput.defers.trans hd
    clear hput
    change Code.wp _ _ _ _ _
    refine wp_seq ?_
    refine wp_cond_d s9 (fun hc9 => ?_) (fun hc9 => ?_)
    · clear s9
      refine wp_skip ?_
      change Code.wp _ _ _ _ _
      refine wp_seq ?_
      refine wp_block ?_
      refine wp_seq ?_
      refine seq_l [] hz ?_
      refine ⟨i6 k, fun _ h_ => rmv (h_.b 8 s8),
       i6 k, fun _ h_ => ras (h_.d 0 10), ?_⟩
      intro a6 hput
      replace s0 := hput.o 0 s0
      replace s1 := hput.o 1 s1
      have s5 : sl a6 5 = i6 k := hput.new 1 5 rfl
      replace s7 := hput.o 7 s7
      replace s8 := hput.o 8 s8
      have s10 : sl a6 10 = i6 k := hput.new 0 10 rfl
      replace hz := hput.size.trans hz
      replace hd := hput.defers.trans hd
      clear hput
      change Code.wp _ _ _ _ _
      refine wp_seq ?_
      refine seq_l [5] hz ?_
      refine ⟨.func (.func f) #[] cap, fun _ h_ => rmv (h_.b 1 s1),
       .slice A n c, fun _ h_ => rmv (h_.b 0 s0),
       i6 k, fun _ h_ => rmv (h_.b 5 s5), ?_⟩
      obtain ⟨b8, o8, z8, hA8, hb8, hz8, hq8⟩ := Reads.row_at PtV.cells 3 PtV.cells_len (k := k) (hR.old (hS4.old (by simp))) (by decide) (by omega)
      refine ⟨pt b8 (o8 + k * 3), fun _ h_ => rk (run_indexV (size := 3) rfl (h_.d 1 12) hA8 (h_.d 2 13) (by kernel_rfl) (by omega) (by simp)),
       .agg #[i6 z8.lan, i6 z8.prio, i6 z8.cost], fun _ h_ => rk (run_loadV (size := 3) (cs := PtV.cells z8) rfl (h_.d 3 14) (by kernel_rfl) rfl hq8), ?_⟩
      refine ⟨fun a_ h_ => st_call (on_none rfl) (run_callV rfl (h_.d 0 11) (map1 (h_.d 4 15)) rfl (hfn _ _)) (hcl _ z8 (hS4.old (by simp))) ?_, trivial⟩
      rintro e w9 ⟨rfl, hb9⟩
      refine ⟨_, rfl, _, rfl, ?_⟩
      clear h_ a_
      have hS9 := hS4.below hb9
      clear hS4 hb9
      intro a7 hput
      replace s0 := hput.o 0 s0
      replace s1 := hput.o 1 s1
      replace s5 := hput.o 5 s5
      replace s7 := hput.o 7 s7
      replace s8 := hput.o 8 s8
      replace s10 := hput.o 10 s10
      have s11 : sl a7 11 = .func (.func f) #[] cap := hput.new 0 11 rfl
      have s12 : sl a7 12 = .slice A n c := hput.new 1 12 rfl
      have s13 : sl a7 13 = i6 k := hput.new 2 13 rfl
      have s14 : sl a7 14 = pt b8 (o8 + k * 3) := hput.new 3 14 rfl
      have s15 : sl a7 15 = .agg #[i6 z8.lan, i6 z8.prio, i6 z8.cost] := hput.new 4 15 rfl
      have s16 : sl a7 16 = .bool (pr z8) := hput.new 5 16 rfl
      replace hz := hput.size.trans hz
      replace hd := hput.defers.trans hd
      clear hput
      change Code.wp _ _ _ _ _
      refine wp_cond_b s16 (fun hc16 => ?_) (fun hc16 => ?_)
      · clear s16
        refine wp_seq ?_
        refine seq_l [] hz ?_
        refine ⟨i6 k, fun _ h_ => rmv (h_.b 5 s5),
         i6 k, fun _ h_ => ras (h_.d 0 17), ?_⟩
        intro a10 hput
        replace s0 := hput.o 0 s0
        replace s1 := hput.o 1 s1
        have s4 : sl a10 4 = i6 k := hput.new 1 4 rfl
        replace s5 := hput.o 5 s5
        replace s7 := hput.o 7 s7
        replace s8 := hput.o 8 s8
        replace s10 := hput.o 10 s10
        replace s11 := hput.o 11 s11
        replace s12 := hput.o 12 s12
        replace s13 := hput.o 13 s13
        replace s14 := hput.o 14 s14
        replace s15 := hput.o 15 s15
        have s17 : sl a10 17 = i6 k := hput.new 0 17 rfl
        replace hz := hput.size.trans hz
        replace hd := hput.defers.trans hd
        clear hput
        change Code.wp _ _ _ _ _
        refine wp_ret ?_
        refine ret1 (P := Try.prog) (fn := Try.f79) hd s4 (hR_ _ _ ?_)
        exact ⟨by rw [idxF_some pr l k _ hc0_1 hz8 hc16], (hS9.old (by simp))⟩
      · clear s16
        refine wp_skip ?_
        change Code.wp _ _ _ _ _
        refine seq_l [] hz ?_
        refine ⟨i6 (k + 1), fun _ h_ => rk (run_addI rfl (h_.b 8 s8) rfl (by omega) rfl),
         i6 (k + 1), fun _ h_ => rmv (h_.d 0 18), ?_⟩
        intro a11 hput
        replace s0 := hput.o 0 s0
        replace s1 := hput.o 1 s1
        replace s5 := hput.o 5 s5
        replace s7 := hput.o 7 s7
        replace s8 : sl a11 8 = i6 (k + 1) := hput.new 1 8 rfl
        replace s10 := hput.o 10 s10
        replace s11 := hput.o 11 s11
        replace s12 := hput.o 12 s12
        replace s13 := hput.o 13 s13
        replace s14 := hput.o 14 s14
        replace s15 := hput.o 15 s15
        have s18 : sl a11 18 = i6 (k + 1) := hput.new 0 18 rfl
        replace hz := hput.size.trans hz
        replace hd := hput.defers.trans hd
        clear hput
        refine ⟨⟨k + 1, by omega, none_next hc0_1 hz8 hc16, hz, hd, s0, s1, s7, s8, hS9⟩, ?_⟩
        show n - (intOf (sl a11 8)).toNat < n - (intOf (sl a4 8)).toNat
        rw [show sl a11 8 = _ from s8, show sl a4 8 = _ from hmu0]
        simp only [intOf]
        omega
    · clear s9
      refine wp_exit ?_
      change Code.wp _ _ _ _ _
      refine wp_seq ?_
      refine seq_l [] hz ?_
      refine ⟨i6 (-1), fun _ h_ => rk (run_assign rfl rfl), ?_⟩
      intro a12 hput
      have s4 : sl a12 4 = i6 (-1) := hput.new 0 4 rfl
      replace hz := hput.size.trans hz
      replace hd := hput.defers.trans hd
      clear hput s0 s1 s7 s8
      change Code.wp _ _ _ _ _
      refine wp_ret ?_
      refine ret1 (P := Try.prog) (fn := Try.f79) hd s4 (hR_ _ _ ?_)
      exact ⟨by rw [idxF_none pr l k (by have := pts_len hR; omega) hc0_1], (hS4.old (by simp))⟩
/-- a router's place -/
structure SiS where
  id : Int
  ports : List PtV
  boots : Int
  r : Option RoS
def roO : Option RoP → Option RoS → Atom
  | none, none => sepA []
  | some p, some s => roA p s
  | _, _ => pureA False (sepA [])
def roE : Option RoP → Value
  | none => .pointer none
  | some p => .pointer (some ⟨p.g, 0, none⟩)
def siteA (a : Nat) (x : SiS) : Atom := exA fun v : SlP => exA fun p : Option RoP => sepA [blkA a 111 #[.int .i64 x.id, .slice v.A x.ports.length v.c, .int .i64 x.boots, roE p], rowP 99 3 PtV.cells v x.ports, roO p x.r]
section
variable {κ : Kap} {L I : List Atom} {w : World}
theorem site_open {a : Nat} {x : SiS} (h : S κ (siteA a x :: L) I w) : ∃ v p, S κ (blkA a 111 #[.int .i64 x.id, .slice v.A x.ports.length v.c, .int .i64 x.boots, roE p] :: rowP 99 3 PtV.cells v x.ports :: roO p x.r :: L) I w := by
  obtain ⟨v, h⟩ := h.ex_open
  obtain ⟨p, h⟩ := h.ex_open
  exact ⟨v, p, h.sep_open⟩
theorem site_close {a : Nat} {x : SiS} {v : SlP} {p : Option RoP} (h : S κ (blkA a 111 #[.int .i64 x.id, .slice v.A x.ports.length v.c, .int .i64 x.boots, roE p] :: rowP 99 3 PtV.cells v x.ports :: roO p x.r :: L) I w) : S κ (siteA a x :: L) I w := by
  unfold siteA
  refine S.ex_close v ?_
  refine S.ex_close p ?_
  exact S.sep_close (l := [_, _, _]) h
theorem roO_none (h : S κ L I w) : S κ (roO none none :: L) I w := S.sep_close (l := []) h
/-- what is told of a site's block, whatever else there is -/
theorem site_blk {a i : Nat} {x : SiS} (h : S κ L I w) (hi : L[i]? = some (siteA a x)) : ∃ (v : SlP) (p : Option RoP), Blk w a 111 #[.int .i64 x.id, .slice v.A x.ports.length v.c, .int .i64 x.boots, roE p] ∧ Reads w w.heap.size 3 v.A x.ports.length (rowC PtV.cells x.ports) := by
  obtain ⟨v, p, h2⟩ := site_open (h.front hi)
  exact ⟨v, p, h2.blk (i := 0) rfl, h2.rd (i := 1) rfl⟩
end
set_option maxRecDepth 100000 in
set_option maxHeartbeats 800000 in
theorem sport1_any (z : PtV) (net : Int) (g : Nat) (W : World) (hg : Blk W g 3 #[.int .i64 net]) :
    Calls Try.prog 84 #[.agg #[i6 z.lan, i6 z.prio, i6 z.cost], pt g 0] W (fun r w' => r = .returned (.bool (decide (z.lan = net))) ∧ Below W.heap.size W w') := by
  have hS := S.start W
  refine calls_walk Try.func84 rfl fun R_ hR_ a hz hd hargs => ?_
  replace hz : a.tmps.size = 8 := hz.trans (by kernel_rfl)
  have s0 := hargs 0 _ rfl
  have s1 := hargs 1 _ rfl
  clear hargs
  refine wp_seq ?_
  refine seq_l [0] hz ?_
  refine ⟨fun a_ h_ => st_box (cells := #[i6 z.lan, i6 z.prio, i6 z.cost]) hS (on_none rfl) rfl (h_.b 0 s0) (by kernel_rfl) fun g3 w3 hS3 hb3 => ⟨_, rfl, ?_⟩, trivial⟩
  clear h_ a_ hS
  clear hb3
  refine ⟨.bool false, fun _ h_ => rk (run_assign rfl rfl), ?_⟩
  intro a2 hput
  replace s1 := hput.o 1 s1
  have s2 : sl a2 2 = pt g3 0 := hput.new 0 2 rfl
  have s3 : sl a2 3 = .bool false := hput.new 1 3 rfl
  replace hz := hput.size.trans hz
  replace hd := hput.defers.trans hd
  clear hput s0
  change Code.wp _ _ _ _ _
  refine wp_seq ?_
  refine seq_l [] hz ?_
  refine ⟨pt g3 0, fun _ h_ => rk (fa 0 rfl (h_.b 2 s2)),
   i6 z.lan, fun _ h_ => rk (ld hS3 0 rfl (h_.d 0 4)),
   i6 net, fun _ h_ => rk (lb (hg.below (hS3.old (by simp)) hg.lt) rfl (h_.b 1 s1)),
   .bool (decide ((z.lan : Int) = net)), fun _ h_ => rk (run_cmp rfl (h_.d 1 5) (h_.d 2 6) rfl (by first | rfl | exact neq_dec _ _ | exact eq_dec _ _ | simp)),
   .bool (decide ((z.lan : Int) = net)), fun _ h_ => ras (h_.d 3 7), ?_⟩
  intro a4 hput
  replace s3 : sl a4 3 = .bool (decide ((z.lan : Int) = net)) := hput.new 4 3 rfl
  replace hz := hput.size.trans hz
  replace hd := hput.defers.trans hd
  clear hput s1 s2
  change Code.wp _ _ _ _ _
  refine wp_ret ?_
  refine ret1 (P := Try.prog) (fn := Try.f84) hd s3 (hR_ _ _ ?_)
  exact ⟨rfl, (hS3.old (by simp))⟩
set_option maxRecDepth 100000 in
set_option maxHeartbeats 800000 in
theorem sport_any (g : Nat) (net : Int) (x : SiS) (v : SlP) (p : Option RoP) (W : World) (hn : x.ports.length ≤ 100000) (hg : Blk W g 111 #[.int .i64 x.id, .slice v.A x.ports.length v.c, .int .i64 x.boots, roE p]) (hR : Reads W W.heap.size 3 v.A x.ports.length (rowC PtV.cells x.ports)) :
    Calls Try.prog 57 #[pt g 0, i6 net] W (fun r w' => r = .returned (.int .i64 (idxF (fun z => decide (z.lan = net)) x.ports)) ∧ Below W.heap.size W w') := by
  have hS := S.start W
  refine calls_walk Try.func57 rfl fun R_ hR_ a hz hd hargs => ?_
  replace hz : a.tmps.size = 12 := hz.trans (by kernel_rfl)
  have s0 := hargs 0 _ rfl
  have s1 := hargs 1 _ rfl
  clear hargs
  refine wp_seq ?_
  refine seq_l [0] hz ?_
  refine ⟨fun a_ h_ => st_box (cells := #[i6 net]) hS (on_none rfl) rfl (h_.b 1 s1) (by kernel_rfl) fun g3 w3 hS3 hb3 => ⟨_, rfl, ?_⟩, trivial⟩
  clear h_ a_ hS
  clear hb3
  refine ⟨i6 0, fun _ h_ => rk (run_assign rfl rfl), ?_⟩
  intro a2 hput
  replace s0 := hput.o 0 s0
  have s3 : sl a2 3 = pt g3 0 := hput.new 0 3 rfl
  have s4 : sl a2 4 = i6 0 := hput.new 1 4 rfl
  replace hz := hput.size.trans hz
  replace hd := hput.defers.trans hd
  clear hput s1
  change Code.wp _ _ _ _ _
  refine wp_seq ?_
  refine seq_l [6] hz ?_
  refine ⟨pt g 0, fun _ h_ => rmv (h_.b 0 s0),
   pt g 0, fun _ h_ => rk (run_nilCheck rfl (h_.d 0 5)),
   pt g 0, fun _ h_ => rk (fa 0 rfl (h_.d 1 6)),
   pt g 1, fun _ h_ => rk (fa 1 rfl (h_.d 2 7)),
   .slice v.A x.ports.length v.c, fun _ h_ => rk (lb (hg.below (hS3.old (by simp)) hg.lt) rfl (h_.d 3 8)),
   .func (.func 84) #[] #[pt g3 0], fun _ h_ => rk (run_makeFunc rfl (by simp) (map1 (h_.b 3 s3))), ?_⟩
  refine ⟨fun a_ h_ => st_call (on_none rfl) (run_call rfl (map2 (h_.d 4 9) (h_.d 5 10)) rfl) (indexPt_any v.A _ v.c x.ports 84 _ (fun z => decide (z.lan = net)) _ hn (Reads.old hR (hS3.old (by simp))) (fun w z hb => sport1_any z net g3 w ((hS3.blk (i := 0) rfl).below hb (hS3.blk (i := 0) rfl).lt)) (fun _ _ => by kernel_rfl)) ?_, trivial⟩
  rintro e w5 ⟨rfl, hb5⟩
  refine ⟨_, rfl, _, rfl, ?_⟩
  clear h_ a_
  have hS5 := hS3.below hb5
  clear hS3 hb5
  refine ⟨i6 (idxF (fun z => decide (z.lan = net)) x.ports), fun _ h_ => ras (h_.d 6 11), ?_⟩
  intro a4 hput
  replace s4 : sl a4 4 = i6 (idxF (fun z => decide (z.lan = net)) x.ports) := hput.new 7 4 rfl
  replace hz := hput.size.trans hz
  replace hd := hput.defers.trans hd
  clear hput s0 s3
  change Code.wp _ _ _ _ _
  refine wp_ret ?_
  refine ret1 (P := Try.prog) (fn := Try.f57) hd s4 (hR_ _ _ ?_)
  exact ⟨rfl, (hS5.old (by simp))⟩
set_option maxRecDepth 100000 in
set_option maxHeartbeats 800000 in
theorem wnew1_any (g h m1 c1 m2 c2 : Nat) (x1 x2 b1 b2 : Int) (A1 A2 : Option Addr) (r1 r2 : Value) (W : World) (hg : Blk W g 111 #[.int .i64 x1, .slice A1 m1 c1, .int .i64 b1, r1]) (hh : Blk W h 111 #[.int .i64 x2, .slice A2 m2 c2, .int .i64 b2, r2]) :
    Calls Try.prog 55 #[pt g 0, pt h 0] W (fun r w' => r = .returned (.int .i64 (cmpF x1 x2)) ∧ Below W.heap.size W w') := by
  have hS := S.start W
  refine calls_walk Try.func55 rfl fun R_ hR_ a hz hd hargs => ?_
  replace hz : a.tmps.size = 16 := hz.trans (by kernel_rfl)
  have s0 := hargs 0 _ rfl
  have s1 := hargs 1 _ rfl
  clear hargs
  refine wp_seq ?_
  refine seq_l [] hz ?_
  refine ⟨i6 0, fun _ h_ => rk (run_assign rfl rfl), ?_⟩
  intro a2 hput
  replace s0 := hput.o 0 s0
  replace s1 := hput.o 1 s1
  have s4 : sl a2 4 = i6 0 := hput.new 0 4 rfl
  replace hz := hput.size.trans hz
  replace hd := hput.defers.trans hd
  clear hput
  change Code.wp _ _ _ _ _
  refine wp_seq ?_
  refine seq_r [[], [0], [0, 1], [0, 1, 2], [0, 1, 2, 3], [], [5], [5, 6], [5, 6, 7], [5, 6, 7, 8], [0, 1, 2, 3, 4, 5, 6, 7, 8, 9], [0, 1, 2, 3, 4, 5, 6, 7, 8, 9, 10]] [10] (.rd 0 (.rd 1 (.rd 2 (.rd 3 (.rd 4 (.rd 5 (.rd 6 (.rd 7 (.rd 8 (.rd 9 (.ef 10 (.rd 11 (.fin)) .non))))))))))) hz fun w3 hb3 => ?_
  replace hS := hS.below hb3
  refine ⟨pt g 0, fun _ h_ => rmv (h_.b 0 s0),
   pt g 0, fun _ h_ => rk (run_nilCheck rfl (h_.d 0 5)),
   pt g 0, fun _ h_ => rk (fa 0 rfl (h_.d 1 6)),
   pt g 0, fun _ h_ => rk (fa 0 rfl (h_.d 2 7)),
   i6 x1, fun _ h_ => rk (lb (hg.below (hS.old (by simp)) hg.lt) rfl (h_.d 3 8)),
   pt h 0, fun _ h_ => rmv (h_.b 1 s1),
   pt h 0, fun _ h_ => rk (run_nilCheck rfl (h_.d 5 10)),
   pt h 0, fun _ h_ => rk (fa 0 rfl (h_.d 6 11)),
   pt h 0, fun _ h_ => rk (fa 0 rfl (h_.d 7 12)),
   i6 x2, fun _ h_ => rk (lb (hh.below (hS.old (by simp)) hh.lt) rfl (h_.d 8 13)), ?_⟩
  refine ⟨fun a_ h_ => st_call (on_none rfl) (run_call rfl (map2 (h_.d 4 9) (h_.d 9 14)) rfl) (compare_any x1 x2 _) ?_, trivial⟩
  rintro e w4 ⟨rfl, hb4⟩
  refine ⟨_, rfl, _, rfl, ?_⟩
  clear h_ a_
  have hS4 := hS.below hb4
  clear hS hb4
  refine ⟨i6 (cmpF x1 x2), fun _ h_ => ras (h_.d 10 15), ?_⟩
  intro a3 hput
  replace s4 : sl a3 4 = i6 (cmpF x1 x2) := hput.new 11 4 rfl
  replace hz := hput.size.trans hz
  replace hd := hput.defers.trans hd
  clear hput s0 s1
  change Code.wp _ _ _ _ _
  refine wp_ret ?_
  refine ret1 (P := Try.prog) (fn := Try.f55) hd s4 (hR_ _ _ ?_)
  exact ⟨rfl, (hS4.old (by simp))⟩
/-- a router is there anew -/
def bootF (x : SiS) : SiS := { x with boots := x.boots + 1, r := newF x.id (x.boots + 1) 40 x.ports }
/-- what a call from the first piece makes -/
theorem S.start2 {κ : Kap} {L I : List Atom} {W w' : World} {a : Atom} (h : S κ L I W) (hb : Below W.heap.size W w') (h2 : S (kap W) [a] [memA W W.heap.size] w') : S κ (a :: L) I w' := by
  obtain ⟨_, fp, ⟨f1, f2, e, hd, h1, h3⟩, hI⟩ := h2
  obtain ⟨f, ⟨hf, _, _⟩, hdis⟩ := hI _ (by simp : memA W W.heap.size ∈ [memA W W.heap.size])
  refine h.push hb h1 (fun b hb1 => ?_)
  rcases Nat.lt_or_ge b W.heap.size with hlt | hge
  · exact absurd (by rw [e]; exact List.mem_append_left _ hb1) (hdis b (by rw [hf]; exact List.mem_range.2 hlt))
  · exact hge
theorem roNew_S {κ : Kap} {L I : List Atom} (id boot room : Int) (A : Option Addr) (n c : Nat) (l : List PtV) (W : World) (hn : n ≤ 100000) (hS : S κ L I W) (hR : Reads W W.heap.size 3 A n (rowC PtV.cells l)) :
    Calls Try.prog 80 #[.int .i64 id, .int .i64 boot, .int .i64 room, .slice A n c] W (fun r w' => ∃ q, r = .returned (roE q) ∧ S κ (roO q (newF id boot room l) :: L) I w') := by
  refine (roNew_any id boot room A n c l W hn hR).mono ?_
  rintro r w2 (⟨e1, rfl, hb⟩ | ⟨s, q, e1, rfl, h2⟩)
  · exact ⟨none, rfl, by rw [e1]; exact roO_none (hS.below hb)⟩
  · exact ⟨some q, rfl, by rw [e1]; exact S.start2 hS (h2.old (by simp)) h2⟩
set_option maxRecDepth 100000 in
set_option maxHeartbeats 800000 in
theorem begin2_any {κ : Kap} {L I : List Atom} (g : Nat) (x : SiS) (W : World) (hn : x.ports.length ≤ 100000) (hbt : 0 ≤ x.boots ∧ x.boots ≤ 1000000000000) (hS : S κ ((siteA g x) :: L) (I) W) :
    Calls Try.prog 52 #[pt g 0] W (fun r w' => r = .returned (.tuple #[]) ∧ S κ (siteA g (bootF x) :: L) I w') := by
  obtain ⟨v, p, hS⟩ := site_open hS
  refine calls_walk Try.func52 rfl fun R_ hR_ a hz hd hargs => ?_
  replace hz : a.tmps.size = 27 := hz.trans (by kernel_rfl)
  have s0 := hargs 0 _ rfl
  clear hargs
  refine wp_seq ?_
  refine seq_l [7] hz ?_
  refine ⟨pt g 0, fun _ h_ => rmv (h_.b 0 s0),
   pt g 0, fun _ h_ => rk (run_nilCheck rfl (h_.d 0 2)),
   pt g 2, fun _ h_ => rk (fa 2 rfl (h_.d 1 3)),
   i6 x.boots, fun _ h_ => rk (ld hS 0 rfl (h_.d 2 4)),
   i6 (x.boots + 1), fun _ h_ => rk (run_addI rfl (h_.d 3 5) rfl (by omega) rfl),
   pt g 0, fun _ h_ => rk (run_nilCheck rfl (h_.d 0 2)),
   pt g 2, fun _ h_ => rk (fa 2 rfl (h_.d 5 7)), ?_⟩
  refine ⟨fun a_ h_ => st_store (n := 1) (cells := #[i6 (x.boots + 1)]) (cs' := #[i6 x.id, .slice v.A x.ports.length v.c, i6 (x.boots + 1), roE p]) 0 hS rfl (on_none rfl) rfl (h_.d 6 8) (h_.d 4 6) rfl (by kernel_rfl) ⟨Nat.le_of_ble_eq_true rfl, rfl, by kernel_rfl⟩ rfl fun w3 hS3 he3 => ⟨_, rfl, ?_⟩, trivial⟩
  clear h_ a_ he3 hS
  replace hS3 : S κ ((blkA g 111 #[i6 x.id, .slice v.A x.ports.length v.c, i6 (x.boots + 1), roE p]) :: (rowP 99 3 PtV.cells v x.ports) :: (roO p x.r) :: L) (I) w3 := hS3
  intro a2 hput
  replace s0 := hput.o 0 s0
  replace hz := hput.size.trans hz
  replace hd := hput.defers.trans hd
  clear hput
  change Code.wp _ _ _ _ _
  refine seq_r [[], [], [1], [1, 2], [1, 2, 3], [1, 2, 3, 4], [], [6], [6, 7], [6, 7, 8], [], [10], [10, 11], [10, 11, 12], [10, 11, 12, 13], [1, 2, 3, 4, 5, 6, 7, 8, 9, 10, 11, 12, 13, 14], [0, 1, 2, 3, 4, 5, 6, 7, 8, 9, 10, 11, 12, 13, 14, 15], [0, 1, 2, 3, 4, 5, 6, 7, 8, 9, 10, 11, 12, 13, 14, 15, 16], [0, 1, 2, 3, 4, 5, 6, 7, 8, 9, 10, 11, 12, 13, 14, 15, 16, 17]] [15, 18] (.rd 0 (.rd 1 (.rd 2 (.rd 3 (.rd 4 (.rd 5 (.rd 6 (.rd 7 (.rd 8 (.rd 9 (.rd 10 (.rd 11 (.rd 12 (.rd 13 (.rd 14 (.ef 15 (.ag 0 (.rd 16 (.rd 17 (.ef 18 (.fin) .non)))) .non)))))))))))))))) hz fun w4 hb4 => ?_
  replace hS3 := hS3.below hb4
  refine ⟨pt g 0, fun _ h_ => rmv (h_.b 0 s0),
   pt g 0, fun _ h_ => rmv (h_.b 0 s0),
   pt g 0, fun _ h_ => rk (run_nilCheck rfl (h_.d 1 10)),
   pt g 0, fun _ h_ => rk (fa 0 rfl (h_.d 2 11)),
   pt g 0, fun _ h_ => rk (fa 0 rfl (h_.d 3 12)),
   i6 x.id, fun _ h_ => rk (ld hS3 0 rfl (h_.d 4 13)),
   pt g 0, fun _ h_ => rmv (h_.b 0 s0),
   pt g 0, fun _ h_ => rk (run_nilCheck rfl (h_.d 6 15)),
   pt g 2, fun _ h_ => rk (fa 2 rfl (h_.d 7 16)),
   i6 (x.boots + 1), fun _ h_ => rk (ld hS3 0 rfl (h_.d 8 17)),
   pt g 0, fun _ h_ => rmv (h_.b 0 s0),
   pt g 0, fun _ h_ => rk (run_nilCheck rfl (h_.d 10 19)),
   pt g 0, fun _ h_ => rk (fa 0 rfl (h_.d 11 20)),
   pt g 1, fun _ h_ => rk (fa 1 rfl (h_.d 12 21)),
   .slice v.A x.ports.length v.c, fun _ h_ => rk (ld hS3 0 rfl (h_.d 13 22)), ?_⟩
  refine ⟨fun a_ h_ => st_call (on_none rfl) (run_call rfl (map4 (h_.d 5 14) (h_.d 9 18) rfl (h_.d 14 23)) rfl) (roNew_S x.id (x.boots + 1) 40 _ _ _ x.ports _ hn hS3 (S.rd (i := 1) (e := 99) hS3 rfl)) ?_, trivial⟩
  rintro e_ w5 ⟨q5, rfl, hS5⟩
  refine ⟨_, rfl, _, rfl, ?_⟩
  clear h_ a_ hS3
  refine ⟨fun _ h_ => rmv (h_.b 0 s0),
   pt g 0, fun _ h_ => rk (run_nilCheck rfl (h_.d 0 9)),
   pt g 3, fun _ h_ => rk (fa 3 rfl (h_.d 16 25)), ?_⟩
  refine ⟨fun a_ h_ => st_store (n := 1) (cells := #[roE q5]) (cs' := #[i6 x.id, .slice v.A x.ports.length v.c, i6 (x.boots + 1), roE q5]) 1 hS5 rfl (on_none rfl) rfl (h_.d 17 26) (h_.d 15 24) (show (roE q5).cells = _ by cases q5 <;> rfl) (by kernel_rfl) ⟨Nat.le_of_ble_eq_true rfl, rfl, by cases q5 <;> simp [roE, Value.oneCell']⟩ rfl fun w6 hS6 he6 => ⟨_, rfl, ?_⟩, trivial⟩
  clear h_ a_ he6 hS5
  replace hS6 : S κ ((roO q5 (newF x.id (x.boots + 1) 40 x.ports)) :: (blkA g 111 #[i6 x.id, .slice v.A x.ports.length v.c, i6 (x.boots + 1), roE q5]) :: (rowP 99 3 PtV.cells v x.ports) :: (roO p x.r) :: L) (I) w6 := hS6
  intro a4 hput
  replace hz := hput.size.trans hz
  replace hd := hput.defers.trans hd
  clear hput s0
  show bodyPost _ _ _ .ret _ _
  refine ret0 (P := Try.prog) (fn := Try.f52) hd (hR_ _ _ ?_)
  replace hS6 := hS6.front (i := 3) rfl
  replace hS6 : S κ ((roO p x.r) :: (roO q5 (newF x.id (x.boots + 1) 40 x.ports)) :: (blkA g 111 #[i6 x.id, .slice v.A x.ports.length v.c, i6 (x.boots + 1), roE q5]) :: (rowP 99 3 PtV.cells v x.ports) :: L) (I) w6 := hS6
  replace hS6 := hS6.drop
  replace hS6 := hS6.front (i := 2) rfl
  replace hS6 := hS6.front (i := 2) rfl
  replace hS6 : S κ ((blkA g 111 #[i6 x.id, .slice v.A x.ports.length v.c, i6 (x.boots + 1), roE q5]) :: (rowP 99 3 PtV.cells v x.ports) :: (roO q5 (newF x.id (x.boots + 1) 40 x.ports)) :: L) (I) w6 := hS6
  exact ⟨rfl, site_close (x := bootF x) hS6⟩
end Go.Proofs.Ytdenfgnkbfbpmaa
