/-
  script.Sites: what bytes tell.
-/
import Derived.Test.YtdenfgnkbfbpmaaSitesL
namespace Go.Proofs.Ytdenfgnkbfbpmaa
open Go.RowKit
set_option linter.unusedSimpArgs false
set_option linter.unusedVariables false

/-- ports by routers, in memory -/
def slV (v : SlP) (l : List PtV) : Value := .slice v.A l.length v.c
def rowV (v : SlP) (l : List PtV) : Atom := rowA (.slice v.A l.length v.c) 99 3 l.length (rowC PtV.cells l)
def arrA (G : Nat) (ps : List (List PtV)) : Atom := exA fun vs : List SlP => pureA (vs.length = ps.length) (sepA (blkA G 93 (List.zipWith slV vs ps).toArray :: List.zipWith rowV vs ps))
section
variable {κ : Kap} {L I : List Atom} {w : World} {G : Nat} {ps : List (List PtV)}
theorem arr_open (h : S κ (arrA G ps :: L) I w) : ∃ vs : List SlP, vs.length = ps.length ∧ S κ (blkA G 93 (List.zipWith slV vs ps).toArray :: sepA (List.zipWith rowV vs ps) :: L) I w := by
  obtain ⟨vs, h⟩ := h.ex_open
  obtain ⟨h1, h2⟩ := h.pure_open
  exact ⟨vs, h1, h2.mid1⟩
theorem arr_close {vs : List SlP} (h1 : vs.length = ps.length) (h : S κ (blkA G 93 (List.zipWith slV vs ps).toArray :: sepA (List.zipWith rowV vs ps) :: L) I w) : S κ (arrA G ps :: L) I w := by
  unfold arrA
  refine S.ex_close vs ?_
  exact S.pure_close h1 h.unmid1
end
theorem zip_at {α β γ : Type} {f : α → β → γ} {l : List α} {m : List β} {k : Nat} {a : α} {b : β} (h1 : l[k]? = some a) (h2 : m[k]? = some b) : (List.zipWith f l m)[k]? = some (f a b) := by
  rw [List.getElem?_zipWith, h1, h2]
theorem zip_set {α β γ : Type} (f : α → β → γ) : ∀ (l : List α) (m : List β) (k : Nat) (a : α) (b : β), (List.zipWith f l m).set k (f a b) = List.zipWith f (l.set k a) (m.set k b)
  | [], m, k, a, b => by simp
  | x :: l, [], k, a, b => by simp
  | x :: l, y :: m, 0, a, b => by simp
  | x :: l, y :: m, k + 1, a, b => by simp [zip_set f l m k a b]
theorem rowC_snocP (l : List PtV) (a b c : Int) : rowC PtV.cells l ++ [.int .i64 a, .int .i64 b, .int .i64 c] = rowC PtV.cells (l ++ [⟨a, b, c⟩]) := by simp [rowC, PtV.cells]
/-- what a function with a range over a function does -/
theorem calls_walkM {P : Program} {f : FuncId} {fn : Func} {c : Code} {args : Array Value} {W : World} {R0 : Ending → World → Prop} (hf : P.funcs[f]? = some fn) (hb : fn.body = some c)
    (h : ∀ (R : Ending → World → Prop), (∀ v w, R0 (.returned v) w → R (.returned v) w) → ∀ a : Act, a.tmps.size = args.size + (fn.ntmps - args.size) → a.defers = [] → (∀ i v, args[i]? = some v → a.tmps.getD i undef = v) → c.wp P (bodyPostM Fence.wide 9 P fn R) a W) : Calls P f args W R0 := by
  refine (callsIn_wide (n := 9)).1 ?_
  refine callsIn_of_wp_marks hf hb trivial ?_ rfl
  refine wpIn_wide.2 ?_
  refine h R0 (fun _ _ h => h) _ (by simp) rfl fun i v hi => ?_
  have hlt := (Array.getElem?_eq_some_iff.1 hi).1
  rw [Array.getD_eq_getD_getElem?, Array.getElem?_append_left hlt, hi]; rfl
theorem ret1M {P : Program} {fn : Func} {R : Ending → World → Prop} {a : Act} {w : World} {v : Value} {t D : Nat} (hd : a.defers = [{ target := .collected D, args := #[] }]) (hD : w.heap[D]? = some (.deferred (some []))) (s : a.tmps.getD t undef = v) (h : R (.returned v) (w.putObj D (.deferred none))) (hr : fn.results = #[.tmp t] := by kernel_rfl) : bodyPostM Fence.wide 9 P fn R .ret a w := by
  show LeavesInM _ _ _ _ _ _ _ _ _
  rw [hd]
  refine ⟨by simp, .inl ⟨_, _, rfl, run_takeDeferred hD, ?_⟩⟩
  exact ⟨_, by rw [results_tmp hr, s], h⟩
theorem byte3 {bs : List Int} {k : Nat} (h : (k + 1) * 3 ≤ bs.length) : bs[k * 3]? = some (bs.getD (k * 3) 0) ∧ bs[k * 3 + 1]? = some (bs.getD (k * 3 + 1) 0) ∧ bs[k * 3 + 2]? = some (bs.getD (k * 3 + 2) 0) := by
  have e : ∀ j, j < bs.length → bs[j]? = some (bs.getD j 0) := fun j hj => by rw [List.getD_eq_getElem?_getD, List.getElem?_eq_getElem hj]; rfl
  exact ⟨e _ (by omega), e _ (by omega), e _ (by omega)⟩
theorem u8_cell {w : World} {B b off n : Nat} {bs : List Int} (h : Reads w B 1 (some ⟨b, off, none⟩) n (u8s bs)) (hn : 0 < n) {j : Nat} {z : Int} (hj : bs[j]? = some z) : b < B ∧ w.cell? ⟨b, off + j, none⟩ = some (.int .u8 z) := by
  obtain ⟨b', o', e, hb, hc⟩ := h.2 hn
  cases e
  exact ⟨hb, hc j _ (by simp [u8s, hj])⟩
set_option maxRecDepth 100000 in
set_option maxHeartbeats 800000 in
theorem cuts2_any {κ : Kap} {L I : List Atom} (A : Option Addr) (n c : Nat) (N : Int) (W : World) (hS : S κ (L) (I) W) :
    Calls Try.prog 48 #[.slice A n c, i6 N] W (fun r w' => ∃ Bb Bn, r = .returned (.func (.func 78) #[] #[pt Bb 0, pt Bn 0]) ∧ S κ (blkA Bn 3 #[.int .i64 N] :: blkA Bb 42 #[.slice A n c] :: L) I w') := by
  refine calls_walk Try.func48 rfl fun R_ hR_ a hz hd hargs => ?_
  replace hz : a.tmps.size = 6 := hz.trans (by kernel_rfl)
  have s0 := hargs 0 _ rfl
  have s1 := hargs 1 _ rfl
  clear hargs
  refine wp_seq ?_
  refine seq_l [0, 1] hz ?_
  refine ⟨fun a_ h_ => st_box (cells := #[.slice A n c]) hS (on_none rfl) rfl (h_.b 0 s0) (by kernel_rfl) fun g3 w3 hS3 hb3 => ⟨_, rfl, ?_⟩, trivial⟩
  clear h_ a_ hS
  clear hb3
  refine ⟨fun a_ h_ => st_box (cells := #[i6 N]) hS3 (on_none rfl) rfl (h_.b 1 s1) (by kernel_rfl) fun g4 w4 hS4 hb4 => ⟨_, rfl, ?_⟩, trivial⟩
  clear h_ a_ hS3
  clear hb4
  refine ⟨.nilFunc, fun _ h_ => rk (run_assign rfl rfl), ?_⟩
  intro a2 hput
  have s2 : sl a2 2 = pt g3 0 := hput.new 0 2 rfl
  have s3 : sl a2 3 = pt g4 0 := hput.new 1 3 rfl
  have s4 : sl a2 4 = .nilFunc := hput.new 2 4 rfl
  replace hz := hput.size.trans hz
  replace hd := hput.defers.trans hd
  clear hput s0 s1
  change Code.wp _ _ _ _ _
  refine wp_seq ?_
  refine seq_l [] hz ?_
  refine ⟨.func (.func 78) #[] #[pt g3 0, pt g4 0], fun _ h_ => rk (run_makeFunc rfl (by simp) (map2 (h_.b 2 s2) (h_.b 3 s3))),
   .func (.func 78) #[] #[pt g3 0, pt g4 0], fun _ h_ => ras (h_.d 0 5), ?_⟩
  intro a5 hput
  replace s4 : sl a5 4 = .func (.func 78) #[] #[pt g3 0, pt g4 0] := hput.new 1 4 rfl
  replace hz := hput.size.trans hz
  replace hd := hput.defers.trans hd
  clear hput s2 s3
  change Code.wp _ _ _ _ _
  refine wp_ret ?_
  refine ret1 (P := Try.prog) (fn := Try.f48) hd s4 (hR_ _ _ ?_)
  exact ⟨_, _, rfl, hS4⟩
set_option maxRecDepth 100000 in
set_option maxHeartbeats 800000 in
theorem sites1_any (z : PtV) (lan : Int) (g : Nat) (W : World) (hg : Blk W g 3 #[.int .i64 lan]) :
    Calls Try.prog 50 #[.agg #[i6 z.lan, i6 z.prio, i6 z.cost], pt g 0] W (fun r w' => r = .returned (.bool (decide (z.lan = lan))) ∧ Below W.heap.size W w') := by
  have hS := S.start W
  refine calls_walk Try.func50 rfl fun R_ hR_ a hz hd hargs => ?_
  replace hz : a.tmps.size = 8 := hz.trans (by kernel_rfl)
  have s0 := hargs 0 _ rfl
  have s1 := hargs 1 _ rfl
  clear hargs
  refine wp_seq ?_
  refine seq_l [0] hz ?_
  refine ⟨fun a_ h_ => st_box (cells := #[i6 z.lan, i6 z.prio, i6 z.cost]) hS (on_none rfl) rfl (h_.b 0 s0) (by kernel_rfl) fun g3 w3 hS3 hb3 => ⟨_, rfl, ?_⟩, trivial⟩
  clear h_ a_ hS
  clear hb3
  refine ⟨.bool false, fun _ h_ => rk (run_assign rfl rfl), ?_⟩
  intro a2 hput
  replace s1 := hput.o 1 s1
  have s2 : sl a2 2 = pt g3 0 := hput.new 0 2 rfl
  have s3 : sl a2 3 = .bool false := hput.new 1 3 rfl
  replace hz := hput.size.trans hz
  replace hd := hput.defers.trans hd
  clear hput s0
  change Code.wp _ _ _ _ _
  refine wp_seq ?_
  refine seq_l [] hz ?_
  refine ⟨pt g3 0, fun _ h_ => rk (fa 0 rfl (h_.b 2 s2)),
   i6 z.lan, fun _ h_ => rk (ld hS3 0 rfl (h_.d 0 4)),
   i6 lan, fun _ h_ => rk (lb (hg.below (hS3.old (by simp)) hg.lt) rfl (h_.b 1 s1)),
   .bool (decide ((z.lan : Int) = lan)), fun _ h_ => rk (run_cmp rfl (h_.d 1 5) (h_.d 2 6) rfl (by first | rfl | exact neq_dec _ _ | exact eq_dec _ _ | simp)),
   .bool (decide ((z.lan : Int) = lan)), fun _ h_ => ras (h_.d 3 7), ?_⟩
  intro a4 hput
  replace s3 : sl a4 3 = .bool (decide ((z.lan : Int) = lan)) := hput.new 4 3 rfl
  replace hz := hput.size.trans hz
  replace hd := hput.defers.trans hd
  clear hput s1 s2
  change Code.wp _ _ _ _ _
  refine wp_ret ?_
  refine ret1 (P := Try.prog) (fn := Try.f50) hd s3 (hR_ _ _ ?_)
  exact ⟨rfl, (hS3.old (by simp))⟩
set_option maxRecDepth 100000 in
set_option maxHeartbeats 800000 in
theorem containsPt_any (A : Option Addr) (n c : Nat) (l : List PtV) (f : Nat) (cap : Array Value) (pr : PtV → Bool) (W : World) (hn : n ≤ 100000) (hR : Reads W W.heap.size 3 A n (rowC PtV.cells l)) (hcl : ∀ w z, Below W.heap.size W w → Calls Try.prog f (#[.agg (PtV.cells z).toArray] ++ cap) w fun r w' => r = .returned (.bool (pr z)) ∧ Below w.heap.size w w') (hfn : ∀ xs w, (callFunc f xs).run Try.prog w = .ok (.enter f xs) w) :
    Calls Try.prog 49 #[.slice A n c, .func (.func f) #[] cap] W (fun r w' => r = .returned (.bool (l.any pr)) ∧ Below W.heap.size W w') := by
  have hS := S.start W
  refine calls_walk Try.func49 rfl fun R_ hR_ a hz hd hargs => ?_
  replace hz : a.tmps.size = 9 := hz.trans (by kernel_rfl)
  have s0 := hargs 0 _ rfl
  have s1 := hargs 1 _ rfl
  clear hargs
  refine wp_seq ?_
  refine seq_l [] hz ?_
  refine ⟨.bool false, fun _ h_ => rk (run_assign rfl rfl), ?_⟩
  intro a2 hput
  replace s0 := hput.o 0 s0
  replace s1 := hput.o 1 s1
  have s4 : sl a2 4 = .bool false := hput.new 0 4 rfl
  replace hz := hput.size.trans hz
  replace hd := hput.defers.trans hd
  clear hput
  change Code.wp _ _ _ _ _
  refine wp_seq ?_
  refine seq_l [2] hz ?_
  refine ⟨.slice A n c, fun _ h_ => rmv (h_.b 0 s0),
   .func (.func f) #[] cap, fun _ h_ => rmv (h_.b 1 s1), ?_⟩
  refine ⟨fun a_ h_ => st_call (on_none rfl) (run_call rfl (map2 (h_.d 0 5) (h_.d 1 6)) rfl) (indexPt_any A n c l f cap pr _ hn (hR.old (hS.old (by simp))) (fun w z hb => hcl w z ((hS.old (by simp)).trans (hb.mono (hS.old (by simp)).size))) hfn) ?_, trivial⟩
  rintro e w4 ⟨rfl, hb4⟩
  refine ⟨_, rfl, _, rfl, ?_⟩
  clear h_ a_
  have hS4 := hS.below hb4
  clear hS hb4
  refine ⟨.bool (decide ((0 : Int) ≤ idxF pr l)), fun _ h_ => rk (run_cmp rfl (h_.d 2 7) rfl rfl (by first | rfl | exact neq_dec _ _ | exact eq_dec _ _ | simp)),
   .bool (decide ((0 : Int) ≤ idxF pr l)), fun _ h_ => ras (h_.d 3 8), ?_⟩
  intro a3 hput
  replace s4 : sl a3 4 = .bool (decide ((0 : Int) ≤ idxF pr l)) := hput.new 4 4 rfl
  replace hz := hput.size.trans hz
  replace hd := hput.defers.trans hd
  clear hput s0 s1
  change Code.wp _ _ _ _ _
  refine wp_ret ?_
  refine ret1 (P := Try.prog) (fn := Try.f49) hd s4 (hR_ _ _ ?_)
  exact ⟨by rw [idxF_any], (hS4.old (by simp))⟩
theorem set_same {α : Type} {l : List α} {k : Nat} {x : α} (h : l[k]? = some x) : l.set k x = l := by
  apply List.ext_getElem?
  intro j
  rw [List.getElem?_set]
  split
  · rename_i e; subst e
    rw [h, if_pos (List.getElem?_eq_some_iff.1 h).1]
  · rfl
theorem q_more {vs : List SlP} {P : List (List PtV)} {q : List (SitV × SlP)} {i : Nat} {v1 : SlP} {p1 : List PtV} {n : Int} (h : ∀ x ∈ q, ∃ j : Nat, vs[j]? = some x.2 ∧ P[j]? = some x.1.ports) (hv : vs[i]? = some v1) (hp : P[i]? = some p1) : ∀ x ∈ q ++ [(⟨n, p1⟩, v1)], ∃ j : Nat, vs[j]? = some x.2 ∧ P[j]? = some x.1.ports := by
  intro x hx
  rcases List.mem_append.1 hx with hx | hx
  · exact h x hx
  · simp at hx; subst hx; exact ⟨i, hv, hp⟩
theorem arr0 {κ : Kap} {L I : List Atom} {w : World} {G : Nat} {bs : List Int} (h : S κ (blkA G 93 #[.slice none 0 0, .slice none 0 0, .slice none 0 0, .slice none 0 0, .slice none 0 0] :: L) I w) : S κ (arrA G (portsK bs 0) :: L) I w := by
  refine arr_close (vs := [⟨none, 0⟩, ⟨none, 0⟩, ⟨none, 0⟩, ⟨none, 0⟩, ⟨none, 0⟩]) rfl ?_
  have h1 := ((((h.nilrow 99 3).nilrow 99 3).nilrow 99 3).nilrow 99 3).nilrow 99 3
  exact (S.sep_close (l := [_, _, _, _, _]) h1).perm (List.Perm.swap _ _ _)
set_option maxRecDepth 100000 in
set_option maxHeartbeats 800000 in
theorem sites_any (A : Option Addr) (n c : Nat) (bs : List Int) (W : World) (hn : n ≤ 1000) (hnc : n ≤ c) (hcap : c ≤ 9223372036854775807) (hr : Reads W W.heap.size 1 A n (u8s bs)) (hby : ∀ z ∈ bs, 0 ≤ z ∧ z < 256) :
    Calls Try.prog 14 #[.slice A n c] W (fun r w' => ∃ B m d q, r = .returned (.slice B m d) ∧ q.map (·.1) = sitesF bs ∧ w'.ownsRow W.heap.size 102 2 (.slice B m d) m (rowC sitC q) ∧ (∀ x ∈ q, Reads w' w'.heap.size 3 x.2.A x.1.ports.length (rowC PtV.cells x.1.ports)) ∧ Below W.heap.size W w') := by
  obtain ⟨b, off, hAb⟩ : ∃ b off, 0 < n → A = some ⟨b, off, none⟩ ∧ b < W.heap.size := by
    rcases Nat.eq_zero_or_pos n with h0 | h0
    · exact ⟨0, 0, fun h => absurd h (by omega)⟩
    · obtain ⟨b, off, h1, h2, _⟩ := hr.2 h0
      exact ⟨b, off, fun _ => ⟨h1, h2⟩⟩
  have hS := S.start W
  refine calls_walkM Try.func14 rfl fun R_ hR_ a hz hd hargs => ?_
  replace hz : a.tmps.size = 66 := hz.trans (by kernel_rfl)
  have s0 := hargs 0 _ rfl
  clear hargs
  refine wp_seq ?_
  refine seq_l [] hz ?_
  refine ⟨.slice none 0 0, fun _ h_ => rk (run_assign rfl rfl), ?_⟩
  intro a2 hput
  replace s0 := hput.o 0 s0
  have s2 : sl a2 2 = .slice none 0 0 := hput.new 0 2 rfl
  replace hz := hput.size.trans hz
  replace hd := hput.defers.trans hd
  clear hput
  change Code.wp _ _ _ _ _
  refine wp_seq ?_
  refine seq_l [0] hz ?_
  refine ⟨fun a_ h_ => st_alloc (cells := #[.slice none 0 0, .slice none 0 0, .slice none 0 0, .slice none 0 0, .slice none 0 0]) hS (on_none rfl) rfl (by kernel_rfl) fun g4 w4 hS4 hb4 => ⟨_, rfl, ?_⟩, trivial⟩
  clear h_ a_ hS
  clear hb4
  intro a3 hput
  replace s0 := hput.o 0 s0
  replace s2 := hput.o 2 s2
  have s3 : sl a3 3 = pt g4 0 := hput.new 0 3 rfl
  replace hz := hput.size.trans hz
  replace hd := hput.defers.trans hd
  clear hput
  change Code.wp _ _ _ _ _
  refine wp_seq ?_
  refine wp_seq ?_
  have hSg := arr0 (bs := bs) hS4
  clear hS4
  obtain ⟨G, hG⟩ : ∃ G, G = g4 := ⟨_, rfl⟩
  rw [← hG] at hSg s3
  clear hG
  replace hSg : S (kap W) ((arrA G (portsK bs 0)) :: []) ((memA W W.heap.size) :: []) w4 := hSg
  refine seq_l [1] hz ?_
  refine ⟨.slice A n c, fun _ h_ => rmv (h_.b 0 s0), ?_⟩
  have hSp := hSg
  clear hSg
  refine ⟨fun a_ h_ => st_call (on_none rfl) (run_call rfl (map2 (h_.d 0 10) rfl) rfl) (cuts2_any (κ := kap W) A n c 3 _ hSp) ?_, trivial⟩
  rintro e_ w6 ⟨Bb6, Bn6, rfl, hS6⟩
  refine ⟨_, rfl, _, rfl, ?_⟩
  clear h_ a_ hSp
  replace hS6 : S (kap W) ((blkA Bn6 3 #[i6 3]) :: (blkA Bb6 42 #[.slice A n c]) :: (arrA G (portsK bs 0)) :: []) ((memA W W.heap.size) :: []) w6 := hS6
  intro a5 hput
  replace s2 := hput.o 2 s2
  replace s3 := hput.o 3 s3
  have s11 : sl a5 11 = .func (.func 78) #[] #[pt Bb6 0, pt Bn6 0] := hput.new 1 11 rfl
  replace hz := hput.size.trans hz
  replace hd := hput.defers.trans hd
  clear hput s0
  change Code.wp _ _ _ _ _
  refine wp_block ?_
  replace hS6 := hS6.front (i := 1) rfl
  replace hS6 := hS6.front (i := 2) rfl
  replace hS6 : S (kap W) ((arrA G (portsK bs 0)) :: (blkA Bb6 42 #[.slice A n c]) :: (blkA Bn6 3 #[i6 3]) :: []) ((memA W W.heap.size) :: []) w6 := hS6
  refine wp_cuts (κ := kap W) (L := ([])) 9 Bb6 Bn6 b off n c 3 A (by omega) (by omega) hnc hcap (fun h => (hAb h).1) s11 (by rw [hz]; decide) (fun k => arrA G (portsK bs k)) hS6 (fun k a_ => a_.tmps.size = 66 ∧ a_.defers = [] ∧ sl a_ 3 = pt G 0 ∧ sl a_ 4 = .slice (some ⟨b, off + k * 3, none⟩) 3 (c - k * 3)) ?_ ?_ ?_
  · intro lp k W1 K_ a1 hz1 hd1 hp1 ho1 hK
    have hz : a1.tmps.size = 66 := hz1.trans hz
    have hd := hd1
    have sv12 : sl a1 12 = _ := hp1
    have s3v : sl a1 3 = pt G 0 := (ho1 3 (by decide)).trans s3
    clear s11
    refine seq_lIn [] hz ?_ (by rintro ⟨_, _, h⟩; exact h)
    refine ⟨_, fun _ h_ => rk (run_assign rfl (h_.b 12 sv12)), ?_⟩
    intro a2 hput
    exact hK _ ⟨hput.size.trans hz, hput.defers.trans hd, hput.o 3 s3v, hput.new 0 4 rfl⟩
  · clear hz hd s2 s3 s11 hS6
    rintro lp k W1 M a3 ⟨hz, hd, s3, s4⟩ hlk hSb
    have hk3 : k * 3 + 3 ≤ n := by omega
    obtain ⟨hA1, hbW⟩ := hAb (by omega)
    subst hA1
    have hbl : bs.length = n := u8s_of2 hr
    obtain ⟨e0, e1, e2⟩ := byte3 (bs := bs) (k := k) (by omega)
    have hc0 := (u8_cell hr (by omega) e0).2
    have hy0 := hby _ (List.mem_of_getElem? e0)
    have hc1 := (u8_cell hr (by omega) e1).2
    have hy1 := hby _ (List.mem_of_getElem? e1)
    have hc2 := (u8_cell hr (by omega) e2).2
    have hy2 := hby _ (List.mem_of_getElem? e2)
    clear e0 e1 e2
    replace hc0 : W.cell? ⟨b, off + k * 3, none⟩ = some (.int .u8 (bs.getD (k * 3) 0)) := hc0
    refine wpIn_block ?_
    refine wpIn_seq ?_
    refine seq_rIn [[], [0], [0, 1], [0, 1, 2], [0, 1, 2, 3], [], [5], [5, 6], [5, 6, 7], [5, 6, 7, 8], [5, 6, 7, 8, 9], [], [0, 1, 2, 3, 4, 11], [0, 1, 2, 3, 4, 5, 6, 7, 8, 9, 10, 11, 12]] [11, 13] (.rd 0 (.rd 1 (.rd 2 (.rd 3 (.rd 4 (.rd 5 (.rd 6 (.rd 7 (.rd 8 (.rd 9 (.rd 10 (.ef 11 (.ag 0 (.ag 1 (.ag 2 (.ag 3 (.ag 4 (.ag 5 (.ag 6 (.ag 7 (.ag 8 (.ag 9 (.ag 10 (.rd 12 (.ef 13 (.fin) .non))))))))))))) .non)))))))))))) hz fun w7 hb7 => ?_
    replace hSb := hSb.below hb7
    refine ⟨.slice (some ⟨b, off + k * 3, none⟩) 3 (c - k * 3), fun _ h_ => rmv (h_.b 4 s4),
     pt b (off + k * 3), fun _ h_ => rk (run_indexV (size := 1) rfl (h_.d 0 13) rfl rfl (by kernel_rfl) (by omega) (by simp)),
     .int .u8 (bs.getD (k * 3) 0), fun _ h_ => rk (run_load rfl (h_.d 1 14) (by kernel_rfl) (((hSb.old (by simp)).cell hbW).trans hc0)),
     i6 (bs.getD (k * 3) 0), fun _ h_ => rk (run_conv rfl (h_.d 2 15) (by kernel_rfl) (wrap_i64 (by omega)) (by kernel_rfl)),
     i6 (bs.getD (k * 3) 0 % 5), fun _ h_ => rk (run_bin rfl (h_.d 3 16) rfl (by show (pure _ : Sem Value) = pure _; exact congrArg _ (congrArg _ (Int.tmod_eq_emod_of_nonneg (by omega))))),
     .slice (some ⟨b, off + k * 3, none⟩) 3 (c - k * 3), fun _ h_ => rmv (h_.b 4 s4),
     pt b (off + k * 3), fun _ h_ => rk (run_indexV (size := 1) rfl (h_.d 5 18) rfl rfl (by kernel_rfl) (by omega) (by simp)),
     .int .u8 (bs.getD (k * 3) 0), fun _ h_ => rk (run_load rfl (h_.d 6 19) (by kernel_rfl) (((hSb.old (by simp)).cell hbW).trans hc0)),
     i6 (bs.getD (k * 3) 0), fun _ h_ => rk (run_conv rfl (h_.d 7 20) (by kernel_rfl) (wrap_i64 (by omega)) (by kernel_rfl)),
     i6 (bs.getD (k * 3) 0 / 5), fun _ h_ => rk (run_bin2 rfl (h_.d 8 21) rfl (fun _ => rfl) (fun _ => by show (pure (Value.int .i64 (IntKind.i64.wrap (Int.tdiv _ 5))) : Sem Value).run _ _ = _; rw [Int.tdiv_eq_ediv_of_nonneg (by omega), wrap_i64 (by omega)]; rfl)),
     i6 ((bs.getD (k * 3) 0 / 5) % 4), fun _ h_ => rk (run_bin rfl (h_.d 9 22) rfl (by show (pure _ : Sem Value) = pure _; exact congrArg _ (congrArg _ (Int.tmod_eq_emod_of_nonneg (by omega))))), ?_⟩
    refine ⟨fun a_ h_ => st_alloc (cells := #[i6 0]) hSb (on_none rfl) rfl (by kernel_rfl) fun g8 w8 hS8 hb8 => ⟨_, rfl, ?_⟩, trivial⟩
    clear h_ a_ hSb
    clear hb8
    refine ⟨fun _ h_ => rmv (h_.b 4 s4),
     fun _ h_ => rk (run_indexV (size := 1) rfl (h_.d 0 13) rfl rfl (by kernel_rfl) (by omega) (by simp)),
     fun _ h_ => rk (run_load rfl (h_.d 1 14) (by kernel_rfl) (((hS8.old (by simp)).cell hbW).trans hc0)),
     fun _ h_ => rk (run_conv rfl (h_.d 2 15) (by kernel_rfl) (wrap_i64 (by omega)) (by kernel_rfl)),
     fun _ h_ => rk (run_bin rfl (h_.d 3 16) rfl (by show (pure _ : Sem Value) = pure _; exact congrArg _ (congrArg _ (Int.tmod_eq_emod_of_nonneg (by omega))))),
     fun _ h_ => rmv (h_.b 4 s4),
     fun _ h_ => rk (run_indexV (size := 1) rfl (h_.d 5 18) rfl rfl (by kernel_rfl) (by omega) (by simp)),
     fun _ h_ => rk (run_load rfl (h_.d 6 19) (by kernel_rfl) (((hS8.old (by simp)).cell hbW).trans hc0)),
     fun _ h_ => rk (run_conv rfl (h_.d 7 20) (by kernel_rfl) (wrap_i64 (by omega)) (by kernel_rfl)),
     fun _ h_ => rk (run_bin2 rfl (h_.d 8 21) rfl (fun _ => rfl) (fun _ => by show (pure (Value.int .i64 (IntKind.i64.wrap (Int.tdiv _ 5))) : Sem Value).run _ _ = _; rw [Int.tdiv_eq_ediv_of_nonneg (by omega), wrap_i64 (by omega)]; rfl)),
     fun _ h_ => rk (run_bin rfl (h_.d 9 22) rfl (by show (pure _ : Sem Value) = pure _; exact congrArg _ (congrArg _ (Int.tmod_eq_emod_of_nonneg (by omega))))),
     i6 (bs.getD (k * 3) 0 % 5), fun _ h_ => ras (h_.d 4 17), ?_⟩
    refine ⟨fun a_ h_ => st_store (n := 1) (cells := #[i6 ((bs.getD (k * 3) 0 / 5) % 4)]) (cs' := #[i6 ((bs.getD (k * 3) 0 / 5) % 4)]) 0 hS8 rfl (on_none rfl) rfl (h_.d 11 6) (h_.d 10 23) rfl (by kernel_rfl) ⟨Nat.le_of_ble_eq_true rfl, rfl, by kernel_rfl⟩ rfl fun w9 hS9 he9 => ⟨_, rfl, ?_⟩, trivial⟩
    clear h_ a_ he9 hS8
    replace hS9 : S (kap W) ((blkA g8 3 #[i6 ((bs.getD (k * 3) 0 / 5) % 4)]) :: (arrA G (portsK bs k)) :: M) ((memA W W.heap.size) :: []) w9 := hS9
    intro a7 hput
    replace s3 := hput.o 3 s3
    replace s4 := hput.o 4 s4
    have s5 : sl a7 5 = i6 (bs.getD (k * 3) 0 % 5) := hput.new 12 5 rfl
    have s6 : sl a7 6 = pt g8 0 := hput.new 11 6 rfl
    replace hz := hput.size.trans hz
    replace hd := hput.defers.trans hd
    clear hput
    change Code.wpIn _ _ _ _ _ _ _
    refine wpIn_seq ?_
    refine wpIn_seq ?_
    obtain ⟨vs, hvs, hSo⟩ := arr_open (hS9.front (i := 1) rfl)
    clear hS9
    have hpl := portsK_len bs k
    have h50 := Int.emod_nonneg (bs.getD (k * 3) 0) (show (5 : Int) ≠ 0 by omega)
    have h55 := Int.emod_lt_of_pos (bs.getD (k * 3) 0) (show (0 : Int) < 5 by omega)
    obtain ⟨v0, hv0⟩ : ∃ v0, vs[(bs.getD (k * 3) 0 % 5).toNat]? = some v0 := ⟨_, List.getElem?_eq_getElem (by omega)⟩
    have hp0 : (portsK bs k)[(bs.getD (k * 3) 0 % 5).toNat]? = some ((portsK bs k).getD (bs.getD (k * 3) 0 % 5).toNat []) := getD_at _ (by omega)
    have hrow := S.sep_at (hSo.front (i := 1) rfl) (zip_at (f := rowV) hv0 hp0)
    have hrd := S.rd (i := 0) (e := 99) hrow rfl
    have hp0l : ((portsK bs k).getD (bs.getD (k * 3) 0 % 5).toNat []).length ≤ k := by rw [portsK_of bs _ (by omega)]; exact portsOf_len bs _ k
    clear hrow
    generalize hp0e : (portsK bs k).getD (bs.getD (k * 3) 0 % 5).toNat [] = p0 at hp0 hrd hp0l
    replace hSo : S (kap W) ((blkA G 93 ((List.zipWith slV vs (portsK bs k)).toArray)) :: (sepA (List.zipWith rowV vs (portsK bs k))) :: (blkA g8 3 #[i6 ((bs.getD (k * 3) 0 / 5) % 4)]) :: M) ((memA W W.heap.size) :: []) w9 := hSo
    refine seq_lIn [4] hz ?_
    refine ⟨i6 (bs.getD (k * 3) 0 % 5), fun _ h_ => rmv (h_.b 5 s5),
     pt G ((bs.getD (k * 3) 0 % 5).toNat), fun _ h_ => rk (run_indexP (n := 5) (size := 1) rfl (h_.b 3 s3) (h_.d 0 24) (by kernel_rfl) (by omega) (by omega)),
     .slice v0.A p0.length v0.c, fun _ h_ => rk (run_load rfl (h_.d 1 25) (by kernel_rfl) (((hSo.blk (i := 0) rfl).cell _).trans (by rw [List.getElem?_toArray]; exact zip_at (f := slV) hv0 hp0))),
     .func (.func 50) #[] #[pt g8 0], fun _ h_ => rk (run_makeFunc rfl (by simp) (map1 (h_.b 6 s6))), ?_⟩
    refine ⟨fun a_ h_ => st_call (on_none rfl) (run_call rfl (map2 (h_.d 2 26) (h_.d 3 27)) rfl) (containsPt_any v0.A _ v0.c p0 50 _ (fun p => decide (p.lan = bs.getD (k * 3) 0 / 5 % 4)) _ (by omega) (Reads.old hrd (Below.refl _ _)) (fun w z hb => sites1_any z (bs.getD (k * 3) 0 / 5 % 4) g8 w ((hSo.blk (i := 2) rfl).below hb (hSo.blk (i := 2) rfl).lt)) (fun _ _ => by kernel_rfl)) ?_, trivial⟩
    rintro e w11 ⟨rfl, hb11⟩
    refine ⟨_, rfl, _, rfl, ?_⟩
    clear h_ a_
    have hS11 := hSo.below hb11
    replace hrd := Reads.old hrd hb11
    clear hSo hb11
    intro a10 hput
    replace s3 := hput.o 3 s3
    replace s4 := hput.o 4 s4
    replace s5 := hput.o 5 s5
    replace s6 := hput.o 6 s6
    have s28 : sl a10 28 = .bool (p0.any (fun p => decide (p.lan = bs.getD (k * 3) 0 / 5 % 4))) := hput.new 4 28 rfl
    replace hz := hput.size.trans hz
    replace hd := hput.defers.trans hd
    clear hput
    change Code.wpIn _ _ _ _ _ _ _
    refine wpIn_cond_b s28 (fun hc28 => ?_) (fun hc28 => ?_)
    · clear s28
      refine wpIn_exit ?_
      replace hS11 := hS11.front (i := 2) rfl
      replace hS11 : S (kap W) ((blkA g8 3 #[i6 ((bs.getD (k * 3) 0 / 5) % 4)]) :: (blkA G 93 ((List.zipWith slV vs (portsK bs k)).toArray)) :: (sepA (List.zipWith rowV vs (portsK bs k))) :: M) ((memA W W.heap.size) :: []) w11 := hS11
      replace hS11 := hS11.drop
      replace hS11 := hS11.front (i := 1) rfl
      replace hS11 := hS11.front (i := 1) rfl
      replace hS11 : S (kap W) ((blkA G 93 ((List.zipWith slV vs (portsK bs k)).toArray)) :: (sepA (List.zipWith rowV vs (portsK bs k))) :: M) ((memA W W.heap.size) :: []) w11 := hS11
      have hP : portsK bs (k + 1) = portsK bs k := by simp only [portsK, stepPS]; rw [hp0e]; unfold addPt; rw [if_pos hc28]; exact set_same hp0
      exact ⟨rfl, by rw [hP]; exact arr_close hvs hS11⟩
    · clear s28
      refine wpIn_skip ?_
      change Code.wpIn _ _ _ _ _ _ _
      have hSr := S.sep_at (hS11.front (i := 1) rfl) (zip_at (f := rowV) hv0 hp0)
      clear hS11
      have hS11 : S (kap W) ((rowA (.slice v0.A p0.length v0.c) 99 3 p0.length (rowC PtV.cells p0)) :: (sepA ((List.zipWith rowV vs (portsK bs k)).eraseIdx (bs.getD (k * 3) 0 % 5).toNat)) :: (blkA G 93 ((List.zipWith slV vs (portsK bs k)).toArray)) :: (blkA g8 3 #[i6 ((bs.getD (k * 3) 0 / 5) % 4)]) :: M) ((memA W W.heap.size) :: []) w11 := hSr
      clear hSr hrd
      refine seq_rIn [[], [], [1], [1, 2], [], [], [5], [5, 6], [5, 6, 7], [5, 6, 7, 8], [], [10], [10, 11], [10, 11, 12], [10, 11, 12, 13], [10, 11, 12, 13, 14], [4, 5, 6, 7, 8, 9, 10, 11, 12, 13, 14, 15], [4, 5, 6, 7, 8, 9, 10, 11, 12, 13, 14, 15, 16], [1, 2, 3, 4, 5, 6, 7, 8, 9, 10, 11, 12, 13, 14, 15, 16, 17], [0, 1, 2, 3, 4, 5, 6, 7, 8, 9, 10, 11, 12, 13, 14, 15, 16, 17, 18], [0, 1, 2, 3, 4, 5, 6, 7, 8, 9, 10, 11, 12, 13, 14, 15, 16, 17, 18, 19]] [17, 18, 20] (.rd 0 (.rd 1 (.rd 2 (.rd 3 (.rd 4 (.rd 5 (.rd 6 (.rd 7 (.rd 8 (.rd 9 (.rd 10 (.rd 11 (.rd 12 (.rd 13 (.rd 14 (.rd 15 (.rd 16 (.ef 17 (.ag 0 (.ag 1 (.ag 2 (.ag 3 (.ef 18 (.ag 0 (.rd 19 (.ef 20 (.fin) .non))) .non))))) .non)))))))))))))))))) hz fun w12 hb12 => ?_
      replace hS11 := hS11.below hb12
      refine ⟨i6 (bs.getD (k * 3) 0 % 5), fun _ h_ => rmv (h_.b 5 s5),
       i6 (bs.getD (k * 3) 0 % 5), fun _ h_ => rmv (h_.b 5 s5),
       pt G ((bs.getD (k * 3) 0 % 5).toNat), fun _ h_ => rk (run_indexP (n := 5) (size := 1) rfl (h_.b 3 s3) (h_.d 1 30) (by kernel_rfl) (by omega) (by omega)),
       .slice v0.A p0.length v0.c, fun _ h_ => rk (run_load rfl (h_.d 2 31) (by kernel_rfl) (((hS11.blk (i := 2) rfl).cell _).trans (by rw [List.getElem?_toArray]; exact zip_at (f := slV) hv0 hp0))),
       i6 ((bs.getD (k * 3) 0 / 5) % 4), fun _ h_ => rk (ld hS11 3 rfl (h_.b 6 s6)),
       .slice (some ⟨b, off + k * 3, none⟩) 3 (c - k * 3), fun _ h_ => rmv (h_.b 4 s4),
       pt b (off + k * 3 + 1), fun _ h_ => rk (run_indexV (size := 1) rfl (h_.d 5 34) rfl rfl (by kernel_rfl) (by omega) (by simp)),
       .int .u8 (bs.getD (k * 3 + 1) 0), fun _ h_ => rk (run_load rfl (h_.d 6 35) (by kernel_rfl) ((((hS11.old (by simp)).cell hbW).trans (by rw [Nat.add_assoc]; exact hc1)))),
       i6 (bs.getD (k * 3 + 1) 0), fun _ h_ => rk (run_conv rfl (h_.d 7 36) (by kernel_rfl) (wrap_i64 (by omega)) (by kernel_rfl)),
       i6 (bs.getD (k * 3 + 1) 0 % 3), fun _ h_ => rk (run_bin rfl (h_.d 8 37) rfl (by show (pure _ : Sem Value) = pure _; exact congrArg _ (congrArg _ (Int.tmod_eq_emod_of_nonneg (by omega))))),
       .slice (some ⟨b, off + k * 3, none⟩) 3 (c - k * 3), fun _ h_ => rmv (h_.b 4 s4),
       pt b (off + k * 3 + 2), fun _ h_ => rk (run_indexV (size := 1) rfl (h_.d 10 39) rfl rfl (by kernel_rfl) (by omega) (by simp)),
       .int .u8 (bs.getD (k * 3 + 2) 0), fun _ h_ => rk (run_load rfl (h_.d 11 40) (by kernel_rfl) ((((hS11.old (by simp)).cell hbW).trans (by rw [Nat.add_assoc]; exact hc2)))),
       i6 (bs.getD (k * 3 + 2) 0), fun _ h_ => rk (run_conv rfl (h_.d 12 41) (by kernel_rfl) (wrap_i64 (by omega)) (by kernel_rfl)),
       i6 (bs.getD (k * 3 + 2) 0 % 100), fun _ h_ => rk (run_bin rfl (h_.d 13 42) rfl (by show (pure _ : Sem Value) = pure _; exact congrArg _ (congrArg _ (Int.tmod_eq_emod_of_nonneg (by omega))))),
       i6 (1 + (bs.getD (k * 3 + 2) 0 % 100)), fun _ h_ => rk (run_addI rfl rfl (h_.d 14 43) (by omega) rfl),
       .agg #[i6 ((bs.getD (k * 3) 0 / 5) % 4), i6 (bs.getD (k * 3 + 1) 0 % 3), i6 (1 + (bs.getD (k * 3 + 2) 0 % 100))], fun _ h_ => rk (run_build (vals := #[(0, i6 ((bs.getD (k * 3) 0 / 5) % 4)), (1, i6 (bs.getD (k * 3 + 1) 0 % 3)), (2, i6 (1 + (bs.getD (k * 3 + 2) 0 % 100)))]) (r := .agg #[i6 ((bs.getD (k * 3) 0 / 5) % 4), i6 (bs.getD (k * 3 + 1) 0 % 3), i6 (1 + (bs.getD (k * 3 + 2) 0 % 100))]) rfl (bp3 (h_.d 4 33) (h_.d 9 38) (h_.d 15 44)) (by kernel_rfl)), ?_⟩
      refine ⟨fun a_ h_ => st_lit (e := 99) (vals := [(0, .agg #[i6 ((bs.getD (k * 3) 0 / 5) % 4), i6 (bs.getD (k * 3 + 1) 0 % 3), i6 (1 + (bs.getD (k * 3 + 2) 0 % 100))])]) (cells := #[i6 ((bs.getD (k * 3) 0 / 5) % 4), i6 (bs.getD (k * 3 + 1) 0 % 3), i6 (1 + (bs.getD (k * 3 + 2) 0 % 100))]) hS11 (on_none rfl) rfl (parts1 (h_.d 16 45)) fun g13 w13 hS13 hb13 => ⟨_, rfl, ?_⟩, trivial⟩
      clear h_ a_ hS11
      clear hb13
      refine ⟨fun _ h_ => rmv (h_.b 5 s5),
       fun _ h_ => rmv (h_.b 5 s5),
       fun _ h_ => rk (run_indexP (n := 5) (size := 1) rfl (h_.b 3 s3) (h_.d 1 30) (by kernel_rfl) (by omega) (by omega)),
       fun _ h_ => rk (run_load rfl (h_.d 2 31) (by kernel_rfl) (((hS13.blk (i := 3) rfl).cell _).trans (by rw [List.getElem?_toArray]; exact zip_at (f := slV) hv0 hp0))), ?_⟩
      refine ⟨fun a_ h_ => sap (bytes := 24) (news := [i6 ((bs.getD (k * 3) 0 / 5) % 4), i6 (bs.getD (k * 3 + 1) 0 % 3), i6 (1 + (bs.getD (k * 3 + 2) 0 % 100))]) hS13 1 (on_none rfl) rfl (h_.d 3 32) (h_.d 17 46) (reads_blk (hS13.blk (i := 0) rfl) rfl) (by simp [Value.oneCell']) (by (try unfold maxLen); omega) (by (try unfold maxLen); omega) fun A14 c14 w14 hS14 => ⟨_, rfl, ?_⟩, trivial⟩
      clear h_ a_ hS13
      replace hS14 : S (kap W) ((blkA g13 99 #[i6 ((bs.getD (k * 3) 0 / 5) % 4), i6 (bs.getD (k * 3 + 1) 0 % 3), i6 (1 + (bs.getD (k * 3 + 2) 0 % 100))]) :: (rowA (.slice A14 (p0.length + 1) c14) 99 3 (p0.length + 1) (rowC PtV.cells p0 ++ [i6 ((bs.getD (k * 3) 0 / 5) % 4), i6 (bs.getD (k * 3 + 1) 0 % 3), i6 (1 + (bs.getD (k * 3 + 2) 0 % 100))])) :: (sepA ((List.zipWith rowV vs (portsK bs k)).eraseIdx (bs.getD (k * 3) 0 % 5).toNat)) :: (blkA G 93 ((List.zipWith slV vs (portsK bs k)).toArray)) :: (blkA g8 3 #[i6 ((bs.getD (k * 3) 0 / 5) % 4)]) :: M) ((memA W W.heap.size) :: []) w14 := hS14
      refine ⟨fun _ h_ => rmv (h_.b 5 s5),
       pt G ((bs.getD (k * 3) 0 % 5).toNat), fun _ h_ => rk (run_indexP (n := 5) (size := 1) rfl (h_.b 3 s3) (h_.d 0 29) (by kernel_rfl) (by omega) (by omega)), ?_⟩
      refine ⟨fun a_ h_ => st_set1 (k := (bs.getD (k * 3) 0 % 5).toNat) (u := .slice A14 (p0.length + 1) c14) 3 hS14 rfl (on_none rfl) rfl (h_.d 19 48) (h_.d 18 47) rfl (by kernel_rfl) (by rw [List.size_toArray, List.length_zipWith]; omega) rfl fun w15 hS15 _ => ⟨_, rfl, ?_⟩, trivial⟩
      clear h_ a_ hS14
      replace hS15 : S (kap W) ((blkA g13 99 #[i6 ((bs.getD (k * 3) 0 / 5) % 4), i6 (bs.getD (k * 3 + 1) 0 % 3), i6 (1 + (bs.getD (k * 3 + 2) 0 % 100))]) :: (rowA (.slice A14 (p0.length + 1) c14) 99 3 (p0.length + 1) (rowC PtV.cells p0 ++ [i6 ((bs.getD (k * 3) 0 / 5) % 4), i6 (bs.getD (k * 3 + 1) 0 % 3), i6 (1 + (bs.getD (k * 3 + 2) 0 % 100))])) :: (sepA ((List.zipWith rowV vs (portsK bs k)).eraseIdx (bs.getD (k * 3) 0 % 5).toNat)) :: (blkA G 93 ((List.zipWith slV vs (portsK bs k)).toArray.setIfInBounds (bs.getD (k * 3) 0 % 5).toNat (.slice A14 (p0.length + 1) c14))) :: (blkA g8 3 #[i6 ((bs.getD (k * 3) 0 / 5) % 4)]) :: M) ((memA W W.heap.size) :: []) w15 := hS15
      intro a12 hput
      replace hz := hput.size.trans hz
      replace hd := hput.defers.trans hd
      clear hput s3 s4 s5 s6
      replace hS15 := hS15.front (i := 4) rfl
      replace hS15 := hS15.front (i := 1) rfl
      replace hS15 : S (kap W) ((blkA g13 99 #[i6 ((bs.getD (k * 3) 0 / 5) % 4), i6 (bs.getD (k * 3 + 1) 0 % 3), i6 (1 + (bs.getD (k * 3 + 2) 0 % 100))]) :: (blkA g8 3 #[i6 ((bs.getD (k * 3) 0 / 5) % 4)]) :: (rowA (.slice A14 (p0.length + 1) c14) 99 3 (p0.length + 1) (rowC PtV.cells p0 ++ [i6 ((bs.getD (k * 3) 0 / 5) % 4), i6 (bs.getD (k * 3 + 1) 0 % 3), i6 (1 + (bs.getD (k * 3 + 2) 0 % 100))])) :: (sepA ((List.zipWith rowV vs (portsK bs k)).eraseIdx (bs.getD (k * 3) 0 % 5).toNat)) :: (blkA G 93 ((List.zipWith slV vs (portsK bs k)).toArray.setIfInBounds (bs.getD (k * 3) 0 % 5).toNat (.slice A14 (p0.length + 1) c14))) :: M) ((memA W W.heap.size) :: []) w15 := hS15
      replace hS15 := hS15.drop.drop
      replace hS15 := hS15.front (i := 2) rfl
      replace hS15 := hS15.front (i := 2) rfl
      replace hS15 := hS15.front (i := 2) rfl
      replace hS15 : S (kap W) ((rowA (.slice A14 (p0.length + 1) c14) 99 3 (p0.length + 1) (rowC PtV.cells p0 ++ [i6 ((bs.getD (k * 3) 0 / 5) % 4), i6 (bs.getD (k * 3 + 1) 0 % 3), i6 (1 + (bs.getD (k * 3 + 2) 0 % 100))])) :: (sepA ((List.zipWith rowV vs (portsK bs k)).eraseIdx (bs.getD (k * 3) 0 % 5).toNat)) :: (blkA G 93 ((List.zipWith slV vs (portsK bs k)).toArray.setIfInBounds (bs.getD (k * 3) 0 % 5).toNat (.slice A14 (p0.length + 1) c14))) :: M) ((memA W W.heap.size) :: []) w15 := hS15
      have he : addPt p0 (bs.getD (k * 3) 0) (bs.getD (k * 3 + 1) 0) (bs.getD (k * 3 + 2) 0) = p0 ++ [⟨bs.getD (k * 3) 0 / 5 % 4, bs.getD (k * 3 + 1) 0 % 3, 1 + bs.getD (k * 3 + 2) 0 % 100⟩] := by unfold addPt; rw [if_neg (by rw [hc28]; simp)]
      have hP : portsK bs (k + 1) = (portsK bs k).set (bs.getD (k * 3) 0 % 5).toNat (p0 ++ [⟨bs.getD (k * 3) 0 / 5 % 4, bs.getD (k * 3 + 1) 0 % 3, 1 + bs.getD (k * 3 + 2) 0 % 100⟩]) := by simp only [portsK, stepPS]; rw [hp0e, he]
      rw [rowC_snocP] at hS15
      have hq1 := S.sep_put (c := rowV ⟨A14, c14⟩ (p0 ++ [⟨bs.getD (k * 3) 0 / 5 % 4, bs.getD (k * 3 + 1) 0 % 3, 1 + bs.getD (k * 3 + 2) 0 % 100⟩])) (by unfold rowV; rw [show (p0 ++ [(⟨bs.getD (k * 3) 0 / 5 % 4, bs.getD (k * 3 + 1) 0 % 3, 1 + bs.getD (k * 3 + 2) 0 % 100⟩ : PtV)]).length = p0.length + 1 from by simp]; exact hS15) (zip_at (f := rowV) hv0 hp0)
      rw [zip_set] at hq1
      have hq2 := hq1.front (i := 1) rfl
      have hq3 : (List.zipWith slV vs (portsK bs k)).toArray.setIfInBounds (bs.getD (k * 3) 0 % 5).toNat (.slice A14 (p0.length + 1) c14) = (List.zipWith slV (vs.set (bs.getD (k * 3) 0 % 5).toNat ⟨A14, c14⟩) ((portsK bs k).set (bs.getD (k * 3) 0 % 5).toNat (p0 ++ [⟨bs.getD (k * 3) 0 / 5 % 4, bs.getD (k * 3 + 1) 0 % 3, 1 + bs.getD (k * 3 + 2) 0 % 100⟩]))).toArray := by rw [← zip_set]; simp [slV]
      rw [hq3] at hq2
      exact ⟨rfl, by rw [hP]; exact arr_close (by simp [hvs]) hq2⟩
  · intro D k W1 hk1 hk2 hSd
    have hz2 := hz
    clear hz
    generalize ha2 : ({ a5 with defers := { target := .collected D, args := #[] } :: a5.defers } : Act) = a9
    have hz : a9.tmps.size = 66 := by rw [← ha2]; exact hz2
    have hdm : a9.defers = [{ target := .collected D, args := #[] }] := by rw [← ha2, ← hd]
    replace hd := hdm
    clear hdm
    replace s2 : sl a9 2 = .slice none 0 0 := by rw [← ha2]; exact s2
    replace s3 : sl a9 3 = pt G 0 := by rw [← ha2]; exact s3
    replace s11 : sl a9 11 = .func (.func 78) #[] #[pt Bb6 0, pt Bn6 0] := by rw [← ha2]; exact s11
    clear ha2 hz2
    obtain rfl : n / 3 = k := by omega
    replace hSd : S (kap W) ((arrA G (portsK bs (n / 3))) :: (objA D (.deferred (some []))) :: []) ((memA W W.heap.size) :: []) W1 := hSd
    change Code.wp _ _ _ _ _
    refine wp_seq ?_
    refine seq_l [] hz ?_
    refine ⟨.slice none 0 0, fun _ h_ => rk (run_assign rfl rfl), ?_⟩
    intro a16 hput
    replace s2 := hput.o 2 s2
    replace s3 := hput.o 3 s3
    have s7 : sl a16 7 = .slice none 0 0 := hput.new 0 7 rfl
    replace hz := hput.size.trans hz
    replace hd := hput.defers.trans hd
    clear hput s11
    change Code.wp _ _ _ _ _
    refine wp_seq ?_
    refine wp_seq ?_
    obtain ⟨vs, hvs, hSo⟩ := arr_open (hSd.front (i := 0) rfl)
    clear hSd
    have hpl := portsK_len bs (n / 3)
    replace hSo : S (kap W) ((blkA G 93 ((List.zipWith slV vs (portsK bs (n / 3))).toArray)) :: (sepA (List.zipWith rowV vs (portsK bs (n / 3)))) :: (objA D (.deferred (some []))) :: []) ((memA W W.heap.size) :: []) W1 := hSo
    refine seq_l [] hz ?_
    refine ⟨.agg (List.zipWith slV vs (portsK bs (n / 3))).toArray, fun _ h_ => rk (run_loadAV (m := 0) (n := 5) rfl (h_.b 3 s3) (by kernel_rfl) (by rw [List.length_zipWith]; omega) (fun j u hj => by rw [Nat.zero_add, (hSo.blk (i := 0) rfl).cell]; simpa using hj)),
     i6 0, fun _ h_ => rk (run_move rfl rfl), ?_⟩
    intro a17 hput
    replace s2 := hput.o 2 s2
    replace s7 := hput.o 7 s7
    have s49 : sl a17 49 = .agg (List.zipWith slV vs (portsK bs (n / 3))).toArray := hput.new 0 49 rfl
    have s50 : sl a17 50 = i6 0 := hput.new 1 50 rfl
    replace hz := hput.size.trans hz
    replace hd := hput.defers.trans hd
    clear hput s3
    change Code.wp _ _ _ _ _
    refine wp_block ?_
    refine wp_loop (fun a_ w_ => ∃ i : Nat, ∃ m : Nat, ∃ B : Option Addr, ∃ d : Nat, ∃ q : List (SitV × SlP), (i ≤ 5) ∧ (q.map (·.1) = sitesU (portsK bs (n / 3)) i) ∧ (m ≤ i) ∧ (∀ x ∈ q, ∃ j : Nat, vs[j]? = some x.2 ∧ (portsK bs (n / 3))[j]? = some x.1.ports) ∧ a_.tmps.size = 66 ∧ a_.defers = [{ target := .collected D, args := #[] }] ∧ sl a_ 2 = .slice none 0 0 ∧ sl a_ 7 = .slice B m d ∧ sl a_ 49 = .agg (List.zipWith slV vs (portsK bs (n / 3))).toArray ∧ sl a_ 50 = i6 i ∧ S (kap W) ((rowA (.slice B m d) 102 2 m (rowC sitC q)) :: (blkA G 93 ((List.zipWith slV vs (portsK bs (n / 3))).toArray)) :: (sepA (List.zipWith rowV vs (portsK bs (n / 3)))) :: (objA D (.deferred (some []))) :: []) ((memA W W.heap.size) :: []) w_) (fun a_ _ => 5 - (intOf (sl a_ 50)).toNat) ?_ ?_
    · have hSn4 := hSo.nilrow 102 2
      exact ⟨0, 0, none, 0, [], Nat.zero_le _, rfl, Nat.le_refl _, (fun x hx => by cases hx), hz, hd, s2, s7, s49, s50, hSn4⟩
    · clear hz hd s2 s7 s49 s50 hSo
      rintro a18 w18 ⟨i, m, B, d, q, hc2_0, hc2_1, hc2_2, hc2_3, hz, hd, s2, s7, s49, s50, hS18⟩
      have hmu2 := s50
      refine wp_seq ?_
      refine seq_l [] hz ?_
      refine ⟨.bool (decide ((i : Int) < 5)), fun _ h_ => rk (run_cmp rfl (h_.b 50 s50) rfl rfl (by first | rfl | exact neq_dec _ _ | exact eq_dec _ _ | simp)), ?_⟩
      intro a19 hput
      replace s2 := hput.o 2 s2
      replace s7 := hput.o 7 s7
      replace s49 := hput.o 49 s49
      replace s50 := hput.o 50 s50
      have s51 : sl a19 51 = .bool (decide ((i : Int) < 5)) := hput.new 0 51 rfl
      replace hz := hput.size.trans hz
      replace hd := hput.defers.trans hd
      clear hput
      change Code.wp _ _ _ _ _
      refine wp_seq ?_
      refine wp_cond_d s51 (fun hc51 => ?_) (fun hc51 => ?_)
      · clear s51
        refine wp_skip ?_
        change Code.wp _ _ _ _ _
        refine wp_seq ?_
        refine wp_block ?_
        refine wp_seq ?_
        refine seq_l [] hz ?_
        refine ⟨i6 i, fun _ h_ => rmv (h_.b 50 s50), ?_⟩
        obtain ⟨v1, hv1⟩ : ∃ v1, vs[i]? = some v1 := ⟨_, List.getElem?_eq_getElem (by omega)⟩
        obtain ⟨p1, hp1⟩ : ∃ p1, (portsK bs (n / 3))[i]? = some p1 := ⟨_, List.getElem?_eq_getElem (by omega)⟩
        have hp1d : (portsK bs (n / 3)).getD i [] = p1 := by rw [List.getD_eq_getElem?_getD, hp1]; rfl
        refine ⟨.slice v1.A p1.length v1.c, fun _ h_ => rk (run_indexA (n := 5) (e := 92) rfl (h_.b 49 s49) (h_.b 50 s50) (by kernel_rfl) (by kernel_rfl) (by kernel_rfl) (by omega) (show (List.zipWith slV vs (portsK bs (n / 3))).toArray[((i : Int)).toNat]? = some (.slice v1.A p1.length v1.c) by rw [Int.toNat_natCast, List.getElem?_toArray]; exact zip_at (f := slV) hv1 hp1)),
         i6 i, fun _ h_ => ras (h_.d 0 52),
         .slice v1.A p1.length v1.c, fun _ h_ => ras (h_.d 1 53), ?_⟩
        intro a20 hput
        replace s2 := hput.o 2 s2
        replace s7 := hput.o 7 s7
        have s8 : sl a20 8 = i6 i := hput.new 2 8 rfl
        have s9 : sl a20 9 = .slice v1.A p1.length v1.c := hput.new 3 9 rfl
        replace s49 := hput.o 49 s49
        replace s50 := hput.o 50 s50
        have s52 : sl a20 52 = i6 i := hput.new 0 52 rfl
        have s53 : sl a20 53 = .slice v1.A p1.length v1.c := hput.new 1 53 rfl
        replace hz := hput.size.trans hz
        replace hd := hput.defers.trans hd
        clear hput
        change Code.wp _ _ _ _ _
        refine wp_seq ?_
        refine seq_l [] hz ?_
        refine ⟨.slice v1.A p1.length v1.c, fun _ h_ => rmv (h_.b 9 s9),
         i6 p1.length, fun _ h_ => rk (run_lenS rfl (h_.d 0 54) (by kernel_rfl)),
         .bool (decide ((0 : Int) < p1.length)), fun _ h_ => rk (run_cmp rfl (h_.d 1 55) rfl rfl (by first | rfl | exact neq_dec _ _ | exact eq_dec _ _ | simp)), ?_⟩
        intro a21 hput
        replace s2 := hput.o 2 s2
        replace s7 := hput.o 7 s7
        replace s8 := hput.o 8 s8
        replace s9 := hput.o 9 s9
        replace s49 := hput.o 49 s49
        replace s50 := hput.o 50 s50
        replace s52 := hput.o 52 s52
        replace s53 := hput.o 53 s53
        have s54 : sl a21 54 = .slice v1.A p1.length v1.c := hput.new 0 54 rfl
        have s55 : sl a21 55 = i6 p1.length := hput.new 1 55 rfl
        have s56 : sl a21 56 = .bool (decide ((0 : Int) < p1.length)) := hput.new 2 56 rfl
        replace hz := hput.size.trans hz
        replace hd := hput.defers.trans hd
        clear hput
        change Code.wp _ _ _ _ _
        refine wp_cond_d s56 (fun hc56 => ?_) (fun hc56 => ?_)
        · clear s56
          refine seq_l [5, 6] hz ?_
          refine ⟨.slice B m d, fun _ h_ => rmv (h_.b 7 s7),
           i6 i, fun _ h_ => rmv (h_.b 8 s8),
           i6 (i + 1), fun _ h_ => rk (run_addI rfl (h_.d 1 58) rfl (by omega) rfl),
           .slice v1.A p1.length v1.c, fun _ h_ => rmv (h_.b 9 s9),
           .agg #[i6 (i + 1), .slice v1.A p1.length v1.c], fun _ h_ => rk (run_build (vals := #[(0, i6 (i + 1)), (1, .slice v1.A p1.length v1.c)]) (r := .agg #[i6 (i + 1), .slice v1.A p1.length v1.c]) rfl (bp2 (h_.d 2 59) (h_.d 3 60)) (by kernel_rfl)), ?_⟩
          refine ⟨fun a_ h_ => st_lit (e := 102) (vals := [(0, .agg #[i6 (i + 1), .slice v1.A p1.length v1.c])]) (cells := #[i6 (i + 1), .slice v1.A p1.length v1.c]) hS18 (on_none rfl) rfl (parts1 (h_.d 4 61)) fun g23 w23 hS23 hb23 => ⟨_, rfl, ?_⟩, trivial⟩
          clear h_ a_ hS18
          clear hb23
          refine ⟨fun a_ h_ => sap (bytes := 32) (news := [i6 (i + 1), .slice v1.A p1.length v1.c]) hS23 1 (on_none rfl) rfl (h_.d 0 57) (h_.d 5 62) (reads_blk (hS23.blk (i := 0) rfl) rfl) (by simp [Value.oneCell']) (by (try unfold maxLen); omega) (by (try unfold maxLen); omega) fun A24 c24 w24 hS24 => ⟨_, rfl, ?_⟩, trivial⟩
          clear h_ a_ hS23
          replace hS24 : S (kap W) ((blkA g23 102 #[i6 (i + 1), .slice v1.A p1.length v1.c]) :: (rowA (.slice A24 (m + 1) c24) 102 2 (m + 1) (rowC sitC q ++ [i6 (i + 1), .slice v1.A p1.length v1.c])) :: (blkA G 93 ((List.zipWith slV vs (portsK bs (n / 3))).toArray)) :: (sepA (List.zipWith rowV vs (portsK bs (n / 3)))) :: (objA D (.deferred (some []))) :: []) ((memA W W.heap.size) :: []) w24 := hS24
          refine ⟨.slice A24 (m + 1) c24, fun _ h_ => ras (h_.d 6 63), ?_⟩
          intro a22 hput
          replace s2 := hput.o 2 s2
          replace s7 : sl a22 7 = .slice A24 (m + 1) c24 := hput.new 7 7 rfl
          replace s8 := hput.o 8 s8
          replace s9 := hput.o 9 s9
          replace s49 := hput.o 49 s49
          replace s50 := hput.o 50 s50
          replace s52 := hput.o 52 s52
          replace s53 := hput.o 53 s53
          replace s54 := hput.o 54 s54
          replace s55 := hput.o 55 s55
          have s57 : sl a22 57 = .slice B m d := hput.new 0 57 rfl
          have s58 : sl a22 58 = i6 i := hput.new 1 58 rfl
          have s59 : sl a22 59 = i6 (i + 1) := hput.new 2 59 rfl
          have s60 : sl a22 60 = .slice v1.A p1.length v1.c := hput.new 3 60 rfl
          have s61 : sl a22 61 = .agg #[i6 (i + 1), .slice v1.A p1.length v1.c] := hput.new 4 61 rfl
          have s62 : sl a22 62 = .slice (some ⟨g23, 0, none⟩) 1 1 := hput.new 5 62 rfl
          have s63 : sl a22 63 = .slice A24 (m + 1) c24 := hput.new 6 63 rfl
          replace hz := hput.size.trans hz
          replace hd := hput.defers.trans hd
          clear hput
          change Code.wp _ _ _ _ _
          refine seq_l [] hz ?_
          refine ⟨i6 (i + 1), fun _ h_ => rk (run_addI rfl (h_.b 50 s50) rfl (by omega) rfl),
           i6 (i + 1), fun _ h_ => rmv (h_.d 0 64), ?_⟩
          intro a25 hput
          replace s2 := hput.o 2 s2
          replace s7 := hput.o 7 s7
          replace s8 := hput.o 8 s8
          replace s9 := hput.o 9 s9
          replace s49 := hput.o 49 s49
          replace s50 : sl a25 50 = i6 (i + 1) := hput.new 1 50 rfl
          replace s52 := hput.o 52 s52
          replace s53 := hput.o 53 s53
          replace s54 := hput.o 54 s54
          replace s55 := hput.o 55 s55
          replace s57 := hput.o 57 s57
          replace s58 := hput.o 58 s58
          replace s59 := hput.o 59 s59
          replace s60 := hput.o 60 s60
          replace s61 := hput.o 61 s61
          replace s62 := hput.o 62 s62
          replace s63 := hput.o 63 s63
          have s64 : sl a25 64 = i6 (i + 1) := hput.new 0 64 rfl
          replace hz := hput.size.trans hz
          replace hd := hput.defers.trans hd
          clear hput
          replace hS24 := hS24.drop
          replace hS24 := hS24.front (i := 3) rfl
          replace hS24 := hS24.front (i := 3) rfl
          replace hS24 := hS24.front (i := 3) rfl
          replace hS24 := hS24.front (i := 3) rfl
          replace hS24 : S (kap W) ((rowA (.slice A24 (m + 1) c24) 102 2 (m + 1) (rowC sitC q ++ [i6 (i + 1), .slice v1.A p1.length v1.c])) :: (blkA G 93 ((List.zipWith slV vs (portsK bs (n / 3))).toArray)) :: (sepA (List.zipWith rowV vs (portsK bs (n / 3)))) :: (objA D (.deferred (some []))) :: []) ((memA W W.heap.size) :: []) w24 := hS24
          replace hS24 : S (kap W) ((rowA (.slice A24 (m + 1) c24) 102 2 (m + 1) (rowC sitC (q ++ [(⟨(i : Int) + 1, p1⟩, v1)]))) :: (blkA G 93 ((List.zipWith slV vs (portsK bs (n / 3))).toArray)) :: (sepA (List.zipWith rowV vs (portsK bs (n / 3)))) :: (objA D (.deferred (some []))) :: []) ((memA W W.heap.size) :: []) w24 := by rw [← rowC_snoc sitC q (⟨(i : Int) + 1, p1⟩, v1)]; exact hS24
          refine ⟨⟨i + 1, _, _, _, q ++ [(⟨(i : Int) + 1, p1⟩, v1)], by omega, by rw [List.map_append, hc2_1]; show _ = sitesU (portsK bs (n / 3)) i ++ siteI (portsK bs (n / 3)) i; unfold siteI; rw [hp1d, if_pos (by omega)]; rfl, by omega, q_more hc2_3 hv1 hp1, hz, hd, s2, s7, s49, s50, hS24⟩, ?_⟩
          show 5 - (intOf (sl a25 50)).toNat < 5 - (intOf (sl a18 50)).toNat
          rw [show sl a25 50 = _ from s50, show sl a18 50 = _ from hmu2]
          simp only [intOf]
          omega
        · clear s56
          refine wp_skip ?_
          change Code.wp _ _ _ _ _
          refine seq_l [] hz ?_
          refine ⟨i6 (i + 1), fun _ h_ => rk (run_addI rfl (h_.b 50 s50) rfl (by omega) rfl),
           i6 (i + 1), fun _ h_ => rmv (h_.d 0 64), ?_⟩
          intro a26 hput
          replace s2 := hput.o 2 s2
          replace s7 := hput.o 7 s7
          replace s8 := hput.o 8 s8
          replace s9 := hput.o 9 s9
          replace s49 := hput.o 49 s49
          replace s50 : sl a26 50 = i6 (i + 1) := hput.new 1 50 rfl
          replace s52 := hput.o 52 s52
          replace s53 := hput.o 53 s53
          replace s54 := hput.o 54 s54
          replace s55 := hput.o 55 s55
          have s64 : sl a26 64 = i6 (i + 1) := hput.new 0 64 rfl
          replace hz := hput.size.trans hz
          replace hd := hput.defers.trans hd
          clear hput
          replace hS18 := hS18.front (i := 3) rfl
          replace hS18 := hS18.front (i := 3) rfl
          replace hS18 := hS18.front (i := 3) rfl
          replace hS18 := hS18.front (i := 3) rfl
          replace hS18 : S (kap W) ((rowA (.slice B m d) 102 2 m (rowC sitC q)) :: (blkA G 93 ((List.zipWith slV vs (portsK bs (n / 3))).toArray)) :: (sepA (List.zipWith rowV vs (portsK bs (n / 3)))) :: (objA D (.deferred (some []))) :: []) ((memA W W.heap.size) :: []) w18 := hS18
          refine ⟨⟨i + 1, _, _, _, _, by omega, by rw [hc2_1]; show _ = sitesU (portsK bs (n / 3)) i ++ siteI (portsK bs (n / 3)) i; unfold siteI; rw [hp1d, if_neg (by omega)]; simp, by omega, hc2_3, hz, hd, s2, s7, s49, s50, hS18⟩, ?_⟩
          show 5 - (intOf (sl a26 50)).toNat < 5 - (intOf (sl a18 50)).toNat
          rw [show sl a26 50 = _ from s50, show sl a18 50 = _ from hmu2]
          simp only [intOf]
          omega
      · clear s51
        refine wp_exit ?_
        change Code.wp _ _ _ _ _
        refine wp_seq ?_
        refine seq_l [] hz ?_
        refine ⟨.slice B m d, fun _ h_ => rmv (h_.b 7 s7),
         .slice B m d, fun _ h_ => ras (h_.d 0 65), ?_⟩
        intro a27 hput
        replace s2 : sl a27 2 = .slice B m d := hput.new 1 2 rfl
        replace hz := hput.size.trans hz
        replace hd := hput.defers.trans hd
        clear hput s7 s49 s50
        change Code.wp _ _ _ _ _
        refine wp_ret ?_
        obtain rfl : i = 5 := by omega
        have hbl2 : bs.length = n := u8s_of2 hr
        have hSf := hS18.putObj 3 (.deferred none) rfl
        refine ret1M (P := Try.prog) (fn := Try.f14) hd (hS18.obj (i := 3) rfl) s2 (hR_ _ _ ?_)
        refine ⟨B, m, d, q, rfl, by rw [hc2_1, sitesF, hbl2], hSf.rowBase (i := 0) rfl (by simp : memA W W.heap.size ∈ _), fun x hx => ?_, (hSf.old (by simp))⟩
        obtain ⟨j, hj1, hj2⟩ := hc2_3 x hx
        exact S.rd (i := 0) (e := 99) (S.sep_at (hSf.front (i := 2) rfl) (zip_at (f := rowV) hj1 hj2)) rfl
end Go.Proofs.Ytdenfgnkbfbpmaa
