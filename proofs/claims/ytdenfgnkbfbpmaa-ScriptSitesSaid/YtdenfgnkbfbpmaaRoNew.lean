/-
  router.New.
-/
import Derived.Test.YtdenfgnkbfbpmaaUp
namespace Go.Proofs.Ytdenfgnkbfbpmaa
open Go.RowKit
set_option linter.unusedSimpArgs false
set_option linter.unusedVariables false

/-- a port, as told -/
structure PtV where
  lan : Int
  prio : Int
  cost : Int
def PtV.cells (x : PtV) : List Value := [.int .i64 x.lan, .int .i64 x.prio, .int .i64 x.cost]
theorem PtV.cells_len (x : PtV) : x.cells.length = 3 := rfl
theorem pts_len {w : World} {B n : Nat} {A : Option Addr} {l : List PtV} (h : Reads w B 3 A n (rowC PtV.cells l)) : l.length = n := by have := h.1; rw [rowC_length PtV.cells 3 PtV.cells_len] at this; omega
def numF (boot : Int) : Int := IntKind.i64.wrap (boot * 65536)
def peers0 (self lan : Int) : PeS := ⟨self, lan, List.replicate 16 none⟩
def port0 (id : Int) (x : PtV) : PoS := ⟨x.lan, x.prio, x.cost, ⟨id, x.prio, 0, 0, 0⟩, peers0 id x.lan⟩
def ro0 (id boot room : Int) : RoS := ⟨id, 0, numF boot, [none, none, none, none], [], [], ⟨roomF room, []⟩, [], [], [], []⟩
def addOk (s : RoS) (x : PtV) : Prop := portOk x.lan x.prio x.cost ∧ s.ports[x.lan.toNat]? = some none
instance (s : RoS) (x : PtV) : Decidable (s.ports[x.lan.toNat]? = some none) := by
  cases h : s.ports[x.lan.toNat]? with
  | none => exact isFalse (by simp)
  | some o => cases o with
    | none => exact isTrue rfl
    | some y => exact isFalse (by simp)
instance (s : RoS) (x : PtV) : Decidable (addOk s x) := by unfold addOk; infer_instance
def addP (id : Int) (s : RoS) (x : PtV) : RoS := { s with ports := s.ports.set x.lan.toNat (some (port0 id x)) }
def addsF (id : Int) : List PtV → RoS → Option RoS
  | [], s => some s
  | x :: l, s => if addOk s x then addsF id l (addP id s x) else none
theorem addsF_snoc (id : Int) (x : PtV) : ∀ (l : List PtV) (s : RoS), addsF id (l ++ [x]) s = (addsF id l s).bind fun t => if addOk t x then some (addP id t x) else none
  | [], s => by simp [addsF]
  | y :: l, s => by
    simp only [List.cons_append, addsF]
    split
    · exact addsF_snoc id x l _
    · rfl
theorem addsF_none (id : Int) : ∀ (l m : List PtV) (s : RoS), addsF id l s = none → addsF id (l ++ m) s = none
  | [], m, s, h => by cases h
  | y :: l, m, s, h => by
    simp only [List.cons_append, addsF] at h ⊢
    split
    · rename_i hc; rw [if_pos hc] at h; exact addsF_none id l m _ h
    · rfl
theorem adds_next {id : Int} {l : List PtV} {k : Nat} {x : PtV} {s t : RoS} (h : addsF id (l.take k) s = some t) (hx : l[k]? = some x) (ho : addOk t x) : addsF id (l.take (k + 1)) s = some (addP id t x) := by
  rw [take_snoc l k x hx, addsF_snoc, h]; simp [ho]
theorem adds_bad {id : Int} {l : List PtV} {k : Nat} {x : PtV} {s t : RoS} (h : addsF id (l.take k) s = some t) (hx : l[k]? = some x) (ho : ¬ addOk t x) : addsF id l s = none := by
  have h1 : addsF id (l.take (k + 1)) s = none := by rw [take_snoc l k x hx, addsF_snoc, h]; simp [ho]
  have := addsF_none id (l.take (k + 1)) (l.drop (k + 1)) s h1
  rwa [List.take_append_drop] at this
def upsF : Nat → RoS → RoS
  | 0, s => s
  | k + 1, s => match (upsF k s).ports[k]? with
    | some (some x) => upF k x (upsF k s)
    | _ => upsF k s
/-- a router that begins; none, if it may not -/
def newF (id boot room : Int) (l : List PtV) : Option RoS := if id < 1 ∨ 15 < id then none else (addsF id l (ro0 id boot room)).map (upsF 4)
theorem adds_inv {id : Int} : ∀ {l : List PtV} {s t : RoS}, addsF id l s = some t → t.now = s.now ∧ t.ports.length = s.ports.length
  | [], s, t, h => by cases h; exact ⟨rfl, rfl⟩
  | x :: l, s, t, h => by
    unfold addsF at h
    split at h
    · obtain ⟨h1, h2⟩ := adds_inv h
      exact ⟨h1, by rw [h2]; simp [addP]⟩
    · cases h
theorem ups_inv : ∀ (k : Nat) (s : RoS), (upsF k s).now = s.now ∧ (upsF k s).ports.length = s.ports.length
  | 0, s => ⟨rfl, rfl⟩
  | k + 1, s => by
    have ih := ups_inv k s
    unfold upsF
    split
    · exact ⟨ih.1, by simp only [upF, List.length_set]; exact ih.2⟩
    · exact ih
theorem ups_some {k : Nat} {s : RoS} {x : PoS} (h : (upsF k s).ports[k]? = some (some x)) : upsF (k + 1) s = upF k x (upsF k s) := by
  simp only [upsF, h]
theorem ups_none {k : Nat} {s : RoS} (h : ∀ x, (upsF k s).ports[k]? ≠ some (some x)) : upsF (k + 1) s = upsF k s := by
  simp only [upsF]
theorem fits_some {p : RoP} {s : RoS} (h : Fits p s) {k a : Nat} (ha : p.pts[k]? = some (some a)) : ∃ x, s.ports[k]? = some (some x) := by
  have h1 : (p.pts.map Option.isSome)[k]? = some true := by rw [List.getElem?_map, ha]; rfl
  rw [h.2.2, List.getElem?_map] at h1
  cases hs : s.ports[k]? with
  | none => rw [hs] at h1; cases h1
  | some o => cases o with
    | none => rw [hs] at h1; cases h1
    | some x => exact ⟨x, rfl⟩
theorem fits_none {p : RoP} {s : RoS} (h : Fits p s) {k : Nat} (ha : p.pts[k]? = some none) : s.ports[k]? = some none := by
  have h1 : (p.pts.map Option.isSome)[k]? = some false := by rw [List.getElem?_map, ha]; rfl
  rw [h.2.2, List.getElem?_map] at h1
  cases hs : s.ports[k]? with
  | none => rw [hs] at h1; cases h1
  | some o => cases o with
    | none => rfl
    | some x => rw [hs] at h1; cases h1
theorem ro_pt {p : RoP} {s : RoS} {v : SlP} {k : Nat} {o : Option Nat} (h : p.pts[k]? = some o) (h4 : p.pts.length = 4) : (roCells p s v)[3 + k]? = some (ptO o) := by
  have hk : k < p.pts.length := (List.getElem?_eq_some_iff.1 h).1
  unfold roCells
  rw [List.getElem?_toArray, Nat.add_comm]
  simp only [List.cons_append, List.getElem?_cons_succ]
  rw [List.getElem?_append_left (by simpa using hk), List.getElem?_map, h]; rfl
theorem ro_set {p : RoP} {s : RoS} {v : SlP} {k a : Nat} (hk : k < p.pts.length) : (roCells p s v).setIfInBounds (3 + k) (.pointer (some ⟨a, 0, none⟩)) = roCells { p with pts := p.pts.set k (some a) } s v := by
  unfold roCells
  rw [Nat.add_comm]
  simp only [List.setIfInBounds_toArray, List.cons_append, List.set_cons_succ]
  rw [List.set_append_left _ _ (by simpa using hk), List.map_set]; rfl
theorem ro_size {p : RoP} {s : RoS} {v : SlP} (h4 : p.pts.length = 4) : (roCells p s v).size = 14 := by simp [roCells, h4]
theorem zipO_new {l : List (Option Nat)} {m : List (Option PoS)} {k a : Nat} {y : PoS} (h1 : l[k]? = some none) (h2 : m[k]? = some none) : (zipO l m)[k]? = some none ∧ (zipO l m).set k (some (a, y)) = zipO (l.set k (some a)) (m.set k (some y)) := by
  induction l generalizing m k with
  | nil => simp at h1
  | cons b l ih =>
    cases m with
    | nil => simp at h2
    | cons z m =>
      cases k with
      | zero =>
        simp only [List.getElem?_cons_zero, Option.some.injEq] at h1 h2
        subst h1; subst h2; exact ⟨rfl, rfl⟩
      | succ k =>
        have := ih (m := m) (k := k) (by simpa using h1) (by simpa using h2)
        cases b <;> cases z <;> simpa [zipO] using this
theorem ports_new {κ : Kap} {L I : List Atom} {w : World} {p : RoP} {s : RoS} {k a : Nat} {y : PoS} (h1 : p.pts[k]? = some none) (h2 : s.ports[k]? = some none) (h : S κ (portA a y :: portsA p s :: L) I w) : S κ (portsA { p with pts := p.pts.set k (some a) } { s with ports := s.ports.set k (some y) } :: L) I w := by
  obtain ⟨e1, e2⟩ := zipO_new (a := a) (y := y) h1 h2
  have hi : ((zipO p.pts s.ports).map portO)[k]? = some (portO none) := by rw [List.getElem?_map, e1]; rfl
  have h3 := S.sep_at (h.perm (List.Perm.swap _ _ _)) hi
  have h4 := (h3.drop.perm (List.Perm.swap _ _ _))
  have h5 := S.sep_put (c := portA a y) h4 hi
  have e : ((zipO p.pts s.ports).map portO).set k (portA a y) = (zipO (p.pts.set k (some a)) (s.ports.set k (some y))).map portO := by
    rw [← e2, List.map_set]; rfl
  rw [e] at h5
  exact h5
theorem fits_add {p : RoP} {s : RoS} {k a : Nat} {y : PoS} (h : Fits p s) (hk : k < 4) : Fits { p with pts := p.pts.set k (some a) } { s with ports := s.ports.set k (some y) } := by
  obtain ⟨h1, h2, h3⟩ := h
  refine ⟨by simpa using h1, by simpa using h2, ?_⟩
  simp only [List.map_set, h3]; rfl
/-- the pieces of a new router -/
theorem ro_first {κ : Kap} {L I : List Atom} {w : World} {g tm mm dg wg lg ag : Nat} {id boot room : Int}
    (h : S κ (blkA g 168 #[.int .i64 id, .int .i64 0, .int .i64 (numF boot), .pointer none, .pointer none, .pointer none, .pointer none, .map (some tm), .map (some mm), .pointer (some ⟨dg, 0, none⟩), .pointer (some ⟨wg, 0, none⟩), .pointer (some ⟨lg, 0, none⟩), .pointer (some ⟨ag, 0, none⟩), .slice none 0 0] ::
      acksA ag [] :: rxmtA lg [] :: wheelA wg [] :: dbA dg ⟨roomF room, []⟩ :: mapA keyE toldE mm ([] : List (KeyV × Int × Int)) :: mapA whoE (fun x : Nat × TaS => addrE x.1) tm ([] : List ((Int × Int) × Nat × TaS)) :: L) I w) :
    S κ (roA ⟨g, [none, none, none, none], tm, mm, dg, wg, lg, ag⟩ (ro0 id boot room) :: L) I w := by
  have h1 := talks_nil (h.front (i := 6) rfl)
  have h2 : S κ (portsA ⟨g, [none, none, none, none], tm, mm, dg, wg, lg, ag⟩ (ro0 id boot room) :: outA ⟨none, 0⟩ [] :: talksA tm [] :: _) I w := S.sep_close (l := [sepA [], sepA [], sepA [], sepA []]) (S.sep_close (l := []) (S.sep_close (l := []) (S.sep_close (l := []) (S.sep_close (l := []) (out_nil h1)))))
  have h3 := h2.front (i := 1) rfl
  have h4 := h3.front (i := 4) rfl
  have h5 := h4.front (i := 5) rfl
  have h6 := h5.front (i := 6) rfl
  have h7 := h6.front (i := 7) rfl
  have h8 := h7.front (i := 8) rfl
  have h9 := h8.front (i := 7) rfl
  have h10 := h9.front (i := 7) rfl
  have h11 := h10.front (i := 8) rfl
  exact ro_close (v := ⟨none, 0⟩) ⟨rfl, rfl, rfl⟩ (h11)
theorem ro_arr {w : World} {p : RoP} {s : RoS} {v : SlP} {T : Nat} (h : Blk w p.g T (roCells p s v)) (h4 : p.pts.length = 4) : ∀ j u, (p.pts.map ptO)[j]? = some u → w.cell? ⟨p.g, 3 + j, none⟩ = some u := by
  intro j u hj
  rw [List.getElem?_map] at hj
  obtain ⟨o, h1, rfl⟩ := Option.map_eq_some_iff.1 hj
  rw [h.cell]; exact ro_pt h1 h4
theorem ro_fits {κ : Kap} {L I : List Atom} {w : World} {p : RoP} {s : RoS} (h : S κ (roA p s :: L) I w) : Fits p s := (ro_open h).elim fun _ h => h.1
theorem ro_skip {p : RoP} {s : RoS} {k : Nat} {o : Option Nat} (hF : Fits p (upsF k s)) (ho : p.pts[k]? = some o) (h : o.isSome = false) : upsF (k + 1) s = upsF k s := by
  cases o with
  | some a => cases h
  | none => exact ups_none (fun x hx => by rw [fits_none hF ho] at hx; cases hx)
theorem add_not {p : RoP} {s : RoS} {x : PtV} {o : Option Nat} (hF : Fits p s) (ho : p.pts[x.lan.toNat]? = some o) (h : o.isSome = true) : ¬ addOk s x := by
  cases o with
  | none => cases h
  | some a =>
    obtain ⟨y, hy⟩ := fits_some hF ho
    intro hc
    rw [hc.2] at hy; cases hy
theorem add_yes {p : RoP} {s : RoS} {x : PtV} {o : Option Nat} (hF : Fits p s) (ho : p.pts[x.lan.toNat]? = some o) (h : o.isSome = false) : s.ports[x.lan.toNat]? = some none := by
  cases o with
  | some a => cases h
  | none => exact fits_none hF ho
theorem isNone_of {α : Type} {o : Option α} (h : o.isSome = false) : o = none := by cases o <;> simp_all
set_option maxRecDepth 100000 in
set_option maxHeartbeats 800000 in
theorem roNew_any (id boot room : Int) (A : Option Addr) (n c : Nat) (l : List PtV) (W : World) (hn : n ≤ 100000) (hR : Reads W W.heap.size 3 A n (rowC PtV.cells l)) :
    Calls Try.prog 80 #[i6 id, i6 boot, i6 room, .slice A n c] W (fun r w' => (newF id boot room l = none ∧ r = .returned (.pointer none) ∧ Below W.heap.size W w') ∨ ∃ s p, newF id boot room l = some s ∧ r = .returned (pt p.g 0) ∧ S (kap W) [roA p s] [memA W W.heap.size] w') := by
  have hS := S.start W
  refine calls_walk Try.func80 rfl fun R_ hR_ a hz hd hargs => ?_
  replace hz : a.tmps.size = 83 := hz.trans (by kernel_rfl)
  have s0 := hargs 0 _ rfl
  have s1 := hargs 1 _ rfl
  have s2 := hargs 2 _ rfl
  have s3 := hargs 3 _ rfl
  clear hargs
  refine wp_seq ?_
  refine seq_l [] hz ?_
  refine ⟨.pointer none, fun _ h_ => rk (run_assign rfl rfl), ?_⟩
  intro a2 hput
  replace s0 := hput.o 0 s0
  replace s1 := hput.o 1 s1
  replace s2 := hput.o 2 s2
  replace s3 := hput.o 3 s3
  have s8 : sl a2 8 = .pointer none := hput.new 0 8 rfl
  replace hz := hput.size.trans hz
  replace hd := hput.defers.trans hd
  clear hput
  change Code.wp _ _ _ _ _
  refine wp_seq ?_
  refine wp_seq ?_
  refine seq_l [] hz ?_
  refine ⟨i6 id, fun _ h_ => rmv (h_.b 0 s0),
   .bool (decide ((id : Int) < 1)), fun _ h_ => rk (run_cmp rfl (h_.d 0 14) rfl rfl (by first | rfl | exact neq_dec _ _ | exact eq_dec _ _ | simp)),
   .bool (decide ((id : Int) < 1)), fun _ h_ => rmv (h_.d 1 15), ?_⟩
  rcases dt ((id : Int) < 1) with ⟨he, hg2⟩ | ⟨he, hg2⟩
  · rw [he]
    clear he
    refine seq_off (j := 2) (d := 16) (b := false) [3, 4] _ (by kernel_rfl) (.inl rfl) ?_
    refine ⟨.bool true, fun _ h_ => rk (run_pick_t rfl (h_.d 2 16) rfl), ?_⟩
    intro a3 hput
    replace s0 := hput.o 0 s0
    replace s1 := hput.o 1 s1
    replace s2 := hput.o 2 s2
    replace s3 := hput.o 3 s3
    replace s8 := hput.o 8 s8
    have s19 : sl a3 19 = .bool true := hput.new 5 19 rfl
    replace hz := hput.size.trans hz
    replace hd := hput.defers.trans hd
    clear hput
    change Code.wp _ _ _ _ _
    refine wp_cond_true s19 ?_
    refine wp_seq ?_
    refine seq_l [] hz ?_
    refine ⟨.pointer none, fun _ h_ => rk (run_assign rfl rfl), ?_⟩
    intro a4 hput
    replace s0 := hput.o 0 s0
    replace s1 := hput.o 1 s1
    replace s2 := hput.o 2 s2
    replace s3 := hput.o 3 s3
    replace s8 : sl a4 8 = .pointer none := hput.new 0 8 rfl
    replace hz := hput.size.trans hz
    replace hd := hput.defers.trans hd
    clear hput s19
    change Code.wp _ _ _ _ _
    refine wp_ret ?_
    refine ret1 (P := Try.prog) (fn := Try.f80) hd s8 (hR_ _ _ ?_)
    exact .inl ⟨by unfold newF; rw [if_pos (by omega)], rfl, (hS.old (by simp))⟩
  · rw [he]
    clear he
    refine ⟨i6 id, fun _ h_ => r_ok (h_.on 2 16) (run_move rfl (h_.b 0 s0)),
     .bool (decide ((15 : Int) < id)), fun _ h_ => r_ok (h_.on 2 16) (run_cmp rfl (h_.d 3 17) rfl rfl (by first | rfl | exact neq_dec _ _ | exact eq_dec _ _ | simp)),
     .bool (decide ((15 : Int) < id)), fun _ h_ => rk (run_pick_f rfl (h_.d 2 16) (h_.d 4 18)), ?_⟩
    intro a3 hput
    replace s0 := hput.o 0 s0
    replace s1 := hput.o 1 s1
    replace s2 := hput.o 2 s2
    replace s3 := hput.o 3 s3
    replace s8 := hput.o 8 s8
    have s19 : sl a3 19 = .bool (decide ((15 : Int) < id)) := hput.new 5 19 rfl
    replace hz := hput.size.trans hz
    replace hd := hput.defers.trans hd
    clear hput
    change Code.wp _ _ _ _ _
    refine wp_cond_d s19 (fun hc19 => ?_) (fun hc19 => ?_)
    · clear s19
      refine wp_seq ?_
      refine seq_l [] hz ?_
      refine ⟨.pointer none, fun _ h_ => rk (run_assign rfl rfl), ?_⟩
      intro a5 hput
      replace s0 := hput.o 0 s0
      replace s1 := hput.o 1 s1
      replace s2 := hput.o 2 s2
      replace s3 := hput.o 3 s3
      replace s8 : sl a5 8 = .pointer none := hput.new 0 8 rfl
      replace hz := hput.size.trans hz
      replace hd := hput.defers.trans hd
      clear hput
      change Code.wp _ _ _ _ _
      refine wp_ret ?_
      refine ret1 (P := Try.prog) (fn := Try.f80) hd s8 (hR_ _ _ ?_)
      exact .inl ⟨by unfold newF; rw [if_pos (by omega)], rfl, (hS.old (by simp))⟩
    · clear s19
      refine wp_skip ?_
      change Code.wp _ _ _ _ _
      refine wp_seq ?_
      refine seq_l [3, 4, 6, 7, 8, 9, 11] hz ?_
      refine ⟨i6 id, fun _ h_ => rmv (h_.b 0 s0),
       i6 boot, fun _ h_ => rmv (h_.b 1 s1),
       i6 (numF boot), fun _ h_ => rk (run_bin2 rfl (h_.d 1 21) rfl (fun _ => rfl) (fun _ => rfl)), ?_⟩
      refine ⟨fun a_ h_ => st_makeMap (α := (Int × Int)) (β := (Nat × TaS)) whoE (fun x : Nat × TaS => addrE x.1) hS (on_none rfl) rfl fun g7 w7 hS7 hb7 => ⟨_, rfl, ?_⟩, trivial⟩
      clear h_ a_ hS
      clear hb7
      refine ⟨fun a_ h_ => st_makeMap (α := KeyV) (β := (Int × Int)) keyE toldE hS7 (on_none rfl) rfl fun g8 w8 hS8 hb8 => ⟨_, rfl, ?_⟩, trivial⟩
      clear h_ a_ hS7
      clear hb8
      refine ⟨i6 room, fun _ h_ => rmv (h_.b 2 s2), ?_⟩
      have hSp := hS8
      clear hS8
      refine ⟨fun a_ h_ => st_call (on_none rfl) (run_call rfl (map1 (h_.d 5 25)) rfl) (dbNew_any (κ := kap W) room _ hSp) ?_, trivial⟩
      rintro e_ w9 ⟨g9, rfl, hS9⟩
      refine ⟨_, rfl, _, rfl, ?_⟩
      clear h_ a_ hSp
      replace hS9 : S (kap W) ((dbA g9 ⟨roomF room, []⟩) :: (mapA keyE toldE g8 []) :: (mapA whoE (fun x : Nat × TaS => addrE x.1) g7 []) :: []) ((memA W W.heap.size) :: []) w9 := hS9
      have hSp := hS9
      clear hS9
      refine ⟨fun a_ h_ => st_call (on_none rfl) (run_call rfl (by simp) rfl) (wheelNew_any (κ := kap W) _ hSp) ?_, trivial⟩
      rintro e_ w10 ⟨g10, rfl, hS10⟩
      refine ⟨_, rfl, _, rfl, ?_⟩
      clear h_ a_ hSp
      replace hS10 : S (kap W) ((wheelA g10 []) :: (dbA g9 ⟨roomF room, []⟩) :: (mapA keyE toldE g8 []) :: (mapA whoE (fun x : Nat × TaS => addrE x.1) g7 []) :: []) ((memA W W.heap.size) :: []) w10 := hS10
      have hSp := hS10
      clear hS10
      refine ⟨fun a_ h_ => st_call (on_none rfl) (run_call rfl (by simp) rfl) (rxmtNew_any (κ := kap W) _ hSp) ?_, trivial⟩
      rintro e_ w11 ⟨g11, rfl, hS11⟩
      refine ⟨_, rfl, _, rfl, ?_⟩
      clear h_ a_ hSp
      replace hS11 : S (kap W) ((rxmtA g11 []) :: (wheelA g10 []) :: (dbA g9 ⟨roomF room, []⟩) :: (mapA keyE toldE g8 []) :: (mapA whoE (fun x : Nat × TaS => addrE x.1) g7 []) :: []) ((memA W W.heap.size) :: []) w11 := hS11
      have hSp := hS11
      clear hS11
      refine ⟨fun a_ h_ => st_call (on_none rfl) (run_call rfl (by simp) rfl) (acksNew_any (κ := kap W) _ hSp) ?_, trivial⟩
      rintro e_ w12 ⟨g12, rfl, hS12⟩
      refine ⟨_, rfl, _, rfl, ?_⟩
      clear h_ a_ hSp
      replace hS12 : S (kap W) ((acksA g12 []) :: (rxmtA g11 []) :: (wheelA g10 []) :: (dbA g9 ⟨roomF room, []⟩) :: (mapA keyE toldE g8 []) :: (mapA whoE (fun x : Nat × TaS => addrE x.1) g7 []) :: []) ((memA W W.heap.size) :: []) w12 := hS12
      refine ⟨.agg #[i6 id, i6 0, i6 (numF boot), .pointer none, .pointer none, .pointer none, .pointer none, .map (some g7), .map (some g8), pt g9 0, pt g10 0, pt g11 0, pt g12 0, .slice none 0 0], fun _ h_ => rk (run_build (vals := #[(0, i6 id), (2, i6 (numF boot)), (4, .map (some g7)), (5, .map (some g8)), (6, pt g9 0), (7, pt g10 0), (8, pt g11 0), (9, pt g12 0)]) (r := .agg #[i6 id, i6 0, i6 (numF boot), .pointer none, .pointer none, .pointer none, .pointer none, .map (some g7), .map (some g8), pt g9 0, pt g10 0, pt g11 0, pt g12 0, .slice none 0 0]) rfl (bp8 (h_.d 0 20) (h_.d 2 22) (h_.d 3 23) (h_.d 4 24) (h_.d 6 26) (h_.d 7 27) (h_.d 8 28) (h_.d 9 29)) (by kernel_rfl)), ?_⟩
      refine ⟨fun a_ h_ => st_box (cells := #[i6 id, i6 0, i6 (numF boot), .pointer none, .pointer none, .pointer none, .pointer none, .map (some g7), .map (some g8), pt g9 0, pt g10 0, pt g11 0, pt g12 0, .slice none 0 0]) hS12 (on_none rfl) rfl (h_.d 10 30) (by kernel_rfl) fun g13 w13 hS13 hb13 => ⟨_, rfl, ?_⟩, trivial⟩
      clear h_ a_ hS12
      clear hb13
      refine ⟨pt g13 0, fun _ h_ => ras (h_.d 11 31), ?_⟩
      intro a6 hput
      replace s0 := hput.o 0 s0
      replace s3 := hput.o 3 s3
      replace s8 := hput.o 8 s8
      have s9 : sl a6 9 = pt g13 0 := hput.new 12 9 rfl
      replace hz := hput.size.trans hz
      replace hd := hput.defers.trans hd
      clear hput s1 s2
      replace hS13 := hS13.front (i := 6) rfl
      replace hS13 := hS13.front (i := 6) rfl
      replace hS13 := hS13.front (i := 6) rfl
      replace hS13 := hS13.front (i := 6) rfl
      replace hS13 := hS13.front (i := 6) rfl
      replace hS13 := hS13.front (i := 6) rfl
      replace hS13 := hS13.front (i := 6) rfl
      replace hS13 : S (kap W) ((blkA g13 168 #[i6 id, i6 0, i6 (numF boot), .pointer none, .pointer none, .pointer none, .pointer none, .map (some g7), .map (some g8), pt g9 0, pt g10 0, pt g11 0, pt g12 0, .slice none 0 0]) :: (acksA g12 []) :: (rxmtA g11 []) :: (wheelA g10 []) :: (dbA g9 ⟨roomF room, []⟩) :: (mapA keyE toldE g8 []) :: (mapA whoE (fun x : Nat × TaS => addrE x.1) g7 []) :: []) ((memA W W.heap.size) :: []) w13 := hS13
      have hSn := ro_first hS13
      clear hS13
      change Code.wp _ _ _ _ _
      refine wp_seq ?_
      refine wp_seq ?_
      refine seq_l [] hz ?_
      refine ⟨.slice A n c, fun _ h_ => rmv (h_.b 3 s3),
       i6 n, fun _ h_ => rk (run_lenS rfl (h_.d 0 32) (by kernel_rfl)),
       i6 0, fun _ h_ => rk (run_move rfl rfl), ?_⟩
      intro a14 hput
      replace s0 := hput.o 0 s0
      replace s8 := hput.o 8 s8
      replace s9 := hput.o 9 s9
      have s32 : sl a14 32 = .slice A n c := hput.new 0 32 rfl
      have s33 : sl a14 33 = i6 n := hput.new 1 33 rfl
      have s34 : sl a14 34 = i6 0 := hput.new 2 34 rfl
      replace hz := hput.size.trans hz
      replace hd := hput.defers.trans hd
      clear hput s3
      change Code.wp _ _ _ _ _
      refine wp_block ?_
      refine wp_loop (fun a_ w_ => ∃ k : Nat, ∃ p : RoP, ∃ s : RoS, (k ≤ n) ∧ (addsF id (l.take k) (ro0 id boot room) = some s) ∧ a_.tmps.size = 83 ∧ a_.defers = [] ∧ sl a_ 0 = i6 id ∧ sl a_ 8 = .pointer none ∧ sl a_ 9 = pt p.g 0 ∧ sl a_ 32 = .slice A n c ∧ sl a_ 33 = i6 n ∧ sl a_ 34 = i6 k ∧ S (kap W) ((roA p s) :: []) ((memA W W.heap.size) :: []) w_) (fun a_ _ => n - (intOf (sl a_ 34)).toNat) ?_ ?_
      · exact ⟨0, ⟨g13, [none, none, none, none], g7, g8, g9, g10, g11, g12⟩, _, Nat.zero_le _, rfl, hz, hd, s0, s8, s9, s32, s33, s34, hSn⟩
      · clear hz hd s0 s8 s9 s32 s33 s34 hSn
        rintro a15 w15 ⟨k, p, s, hc0_0, hc0_1, hz, hd, s0, s8, s9, s32, s33, s34, hS15⟩
        have hmu0 := s34
        refine wp_seq ?_
        refine seq_l [] hz ?_
        refine ⟨.bool (decide ((k : Int) < n)), fun _ h_ => rk (run_cmp rfl (h_.b 34 s34) (h_.b 33 s33) rfl (by first | rfl | exact neq_dec _ _ | exact eq_dec _ _ | simp)), ?_⟩
        intro a16 hput
        replace s0 := hput.o 0 s0
        replace s8 := hput.o 8 s8
        replace s9 := hput.o 9 s9
        replace s32 := hput.o 32 s32
        replace s33 := hput.o 33 s33
        replace s34 := hput.o 34 s34
        have s35 : sl a16 35 = .bool (decide ((k : Int) < n)) := hput.new 0 35 rfl
        replace hz := hput.size.trans hz
        replace hd := hput.defers.trans hd
        clear hput
        change Code.wp _ _ _ _ _
        refine wp_seq ?_
        refine wp_cond_d s35 (fun hc35 => ?_) (fun hc35 => ?_)
        · clear s35
          refine wp_skip ?_
          change Code.wp _ _ _ _ _
          refine wp_seq ?_
          refine wp_block ?_
          refine wp_seq ?_
          refine seq_l [2, 3] hz ?_
          obtain ⟨b18, o18, z18, hA18, hb18, hz18, hq18⟩ := Reads.row_at PtV.cells 3 PtV.cells_len (k := k) (Reads.old hR (hS15.old (by simp))) (by decide) (by omega)
          refine ⟨pt b18 (o18 + k * 3), fun _ h_ => rk (run_indexV (size := 3) rfl (h_.b 32 s32) hA18 (h_.b 34 s34) (by kernel_rfl) (by omega) (by simp)),
           .agg #[i6 z18.lan, i6 z18.prio, i6 z18.cost], fun _ h_ => rk (run_loadV (size := 3) (cs := PtV.cells z18) rfl (h_.d 0 36) (by kernel_rfl) rfl hq18), ?_⟩
          refine ⟨fun a_ h_ => st_alloc (cells := #[i6 0, i6 0, i6 0]) hS15 (on_none rfl) rfl (by kernel_rfl) fun g19 w19 hS19 hb19 => ⟨_, rfl, ?_⟩, trivial⟩
          clear h_ a_ hS15
          clear hb19
          refine ⟨fun a_ h_ => st_store (n := 3) (cells := #[i6 z18.lan, i6 z18.prio, i6 z18.cost]) (cs' := #[i6 z18.lan, i6 z18.prio, i6 z18.cost]) 0 hS19 rfl (on_none rfl) rfl (h_.d 2 11) (h_.d 1 37) rfl (by kernel_rfl) ⟨Nat.le_of_ble_eq_true rfl, rfl, by kernel_rfl⟩ rfl fun w20 hS20 he20 => ⟨_, rfl, ?_⟩, trivial⟩
          clear h_ a_ he20 hS19
          replace hS20 : S (kap W) ((blkA g19 99 #[i6 z18.lan, i6 z18.prio, i6 z18.cost]) :: (roA p s) :: []) ((memA W W.heap.size) :: []) w20 := hS20
          intro a17 hput
          replace s0 := hput.o 0 s0
          replace s8 := hput.o 8 s8
          replace s9 := hput.o 9 s9
          have s11 : sl a17 11 = pt g19 0 := hput.new 2 11 rfl
          replace s32 := hput.o 32 s32
          replace s33 := hput.o 33 s33
          replace s34 := hput.o 34 s34
          have s36 : sl a17 36 = pt b18 (o18 + k * 3) := hput.new 0 36 rfl
          have s37 : sl a17 37 = .agg #[i6 z18.lan, i6 z18.prio, i6 z18.cost] := hput.new 1 37 rfl
          replace hz := hput.size.trans hz
          replace hd := hput.defers.trans hd
          clear hput
          change Code.wp _ _ _ _ _
          refine wp_seq ?_
          refine wp_seq ?_
          obtain ⟨v, hF, hSo⟩ := ro_open (hS20.front (i := 1) rfl)
          clear hS20
          have hS20 : S (kap W) ((blkA p.g 168 (roCells p s v)) :: (portsA p s) :: (talksA p.tm s.talks) :: (mapA keyE toldE p.mm s.mine) :: (dbA p.dg s.db) :: (wheelA p.wg s.w) :: (rxmtA p.lg s.lists) :: (acksA p.ag s.later) :: (outA v s.out) :: (blkA g19 99 #[i6 z18.lan, i6 z18.prio, i6 z18.cost]) :: []) ((memA W W.heap.size) :: []) w20 := hSo
          clear hSo
          refine seq_r [[], [0], [0, 1], [0, 1, 2], [0, 1, 2, 3], [0, 1, 2, 3], [0, 1, 2, 3, 5], [0, 1, 2, 3, 4], [0, 1, 2, 3, 4, 7], [0, 1, 2, 3, 4, 5, 6, 7, 8], [0, 1, 2, 3, 4, 5, 6, 7, 8, 9], [0, 1, 2, 3, 4, 5, 6, 7, 8, 9, 10], [0, 1, 2, 3, 4, 5, 6, 7, 8, 9, 10, 11]] [1] (.rd 0 (.ef 1 (.rd 2 (.rd 3 (.rd 4 (.rd 5 (.rd 6 (.rd 7 (.rd 8 (.rd 9 (.rd 10 (.rd 11 (.rd 12 (.fin)))))))))))) .non)) hz fun w21 hb21 => ?_
          replace hS20 := hS20.below hb21
          refine ⟨.agg #[i6 z18.lan, i6 z18.prio, i6 z18.cost], fun _ h_ => rk (lbS 3 (hS20.blk (i := 9) rfl) rfl (h_.b 11 s11)), ?_⟩
          refine ⟨fun a_ h_ => st_call (on_none rfl) (run_call rfl (map1 (h_.d 0 38)) rfl) (portRight_any z18.lan z18.prio z18.cost _) ?_, trivial⟩
          rintro e w22 ⟨rfl, hb22⟩
          refine ⟨_, rfl, _, rfl, ?_⟩
          clear h_ a_
          have hS22 := hS20.below hb22
          clear hS20 hb22
          refine ⟨.bool (!(decide (portOk z18.lan z18.prio z18.cost))), fun _ h_ => rk (run_not rfl (h_.d 1 39) rfl),
           .bool (!(decide (portOk z18.lan z18.prio z18.cost))), fun _ h_ => rmv (h_.d 2 40), ?_⟩
          rcases nt (portOk z18.lan z18.prio z18.cost) with ⟨he, hg3⟩ | ⟨he, hg3⟩
          · rw [he]
            clear he
            refine seq_off (j := 3) (d := 41) (b := false) [4, 5, 6, 7, 8, 9, 10, 11] _ (by kernel_rfl) (.inl rfl) ?_
            refine ⟨.bool true, fun _ h_ => rk (run_pick_t rfl (h_.d 3 41) rfl), ?_⟩
            intro a21 hput
            replace s0 := hput.o 0 s0
            replace s8 := hput.o 8 s8
            replace s9 := hput.o 9 s9
            replace s11 := hput.o 11 s11
            replace s32 := hput.o 32 s32
            replace s33 := hput.o 33 s33
            replace s34 := hput.o 34 s34
            replace s36 := hput.o 36 s36
            replace s37 := hput.o 37 s37
            have s38 : sl a21 38 = .agg #[i6 z18.lan, i6 z18.prio, i6 z18.cost] := hput.new 0 38 rfl
            have s39 : sl a21 39 = .bool (decide (portOk z18.lan z18.prio z18.cost)) := hput.new 1 39 rfl
            have s40 : sl a21 40 = .bool true := hput.new 2 40 rfl
            have s41 : sl a21 41 = .bool true := hput.new 3 41 rfl
            have s50 : sl a21 50 = .bool true := hput.new 12 50 rfl
            replace hz := hput.size.trans hz
            replace hd := hput.defers.trans hd
            clear hput
            change Code.wp _ _ _ _ _
            refine wp_cond_true s50 ?_
            refine wp_seq ?_
            refine seq_l [] hz ?_
            refine ⟨.pointer none, fun _ h_ => rk (run_assign rfl rfl), ?_⟩
            intro a23 hput
            replace s0 := hput.o 0 s0
            replace s8 : sl a23 8 = .pointer none := hput.new 0 8 rfl
            replace s9 := hput.o 9 s9
            replace s11 := hput.o 11 s11
            replace s32 := hput.o 32 s32
            replace s33 := hput.o 33 s33
            replace s34 := hput.o 34 s34
            replace s36 := hput.o 36 s36
            replace s37 := hput.o 37 s37
            replace s38 := hput.o 38 s38
            replace s39 := hput.o 39 s39
            replace s40 := hput.o 40 s40
            replace s41 := hput.o 41 s41
            replace s50 := hput.o 50 s50
            replace hz := hput.size.trans hz
            replace hd := hput.defers.trans hd
            clear hput
            change Code.wp _ _ _ _ _
            refine wp_ret ?_
            refine ret1 (P := Try.prog) (fn := Try.f80) hd s8 (hR_ _ _ ?_)
            exact .inl ⟨by unfold newF; rw [if_neg (by omega), adds_bad hc0_1 hz18 (by first | exact fun h => hg3 h.1 | exact add_not hF ho hc50)]; rfl, rfl, (hS22.old (by simp))⟩
          · rw [he]
            clear he
            refine ⟨pt p.g 0, fun _ h_ => r_ok (h_.on 3 41) (run_move rfl (h_.b 9 s9)),
             pt g19 0, fun _ h_ => r_ok (h_.on 3 41) (fa 0 rfl (h_.b 11 s11)),
             i6 z18.lan, fun _ h_ => r_ok (h_.on 3 41) (ld hS22 9 rfl (h_.d 5 43)),
             pt p.g 0, fun _ h_ => r_ok (h_.on 3 41) (run_nilCheck rfl (h_.d 4 42)),
             pt p.g 3, fun _ h_ => r_ok (h_.on 3 41) (fa 3 rfl (h_.d 7 45)),
             pt p.g (3 + z18.lan.toNat), fun _ h_ => r_ok (h_.on 3 41) (run_indexP (n := 4) (size := 1) rfl (h_.d 8 46) (h_.d 6 44) (by kernel_rfl) ⟨hg3.1, by have := hg3.2.1; omega⟩ (by omega)), ?_⟩
            obtain ⟨o, ho⟩ : ∃ o, p.pts[z18.lan.toNat]? = some o := ⟨_, List.getElem?_eq_getElem (by rw [hF.1]; have := hg3.1; have := hg3.2.1; omega)⟩
            refine ⟨ptO o, fun _ h_ => r_ok (h_.on 3 41) (run_load rfl (h_.d 9 47) (by kernel_rfl) (((hS22.blk (i := 0) rfl).cell _).trans (ro_pt ho hF.1))),
             .bool o.isSome, fun _ h_ => r_ok (h_.on 3 41) (run_bin2 rfl (h_.d 10 48) rfl (fun _ => by cases o <;> kernel_rfl) (fun _ => by cases o <;> rfl)),
             .bool o.isSome, fun _ h_ => rk (run_pick_f rfl (h_.d 3 41) (h_.d 11 49)), ?_⟩
            intro a21 hput
            replace s0 := hput.o 0 s0
            replace s8 := hput.o 8 s8
            replace s9 := hput.o 9 s9
            replace s11 := hput.o 11 s11
            replace s32 := hput.o 32 s32
            replace s33 := hput.o 33 s33
            replace s34 := hput.o 34 s34
            replace s36 := hput.o 36 s36
            replace s37 := hput.o 37 s37
            have s38 : sl a21 38 = .agg #[i6 z18.lan, i6 z18.prio, i6 z18.cost] := hput.new 0 38 rfl
            have s39 : sl a21 39 = .bool (decide (portOk z18.lan z18.prio z18.cost)) := hput.new 1 39 rfl
            have s40 : sl a21 40 = .bool false := hput.new 2 40 rfl
            have s41 : sl a21 41 = .bool false := hput.new 3 41 rfl
            have s42 : sl a21 42 = pt p.g 0 := hput.new 4 42 rfl
            have s43 : sl a21 43 = pt g19 0 := hput.new 5 43 rfl
            have s44 : sl a21 44 = i6 z18.lan := hput.new 6 44 rfl
            have s45 : sl a21 45 = pt p.g 0 := hput.new 7 45 rfl
            have s46 : sl a21 46 = pt p.g 3 := hput.new 8 46 rfl
            have s47 : sl a21 47 = pt p.g (3 + z18.lan.toNat) := hput.new 9 47 rfl
            have s48 : sl a21 48 = ptO o := hput.new 10 48 rfl
            have s49 : sl a21 49 = .bool o.isSome := hput.new 11 49 rfl
            have s50 : sl a21 50 = .bool o.isSome := hput.new 12 50 rfl
            replace hz := hput.size.trans hz
            replace hd := hput.defers.trans hd
            clear hput
            change Code.wp _ _ _ _ _
            refine wp_cond_b s50 (fun hc50 => ?_) (fun hc50 => ?_)
            · clear s50
              rw [hc50] at s49
              refine wp_seq ?_
              refine seq_l [] hz ?_
              refine ⟨.pointer none, fun _ h_ => rk (run_assign rfl rfl), ?_⟩
              intro a24 hput
              replace s0 := hput.o 0 s0
              replace s8 : sl a24 8 = .pointer none := hput.new 0 8 rfl
              replace s9 := hput.o 9 s9
              replace s11 := hput.o 11 s11
              replace s32 := hput.o 32 s32
              replace s33 := hput.o 33 s33
              replace s34 := hput.o 34 s34
              replace s36 := hput.o 36 s36
              replace s37 := hput.o 37 s37
              replace s38 := hput.o 38 s38
              replace s39 := hput.o 39 s39
              replace s40 := hput.o 40 s40
              replace s41 := hput.o 41 s41
              replace s42 := hput.o 42 s42
              replace s43 := hput.o 43 s43
              replace s44 := hput.o 44 s44
              replace s45 := hput.o 45 s45
              replace s46 := hput.o 46 s46
              replace s47 := hput.o 47 s47
              replace s48 := hput.o 48 s48
              replace s49 := hput.o 49 s49
              replace hz := hput.size.trans hz
              replace hd := hput.defers.trans hd
              clear hput
              change Code.wp _ _ _ _ _
              refine wp_ret ?_
              refine ret1 (P := Try.prog) (fn := Try.f80) hd s8 (hR_ _ _ ?_)
              exact .inl ⟨by unfold newF; rw [if_neg (by omega), adds_bad hc0_1 hz18 (by first | exact fun h => hg3 h.1 | exact add_not hF ho hc50)]; rfl, rfl, (hS22.old (by simp))⟩
            · clear s50
              rw [hc50] at s49
              obtain rfl := isNone_of hc50
              refine wp_skip ?_
              change Code.wp _ _ _ _ _
              refine seq_r [[], [], [1], [], [], [], [5], [4, 5, 6], [], [], [9], [8, 9, 10], [3, 4, 5, 6, 7, 8, 9, 10, 11], [3, 4, 5, 6, 7, 8, 9, 10, 11, 12], [0], [0, 14], [0, 1, 2, 3, 4, 5, 6, 7, 8, 9, 10, 11, 12, 13, 14, 15], [0, 1, 2, 3, 4, 5, 6, 7, 8, 9, 10, 11, 12, 13, 14, 15, 16]] [11, 13, 17] (.rd 0 (.rd 1 (.rd 2 (.rd 3 (.rd 4 (.rd 5 (.rd 6 (.rd 7 (.rd 8 (.rd 9 (.rd 10 (.rd 14 (.rd 15 (.ef 11 (.ag 0 (.ag 1 (.ag 2 (.ag 3 (.ag 4 (.ag 5 (.ag 6 (.ag 7 (.rd 12 (.ag 14 (.ag 15 (.ef 13 (.ag 0 (.ag 1 (.ag 2 (.ag 14 (.ag 15 (.rd 16 (.ef 17 (.fin) .non))))))) .non)))))))))))) .non)))))))))))))) hz fun w25 hb25 => ?_
              replace hS22 := hS22.below hb25
              refine ⟨pt p.g 0, fun _ h_ => rmv (h_.b 9 s9),
               pt g19 0, fun _ h_ => rk (fa 0 rfl (h_.b 11 s11)),
               i6 z18.lan, fun _ h_ => rk (ld hS22 9 rfl (h_.d 1 52)),
               .agg #[i6 z18.lan, i6 z18.prio, i6 z18.cost], fun _ h_ => rk (lbS 3 (hS22.blk (i := 9) rfl) rfl (h_.b 11 s11)),
               i6 id, fun _ h_ => rmv (h_.b 0 s0),
               pt g19 1, fun _ h_ => rk (fa 1 rfl (h_.b 11 s11)),
               i6 z18.prio, fun _ h_ => rk (ld hS22 9 rfl (h_.d 5 56)),
               .agg #[i6 id, i6 z18.prio, i6 0, i6 0, i6 0], fun _ h_ => rk (run_build (vals := #[(0, i6 id), (1, i6 z18.prio)]) (r := .agg #[i6 id, i6 z18.prio, i6 0, i6 0, i6 0]) rfl (bp2 (h_.d 4 55) (h_.d 6 57)) (by kernel_rfl)),
               i6 id, fun _ h_ => rmv (h_.b 0 s0),
               pt g19 0, fun _ h_ => rk (fa 0 rfl (h_.b 11 s11)),
               i6 z18.lan, fun _ h_ => rk (ld hS22 9 rfl (h_.d 9 60)),
               pt p.g 0, fun _ h_ => rk (run_nilCheck rfl (h_.d 0 51)),
               pt p.g 3, fun _ h_ => rk (fa 3 rfl (h_.d 14 65)), ?_⟩
              have hSp := hS22
              clear hS22
              refine ⟨fun a_ h_ => st_call (on_none rfl) (run_call rfl (map2 (h_.d 8 59) (h_.d 10 61)) rfl) (peersNew_any (κ := kap W) id z18.lan _ hSp) ?_, trivial⟩
              rintro e_ w26 ⟨g26, rfl, hS26⟩
              refine ⟨_, rfl, _, rfl, ?_⟩
              clear h_ a_ hSp
              replace hS26 : S (kap W) ((peersA g26 (peers0 id z18.lan)) :: (blkA p.g 168 (roCells p s v)) :: (portsA p s) :: (talksA p.tm s.talks) :: (mapA keyE toldE p.mm s.mine) :: (dbA p.dg s.db) :: (wheelA p.wg s.w) :: (rxmtA p.lg s.lists) :: (acksA p.ag s.later) :: (outA v s.out) :: (blkA g19 99 #[i6 z18.lan, i6 z18.prio, i6 z18.cost]) :: []) ((memA W W.heap.size) :: []) w26 := hS26
              refine ⟨fun _ h_ => rmv (h_.b 9 s9),
               fun _ h_ => rk (fa 0 rfl (h_.b 11 s11)),
               fun _ h_ => rk (ld hS26 10 rfl (h_.d 1 52)),
               fun _ h_ => rk (lbS 3 (hS26.blk (i := 10) rfl) rfl (h_.b 11 s11)),
               fun _ h_ => rmv (h_.b 0 s0),
               fun _ h_ => rk (fa 1 rfl (h_.b 11 s11)),
               fun _ h_ => rk (ld hS26 10 rfl (h_.d 5 56)),
               fun _ h_ => rk (run_build (vals := #[(0, i6 id), (1, i6 z18.prio)]) (r := .agg #[i6 id, i6 z18.prio, i6 0, i6 0, i6 0]) rfl (bp2 (h_.d 4 55) (h_.d 6 57)) (by kernel_rfl)),
               .agg #[i6 z18.lan, i6 z18.prio, i6 z18.cost, i6 id, i6 z18.prio, i6 0, i6 0, i6 0, pt g26 0], fun _ h_ => rk (run_build (vals := #[(0, .agg #[i6 z18.lan, i6 z18.prio, i6 z18.cost]), (1, .agg #[i6 id, i6 z18.prio, i6 0, i6 0, i6 0]), (2, pt g26 0)]) (r := .agg #[i6 z18.lan, i6 z18.prio, i6 z18.cost, i6 id, i6 z18.prio, i6 0, i6 0, i6 0, pt g26 0]) rfl (bp3 (h_.d 3 54) (h_.d 7 58) (h_.d 11 62)) (by kernel_rfl)),
               fun _ h_ => rk (run_nilCheck rfl (h_.d 0 51)),
               fun _ h_ => rk (fa 3 rfl (h_.d 14 65)), ?_⟩
              refine ⟨fun a_ h_ => st_box (cells := #[i6 z18.lan, i6 z18.prio, i6 z18.cost, i6 id, i6 z18.prio, i6 0, i6 0, i6 0, pt g26 0]) hS26 (on_none rfl) rfl (h_.d 12 63) (by kernel_rfl) fun g27 w27 hS27 hb27 => ⟨_, rfl, ?_⟩, trivial⟩
              clear h_ a_ hS26
              clear hb27
              refine ⟨fun _ h_ => rmv (h_.b 9 s9),
               fun _ h_ => rk (fa 0 rfl (h_.b 11 s11)),
               fun _ h_ => rk (ld hS27 11 rfl (h_.d 1 52)),
               fun _ h_ => rk (run_nilCheck rfl (h_.d 0 51)),
               fun _ h_ => rk (fa 3 rfl (h_.d 14 65)),
               pt p.g (3 + z18.lan.toNat), fun _ h_ => rk (run_indexP (n := 4) (size := 1) rfl (h_.d 15 66) (h_.d 2 53) (by kernel_rfl) ⟨hg3.1, by have := hg3.2.1; omega⟩ (by omega)), ?_⟩
              have hlz := hg3.1
              have hlz2 := hg3.2.1
              refine ⟨fun a_ h_ => st_set1 (k := 3 + z18.lan.toNat) (u := pt g27 0) 2 hS27 rfl (on_none rfl) rfl (h_.d 16 67) (h_.d 13 64) rfl (by kernel_rfl) (by rw [ro_size hF.1]; omega) rfl fun w28 hS28 _ => ⟨_, rfl, ?_⟩, trivial⟩
              clear h_ a_ hS27
              rw [ro_set (by rw [hF.1]; omega)] at hS28
              replace hS28 : S (kap W) ((blkA g27 174 #[i6 z18.lan, i6 z18.prio, i6 z18.cost, i6 id, i6 z18.prio, i6 0, i6 0, i6 0, pt g26 0]) :: (peersA g26 (peers0 id z18.lan)) :: (blkA p.g 168 (roCells { p with pts := p.pts.set z18.lan.toNat (some g27) } s v)) :: (portsA p s) :: (talksA p.tm s.talks) :: (mapA keyE toldE p.mm s.mine) :: (dbA p.dg s.db) :: (wheelA p.wg s.w) :: (rxmtA p.lg s.lists) :: (acksA p.ag s.later) :: (outA v s.out) :: (blkA g19 99 #[i6 z18.lan, i6 z18.prio, i6 z18.cost]) :: []) ((memA W W.heap.size) :: []) w28 := hS28
              intro a25 hput
              replace s0 := hput.o 0 s0
              replace s8 := hput.o 8 s8
              replace s9 := hput.o 9 s9
              replace s11 := hput.o 11 s11
              replace s32 := hput.o 32 s32
              replace s33 := hput.o 33 s33
              replace s34 := hput.o 34 s34
              replace s36 := hput.o 36 s36
              replace s37 := hput.o 37 s37
              replace s38 := hput.o 38 s38
              replace s39 := hput.o 39 s39
              replace s40 := hput.o 40 s40
              replace s41 := hput.o 41 s41
              replace s42 := hput.o 42 s42
              replace s43 := hput.o 43 s43
              replace s44 := hput.o 44 s44
              replace s45 := hput.o 45 s45
              replace s46 := hput.o 46 s46
              replace s47 := hput.o 47 s47
              replace s48 := hput.o 48 s48
              replace s49 := hput.o 49 s49
              have s51 : sl a25 51 = pt p.g 0 := hput.new 0 51 rfl
              have s52 : sl a25 52 = pt g19 0 := hput.new 1 52 rfl
              have s53 : sl a25 53 = i6 z18.lan := hput.new 2 53 rfl
              have s54 : sl a25 54 = .agg #[i6 z18.lan, i6 z18.prio, i6 z18.cost] := hput.new 3 54 rfl
              have s55 : sl a25 55 = i6 id := hput.new 4 55 rfl
              have s56 : sl a25 56 = pt g19 1 := hput.new 5 56 rfl
              have s57 : sl a25 57 = i6 z18.prio := hput.new 6 57 rfl
              have s58 : sl a25 58 = .agg #[i6 id, i6 z18.prio, i6 0, i6 0, i6 0] := hput.new 7 58 rfl
              have s59 : sl a25 59 = i6 id := hput.new 8 59 rfl
              have s60 : sl a25 60 = pt g19 0 := hput.new 9 60 rfl
              have s61 : sl a25 61 = i6 z18.lan := hput.new 10 61 rfl
              have s62 : sl a25 62 = pt g26 0 := hput.new 11 62 rfl
              have s63 : sl a25 63 = .agg #[i6 z18.lan, i6 z18.prio, i6 z18.cost, i6 id, i6 z18.prio, i6 0, i6 0, i6 0, pt g26 0] := hput.new 12 63 rfl
              have s64 : sl a25 64 = pt g27 0 := hput.new 13 64 rfl
              have s65 : sl a25 65 = pt p.g 0 := hput.new 14 65 rfl
              have s66 : sl a25 66 = pt p.g 3 := hput.new 15 66 rfl
              have s67 : sl a25 67 = pt p.g (3 + z18.lan.toNat) := hput.new 16 67 rfl
              replace hz := hput.size.trans hz
              replace hd := hput.defers.trans hd
              clear hput
              change Code.wp _ _ _ _ _
              refine seq_l [] hz ?_
              refine ⟨i6 (k + 1), fun _ h_ => rk (run_addI rfl (h_.b 34 s34) rfl (by omega) rfl),
               i6 (k + 1), fun _ h_ => rmv (h_.d 0 68), ?_⟩
              intro a29 hput
              replace s0 := hput.o 0 s0
              replace s8 := hput.o 8 s8
              replace s9 := hput.o 9 s9
              replace s11 := hput.o 11 s11
              replace s32 := hput.o 32 s32
              replace s33 := hput.o 33 s33
              replace s34 : sl a29 34 = i6 (k + 1) := hput.new 1 34 rfl
              replace s36 := hput.o 36 s36
              replace s37 := hput.o 37 s37
              replace s38 := hput.o 38 s38
              replace s39 := hput.o 39 s39
              replace s40 := hput.o 40 s40
              replace s41 := hput.o 41 s41
              replace s42 := hput.o 42 s42
              replace s43 := hput.o 43 s43
              replace s44 := hput.o 44 s44
              replace s45 := hput.o 45 s45
              replace s46 := hput.o 46 s46
              replace s47 := hput.o 47 s47
              replace s48 := hput.o 48 s48
              replace s49 := hput.o 49 s49
              replace s51 := hput.o 51 s51
              replace s52 := hput.o 52 s52
              replace s53 := hput.o 53 s53
              replace s54 := hput.o 54 s54
              replace s55 := hput.o 55 s55
              replace s56 := hput.o 56 s56
              replace s57 := hput.o 57 s57
              replace s58 := hput.o 58 s58
              replace s59 := hput.o 59 s59
              replace s60 := hput.o 60 s60
              replace s61 := hput.o 61 s61
              replace s62 := hput.o 62 s62
              replace s63 := hput.o 63 s63
              replace s64 := hput.o 64 s64
              replace s65 := hput.o 65 s65
              replace s66 := hput.o 66 s66
              replace s67 := hput.o 67 s67
              have s68 : sl a29 68 = i6 (k + 1) := hput.new 0 68 rfl
              replace hz := hput.size.trans hz
              replace hd := hput.defers.trans hd
              clear hput
              replace hS28 := hS28.front (i := 11) rfl
              replace hS28 : S (kap W) ((blkA g19 99 #[i6 z18.lan, i6 z18.prio, i6 z18.cost]) :: (blkA g27 174 #[i6 z18.lan, i6 z18.prio, i6 z18.cost, i6 id, i6 z18.prio, i6 0, i6 0, i6 0, pt g26 0]) :: (peersA g26 (peers0 id z18.lan)) :: (blkA p.g 168 (roCells { p with pts := p.pts.set z18.lan.toNat (some g27) } s v)) :: (portsA p s) :: (talksA p.tm s.talks) :: (mapA keyE toldE p.mm s.mine) :: (dbA p.dg s.db) :: (wheelA p.wg s.w) :: (rxmtA p.lg s.lists) :: (acksA p.ag s.later) :: (outA v s.out) :: []) ((memA W W.heap.size) :: []) w28 := hS28
              replace hS28 := hS28.drop
              replace hS28 := hS28.front (i := 10) rfl
              replace hS28 := hS28.front (i := 10) rfl
              replace hS28 := hS28.front (i := 10) rfl
              replace hS28 := hS28.front (i := 10) rfl
              replace hS28 := hS28.front (i := 10) rfl
              replace hS28 := hS28.front (i := 10) rfl
              replace hS28 := hS28.front (i := 10) rfl
              replace hS28 := hS28.front (i := 9) rfl
              replace hS28 := hS28.front (i := 10) rfl
              replace hS28 := hS28.front (i := 10) rfl
              replace hS28 := hS28.front (i := 10) rfl
              replace hS28 : S (kap W) ((blkA g27 174 #[i6 z18.lan, i6 z18.prio, i6 z18.cost, i6 id, i6 z18.prio, i6 0, i6 0, i6 0, pt g26 0]) :: (peersA g26 (peers0 id z18.lan)) :: (portsA p s) :: (blkA p.g 168 (roCells { p with pts := p.pts.set z18.lan.toNat (some g27) } s v)) :: (talksA p.tm s.talks) :: (mapA keyE toldE p.mm s.mine) :: (dbA p.dg s.db) :: (wheelA p.wg s.w) :: (rxmtA p.lg s.lists) :: (acksA p.ag s.later) :: (outA v s.out) :: []) ((memA W W.heap.size) :: []) w28 := hS28
              have hS1 := ports_new (y := port0 id z18) ho (add_yes hF ho rfl) (port_close (x := port0 id z18) hS28)
              replace hS1 := hS1.front (i := 1) rfl
              have hS2 := ro_close (p := { p with pts := p.pts.set z18.lan.toNat (some g27) }) (s := addP id s z18) (v := v) (fits_add hF (by omega)) hS1
              refine ⟨⟨k + 1, { p with pts := p.pts.set z18.lan.toNat (some g27) }, addP id s z18, by omega, adds_next hc0_1 hz18 ⟨hg3, add_yes hF ho rfl⟩, hz, hd, s0, s8, s9, s32, s33, s34, hS2⟩, ?_⟩
              show n - (intOf (sl a29 34)).toNat < n - (intOf (sl a15 34)).toNat
              rw [show sl a29 34 = _ from s34, show sl a15 34 = _ from hmu0]
              simp only [intOf]
              omega
        · clear s35
          refine wp_exit ?_
          change Code.wp _ _ _ _ _
          refine wp_seq ?_
          refine wp_seq ?_
          obtain rfl : k = n := by omega
          rw [List.take_of_length_le (by have := pts_len hR; omega)] at hc0_1
          obtain ⟨v, hF, hSo⟩ := ro_open (hS15.front (i := 0) rfl)
          clear hS15
          have hS15 : S (kap W) ((blkA p.g 168 (roCells p s v)) :: (portsA p s) :: (talksA p.tm s.talks) :: (mapA keyE toldE p.mm s.mine) :: (dbA p.dg s.db) :: (wheelA p.wg s.w) :: (rxmtA p.lg s.lists) :: (acksA p.ag s.later) :: (outA v s.out) :: []) ((memA W W.heap.size) :: []) w15 := hSo
          clear hSo
          refine seq_l [] hz ?_
          refine ⟨pt p.g 0, fun _ h_ => rmv (h_.b 9 s9),
           pt p.g 0, fun _ h_ => rk (run_nilCheck rfl (h_.d 0 69)),
           pt p.g 3, fun _ h_ => rk (fa 3 rfl (h_.d 1 70)),
           .agg (p.pts.map ptO).toArray, fun _ h_ => rk (run_loadAV (n := 4) rfl (h_.d 2 71) (by kernel_rfl) (by rw [List.length_map]; exact hF.1) (ro_arr (hS15.blk (i := 0) rfl) hF.1)),
           i6 0, fun _ h_ => rk (run_move rfl rfl), ?_⟩
          intro a30 hput
          replace s8 := hput.o 8 s8
          replace s9 := hput.o 9 s9
          have s72 : sl a30 72 = .agg (p.pts.map ptO).toArray := hput.new 3 72 rfl
          have s73 : sl a30 73 = i6 0 := hput.new 4 73 rfl
          replace hz := hput.size.trans hz
          replace hd := hput.defers.trans hd
          clear hput s0 s32 s33 s34
          replace hS15 := hS15.front (i := 8) rfl
          replace hS15 := hS15.front (i := 8) rfl
          replace hS15 := hS15.front (i := 8) rfl
          replace hS15 := hS15.front (i := 8) rfl
          replace hS15 := hS15.front (i := 8) rfl
          replace hS15 := hS15.front (i := 8) rfl
          replace hS15 := hS15.front (i := 8) rfl
          replace hS15 := hS15.front (i := 8) rfl
          replace hS15 := hS15.front (i := 8) rfl
          replace hS15 : S (kap W) ((blkA p.g 168 (roCells p s v)) :: (portsA p s) :: (talksA p.tm s.talks) :: (mapA keyE toldE p.mm s.mine) :: (dbA p.dg s.db) :: (wheelA p.wg s.w) :: (rxmtA p.lg s.lists) :: (acksA p.ag s.later) :: (outA v s.out) :: []) ((memA W W.heap.size) :: []) w15 := hS15
          have hSc := ro_close hF hS15
          clear hS15
          have hz4 := hF.1
          have hnw := (adds_inv hc0_1).1
          change Code.wp _ _ _ _ _
          refine wp_block ?_
          refine wp_loop (fun a_ w_ => ∃ k_ : Nat, (k_ ≤ 4) ∧ a_.tmps.size = 83 ∧ a_.defers = [] ∧ sl a_ 8 = .pointer none ∧ sl a_ 9 = pt p.g 0 ∧ sl a_ 72 = .agg (p.pts.map ptO).toArray ∧ sl a_ 73 = i6 k_ ∧ S (kap W) ((roA p (upsF k_ s)) :: []) ((memA W W.heap.size) :: []) w_) (fun a_ _ => 4 - (intOf (sl a_ 73)).toNat) ?_ ?_
          · exact ⟨0, Nat.zero_le _, hz, hd, s8, s9, s72, s73, hSc⟩
          · clear hz hd s8 s9 s72 s73 hSc
            rintro a31 w31 ⟨k_, hc2_0, hz, hd, s8, s9, s72, s73, hS31⟩
            have hmu2 := s73
            refine wp_seq ?_
            refine seq_l [] hz ?_
            refine ⟨.bool (decide ((k_ : Int) < 4)), fun _ h_ => rk (run_cmp rfl (h_.b 73 s73) rfl rfl (by first | rfl | exact neq_dec _ _ | exact eq_dec _ _ | simp)), ?_⟩
            intro a32 hput
            replace s8 := hput.o 8 s8
            replace s9 := hput.o 9 s9
            replace s72 := hput.o 72 s72
            replace s73 := hput.o 73 s73
            have s74 : sl a32 74 = .bool (decide ((k_ : Int) < 4)) := hput.new 0 74 rfl
            replace hz := hput.size.trans hz
            replace hd := hput.defers.trans hd
            clear hput
            change Code.wp _ _ _ _ _
            refine wp_seq ?_
            refine wp_cond_d s74 (fun hc74 => ?_) (fun hc74 => ?_)
            · clear s74
              refine wp_skip ?_
              change Code.wp _ _ _ _ _
              refine wp_seq ?_
              refine wp_block ?_
              refine wp_seq ?_
              refine seq_l [] hz ?_
              have hFk := ro_fits hS31
              obtain ⟨o2, ho2⟩ : ∃ o, p.pts[k_]? = some o := ⟨_, List.getElem?_eq_getElem (by omega)⟩
              refine ⟨ptO o2, fun _ h_ => rk (run_indexA (n := 4) (e := 164) rfl (h_.b 72 s72) (h_.b 73 s73) (by kernel_rfl) (by kernel_rfl) (by kernel_rfl) (by omega) (show (p.pts.map ptO).toArray[((k_ : Int)).toNat]? = some (ptO o2) by rw [Int.toNat_natCast, List.getElem?_toArray, List.getElem?_map, ho2]; rfl)),
               ptO o2, fun _ h_ => ras (h_.d 0 75), ?_⟩
              intro a33 hput
              replace s8 := hput.o 8 s8
              replace s9 := hput.o 9 s9
              have s13 : sl a33 13 = ptO o2 := hput.new 1 13 rfl
              replace s72 := hput.o 72 s72
              replace s73 := hput.o 73 s73
              have s75 : sl a33 75 = ptO o2 := hput.new 0 75 rfl
              replace hz := hput.size.trans hz
              replace hd := hput.defers.trans hd
              clear hput
              change Code.wp _ _ _ _ _
              refine wp_seq ?_
              refine seq_l [] hz ?_
              refine ⟨ptO o2, fun _ h_ => rmv (h_.b 13 s13),
               .bool o2.isSome, fun _ h_ => rk (run_bin2 rfl (h_.d 0 76) rfl (fun _ => by cases o2 <;> kernel_rfl) (fun _ => by cases o2 <;> rfl)), ?_⟩
              intro a34 hput
              replace s8 := hput.o 8 s8
              replace s9 := hput.o 9 s9
              replace s13 := hput.o 13 s13
              replace s72 := hput.o 72 s72
              replace s73 := hput.o 73 s73
              replace s75 := hput.o 75 s75
              have s76 : sl a34 76 = ptO o2 := hput.new 0 76 rfl
              have s77 : sl a34 77 = .bool o2.isSome := hput.new 1 77 rfl
              replace hz := hput.size.trans hz
              replace hd := hput.defers.trans hd
              clear hput
              change Code.wp _ _ _ _ _
              refine wp_cond_b s77 (fun hc77 => ?_) (fun hc77 => ?_)
              · clear s77
                obtain ⟨ap, rfl⟩ := Option.isSome_iff_exists.1 hc77
                replace s13 : sl a34 13 = pt ap 0 := s13
                obtain ⟨x, hx⟩ := fits_some hFk ho2
                refine seq_l [2] hz ?_
                refine ⟨pt p.g 0, fun _ h_ => rmv (h_.b 9 s9),
                 pt ap 0, fun _ h_ => rmv (h_.b 13 s13), ?_⟩
                have hSp := hS31
                clear hS31
                refine ⟨fun a_ h_ => st_call (on_none rfl) (run_call rfl (map2 (h_.d 0 78) (h_.d 1 79)) rfl) (up_any p (upsF k_ s) k_ ap x _ ho2 hx (by rw [(ups_inv k_ s).1, hnw]; show (0 : Int) ≤ 0 ∧ (0 : Int) ≤ 1000000000000; omega) hSp) ?_, trivial⟩
                rintro e_ w36 ⟨rfl, hS36⟩
                refine ⟨_, rfl, _, rfl, ?_⟩
                clear h_ a_ hSp
                replace hS36 : S (kap W) ((roA p (upF k_ x (upsF k_ s))) :: []) ((memA W W.heap.size) :: []) w36 := hS36
                rw [← ups_some hx] at hS36
                intro a35 hput
                replace s8 := hput.o 8 s8
                replace s9 := hput.o 9 s9
                replace s13 := hput.o 13 s13
                replace s72 := hput.o 72 s72
                replace s73 := hput.o 73 s73
                replace s75 := hput.o 75 s75
                replace s76 := hput.o 76 s76
                have s78 : sl a35 78 = pt p.g 0 := hput.new 0 78 rfl
                have s79 : sl a35 79 = pt ap 0 := hput.new 1 79 rfl
                replace hz := hput.size.trans hz
                replace hd := hput.defers.trans hd
                clear hput
                change Code.wp _ _ _ _ _
                refine seq_l [] hz ?_
                refine ⟨i6 (k_ + 1), fun _ h_ => rk (run_addI rfl (h_.b 73 s73) rfl (by omega) rfl),
                 i6 (k_ + 1), fun _ h_ => rmv (h_.d 0 81), ?_⟩
                intro a37 hput
                replace s8 := hput.o 8 s8
                replace s9 := hput.o 9 s9
                replace s13 := hput.o 13 s13
                replace s72 := hput.o 72 s72
                replace s73 : sl a37 73 = i6 (k_ + 1) := hput.new 1 73 rfl
                replace s75 := hput.o 75 s75
                replace s76 := hput.o 76 s76
                replace s78 := hput.o 78 s78
                replace s79 := hput.o 79 s79
                have s81 : sl a37 81 = i6 (k_ + 1) := hput.new 0 81 rfl
                replace hz := hput.size.trans hz
                replace hd := hput.defers.trans hd
                clear hput
                refine ⟨⟨k_ + 1, by omega, hz, hd, s8, s9, s72, s73, hS36⟩, ?_⟩
                show 4 - (intOf (sl a37 73)).toNat < 4 - (intOf (sl a31 73)).toNat
                rw [show sl a37 73 = _ from s73, show sl a31 73 = _ from hmu2]
                simp only [intOf]
                omega
              · clear s77
                refine wp_skip ?_
                change Code.wp _ _ _ _ _
                refine seq_l [] hz ?_
                refine ⟨i6 (k_ + 1), fun _ h_ => rk (run_addI rfl (h_.b 73 s73) rfl (by omega) rfl),
                 i6 (k_ + 1), fun _ h_ => rmv (h_.d 0 81), ?_⟩
                intro a38 hput
                replace s8 := hput.o 8 s8
                replace s9 := hput.o 9 s9
                replace s13 := hput.o 13 s13
                replace s72 := hput.o 72 s72
                replace s73 : sl a38 73 = i6 (k_ + 1) := hput.new 1 73 rfl
                replace s75 := hput.o 75 s75
                replace s76 := hput.o 76 s76
                have s81 : sl a38 81 = i6 (k_ + 1) := hput.new 0 81 rfl
                replace hz := hput.size.trans hz
                replace hd := hput.defers.trans hd
                clear hput
                rw [← ro_skip hFk ho2 hc77] at hS31
                refine ⟨⟨k_ + 1, by omega, hz, hd, s8, s9, s72, s73, hS31⟩, ?_⟩
                show 4 - (intOf (sl a38 73)).toNat < 4 - (intOf (sl a31 73)).toNat
                rw [show sl a38 73 = _ from s73, show sl a31 73 = _ from hmu2]
                simp only [intOf]
                omega
            · clear s74
              refine wp_exit ?_
              change Code.wp _ _ _ _ _
              refine wp_seq ?_
              refine seq_l [] hz ?_
              refine ⟨pt p.g 0, fun _ h_ => rmv (h_.b 9 s9),
               pt p.g 0, fun _ h_ => ras (h_.d 0 82), ?_⟩
              intro a39 hput
              replace s8 : sl a39 8 = pt p.g 0 := hput.new 1 8 rfl
              replace hz := hput.size.trans hz
              replace hd := hput.defers.trans hd
              clear hput s9 s72 s73
              change Code.wp _ _ _ _ _
              refine wp_ret ?_
              refine ret1 (P := Try.prog) (fn := Try.f80) hd s8 (hR_ _ _ ?_)
              obtain rfl : k_ = 4 := by omega
              exact .inr ⟨upsF 4 s, p, by unfold newF; rw [if_neg (by omega), hc0_1]; rfl, rfl, hS31⟩
end Go.Proofs.Ytdenfgnkbfbpmaa
