/-
  The list of neighbors and the reference's list side by side: what each call does to both.
-/
import Derived.Test.YtmehglliajefaaaQ
namespace Go.Proofs.Ytmehglliajefaaa
open Go.RowKit

/-- the blocks that K names are as they were -/
def SameK (K : Nat → Prop) (wr w2 : World) : Prop := ∀ g, K g → g < wr.heap.size → w2.heap[g]? = wr.heap[g]?
theorem SameK.blk {K : Nat → Prop} {wr w2 : World} (h : SameK K wr w2) {g : Nat} {t : TypeId} {cs : Array Value} (hb : Blk wr g t cs) (hg : K g) : Blk w2 g t cs := (h g hg hb.lt).trans hb
structure PBAt (w wr : World) (p1 p2 b2 : Nat) (me lan : Int) (ad : Nat → Option Nat) (ps : Nat → PV) (l : List PV) (K F1 F2 : Nat → Prop) (A : Option Addr) (c : Nat) : Prop where
  rep : PeersRep wr F1 p1 me lan ad ps
  ref : RefP wr F2 p2 b2 me lan l A c
  d : ∀ g, F1 g → ¬ F2 g
  lo1 : ∀ g, F1 g → w.heap.size ≤ g
  lo2 : ∀ g, F2 g → w.heap.size ≤ g
  no1 : ∀ g, F1 g → ¬ K g
  no2 : ∀ g, F2 g → ¬ K g
  klt : ∀ g, K g → g < wr.heap.size
  bel : Below w.heap.size w wr
def PB (w wr : World) (p1 p2 b2 : Nat) (me lan : Int) (ad : Nat → Option Nat) (ps : Nat → PV) (l : List PV) (K : Nat → Prop) : Prop :=
  ∃ F1 F2 A c, PBAt w wr p1 p2 b2 me lan ad ps l K F1 F2 A c

section
variable {w wr w2 : World} {p1 p2 b2 : Nat} {me lan : Int} {ad : Nat → Option Nat} {ps : Nat → PV} {l : List PV} {K : Nat → Prop}
theorem PB.below (h : PB w wr p1 p2 b2 me lan ad ps l K) (hb : Below wr.heap.size wr w2) : PB w w2 p1 p2 b2 me lan ad ps l K := by
  obtain ⟨F1, F2, A, c, h⟩ := h
  exact ⟨F1, F2, A, c, h.rep.below hb, h.ref.below hb, h.d, h.lo1, h.lo2, h.no1, h.no2, fun g hg => Nat.lt_of_lt_of_le (h.klt g hg) hb.size, below0 h.bel hb⟩
theorem PB.drew (h : PB w wr p1 p2 b2 me lan ad ps l K) : PB w wr.drew p1 p2 b2 me lan ad ps l K := h.below (Below.refl _ _).drew
theorem PB.frame (h : PB w wr p1 p2 b2 me lan ad ps l K) : Below w.heap.size w wr := by
  obtain ⟨F1, F2, A, c, h⟩ := h
  exact h.bel
theorem PB.withNew (h : PB w wr p1 p2 b2 me lan ad ps l K) (o : Obj) : PB w (wr.alloc o) p1 p2 b2 me lan ad ps l (fun g => g = wr.heap.size) := by
  have hb := (Below.refl wr.heap.size wr).alloc (Nat.le_refl _) o
  obtain ⟨F1, F2, A, c, h⟩ := h
  refine ⟨F1, F2, A, c, h.rep.below hb, h.ref.below hb, h.d, h.lo1, h.lo2, fun g hg e => ?_, fun g hg e => ?_, fun g hg => by cases hg; simp, below0 h.bel hb⟩
  · subst e; exact absurd (h.rep.lt _ hg) (Nat.lt_irrefl _)
  · subst e; exact absurd (h.ref.lt _ hg) (Nat.lt_irrefl _)
theorem PB.forget (h : PB w wr p1 p2 b2 me lan ad ps l K) : PB w wr p1 p2 b2 me lan ad ps l (fun _ => False) := by
  obtain ⟨F1, F2, A, c, h⟩ := h
  exact ⟨F1, F2, A, c, h.rep, h.ref, h.d, h.lo1, h.lo2, fun _ _ h => h, fun _ _ h => h, fun _ h => h.elim, h.bel⟩
theorem PBAt.turn1 {F1 F2 F' : Nat → Prop} {A : Option Addr} {c : Nat} (h : PBAt w wr p1 p2 b2 me lan ad ps l K F1 F2 A c) {ad' : Nat → Option Nat} {ps' : Nat → PV}
    (hR : PeersRep w2 F' p1 me lan ad' ps') (hF : ∀ g, F' g → F1 g ∨ wr.heap.size ≤ g) (hK : Keeps F1 wr w2) : PB w w2 p1 p2 b2 me lan ad' ps' l K ∧ SameK K wr w2 := by
  refine ⟨⟨F', F2, A, c, hR, h.ref.keep hK (fun g h2 h1 => h.d g h1 h2), fun g h1 h2 => ?_, fun g hg => ?_, h.lo2, fun g hg hk => ?_, h.no2, fun g hg => Nat.lt_of_lt_of_le (h.klt g hg) hK.size, below_keeps h.bel hK h.lo1⟩, fun g hg hlt => hK.block g hlt (fun hf => h.no1 g hf hg)⟩
  · rcases hF g h1 with h3 | h3
    · exact h.d g h3 h2
    · have := h.ref.lt g h2; omega
  · rcases hF g hg with h3 | h3
    · exact h.lo1 g h3
    · have := h.bel.size; omega
  · rcases hF g hg with h3 | h3
    · exact h.no1 g h3 hk
    · have := h.klt g hk; omega
theorem PBAt.turn2 {F1 F2 : Nat → Prop} {A : Option Addr} {c : Nat} (h : PBAt w wr p1 p2 b2 me lan ad ps l K F1 F2 A c) {l' : List PV}
    (hL : RefPAt wr F2 p2 b2 me lan l' w2) : PB w w2 p1 p2 b2 me lan ad ps l' K ∧ SameK K wr w2 := by
  obtain ⟨F', A', c', hR, hF, hK⟩ := hL
  refine ⟨⟨F1, F', A', c', h.rep.keep hK (fun g h1 h2 => h.d g h1 h2), hR, fun g h1 h2 => ?_, h.lo1, fun g hg => ?_, h.no1, fun g hg hk => ?_, fun g hg => Nat.lt_of_lt_of_le (h.klt g hg) hK.size, below_keeps h.bel hK h.lo2⟩, fun g hg hlt => hK.block g hlt (fun hf => h.no2 g hf hg)⟩
  · rcases hF g h2 with h3 | h3
    · exact h.d g h1 h3
    · have := h.rep.lt g h1; omega
  · rcases hF g hg with h3 | h3
    · exact h.lo2 g h3
    · have := h.bel.size; omega
  · rcases hF g hg with h3 | h3
    · exact h.no2 g h3 hk
    · have := h.klt g hk; omega

/-- what a Hello does to the table, and what is told of it -/
def HearRel (me lan frm every dead prio dr bdr now : Int) (seen : List Int) (ad : Nat → Option Nat) (ps : Nat → PV) (ad' : Nat → Option Nat) (ps' : Nat → PV) (v : Value) : Prop :=
  (¬ takes me lan frm every dead dr bdr ∧ v = heardV false false false false false ∧ ad' = ad ∧ ps' = ps) ∨
  ∃ (q : Nat) (x : PV) (fr : Bool), frm = q ∧ takes me lan frm every dead dr bdr ∧ 1 ≤ q ∧ q ≤ 15 ∧ ((fr = false ∧ (ad q).isSome = true ∧ x = ps q ∧ ad' = ad) ∨ (fr = true ∧ ad q = none ∧ x = newP q ∧ ∃ g, ad' = setAd ad q (some g))) ∧
    ps' = (fun i => if i = q then heardF me prio dr bdr now seen x else ps i) ∧ v = heardV true fr (heardF me prio dr bdr now seen x).two (x.two && !(heardF me prio dr bdr now seen x).two) (decide (claimsF x ≠ claimsF (heardF me prio dr bdr now seen x)))

theorem hv_apart {F : Nat → Prop} {A : Option Addr} {n : Nat} {seen : List Int} (hr : Reads w w.heap.size 1 A n (ints seen)) (hlo : ∀ g, F g → w.heap.size ≤ g) : 0 < n → ∀ b off, A = some ⟨b, off, none⟩ → ¬ F b := fun h0 b off e hg => by
  obtain ⟨b', off', e', hlt', _⟩ := hr.2 h0
  have e2 := e'.symm.trans e
  simp only [Option.some.injEq, Addr.mk.injEq, and_true] at e2
  obtain ⟨rfl, rfl⟩ := e2
  have := hlo _ hg
  omega

theorem two_hear1 (h : PB w wr p1 p2 b2 me lan ad ps l K) (hl0 : 0 ≤ lan) (hl1 : lan ≤ 3) (frm every dead prio dr bdr now : Int) (A : Option Addr) (n c : Nat) (seen : List Int) (hr : Reads w w.heap.size 1 A n (ints seen)) (hn : n ≤ 100000) :
    Calls Try.prog 8 #[.pointer (some ⟨p1, 0, none⟩), .int .i64 frm, .agg #[.int .i64 every, .int .i64 dead, .int .i64 prio, .int .i64 dr, .int .i64 bdr, .slice A n c], .int .i64 now] wr fun r w' =>
      ∃ v ad' ps', r = .returned v ∧ HearRel me lan frm every dead prio dr bdr now seen ad ps ad' ps' v ∧ PB w w' p1 p2 b2 me lan ad' ps' l K ∧ SameK K wr w' := by
  have hB := h
  obtain ⟨F1, F2, A0, c0, h⟩ := h
  by_cases ht : takes me lan frm every dead dr bdr
  · have ht2 := ht
    obtain ⟨t1, t2, t3, rfl, rfl, t6, t7⟩ := ht2
    obtain ⟨q, rfl⟩ : ∃ q : Nat, frm = q := ⟨frm.toNat, by omega⟩
    have hr' := (hr.below h.bel).more h.bel.size
    cases hg : ad q with
    | none =>
      refine (hear_fresh F1 p1 me lan ad ps q prio dr bdr now A n c seen wr h.rep hl0 hl1 (by omega) (by omega) t1 t6 t7 hg hr' (hv_apart hr h.lo1) hn).mono ?_
      rintro r w' ⟨rfl, g, hg1, hg2, hR, hK⟩
      obtain ⟨hP, hS⟩ := h.turn1 hR (fun x hx => hx.imp id (fun e => by omega)) hK
      exact ⟨_, _, _, rfl, .inr ⟨q, newP q, true, rfl, ht, by omega, by omega, .inr ⟨rfl, hg, rfl, g, rfl⟩, rfl, rfl⟩, hP, hS⟩
    | some g =>
      refine (hear_known F1 p1 me lan ad ps q g prio dr bdr now A n c seen wr h.rep hl0 hl1 (by omega) (by omega) t1 t6 t7 hg hr' (hv_apart hr h.lo1) hn).mono ?_
      rintro r w' ⟨rfl, hR, hK⟩
      obtain ⟨hP, hS⟩ := h.turn1 hR (fun x hx => .inl hx) hK
      exact ⟨_, _, _, rfl, .inr ⟨q, ps q, false, rfl, ht, by omega, by omega, .inl ⟨rfl, by rw [hg]; rfl, rfl, rfl⟩, rfl, rfl⟩, hP, hS⟩
  · refine (hear_no p1 me lan frm every dead prio dr bdr now A n c wr hl0 hl1 (h.rep.box.cell 0) (h.rep.box.cell 1) ht).mono ?_
    rintro r w' ⟨rfl, hb⟩
    exact ⟨_, ad, ps, rfl, .inl ⟨ht, rfl, rfl, rfl⟩, hB.below hb, fun g _ hg => hb.block g hg⟩
theorem two_hear2 {ad0 : Nat → Option Nat} {ps0 : Nat → PV} (h : PB w wr p1 p2 b2 me lan ad ps (allL ad0 ps0) K) (hT : TabOK ad0 ps0) (hl0 : 0 ≤ lan) (hl1 : lan ≤ 3) (frm every dead prio dr bdr now : Int) (A : Option Addr) (n c : Nat) (seen : List Int) (v : Value) (hH : HearRel me lan frm every dead prio dr bdr now seen ad0 ps0 ad ps v) (hr : Reads w w.heap.size 1 A n (ints seen)) (hn : n ≤ 100000) :
    Calls Try.prog 11 #[.pointer (some ⟨p2, 0, none⟩), .int .i64 frm, .agg #[.int .i64 every, .int .i64 dead, .int .i64 prio, .int .i64 dr, .int .i64 bdr, .slice A n c], .int .i64 now] wr fun r w' =>
      r = .returned v ∧ PB w w' p1 p2 b2 me lan ad ps (allL ad ps) K ∧ SameK K wr w' := by
  have hB := h
  obtain ⟨F1, F2, A0, c0, h⟩ := h
  rcases hH with ⟨ht, rfl, rfl, rfl⟩ | ⟨q, x, fr, rfl, ht, hq1, hq2, hcase, rfl, rfl⟩
  · refine (refHear_no F2 p2 b2 me lan _ A0 c0 frm every dead prio dr bdr now A n c wr h.ref hl0 hl1 ht).mono ?_
    rintro r w' ⟨rfl, hb⟩
    exact ⟨rfl, hB.below hb, fun g _ hg => hb.block g hg⟩
  · have ht2 := ht
    obtain ⟨t1, t2, t3, rfl, rfl, t6, t7⟩ := ht2
    have hr' := (hr.below h.bel).more h.bel.size
    have hle := allL_le ad0 ps0
    rcases hcase with ⟨rfl, hs, rfl, rfl⟩ | ⟨rfl, hs, rfl, g, rfl⟩
    · obtain ⟨f1, f2⟩ := find_some hT q (by omega) hs
      refine (refHear_yes F2 p2 b2 me lan _ A0 c0 q prio dr bdr now A n c _ false _ _ seen wr h.ref (by omega) hl0 hl1 ht (.inl ⟨rfl, by omega, rfl⟩) f1 f2 hr' (hv_apart hr h.lo2) hn).mono ?_
      rintro r w' ⟨rfl, hL⟩
      rw [set_some q (by omega) hs] at hL
      exact ⟨rfl, h.turn2 hL⟩
    · obtain ⟨f0, f1, f2, f3⟩ := ins_law hT q g (by omega) hs (heardF me prio dr bdr now seen (newP q))
      have hno : findI (allL ad0 ps0) (q : Int) = -1 := find_none hT q (fun q' e _ => by
        obtain rfl : q' = q := by omega
        exact hs)
      refine (refHear_yes F2 p2 b2 me lan _ A0 c0 q prio dr bdr now A n c _ true _ _ seen wr h.ref (by omega) hl0 hl1 ht (.inr ⟨rfl, by omega, rfl⟩) f1 f2 hr' (hv_apart hr h.lo2) hn).mono ?_
      rintro r w' ⟨rfl, hL⟩
      rw [f3] at hL
      exact ⟨rfl, h.turn2 hL⟩

theorem two_late1 (h : PB w wr p1 p2 b2 me lan ad ps l K) (now : Int) :
    Calls Try.prog 10 #[.pointer (some ⟨p1, 0, none⟩), .int .i64 now] wr fun r w' => ∃ A c, r = .returned (.slice A ((allL ad ps).filter (lateB now)).length c) ∧ w'.ownsRow wr.heap.size 3 1 (.slice A ((allL ad ps).filter (lateB now)).length c) ((allL ad ps).filter (lateB now)).length (ints (((allL ad ps).filter (lateB now)).map (·.id))) ∧ Below wr.heap.size wr w' := by
  obtain ⟨F1, F2, A0, c0, h⟩ := h
  have := late_any F1 p1 me lan ad ps now wr h.rep
  rwa [listF_allL] at this
theorem two_late2 (h : PB w wr p1 p2 b2 me lan ad ps l K) (hl : l.length ≤ 100000) (now : Int) :
    Calls Try.prog 13 #[.pointer (some ⟨p2, 0, none⟩), .int .i64 now] wr fun r w' => ∃ A c, r = .returned (.slice A (l.filter (lateB now)).length c) ∧ w'.ownsRow wr.heap.size 3 1 (.slice A (l.filter (lateB now)).length c) (l.filter (lateB now)).length (ints ((l.filter (lateB now)).map (·.id))) ∧ Below wr.heap.size wr w' := by
  obtain ⟨F1, F2, A0, c0, h⟩ := h
  exact refLate_any F2 p2 b2 me lan l A0 c0 now wr h.ref hl

def dropAd (ad : Nat → Option Nat) (i : Int) : Nat → Option Nat := match atF ad i with | some _ => setAd ad i.toNat none | none => ad
theorem atF_some {i : Int} {g : Nat} (h : atF ad i = some g) : ∃ q : Nat, i = q ∧ 1 ≤ q ∧ q ≤ 15 ∧ ad q = some g := by
  unfold atF at h
  split at h
  · rename_i hi
    exact ⟨i.toNat, by omega, by omega, by omega, h⟩
  · cases h
theorem two_drop1 (h : PB w wr p1 p2 b2 me lan ad ps l K) (i : Int) :
    Calls Try.prog 14 #[.pointer (some ⟨p1, 0, none⟩), .int .i64 i] wr fun r w' => r = .returned (.bool (atF ad i).isSome) ∧ PB w w' p1 p2 b2 me lan (dropAd ad i) ps l K ∧ SameK K wr w' := by
  have hB := h
  obtain ⟨F1, F2, A0, c0, h⟩ := h
  unfold dropAd
  cases ha : atF ad i with
  | none =>
    refine (drop_none p1 me lan ad i wr h.rep.box ha).mono ?_
    rintro r w' ⟨rfl, rfl⟩
    exact ⟨rfl, hB, fun g _ hg => rfl⟩
  | some g =>
    obtain ⟨q, rfl, hq1, hq2, hg⟩ := atF_some ha
    refine (drop_some F1 p1 me lan ad ps q g wr h.rep hq1 hq2 hg).mono ?_
    rintro r w' ⟨rfl, hR, hK⟩
    exact ⟨rfl, h.turn1 hR (fun x hx => .inl hx) hK⟩
theorem two_drop2 {ad0 : Nat → Option Nat} (h : PB w wr p1 p2 b2 me lan ad ps (allL ad0 ps) K) (hT : TabOK ad0 ps) (i : Int) :
    Calls Try.prog 15 #[.pointer (some ⟨p2, 0, none⟩), .int .i64 i] wr fun r w' => r = .returned (.bool (atF ad0 i).isSome) ∧ PB w w' p1 p2 b2 me lan ad ps (allL (dropAd ad0 i) ps) K ∧ SameK K wr w' := by
  obtain ⟨F1, F2, A0, c0, h⟩ := h
  refine (refDrop_any F2 p2 b2 me lan _ A0 c0 i wr h.ref (by have := allL_le ad0 ps; omega)).mono ?_
  rintro r w' ⟨rfl, hL⟩
  rw [find_atF hT]
  refine ⟨rfl, ?_⟩
  unfold dropAd
  cases ha : atF ad0 i with
  | none =>
    rw [drop_none_law hT i ha] at hL
    exact h.turn2 hL
  | some g =>
    obtain ⟨q, rfl, hq1, hq2, hg⟩ := atF_some ha
    rw [drop_some_law hT q (by omega) (by rw [hg]; rfl)] at hL
    exact h.turn2 hL

def setB (ad : Nat → Option Nat) (i s : Int) : Bool := (atF ad i).isSome && decide (0 ≤ s ∧ s ≤ 6)
def setPs (ad : Nat → Option Nat) (ps : Nat → PV) (i s : Int) : Nat → PV := if setB ad i s = true then (fun k => if k = i.toNat then { ps i.toNat with state := s } else ps k) else ps
theorem two_set1 (h : PB w wr p1 p2 b2 me lan ad ps l K) (i s : Int) :
    Calls Try.prog 16 #[.pointer (some ⟨p1, 0, none⟩), .int .i64 i, .int .i64 s] wr fun r w' => r = .returned (.bool (setB ad i s)) ∧ PB w w' p1 p2 b2 me lan ad (setPs ad ps i s) l K ∧ SameK K wr w' := by
  have hB := h
  obtain ⟨F1, F2, A0, c0, h⟩ := h
  unfold setPs
  cases hb : setB ad i s with
  | false =>
    refine (set_no p1 me lan ad i s wr h.rep.box ?_).mono ?_
    · unfold setB at hb
      cases ha : atF ad i with
      | none => exact .inl rfl
      | some g =>
        rw [ha] at hb
        simp at hb
        by_cases h0 : s < 0
        · exact .inr (.inl h0)
        · exact .inr (.inr (hb (by omega)))
    · rintro r w' ⟨rfl, rfl⟩
      exact ⟨rfl, hB, fun g _ hg => rfl⟩
  | true =>
    unfold setB at hb
    simp only [Bool.and_eq_true, decide_eq_true_eq] at hb
    obtain ⟨ha, hs0, hs1⟩ := hb
    obtain ⟨g, ha⟩ := Option.isSome_iff_exists.1 ha
    obtain ⟨q, rfl, hq1, hq2, hg⟩ := atF_some ha
    refine (set_yes F1 p1 me lan ad ps q g s wr h.rep hq1 hq2 hg hs0 hs1).mono ?_
    rintro r w' ⟨rfl, hR, hK⟩
    exact ⟨rfl, h.turn1 hR (fun x hx => .inl hx) hK⟩
theorem two_set2 {ps0 : Nat → PV} (h : PB w wr p1 p2 b2 me lan ad ps (allL ad ps0) K) (hT : TabOK ad ps0) (i s : Int) :
    Calls Try.prog 17 #[.pointer (some ⟨p2, 0, none⟩), .int .i64 i, .int .i64 s] wr fun r w' => r = .returned (.bool (setB ad i s)) ∧ PB w w' p1 p2 b2 me lan ad ps (allL ad (setPs ad ps0 i s)) K ∧ SameK K wr w' := by
  have hB := h
  obtain ⟨F1, F2, A0, c0, h⟩ := h
  have hle := allL_le ad ps0
  have hfa := find_atF hT i
  unfold setPs
  cases hb : setB ad i s with
  | false =>
    refine (refSet_no F2 p2 b2 me lan _ A0 c0 i s wr h.ref (by omega) ?_).mono ?_
    · unfold setB at hb
      cases ha : atF ad i with
      | none => rw [ha] at hfa; exact .inl (by simpa using hfa)
      | some g =>
        rw [ha] at hb
        simp at hb
        by_cases h0 : s < 0
        · exact .inr (.inl h0)
        · exact .inr (.inr (hb (by omega)))
    · rintro r w' ⟨rfl, rfl⟩
      exact ⟨rfl, hB, fun g _ hg => rfl⟩
  | true =>
    unfold setB at hb
    simp only [Bool.and_eq_true, decide_eq_true_eq] at hb
    obtain ⟨ha, hs0, hs1⟩ := hb
    obtain ⟨g, ha⟩ := Option.isSome_iff_exists.1 ha
    obtain ⟨q, rfl, hq1, hq2, hg⟩ := atF_some ha
    obtain ⟨f1, f2⟩ := find_some hT q (by omega) (by rw [hg]; rfl)
    refine (refSet_yes F2 p2 b2 me lan _ A0 c0 q s _ _ wr h.ref (by omega) f1 f2 hs0 hs1).mono ?_
    rintro r w' ⟨rfl, hL⟩
    rw [set_some q (by omega) (by rw [hg]; rfl)] at hL
    exact ⟨rfl, h.turn2 hL⟩
end
end Go.Proofs.Ytmehglliajefaaa
