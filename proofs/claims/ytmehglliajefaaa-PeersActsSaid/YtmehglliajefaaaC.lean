/-
  Hear, where a Hello is taken.
-/
import Derived.Test.YtmehglliajefaaaB
import Derived.BigRegion
namespace Go.Proofs.Ytmehglliajefaaa
open Go.RowKit

/-- a neighbor as it was, or a new one -/
def wasF (ad : Nat → Option Nat) (ps : Nat → PV) (q : Nat) : PV := if (ad q).isSome then ps q else ⟨q, 0, 0, 0, 1, false, 0⟩
def heardF (me prio dr bdr now : Int) (seen : List Int) (was : PV) : PV := ⟨was.id, prio, dr % 16, bdr % 16, was.state, decide (me ∈ seen), now⟩

theorem four_new (w : World) (t1 t2 t3 t4 : TypeId) (a1 a2 a3 a4 : Array Value) : Blk ((((w.alloc (.cells a1 t1)).alloc (.cells a2 t2)).alloc (.cells a3 t3)).alloc (.cells a4 t4)) w.heap.size t1 a1 ∧
    Blk ((((w.alloc (.cells a1 t1)).alloc (.cells a2 t2)).alloc (.cells a3 t3)).alloc (.cells a4 t4)) (w.heap.size + 1) t2 a2 ∧ Blk ((((w.alloc (.cells a1 t1)).alloc (.cells a2 t2)).alloc (.cells a3 t3)).alloc (.cells a4 t4)) (w.heap.size + 1 + 1) t3 a3 ∧
    Blk ((((w.alloc (.cells a1 t1)).alloc (.cells a2 t2)).alloc (.cells a3 t3)).alloc (.cells a4 t4)) (w.heap.size + 1 + 1 + 1) t4 a4 ∧ Below w.heap.size w ((((w.alloc (.cells a1 t1)).alloc (.cells a2 t2)).alloc (.cells a3 t3)).alloc (.cells a4 t4)) := by
  have z1 : (w.alloc (.cells a1 t1)).heap.size = w.heap.size + 1 := by simp
  have z2 : ((w.alloc (.cells a1 t1)).alloc (.cells a2 t2)).heap.size = w.heap.size + 1 + 1 := by simp
  have z3 : (((w.alloc (.cells a1 t1)).alloc (.cells a2 t2)).alloc (.cells a3 t3)).heap.size = w.heap.size + 1 + 1 + 1 := by simp
  exact ⟨(((Blk.new w t1 a1).alloc _).alloc _).alloc _, (((z1 ▸ Blk.new (w.alloc (.cells a1 t1)) t2 a2)).alloc _).alloc _, (z2 ▸ Blk.new ((w.alloc (.cells a1 t1)).alloc (.cells a2 t2)) t3 a3).alloc _, z3 ▸ Blk.new _ t4 a4,
    ((((Below.refl _ _).alloc (Nat.le_refl _) _).alloc (by simp) _).alloc (by simp; omega) _).alloc (by simp; omega) _⟩

theorem Blk.cells5 {w : World} {g : Nat} {t : TypeId} {a0 a1 a2 a3 a4 : Value} (h : Blk w g t #[a0, a1, a2, a3, a4]) :
    w.cell? ⟨g, 0, none⟩ = some a0 ∧ w.cell? ⟨g, 1, none⟩ = some a1 ∧ w.cell? ⟨g, 2, none⟩ = some a2 ∧ w.cell? ⟨g, 3, none⟩ = some a3 ∧ w.cell? ⟨g, 4, none⟩ = some a4 ∧ ∀ i, w.frozen? ⟨g, i, none⟩ = false :=
  ⟨h.cell 0, h.cell 1, h.cell 2, h.cell 3, h.cell 4, h.frozen⟩
abbrev set5 (w : World) (g : Nat) (v0 v1 v2 v3 v4 : Value) : World := ((((w.setCell ⟨g, 0, none⟩ v0).setCell ⟨g, 1, none⟩ v1).setCell ⟨g, 2, none⟩ v2).setCell ⟨g, 3, none⟩ v3).setCell ⟨g, 4, none⟩ v4
theorem Blk.five {w : World} {g : Nat} {t : TypeId} {a0 a1 a2 a3 a4 : Value} (h : Blk w g t #[a0, a1, a2, a3, a4]) (v0 v1 v2 v3 v4 : Value) : Blk (set5 w g v0 v1 v2 v3 v4) g t #[v0, v1, v2, v3, v4] := by
  have := ((((h.set_ 0 v0).set_ 1 v1).set_ 2 v2).set_ 3 v3).set_ 4 v4
  simpa using this
theorem keeps_five {F : Nat → Prop} {a w : World} {g : Nat} (h : Keeps F a w) (hg : F g ∨ a.heap.size ≤ g) (v0 v1 v2 v3 v4 : Value) : Keeps F a (set5 w g v0 v1 v2 v3 v4) :=
  ((((h.setCell (p := ⟨g, 0, none⟩) hg _).setCell (p := ⟨g, 1, none⟩) hg _).setCell (p := ⟨g, 2, none⟩) hg _).setCell (p := ⟨g, 3, none⟩) hg _).setCell (p := ⟨g, 4, none⟩) hg _
theorem PeersRep.turn {w w' : World} {F : Nat → Prop} {pl : Nat} {me lan : Int} {ad : Nat → Option Nat} {ps : Nat → PV} {q g : Nat} {x : PV} (h : PeersRep w F pl me lan ad ps) (hK : Keeps (fun x => x = g) w w') (hq : q < 16) (hg : ad q = some g) (hb : Blk w' g 47 x.arr) (hid : x.id = q) :
    PeersRep w' F pl me lan ad (fun i => if i = q then x else ps i) := by
  obtain ⟨_, hFg, hgp, _⟩ := h.one q g hq hg
  refine ⟨hK.blk h.box (fun e => hgp e.symm), fun i g' hi hg' => ?_, h.inj, h.zero, h.hpl, fun x hx => Nat.lt_of_lt_of_le (h.lt x hx) hK.size⟩
  by_cases e : i = q
  · subst e
    obtain rfl : g' = g := Option.some.inj (hg'.symm.trans hg)
    simp only [if_true]
    exact ⟨hb, hFg, hgp, hid⟩
  · simp only [e, if_false]
    obtain ⟨h1, h2, h3, h4⟩ := h.one i g' hi hg'
    exact ⟨hK.blk h1 (fun e' => e (h.inj i q g' hi hq hg' (e' ▸ hg))), h2, h3, h4⟩
theorem neq_claim (a b : Bool × Bool × Bool × Int) (w : World) : (binOp .neq 62 (claimV a) (claimV b)).run Try.prog w = .ok (.bool (decide (a ≠ b))) w := by
  obtain ⟨a1, a2, a3, a4⟩ := a
  obtain ⟨b1, b2, b3, b4⟩ := b
  dsimp only [claimV]
  go_simp
  repeat' split
  all_goals simp_all
abbrev HearS (g b : Nat) (a0 a1 a2 a3 a4 : Int) (a5 : Bool) (a6 : Int) (c0 c1 c2 c3 c4 : Int) (c5 : Bool) (c6 : Int) (w : World) : Prop :=
  w.cell? ⟨g, 0, none⟩ = some (.int .i64 a0) ∧ w.cell? ⟨g, 1, none⟩ = some (.int .i64 a1) ∧ w.cell? ⟨g, 2, none⟩ = some (.int .i64 a2) ∧ w.cell? ⟨g, 3, none⟩ = some (.int .i64 a3) ∧ w.cell? ⟨g, 4, none⟩ = some (.int .i64 a4) ∧ w.cell? ⟨g, 5, none⟩ = some (.bool a5) ∧ w.cell? ⟨g, 6, none⟩ = some (.int .i64 a6) ∧
  w.cell? ⟨b, 0, none⟩ = some (.int .i64 c0) ∧ w.cell? ⟨b, 1, none⟩ = some (.int .i64 c1) ∧ w.cell? ⟨b, 2, none⟩ = some (.int .i64 c2) ∧ w.cell? ⟨b, 3, none⟩ = some (.int .i64 c3) ∧ w.cell? ⟨b, 4, none⟩ = some (.int .i64 c4) ∧ w.cell? ⟨b, 5, none⟩ = some (.bool c5) ∧ w.cell? ⟨b, 6, none⟩ = some (.int .i64 c6)
theorem HearS.keep {g b : Nat} {a0 a1 a2 a3 a4 : Int} {a5 : Bool} {a6 : Int} {c0 c1 c2 c3 c4 : Int} {c5 : Bool} {c6 : Int} {w w' : World} (h : HearS g b a0 a1 a2 a3 a4 a5 a6 c0 c1 c2 c3 c4 c5 c6 w) (hb : Below w.heap.size w w') : HearS g b a0 a1 a2 a3 a4 a5 a6 c0 c1 c2 c3 c4 c5 c6 w' := by
  obtain ⟨h0, h1, h2, h3, h4, h5, h6, h7, h8, h9, h10, h11, h12, h13⟩ := h
  exact ⟨cell_keep h0 hb, cell_keep h1 hb, cell_keep h2 hb, cell_keep h3 hb, cell_keep h4 hb, cell_keep h5 hb, cell_keep h6 hb, cell_keep h7 hb, cell_keep h8 hb, cell_keep h9 hb, cell_keep h10 hb, cell_keep h11 hb, cell_keep h12 hb, cell_keep h13 hb⟩
theorem HearS.of {g b : Nat} {a0 a1 a2 a3 a4 : Int} {a5 : Bool} {a6 : Int} {c0 c1 c2 c3 c4 : Int} {c5 : Bool} {c6 : Int} {w : World} (h : Blk w g 47 #[.int .i64 a0, .int .i64 a1, .int .i64 a2, .int .i64 a3, .int .i64 a4, .bool a5, .int .i64 a6]) (h' : Blk w b 47 #[.int .i64 c0, .int .i64 c1, .int .i64 c2, .int .i64 c3, .int .i64 c4, .bool c5, .int .i64 c6]) : HearS g b a0 a1 a2 a3 a4 a5 a6 c0 c1 c2 c3 c4 c5 c6 w.drew :=
  ⟨h.cell 0, h.cell 1, h.cell 2, h.cell 3, h.cell 4, h.cell 5, h.cell 6, h'.cell 0, h'.cell 1, h'.cell 2, h'.cell 3, h'.cell 4, h'.cell 5, h'.cell 6⟩

set_option maxRecDepth 20000 in
set_option maxHeartbeats 8000000 in
theorem hear_known (F : Nat → Prop) (pl : Nat) (me lan : Int) (ad : Nat → Option Nat) (ps : Nat → PV) (q g : Nat) (prio dr bdr now : Int) (A : Option Addr) (n c : Nat) (seen : List Int) (w : World)
    (h : PeersRep w F pl me lan ad ps) (hl0 : 0 ≤ lan) (hl1 : lan ≤ 3) (hq1 : 1 ≤ q) (hq2 : q ≤ 15) (hme : (q : Int) ≠ me) (hdr : okA lan dr) (hbdr : okA lan bdr) (hg : ad q = some g) (hr : Reads w w.heap.size 1 A n (ints seen)) (hA : 0 < n → ∀ b off, A = some ⟨b, off, none⟩ → ¬ F b) (hn : n ≤ 100000) :
    Calls Try.prog 8 #[.pointer (some ⟨pl, 0, none⟩), .int .i64 (q : Int), .agg #[.int .i64 2, .int .i64 8, .int .i64 prio, .int .i64 dr, .int .i64 bdr, .slice A n c], .int .i64 now] w fun r w' =>
      r = .returned (heardV true false (heardF me prio dr bdr now seen (ps q)).two ((ps q).two && !(heardF me prio dr bdr now seen (ps q)).two) (decide (claimsF (ps q) ≠ claimsF (heardF me prio dr bdr now seen (ps q))))) ∧
      PeersRep w' F pl me lan ad (fun i => if i = q then heardF me prio dr bdr now seen (ps q) else ps i) ∧ Keeps F w w' := by
  have hplt := h.box.lt
  have c0 : w.cell? ⟨pl, 0, none⟩ = some (.int .i64 me) := h.box.cell 0
  have c1 : w.cell? ⟨pl, 1, none⟩ = some (.int .i64 lan) := h.box.cell 1
  have cq : w.cell? ⟨pl, 2 + q, none⟩ = some (.pointer (some ⟨g, 0, none⟩)) := (h.box.cell (2 + q)).trans (by rw [peersCells_at _ _ _ _ (by omega), hg]; rfl)
  obtain ⟨hbg, hFg, hgp, hid⟩ := h.one q g (by omega) hg
  have hglt := hbg.lt
  obtain ⟨x, hx⟩ : ∃ x, ps q = x := ⟨_, rfl⟩
  rw [hx] at hbg hid ⊢
  obtain ⟨id, wprio, wdr, wbdr, state, two, at_⟩ := x
  have d0 : w.cell? ⟨g, 0, none⟩ = some (.int .i64 id) := hbg.cell 0
  have d1 : w.cell? ⟨g, 1, none⟩ = some (.int .i64 wprio) := hbg.cell 1
  have d2 : w.cell? ⟨g, 2, none⟩ = some (.int .i64 wdr) := hbg.cell 2
  have d3 : w.cell? ⟨g, 3, none⟩ = some (.int .i64 wbdr) := hbg.cell 3
  have d4 : w.cell? ⟨g, 4, none⟩ = some (.int .i64 state) := hbg.cell 4
  have d5 : w.cell? ⟨g, 5, none⟩ = some (.bool two) := hbg.cell 5
  have d6 : w.cell? ⟨g, 6, none⟩ = some (.int .i64 at_) := hbg.cell 6
  have df : ∀ i, w.frozen? ⟨g, i, none⟩ = false := hbg.frozen
  have b1 : ((q : Int) == me) = false := by simpa using hme
  have Hh := hide h
  have HR := hide hr
  have HAF := hide hA
  have HX := hide hx
  have HG := hide hg
  have HID := hide hid
  have HBG := hide hbg
  have HD1 := hide (decide_eq_true hdr)
  have HD2 := hide (decide_eq_true hbdr)
  clear h hr hA hx hg hid hbg hdr hbdr hme
  have HB2 := fun (o1 o2 : Obj) => hide (((Below.refl w.heap.size w).alloc (Nat.le_refl _) o1).alloc (by simp) o2)
  have hp1 : pl < w.heap.size + 1 := by omega
  have hp2 : pl < w.heap.size + 1 + 1 := by omega
  have hp3 : pl < w.heap.size + 1 + 1 + 1 := by omega
  have hg1 : g < w.heap.size + 1 := by omega
  have hg2 : g < w.heap.size + 1 + 1 := by omega
  have hg3 : g < w.heap.size + 1 + 1 + 1 := by omega
  go_enter Try.func8, Try.ntmps8
  go_wp2_with fail
  refine (who_any pl lan dr hl0 hl1 _ (cell_keep c1 (HB2 _ _).out)).mono ?_
  rintro r w1 ⟨rfl, rfl⟩
  rw [HD1.out]
  go_wp2_with fail
  refine (who_any pl lan bdr hl0 hl1 _ (cell_keep c1 (HB2 _ _).out)).mono ?_
  rintro r w1 ⟨rfl, rfl⟩
  rw [HD2.out]
  go_wp2_with fail
  have hb0 := (((HBG.out.set_ 1 (.int .i64 prio)).set_ 2 (.int .i64 (dr % 16))).set_ 3 (.int .i64 (bdr % 16))).set_ 6 (.int .i64 now)
  have hK0 : Keeps (fun x => x = g) w ((((w.setCell ⟨g, 1, none⟩ (.int .i64 prio)).setCell ⟨g, 2, none⟩ (.int .i64 (dr % 16))).setCell ⟨g, 3, none⟩ (.int .i64 (bdr % 16))).setCell ⟨g, 6, none⟩ (.int .i64 now)) :=
    ((((Keeps.refl (fun x => x = g) w).setCell (p := ⟨g, 1, none⟩) (.inl rfl) _).setCell (p := ⟨g, 2, none⟩) (.inl rfl) _).setCell (p := ⟨g, 3, none⟩) (.inl rfl) _).setCell (p := ⟨g, 6, none⟩) (.inl rfl) _
  have hz0 : ((((w.setCell ⟨g, 1, none⟩ (.int .i64 prio)).setCell ⟨g, 2, none⟩ (.int .i64 (dr % 16))).setCell ⟨g, 3, none⟩ (.int .i64 (bdr % 16))).setCell ⟨g, 6, none⟩ (.int .i64 now)).heap.size = w.heap.size := by simp [World.setCell]
  have hb0' : Blk ((((w.setCell ⟨g, 1, none⟩ (.int .i64 prio)).setCell ⟨g, 2, none⟩ (.int .i64 (dr % 16))).setCell ⟨g, 3, none⟩ (.int .i64 (bdr % 16))).setCell ⟨g, 6, none⟩ (.int .i64 now)) g 47 #[.int .i64 id, .int .i64 prio, .int .i64 (dr % 16), .int .i64 (bdr % 16), .int .i64 state, .bool two, .int .i64 now] := by simpa [PV.arr] using hb0
  clear hb0
  generalize (((w.setCell ⟨g, 1, none⟩ (.int .i64 prio)).setCell ⟨g, 2, none⟩ (.int .i64 (dr % 16))).setCell ⟨g, 3, none⟩ (.int .i64 (bdr % 16))).setCell ⟨g, 6, none⟩ (.int .i64 now) = Wa at hb0' hK0 hz0 ⊢
  obtain ⟨n1, n2, n3, n4, hbW⟩ := four_new Wa 24 29 29 47 #[.int .i64 2, .int .i64 8, .int .i64 prio, .int .i64 dr, .int .i64 bdr, .slice A n c] #[.bool false, .bool false, .bool false, .bool false, .bool false] #[.bool true, .bool false, .bool false, .bool false, .bool false] #[.int .i64 id, .int .i64 wprio, .int .i64 wdr, .int .i64 wbdr, .int .i64 state, .bool two, .int .i64 at_]
  generalize (((Wa.alloc (.cells #[.int .i64 2, .int .i64 8, .int .i64 prio, .int .i64 dr, .int .i64 bdr, .slice A n c] 24)).alloc (.cells #[.bool false, .bool false, .bool false, .bool false, .bool false] 29)).alloc (.cells #[.bool true, .bool false, .bool false, .bool false, .bool false] 29)).alloc (.cells #[.int .i64 id, .int .i64 wprio, .int .i64 wdr, .int .i64 wbdr, .int .i64 state, .bool two, .int .i64 at_] 47) = W at n1 n2 n3 n4 hbW ⊢
  rw [hz0] at n1 n2 n3 n4
  have hKW : Keeps (fun x => x = g) w W := hK0.below hbW
  have hgW := hb0'.below hbW hb0'.lt
  have hpW := hKW.blk Hh.out.box (by show ¬ pl = g; exact fun e => hgp e.symm)
  have hrW : Reads W W.heap.size 1 A n (ints seen) := by
    rcases Nat.eq_zero_or_pos n with h0 | h0
    · have hl := HR.out.1
      exact ⟨hl, fun h => absurd h (by omega)⟩
    · exact (hKW.reads HR.out (Nat.le_refl _) (fun b off e hbg => HAF.out h0 b off e (hbg ▸ hFg))).more hKW.size
  have HKW := hide hKW
  have HN1 := hide n1
  have HN2 := hide n2
  have HN3 := hide n3
  have HN4 := hide n4
  have HGW := hide hgW
  have HPW := hide hpW
  have i5 : W.cell? ⟨w.heap.size, 5, none⟩ = some (.slice A n c) := n1.cell 5
  have p0 : W.cell? ⟨pl, 0, none⟩ = some (.int .i64 me) := hpW.cell 0
  have x5 : W.cell? ⟨g, 5, none⟩ = some (.bool two) := hgW.cell 5
  have f5 : W.frozen? ⟨g, 5, none⟩ = false := hgW.frozen 5
  have hmm : ∃ m, decide (me ∈ seen) = m := ⟨_, rfl⟩
  obtain ⟨m, hm⟩ := hmm
  have HM := hide hm
  have b3 := hide hrW
  have b4 : ¬ w.heap.size + 1 + 1 = g := by omega
  have b5 : ¬ w.heap.size + 1 + 1 + 1 = g := by omega
  clear n1 n2 n3 n4 hbW hKW hgW hpW hrW hm hK0 hb0' c0 c1 cq d0 d1 d2 d3 d4 d5 d6 df
  refine wp_region_still_tail 10 (by kernel_rfl) (by kernel_rfl) ?_
  simp only [List.take_succ_cons, List.take_zero, List.drop_succ_cons, List.drop_zero]
  repeat still_step
  still_call (contains_any A n c seen me _ (by omega) b3.out.drew)
  rw [HM.out]
  repeat still_step
  refine wpStill_nil ?_
  go_wp2_with fail
  have hg2 := (HGW.out.set_ 5 (.bool m)).drew
  have h31 := (HN3.out.far (p := ⟨g, 5, none⟩) b4 (.bool m)).drew
  have h41 := (HN4.out.far (p := ⟨g, 5, none⟩) b5 (.bool m)).drew
  have h21 := (HN2.out.far (p := ⟨g, 5, none⟩) (show ¬ w.heap.size + 1 = g by omega) (.bool m)).drew
  have hK2 : Keeps F w (W.setCell ⟨g, 5, none⟩ (.bool m)).drew := ((HKW.out.mono (G := F) (fun x hx _ => by cases hx; exact hFg)).setCell (p := ⟨g, 5, none⟩) (.inl hFg) _).drew
  have hKp : Keeps (fun x => x = g) w (W.setCell ⟨g, 5, none⟩ (.bool m)).drew := (HKW.out.setCell (p := ⟨g, 5, none⟩) (.inl rfl) _).drew
  have hg2' : Blk (W.setCell ⟨g, 5, none⟩ (.bool m)).drew g 47 #[.int .i64 id, .int .i64 prio, .int .i64 (dr % 16), .int .i64 (bdr % 16), .int .i64 state, .bool m, .int .i64 now] := hg2
  clear hg2 i5 p0 x5 f5
  generalize (W.setCell ⟨g, 5, none⟩ (.bool m)).drew = W2 at hg2' h31 h41 h21 hK2 hKp ⊢
  have HG2 := hide hg2'
  have H31 := hide h31
  have H41 := hide h41
  have H21 := hide h21
  have HK2 := hide hK2
  have HKP := hide hKp
  have g5 : W2.cell? ⟨g, 5, none⟩ = some (.bool m) := hg2'.cell 5
  have w5 : W2.cell? ⟨w.heap.size + 1 + 1 + 1, 5, none⟩ = some (.bool two) := h41.cell 5
  have o2 : W2.cell? ⟨w.heap.size + 1 + 1, 2, none⟩ = some (.bool false) := h31.cell 2
  have o3 : W2.cell? ⟨w.heap.size + 1 + 1, 3, none⟩ = some (.bool false) := h31.cell 3
  have of_ : ∀ i, W2.frozen? ⟨w.heap.size + 1 + 1, i, none⟩ = false := h31.frozen
  clear hg2' h31 h41 h21 hK2 hKp
  cases two
  · go_region
    go_wp2_with fail
    have h32 := ((H31.out.set_ 2 (.bool m)).set_ 3 (.bool false)).drew
    have h42 := ((H41.out.far (p := ⟨w.heap.size + 1 + 1, 2, none⟩) (by simp) (.bool m)).far (p := ⟨w.heap.size + 1 + 1, 3, none⟩) (by simp) (.bool false)).drew
    have h22 := ((H21.out.far (p := ⟨w.heap.size + 1 + 1, 2, none⟩) (by simp) (.bool m)).far (p := ⟨w.heap.size + 1 + 1, 3, none⟩) (by simp) (.bool false)).drew
    have hg3 := ((HG2.out.far (p := ⟨w.heap.size + 1 + 1, 2, none⟩) (by show ¬ g = w.heap.size + 1 + 1; omega) (.bool m)).far (p := ⟨w.heap.size + 1 + 1, 3, none⟩) (by show ¬ g = w.heap.size + 1 + 1; omega) (.bool false)).drew
    have hK3 := ((HKP.out.setCell (p := ⟨w.heap.size + 1 + 1, 2, none⟩) (.inr (by show w.heap.size ≤ w.heap.size + 1 + 1; omega)) (.bool m)).setCell (p := ⟨w.heap.size + 1 + 1, 3, none⟩) (.inr (by show w.heap.size ≤ w.heap.size + 1 + 1; omega)) (.bool false)).drew
    have h32' : Blk ((W2.setCell ⟨w.heap.size + 1 + 1, 2, none⟩ (.bool m)).setCell ⟨w.heap.size + 1 + 1, 3, none⟩ (.bool false)).drew (w.heap.size + 1 + 1) 29 #[.bool true, .bool false, .bool m, .bool false, .bool false] := h32
    clear h32 g5 w5 o2 o3 of_
    generalize ((W2.setCell ⟨w.heap.size + 1 + 1, 2, none⟩ (.bool m)).setCell ⟨w.heap.size + 1 + 1, 3, none⟩ (.bool false)).drew = W3 at h32' h42 h22 hg3 hK3 ⊢
    have H32 := hide h32'
    have H22 := hide h22
    have HG3 := hide hg3
    have H42 := hide h42
    have HK3 := hide hK3
    have q4 : W3.drew.cell? ⟨w.heap.size + 1 + 1, 4, none⟩ = some (.bool false) := h32'.cell 4
    have q0 : HearS g (w.heap.size + 1 + 1 + 1) id prio (dr % 16) (bdr % 16) state m now id wprio wdr wbdr state false at_ W3.drew := HearS.of hg3 h42
    clear h32' h42 h22 hg3 hK3
    have hne := fun (v : World) => neq_claim (claimsF ⟨id, wprio, wdr, wbdr, state, false, at_⟩) (claimsF ⟨id, prio, dr % 16, bdr % 16, state, m, now⟩) v
    have tok1 : True := trivial
    go_region_held3 (fun w' => HearS g (w.heap.size + 1 + 1 + 1) id prio (dr % 16) (bdr % 16) state m now id wprio wdr wbdr state false at_ w') (first | assumption | ((repeat' apply And.intro) <;> first | assumption | go_keep))
      (first
        | (have _t := tok1; go_at_call 24; refine (claims_at id wprio wdr wbdr state false at_ _).mono ?_; rintro r w5 ⟨rfl, hb5⟩; have q1 := q0.keep hb5; have q5 := cell_keep q4 hb5; clear tok1 _t)
        | (go_at_call 24; refine (claims_at id prio (dr % 16) (bdr % 16) state m now _).mono ?_; rintro r w6 ⟨rfl, hb6⟩; have q2 := q1.keep hb6; have q6 := cell_keep q5 hb6; have q7 : w6.frozen? ⟨w.heap.size + 1 + 1, 4, none⟩ = false := ((H32.out.drew.below hb5 H32.out.lt).below hb6 (Nat.lt_of_lt_of_le H32.out.lt hb5.size)).frozen 4))
    generalize hbv : (!decide (claimsF ⟨id, wprio, wdr, wbdr, state, false, at_⟩ = claimsF ⟨id, prio, dr % 16, bdr % 16, state, m, now⟩)) = bv
    have HBV := hide hbv
    have h37 := ((H32.out.drew.below hb5 H32.out.lt).below hb6 (Nat.lt_of_lt_of_le H32.out.lt hb5.size)).set_ 4 (.bool bv)
    have h27 := ((H22.out.drew.below hb5 H22.out.lt).below hb6 (Nat.lt_of_lt_of_le H22.out.lt hb5.size)).far (p := ⟨w.heap.size + 1 + 1, 4, none⟩) (by simp) (.bool bv)
    have hg7 := ((HG3.out.drew.below hb5 HG3.out.lt).below hb6 (Nat.lt_of_lt_of_le HG3.out.lt hb5.size)).far (p := ⟨w.heap.size + 1 + 1, 4, none⟩) (by show ¬ g = w.heap.size + 1 + 1; omega) (.bool bv)
    have hK7 := (((HK3.out.drew).below hb5).below hb6).setCell (p := ⟨w.heap.size + 1 + 1, 4, none⟩) (.inr (by show w.heap.size ≤ w.heap.size + 1 + 1; omega)) (.bool bv)
    have h37' : Blk (w6.setCell ⟨w.heap.size + 1 + 1, 4, none⟩ (.bool bv)) (w.heap.size + 1 + 1) 29 #[.bool true, .bool false, .bool m, .bool false, .bool bv] := h37
    clear h37 hbv hb5 hb6 q0 q1 q2 q4 q5 q6 q7 hne
    generalize w6.setCell ⟨w.heap.size + 1 + 1, 4, none⟩ (.bool bv) = W7 at h37' h27 hg7 hK7 ⊢
    obtain ⟨r0, r1, r2, r3, r4, _⟩ := h37'.cells5
    obtain ⟨s0, s1, s2, s3, s4, sf⟩ := h27.cells5
    have H27 := hide h27
    have HG7 := hide hg7
    have HK7 := hide hK7
    clear h37' h27 hg7 hK7
    go_wp2_with fail
    have hbf := H27.out.five (.bool true) (.bool false) (.bool m) (.bool false) (.bool bv)
    refine bodyPost_ret (results_cell_row (fn := Try.f8) rfl _ _ _ 29 _ (0, 0) _ rfl hbf Try.underlying29 rfl (by kernel_rfl)) rfl ?_
    refine ⟨?_, ?_, ?_⟩
    · simp only [heardF, HM.out]
      rw [← HBV.out]
      simp
    · refine Hh.out.turn (keeps_five HK7.out (.inr (by omega)) _ _ _ _ _) (by omega) HG.out ?_ (by simpa [heardF] using HID.out)
      have := ((((HG7.out.far (p := ⟨w.heap.size + 1, 0, none⟩) (by show ¬ g = w.heap.size + 1; omega) (.bool true)).far (p := ⟨w.heap.size + 1, 1, none⟩) (by show ¬ g = w.heap.size + 1; omega) (.bool false)).far (p := ⟨w.heap.size + 1, 2, none⟩) (by show ¬ g = w.heap.size + 1; omega) (.bool m)).far (p := ⟨w.heap.size + 1, 3, none⟩) (by show ¬ g = w.heap.size + 1; omega) (.bool false)).far (p := ⟨w.heap.size + 1, 4, none⟩) (by show ¬ g = w.heap.size + 1; omega) (.bool bv)
      simp only [heardF, PV.arr, HM.out]
      exact this
    · exact keeps_five (HK7.out.mono (fun x hx _ => by cases hx; exact hFg)) (.inr (by omega)) _ _ _ _ _
  · go_region
    go_wp2_with fail
    have h32 := ((H31.out.set_ 2 (.bool m)).set_ 3 (.bool (!m))).drew
    have h42 := ((H41.out.far (p := ⟨w.heap.size + 1 + 1, 2, none⟩) (by simp) (.bool m)).far (p := ⟨w.heap.size + 1 + 1, 3, none⟩) (by simp) (.bool (!m))).drew
    have h22 := ((H21.out.far (p := ⟨w.heap.size + 1 + 1, 2, none⟩) (by simp) (.bool m)).far (p := ⟨w.heap.size + 1 + 1, 3, none⟩) (by simp) (.bool (!m))).drew
    have hg3 := ((HG2.out.far (p := ⟨w.heap.size + 1 + 1, 2, none⟩) (by show ¬ g = w.heap.size + 1 + 1; omega) (.bool m)).far (p := ⟨w.heap.size + 1 + 1, 3, none⟩) (by show ¬ g = w.heap.size + 1 + 1; omega) (.bool (!m))).drew
    have hK3 := ((HKP.out.setCell (p := ⟨w.heap.size + 1 + 1, 2, none⟩) (.inr (by show w.heap.size ≤ w.heap.size + 1 + 1; omega)) (.bool m)).setCell (p := ⟨w.heap.size + 1 + 1, 3, none⟩) (.inr (by show w.heap.size ≤ w.heap.size + 1 + 1; omega)) (.bool (!m))).drew
    have h32' : Blk ((W2.setCell ⟨w.heap.size + 1 + 1, 2, none⟩ (.bool m)).setCell ⟨w.heap.size + 1 + 1, 3, none⟩ (.bool (!m))).drew (w.heap.size + 1 + 1) 29 #[.bool true, .bool false, .bool m, .bool (!m), .bool false] := h32
    clear h32 g5 w5 o2 o3 of_
    generalize ((W2.setCell ⟨w.heap.size + 1 + 1, 2, none⟩ (.bool m)).setCell ⟨w.heap.size + 1 + 1, 3, none⟩ (.bool (!m))).drew = W3 at h32' h42 h22 hg3 hK3 ⊢
    have H32 := hide h32'
    have H22 := hide h22
    have HG3 := hide hg3
    have H42 := hide h42
    have HK3 := hide hK3
    have q4 : W3.drew.cell? ⟨w.heap.size + 1 + 1, 4, none⟩ = some (.bool false) := h32'.cell 4
    have q0 : HearS g (w.heap.size + 1 + 1 + 1) id prio (dr % 16) (bdr % 16) state m now id wprio wdr wbdr state true at_ W3.drew := HearS.of hg3 h42
    clear h32' h42 h22 hg3 hK3
    have hne := fun (v : World) => neq_claim (claimsF ⟨id, wprio, wdr, wbdr, state, true, at_⟩) (claimsF ⟨id, prio, dr % 16, bdr % 16, state, m, now⟩) v
    have tok1 : True := trivial
    go_region_held3 (fun w' => HearS g (w.heap.size + 1 + 1 + 1) id prio (dr % 16) (bdr % 16) state m now id wprio wdr wbdr state true at_ w') (first | assumption | ((repeat' apply And.intro) <;> first | assumption | go_keep))
      (first
        | (have _t := tok1; go_at_call 24; refine (claims_at id wprio wdr wbdr state true at_ _).mono ?_; rintro r w5 ⟨rfl, hb5⟩; have q1 := q0.keep hb5; have q5 := cell_keep q4 hb5; clear tok1 _t)
        | (go_at_call 24; refine (claims_at id prio (dr % 16) (bdr % 16) state m now _).mono ?_; rintro r w6 ⟨rfl, hb6⟩; have q2 := q1.keep hb6; have q6 := cell_keep q5 hb6; have q7 : w6.frozen? ⟨w.heap.size + 1 + 1, 4, none⟩ = false := ((H32.out.drew.below hb5 H32.out.lt).below hb6 (Nat.lt_of_lt_of_le H32.out.lt hb5.size)).frozen 4))
    generalize hbv : (!decide (claimsF ⟨id, wprio, wdr, wbdr, state, true, at_⟩ = claimsF ⟨id, prio, dr % 16, bdr % 16, state, m, now⟩)) = bv
    have HBV := hide hbv
    have h37 := ((H32.out.drew.below hb5 H32.out.lt).below hb6 (Nat.lt_of_lt_of_le H32.out.lt hb5.size)).set_ 4 (.bool bv)
    have h27 := ((H22.out.drew.below hb5 H22.out.lt).below hb6 (Nat.lt_of_lt_of_le H22.out.lt hb5.size)).far (p := ⟨w.heap.size + 1 + 1, 4, none⟩) (by simp) (.bool bv)
    have hg7 := ((HG3.out.drew.below hb5 HG3.out.lt).below hb6 (Nat.lt_of_lt_of_le HG3.out.lt hb5.size)).far (p := ⟨w.heap.size + 1 + 1, 4, none⟩) (by show ¬ g = w.heap.size + 1 + 1; omega) (.bool bv)
    have hK7 := (((HK3.out.drew).below hb5).below hb6).setCell (p := ⟨w.heap.size + 1 + 1, 4, none⟩) (.inr (by show w.heap.size ≤ w.heap.size + 1 + 1; omega)) (.bool bv)
    have h37' : Blk (w6.setCell ⟨w.heap.size + 1 + 1, 4, none⟩ (.bool bv)) (w.heap.size + 1 + 1) 29 #[.bool true, .bool false, .bool m, .bool (!m), .bool bv] := h37
    clear h37 hbv hb5 hb6 q0 q1 q2 q4 q5 q6 q7 hne
    generalize w6.setCell ⟨w.heap.size + 1 + 1, 4, none⟩ (.bool bv) = W7 at h37' h27 hg7 hK7 ⊢
    obtain ⟨r0, r1, r2, r3, r4, _⟩ := h37'.cells5
    obtain ⟨s0, s1, s2, s3, s4, sf⟩ := h27.cells5
    have H27 := hide h27
    have HG7 := hide hg7
    have HK7 := hide hK7
    clear h37' h27 hg7 hK7
    go_wp2_with fail
    have hbf := H27.out.five (.bool true) (.bool false) (.bool m) (.bool (!m)) (.bool bv)
    refine bodyPost_ret (results_cell_row (fn := Try.f8) rfl _ _ _ 29 _ (0, 0) _ rfl hbf Try.underlying29 rfl (by kernel_rfl)) rfl ?_
    refine ⟨?_, ?_, ?_⟩
    · simp only [heardF, HM.out]
      rw [← HBV.out]
      simp
    · refine Hh.out.turn (keeps_five HK7.out (.inr (by omega)) _ _ _ _ _) (by omega) HG.out ?_ (by simpa [heardF] using HID.out)
      have := ((((HG7.out.far (p := ⟨w.heap.size + 1, 0, none⟩) (by show ¬ g = w.heap.size + 1; omega) (.bool true)).far (p := ⟨w.heap.size + 1, 1, none⟩) (by show ¬ g = w.heap.size + 1; omega) (.bool false)).far (p := ⟨w.heap.size + 1, 2, none⟩) (by show ¬ g = w.heap.size + 1; omega) (.bool m)).far (p := ⟨w.heap.size + 1, 3, none⟩) (by show ¬ g = w.heap.size + 1; omega) (.bool (!m))).far (p := ⟨w.heap.size + 1, 4, none⟩) (by show ¬ g = w.heap.size + 1; omega) (.bool bv)
      simp only [heardF, PV.arr, HM.out]
      exact this
    · exact keeps_five (HK7.out.mono (fun x hx _ => by cases hx; exact hFg)) (.inr (by omega)) _ _ _ _ _
end Go.Proofs.Ytmehglliajefaaa
