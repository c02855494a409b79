/-
  Hear, where a Hello is taken from a new one.
-/
import Derived.Test.YtmehglliajefaaaC
namespace Go.Proofs.Ytmehglliajefaaa
open Go.RowKit

theorem PeersRep.add {w w' : World} {F : Nat → Prop} {pl : Nat} {me lan : Int} {ad : Nat → Option Nat} {ps : Nat → PV} {q g : Nat} {x : PV} (h : PeersRep w F pl me lan ad ps) (hK : Keeps (fun x => x = pl) w w') (hq1 : 1 ≤ q) (hq : q < 16) (hnew : w.heap.size ≤ g)
    (hbox : Blk w' pl 57 (peersCells me lan (setAd ad q (some g)))) (hb : Blk w' g 47 x.arr) (hid : x.id = q) :
    PeersRep w' (fun x => F x ∨ x = g) pl me lan (setAd ad q (some g)) (fun i => if i = q then x else ps i) := by
  have hpl := h.box.lt
  refine ⟨hbox, fun i g' hi hg' => ?_, fun i j g' hi hj hg1 hg2 => ?_, ?_, .inl h.hpl, fun y hy => ?_⟩
  · by_cases e : i = q
    · subst e
      simp only [setAd, if_true, Option.some.injEq] at hg'
      subst hg'
      simp only [if_true]
      exact ⟨hb, .inr (by first | rfl | trivial), by omega, hid⟩
    · simp only [setAd, e, if_false] at hg' ⊢
      obtain ⟨h1, h2, h3, h4⟩ := h.one i g' hi hg'
      exact ⟨hK.blk h1 h3, .inl h2, h3, h4⟩
  · have hold : ∀ k, k < 16 → ad k = some g' → g' < w.heap.size := fun k hk e => (h.one k g' hk e).1.lt
    by_cases e1 : i = q
    · by_cases e2 : j = q
      · rw [e1, e2]
      · simp only [setAd, e1, e2, if_true, if_false, Option.some.injEq] at hg1 hg2
        have := hold j hj hg2
        omega
    · by_cases e2 : j = q
      · simp only [setAd, e1, e2, if_true, if_false, Option.some.injEq] at hg1 hg2
        have := hold i hi hg1
        omega
      · simp only [setAd, e1, e2, if_false] at hg1 hg2
        exact h.inj i j g' hi hj hg1 hg2
  · simp only [setAd, show ¬ 0 = q by omega, if_false]
    exact h.zero
  · rcases hy with hy | rfl
    · exact Nat.lt_of_lt_of_le (h.lt y hy) hK.size
    · exact hb.lt

set_option maxRecDepth 20000 in
set_option maxHeartbeats 8000000 in
theorem hear_fresh (F : Nat → Prop) (pl : Nat) (me lan : Int) (ad : Nat → Option Nat) (ps : Nat → PV) (q : Nat) (prio dr bdr now : Int) (A : Option Addr) (n c : Nat) (seen : List Int) (w : World)
    (h : PeersRep w F pl me lan ad ps) (hl0 : 0 ≤ lan) (hl1 : lan ≤ 3) (hq1 : 1 ≤ q) (hq2 : q ≤ 15) (hme : (q : Int) ≠ me) (hdr : okA lan dr) (hbdr : okA lan bdr) (hg : ad q = none) (hr : Reads w w.heap.size 1 A n (ints seen)) (hA : 0 < n → ∀ b off, A = some ⟨b, off, none⟩ → ¬ F b) (hn : n ≤ 100000) :
    Calls Try.prog 8 #[.pointer (some ⟨pl, 0, none⟩), .int .i64 (q : Int), .agg #[.int .i64 2, .int .i64 8, .int .i64 prio, .int .i64 dr, .int .i64 bdr, .slice A n c], .int .i64 now] w fun r w' =>
      r = .returned (heardV true true (decide (me ∈ seen)) false (decide (claimsF ⟨q, 0, 0, 0, 1, false, 0⟩ ≠ claimsF (heardF me prio dr bdr now seen ⟨q, 0, 0, 0, 1, false, 0⟩)))) ∧
      ∃ g, w.heap.size ≤ g ∧ g < w'.heap.size ∧ PeersRep w' (fun x => F x ∨ x = g) pl me lan (setAd ad q (some g)) (fun i => if i = q then heardF me prio dr bdr now seen ⟨q, 0, 0, 0, 1, false, 0⟩ else ps i) ∧ Keeps F w w' := by
  have hplt := h.box.lt
  have c0 : w.cell? ⟨pl, 0, none⟩ = some (.int .i64 me) := h.box.cell 0
  have c1 : w.cell? ⟨pl, 1, none⟩ = some (.int .i64 lan) := h.box.cell 1
  have cq : w.cell? ⟨pl, 2 + q, none⟩ = some (.pointer none) := (h.box.cell (2 + q)).trans (by rw [peersCells_at _ _ _ _ (by omega), hg]; rfl)
  have cf : ∀ i, w.frozen? ⟨pl, i, none⟩ = false := h.box.frozen
  have b1 : ((q : Int) == me) = false := by simpa using hme
  have Hh := hide h
  have HR := hide hr
  have HAF := hide hA
  have HG := hide hg
  have HD1 := hide (decide_eq_true hdr)
  have HD2 := hide (decide_eq_true hbdr)
  clear h hr hA hg hdr hbdr hme
  have HB2 := fun (o1 o2 : Obj) => hide (((Below.refl w.heap.size w).alloc (Nat.le_refl _) o1).alloc (by simp) o2)
  have hp1 : pl < w.heap.size + 1 := by omega
  have hp2 : pl < w.heap.size + 1 + 1 := by omega
  have hp3 : pl < w.heap.size + 1 + 1 + 1 := by omega
  have hp4 : pl < w.heap.size + 1 + 1 + 1 + 1 := by omega
  go_enter Try.func8, Try.ntmps8
  go_wp2_with fail
  refine (who_any pl lan dr hl0 hl1 _ (cell_keep c1 (HB2 _ _).out)).mono ?_
  rintro r w1 ⟨rfl, rfl⟩
  rw [HD1.out]
  go_wp2_with fail
  refine (who_any pl lan bdr hl0 hl1 _ (cell_keep c1 (HB2 _ _).out)).mono ?_
  rintro r w1 ⟨rfl, rfl⟩
  rw [HD2.out]
  go_wp2_with fail
  have hb0 := (Hh.out.box.set_ (2 + q) (ptr (some (w.heap.size + 1 + 1 + 1))))
  rw [peersCells_set _ _ _ _ _ (by omega)] at hb0
  have hK0 : Keeps (fun x => x = pl) w (w.setCell ⟨pl, 2 + q, none⟩ (.pointer (some ⟨w.heap.size + 1 + 1 + 1, 0, none⟩))) := (Keeps.refl (fun x => x = pl) w).setCell (p := ⟨pl, 2 + q, none⟩) (.inl rfl) _
  have hz0 : (w.setCell ⟨pl, 2 + q, none⟩ (.pointer (some ⟨w.heap.size + 1 + 1 + 1, 0, none⟩))).heap.size = w.heap.size := by simp [World.setCell]
  have hb0' : Blk (w.setCell ⟨pl, 2 + q, none⟩ (.pointer (some ⟨w.heap.size + 1 + 1 + 1, 0, none⟩))) pl 57 (peersCells me lan (setAd ad q (some (w.heap.size + 1 + 1 + 1)))) := hb0
  clear hb0
  generalize w.setCell ⟨pl, 2 + q, none⟩ (.pointer (some ⟨w.heap.size + 1 + 1 + 1, 0, none⟩)) = Wa at hb0' hK0 hz0 ⊢
  obtain ⟨n1, n2, n3, n4, hbW0⟩ := four_new Wa 24 29 29 47 #[.int .i64 2, .int .i64 8, .int .i64 prio, .int .i64 dr, .int .i64 bdr, .slice A n c] #[.bool false, .bool false, .bool false, .bool false, .bool false] #[.bool true, .bool true, .bool false, .bool false, .bool false] #[.int .i64 q, .int .i64 prio, .int .i64 (dr % 16), .int .i64 (bdr % 16), .int .i64 1, .bool false, .int .i64 now]
  have hz4 : ((((Wa.alloc (.cells #[.int .i64 2, .int .i64 8, .int .i64 prio, .int .i64 dr, .int .i64 bdr, .slice A n c] 24)).alloc (.cells #[.bool false, .bool false, .bool false, .bool false, .bool false] 29)).alloc (.cells #[.bool true, .bool true, .bool false, .bool false, .bool false] 29)).alloc (.cells #[.int .i64 q, .int .i64 prio, .int .i64 (dr % 16), .int .i64 (bdr % 16), .int .i64 1, .bool false, .int .i64 now] 47)).heap.size = Wa.heap.size + 1 + 1 + 1 + 1 := by simp
  generalize (((Wa.alloc (.cells #[.int .i64 2, .int .i64 8, .int .i64 prio, .int .i64 dr, .int .i64 bdr, .slice A n c] 24)).alloc (.cells #[.bool false, .bool false, .bool false, .bool false, .bool false] 29)).alloc (.cells #[.bool true, .bool true, .bool false, .bool false, .bool false] 29)).alloc (.cells #[.int .i64 q, .int .i64 prio, .int .i64 (dr % 16), .int .i64 (bdr % 16), .int .i64 1, .bool false, .int .i64 now] 47) = Wb at n1 n2 n3 n4 hbW0 hz4 ⊢
  have n5 := Blk.new Wb 47 #[.int .i64 q, .int .i64 0, .int .i64 0, .int .i64 0, .int .i64 1, .bool false, .int .i64 0]
  replace n1 := n1.alloc (.cells #[.int .i64 q, .int .i64 0, .int .i64 0, .int .i64 0, .int .i64 1, .bool false, .int .i64 0] 47)
  replace n2 := n2.alloc (.cells #[.int .i64 q, .int .i64 0, .int .i64 0, .int .i64 0, .int .i64 1, .bool false, .int .i64 0] 47)
  replace n3 := n3.alloc (.cells #[.int .i64 q, .int .i64 0, .int .i64 0, .int .i64 0, .int .i64 1, .bool false, .int .i64 0] 47)
  replace n4 := n4.alloc (.cells #[.int .i64 q, .int .i64 0, .int .i64 0, .int .i64 0, .int .i64 1, .bool false, .int .i64 0] 47)
  have hbW := below0 hbW0 (below_new Wb (.cells #[.int .i64 q, .int .i64 0, .int .i64 0, .int .i64 0, .int .i64 1, .bool false, .int .i64 0] 47))
  generalize Wb.alloc (.cells #[.int .i64 q, .int .i64 0, .int .i64 0, .int .i64 0, .int .i64 1, .bool false, .int .i64 0] 47) = W at n1 n2 n3 n4 n5 hbW ⊢
  rw [hz4, hz0] at n5
  rw [hz0] at n1 n2 n3 n4
  have hKW : Keeps (fun x => x = pl) w W := hK0.below hbW
  have hpW := hb0'.below hbW hb0'.lt
  have hFpl := Hh.out.hpl
  have hrW : Reads W W.heap.size 1 A n (ints seen) := by
    rcases Nat.eq_zero_or_pos n with h0 | h0
    · have hl := HR.out.1
      exact ⟨hl, fun h => absurd h (by omega)⟩
    · exact (hKW.reads HR.out (Nat.le_refl _) (fun b off e hbg => HAF.out h0 b off e (hbg ▸ hFpl))).more hKW.size
  have hgv : ∃ g, g = w.heap.size + 1 + 1 + 1 := ⟨_, rfl⟩
  obtain ⟨g, hgv⟩ := hgv
  rw [← hgv] at n4 n5 hpW ⊢
  have HKW := hide hKW
  have HN2 := hide n2
  have HN3 := hide n3
  have HN5 := hide n5
  have HGW := hide n4
  have HPW := hide hpW
  have i5 : W.cell? ⟨w.heap.size, 5, none⟩ = some (.slice A n c) := n1.cell 5
  have p0 : W.cell? ⟨pl, 0, none⟩ = some (.int .i64 me) := hpW.cell 0
  have x5 : W.cell? ⟨g, 5, none⟩ = some (.bool false) := n4.cell 5
  have f5 : W.frozen? ⟨g, 5, none⟩ = false := n4.frozen 5
  have hmm : ∃ m, decide (me ∈ seen) = m := ⟨_, rfl⟩
  obtain ⟨m, hm⟩ := hmm
  have HM := hide hm
  have b3 := hide hrW
  have hgl : w.heap.size ≤ g := by omega
  have u1 : ¬ w.heap.size + 1 + 1 = g := by omega
  have u2 : ¬ w.heap.size + 1 = g := by omega
  have u3 : ¬ pl = g := by omega
  have u4 : ¬ g = w.heap.size + 1 + 1 := by omega
  have u5 : ¬ g + 1 = g := by omega
  have u6 : ¬ g = w.heap.size + 1 := by omega
  have u7 : ¬ g + 1 = w.heap.size + 1 + 1 := by omega
  have u8_ : ¬ pl = w.heap.size + 1 + 1 := by omega
  have u9 : ¬ pl = w.heap.size + 1 := by omega
  have HGV := hide hgv
  clear hgv n1 n2 n3 n4 n5 hbW hbW0 hKW hpW hrW hm hK0 hb0' hz4 c0 c1 cq cf
  refine wp_region_still_tail 10 (by kernel_rfl) (by kernel_rfl) ?_
  simp only [List.take_succ_cons, List.take_zero, List.drop_succ_cons, List.drop_zero]
  repeat still_step
  still_call (contains_any A n c seen me _ (by omega) b3.out.drew)
  rw [HM.out]
  repeat still_step
  refine wpStill_nil ?_
  go_wp2_with fail
  have h31 := (HN3.out.far (p := ⟨g, 5, none⟩) u1 (.bool m)).drew
  have h41 := (HN5.out.far (p := ⟨g, 5, none⟩) u5 (.bool m)).drew
  have h21 := (HN2.out.far (p := ⟨g, 5, none⟩) u2 (.bool m)).drew
  have hp2' := (HPW.out.far (p := ⟨g, 5, none⟩) u3 (.bool m)).drew
  have hK2 : Keeps (fun x => x = pl) w (W.setCell ⟨g, 5, none⟩ (.bool m)).drew := (HKW.out.setCell (p := ⟨g, 5, none⟩) (.inr hgl) _).drew
  have hg2' : Blk (W.setCell ⟨g, 5, none⟩ (.bool m)).drew g 47 #[.int .i64 q, .int .i64 prio, .int .i64 (dr % 16), .int .i64 (bdr % 16), .int .i64 1, .bool m, .int .i64 now] := (HGW.out.set_ 5 (.bool m)).drew
  clear i5 p0 x5 f5
  generalize (W.setCell ⟨g, 5, none⟩ (.bool m)).drew = W2 at hg2' h31 h41 h21 hp2' hK2 ⊢
  have HG2 := hide hg2'
  have H31 := hide h31
  have H41 := hide h41
  have H21 := hide h21
  have HP2 := hide hp2'
  have HK2 := hide hK2
  have g5 : W2.cell? ⟨g, 5, none⟩ = some (.bool m) := hg2'.cell 5
  have w5 : W2.cell? ⟨g + 1, 5, none⟩ = some (.bool false) := h41.cell 5
  have o2 : W2.cell? ⟨w.heap.size + 1 + 1, 2, none⟩ = some (.bool false) := h31.cell 2
  have o3 : W2.cell? ⟨w.heap.size + 1 + 1, 3, none⟩ = some (.bool false) := h31.cell 3
  have of_ : ∀ i, W2.frozen? ⟨w.heap.size + 1 + 1, i, none⟩ = false := h31.frozen
  clear hg2' h31 h41 h21 hp2' hK2
  go_region
  go_wp2_with fail
  have h42 := ((H41.out.far (p := ⟨w.heap.size + 1 + 1, 2, none⟩) u7 (.bool m)).far (p := ⟨w.heap.size + 1 + 1, 3, none⟩) u7 (.bool false)).drew
  have h22 := ((H21.out.far (p := ⟨w.heap.size + 1 + 1, 2, none⟩) (by simp) (.bool m)).far (p := ⟨w.heap.size + 1 + 1, 3, none⟩) (by simp) (.bool false)).drew
  have hp3' := ((HP2.out.far (p := ⟨w.heap.size + 1 + 1, 2, none⟩) u8_ (.bool m)).far (p := ⟨w.heap.size + 1 + 1, 3, none⟩) u8_ (.bool false)).drew
  have hg3 := ((HG2.out.far (p := ⟨w.heap.size + 1 + 1, 2, none⟩) u4 (.bool m)).far (p := ⟨w.heap.size + 1 + 1, 3, none⟩) u4 (.bool false)).drew
  have hK3 := ((HK2.out.setCell (p := ⟨w.heap.size + 1 + 1, 2, none⟩) (.inr (by show w.heap.size ≤ w.heap.size + 1 + 1; omega)) (.bool m)).setCell (p := ⟨w.heap.size + 1 + 1, 3, none⟩) (.inr (by show w.heap.size ≤ w.heap.size + 1 + 1; omega)) (.bool false)).drew
  have h32' : Blk ((W2.setCell ⟨w.heap.size + 1 + 1, 2, none⟩ (.bool m)).setCell ⟨w.heap.size + 1 + 1, 3, none⟩ (.bool false)).drew (w.heap.size + 1 + 1) 29 #[.bool true, .bool true, .bool m, .bool false, .bool false] := ((H31.out.set_ 2 (.bool m)).set_ 3 (.bool false)).drew
  clear g5 w5 o2 o3 of_
  generalize ((W2.setCell ⟨w.heap.size + 1 + 1, 2, none⟩ (.bool m)).setCell ⟨w.heap.size + 1 + 1, 3, none⟩ (.bool false)).drew = W3 at h32' h42 h22 hg3 hp3' hK3 ⊢
  have H32 := hide h32'
  have H22 := hide h22
  have HG3 := hide hg3
  have H42 := hide h42
  have HP3 := hide hp3'
  have HK3 := hide hK3
  have q4 : W3.drew.cell? ⟨w.heap.size + 1 + 1, 4, none⟩ = some (.bool false) := h32'.cell 4
  have q0 : HearS g (g + 1) q prio (dr % 16) (bdr % 16) 1 m now q 0 0 0 1 false 0 W3.drew := HearS.of hg3 h42
  clear h32' h42 h22 hg3 hp3' hK3
  have hne := fun (v : World) => neq_claim (claimsF ⟨q, 0, 0, 0, 1, false, 0⟩) (claimsF ⟨q, prio, dr % 16, bdr % 16, 1, m, now⟩) v
  have tok1 : True := trivial
  go_region_held3 (fun w' => HearS g (g + 1) q prio (dr % 16) (bdr % 16) 1 m now q 0 0 0 1 false 0 w') (first | assumption | ((repeat' apply And.intro) <;> first | assumption | go_keep))
    (first
      | (have _t := tok1; go_at_call 24; refine (claims_at q 0 0 0 1 false 0 _).mono ?_; rintro r w5 ⟨rfl, hb5⟩; have q1 := q0.keep hb5; have q5 := cell_keep q4 hb5; clear tok1 _t)
      | (go_at_call 24; refine (claims_at q prio (dr % 16) (bdr % 16) 1 m now _).mono ?_; rintro r w6 ⟨rfl, hb6⟩; have q2 := q1.keep hb6; have q6 := cell_keep q5 hb6; have q7 : w6.frozen? ⟨w.heap.size + 1 + 1, 4, none⟩ = false := ((H32.out.drew.below hb5 H32.out.lt).below hb6 (Nat.lt_of_lt_of_le H32.out.lt hb5.size)).frozen 4))
  generalize hbv : (!decide (claimsF ⟨q, 0, 0, 0, 1, false, 0⟩ = claimsF ⟨q, prio, dr % 16, bdr % 16, 1, m, now⟩)) = bv
  have HBV := hide hbv
  have h27 := ((H22.out.drew.below hb5 H22.out.lt).below hb6 (Nat.lt_of_lt_of_le H22.out.lt hb5.size)).far (p := ⟨w.heap.size + 1 + 1, 4, none⟩) (by simp) (.bool bv)
  have hg7 := ((HG3.out.drew.below hb5 HG3.out.lt).below hb6 (Nat.lt_of_lt_of_le HG3.out.lt hb5.size)).far (p := ⟨w.heap.size + 1 + 1, 4, none⟩) u4 (.bool bv)
  have hp7 := ((HP3.out.drew.below hb5 HP3.out.lt).below hb6 (Nat.lt_of_lt_of_le HP3.out.lt hb5.size)).far (p := ⟨w.heap.size + 1 + 1, 4, none⟩) u8_ (.bool bv)
  have hK7 := (((HK3.out.drew).below hb5).below hb6).setCell (p := ⟨w.heap.size + 1 + 1, 4, none⟩) (.inr (by show w.heap.size ≤ w.heap.size + 1 + 1; omega)) (.bool bv)
  have h37' : Blk (w6.setCell ⟨w.heap.size + 1 + 1, 4, none⟩ (.bool bv)) (w.heap.size + 1 + 1) 29 #[.bool true, .bool true, .bool m, .bool false, .bool bv] := ((H32.out.drew.below hb5 H32.out.lt).below hb6 (Nat.lt_of_lt_of_le H32.out.lt hb5.size)).set_ 4 (.bool bv)
  clear hbv hb5 hb6 q0 q1 q2 q4 q5 q6 q7 hne
  generalize w6.setCell ⟨w.heap.size + 1 + 1, 4, none⟩ (.bool bv) = W7 at h37' h27 hg7 hp7 hK7 ⊢
  obtain ⟨r0, r1, r2, r3, r4, _⟩ := h37'.cells5
  obtain ⟨s0, s1, s2, s3, s4, sf⟩ := h27.cells5
  have H27 := hide h27
  have HG7 := hide hg7
  have HP7 := hide hp7
  have HK7 := hide hK7
  clear h37' h27 hg7 hp7 hK7
  go_wp2_with fail
  have hbf := H27.out.five (.bool true) (.bool true) (.bool m) (.bool false) (.bool bv)
  refine bodyPost_ret (results_cell_row (fn := Try.f8) rfl _ _ _ 29 _ (0, 0) _ rfl hbf Try.underlying29 rfl (by kernel_rfl)) rfl ?_
  have hgF : Blk (set5 W7 (w.heap.size + 1) (.bool true) (.bool true) (.bool m) (.bool false) (.bool bv)) g 47 #[.int .i64 q, .int .i64 prio, .int .i64 (dr % 16), .int .i64 (bdr % 16), .int .i64 1, .bool m, .int .i64 now] :=
    ((((HG7.out.far (p := ⟨w.heap.size + 1, 0, none⟩) u6 _).far (p := ⟨w.heap.size + 1, 1, none⟩) u6 _).far (p := ⟨w.heap.size + 1, 2, none⟩) u6 _).far (p := ⟨w.heap.size + 1, 3, none⟩) u6 _).far (p := ⟨w.heap.size + 1, 4, none⟩) u6 _
  refine ⟨?_, g, hgl, hgF.lt, ?_, ?_⟩
  · simp only [heardF, HM.out]
    rw [← HBV.out]
    simp
  · refine Hh.out.add (keeps_five HK7.out (.inr (by omega)) _ _ _ _ _) hq1 (by omega) hgl ?_ ?_ rfl
    · exact ((((HP7.out.far (p := ⟨w.heap.size + 1, 0, none⟩) u9 _).far (p := ⟨w.heap.size + 1, 1, none⟩) u9 _).far (p := ⟨w.heap.size + 1, 2, none⟩) u9 _).far (p := ⟨w.heap.size + 1, 3, none⟩) u9 _).far (p := ⟨w.heap.size + 1, 4, none⟩) u9 _
    · simp only [heardF, PV.arr, HM.out]
      exact hgF
  · exact keeps_five (HK7.out.mono (fun x hx _ => by cases hx; exact hFpl)) (.inr (by omega)) _ _ _ _ _
end Go.Proofs.Ytmehglliajefaaa
