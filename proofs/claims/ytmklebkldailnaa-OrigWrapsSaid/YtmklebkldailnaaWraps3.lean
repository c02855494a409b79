/-
  The walk of OrigWraps, its beginning.
-/
import Derived.Test.YtmklebkldailnaaWraps2
namespace Go.Proofs.Ytmklebkldailnaa
open Go.RowKit
set_option linter.unusedSimpArgs false
set_option linter.unusedVariables false

set_option maxRecDepth 100000 in
set_option maxHeartbeats 4000000 in
theorem wraps_any (b age waits : Int) (w : World) (hb : 0 ≤ b ∧ b < 256) (ha : 0 ≤ age ∧ age < 256) (hw : 0 ≤ waits ∧ waits < 256) :
    Calls Try.prog 4 #[.int .u8 b, .int .u8 age, .int .u8 waits] w fun r w' => r = .returned (.bool true) ∧ Below w.heap.size w w' := by
  obtain ⟨hb0, hb1⟩ := hb
  obtain ⟨ha0, ha1⟩ := ha
  obtain ⟨hw0, hw1⟩ := hw
  go_enter Try.func4, Try.ntmps4
  go_wp2_with fail
  refine (wakes_any w).mono ?_
  rintro r w1 ⟨rfl, hB1⟩
  have HB1 := hide hB1
  clear hB1
  by_cases h7 : b % 7 = 0
  · have h7' : (b % 7 == 0) = true := by simpa using h7
    clear h7
    go_wp2_with fail
    go_ret
    exact ⟨rfl, HB1.out⟩
  have h7' : (b % 7 == 0) = false := by simpa using h7
  clear h7
  go_wp2_with fail
  refine (wanted_any b w1 hb0 hb1).mono ?_
  rintro r w2 ⟨⟨A, c, B, d⟩, rfl, ho2, hB2⟩
  have HB2 := hide hB2
  have HO2 := hide ho2
  clear hB2 ho2
  dsimp only [lsaA, wantF, List.length_cons, List.length_nil]
  go_wp2_with fail
  have HK7 := hide (Blk.new w2 27 #[.int .i64 0, .int .i64 1, .int .i64 3, .int .i64 3, .int .i64 0, .int .i64 0, .int .i64 0, .slice A 1 c, .slice B 0 d])
  have hB3 := below0 (below0 HB1.out HB2.out) (below_new w2 (.cells #[.int .i64 0, .int .i64 1, .int .i64 3, .int .i64 3, .int .i64 0, .int .i64 0, .int .i64 0, .slice A 1 c, .slice B 0 d] 27))
  have HO3 := hide ((HO2.out.mono HB1.out.size).below (below_new w2 (.cells #[.int .i64 0, .int .i64 1, .int .i64 3, .int .i64 3, .int .i64 0, .int .i64 0, .int .i64 0, .slice A 1 c, .slice B 0 d] 27)))
  have HG7 := hide (show w.heap.size ≤ w2.heap.size from (below0 HB1.out HB2.out).size)
  have HB3 := hide hB3
  clear hB3 HO2 HB2 HB1
  generalize w2.alloc (.cells #[.int .i64 0, .int .i64 1, .int .i64 3, .int .i64 3, .int .i64 0, .int .i64 0, .int .i64 0, .slice A 1 c, .slice B 0 d] 27) = W3 at HK7 HO3 HB3 ⊢
  generalize w2.heap.size = g7 at HK7 HG7 ⊢
  obtain ⟨q, hq⟩ : ∃ q, (b + 1) % 256 = q := ⟨_, rfl⟩
  have q0 : 0 ≤ q := by omega
  have q1 : q < 256 := by omega
  have HQ := hide hq
  rw [hq]
  clear hq
  refine (wanted_any q W3 q0 q1).mono ?_
  rintro r w4 ⟨⟨A', c', B', d'⟩, rfl, ho4, hB4⟩
  have HB4 := hide hB4
  have HO4 := hide ho4
  clear hB4 ho4
  dsimp only [lsaA, wantF, List.length_cons, List.length_nil]
  go_upto_region 7 with (fail)
  have HK9 := hide (Blk.new w4 27 #[.int .i64 0, .int .i64 1, .int .i64 3, .int .i64 3, .int .i64 0, .int .i64 0, .int .i64 0, .slice A' 1 c', .slice B' 0 d'])
  have hB5 := below0 HB4.out (below_new w4 (.cells #[.int .i64 0, .int .i64 1, .int .i64 3, .int .i64 3, .int .i64 0, .int .i64 0, .int .i64 0, .slice A' 1 c', .slice B' 0 d'] 27))
  have HO5 := hide ((HO4.out.mono HB3.out.size).below (below_new w4 (.cells #[.int .i64 0, .int .i64 1, .int .i64 3, .int .i64 3, .int .i64 0, .int .i64 0, .int .i64 0, .slice A' 1 c', .slice B' 0 d'] 27)))
  have HG9 := hide (show W3.heap.size ≤ w4.heap.size from HB4.out.size)
  have HB5 := hide hB5
  clear hB5 HO4 HB4
  generalize w4.alloc (.cells #[.int .i64 0, .int .i64 1, .int .i64 3, .int .i64 3, .int .i64 0, .int .i64 0, .int .i64 0, .slice A' 1 c', .slice B' 0 d'] 27) = W5 at HK9 HO5 HB5 ⊢
  generalize w4.heap.size = g9 at HK9 HG9 ⊢
  go_cut [43] (fun v wc => Hid (v = .bool (decide (q = 0 ∨ q % 3 = b % 3))) ∧ Hid (wc = W5))
  case first =>
    have hq' := HQ.out
    by_cases hq0 : q = 0
    · have e1 : (q == 0) = true := by simpa using hq0
      have HF := hide (show decide (q = 0 ∨ q % 3 = b % 3) = true by simp [hq0])
      clear hq0
      go_wp2_with fail
      go_meet
      exact ⟨hide (by rw [HF.out]), hide rfl⟩
    · have e1 : (q == 0) = false := by simpa using hq0
      have HF := hide (show decide (q = 0 ∨ q % 3 = b % 3) = (q % 3 == b % 3) by simp only [hq0, false_or]; rfl)
      clear hq0
      go_wp2_with fail
      go_meet
      exact ⟨hide (by rw [HF.out]), hide rfl⟩
  obtain ⟨hv, hwc⟩ := hcut
  obtain rfl := hwc.out
  rw [hv.out]
  clear hwc
  generalize hz : decide (q = 0 ∨ q % 3 = b % 3) = z
  have HZ := hide hz
  clear hz hv
  go_upto_if 43 with (fail)
  go_cut [] (fun wx => ∃ (l : List Lk) (pA : LP), Hid (l = if q = 0 ∨ q % 3 = b % 3 then [] else [⟨3, 16, 19, 1 + q % 3⟩]) ∧ Hid (LOwn wx w.heap.size ⟨⟨0, 1, 3, 3, 0, 0, 0⟩, l, []⟩ pA) ∧ Hid (Blk wx g9 27 (lsaA ⟨⟨0, 1, 3, 3, 0, 0, 0⟩, l, []⟩ pA)) ∧ Hid (Below W3.heap.size W3 wx))
  case first =>
    cases z with
    | true =>
      have f7 : wc.frozen? ⟨g9, 7, none⟩ = false := HK9.out.frozen 7
      have e7 : wc.cell? ⟨g9, 7, none⟩ = some (.slice A' 1 c') := HK9.out.cell 7
      go_wp2_with fail
      go_meet
      have hK := (Keeps.refl (fun x => x = g9) wc).setCell (p := ⟨g9, 7, none⟩) (.inl rfl) (.slice none 0 0)
      refine ⟨[], ⟨none, 0, B', d'⟩, hide ?_, hide ⟨World.ownsRow_nil _ _ _ _, ?_⟩, hide (HK9.out.set_ 7 (.slice none 0 0)), hide (below_keeps HB5.out hK (fun x hx => by cases hx; exact HG9.out))⟩
      · rw [if_pos (of_decide_eq_true HZ.out)]
      · exact hK.own HO5.out.mem (fun x hx e => own_blk_ne HO5.out.mem HK9.out (by decide) (e ▸ hx))
    | false =>
      go_wp2_with fail
      go_meet
      refine ⟨[⟨3, 16, 19, 1 + q % 3⟩], ⟨A', c', B', d'⟩, hide ?_, HO5, HK9, HB5⟩
      rw [if_neg (of_decide_eq_false HZ.out)]
  clear HO5 HB5 HK9
  obtain ⟨l, ⟨Al, cl, Bl, dl⟩, hl, hO5, hK9, hB5⟩ := hcut
  have hne : ¬ g7 = g9 := by have h1 := HK7.out.lt; have h2 := HG9.out; omega
  have HNE := hide hne
  have HK7' := hide (HK7.out.below hB5.out HK7.out.lt)
  have HO3' := hide (HO3.out.below hB5.out)
  have e4 : wc.cell? ⟨g9, 4, none⟩ = some (.int .i64 0) := hK9.out.cell 4
  have e0 : wc.cell? ⟨g9, 0, none⟩ = some (.int .i64 0) := hK9.out.cell 0
  have f4 : wc.frozen? ⟨g9, 4, none⟩ = false := hK9.out.frozen 4
  have f0 : wc.frozen? ⟨g9, 0, none⟩ = false := hK9.out.frozen 0
  clear HK7 HO3
  go_upto_region 9 with (fail)
  go_cut [] (fun W6 => Hid (Blk W6 g7 27 #[.int .i64 0, .int .i64 1, .int .i64 3, .int .i64 3, .int .i64 0, .int .i64 0, .int .i64 0, .slice A 1 c, .slice B 0 d]) ∧ Hid (Blk W6 g9 27 #[.int .i64 (age % 60), .int .i64 1, .int .i64 3, .int .i64 3, .int .i64 2147483647, .int .i64 0, .int .i64 0, .slice Al l.length cl, .slice Bl 0 dl]) ∧ Hid (LOwn W6 w.heap.size ⟨⟨age % 60, 1, 3, 3, 2147483647, 0, 0⟩, l, []⟩ ⟨Al, cl, Bl, dl⟩) ∧ Hid (LOwn W6 w.heap.size (wantF b) ⟨A, c, B, d⟩) ∧ Hid (Below w.heap.size w W6))
  case first =>
    go_wp2_with fail
    go_meet
    have hK := ((Keeps.refl (fun x => x = g9) wc).setCell (p := ⟨g9, 4, none⟩) (.inl rfl) (.int .i64 2147483647)).setCell (p := ⟨g9, 0, none⟩) (.inl rfl) (.int .i64 (age % 60))
    have hk := (hK9.out.set_ 4 (.int .i64 2147483647)).set_ 0 (.int .i64 (age % 60))
    have hb := below_keeps (hB5.out) hK (fun x hx => by cases hx; exact HG9.out)
    exact ⟨hide (hK.blk HK7'.out HNE.out), hide hk, hide ⟨hK.own hO5.out.links (fun x hx e => own_blk_ne hO5.out.links hK9.out (by decide) (e ▸ hx)), hK.own hO5.out.mem (fun x hx e => own_blk_ne hO5.out.mem hK9.out (by decide) (e ▸ hx))⟩,
      hide ⟨hK.own HO3'.out.links (fun x hx e => own_blk_ne HO3'.out.links hK9.out (by decide) (e ▸ hx)), hK.own HO3'.out.mem (fun x hx e => own_blk_ne HO3'.out.mem hK9.out (by decide) (e ▸ hx))⟩, hide (below0 HB3.out hb)⟩
  case rest =>
    rename_i hK
    refine hK _ _ ?_
    obtain ⟨x1, x2, x3, x4, x5⟩ := hcut
    exact wraps2a_any w _ b age waits A B Al Bl c d cl dl g7 g9 l ha0 ha1 hw0 hw1 (hide (by rw [hl.out]; split <;> simp)) (hide (by
      rw [hl.out]
      split
      · simp
      · rename_i h
        intro e
        simp only [List.cons.injEq, Lk.mk.injEq, and_true, true_and] at e
        exact h (.inr (by omega)))) x1 x2 x3 x4 x5 _ (by kernel_rfl)
end Go.Proofs.Ytmklebkldailnaa
