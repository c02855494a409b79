/-
  orig.copied: a description of its own.
-/
import Derived.Test.YtmklebkldailnaaSeal
import Derived.Test.YtmklebkldailnaaEqual
namespace Go.Proofs.Ytmklebkldailnaa
open Go.RowKit
set_option linter.unusedSimpArgs false
set_option linter.unusedVariables false

/-- a description is handed on -/
def Gives (l : LV) (w : World) (r : Ending) (w' : World) : Prop := ∃ p' : LP, r = .returned (.agg (lsaA l p')) ∧ LOK w' l p' ∧ Below w.heap.size w w'
/-- a description, and what is done -/
def Gives2 (l : LV) (n : Int) (w : World) (r : Ending) (w' : World) : Prop := ∃ p' : LP, r = .returned (.tuple #[.agg (lsaA l p'), .int .i64 n]) ∧ LOwn w' w.heap.size l p' ∧ Below w.heap.size w w'
set_option maxRecDepth 20000 in
set_option maxHeartbeats 4000000 in
theorem lcopied_any (l : LV) (p : LP) (w : World) (h1 : l.links.length ≤ 5000) (h2 : l.mem.length ≤ 5000) (hok : LOK w l p) :
    Calls Try.prog 35 #[.agg (lsaA l p)] w fun r w' => ∃ p' : LP, r = .returned (.agg (lsaA l p')) ∧ LOwn w' (w.heap.size + 2) l p' ∧ Below w.heap.size w w' := by
  have HL := hide hok.links
  have HM := hide hok.mem
  clear hok
  obtain ⟨⟨age, kind, id, adv, seq, sum, long⟩, links, mem⟩ := l
  obtain ⟨A, c, B, d⟩ := p
  dsimp only at HL HM h1 h2
  go_enter Try.func35, Try.ntmps35
  go_upto_region 1 with (fail)
  have hb0 := (Blk.new w 27 (lsaA ⟨⟨age, kind, id, adv, seq, sum, long⟩, links, mem⟩ ⟨A, c, B, d⟩)).alloc (.cells lsa0 27)
  have HWS := hide (show ((w.alloc (.cells (lsaA ⟨⟨age, kind, id, adv, seq, sum, long⟩, links, mem⟩ ⟨A, c, B, d⟩) 27)).alloc (.cells lsa0 27)).heap.size = w.heap.size + 2 by simp)
  have hr0 := Blk.new (w.alloc (.cells (lsaA ⟨⟨age, kind, id, adv, seq, sum, long⟩, links, mem⟩ ⟨A, c, B, d⟩) 27)) 27 lsa0
  rw [show (w.alloc (.cells (lsaA ⟨⟨age, kind, id, adv, seq, sum, long⟩, links, mem⟩ ⟨A, c, B, d⟩) 27)).heap.size = w.heap.size + 1 by simp] at hr0
  have hB0 := below0 (below_new w (.cells (lsaA ⟨⟨age, kind, id, adv, seq, sum, long⟩, links, mem⟩ ⟨A, c, B, d⟩) 27)) (below_new _ (.cells lsa0 27))
  generalize (w.alloc (.cells (lsaA ⟨⟨age, kind, id, adv, seq, sum, long⟩, links, mem⟩ ⟨A, c, B, d⟩) 27)).alloc (.cells lsa0 27) = W at hb0 hB0 HWS hr0 ⊢
  refine region_by_last (l := [_, _, _, _, _, _, _, _, _]) (o := _) (fun i v w' => match i with
    | 0 => v = .pointer (some ⟨w.heap.size, 0, none⟩)
    | 1 => v = .agg (HD.arr ⟨age, kind, id, adv, seq, sum, long⟩)
    | 2 => v = .pointer (some ⟨w.heap.size, 7, none⟩)
    | 3 => v = .slice A links.length c
    | 4 => OwnL W.heap.size links v w'
    | 5 => v = .pointer (some ⟨w.heap.size, 8, none⟩)
    | 6 => v = .slice B mem.length d
    | 7 => OwnI W.heap.size mem v w'
    | _ => OwnD W.heap.size ⟨⟨age, kind, id, adv, seq, sum, long⟩, links, mem⟩ v w')
    (by kernel_rfl) (by kernel_rfl) (by kernel_rfl) (by kernel_rfl) (by kernel_rfl) ?_ ⟨?_, ?_, ?_, ?_, ?_, ?_, ?_, ?_, ?_, trivial⟩ ?_
  · intro i v w1 w2 hb hF
    match i, hF with
    | 0, h => exact h
    | 1, h => exact h
    | 2, h => exact h
    | 3, h => exact h
    | 4, h => exact OwnL.keep h hb
    | 5, h => exact h
    | 6, h => exact h
    | 7, h => exact OwnI.keep h hb
    | _ + 8, h => exact OwnD.keep h hb
  · intro a w1 hat
    have h1 : a.tmps.getD 1 undef = .pointer (some ⟨w.heap.size, 0, none⟩) := hat.base 1 (by kernel_rfl)
    (rw [if_pos (by rfl)]; go_simp; exact Below.refl _ _)
  · intro a w1 hat
    have h1 : a.tmps.getD 3 undef = .pointer (some ⟨w.heap.size, 0, none⟩) := hat.dep 0 3 (by kernel_rfl) (by kernel_rfl)
    have c0 := cell_keep (hb0.cell 0) hat.since
    have c1 := cell_keep (hb0.cell 1) hat.since
    have c2 := cell_keep (hb0.cell 2) hat.since
    have c3 := cell_keep (hb0.cell 3) hat.since
    have c4 := cell_keep (hb0.cell 4) hat.since
    have c5 := cell_keep (hb0.cell 5) hat.since
    have c6 := cell_keep (hb0.cell 6) hat.since
    (rw [if_pos (by rfl)]; go_simp; exact Below.refl _ _)
  · intro a w1 hat
    have h1 : a.tmps.getD 1 undef = .pointer (some ⟨w.heap.size, 0, none⟩) := hat.base 1 (by kernel_rfl)
    (rw [if_pos (by rfl)]; go_simp; exact Below.refl _ _)
  · intro a w1 hat
    have h1 : a.tmps.getD 5 undef = .pointer (some ⟨w.heap.size, 7, none⟩) := hat.dep 2 5 (by kernel_rfl) (by kernel_rfl)
    have hc := cell_keep (hb0.cell 7) hat.since
    (rw [if_pos (by rfl)]; go_simp; exact Below.refl _ _)
  · intro a w1 hat
    have h1 : a.tmps.getD 6 undef = .slice A links.length c := hat.dep 3 6 (by kernel_rfl) (by kernel_rfl)
    (have h11 := h1; rw [Array.getD_eq_getD_getElem?] at h11)
    have hbw := below0 hB0 hat.since
    rw [if_pos (by rfl)]
    go_simp
    refine (cloneL_any _ _ _ _ w1 (by omega) ((HL.out.below hbw).more hbw.size)).mono ?_
    rintro r w3 ⟨A3, c3, rfl, ho, hb⟩
    exact ⟨_, rfl, hb, A3, c3, rfl, own_mono ho hat.since.size⟩
  · intro a w1 hat
    have h1 : a.tmps.getD 1 undef = .pointer (some ⟨w.heap.size, 0, none⟩) := hat.base 1 (by kernel_rfl)
    (rw [if_pos (by rfl)]; go_simp; exact Below.refl _ _)
  · intro a w1 hat
    have h1 : a.tmps.getD 8 undef = .pointer (some ⟨w.heap.size, 8, none⟩) := hat.dep 5 8 (by kernel_rfl) (by kernel_rfl)
    have hc := cell_keep (hb0.cell 8) hat.since
    (rw [if_pos (by rfl)]; go_simp; exact Below.refl _ _)
  · intro a w1 hat
    have h1 : a.tmps.getD 9 undef = .slice B mem.length d := hat.dep 6 9 (by kernel_rfl) (by kernel_rfl)
    (have h11 := h1; rw [Array.getD_eq_getD_getElem?] at h11)
    have hbw := below0 hB0 hat.since
    rw [if_pos (by rfl)]
    go_simp
    refine (cloneI_any _ _ _ _ w1 (by omega) ((HM.out.below hbw).more hbw.size)).mono ?_
    rintro r w3 ⟨A3, c3, rfl, ho, hb⟩
    exact ⟨_, rfl, hb, A3, c3, rfl, own_mono ho hat.since.size⟩
  · intro a w1 hat
    have h1 : a.tmps.getD 4 undef = .agg (HD.arr ⟨age, kind, id, adv, seq, sum, long⟩) := hat.dep 1 4 (by kernel_rfl) (by kernel_rfl)
    have h2 : OwnL W.heap.size links (a.tmps.getD 7 undef) w1 := hat.dep 4 7 (by kernel_rfl) (by kernel_rfl)
    have h3 : OwnI W.heap.size mem (a.tmps.getD 10 undef) w1 := hat.dep 7 10 (by kernel_rfl) (by kernel_rfl)
    obtain ⟨A2, c2, e2, ho2⟩ := h2
    obtain ⟨A3, c3, e3, ho3⟩ := h3
    (have h11 := h1; rw [Array.getD_eq_getD_getElem?] at h11)
    (have e21 := e2; rw [Array.getD_eq_getD_getElem?] at e21)
    (have e31 := e3; rw [Array.getD_eq_getD_getElem?] at e31)
    rw [if_pos (by rfl)]
    go_simp
    exact ⟨_, rfl, Below.refl _ _, _, _, rfl, ⟨A2, c2, rfl, ho2⟩, ⟨A3, c3, rfl, ho3⟩⟩
  intro vs W1 hW1 hF
  have hv8 : OwnD W.heap.size ⟨⟨age, kind, id, adv, seq, sum, long⟩, links, mem⟩ (vs 8) W1 := hF 8 (by decide)
  rw [if_pos (by rfl)]
  simp only [putAll, Act.put, List.setIfInBounds_toArray, List.set_cons_zero, List.set_cons_succ, Nat.zero_add, Nat.reduceAdd]
  clear hF
  obtain ⟨x, y, e8, hx, hy⟩ := hv8
  obtain ⟨A2, c2, ex, hoL⟩ := hx
  obtain ⟨A3, c3, ey, hoM⟩ := hy
  subst ex ey
  have HL1 := hide hoL
  have HM1 := hide hoM
  clear hoL hoM
  dsimp only at HL1 HM1 e8
  have hi : (Try.prog.info? 27).map (·.size) = some 9 := by kernel_rfl
  have hr1 := hr0.below hW1 hr0.lt
  refine wp_store_row 27 (.tmp 2) (.tmp 11) rfl (w.heap.size + 1) #[.int .i64 age, .int .i64 kind, .int .i64 id, .int .i64 adv, .int .i64 seq, .int .i64 sum, .int .i64 long, .slice A2 links.length c2, .slice A3 mem.length c3] rfl e8 27 lsa0 hr1 hi rfl (by simp [Value.oneCell']) ?_
  have hB1 := below0 hB0 hW1
  have hKx := (Keeps.refl (fun x => x = w.heap.size + 1) W1).row (.inl rfl) #[.int .i64 age, .int .i64 kind, .int .i64 id, .int .i64 adv, .int .i64 seq, .int .i64 sum, .int .i64 long, .slice A2 links.length c2, .slice A3 mem.length c3]
  have hkr := hr1.setRow_ #[.int .i64 age, .int .i64 kind, .int .i64 id, .int .i64 adv, .int .i64 seq, .int .i64 sum, .int .i64 long, .slice A2 links.length c2, .slice A3 mem.length c3]
  go_wp2_with fail
  refine bodyPost_ret (results_cell_row (fn := Try.f35) rfl _ _ (w.heap.size + 1) 27 _ (0, 0) _ rfl hkr Try.underlying27 rfl hi) rfl ?_
  refine ⟨⟨A2, c2, A3, c3⟩, rfl, ⟨?_, ?_⟩, below_keeps hB1 hKx (fun x hx => by cases hx; omega)⟩
  · rw [← HWS.out]
    exact hKx.own HL1.out (fun x hx e => own_blk_ne HL1.out hr1 (by decide) (by rw [hx, e]))
  · rw [← HWS.out]
    exact hKx.own HM1.out (fun x hx e => own_blk_ne HM1.out hr1 (by decide) (by rw [hx, e]))

set_option maxHeartbeats 2000000 in
theorem alike_any (l l' : LV) (p p' : LP) (w : World) (h1 : l.links.length ≤ 5000) (h2 : l.mem.length ≤ 5000) (h1' : l'.links.length ≤ 5000) (h2' : l'.mem.length ≤ 5000) (hok : LOK w l p) (hok' : LOK w l' p') :
    Calls Try.prog 22 #[.agg (lsaA l p), .agg (lsaA l' p')] w fun r w' => r = .returned (.bool (decide (l.links = l'.links) && decide (l.mem = l'.mem))) ∧ Below w.heap.size w w' := by
  have HO := hide hok
  have HO' := hide hok'
  clear hok hok'
  obtain ⟨⟨age, kind, id, adv, seq, sum, long⟩, links, mem⟩ := l
  obtain ⟨A, c, B, d⟩ := p
  obtain ⟨⟨age', kind', id', adv', seq', sum', long'⟩, links', mem'⟩ := l'
  obtain ⟨A', c', B', d'⟩ := p'
  dsimp only at h1 h2 h1' h2'
  go_enter Try.func22, Try.ntmps22
  go_upto_region 1 with (fail)
  have hb0 := (Blk.new w 27 (lsaA ⟨⟨age, kind, id, adv, seq, sum, long⟩, links, mem⟩ ⟨A, c, B, d⟩)).alloc (.cells (lsaA ⟨⟨age', kind', id', adv', seq', sum', long'⟩, links', mem'⟩ ⟨A', c', B', d'⟩) 27)
  have hr0 := Blk.new (w.alloc (.cells (lsaA ⟨⟨age, kind, id, adv, seq, sum, long⟩, links, mem⟩ ⟨A, c, B, d⟩) 27)) 27 (lsaA ⟨⟨age', kind', id', adv', seq', sum', long'⟩, links', mem'⟩ ⟨A', c', B', d'⟩)
  rw [show (w.alloc (.cells (lsaA ⟨⟨age, kind, id, adv, seq, sum, long⟩, links, mem⟩ ⟨A, c, B, d⟩) 27)).heap.size = w.heap.size + 1 by simp] at hr0
  have hB0 := below0 (below_new w (.cells (lsaA ⟨⟨age, kind, id, adv, seq, sum, long⟩, links, mem⟩ ⟨A, c, B, d⟩) 27)) (below_new _ (.cells (lsaA ⟨⟨age', kind', id', adv', seq', sum', long'⟩, links', mem'⟩ ⟨A', c', B', d'⟩) 27))
  generalize (w.alloc (.cells (lsaA ⟨⟨age, kind, id, adv, seq, sum, long⟩, links, mem⟩ ⟨A, c, B, d⟩) 27)).alloc (.cells (lsaA ⟨⟨age', kind', id', adv', seq', sum', long'⟩, links', mem'⟩ ⟨A', c', B', d'⟩) 27) = W at hb0 hB0 hr0 ⊢
  have a7 : W.cell? ⟨w.heap.size, 7, none⟩ = some (.slice A links.length c) := hb0.cell 7
  have b7 : W.cell? ⟨w.heap.size + 1, 7, none⟩ = some (.slice A' links'.length c') := hr0.cell 7
  have HX := hide (HO.out.below hB0)
  have HX' := hide (HO'.out.below hB0)
  have HB0 := hide hB0
  have HK := hide hb0
  have HR := hide hr0
  clear hb0 hr0 hB0
  obtain ⟨q, hq⟩ : ∃ q, decide (links = links') = q := ⟨_, rfl⟩
  have hE := equalL_any A links.length c links A' links'.length c' links' W (by omega) (by omega) HX.out.links HX'.out.links
  rw [hq] at hE
  have HE := hide hE
  have HQ := hide hq
  clear hE hq
  cases q with
  | false =>
    go_wp2_with (go_at_call 36; refine HE.out.mono ?_; rintro r w1 ⟨rfl, hb1⟩; have HB1 := hide (below0 HB0.out hb1); clear hb1)
    go_ret
    exact ⟨ret_bool (by rw [HQ.out]; rfl), HB1.out⟩
  | true =>
    go_wp2_with (first
      | (go_at_call 36; refine HE.out.mono ?_; rintro r w1 ⟨rfl, hb1⟩; have HB1 := hide (below0 HB0.out hb1); have HX1 := hide (HX.out.below hb1); have HX1' := hide (HX'.out.below hb1); have a8 : w1.cell? ⟨w.heap.size, 8, none⟩ = some (.slice B mem.length d) := (HK.out.below hb1 HK.out.lt).cell 8; have b8 : w1.cell? ⟨w.heap.size + 1, 8, none⟩ = some (.slice B' mem'.length d') := (HR.out.below hb1 HR.out.lt).cell 8; clear hb1)
      | (go_at_call 37; refine (equalI_any B mem.length d mem B' mem'.length d' mem' _ (by omega) (by omega) HX1.out.mem HX1'.out.mem).mono ?_; rintro r w2 ⟨rfl, hb2⟩))
    go_ret
    exact ⟨ret_bool (by rw [HQ.out]; rfl), below0 HB1.out hb2⟩
end Go.Proofs.Ytmklebkldailnaa
