/-
  The law's 'same': a list of neighbors is what the reference's list tells.
-/
import Derived.Test.YtmehglliajefaaaR
namespace Go.Proofs.Ytmehglliajefaaa
open Go.RowKit

theorem seen_all (F : Nat → Prop) (pl : Nat) (me lan : Int) (ad : Nat → Option Nat) (ps : Nat → PV) (w : World) (h : PeersRep w F pl me lan ad ps) :
    Calls Try.prog 20 #[.pointer (some ⟨pl, 0, none⟩)] w fun r w' => ∃ A c, r = .returned (.slice A (allL ad ps).length c) ∧ w'.ownsRow w.heap.size 3 1 (.slice A (allL ad ps).length c) (allL ad ps).length (ints ((allL ad ps).map (·.id))) ∧ Below w.heap.size w w' := by
  have Hh := hide h
  have hle := allL_le ad ps
  clear h
  go_enter Try.func20, Try.ntmps20
  go_wp2_with fail
  refine (all_any F pl me lan ad ps _ Hh.out).mono ?_
  rintro r w1 ⟨A, c, rfl, ho, hb⟩
  rw [listF_true] at ho ⊢
  have HO := hide ho
  have HB := hide hb
  clear ho hb
  go_wp2_with fail
  refine (numbers_any A _ c (allL ad ps) _ (by omega) (Reads.of_own HO.out)).mono ?_
  rintro r w2 ⟨A', c', rfl, ho, hb⟩
  have HO2 := hide ho
  have HB2 := hide hb
  clear ho hb
  go_wp2_with fail
  go_ret
  exact ⟨A', c', rfl, own_mono HO2.out HB.out.size, below0 HB.out HB2.out⟩
theorem allL_at {ad : Nat → Option Nat} {ps : Nat → PV} (h : TabOK ad ps) {k : Nat} {x : PV} (hx : (allL ad ps)[k]? = some x) : ∃ q g : Nat, 1 ≤ q ∧ q ≤ 15 ∧ ad q = some g ∧ ps q = x ∧ x.id = q := by
  obtain ⟨q, _, h2, h3, rfl⟩ := seg_mem _ _ _ (List.mem_of_getElem? hx)
  obtain ⟨g, hg⟩ := Option.isSome_iff_exists.1 h3
  have h0 : q ≠ 0 := fun e => by subst e; rw [h.2] at hg; cases hg
  exact ⟨q, g, by omega, by omega, hg, rfl, h.1 q (by omega) h3⟩

set_option maxRecDepth 20000 in
set_option maxHeartbeats 8000000 in
theorem same_walk (F1 F2 : Nat → Prop) (p1 p2 b2 : Nat) (me lan : Int) (ad : Nat → Option Nat) (ps : Nat → PV) (A0 : Option Addr) (c0 : Nat) (w : World) (h1 : PeersRep w F1 p1 me lan ad ps) (h2 : RefP w F2 p2 b2 me lan (allL ad ps) A0 c0) :
    Calls Try.prog 18 #[.pointer (some ⟨p1, 0, none⟩), .pointer (some ⟨p2, 0, none⟩)] w fun r w' => r = .returned (.bool true) ∧ Below w.heap.size w w' := by
  obtain ⟨i0, hi, hz0, hz1, hz2⟩ := info_parts int_info
  have HT := hide h1.tab
  have H1 := hide h1
  have H2 := hide h2
  have hle := allL_le ad ps
  clear h1 h2
  obtain ⟨l, hl⟩ : ∃ l, allL ad ps = l := ⟨_, rfl⟩
  have HL := hide hl
  rw [hl] at hle
  have hlc : (l.filter PV.two).length ≤ 16 := Nat.le_trans (List.length_filter_le _ _) hle
  clear hl
  go_enter Try.func18, Try.ntmps18
  go_wp2_with fail
  refine (all_any F1 p1 me lan ad ps _ H1.out).mono ?_
  rintro r wa ⟨Aa, ca, rfl, ho, hb⟩
  rw [listF_true, HL.out] at ho ⊢
  have HOa := hide ho
  have HBa := hide hb
  clear ho hb
  go_wp2_with fail
  refine (cands_any F1 p1 me lan ad ps _ (H1.out.below HBa.out)).mono ?_
  rintro r wb ⟨Ab, cb, rfl, ho, hb⟩
  rw [listF_allL, HL.out] at ho ⊢
  have HOb := hide ho
  have HBb := hide hb
  clear ho hb
  go_wp2_with fail
  refine (refCands_any F2 p2 b2 me lan _ A0 c0 _ ((H2.out.below HBa.out).below HBb.out) (by rw [HL.out]; omega)).mono ?_
  rintro r wc ⟨Ac, cc, rfl, ho, hb⟩
  rw [HL.out] at ho ⊢
  have HOc := hide ho
  have HBc := hide (below0 (below0 HBa.out HBb.out) hb)
  have HOa2 := hide (own_below (own_below HOa.out HBb.out) hb)
  have HOb2 := hide (own_below HOb.out hb)
  have H1c := hide (H1.out.below HBc.out)
  have H2c : Hid (RefP wc F2 p2 b2 me lan l A0 c0) := hide (by have := H2.out.below HBc.out; rwa [HL.out] at this)
  obtain ⟨_, _, hsl⟩ := H2c.out.cells
  clear ho hb HOa HOb HBa HBb H1 H2
  go_wp2_with fail
  go_loopw [8, 36] (fun v i wr => ∃ (k : Nat) (A1 : Option Addr) (c1 : Nat), k ≤ l.length ∧ i = .int .i64 k ∧ v = .slice A1 k c1 ∧ Hid (wr.ownsRow wc.heap.size 3 1 (.slice A1 k c1) k (ints ((l.take k).map (·.id)))) ∧ Hid (Below wc.heap.size wc wr)) (fun _ i _ => l.length - (intOf i).toNat)
  case atStart => exact ⟨0, none, 0, Nat.zero_le _, rfl, rfl, World.ownsRow_nil _ _ _ _, Below.refl _ _⟩
  case round =>
    obtain ⟨k, A1, c1, hk, rfl, rfl, hown, hb⟩ := hrel
    by_cases hlt : k < l.length
    · obtain ⟨b, off, x, rfl, hbb, hx, hat⟩ := (Reads.of_own HOa2.out).row_at PV.cells 7 PV.cells_len (by omega) hlt
      obtain ⟨q, g, hq1, hq2, hg, hps, hid⟩ := allL_at HT.out (show (allL ad ps)[k]? = some x by rw [HL.out]; exact hx)
      have d0 : wr.cell? ⟨b, off + k * 7, none⟩ = some (.int .i64 q) := hid ▸ cell_keep (hat 0 _ rfl) hb.out
      have HAT := hide hat
      have HX := hide hx
      have HPS := hide hps
      have HS := hide (take_snoc _ _ _ hx)
      clear hat hx hps
      go_wp2_with fail
      refine (get_any F1 p1 me lan ad ps q g _ (H1c.out.below hb.out) hq1 hq2 hg).mono ?_
      rintro r w4 ⟨rfl, hb4⟩
      rw [HPS.out]
      obtain ⟨id, prio, dr, bdr, state, two, at_⟩ := x
      dsimp only at hid
      subst hid
      go_wp2_with fail
      have hn := Blk.new w4 47 #[.int .i64 (q : Int), .int .i64 prio, .int .i64 dr, .int .i64 bdr, .int .i64 state, .bool two, .int .i64 at_]
      have HB5 := hide (below0 (below0 hb.out hb4) (below_new w4 (.cells #[.int .i64 (q : Int), .int .i64 prio, .int .i64 dr, .int .i64 bdr, .int .i64 state, .bool two, .int .i64 at_] 47)))
      have HO5 := hide (own_below (own_below hown.out hb4) (below_new w4 (.cells #[.int .i64 (q : Int), .int .i64 prio, .int .i64 dr, .int .i64 bdr, .int .i64 state, .bool two, .int .i64 at_] 47)))
      clear hb4 d0
      generalize w4.alloc (.cells #[.int .i64 (q : Int), .int .i64 prio, .int .i64 dr, .int .i64 bdr, .int .i64 state, .bool two, .int .i64 at_] 47) = W5 at hn HB5 HO5 ⊢
      generalize w4.heap.size = z at hn ⊢
      obtain ⟨bb, x', hA', hx', hat'⟩ := (H2c.out.below HB5.out).at_ hlt
      subst hA'
      have hxx := Option.some.inj (hx'.symm.trans HX.out)
      subst hxx
      have hsl5 : W5.cell? ⟨p2, 2, none⟩ = some (.slice (some ⟨bb, 0, none⟩) l.length c0) := (H2c.out.below HB5.out).cells.2.2
      have e0 : W5.cell? ⟨bb, k * 7, none⟩ = some _ := hat' 0 _ rfl
      have e1 : W5.cell? ⟨bb, k * 7 + 1, none⟩ = some _ := hat' 1 _ rfl
      have e2 : W5.cell? ⟨bb, k * 7 + 2, none⟩ = some _ := hat' 2 _ rfl
      have e3 : W5.cell? ⟨bb, k * 7 + 3, none⟩ = some _ := hat' 3 _ rfl
      have e4 : W5.cell? ⟨bb, k * 7 + 4, none⟩ = some _ := hat' 4 _ rfl
      have e5 : W5.cell? ⟨bb, k * 7 + 5, none⟩ = some _ := hat' 5 _ rfl
      have e6 : W5.cell? ⟨bb, k * 7 + 6, none⟩ = some _ := hat' 6 _ rfl
      have d0 : W5.cell? ⟨b, off + k * 7, none⟩ = some _ := cell_keep (HAT.out 0 _ rfl) HB5.out
      have d1 : W5.cell? ⟨b, off + k * 7 + 1, none⟩ = some _ := cell_keep (HAT.out 1 _ rfl) HB5.out
      have d2 : W5.cell? ⟨b, off + k * 7 + 2, none⟩ = some _ := cell_keep (HAT.out 2 _ rfl) HB5.out
      have d3 : W5.cell? ⟨b, off + k * 7 + 3, none⟩ = some _ := cell_keep (HAT.out 3 _ rfl) HB5.out
      have d4 : W5.cell? ⟨b, off + k * 7 + 4, none⟩ = some _ := cell_keep (HAT.out 4 _ rfl) HB5.out
      have d5 : W5.cell? ⟨b, off + k * 7 + 5, none⟩ = some _ := cell_keep (HAT.out 5 _ rfl) HB5.out
      have d6 : W5.cell? ⟨b, off + k * 7 + 6, none⟩ = some _ := cell_keep (HAT.out 6 _ rfl) HB5.out
      have n0 : W5.cell? ⟨z, 0, none⟩ = some _ := hn.cell 0
      have n1 : W5.cell? ⟨z, 1, none⟩ = some _ := hn.cell 1
      have n2 : W5.cell? ⟨z, 2, none⟩ = some _ := hn.cell 2
      have n3 : W5.cell? ⟨z, 3, none⟩ = some _ := hn.cell 3
      have n4 : W5.cell? ⟨z, 4, none⟩ = some _ := hn.cell 4
      have n5 : W5.cell? ⟨z, 5, none⟩ = some _ := hn.cell 5
      have n6 : W5.cell? ⟨z, 6, none⟩ = some _ := hn.cell 6
      have hbs := HB5.out.size
      have HX' := hide hx'
      clear hat' hx' hn
      go_quiet (fail)
      have d0' : (W5.drewN nq).cell? ⟨b, off + k * 7, none⟩ = some _ := d0
      clear d1 d2 d3 d4 d5 d6 e0 e1 e2 e3 e4 e5 e6 n0 n1 n2 n3 n4 n5 n6 hsl5 d0
      have HB6 := hide (below_drewN HB5.out nq)
      have HO6 : Hid ((W5.drewN nq).ownsRow wc.heap.size 3 1 (.slice A1 k c1) k (ints ((l.take k).map (·.id)))) := hide (own_below HO5.out (below_drewN (Below.refl _ _) nq))
      have hbs6 : wc.heap.size ≤ (W5.drewN nq).heap.size := hbs
      clear HB5 HO5
      generalize W5.drewN nq = W6 at d0' HB6 HO6 hbs6 ⊢
      go_wp2_with (first
        | (at_builtin
           refine wpList_append_any _ rfl (.tmp 73) (.tmp 79) 22 rfl wc.heap.size 3 i0 _ 1 8 Try.underlying22 hi hz0 hz1 hz2 rfl (by omega) (.slice A1 k c1) k (ints ((l.take k).map (·.id))) rfl
             (HO6.out.alloc _) (W6.heap.size + 1) (some ⟨W6.heap.size, 0, none⟩) 1 1 [.int .i64 (q : Int)] rfl (Reads.new W6 #[.int .i64 (q : Int)] 3 1 1 rfl) (by simp [Value.oneCell']) (by simp only [maxLen]; omega) (by omega) (by simp; omega) ?_
           intro A3 c3 w3 hown3 hg3 hloc3
           have HB3 := hide ((HB6.out.alloc hbs6 (.cells #[.int .i64 (q : Int)] 3)).grown hg3 (by simp; omega) (fun g hg => (own_base HO6.out hg).1))
           have HO3 := hide hown3
           clear hown3 hg3 hloc3))
      go_roundw
      case rel => exact ⟨k + 1, A3, c3, by omega, by go_num, rfl, by rw [HS.out, List.map_append, ints_append]; exact HO3, HB3⟩
      case measure => simp [intOf]; omega
    · have hkl : k = l.length := by omega
      subst hkl
      rw [List.take_of_length_le (Nat.le_refl _)] at hown
      go_wp2_with fail
      obtain ⟨wo, rfl⟩ : ∃ wo : World, wo = wr := ⟨_, rfl⟩
      go_loopw [84] (fun i wr => ∃ k : Nat, k ≤ (l.filter PV.two).length ∧ i = .int .i64 k ∧ Hid (Below wo.heap.size wo wr)) (fun i _ => (l.filter PV.two).length - (intOf i).toNat)
      case atStart => exact ⟨0, Nat.zero_le _, rfl, Below.refl _ _⟩
      case round =>
        obtain ⟨k, hk, rfl, hbq⟩ := hrel
        have HBQ := hide (below0 hb.out hbq.out)
        by_cases hlt : k < (l.filter PV.two).length
        · obtain ⟨b, off, x, rfl, hbb, hx, hat⟩ := (Reads.of_own HOb2.out).row_at CV.cells 4 CV.cells_len (by omega) hlt
          obtain ⟨b', off', x', rfl, hbb', hx', hat'⟩ := (Reads.of_own HOc.out).row_at CV.cells 4 CV.cells_len (by omega) hlt
          have hxx := Option.some.inj (hx'.symm.trans hx)
          subst hxx
          obtain ⟨id, prio, dr, bdr⟩ := x'
          have d0 : wr.cell? ⟨b, off + k * 4, none⟩ = some _ := cell_keep (hat 0 _ rfl) HBQ.out
          have d1 : wr.cell? ⟨b, off + k * 4 + 1, none⟩ = some _ := cell_keep (hat 1 _ rfl) HBQ.out
          have d2 : wr.cell? ⟨b, off + k * 4 + 2, none⟩ = some _ := cell_keep (hat 2 _ rfl) HBQ.out
          have d3 : wr.cell? ⟨b, off + k * 4 + 3, none⟩ = some _ := cell_keep (hat 3 _ rfl) HBQ.out
          have e0 : wr.cell? ⟨b', off' + k * 4, none⟩ = some _ := cell_keep (hat' 0 _ rfl) HBQ.out
          have e1 : wr.cell? ⟨b', off' + k * 4 + 1, none⟩ = some _ := cell_keep (hat' 1 _ rfl) HBQ.out
          have e2 : wr.cell? ⟨b', off' + k * 4 + 2, none⟩ = some _ := cell_keep (hat' 2 _ rfl) HBQ.out
          have e3 : wr.cell? ⟨b', off' + k * 4 + 3, none⟩ = some _ := cell_keep (hat' 3 _ rfl) HBQ.out
          clear hat hat' hx hx'
          go_wp2_with fail
          go_quiet (fail)
          go_wp2_with fail
          go_roundw
          case rel => exact ⟨k + 1, by omega, by go_num, below_drewN hbq.out _⟩
          case measure => simp [intOf]; omega
        · go_wp2_with fail
          refine (seen_all F1 p1 me lan ad ps _ (H1c.out.below HBQ.out)).mono ?_
          rintro r w5 ⟨A5, c5, rfl, ho5, hb5⟩
          rw [HL.out] at ho5 ⊢
          have hrr := (Reads.of_own hown.out)
          have HR5 := hide (((hrr.below hbq.out).more hbq.out.size |>.below hb5).more hb5.size)
          have HO5 := hide (Reads.of_own ho5)
          have HB5 := hide (below0 HBQ.out hb5)
          clear hrr ho5 hb5
          go_wp2_with fail
          refine (ints_any A5 _ c5 _ A1 _ c1 _ _ (by omega) HO5.out HR5.out).mono ?_
          rintro r w6 ⟨rfl, hb6⟩
          have HB6 := hide (below0 HBc.out (below0 HB5.out hb6))
          clear hb6
          go_wp2_with fail
          go_ret
          exact ⟨ret_bool (by simp), HB6.out⟩
end Go.Proofs.Ytmehglliajefaaa
