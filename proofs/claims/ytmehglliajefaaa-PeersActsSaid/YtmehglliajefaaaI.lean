/-
  Get, Drop, Set, Cands.
-/
import Derived.Test.YtmehglliajefaaaH
namespace Go.Proofs.Ytmehglliajefaaa
open Go.RowKit

abbrev set7 (w : World) (g : Nat) (v0 v1 v2 v3 v4 v5 v6 : Value) : World := ((((((w.setCell ⟨g, 0, none⟩ v0).setCell ⟨g, 1, none⟩ v1).setCell ⟨g, 2, none⟩ v2).setCell ⟨g, 3, none⟩ v3).setCell ⟨g, 4, none⟩ v4).setCell ⟨g, 5, none⟩ v5).setCell ⟨g, 6, none⟩ v6
theorem ptr_none : ptr none = .pointer none := rfl
theorem ptr_some (g : Nat) : ptr (some g) = .pointer (some ⟨g, 0, none⟩) := rfl

/-- the pointer that 'at' gives, for any number -/
def atF (ad : Nat → Option Nat) (i : Int) : Option Nat := if 1 ≤ i ∧ i ≤ 15 then ad i.toNat else none
theorem at_any (pl : Nat) (me lan : Int) (ad : Nat → Option Nat) (i : Int) (w : World) (h : Blk w pl 57 (peersCells me lan ad)) :
    Calls Try.prog 33 #[.pointer (some ⟨pl, 0, none⟩), .int .i64 i] w fun r w' => r = .returned (ptr (atF ad i)) ∧ w' = w := by
  unfold atF
  by_cases hi : 1 ≤ i ∧ i ≤ 15
  · obtain ⟨q, rfl⟩ : ∃ q : Nat, i = q := ⟨i.toNat, by omega⟩
    rw [if_pos hi]
    exact at_in pl me lan ad q (by omega) (by omega) w h
  · rw [if_neg hi]
    exact at_out pl i (by omega) w

set_option maxHeartbeats 2000000 in
theorem get_any (F : Nat → Prop) (pl : Nat) (me lan : Int) (ad : Nat → Option Nat) (ps : Nat → PV) (q g : Nat) (w : World) (h : PeersRep w F pl me lan ad ps) (hq1 : 1 ≤ q) (hq2 : q ≤ 15) (hg : ad q = some g) :
    Calls Try.prog 19 #[.pointer (some ⟨pl, 0, none⟩), .int .i64 (q : Int)] w fun r w' => r = .returned (.tuple #[.agg (ps q).arr, .bool true]) ∧ Below w.heap.size w w' := by
  obtain ⟨hbg, _, _, _⟩ := h.one q g (by omega) hg
  have hglt := hbg.lt
  obtain ⟨x, hx⟩ : ∃ x, ps q = x := ⟨_, rfl⟩
  rw [hx] at hbg ⊢
  obtain ⟨id, prio, dr, bdr, state, two, at_⟩ := x
  have d0 : w.cell? ⟨g, 0, none⟩ = some (.int .i64 id) := hbg.cell 0
  have d1 : w.cell? ⟨g, 1, none⟩ = some (.int .i64 prio) := hbg.cell 1
  have d2 : w.cell? ⟨g, 2, none⟩ = some (.int .i64 dr) := hbg.cell 2
  have d3 : w.cell? ⟨g, 3, none⟩ = some (.int .i64 bdr) := hbg.cell 3
  have d4 : w.cell? ⟨g, 4, none⟩ = some (.int .i64 state) := hbg.cell 4
  have d5 : w.cell? ⟨g, 5, none⟩ = some (.bool two) := hbg.cell 5
  have d6 : w.cell? ⟨g, 6, none⟩ = some (.int .i64 at_) := hbg.cell 6
  have hbx := h.box
  have HBX := fun o => hide (hbx.alloc o)
  have HG := hide hg
  clear h hbg hx hbx hg
  go_enter Try.func19, Try.ntmps19
  go_wp2_with fail
  refine (at_in pl me lan ad q hq1 hq2 _ (HBX _).out).mono ?_
  rintro r w1 ⟨rfl, rfl⟩
  rw [HG.out, ptr_some]
  go_wp2_with fail
  have hb := Blk.new w 47 (PV.arr ⟨id, prio, dr, bdr, state, two, at_⟩)
  refine bodyPost_ret (results_row_tmp (fn := Try.f19) rfl _ _ _ 47 _ _ rfl hb Try.underlying47 rfl (by kernel_rfl)) rfl ?_
  exact ⟨rfl, below_new _ _⟩

theorem drop_none (pl : Nat) (me lan : Int) (ad : Nat → Option Nat) (i : Int) (w : World) (h : Blk w pl 57 (peersCells me lan ad)) (ha : atF ad i = none) :
    Calls Try.prog 14 #[.pointer (some ⟨pl, 0, none⟩), .int .i64 i] w fun r w' => r = .returned (.bool false) ∧ w' = w := by
  have HA := hide ha
  clear ha
  go_enter Try.func14, Try.ntmps14
  go_wp2_with fail
  refine (at_any pl me lan ad i _ h).mono ?_
  rintro r w1 ⟨rfl, rfl⟩
  rw [HA.out, ptr_none]
  go_wp2_with fail
  go_ret
  exact ⟨rfl, rfl⟩

set_option maxHeartbeats 2000000 in
theorem drop_some (F : Nat → Prop) (pl : Nat) (me lan : Int) (ad : Nat → Option Nat) (ps : Nat → PV) (q g : Nat) (w : World) (h : PeersRep w F pl me lan ad ps) (hq1 : 1 ≤ q) (hq2 : q ≤ 15) (hg : ad q = some g) :
    Calls Try.prog 14 #[.pointer (some ⟨pl, 0, none⟩), .int .i64 (q : Int)] w fun r w' => r = .returned (.bool true) ∧ PeersRep w' F pl me lan (setAd ad q none) ps ∧ Keeps F w w' := by
  have Hh := hide h
  have HG := hide hg
  have hc : w.cell? ⟨pl, 2 + q, none⟩ = some (.pointer (some ⟨g, 0, none⟩)) := (h.box.cell (2 + q)).trans (by rw [peersCells_at _ _ _ _ (by omega), hg]; rfl)
  have hf : w.frozen? ⟨pl, 2 + q, none⟩ = false := h.box.frozen _
  clear h hg
  go_enter Try.func14, Try.ntmps14
  go_wp2_with fail
  refine (at_in pl me lan ad q hq1 hq2 _ Hh.out.box).mono ?_
  rintro r w1 ⟨rfl, rfl⟩
  rw [HG.out, ptr_some]
  go_wp2_with fail
  go_ret
  have hK : Keeps (fun x => x = pl) w1 (w1.setCell ⟨pl, 2 + q, none⟩ (.pointer none)) := (Keeps.refl (fun x => x = pl) w1).setCell (p := ⟨pl, 2 + q, none⟩) (.inl rfl) _
  have hb := Hh.out.box.set_ (2 + q) (ptr none)
  rw [peersCells_set _ _ _ _ _ (by omega)] at hb
  refine ⟨rfl, ⟨hb, fun j g' hj hg' => ?_, fun j k g' hj hk h1 h2 => ?_, ?_, Hh.out.hpl, fun g' hg' => Nat.lt_of_lt_of_le (Hh.out.lt g' hg') hK.size⟩, hK.mono (fun x hx _ => by cases hx; exact Hh.out.hpl)⟩
  · by_cases e : j = q
    · rw [setAd, if_pos e] at hg'; cases hg'
    · rw [setAd, if_neg e] at hg'
      obtain ⟨h1, h2, h3, h4⟩ := Hh.out.one j g' hj hg'
      exact ⟨hK.blk h1 h3, h2, h3, h4⟩
  · by_cases e1 : j = q
    · rw [setAd, if_pos e1] at h1; cases h1
    · by_cases e2 : k = q
      · rw [setAd, if_pos e2] at h2; cases h2
      · rw [setAd, if_neg e1] at h1
        rw [setAd, if_neg e2] at h2
        exact Hh.out.inj j k g' hj hk h1 h2
  · rw [setAd, if_neg (by omega)]
    exact Hh.out.zero

set_option maxHeartbeats 2000000 in
theorem set_no (pl : Nat) (me lan : Int) (ad : Nat → Option Nat) (i s : Int) (w : World) (h : Blk w pl 57 (peersCells me lan ad)) (ha : atF ad i = none ∨ s < 0 ∨ 6 < s) :
    Calls Try.prog 16 #[.pointer (some ⟨pl, 0, none⟩), .int .i64 i, .int .i64 s] w fun r w' => r = .returned (.bool false) ∧ w' = w := by
  have HA := hide ha
  clear ha
  go_enter Try.func16, Try.ntmps16
  go_wp2_with fail
  refine (at_any pl me lan ad i _ h).mono ?_
  rintro r w1 ⟨rfl, rfl⟩
  cases hat : atF ad i with
  | none =>
    rw [ptr_none]
    clear hat
    go_wp2_with fail
    go_ret
    exact ⟨rfl, rfl⟩
  | some g =>
    rw [ptr_some]
    have hs : s < 0 ∨ 0 ≤ s ∧ 6 < s := by
      rcases HA.out with h1 | h1 | h1
      · rw [hat] at h1; cases h1
      · exact .inl h1
      · exact .inr (by omega)
    clear hat
    rcases hs with h1 | ⟨h1, h2⟩
    · go_wp2_with fail
      go_ret
      exact ⟨rfl, rfl⟩
    · go_wp2_with fail
      go_ret
      exact ⟨rfl, rfl⟩
set_option maxHeartbeats 2000000 in
theorem set_yes (F : Nat → Prop) (pl : Nat) (me lan : Int) (ad : Nat → Option Nat) (ps : Nat → PV) (q g : Nat) (s : Int) (w : World) (h : PeersRep w F pl me lan ad ps) (hq1 : 1 ≤ q) (hq2 : q ≤ 15) (hg : ad q = some g) (hs0 : 0 ≤ s) (hs1 : s ≤ 6) :
    Calls Try.prog 16 #[.pointer (some ⟨pl, 0, none⟩), .int .i64 (q : Int), .int .i64 s] w fun r w' => r = .returned (.bool true) ∧ PeersRep w' F pl me lan ad (fun i => if i = q then { ps q with state := s } else ps i) ∧ Keeps F w w' := by
  obtain ⟨hbg, hFg, _, hid⟩ := h.one q g (by omega) hg
  have Hh := hide h
  have HG := hide hg
  have HBG := hide hbg
  have HID := hide hid
  have d4 : w.cell? ⟨g, 4, none⟩ = some (.int .i64 (ps q).state) := hbg.cell 4
  have f4 : w.frozen? ⟨g, 4, none⟩ = false := hbg.frozen 4
  clear h hg hbg hid
  go_enter Try.func16, Try.ntmps16
  go_wp2_with fail
  refine (at_in pl me lan ad q hq1 hq2 _ Hh.out.box).mono ?_
  rintro r w1 ⟨rfl, rfl⟩
  rw [HG.out, ptr_some]
  go_wp2_with fail
  go_ret
  have hK : Keeps (fun x => x = g) w1 (w1.setCell ⟨g, 4, none⟩ (.int .i64 s)) := (Keeps.refl (fun x => x = g) w1).setCell (p := ⟨g, 4, none⟩) (.inl rfl) _
  exact ⟨rfl, Hh.out.turn hK (by omega) HG.out (HBG.out.set_ 4 (.int .i64 s)) HID.out, hK.mono (fun x hx _ => by cases hx; exact hFg)⟩

/-- a candidate -/
structure CV where
  id : Int
  prio : Int
  dr : Int
  bdr : Int
deriving DecidableEq
def CV.cells (x : CV) : List Value := [.int .i64 x.id, .int .i64 x.prio, .int .i64 x.dr, .int .i64 x.bdr]
theorem CV.cells_len (x : CV) : x.cells.length = 4 := rfl
theorem CV.cells_one (x : CV) : ∀ u ∈ x.cells, u.oneCell' = true := by
  intro u hu
  simp [CV.cells] at hu
  rcases hu with rfl | rfl | rfl | rfl <;> rfl
def PV.cand (x : PV) : CV := ⟨x.id, x.prio, x.dr, x.bdr⟩
theorem cand_info : (Try.prog.info? 70).map (fun i => (i.zero, i.size, i.bytes)) = some (some (.agg #[.int .i64 0, .int .i64 0, .int .i64 0, .int .i64 0]), 4, 32) := by kernel_rfl

set_option maxHeartbeats 4000000 in
theorem cands_any (F : Nat → Prop) (pl : Nat) (me lan : Int) (ad : Nat → Option Nat) (ps : Nat → PV) (w : World) (h : PeersRep w F pl me lan ad ps) :
    Calls Try.prog 21 #[.pointer (some ⟨pl, 0, none⟩)] w fun r w' => ∃ A c, r = .returned (.slice A (listF PV.two ad ps 16).length c) ∧ w'.ownsRow w.heap.size 70 4 (.slice A (listF PV.two ad ps 16).length c) (listF PV.two ad ps 16).length (rowC CV.cells ((listF PV.two ad ps 16).map PV.cand)) ∧ Below w.heap.size w w' := by
  obtain ⟨i0, hi, hz0, hz1, hz2⟩ := info_parts cand_info
  have Hh := hide h
  have hle := listF_le PV.two ad ps 16
  clear h
  go_enter Try.func21, Try.ntmps21
  go_wp2_with fail
  refine (list_any F pl me lan ad ps 35 #[] PV.two _ Hh.out cf35 (fun x w' _ => cands1_any x w')).mono ?_
  rintro r w1 ⟨A, c, rfl, ho, hb⟩
  obtain ⟨l, hl⟩ : ∃ l, listF PV.two ad ps 16 = l := ⟨_, rfl⟩
  have HL := hide hl
  rw [hl] at ho hle ⊢
  clear hl
  have HO := hide ho
  have HB := hide hb
  clear ho hb
  go_wp2_with fail
  go_loopw [3, 9] (fun v i wr => ∃ k : Nat, ∃ A1 cc, k ≤ l.length ∧ i = .int .i64 k ∧ v = .slice A1 k cc ∧ Hid (wr.ownsRow w1.heap.size 70 4 (.slice A1 k cc) k (rowC CV.cells ((l.take k).map PV.cand))) ∧ Hid (Below w1.heap.size w1 wr)) (fun _ i _ => l.length - (intOf i).toNat)
  case atStart => exact ⟨0, none, 0, by omega, rfl, rfl, World.ownsRow_nil _ _ _ _, Below.refl _ _⟩
  case round =>
    obtain ⟨k, A1, cc, hk, rfl, rfl, hown, hb⟩ := hrel
    by_cases hlt : k < l.length
    · obtain ⟨b, off, x, rfl, hbb, hx, hat⟩ := (Reads.of_own HO.out).row_at PV.cells 7 PV.cells_len (by omega) hlt
      obtain ⟨id, prio, dr, bdr, state, two, at_⟩ := x
      have d0 : wr.cell? ⟨b, off + k * 7, none⟩ = some (.int .i64 id) := cell_keep (hat 0 _ rfl) hb.out
      have d1 : wr.cell? ⟨b, off + k * 7 + 1, none⟩ = some (.int .i64 prio) := cell_keep (hat 1 _ rfl) hb.out
      have d2 : wr.cell? ⟨b, off + k * 7 + 2, none⟩ = some (.int .i64 dr) := cell_keep (hat 2 _ rfl) hb.out
      have d3 : wr.cell? ⟨b, off + k * 7 + 3, none⟩ = some (.int .i64 bdr) := cell_keep (hat 3 _ rfl) hb.out
      have d4 : wr.cell? ⟨b, off + k * 7 + 4, none⟩ = some (.int .i64 state) := cell_keep (hat 4 _ rfl) hb.out
      have d5 : wr.cell? ⟨b, off + k * 7 + 5, none⟩ = some (.bool two) := cell_keep (hat 5 _ rfl) hb.out
      have d6 : wr.cell? ⟨b, off + k * 7 + 6, none⟩ = some (.int .i64 at_) := cell_keep (hat 6 _ rfl) hb.out
      have HT := hide (take_snoc _ _ _ hx)
      have hbs := hb.out.size
      have hBs := HB.out.size
      have HB1 := fun o1 o2 => hide ((hb.out.alloc hb.out.size o1).alloc (by simp; omega) o2)
      have HRN := fun o1 => hide (Reads.new (wr.alloc o1) #[.int .i64 id, .int .i64 prio, .int .i64 dr, .int .i64 bdr] 70 1 4 rfl)
      have hone := CV.cells_one ⟨id, prio, dr, bdr⟩
      clear hat hx
      go_wp2_with (first
        | (at_builtin
           refine wpList_append_any _ rfl (.tmp 13) (.tmp 23) 51 rfl w1.heap.size 70 i0 _ 4 32 Try.underlying51 hi hz0 hz1 hz2 rfl (by omega) (.slice A1 k cc) k (rowC CV.cells ((l.take k).map PV.cand)) rfl
             ((hown.out.alloc _).alloc _) (wr.heap.size + 2) (some ⟨wr.heap.size + 1, 0, none⟩) 1 1 (CV.cells ⟨id, prio, dr, bdr⟩) rfl (by have := (HRN (.cells (PV.arr ⟨id, prio, dr, bdr, state, two, at_⟩) 47)).out; simpa [CV.cells] using this) hone (by simp only [maxLen]; omega) (by omega) (by simp; omega) ?_
           intro A6 c6 w6 hown6 hg6 hloc6))
      have HB6 := hide ((HB1 _ _).out.grown hg6 (by simp; omega) (fun g hg => (own_base hown.out hg).1))
      have HO6 := hide hown6
      clear hown6 hg6 hloc6
      go_roundw
      case rel => exact ⟨k + 1, A6, c6, by omega, by go_num, rfl, by rw [HT.out, List.map_append, rowC_append]; apply hide; simpa [rowC, PV.cand] using HO6.out, HB6⟩
      case measure => simp [intOf]; omega
    · have hkn : k = l.length := by omega
      subst hkn
      rw [List.take_of_length_le (Nat.le_refl _)] at hown
      go_wp2
      go_ret
      rw [HL.out]
      exact ⟨A1, cc, rfl, own_mono hown.out HB.out.size, below0 HB.out hb.out⟩
end Go.Proofs.Ytmehglliajefaaa
