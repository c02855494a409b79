/-
  The walk of PeersActs.
-/
import Derived.Test.YtmehglliajefaaaS
namespace Go.Proofs.Ytmehglliajefaaa
open Go.RowKit

theorem HearRel.form {me lan frm every dead prio dr bdr now : Int} {seen : List Int} {ad ad' : Nat → Option Nat} {ps ps' : Nat → PV} {v : Value} (h : HearRel me lan frm every dead prio dr bdr now seen ad ps ad' ps' v) : ∃ c1 c2 c3 c4 c5, v = heardV c1 c2 c3 c4 c5 := by
  rcases h with ⟨_, rfl, _⟩ | ⟨_, _, _, _, _, _, _, _, _, rfl⟩
  · exact ⟨_, _, _, _, _, rfl⟩
  · exact ⟨_, _, _, _, _, rfl⟩
theorem neq_heard (c1 c2 c3 c4 c5 : Bool) (w : World) : (binOp .neq 29 (heardV c1 c2 c3 c4 c5) (heardV c1 c2 c3 c4 c5)).run Try.prog w = .ok (.bool false) w := by
  cases c1 <;> cases c2 <;> cases c3 <;> cases c4 <;> cases c5 <;> (show _ = _; kernel_rfl)
abbrev ActS (g : Nat) (k i s o e d p r b : Int) (sl : Value) (w : World) : Prop :=
  w.cell? ⟨g, 0, none⟩ = some (.int .i64 k) ∧ w.cell? ⟨g, 1, none⟩ = some (.int .i64 i) ∧ w.cell? ⟨g, 2, none⟩ = some (.int .i64 s) ∧ w.cell? ⟨g, 3, none⟩ = some (.int .u8 o) ∧ w.cell? ⟨g, 4, none⟩ = some (.int .i64 e) ∧ w.cell? ⟨g, 5, none⟩ = some (.int .i64 d) ∧
    w.cell? ⟨g, 6, none⟩ = some (.int .i64 p) ∧ w.cell? ⟨g, 7, none⟩ = some (.int .i64 r) ∧ w.cell? ⟨g, 8, none⟩ = some (.int .i64 b) ∧ w.cell? ⟨g, 9, none⟩ = some sl
abbrev actC (k i s o e d p r b : Int) (sl : Value) : Array Value := #[.int .i64 k, .int .i64 i, .int .i64 s, .int .u8 o, .int .i64 e, .int .i64 d, .int .i64 p, .int .i64 r, .int .i64 b, sl]
theorem ActS.of {w : World} {g : Nat} {k i s o e d p r b : Int} {sl : Value} (h : Blk w g 40 (actC k i s o e d p r b sl)) : ActS g k i s o e d p r b sl w :=
  ⟨h.cell 0, h.cell 1, h.cell 2, h.cell 3, h.cell 4, h.cell 5, h.cell 6, h.cell 7, h.cell 8, h.cell 9⟩
theorem PB.tab {w wr : World} {p1 p2 b2 : Nat} {me lan : Int} {ad : Nat → Option Nat} {ps : Nat → PV} {l : List PV} {K : Nat → Prop} (h : PB w wr p1 p2 b2 me lan ad ps l K) : TabOK ad ps := by
  obtain ⟨F1, F2, A, c, h⟩ := h
  exact h.rep.tab
theorem PB.same {w wr : World} {p1 p2 b2 : Nat} {me lan : Int} {ad : Nat → Option Nat} {ps : Nat → PV} {K : Nat → Prop} (h : PB w wr p1 p2 b2 me lan ad ps (allL ad ps) K) :
    Calls Try.prog 18 #[.pointer (some ⟨p1, 0, none⟩), .pointer (some ⟨p2, 0, none⟩)] wr fun r w' => r = .returned (.bool true) ∧ PB w w' p1 p2 b2 me lan ad ps (allL ad ps) (fun _ => False) := by
  have hB := h
  obtain ⟨F1, F2, A, c, h⟩ := h
  refine (same_walk F1 F2 p1 p2 b2 me lan ad ps A c wr h.rep h.ref).mono ?_
  rintro r w' ⟨rfl, hb⟩
  exact ⟨rfl, (hB.below hb).forget⟩
theorem PB.start {w w1 w2 : World} {me lan : Int} (hb1 : Below w.heap.size w w1) (hR : PeersRep w2 (fun x => x = w1.heap.size) w1.heap.size me lan (fun _ => none) (fun _ => default)) (hb2 : Below w1.heap.size w1 w2) :
    PB w (w2.alloc (.cells #[.int .i64 me, .int .i64 lan, .slice none 0 0] 38)) w1.heap.size w2.heap.size (w2.heap.size + 1) me lan (fun _ => none) (fun _ => default) (allL (fun _ => none) (fun _ => default)) (fun _ => False) := by
  have hb3 := below_new w2 (.cells #[.int .i64 me, .int .i64 lan, .slice none 0 0] 38)
  have h12 := hR.lt _ rfl
  have h01 := hb1.size
  refine ⟨_, fun x => x = w2.heap.size, none, 0, hR.below hb3, ⟨Blk.new w2 38 _, World.ownsRow_nil _ _ _ _, rfl, fun g hg => by simp [Value.ownBlock] at hg, by omega, fun g hg => by cases hg; simp, by simp⟩, (fun g h1 h2 => by subst h1; omega), (fun g hg => by subst hg; omega), (fun g hg => by subst hg; omega), fun _ _ h => h, fun _ _ h => h, fun _ h => h.elim, below0 (below0 hb1 hb2) hb3⟩

set_option maxRecDepth 20000 in
set_option maxHeartbeats 16000000 in
theorem peersActs_walk (self lan : Int) (A : Option Addr) (n c : Nat) (acts : List ActV) (w : World) (hs0 : 0 ≤ self) (hs1 : self < 256) (hl0 : 0 ≤ lan) (hl1 : lan < 256) (hra : RowAt ActV.cells 10 w A n acts) (hok : ∀ a ∈ acts, HVOK w a.h ∧ 0 ≤ a.on ∧ a.on < 256) :
    Calls Try.prog 4 #[.int .u8 self, .int .u8 lan, .slice A n c] w fun r w' => r = .returned (.bool true) ∧ Below w.heap.size w w' := by
  have HRA := hide hra
  have HOK := hide hok
  clear hra hok
  go_enter Try.func4, Try.ntmps4
  go_wp2_with fail
  refine (wakes_any _).mono ?_
  rintro r w1 ⟨rfl, hb1⟩
  have HB1 := hide hb1
  clear hb1
  by_cases hn : 80 < n
  · go_wp2_with fail
    go_ret
    exact ⟨rfl, HB1.out⟩
  · go_wp2_with fail
    obtain ⟨me, hme⟩ : ∃ me, 1 + self % 15 = me := ⟨_, rfl⟩
    obtain ⟨net, hnet⟩ : ∃ net, lan % 4 = net := ⟨_, rfl⟩
    have hn0 : 0 ≤ net := by omega
    have hn1 : net ≤ 3 := by omega
    rw [hme, hnet]
    clear hme hnet hs0 hs1 hl0 hl1
    refine (new_any me net _).mono ?_
    rintro r w2 ⟨rfl, hR2, hb2⟩
    have HP := hide (PB.start HB1.out hR2 hb2)
    clear hR2 hb2
    go_wp2_with fail
    generalize w1.heap.size = p1 at HP ⊢
    generalize hp2 : w2.heap.size = p2 at HP ⊢
    generalize w2.alloc (.cells #[.int .i64 me, .int .i64 net, .slice none 0 0] 38) = W0 at HP ⊢
    clear hp2
    go_loopw [11, 35] (fun nw i wr => ∃ (k : Nat) (now : Int) (ad : Nat → Option Nat) (ps : Nat → PV), k ≤ n ∧ i = .int .i64 k ∧ nw = .int .i64 now ∧ 0 ≤ now ∧ now ≤ 300 * k ∧ Hid (PB w wr p1 p2 (p2 + 1) me net ad ps (allL ad ps) (fun _ => False))) (fun _ i _ => n - (intOf i).toNat)
    case atStart => exact ⟨0, 0, _, _, Nat.zero_le _, rfl, rfl, by omega, by omega, HP⟩
    case round =>
      obtain ⟨k, now, ad, ps, hk, rfl, rfl, hnw0, hnw1, HPr⟩ := hrel
      by_cases hlt : k < n
      · obtain ⟨b, off, a, rfl, hbb, hx, hat⟩ := HRA.out.at_ HPr.out.frame hlt
        obtain ⟨hvo, ho0, ho1⟩ := HOK.out a (List.mem_of_getElem? hx)
        obtain ⟨kind, id, st, on, every, dead, prio, dr, bdr, seen, A1, c1⟩ := a
        dsimp only at hvo ho0 ho1
        have HRD : Hid (Reads w w.heap.size 1 A1 seen.length (ints seen)) := hide hvo
        have d0 : wr.cell? ⟨b, off + k * 10, none⟩ = some (.int .i64 kind) := hat 0 _ rfl
        have d1 : wr.cell? ⟨b, off + k * 10 + 1, none⟩ = some (.int .i64 id) := hat 1 _ rfl
        have d2 : wr.cell? ⟨b, off + k * 10 + 2, none⟩ = some (.int .i64 st) := hat 2 _ rfl
        have d3 : wr.cell? ⟨b, off + k * 10 + 3, none⟩ = some (.int .u8 on) := hat 3 _ rfl
        have d4 : wr.cell? ⟨b, off + k * 10 + 4, none⟩ = some (.int .i64 every) := hat 4 _ rfl
        have d5 : wr.cell? ⟨b, off + k * 10 + 5, none⟩ = some (.int .i64 dead) := hat 5 _ rfl
        have d6 : wr.cell? ⟨b, off + k * 10 + 6, none⟩ = some (.int .i64 prio) := hat 6 _ rfl
        have d7 : wr.cell? ⟨b, off + k * 10 + 7, none⟩ = some (.int .i64 dr) := hat 7 _ rfl
        have d8 : wr.cell? ⟨b, off + k * 10 + 8, none⟩ = some (.int .i64 bdr) := hat 8 _ rfl
        have d9 : wr.cell? ⟨b, off + k * 10 + 9, none⟩ = some (.slice A1 seen.length c1) := hat 9 _ rfl
        clear hat hx hvo
        have hP0 := HPr.out.withNew (.cells (actC kind id st on every dead prio dr bdr (.slice A1 seen.length c1)) 40)
        have hX0 := Blk.new wr 40 (actC kind id st on every dead prio dr bdr (.slice A1 seen.length c1))
        have HF0 := hide (below0 HPr.out.frame (below_new wr (.cells (actC kind id st on every dead prio dr bdr (.slice A1 seen.length c1)) 40)))
        by_cases hbig : 40 < seen.length
        · go_wp2_with fail
          go_ret
          exact ⟨rfl, HF0.out⟩
        · have hT := hide HPr.out.tab
          by_cases hk0 : kind = 0
          · subst hk0
            go_upto_region 16 with (fail)
            clear d0 d1 d2 d3 d4 d5 d6 d7 d8 d9
            generalize wr.alloc (.cells (actC 0 id st on every dead prio dr bdr (.slice A1 seen.length c1)) 40) = W1 at hP0 hX0 ⊢
            generalize wr.heap.size = z at hP0 hX0 ⊢
            have hPd := hP0.drew
            have hXd := hX0.drew
            have hS0 : ActS z 0 id st on every dead prio dr bdr (.slice A1 seen.length c1) W1.drew := ActS.of hX0
            have hne := neq_heard
            go_region_held3 (fun w' => ActS z 0 id st on every dead prio dr bdr (.slice A1 seen.length c1) w') (first | assumption | ((repeat' apply And.intro) <;> first | assumption | go_keep))
              (first
                | (go_at_call 8; refine (two_hear1 (by assumption) hn0 hn1 id every dead prio dr bdr (now + on) A1 seen.length c1 seen HRD.out (by omega)).mono ?_; rintro r w3 ⟨v, ad1, ps1, rfl, hH, hP3, hK3⟩; obtain ⟨b1, b2, b3, b4, b5, rfl⟩ := hH.form; have HH := hide hH; clear hH; have hX3 := hK3.blk hXd rfl; have hS3 := ActS.of hX3; clear hK3)
                | (go_at_call 11; refine (two_hear2 (by assumption) hT.out hn0 hn1 id every dead prio dr bdr (now + on) A1 seen.length c1 seen _ HH.out HRD.out (by omega)).mono ?_; rintro r w4 ⟨rfl, hP4, hK4⟩; have hX4 := hK4.blk hX3 rfl; have hS4 := ActS.of hX4; clear hK4))
            have HPZ := hide hP4
            clear hP0 hX0 hPd hXd hS0 hne hP3 hX3 hS3 hP4 hX4 hS4
            go_wp2_with fail
            refine (PB.same HPZ.out).mono ?_
            rintro r w9 ⟨rfl, hP9⟩
            have HP9 := hide hP9
            clear hP9
            go_wp2_with fail
            go_roundw
            case rel => exact ⟨k + 1, now + on, ad1, ps1, by omega, by go_num, rfl, by omega, by omega, HP9⟩
            case measure => simp [intOf]; omega
          · have e0 : (kind == 0) = false := by simpa using hk0
            clear hk0
            by_cases hk1 : kind = 1
            · subst hk1
              go_upto_region 19 with (fail)
              have HX := hide hP0
              clear d0 d1 d2 d3 d4 d5 d6 d7 d8 d9 hX0
              go_wp2_with fail
              refine (two_late1 HX.out (now + on)).mono ?_
              rintro r w3 ⟨A3, c3, rfl, ho3, hb3⟩
              have HP3 := hide (HX.out.below hb3)
              have HO3 := hide (Reads.of_own ho3)
              clear ho3 hb3 hP0 HX
              go_wp2_with fail
              refine (two_late2 HP3.out (by have := allL_le ad ps; omega) (now + on)).mono ?_
              rintro r w4 ⟨A4, c4, rfl, ho4, hb4⟩
              have HP4 := hide (HP3.out.below hb4)
              have HR3 := hide ((HO3.out.below hb4).more hb4.size)
              have HO4 := hide (Reads.of_own ho4)
              have hll : ((allL ad ps).filter (lateB (now + on))).length ≤ 16 := Nat.le_trans (List.length_filter_le _ _) (allL_le ad ps)
              clear ho4 hb4 HP3 HO3
              go_wp2_with fail
              refine (ints_any A3 _ c3 _ A4 _ c4 _ _ (by omega) HR3.out HO4.out).mono ?_
              rintro r w5 ⟨rfl, hb5⟩
              have HPZ := hide (HP4.out.below hb5)
              have hdd : decide (((allL ad ps).filter (lateB (now + on))).map (·.id) = ((allL ad ps).filter (lateB (now + on))).map (·.id)) = true := by simp
              rw [hdd]
              clear hb5 HP4 HR3 HO4 hdd
              go_wp2_with fail
              refine (PB.same HPZ.out).mono ?_
              rintro r w9 ⟨rfl, hP9⟩
              have HP9 := hide hP9
              clear hP9
              go_wp2_with fail
              go_roundw
              case rel => exact ⟨k + 1, now + on, ad, ps, by omega, by go_num, rfl, by omega, by omega, HP9⟩
              case measure => simp [intOf]; omega
            · have e1 : (kind == 1) = false := by simpa using hk1
              clear hk1
              by_cases hk2 : kind = 2
              · subst hk2
                go_upto_region 22 with (fail)
                clear d0 d1 d2 d3 d4 d5 d6 d7 d8 d9
                generalize wr.alloc (.cells (actC 2 id st on every dead prio dr bdr (.slice A1 seen.length c1)) 40) = W1 at hP0 hX0 ⊢
                generalize wr.heap.size = z at hP0 hX0 ⊢
                have hPd := hP0.drew
                have hXd := hX0.drew
                have hS0 : ActS z 2 id st on every dead prio dr bdr (.slice A1 seen.length c1) W1.drew := ActS.of hX0
                go_region_held3 (fun w' => ActS z 2 id st on every dead prio dr bdr (.slice A1 seen.length c1) w') (first | assumption | ((repeat' apply And.intro) <;> first | assumption | go_keep))
                  (first
                    | (go_at_call 14; refine (two_drop1 (by assumption) id).mono ?_; rintro r w3 ⟨rfl, hP3, hK3⟩; have hX3 := hK3.blk hXd rfl; have hS3 := ActS.of hX3; clear hK3)
                    | (go_at_call 15; refine (two_drop2 (by assumption) hT.out id).mono ?_; rintro r w4 ⟨rfl, hP4, hK4⟩; have hX4 := hK4.blk hX3 rfl; have hS4 := ActS.of hX4; clear hK4))
                have HPZ := hide hP4
                clear hP0 hX0 hPd hXd hS0 hP3 hX3 hS3 hP4 hX4 hS4
                go_wp2_with fail
                refine (PB.same HPZ.out).mono ?_
                rintro r w9 ⟨rfl, hP9⟩
                have HP9 := hide hP9
                clear hP9
                go_wp2_with fail
                go_roundw
                case rel => exact ⟨k + 1, now + on, dropAd ad id, ps, by omega, by go_num, rfl, by omega, by omega, HP9⟩
                case measure => simp [intOf]; omega
              · have e2 : (kind == 2) = false := by simpa using hk2
                clear hk2
                by_cases hk3 : kind = 3
                · subst hk3
                  go_upto_region 25 with (fail)
                  clear d0 d1 d2 d3 d4 d5 d6 d7 d8 d9
                  generalize wr.alloc (.cells (actC 3 id st on every dead prio dr bdr (.slice A1 seen.length c1)) 40) = W1 at hP0 hX0 ⊢
                  generalize wr.heap.size = z at hP0 hX0 ⊢
                  have hPd := hP0.drew
                  have hXd := hX0.drew
                  have hS0 : ActS z 3 id st on every dead prio dr bdr (.slice A1 seen.length c1) W1.drew := ActS.of hX0
                  go_region_held3 (fun w' => ActS z 3 id st on every dead prio dr bdr (.slice A1 seen.length c1) w') (first | assumption | ((repeat' apply And.intro) <;> first | assumption | go_keep))
                    (first
                      | (go_at_call 16; refine (two_set1 (by assumption) id st).mono ?_; rintro r w3 ⟨rfl, hP3, hK3⟩; have hX3 := hK3.blk hXd rfl; have hS3 := ActS.of hX3; clear hK3)
                      | (go_at_call 17; refine (two_set2 (by assumption) hT.out id st).mono ?_; rintro r w4 ⟨rfl, hP4, hK4⟩; have hX4 := hK4.blk hX3 rfl; have hS4 := ActS.of hX4; clear hK4))
                  have HPZ := hide hP4
                  clear hP0 hX0 hPd hXd hS0 hP3 hX3 hS3 hP4 hX4 hS4
                  go_wp2_with fail
                  refine (PB.same HPZ.out).mono ?_
                  rintro r w9 ⟨rfl, hP9⟩
                  have HP9 := hide hP9
                  clear hP9
                  go_wp2_with fail
                  go_roundw
                  case rel => exact ⟨k + 1, now + on, ad, setPs ad ps id st, by omega, by go_num, rfl, by omega, by omega, HP9⟩
                  case measure => simp [intOf]; omega
                · have e3 : (kind == 3) = false := by simpa using hk3
                  clear hk3
                  have HPZ := hide hP0
                  go_upto_region 27 with (fail)
                  clear d0 d1 d2 d3 d4 d5 d6 d7 d8 d9 hX0 hP0
                  go_wp2_with fail
                  refine (PB.same HPZ.out).mono ?_
                  rintro r w9 ⟨rfl, hP9⟩
                  have HP9 := hide hP9
                  clear hP9
                  go_wp2_with fail
                  go_roundw
                  case rel => exact ⟨k + 1, now + on, ad, ps, by omega, by go_num, rfl, by omega, by omega, HP9⟩
                  case measure => simp [intOf]; omega
      · go_wp2_with fail
        go_ret
        exact ⟨rfl, HPr.out.frame⟩
end Go.Proofs.Ytmehglliajefaaa
