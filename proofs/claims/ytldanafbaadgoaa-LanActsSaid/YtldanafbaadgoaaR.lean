/-
  The walk of LanActs.
-/
import Derived.Test.YtldanafbaadgoaaQ
import Derived.Deep.RegionHeld3
namespace Go.Proofs.Ytldanafbaadgoaa
open Go.RowKit

/-- what is read of the reference's network -/
theorem Both.seen {w wr : World} {p1 b1 p2 b2 : Nat} {room : Int} {zs : List Int} {c1 c2 : List Cp} {K : Nat → Prop} (h : Both w wr p1 b1 p2 b2 room zs c1 c2 K) :
    ∃ A2 k2, wr.cell? ⟨p2, 2, none⟩ = some (.slice A2 c2.length k2) ∧ ∀ k c, c2[k]? = some c → ∃ b off Ar cr, A2 = some ⟨b, off, none⟩ ∧ RawAt wr b (off + k * 6) ⟨c, Ar, cr⟩ ∧ Reads wr wr.heap.size 1 Ar c.bs.length (u8s c.bs) := by
  obtain ⟨F1, l1, A1, k1, F2, Ao, co, l2, A2, k2, h⟩ := h
  have hll : l2.length = c2.length := by rw [← h.e2, List.length_map]
  refine ⟨A2, k2, by rw [← hll]; exact h.ref.cells.2.2, fun k c hk => ?_⟩
  obtain ⟨A', c', hr⟩ := map_at h.e2 hk
  have hkl : k < l2.length := (List.getElem?_eq_some_iff.1 hr).1
  obtain ⟨b, off, r', hA, hbb, hr', hat⟩ := (Reads.of_own h.ref.own).raw_at hkl
  obtain rfl : r' = ⟨c, A', c'⟩ := Option.some.inj (hr'.symm.trans hr)
  exact ⟨b, off, A', c', hA, hat, Reads.of_own (h.ref.byt _ (List.mem_of_getElem? hr))⟩
theorem Both.on1 {w wr : World} {p1 b1 p2 b2 : Nat} {room : Int} {zs : List Int} {c1 c2 : List Cp} {K : Nat → Prop} (h : Both w wr p1 b1 p2 b2 room zs c1 c2 K) :
    ∃ v, Blk wr p1 57 (lanCells room (onF zs) v) := by
  obtain ⟨F1, l1, A1, k1, F2, Ao, co, l2, A2, k2, h⟩ := h
  exact ⟨_, h.rep.box⟩
theorem Both.on2 {w wr : World} {p1 b1 p2 b2 : Nat} {room : Int} {zs : List Int} {c1 c2 : List Cp} {K : Nat → Prop} (h : Both w wr p1 b1 p2 b2 room zs c1 c2 K) :
    ∃ Ao co, wr.cell? ⟨p2, 1, none⟩ = some (.slice Ao (onL (onF zs) 16).length co) ∧ Reads wr wr.heap.size 1 Ao (onL (onF zs) 16).length (ints (onL (onF zs) 16)) := by
  obtain ⟨F1, l1, A1, k1, F2, Ao, co, l2, A2, k2, h⟩ := h
  exact ⟨Ao, co, h.ref.cells.2.1, Reads.of_own h.ref.on⟩

theorem cell_keep {w w' : World} {p : Addr} {v : Value} (h : w.cell? p = some v) (hb : Below w.heap.size w w') : w'.cell? p = some v := by
  have hlt : p.block < w.heap.size := by
    rcases Nat.lt_or_ge p.block w.heap.size with h1 | h1
    · exact h1
    · simp [World.cell?, Array.getElem?_eq_none h1] at h
  exact (hb.cell hlt).trans h

abbrev FrS (g : Nat) (lan frm to : Int) (A : Option Addr) (n c : Nat) (w : World) : Prop :=
  w.cell? ⟨g, 4, none⟩ = some (.int .i64 lan) ∧ w.cell? ⟨g, 5, none⟩ = some (.int .i64 frm) ∧ w.cell? ⟨g, 6, none⟩ = some (.int .i64 to) ∧ w.cell? ⟨g, 7, none⟩ = some (.slice A n c)
abbrev IntS (g : Nat) (i a b : Int) (w : World) : Prop :=
  w.cell? ⟨g, 1, none⟩ = some (.int .i64 i) ∧ w.cell? ⟨g, 2, none⟩ = some (.int .i64 a) ∧ w.cell? ⟨g, 3, none⟩ = some (.int .i64 b)
section
variable {w : World} {g : Nat} {kind i a b lan frm to : Int} {A : Option Addr} {n c : Nat}
theorem act_frS (h : Blk w g 46 #[.int .i64 kind, .int .i64 i, .int .i64 a, .int .i64 b, .int .i64 lan, .int .i64 frm, .int .i64 to, .slice A n c]) : FrS g lan frm to A n c w := ⟨h.cell 4, h.cell 5, h.cell 6, h.cell 7⟩
theorem act_intS (h : Blk w g 46 #[.int .i64 kind, .int .i64 i, .int .i64 a, .int .i64 b, .int .i64 lan, .int .i64 frm, .int .i64 to, .slice A n c]) : IntS g i a b w := ⟨h.cell 1, h.cell 2, h.cell 3⟩
end

/-- the cells that the look at what is taken reads -/
abbrev TakeS (g0 g1 p2 rb o : Nat) (i vL x0 x1 x2 x3 x4 x5 y0 y1 y2 y3 y4 y5 : Value) (w : World) : Prop :=
  w.cell? ⟨g0, 1, none⟩ = some i ∧ w.cell? ⟨p2, 2, none⟩ = some vL ∧
  w.cell? ⟨g1, 0, none⟩ = some x0 ∧ w.cell? ⟨g1, 1, none⟩ = some x1 ∧ w.cell? ⟨g1, 2, none⟩ = some x2 ∧ w.cell? ⟨g1, 3, none⟩ = some x3 ∧ w.cell? ⟨g1, 4, none⟩ = some x4 ∧ w.cell? ⟨g1, 5, none⟩ = some x5 ∧
  w.cell? ⟨rb, o, none⟩ = some y0 ∧ w.cell? ⟨rb, o + 1, none⟩ = some y1 ∧ w.cell? ⟨rb, o + 2, none⟩ = some y2 ∧ w.cell? ⟨rb, o + 3, none⟩ = some y3 ∧ w.cell? ⟨rb, o + 4, none⟩ = some y4 ∧ w.cell? ⟨rb, o + 5, none⟩ = some y5
theorem TakeS.keep {g0 g1 p2 rb o : Nat} {i vL x0 x1 x2 x3 x4 x5 y0 y1 y2 y3 y4 y5 : Value} {w w' : World} (h : TakeS g0 g1 p2 rb o i vL x0 x1 x2 x3 x4 x5 y0 y1 y2 y3 y4 y5 w) (hb : Below w.heap.size w w') : TakeS g0 g1 p2 rb o i vL x0 x1 x2 x3 x4 x5 y0 y1 y2 y3 y4 y5 w' := by
  obtain ⟨h0, h1, h2, h3, h4, h5, h6, h7, h8, h9, h10, h11, h12, h13⟩ := h
  exact ⟨cell_keep h0 hb, cell_keep h1 hb, cell_keep h2 hb, cell_keep h3 hb, cell_keep h4 hb, cell_keep h5 hb, cell_keep h6 hb, cell_keep h7 hb, cell_keep h8 hb, cell_keep h9 hb, cell_keep h10 hb, cell_keep h11 hb, cell_keep h12 hb, cell_keep h13 hb⟩

abbrev TakeS0 (g0 g1 p2 : Nat) (i vL : Value) (w : World) : Prop :=
  w.cell? ⟨g0, 1, none⟩ = some i ∧ w.cell? ⟨p2, 2, none⟩ = some vL ∧
  w.cell? ⟨g1, 0, none⟩ = some (.int .i64 0) ∧ w.cell? ⟨g1, 1, none⟩ = some (.int .i64 0) ∧ w.cell? ⟨g1, 2, none⟩ = some (.int .i64 0) ∧ w.cell? ⟨g1, 3, none⟩ = some (.slice none 0 0) ∧ w.cell? ⟨g1, 4, none⟩ = some (.int .i64 0) ∧ w.cell? ⟨g1, 5, none⟩ = some (.bool false)
theorem TakeS0.keep {g0 g1 p2 : Nat} {i vL : Value} {w w' : World} (h : TakeS0 g0 g1 p2 i vL w) (hb : Below w.heap.size w w') : TakeS0 g0 g1 p2 i vL w' := by
  obtain ⟨h0, h1, h2, h3, h4, h5, h6, h7⟩ := h
  exact ⟨cell_keep h0 hb, cell_keep h1 hb, cell_keep h2 hb, cell_keep h3 hb, cell_keep h4 hb, cell_keep h5 hb, cell_keep h6 hb, cell_keep h7 hb⟩

set_option maxRecDepth 20000 in
set_option maxHeartbeats 60000000 in
theorem lanActs_walk (room : Int) (A : Option Addr) (n c : Nat) (zs : List Int) (Aa : Option Addr) (na ca : Nat) (acts : List ActV) (w : World) (hr : Reads w w.heap.size 1 A n (ints zs)) (ha : RowAt ActV.cells 8 w Aa na acts) (hok : ∀ a ∈ acts, FrOK w a.f) :
    Calls Try.prog 5 #[.int .i64 room, .slice A n c, .slice Aa na ca] w fun r w' => r = .returned (.bool true) ∧ Below w.heap.size w w' := by
  have HR := hide hr
  have HA := hide ha
  have HOK := hide hok
  clear hr ha hok
  go_enter Try.func5, Try.ntmps5
  go_wp2_with fail
  refine (wakes_any _).mono ?_
  rintro r w1 ⟨rfl, hb1⟩
  have HB1 := hide hb1
  clear hb1
  by_cases hn : 50 < n
  · go_wp2_with fail
    go_ret
    exact ⟨rfl, HB1.out⟩
  · by_cases hna : 60 < na
    · go_wp2_with fail
      go_ret
      exact ⟨rfl, HB1.out⟩
    · go_wp2_with fail
      refine (new_any room A n c zs _ ((HR.out.below HB1.out).more HB1.out.size) (by omega)).mono ?_
      rintro r w2 ⟨rfl, hbl2, hB2⟩
      have HB2 := hide (below0 HB1.out hB2)
      have HBL2 := hide hbl2
      have hlt2 := hbl2.lt
      clear hbl2 hB2
      go_wp2_with fail
      refine (refNew_any room A n c zs _ ((HR.out.below HB2.out).more HB2.out.size) (by omega)).mono ?_
      rintro r w3 ⟨rfl, hB3, F2, Ao, co, hR3, hF2⟩
      have HB0 := hide (show Both w w3 w1.heap.size (w1.heap.size + 1) w2.heap.size (w2.heap.size + 1) (roomF room) zs [] [] (fun _ => False) from
        ⟨fun x => x = w1.heap.size, [], none, 0, F2, Ao, co, [], none, 0, LanRep.new (HBL2.out.below hB3 hlt2), rfl, hR3, rfl, (fun g e h2 => by subst e; have := hF2 _ h2; omega), (fun g e => by subst e; exact HB1.out.size), (fun g h2 => by have := hF2 _ h2; have := HB2.out.size; omega), (fun _ _ h => h), (fun _ _ h => h), (fun _ h => h.elim), below0 HB2.out hB3⟩)
      clear hB3 hR3 hF2
      go_wp2_with fail
      go_loopw [34] (fun i wr => ∃ (k : Nat) (cps : List Cp), k ≤ na ∧ i = .int .i64 k ∧ cps.length ≤ k * 16 ∧ Hid (Good cps) ∧ Hid (Both w wr w1.heap.size (w1.heap.size + 1) w2.heap.size (w2.heap.size + 1) (roomF room) zs cps cps (fun _ => False))) (fun i _ => na - (intOf i).toNat)
      case atStart => exact ⟨0, [], by omega, rfl, by simp, Good.nil, HB0⟩
      case round =>
        obtain ⟨k, cps, hk, rfl, hlen, HG, HB⟩ := hrel
        by_cases hlt : k < na
        · obtain ⟨b, off, a, rfl, hbb, hak, hcell⟩ := HA.out.at_ HB.out.frame hlt
          have hok := HOK.out a (List.mem_of_getElem? hak)
          obtain ⟨kind, ii, ia, ib, lan, frm, to, bs, Ab, cb⟩ := a
          have e0 : wr.cell? ⟨b, off + k * 8, none⟩ = some (.int .i64 kind) := hcell 0 _ rfl
          have e1 : wr.cell? ⟨b, off + k * 8 + 1, none⟩ = some (.int .i64 ii) := hcell 1 _ rfl
          have e2 : wr.cell? ⟨b, off + k * 8 + 2, none⟩ = some (.int .i64 ia) := hcell 2 _ rfl
          have e3 : wr.cell? ⟨b, off + k * 8 + 3, none⟩ = some (.int .i64 ib) := hcell 3 _ rfl
          have e4 : wr.cell? ⟨b, off + k * 8 + 4, none⟩ = some (.int .i64 lan) := hcell 4 _ rfl
          have e5 : wr.cell? ⟨b, off + k * 8 + 5, none⟩ = some (.int .i64 frm) := hcell 5 _ rfl
          have e6 : wr.cell? ⟨b, off + k * 8 + 6, none⟩ = some (.int .i64 to) := hcell 6 _ rfl
          have e7 : wr.cell? ⟨b, off + k * 8 + 7, none⟩ = some (.slice Ab bs.length cb) := hcell 7 _ rfl
          have HOF := hide hok
          have HX1 := fun o => hide (HB.out.withNew o)
          clear hcell hak hok
          by_cases hbig : 300 < bs.length
          · go_wp2_with fail
            go_ret
            exact ⟨rfl, (HX1 _).out.frame⟩
          · have hlen2 : cps.length ≤ 1000 := by omega
            by_cases hk0 : kind = 0
            · have d0 : (kind == 0) = true := by simpa using hk0
              clear hk0
              go_wp2_with fail
              have hB1' := (HX1 (.cells #[.int .i64 kind, .int .i64 ii, .int .i64 ia, .int .i64 ib, .int .i64 lan, .int .i64 frm, .int .i64 to, .slice Ab bs.length cb] 46)).out
              have hb1 := Blk.new wr 46 #[.int .i64 kind, .int .i64 ii, .int .i64 ia, .int .i64 ib, .int .i64 lan, .int .i64 frm, .int .i64 to, .slice Ab bs.length cb]
              generalize wr.alloc (.cells #[.int .i64 kind, .int .i64 ii, .int .i64 ia, .int .i64 ib, .int .i64 lan, .int .i64 frm, .int .i64 to, .slice Ab bs.length cb] 46) = W1 at hB1' hb1 ⊢
              have hBd := hB1'.drew
              have hbd := hb1.drew
              clear e0 e1 e2 e3 e4 e5 e6 e7
              have hS0 := act_frS hb1
              go_region_held3 (fun w' => FrS wr.heap.size lan frm to Ab bs.length cb w') (first | assumption | ((repeat' apply And.intro) <;> first | assumption | go_keep))
                (first
                  | (go_at_call 9; refine (two_send1 (by assumption) ⟨lan, frm, to, bs, Ab, cb⟩ HOF.out (by show bs.length ≤ 300; omega) (by omega)).mono ?_; rintro r w4 ⟨rfl, hB4, hk4⟩; have hb4 := hk4.blk hbd rfl; have hS2 := act_frS hb4)
                  | (go_at_call 18; refine (two_send2 (by assumption) ⟨lan, frm, to, bs, Ab, cb⟩ HOF.out (by show bs.length ≤ 300; omega) (by omega)).mono ?_; rintro r w5 ⟨rfl, hB5, hk5⟩; have hb5 := hk5.blk hb4 rfl; have hS3 := act_frS hb5))
              have hHG := HG.out.send (roomF room) lan frm to bs (onL (onF zs) 16) (by omega) HOF.out.2
              have hle2 : (sendF (roomF room) lan frm to bs (onL (onF zs) 16) cps).length ≤ (k + 1) * 16 := by
                have h1 := sendF_ge (roomF room) lan frm to bs (onL (onF zs) 16) cps
                have h2 := onL_le (onF zs) 16
                omega
              have HBZ := hide hB5
              have HGZ := hide hHG
              clear hB5 hb5 hb4 hk4 hk5 hB4 hbd hBd hb1 hB1' hS0 hS2 hS3 hHG
              generalize sendF (roomF room) lan frm to bs (onL (onF zs) 16) cps = cps2 at HBZ HGZ hle2 ⊢
              go_wp2_with fail
              obtain ⟨A2, k2, hs2, _⟩ := HBZ.out.seen
              have hBd2 := HBZ.out.drew
              have hs2d := cell_keep hs2 (Below.refl _ _).drew
              go_region_held3 (fun w' => w'.cell? ⟨w2.heap.size, 2, none⟩ = some (.slice A2 cps2.length k2)) (first | assumption | go_keep)
                ((go_at_call 14; refine (two_len (by assumption)).mono ?_; rintro r w6 ⟨rfl, hB6, hb6⟩; have hs3 := cell_keep hs2d hb6))
              have HB6 := hide hB6.forget
              clear hB6 hb6 hBd2 hs2 hs2d
              go_wp2_with fail
              clear hs3
              have hle3 : cps2.length ≤ 1000 := by omega
              go_loopw [143] (fun i wq => ∃ j : Nat, j ≤ cps2.length ∧ i = .int .i64 j ∧ Hid (Both w wq w1.heap.size (w1.heap.size + 1) w2.heap.size (w2.heap.size + 1) (roomF room) zs cps2 cps2 (fun _ => False))) (fun i _ => cps2.length - (intOf i).toNat)
              case atStart => exact ⟨0, Nat.zero_le _, rfl, HB6⟩
              case round =>
                obtain ⟨j, hj, rfl, HQ⟩ := hrel
                by_cases hjl : j < cps2.length
                · obtain ⟨cc, hcc⟩ : ∃ cc, cps2[j]? = some cc := ⟨_, List.getElem?_eq_getElem hjl⟩
                  have HCC := hide hcc
                  have hcl := (HGZ.out cc (List.mem_of_getElem? hcc)).1
                  clear hcc
                  go_wp2_with fail
                  refine (two_at HQ.out HGZ.out j cc HCC.out).mono ?_
                  rintro r w7 ⟨A7, c7, rfl, ho7, hB7, hb7⟩
                  have HB7 := hide hB7
                  have HO7 := hide ho7
                  clear ho7 hB7 hb7
                  obtain ⟨xl, xf, xt, xb, xr, xs⟩ := cc
                  dsimp only [Cp.val] at HO7 hcl ⊢
                  go_wp2_with fail
                  have hN8 := Blk.new w7 30 #[.int .i64 xl, .int .i64 xf, .int .i64 xt, .slice A7 xb.length c7, .int .i64 xr, .bool xs]
                  have HN8 := hide ((Below.refl w7.heap.size w7).alloc (Nat.le_refl _) (.cells #[.int .i64 xl, .int .i64 xf, .int .i64 xt, .slice A7 xb.length c7, .int .i64 xr, .bool xs] 30))
                  generalize w7.alloc (.cells #[.int .i64 xl, .int .i64 xf, .int .i64 xt, .slice A7 xb.length c7, .int .i64 xr, .bool xs] 30) = W8 at hN8 HN8 ⊢
                  obtain ⟨z0, z1, z2, z3, z4, z5, _⟩ := hN8.cells6
                  have HB8 := hide (HB7.out.below HN8.out)
                  have HO8 := hide ((Keeps.of_below (F := fun _ => False) HN8.out).own HO7.out (fun _ _ h => h))
                  obtain ⟨A2', k2', hs8, hraw⟩ := HB8.out.seen
                  obtain ⟨rb, ro, rA, rc, rfl, ⟨g0, g1, g2, g3, g4, g5⟩, hrd⟩ := hraw j _ HCC.out
                  have HRD := hide hrd
                  dsimp only at g0 g1 g2 g3 g4 g5 HRD
                  clear hraw hrd hN8
                  go_still_tail 11, (by kernel_rfl)
                  go_wp2_with fail
                  refine (refSame_any ⟨xl, xf, xt, xb, xr, xs⟩ ⟨xl, xf, xt, xb, xr, xs⟩ A7 rA c7 rc _ (by show xb.length ≤ _; omega) (Reads.of_own HO8.out).drew HRD.out.drew).mono ?_
                  rintro e w9 ⟨rfl, hb9⟩
                  have hdd : decide ((⟨xl, xf, xt, xb, xr, xs⟩ : Cp) = ⟨xl, xf, xt, xb, xr, xs⟩) = true := decide_eq_true rfl
                  rw [hdd]
                  have HB9 := hide (HB8.out.drew.below hb9)
                  clear hb9 hdd z0 z1 z2 z3 z4 z5 g0 g1 g2 g3 g4 g5 hs8
                  go_wp2_with fail
                  exact ⟨⟨j + 1, by omega, by go_num, HB9⟩, by simp [intOf]; omega⟩
                · go_wp2_with fail
                  exact ⟨⟨k + 1, cps2, by omega, by go_num, hle2, HGZ, HQ⟩, by simp [intOf]; omega⟩
            · have d0 : (kind == 0) = false := by simpa using hk0
              by_cases hk1 : kind = 1
              · have d1 : (kind == 1) = true := by simpa using hk1
                clear hk0 hk1
                go_wp2_with fail
                have hB1' := (HX1 (.cells #[.int .i64 kind, .int .i64 ii, .int .i64 ia, .int .i64 ib, .int .i64 lan, .int .i64 frm, .int .i64 to, .slice Ab bs.length cb] 46)).out
                have hb1 := Blk.new wr 46 #[.int .i64 kind, .int .i64 ii, .int .i64 ia, .int .i64 ib, .int .i64 lan, .int .i64 frm, .int .i64 to, .slice Ab bs.length cb]
                generalize wr.alloc (.cells #[.int .i64 kind, .int .i64 ii, .int .i64 ia, .int .i64 ib, .int .i64 lan, .int .i64 frm, .int .i64 to, .slice Ab bs.length cb] 46) = W1 at hB1' hb1 ⊢
                have hBd := hB1'.drew
                have hbd := hb1.drew
                clear e0 e1 e2 e3 e4 e5 e6 e7
                have hS0 := act_intS hb1
                have hcut : (ii < 0 ∨ (cps.length : Int) ≤ ii) ∨ ∃ q : Nat, ii = q ∧ q < cps.length := by
                  by_cases h : ii < 0 ∨ (cps.length : Int) ≤ ii
                  · exact .inl h
                  · exact .inr ⟨ii.toNat, by omega, by omega⟩
                rcases hcut with hout | ⟨q, rfl, hq⟩
                · have HOUT := hide hout
                  have hc2 : ii < 0 ∨ 0 ≤ ii ∧ (cps.length : Int) ≤ ii := by omega
                  clear hout
                  obtain ⟨s1, s2, s3⟩ := hS0
                  go_wp2_with fail
                  refine (two_take0 hB1' ii HOUT.out).mono ?_
                  rintro r w4 ⟨rfl, hB4, hb4⟩
                  have HB4 := hide hB4
                  have HBK4 := hide (hb1.below hb4 hb1.lt)
                  clear hB4 hb4 hB1' hBd hbd hb1 s1 s2 s3
                  go_wp2_with fail
                  have hN5 := Blk.new w4 30 #[.int .i64 0, .int .i64 0, .int .i64 0, .slice none 0 0, .int .i64 0, .bool false]
                  have HN5 := hide ((Below.refl w4.heap.size w4).alloc (Nat.le_refl _) (.cells #[.int .i64 0, .int .i64 0, .int .i64 0, .slice none 0 0, .int .i64 0, .bool false] 30))
                  generalize w4.alloc (.cells #[.int .i64 0, .int .i64 0, .int .i64 0, .slice none 0 0, .int .i64 0, .bool false] 30) = W5 at hN5 HN5 ⊢
                  obtain ⟨z0, z1, z2, z3, z4, z5, _⟩ := hN5.cells6
                  have HB5 := hide (HB4.out.below HN5.out)
                  have HBK5 := hide (HBK4.out.below HN5.out HBK4.out.lt)
                  obtain ⟨s1, s2, s3⟩ := act_intS HBK5.out
                  obtain ⟨A2, k2, hs5, _⟩ := HB5.out.seen
                  clear hN5
                  have hT : TakeS0 wr.heap.size w4.heap.size w2.heap.size (.int .i64 ii) (.slice A2 cps.length k2) W5.drew := ⟨s1, hs5, z0, z1, z2, z3, z4, z5⟩
                  have hle2 : cps.length ≤ (k + 1) * 16 := by omega
                  have HGZ := HG
                  rcases hc2 with hneg | ⟨hpos, hge⟩
                  · have c1 : decide (0 ≤ ii) = false := by simpa using hneg
                    clear hneg
                    refine wp_region_held_drew (S := (fun w' => TakeS0 wr.heap.size w4.heap.size w2.heap.size (.int .i64 ii) (.slice A2 cps.length k2) w')) (by kernel_rfl) hT (fun hHeld => ?_)
                    refine wpAnyH_take (i := 0) (oi := { dst := some 65, op := Op.move (Operand.tmp 12), type := 4, pos := "law.go:47", after := #[], guard := none }) (v := ?_) rfl (by kernel_rfl) (by kernel_rfl) (by kernel_rfl) (fun _ _ _ h => h) (Or.inl ⟨by rfl, ?_⟩) (by assumption) ?_
                    rotate_left
                    · (intro w hSw; (try dsimp only at hSw); go_simp; try with_reducible rfl)
                    try simp only [Act.put, List.setIfInBounds_toArray, List.set_cons_zero, List.set_cons_succ]
                    refine wpAnyH_take (i := 1) (oi := { dst := some 66, op := Op.fieldAddr 46 (Operand.tmp 10) 1, type := 0, pos := "law.go:47", after := #[], guard := none }) (v := ?_) rfl (by kernel_rfl) (by kernel_rfl) (by kernel_rfl) (fun _ _ _ h => h) (Or.inl ⟨by rfl, ?_⟩) (by assumption) ?_
                    rotate_left
                    · (intro w hSw; (try dsimp only at hSw); go_simp; try with_reducible rfl)
                    try simp only [Act.put, List.setIfInBounds_toArray, List.set_cons_zero, List.set_cons_succ]
                    refine wpAnyH_take (i := 2) (oi := { dst := some 67, op := Op.load 3 (Operand.tmp 66), type := 3, pos := "law.go:47", after := #[{ on := 1, ground := Ground.data }], guard := none }) (v := ?_) rfl (by kernel_rfl) (by kernel_rfl) (by kernel_rfl) (fun _ _ _ h => h) (Or.inl ⟨by rfl, ?_⟩) (by assumption) ?_
                    rotate_left
                    · (intro w hSw; (try dsimp only at hSw); go_simp; try with_reducible rfl)
                    try simp only [Act.put, List.setIfInBounds_toArray, List.set_cons_zero, List.set_cons_succ]
                    refine wpAnyH_take (i := 3) (oi := { dst := some 68, op := Op.binOp BinOp.geq 3 (Operand.tmp 67) (Operand.const (Value.int IntKind.i64 0)) 3, type := 4, pos := "law.go:47", after := #[{ on := 2, ground := Ground.data }], guard := none }) (v := ?_) rfl (by kernel_rfl) (by kernel_rfl) (by kernel_rfl) (fun _ _ _ h => h) (Or.inl ⟨by rfl, ?_⟩) (by assumption) ?_
                    rotate_left
                    · (intro w hSw; (try dsimp only at hSw); go_simp; try with_reducible rfl)
                    try simp only [Act.put, List.setIfInBounds_toArray, List.set_cons_zero, List.set_cons_succ]
                    refine wpAnyH_take (i := 4) (oi := { dst := some 69, op := Op.move (Operand.tmp 68), type := 4, pos := "law.go:47", after := #[{ on := 3, ground := Ground.data }], guard := none }) (v := ?_) rfl (by kernel_rfl) (by kernel_rfl) (by kernel_rfl) (fun _ _ _ h => h) (Or.inl ⟨by rfl, ?_⟩) (by assumption) ?_
                    rotate_left
                    · (intro w hSw; (try dsimp only at hSw); go_simp; try with_reducible rfl)
                    try simp only [Act.put, List.setIfInBounds_toArray, List.set_cons_zero, List.set_cons_succ]
                    refine wpAnyH_take (i := 5) (oi := { dst := some 70, op := Op.fieldAddr 46 (Operand.tmp 10) 1, type := 0, pos := "law.go:47", after := #[{ on := 4, ground := Ground.guard }], guard := some (4, true) }) (v := undef) rfl (by kernel_rfl) (by kernel_rfl) (by kernel_rfl) (fun _ _ _ h => h) (Or.inr ⟨by rfl, rfl⟩) (by assumption) ?_
                    try simp only [Act.put, List.setIfInBounds_toArray, List.set_cons_zero, List.set_cons_succ]
                    refine wpAnyH_take (i := 6) (oi := { dst := some 71, op := Op.load 3 (Operand.tmp 70), type := 3, pos := "law.go:47", after := #[{ on := 5, ground := Ground.data }, { on := 4, ground := Ground.guard }], guard := some (4, true) }) (v := undef) rfl (by kernel_rfl) (by kernel_rfl) (by kernel_rfl) (fun _ _ _ h => h) (Or.inr ⟨by rfl, rfl⟩) (by assumption) ?_
                    try simp only [Act.put, List.setIfInBounds_toArray, List.set_cons_zero, List.set_cons_succ]
                    refine wpAnyH_take (i := 7) (oi := { dst := some 72, op := Op.move (Operand.tmp 8), type := 43, pos := "law.go:47", after := #[{ on := 4, ground := Ground.guard }], guard := some (4, true) }) (v := undef) rfl (by kernel_rfl) (by kernel_rfl) (by kernel_rfl) (fun _ _ _ h => h) (Or.inr ⟨by rfl, rfl⟩) (by assumption) ?_
                    try simp only [Act.put, List.setIfInBounds_toArray, List.set_cons_zero, List.set_cons_succ]
                    refine wpAnyH_take (i := 8) (oi := { dst := some 73, op := Op.nilCheck (Operand.tmp 72), type := 0, pos := "law.go:47", after := #[{ on := 7, ground := Ground.data }, { on := 4, ground := Ground.guard }], guard := some (4, true) }) (v := undef) rfl (by kernel_rfl) (by kernel_rfl) (by kernel_rfl) (fun _ _ _ h => h) (Or.inr ⟨by rfl, rfl⟩) (by assumption) ?_
                    try simp only [Act.put, List.setIfInBounds_toArray, List.set_cons_zero, List.set_cons_succ]
                    refine wpAnyH_take (i := 9) (oi := { dst := some 74, op := Op.fieldAddr 49 (Operand.tmp 73) 2, type := 0, pos := "law.go:47", after := #[{ on := 8, ground := Ground.data }, { on := 4, ground := Ground.guard }], guard := some (4, true) }) (v := undef) rfl (by kernel_rfl) (by kernel_rfl) (by kernel_rfl) (fun _ _ _ h => h) (Or.inr ⟨by rfl, rfl⟩) (by assumption) ?_
                    try simp only [Act.put, List.setIfInBounds_toArray, List.set_cons_zero, List.set_cons_succ]
                    refine wpAnyH_take (i := 10) (oi := { dst := some 75, op := Op.load 47 (Operand.tmp 74), type := 47, pos := "law.go:47", after := #[{ on := 9, ground := Ground.data }, { on := 4, ground := Ground.guard }], guard := some (4, true) }) (v := undef) rfl (by kernel_rfl) (by kernel_rfl) (by kernel_rfl) (fun _ _ _ h => h) (Or.inr ⟨by rfl, rfl⟩) (by assumption) ?_
                    try simp only [Act.put, List.setIfInBounds_toArray, List.set_cons_zero, List.set_cons_succ]
                    refine wpAnyH_take (i := 11) (oi := { dst := some 76, op := Op.call { callee := Callee.builtin Builtin.len, args := #[Operand.tmp 75], argTypes := #[47] }, type := 3, pos := "law.go:47", after := #[{ on := 10, ground := Ground.data }, { on := 4, ground := Ground.guard }], guard := some (4, true) }) (v := undef) rfl (by kernel_rfl) (by kernel_rfl) (by kernel_rfl) (fun _ _ _ h => h) (Or.inr ⟨by rfl, rfl⟩) (by assumption) ?_
                    try simp only [Act.put, List.setIfInBounds_toArray, List.set_cons_zero, List.set_cons_succ]
                    refine wpAnyH_take (i := 12) (oi := { dst := some 77, op := Op.binOp BinOp.lss 3 (Operand.tmp 71) (Operand.tmp 76) 3, type := 4, pos := "law.go:47", after := #[{ on := 6, ground := Ground.data }, { on := 11, ground := Ground.data }, { on := 4, ground := Ground.guard }], guard := some (4, true) }) (v := undef) rfl (by kernel_rfl) (by kernel_rfl) (by kernel_rfl) (fun _ _ _ h => h) (Or.inr ⟨by rfl, rfl⟩) (by assumption) ?_
                    try simp only [Act.put, List.setIfInBounds_toArray, List.set_cons_zero, List.set_cons_succ]
                    refine wpAnyH_take (i := 13) (oi := { dst := some 78, op := Op.pick (Operand.tmp 69) (Operand.tmp 77) (Operand.const (Value.bool false)), type := 4, pos := "law.go:47", after := #[{ on := 4, ground := Ground.data }, { on := 12, ground := Ground.data }], guard := none }) (v := ?_) rfl (by kernel_rfl) (by kernel_rfl) (by kernel_rfl) (fun _ _ _ h => h) (Or.inl ⟨by rfl, ?_⟩) (by assumption) ?_
                    rotate_left
                    · (intro w hSw; (try dsimp only at hSw); go_simp; try with_reducible rfl)
                    try simp only [Act.put, List.setIfInBounds_toArray, List.set_cons_zero, List.set_cons_succ]
                    refine wpAnyH_take (i := 14) (oi := { dst := some 79, op := Op.binOp BinOp.neq 4 (Operand.tmp 65) (Operand.tmp 78) 4, type := 4, pos := "law.go:47", after := #[{ on := 0, ground := Ground.data }, { on := 13, ground := Ground.data }], guard := none }) (v := ?_) rfl (by kernel_rfl) (by kernel_rfl) (by kernel_rfl) (fun _ _ _ h => h) (Or.inl ⟨by rfl, ?_⟩) (by assumption) ?_
                    rotate_left
                    · (intro w hSw; (try dsimp only at hSw); go_simp; try with_reducible rfl)
                    try simp only [Act.put, List.setIfInBounds_toArray, List.set_cons_zero, List.set_cons_succ]
                    refine wpAnyH_take (i := 15) (oi := { dst := some 80, op := Op.move (Operand.tmp 79), type := 4, pos := "law.go:47", after := #[{ on := 14, ground := Ground.data }, { on := 4, ground := Ground.chain }], guard := none }) (v := ?_) rfl (by kernel_rfl) (by kernel_rfl) (by kernel_rfl) (fun _ _ _ h => h) (Or.inl ⟨by rfl, ?_⟩) (by assumption) ?_
                    rotate_left
                    · (intro w hSw; (try dsimp only at hSw); go_simp; try with_reducible rfl)
                    try simp only [Act.put, List.setIfInBounds_toArray, List.set_cons_zero, List.set_cons_succ]
                    refine wpAnyH_take (i := 16) (oi := { dst := some 81, op := Op.move (Operand.tmp 12), type := 4, pos := "law.go:47", after := #[{ on := 15, ground := Ground.guard }], guard := some (15, false) }) (v := ?_) rfl (by kernel_rfl) (by kernel_rfl) (by kernel_rfl) (fun _ _ _ h => h) (Or.inl ⟨by rfl, ?_⟩) (by assumption) ?_
                    rotate_left
                    · (intro w hSw; (try dsimp only at hSw); go_simp; try with_reducible rfl)
                    try simp only [Act.put, List.setIfInBounds_toArray, List.set_cons_zero, List.set_cons_succ]
                    refine wpAnyH_take (i := 17) (oi := { dst := some 82, op := Op.move (Operand.tmp 81), type := 4, pos := "law.go:47", after := #[{ on := 16, ground := Ground.data }, { on := 15, ground := Ground.chain }, { on := 15, ground := Ground.guard }], guard := some (15, false) }) (v := ?_) rfl (by kernel_rfl) (by kernel_rfl) (by kernel_rfl) (fun _ _ _ h => h) (Or.inl ⟨by rfl, ?_⟩) (by assumption) ?_
                    rotate_left
                    · (intro w hSw; (try dsimp only at hSw); go_simp; try with_reducible rfl)
                    try simp only [Act.put, List.setIfInBounds_toArray, List.set_cons_zero, List.set_cons_succ]
                    refine wpAnyH_take (i := 18) (oi := { dst := some 83, op := Op.load 30 (Operand.tmp 11), type := 30, pos := "law.go:47", after := #[{ on := 17, ground := Ground.guard }], guard := some (17, true) }) (v := undef) rfl (by kernel_rfl) (by kernel_rfl) (by kernel_rfl) (fun _ _ _ h => h) (Or.inr ⟨by rfl, rfl⟩) (by assumption) ?_
                    try simp only [Act.put, List.setIfInBounds_toArray, List.set_cons_zero, List.set_cons_succ]
                    refine wpAnyH_take (i := 19) (oi := { dst := some 84, op := Op.move (Operand.tmp 8), type := 43, pos := "law.go:47", after := #[{ on := 17, ground := Ground.guard }], guard := some (17, true) }) (v := undef) rfl (by kernel_rfl) (by kernel_rfl) (by kernel_rfl) (fun _ _ _ h => h) (Or.inr ⟨by rfl, rfl⟩) (by assumption) ?_
                    try simp only [Act.put, List.setIfInBounds_toArray, List.set_cons_zero, List.set_cons_succ]
                    refine wpAnyH_take (i := 20) (oi := { dst := some 85, op := Op.nilCheck (Operand.tmp 84), type := 0, pos := "law.go:47", after := #[{ on := 19, ground := Ground.data }, { on := 17, ground := Ground.guard }], guard := some (17, true) }) (v := undef) rfl (by kernel_rfl) (by kernel_rfl) (by kernel_rfl) (fun _ _ _ h => h) (Or.inr ⟨by rfl, rfl⟩) (by assumption) ?_
                    try simp only [Act.put, List.setIfInBounds_toArray, List.set_cons_zero, List.set_cons_succ]
                    refine wpAnyH_take (i := 21) (oi := { dst := some 86, op := Op.fieldAddr 49 (Operand.tmp 85) 2, type := 0, pos := "law.go:47", after := #[{ on := 20, ground := Ground.data }, { on := 17, ground := Ground.guard }], guard := some (17, true) }) (v := undef) rfl (by kernel_rfl) (by kernel_rfl) (by kernel_rfl) (fun _ _ _ h => h) (Or.inr ⟨by rfl, rfl⟩) (by assumption) ?_
                    try simp only [Act.put, List.setIfInBounds_toArray, List.set_cons_zero, List.set_cons_succ]
                    refine wpAnyH_take (i := 22) (oi := { dst := some 87, op := Op.load 47 (Operand.tmp 86), type := 47, pos := "law.go:47", after := #[{ on := 21, ground := Ground.data }, { on := 17, ground := Ground.guard }], guard := some (17, true) }) (v := undef) rfl (by kernel_rfl) (by kernel_rfl) (by kernel_rfl) (fun _ _ _ h => h) (Or.inr ⟨by rfl, rfl⟩) (by assumption) ?_
                    try simp only [Act.put, List.setIfInBounds_toArray, List.set_cons_zero, List.set_cons_succ]
                    refine wpAnyH_take (i := 23) (oi := { dst := some 88, op := Op.fieldAddr 46 (Operand.tmp 10) 1, type := 0, pos := "law.go:47", after := #[{ on := 17, ground := Ground.guard }], guard := some (17, true) }) (v := undef) rfl (by kernel_rfl) (by kernel_rfl) (by kernel_rfl) (fun _ _ _ h => h) (Or.inr ⟨by rfl, rfl⟩) (by assumption) ?_
                    try simp only [Act.put, List.setIfInBounds_toArray, List.set_cons_zero, List.set_cons_succ]
                    refine wpAnyH_take (i := 24) (oi := { dst := some 89, op := Op.load 3 (Operand.tmp 88), type := 3, pos := "law.go:47", after := #[{ on := 23, ground := Ground.data }, { on := 17, ground := Ground.guard }], guard := some (17, true) }) (v := undef) rfl (by kernel_rfl) (by kernel_rfl) (by kernel_rfl) (fun _ _ _ h => h) (Or.inr ⟨by rfl, rfl⟩) (by assumption) ?_
                    try simp only [Act.put, List.setIfInBounds_toArray, List.set_cons_zero, List.set_cons_succ]
                    refine wpAnyH_take (i := 25) (oi := { dst := some 90, op := Op.indexAddr 47 (Operand.tmp 87) (Operand.tmp 89), type := 0, pos := "law.go:47", after := #[{ on := 22, ground := Ground.data }, { on := 24, ground := Ground.data }, { on := 17, ground := Ground.guard }], guard := some (17, true) }) (v := undef) rfl (by kernel_rfl) (by kernel_rfl) (by kernel_rfl) (fun _ _ _ h => h) (Or.inr ⟨by rfl, rfl⟩) (by assumption) ?_
                    try simp only [Act.put, List.setIfInBounds_toArray, List.set_cons_zero, List.set_cons_succ]
                    refine wpAnyH_take (i := 26) (oi := { dst := some 91, op := Op.load 30 (Operand.tmp 90), type := 30, pos := "law.go:47", after := #[{ on := 25, ground := Ground.data }, { on := 17, ground := Ground.guard }], guard := some (17, true) }) (v := undef) rfl (by kernel_rfl) (by kernel_rfl) (by kernel_rfl) (fun _ _ _ h => h) (Or.inr ⟨by rfl, rfl⟩) (by assumption) ?_
                    try simp only [Act.put, List.setIfInBounds_toArray, List.set_cons_zero, List.set_cons_succ]
                    refine wpAnyH_take (i := 27) (oi := { dst := some 92, op := Op.call { callee := Callee.value (Operand.func 16), args := #[Operand.tmp 83, Operand.tmp 91], argTypes := #[30, 30] }, type := 4, pos := "law.go:47", after := #[{ on := 18, ground := Ground.data }, { on := 26, ground := Ground.data }, { on := 17, ground := Ground.chain }, { on := 17, ground := Ground.guard }], guard := some (17, true) }) (v := undef) rfl (by kernel_rfl) (by kernel_rfl) (by kernel_rfl) (fun _ _ _ h => h) (Or.inr ⟨by rfl, rfl⟩) (by assumption) ?_
                    try simp only [Act.put, List.setIfInBounds_toArray, List.set_cons_zero, List.set_cons_succ]
                    refine wpAnyH_take (i := 28) (oi := { dst := some 93, op := Op.unOp UnOp.not 4 (Operand.tmp 92), type := 4, pos := "law.go:47", after := #[{ on := 27, ground := Ground.data }, { on := 17, ground := Ground.guard }], guard := some (17, true) }) (v := undef) rfl (by kernel_rfl) (by kernel_rfl) (by kernel_rfl) (fun _ _ _ h => h) (Or.inr ⟨by rfl, rfl⟩) (by assumption) ?_
                    try simp only [Act.put, List.setIfInBounds_toArray, List.set_cons_zero, List.set_cons_succ]
                    refine wpAnyH_take (i := 29) (oi := { dst := some 94, op := Op.pick (Operand.tmp 82) (Operand.tmp 93) (Operand.const (Value.bool false)), type := 4, pos := "law.go:47", after := #[{ on := 17, ground := Ground.data }, { on := 28, ground := Ground.data }, { on := 15, ground := Ground.guard }], guard := some (15, false) }) (v := ?_) rfl (by kernel_rfl) (by kernel_rfl) (by kernel_rfl) (fun _ _ _ h => h) (Or.inl ⟨by rfl, ?_⟩) (by assumption) ?_
                    rotate_left
                    · (intro w hSw; (try dsimp only at hSw); go_simp; try with_reducible rfl)
                    try simp only [Act.put, List.setIfInBounds_toArray, List.set_cons_zero, List.set_cons_succ]
                    refine wpAnyH_take (i := 30) (oi := { dst := some 95, op := Op.pick (Operand.tmp 80) (Operand.const (Value.bool true)) (Operand.tmp 94), type := 4, pos := "law.go:47", after := #[{ on := 15, ground := Ground.data }, { on := 29, ground := Ground.data }], guard := none }) (v := ?_) rfl (by kernel_rfl) (by kernel_rfl) (by kernel_rfl) (fun _ _ _ h => h) (Or.inl ⟨by rfl, ?_⟩) (by assumption) ?_
                    rotate_left
                    · (intro w hSw; (try dsimp only at hSw); go_simp; try with_reducible rfl)
                    try simp only [Act.put, List.setIfInBounds_toArray, List.set_cons_zero, List.set_cons_succ]
                    refine wpAnyH_take (i := 31) (oi := { dst := some 96, op := Op.move (Operand.tmp 95), type := 4, pos := "law.go:47", after := #[{ on := 30, ground := Ground.data }, { on := 27, ground := Ground.chain }], guard := none }) (v := ?_) rfl (by kernel_rfl) (by kernel_rfl) (by kernel_rfl) (fun _ _ _ h => h) (Or.inl ⟨by rfl, ?_⟩) (by assumption) ?_
                    rotate_left
                    · (intro w hSw; (try dsimp only at hSw); go_simp; try with_reducible rfl)
                    try simp only [Act.put, List.setIfInBounds_toArray, List.set_cons_zero, List.set_cons_succ]
                    refine wpAnyH_take (i := 32) (oi := { dst := some 97, op := Op.move (Operand.tmp 12), type := 4, pos := "law.go:47", after := #[{ on := 31, ground := Ground.guard }], guard := some (31, false) }) (v := ?_) rfl (by kernel_rfl) (by kernel_rfl) (by kernel_rfl) (fun _ _ _ h => h) (Or.inl ⟨by rfl, ?_⟩) (by assumption) ?_
                    rotate_left
                    · (intro w hSw; (try dsimp only at hSw); go_simp; try with_reducible rfl)
                    try simp only [Act.put, List.setIfInBounds_toArray, List.set_cons_zero, List.set_cons_succ]
                    refine wpAnyH_take (i := 33) (oi := { dst := some 98, op := Op.unOp UnOp.not 4 (Operand.tmp 97), type := 4, pos := "law.go:47", after := #[{ on := 32, ground := Ground.data }, { on := 31, ground := Ground.guard }], guard := some (31, false) }) (v := ?_) rfl (by kernel_rfl) (by kernel_rfl) (by kernel_rfl) (fun _ _ _ h => h) (Or.inl ⟨by rfl, ?_⟩) (by assumption) ?_
                    rotate_left
                    · (intro w hSw; (try dsimp only at hSw); go_simp; try with_reducible rfl)
                    try simp only [Act.put, List.setIfInBounds_toArray, List.set_cons_zero, List.set_cons_succ]
                    refine wpAnyH_take (i := 34) (oi := { dst := some 99, op := Op.move (Operand.tmp 98), type := 4, pos := "law.go:47", after := #[{ on := 33, ground := Ground.data }, { on := 31, ground := Ground.chain }, { on := 31, ground := Ground.guard }], guard := some (31, false) }) (v := ?_) rfl (by kernel_rfl) (by kernel_rfl) (by kernel_rfl) (fun _ _ _ h => h) (Or.inl ⟨by rfl, ?_⟩) (by assumption) ?_
                    rotate_left
                    · (intro w hSw; (try dsimp only at hSw); go_simp; try with_reducible rfl)
                    try simp only [Act.put, List.setIfInBounds_toArray, List.set_cons_zero, List.set_cons_succ]
                    refine wpAnyH_take (i := 35) (oi := { dst := some 100, op := Op.load 30 (Operand.tmp 11), type := 30, pos := "law.go:47", after := #[{ on := 34, ground := Ground.guard }], guard := some (34, true) }) (v := ?_) rfl (by kernel_rfl) (by kernel_rfl) (by kernel_rfl) (fun _ _ _ h => h) (Or.inl ⟨by rfl, ?_⟩) (by assumption) ?_
                    rotate_left
                    · (intro w hSw; (try dsimp only at hSw); go_simp; try with_reducible rfl)
                    try simp only [Act.put, List.setIfInBounds_toArray, List.set_cons_zero, List.set_cons_succ]
                    refine wpAnyH_take (i := 36) (oi := { dst := some 101, op := Op.build 30 #[], type := 30, pos := "law.go:47", after := #[{ on := 34, ground := Ground.guard }], guard := some (34, true) }) (v := ?_) rfl (by kernel_rfl) (by kernel_rfl) (by kernel_rfl) (fun _ _ _ h => h) (Or.inl ⟨by rfl, ?_⟩) (by assumption) ?_
                    rotate_left
                    · (intro w hSw; (try dsimp only at hSw); go_simp; try with_reducible rfl)
                    try simp only [Act.put, List.setIfInBounds_toArray, List.set_cons_zero, List.set_cons_succ]
                    refine wpAnyH_ready (rs := [37]) (by kernel_rfl) (by simp) ?_
                    refine AllReadyH.cons (o := { dst := some 102, op := Op.call { callee := Callee.value (Operand.func 16), args := #[Operand.tmp 100, Operand.tmp 101], argTypes := #[30, 30] }, type := 4, pos := "law.go:47", after := #[{ on := 35, ground := Ground.data }, { on := 36, ground := Ground.data }, { on := 34, ground := Ground.chain }, { on := 34, ground := Ground.guard }], guard := some (34, true) }) rfl (fun K hK => ?_) AllReadyH.nil
                    go_simp
                    go_at_call 16
                    refine (refSame_any ⟨0, 0, 0, [], 0, false⟩ ⟨0, 0, 0, [], 0, false⟩ none none 0 0 _ (by simp) Reads.none_ Reads.none_).mono ?_
                    rintro e w6 ⟨rfl, hb6⟩
                    have hs6 := hT.keep hb6
                    have hdd : decide ((⟨0, 0, 0, [], 0, false⟩ : Cp) = ⟨0, 0, 0, [], 0, false⟩) = true := decide_eq_true rfl
                    rw [hdd]
                    clear hdd
                    refine hK.out _ _ hs6 (fun hHeld2 => ?_)
                    clear hHeld hK K
                    try simp only [Act.put, List.setIfInBounds_toArray, List.set_cons_zero, List.set_cons_succ]
                    refine wpAnyH_take (i := 38) (oi := { dst := some 103, op := Op.unOp UnOp.not 4 (Operand.tmp 102), type := 4, pos := "law.go:47", after := #[{ on := 37, ground := Ground.data }, { on := 34, ground := Ground.guard }], guard := some (34, true) }) (v := ?_) rfl (by kernel_rfl) (by kernel_rfl) (by kernel_rfl) (fun _ _ _ h => h) (Or.inl ⟨by rfl, ?_⟩) (by assumption) ?_
                    rotate_left
                    · (intro w hSw; (try dsimp only at hSw); go_simp; try with_reducible rfl)
                    try simp only [Act.put, List.setIfInBounds_toArray, List.set_cons_zero, List.set_cons_succ]
                    refine wpAnyH_take (i := 39) (oi := { dst := some 104, op := Op.pick (Operand.tmp 99) (Operand.tmp 103) (Operand.const (Value.bool false)), type := 4, pos := "law.go:47", after := #[{ on := 34, ground := Ground.data }, { on := 38, ground := Ground.data }, { on := 31, ground := Ground.guard }], guard := some (31, false) }) (v := ?_) rfl (by kernel_rfl) (by kernel_rfl) (by kernel_rfl) (fun _ _ _ h => h) (Or.inl ⟨by rfl, ?_⟩) (by assumption) ?_
                    rotate_left
                    · (intro w hSw; (try dsimp only at hSw); go_simp; try with_reducible rfl)
                    try simp only [Act.put, List.setIfInBounds_toArray, List.set_cons_zero, List.set_cons_succ]
                    refine wpAnyH_take (i := 40) (oi := { dst := some 105, op := Op.pick (Operand.tmp 96) (Operand.const (Value.bool true)) (Operand.tmp 104), type := 4, pos := "law.go:47", after := #[{ on := 31, ground := Ground.data }, { on := 39, ground := Ground.data }], guard := none }) (v := ?_) rfl (by kernel_rfl) (by kernel_rfl) (by kernel_rfl) (fun _ _ _ h => h) (Or.inl ⟨by rfl, ?_⟩) (by assumption) ?_
                    rotate_left
                    · (intro w hSw; (try dsimp only at hSw); go_simp; try with_reducible rfl)
                    try simp only [Act.put, List.setIfInBounds_toArray, List.set_cons_zero, List.set_cons_succ]
                    refine wpAnyH_done (by kernel_rfl) ?_ _
                    have HBZ := hide (HB5.out.drew.below hb6)
                    clear hb6 hT s1 s2 s3 z0 z1 z2 z3 z4 z5 hs5 hs6 hHeld2
                    generalize cps = cps2 at HBZ HGZ hle2 ⊢
                    go_wp2_with fail
                    obtain ⟨A2, k2, hs2, _⟩ := HBZ.out.seen
                    have hBd2 := HBZ.out.drew
                    have hs2d := cell_keep hs2 (Below.refl _ _).drew
                    go_region_held3 (fun w' => w'.cell? ⟨w2.heap.size, 2, none⟩ = some (.slice A2 cps2.length k2)) (first | assumption | go_keep)
                      ((go_at_call 14; refine (two_len (by assumption)).mono ?_; rintro r w6 ⟨rfl, hB6, hb6⟩; have hs3 := cell_keep hs2d hb6))
                    have HB6 := hide hB6.forget
                    clear hB6 hb6 hBd2 hs2 hs2d
                    go_wp2_with fail
                    clear hs3
                    have hle3 : cps2.length ≤ 1000 := by omega
                    go_loopw [143] (fun i wq => ∃ j : Nat, j ≤ cps2.length ∧ i = .int .i64 j ∧ Hid (Both w wq w1.heap.size (w1.heap.size + 1) w2.heap.size (w2.heap.size + 1) (roomF room) zs cps2 cps2 (fun _ => False))) (fun i _ => cps2.length - (intOf i).toNat)
                    case atStart => exact ⟨0, Nat.zero_le _, rfl, HB6⟩
                    case round =>
                      obtain ⟨j, hj, rfl, HQ⟩ := hrel
                      by_cases hjl : j < cps2.length
                      · obtain ⟨cc, hcc⟩ : ∃ cc, cps2[j]? = some cc := ⟨_, List.getElem?_eq_getElem hjl⟩
                        have HCC := hide hcc
                        have hcl := (HGZ.out cc (List.mem_of_getElem? hcc)).1
                        clear hcc
                        go_wp2_with fail
                        refine (two_at HQ.out HGZ.out j cc HCC.out).mono ?_
                        rintro r w7 ⟨A7, c7, rfl, ho7, hB7, hb7⟩
                        have HB7 := hide hB7
                        have HO7 := hide ho7
                        clear ho7 hB7 hb7
                        obtain ⟨xl, xf, xt, xb, xr, xs⟩ := cc
                        dsimp only [Cp.val] at HO7 hcl ⊢
                        go_wp2_with fail
                        have hN8 := Blk.new w7 30 #[.int .i64 xl, .int .i64 xf, .int .i64 xt, .slice A7 xb.length c7, .int .i64 xr, .bool xs]
                        have HN8 := hide ((Below.refl w7.heap.size w7).alloc (Nat.le_refl _) (.cells #[.int .i64 xl, .int .i64 xf, .int .i64 xt, .slice A7 xb.length c7, .int .i64 xr, .bool xs] 30))
                        generalize w7.alloc (.cells #[.int .i64 xl, .int .i64 xf, .int .i64 xt, .slice A7 xb.length c7, .int .i64 xr, .bool xs] 30) = W8 at hN8 HN8 ⊢
                        obtain ⟨z0, z1, z2, z3, z4, z5, _⟩ := hN8.cells6
                        have HB8 := hide (HB7.out.below HN8.out)
                        have HO8 := hide ((Keeps.of_below (F := fun _ => False) HN8.out).own HO7.out (fun _ _ h => h))
                        obtain ⟨A2', k2', hs8, hraw⟩ := HB8.out.seen
                        obtain ⟨rb, ro, rA, rc, rfl, ⟨g0, g1, g2, g3, g4, g5⟩, hrd⟩ := hraw j _ HCC.out
                        have HRD := hide hrd
                        dsimp only at g0 g1 g2 g3 g4 g5 HRD
                        clear hraw hrd hN8
                        go_still_tail 11, (by kernel_rfl)
                        go_wp2_with fail
                        refine (refSame_any ⟨xl, xf, xt, xb, xr, xs⟩ ⟨xl, xf, xt, xb, xr, xs⟩ A7 rA c7 rc _ (by show xb.length ≤ _; omega) (Reads.of_own HO8.out).drew HRD.out.drew).mono ?_
                        rintro e w9 ⟨rfl, hb9⟩
                        have hdd : decide ((⟨xl, xf, xt, xb, xr, xs⟩ : Cp) = ⟨xl, xf, xt, xb, xr, xs⟩) = true := decide_eq_true rfl
                        rw [hdd]
                        have HB9 := hide (HB8.out.drew.below hb9)
                        clear hb9 hdd z0 z1 z2 z3 z4 z5 g0 g1 g2 g3 g4 g5 hs8
                        go_wp2_with fail
                        exact ⟨⟨j + 1, by omega, by go_num, HB9⟩, by simp [intOf]; omega⟩
                      · go_wp2_with fail
                        exact ⟨⟨k + 1, cps2, by omega, by go_num, hle2, HGZ, HQ⟩, by simp [intOf]; omega⟩
                  · have c1 : decide (0 ≤ ii) = true := by simpa using hpos
                    have c2 : decide (ii < (cps.length : Int)) = false := by simpa using hge
                    clear hpos hge
                    refine wp_region_held_drew (S := (fun w' => TakeS0 wr.heap.size w4.heap.size w2.heap.size (.int .i64 ii) (.slice A2 cps.length k2) w')) (by kernel_rfl) hT (fun hHeld => ?_)
                    refine wpAnyH_take (i := 0) (oi := { dst := some 65, op := Op.move (Operand.tmp 12), type := 4, pos := "law.go:47", after := #[], guard := none }) (v := ?_) rfl (by kernel_rfl) (by kernel_rfl) (by kernel_rfl) (fun _ _ _ h => h) (Or.inl ⟨by rfl, ?_⟩) (by assumption) ?_
                    rotate_left
                    · (intro w hSw; (try dsimp only at hSw); go_simp; try with_reducible rfl)
                    try simp only [Act.put, List.setIfInBounds_toArray, List.set_cons_zero, List.set_cons_succ]
                    refine wpAnyH_take (i := 1) (oi := { dst := some 66, op := Op.fieldAddr 46 (Operand.tmp 10) 1, type := 0, pos := "law.go:47", after := #[], guard := none }) (v := ?_) rfl (by kernel_rfl) (by kernel_rfl) (by kernel_rfl) (fun _ _ _ h => h) (Or.inl ⟨by rfl, ?_⟩) (by assumption) ?_
                    rotate_left
                    · (intro w hSw; (try dsimp only at hSw); go_simp; try with_reducible rfl)
                    try simp only [Act.put, List.setIfInBounds_toArray, List.set_cons_zero, List.set_cons_succ]
                    refine wpAnyH_take (i := 2) (oi := { dst := some 67, op := Op.load 3 (Operand.tmp 66), type := 3, pos := "law.go:47", after := #[{ on := 1, ground := Ground.data }], guard := none }) (v := ?_) rfl (by kernel_rfl) (by kernel_rfl) (by kernel_rfl) (fun _ _ _ h => h) (Or.inl ⟨by rfl, ?_⟩) (by assumption) ?_
                    rotate_left
                    · (intro w hSw; (try dsimp only at hSw); go_simp; try with_reducible rfl)
                    try simp only [Act.put, List.setIfInBounds_toArray, List.set_cons_zero, List.set_cons_succ]
                    refine wpAnyH_take (i := 3) (oi := { dst := some 68, op := Op.binOp BinOp.geq 3 (Operand.tmp 67) (Operand.const (Value.int IntKind.i64 0)) 3, type := 4, pos := "law.go:47", after := #[{ on := 2, ground := Ground.data }], guard := none }) (v := ?_) rfl (by kernel_rfl) (by kernel_rfl) (by kernel_rfl) (fun _ _ _ h => h) (Or.inl ⟨by rfl, ?_⟩) (by assumption) ?_
                    rotate_left
                    · (intro w hSw; (try dsimp only at hSw); go_simp; try with_reducible rfl)
                    try simp only [Act.put, List.setIfInBounds_toArray, List.set_cons_zero, List.set_cons_succ]
                    refine wpAnyH_take (i := 4) (oi := { dst := some 69, op := Op.move (Operand.tmp 68), type := 4, pos := "law.go:47", after := #[{ on := 3, ground := Ground.data }], guard := none }) (v := ?_) rfl (by kernel_rfl) (by kernel_rfl) (by kernel_rfl) (fun _ _ _ h => h) (Or.inl ⟨by rfl, ?_⟩) (by assumption) ?_
                    rotate_left
                    · (intro w hSw; (try dsimp only at hSw); go_simp; try with_reducible rfl)
                    try simp only [Act.put, List.setIfInBounds_toArray, List.set_cons_zero, List.set_cons_succ]
                    refine wpAnyH_take (i := 5) (oi := { dst := some 70, op := Op.fieldAddr 46 (Operand.tmp 10) 1, type := 0, pos := "law.go:47", after := #[{ on := 4, ground := Ground.guard }], guard := some (4, true) }) (v := ?_) rfl (by kernel_rfl) (by kernel_rfl) (by kernel_rfl) (fun _ _ _ h => h) (Or.inl ⟨by rfl, ?_⟩) (by assumption) ?_
                    rotate_left
                    · (intro w hSw; (try dsimp only at hSw); go_simp; try with_reducible rfl)
                    try simp only [Act.put, List.setIfInBounds_toArray, List.set_cons_zero, List.set_cons_succ]
                    refine wpAnyH_take (i := 6) (oi := { dst := some 71, op := Op.load 3 (Operand.tmp 70), type := 3, pos := "law.go:47", after := #[{ on := 5, ground := Ground.data }, { on := 4, ground := Ground.guard }], guard := some (4, true) }) (v := ?_) rfl (by kernel_rfl) (by kernel_rfl) (by kernel_rfl) (fun _ _ _ h => h) (Or.inl ⟨by rfl, ?_⟩) (by assumption) ?_
                    rotate_left
                    · (intro w hSw; (try dsimp only at hSw); go_simp; try with_reducible rfl)
                    try simp only [Act.put, List.setIfInBounds_toArray, List.set_cons_zero, List.set_cons_succ]
                    refine wpAnyH_take (i := 7) (oi := { dst := some 72, op := Op.move (Operand.tmp 8), type := 43, pos := "law.go:47", after := #[{ on := 4, ground := Ground.guard }], guard := some (4, true) }) (v := ?_) rfl (by kernel_rfl) (by kernel_rfl) (by kernel_rfl) (fun _ _ _ h => h) (Or.inl ⟨by rfl, ?_⟩) (by assumption) ?_
                    rotate_left
                    · (intro w hSw; (try dsimp only at hSw); go_simp; try with_reducible rfl)
                    try simp only [Act.put, List.setIfInBounds_toArray, List.set_cons_zero, List.set_cons_succ]
                    refine wpAnyH_take (i := 8) (oi := { dst := some 73, op := Op.nilCheck (Operand.tmp 72), type := 0, pos := "law.go:47", after := #[{ on := 7, ground := Ground.data }, { on := 4, ground := Ground.guard }], guard := some (4, true) }) (v := ?_) rfl (by kernel_rfl) (by kernel_rfl) (by kernel_rfl) (fun _ _ _ h => h) (Or.inl ⟨by rfl, ?_⟩) (by assumption) ?_
                    rotate_left
                    · (intro w hSw; (try dsimp only at hSw); go_simp; try with_reducible rfl)
                    try simp only [Act.put, List.setIfInBounds_toArray, List.set_cons_zero, List.set_cons_succ]
                    refine wpAnyH_take (i := 9) (oi := { dst := some 74, op := Op.fieldAddr 49 (Operand.tmp 73) 2, type := 0, pos := "law.go:47", after := #[{ on := 8, ground := Ground.data }, { on := 4, ground := Ground.guard }], guard := some (4, true) }) (v := ?_) rfl (by kernel_rfl) (by kernel_rfl) (by kernel_rfl) (fun _ _ _ h => h) (Or.inl ⟨by rfl, ?_⟩) (by assumption) ?_
                    rotate_left
                    · (intro w hSw; (try dsimp only at hSw); go_simp; try with_reducible rfl)
                    try simp only [Act.put, List.setIfInBounds_toArray, List.set_cons_zero, List.set_cons_succ]
                    refine wpAnyH_take (i := 10) (oi := { dst := some 75, op := Op.load 47 (Operand.tmp 74), type := 47, pos := "law.go:47", after := #[{ on := 9, ground := Ground.data }, { on := 4, ground := Ground.guard }], guard := some (4, true) }) (v := ?_) rfl (by kernel_rfl) (by kernel_rfl) (by kernel_rfl) (fun _ _ _ h => h) (Or.inl ⟨by rfl, ?_⟩) (by assumption) ?_
                    rotate_left
                    · (intro w hSw; (try dsimp only at hSw); go_simp; try with_reducible rfl)
                    try simp only [Act.put, List.setIfInBounds_toArray, List.set_cons_zero, List.set_cons_succ]
                    refine wpAnyH_take (i := 11) (oi := { dst := some 76, op := Op.call { callee := Callee.builtin Builtin.len, args := #[Operand.tmp 75], argTypes := #[47] }, type := 3, pos := "law.go:47", after := #[{ on := 10, ground := Ground.data }, { on := 4, ground := Ground.guard }], guard := some (4, true) }) (v := ?_) rfl (by kernel_rfl) (by kernel_rfl) (by kernel_rfl) (fun _ _ _ h => h) (Or.inl ⟨by rfl, ?_⟩) (by assumption) ?_
                    rotate_left
                    · (intro w hSw; (try dsimp only at hSw); go_simp; try with_reducible rfl)
                    try simp only [Act.put, List.setIfInBounds_toArray, List.set_cons_zero, List.set_cons_succ]
                    refine wpAnyH_take (i := 12) (oi := { dst := some 77, op := Op.binOp BinOp.lss 3 (Operand.tmp 71) (Operand.tmp 76) 3, type := 4, pos := "law.go:47", after := #[{ on := 6, ground := Ground.data }, { on := 11, ground := Ground.data }, { on := 4, ground := Ground.guard }], guard := some (4, true) }) (v := ?_) rfl (by kernel_rfl) (by kernel_rfl) (by kernel_rfl) (fun _ _ _ h => h) (Or.inl ⟨by rfl, ?_⟩) (by assumption) ?_
                    rotate_left
                    · (intro w hSw; (try dsimp only at hSw); go_simp; try with_reducible rfl)
                    try simp only [Act.put, List.setIfInBounds_toArray, List.set_cons_zero, List.set_cons_succ]
                    refine wpAnyH_take (i := 13) (oi := { dst := some 78, op := Op.pick (Operand.tmp 69) (Operand.tmp 77) (Operand.const (Value.bool false)), type := 4, pos := "law.go:47", after := #[{ on := 4, ground := Ground.data }, { on := 12, ground := Ground.data }], guard := none }) (v := ?_) rfl (by kernel_rfl) (by kernel_rfl) (by kernel_rfl) (fun _ _ _ h => h) (Or.inl ⟨by rfl, ?_⟩) (by assumption) ?_
                    rotate_left
                    · (intro w hSw; (try dsimp only at hSw); go_simp; try with_reducible rfl)
                    try simp only [Act.put, List.setIfInBounds_toArray, List.set_cons_zero, List.set_cons_succ]
                    refine wpAnyH_take (i := 14) (oi := { dst := some 79, op := Op.binOp BinOp.neq 4 (Operand.tmp 65) (Operand.tmp 78) 4, type := 4, pos := "law.go:47", after := #[{ on := 0, ground := Ground.data }, { on := 13, ground := Ground.data }], guard := none }) (v := ?_) rfl (by kernel_rfl) (by kernel_rfl) (by kernel_rfl) (fun _ _ _ h => h) (Or.inl ⟨by rfl, ?_⟩) (by assumption) ?_
                    rotate_left
                    · (intro w hSw; (try dsimp only at hSw); go_simp; try with_reducible rfl)
                    try simp only [Act.put, List.setIfInBounds_toArray, List.set_cons_zero, List.set_cons_succ]
                    refine wpAnyH_take (i := 15) (oi := { dst := some 80, op := Op.move (Operand.tmp 79), type := 4, pos := "law.go:47", after := #[{ on := 14, ground := Ground.data }, { on := 4, ground := Ground.chain }], guard := none }) (v := ?_) rfl (by kernel_rfl) (by kernel_rfl) (by kernel_rfl) (fun _ _ _ h => h) (Or.inl ⟨by rfl, ?_⟩) (by assumption) ?_
                    rotate_left
                    · (intro w hSw; (try dsimp only at hSw); go_simp; try with_reducible rfl)
                    try simp only [Act.put, List.setIfInBounds_toArray, List.set_cons_zero, List.set_cons_succ]
                    refine wpAnyH_take (i := 16) (oi := { dst := some 81, op := Op.move (Operand.tmp 12), type := 4, pos := "law.go:47", after := #[{ on := 15, ground := Ground.guard }], guard := some (15, false) }) (v := ?_) rfl (by kernel_rfl) (by kernel_rfl) (by kernel_rfl) (fun _ _ _ h => h) (Or.inl ⟨by rfl, ?_⟩) (by assumption) ?_
                    rotate_left
                    · (intro w hSw; (try dsimp only at hSw); go_simp; try with_reducible rfl)
                    try simp only [Act.put, List.setIfInBounds_toArray, List.set_cons_zero, List.set_cons_succ]
                    refine wpAnyH_take (i := 17) (oi := { dst := some 82, op := Op.move (Operand.tmp 81), type := 4, pos := "law.go:47", after := #[{ on := 16, ground := Ground.data }, { on := 15, ground := Ground.chain }, { on := 15, ground := Ground.guard }], guard := some (15, false) }) (v := ?_) rfl (by kernel_rfl) (by kernel_rfl) (by kernel_rfl) (fun _ _ _ h => h) (Or.inl ⟨by rfl, ?_⟩) (by assumption) ?_
                    rotate_left
                    · (intro w hSw; (try dsimp only at hSw); go_simp; try with_reducible rfl)
                    try simp only [Act.put, List.setIfInBounds_toArray, List.set_cons_zero, List.set_cons_succ]
                    refine wpAnyH_take (i := 18) (oi := { dst := some 83, op := Op.load 30 (Operand.tmp 11), type := 30, pos := "law.go:47", after := #[{ on := 17, ground := Ground.guard }], guard := some (17, true) }) (v := undef) rfl (by kernel_rfl) (by kernel_rfl) (by kernel_rfl) (fun _ _ _ h => h) (Or.inr ⟨by rfl, rfl⟩) (by assumption) ?_
                    try simp only [Act.put, List.setIfInBounds_toArray, List.set_cons_zero, List.set_cons_succ]
                    refine wpAnyH_take (i := 19) (oi := { dst := some 84, op := Op.move (Operand.tmp 8), type := 43, pos := "law.go:47", after := #[{ on := 17, ground := Ground.guard }], guard := some (17, true) }) (v := undef) rfl (by kernel_rfl) (by kernel_rfl) (by kernel_rfl) (fun _ _ _ h => h) (Or.inr ⟨by rfl, rfl⟩) (by assumption) ?_
                    try simp only [Act.put, List.setIfInBounds_toArray, List.set_cons_zero, List.set_cons_succ]
                    refine wpAnyH_take (i := 20) (oi := { dst := some 85, op := Op.nilCheck (Operand.tmp 84), type := 0, pos := "law.go:47", after := #[{ on := 19, ground := Ground.data }, { on := 17, ground := Ground.guard }], guard := some (17, true) }) (v := undef) rfl (by kernel_rfl) (by kernel_rfl) (by kernel_rfl) (fun _ _ _ h => h) (Or.inr ⟨by rfl, rfl⟩) (by assumption) ?_
                    try simp only [Act.put, List.setIfInBounds_toArray, List.set_cons_zero, List.set_cons_succ]
                    refine wpAnyH_take (i := 21) (oi := { dst := some 86, op := Op.fieldAddr 49 (Operand.tmp 85) 2, type := 0, pos := "law.go:47", after := #[{ on := 20, ground := Ground.data }, { on := 17, ground := Ground.guard }], guard := some (17, true) }) (v := undef) rfl (by kernel_rfl) (by kernel_rfl) (by kernel_rfl) (fun _ _ _ h => h) (Or.inr ⟨by rfl, rfl⟩) (by assumption) ?_
                    try simp only [Act.put, List.setIfInBounds_toArray, List.set_cons_zero, List.set_cons_succ]
                    refine wpAnyH_take (i := 22) (oi := { dst := some 87, op := Op.load 47 (Operand.tmp 86), type := 47, pos := "law.go:47", after := #[{ on := 21, ground := Ground.data }, { on := 17, ground := Ground.guard }], guard := some (17, true) }) (v := undef) rfl (by kernel_rfl) (by kernel_rfl) (by kernel_rfl) (fun _ _ _ h => h) (Or.inr ⟨by rfl, rfl⟩) (by assumption) ?_
                    try simp only [Act.put, List.setIfInBounds_toArray, List.set_cons_zero, List.set_cons_succ]
                    refine wpAnyH_take (i := 23) (oi := { dst := some 88, op := Op.fieldAddr 46 (Operand.tmp 10) 1, type := 0, pos := "law.go:47", after := #[{ on := 17, ground := Ground.guard }], guard := some (17, true) }) (v := undef) rfl (by kernel_rfl) (by kernel_rfl) (by kernel_rfl) (fun _ _ _ h => h) (Or.inr ⟨by rfl, rfl⟩) (by assumption) ?_
                    try simp only [Act.put, List.setIfInBounds_toArray, List.set_cons_zero, List.set_cons_succ]
                    refine wpAnyH_take (i := 24) (oi := { dst := some 89, op := Op.load 3 (Operand.tmp 88), type := 3, pos := "law.go:47", after := #[{ on := 23, ground := Ground.data }, { on := 17, ground := Ground.guard }], guard := some (17, true) }) (v := undef) rfl (by kernel_rfl) (by kernel_rfl) (by kernel_rfl) (fun _ _ _ h => h) (Or.inr ⟨by rfl, rfl⟩) (by assumption) ?_
                    try simp only [Act.put, List.setIfInBounds_toArray, List.set_cons_zero, List.set_cons_succ]
                    refine wpAnyH_take (i := 25) (oi := { dst := some 90, op := Op.indexAddr 47 (Operand.tmp 87) (Operand.tmp 89), type := 0, pos := "law.go:47", after := #[{ on := 22, ground := Ground.data }, { on := 24, ground := Ground.data }, { on := 17, ground := Ground.guard }], guard := some (17, true) }) (v := undef) rfl (by kernel_rfl) (by kernel_rfl) (by kernel_rfl) (fun _ _ _ h => h) (Or.inr ⟨by rfl, rfl⟩) (by assumption) ?_
                    try simp only [Act.put, List.setIfInBounds_toArray, List.set_cons_zero, List.set_cons_succ]
                    refine wpAnyH_take (i := 26) (oi := { dst := some 91, op := Op.load 30 (Operand.tmp 90), type := 30, pos := "law.go:47", after := #[{ on := 25, ground := Ground.data }, { on := 17, ground := Ground.guard }], guard := some (17, true) }) (v := undef) rfl (by kernel_rfl) (by kernel_rfl) (by kernel_rfl) (fun _ _ _ h => h) (Or.inr ⟨by rfl, rfl⟩) (by assumption) ?_
                    try simp only [Act.put, List.setIfInBounds_toArray, List.set_cons_zero, List.set_cons_succ]
                    refine wpAnyH_take (i := 27) (oi := { dst := some 92, op := Op.call { callee := Callee.value (Operand.func 16), args := #[Operand.tmp 83, Operand.tmp 91], argTypes := #[30, 30] }, type := 4, pos := "law.go:47", after := #[{ on := 18, ground := Ground.data }, { on := 26, ground := Ground.data }, { on := 17, ground := Ground.chain }, { on := 17, ground := Ground.guard }], guard := some (17, true) }) (v := undef) rfl (by kernel_rfl) (by kernel_rfl) (by kernel_rfl) (fun _ _ _ h => h) (Or.inr ⟨by rfl, rfl⟩) (by assumption) ?_
                    try simp only [Act.put, List.setIfInBounds_toArray, List.set_cons_zero, List.set_cons_succ]
                    refine wpAnyH_take (i := 28) (oi := { dst := some 93, op := Op.unOp UnOp.not 4 (Operand.tmp 92), type := 4, pos := "law.go:47", after := #[{ on := 27, ground := Ground.data }, { on := 17, ground := Ground.guard }], guard := some (17, true) }) (v := undef) rfl (by kernel_rfl) (by kernel_rfl) (by kernel_rfl) (fun _ _ _ h => h) (Or.inr ⟨by rfl, rfl⟩) (by assumption) ?_
                    try simp only [Act.put, List.setIfInBounds_toArray, List.set_cons_zero, List.set_cons_succ]
                    refine wpAnyH_take (i := 29) (oi := { dst := some 94, op := Op.pick (Operand.tmp 82) (Operand.tmp 93) (Operand.const (Value.bool false)), type := 4, pos := "law.go:47", after := #[{ on := 17, ground := Ground.data }, { on := 28, ground := Ground.data }, { on := 15, ground := Ground.guard }], guard := some (15, false) }) (v := ?_) rfl (by kernel_rfl) (by kernel_rfl) (by kernel_rfl) (fun _ _ _ h => h) (Or.inl ⟨by rfl, ?_⟩) (by assumption) ?_
                    rotate_left
                    · (intro w hSw; (try dsimp only at hSw); go_simp; try with_reducible rfl)
                    try simp only [Act.put, List.setIfInBounds_toArray, List.set_cons_zero, List.set_cons_succ]
                    refine wpAnyH_take (i := 30) (oi := { dst := some 95, op := Op.pick (Operand.tmp 80) (Operand.const (Value.bool true)) (Operand.tmp 94), type := 4, pos := "law.go:47", after := #[{ on := 15, ground := Ground.data }, { on := 29, ground := Ground.data }], guard := none }) (v := ?_) rfl (by kernel_rfl) (by kernel_rfl) (by kernel_rfl) (fun _ _ _ h => h) (Or.inl ⟨by rfl, ?_⟩) (by assumption) ?_
                    rotate_left
                    · (intro w hSw; (try dsimp only at hSw); go_simp; try with_reducible rfl)
                    try simp only [Act.put, List.setIfInBounds_toArray, List.set_cons_zero, List.set_cons_succ]
                    refine wpAnyH_take (i := 31) (oi := { dst := some 96, op := Op.move (Operand.tmp 95), type := 4, pos := "law.go:47", after := #[{ on := 30, ground := Ground.data }, { on := 27, ground := Ground.chain }], guard := none }) (v := ?_) rfl (by kernel_rfl) (by kernel_rfl) (by kernel_rfl) (fun _ _ _ h => h) (Or.inl ⟨by rfl, ?_⟩) (by assumption) ?_
                    rotate_left
                    · (intro w hSw; (try dsimp only at hSw); go_simp; try with_reducible rfl)
                    try simp only [Act.put, List.setIfInBounds_toArray, List.set_cons_zero, List.set_cons_succ]
                    refine wpAnyH_take (i := 32) (oi := { dst := some 97, op := Op.move (Operand.tmp 12), type := 4, pos := "law.go:47", after := #[{ on := 31, ground := Ground.guard }], guard := some (31, false) }) (v := ?_) rfl (by kernel_rfl) (by kernel_rfl) (by kernel_rfl) (fun _ _ _ h => h) (Or.inl ⟨by rfl, ?_⟩) (by assumption) ?_
                    rotate_left
                    · (intro w hSw; (try dsimp only at hSw); go_simp; try with_reducible rfl)
                    try simp only [Act.put, List.setIfInBounds_toArray, List.set_cons_zero, List.set_cons_succ]
                    refine wpAnyH_take (i := 33) (oi := { dst := some 98, op := Op.unOp UnOp.not 4 (Operand.tmp 97), type := 4, pos := "law.go:47", after := #[{ on := 32, ground := Ground.data }, { on := 31, ground := Ground.guard }], guard := some (31, false) }) (v := ?_) rfl (by kernel_rfl) (by kernel_rfl) (by kernel_rfl) (fun _ _ _ h => h) (Or.inl ⟨by rfl, ?_⟩) (by assumption) ?_
                    rotate_left
                    · (intro w hSw; (try dsimp only at hSw); go_simp; try with_reducible rfl)
                    try simp only [Act.put, List.setIfInBounds_toArray, List.set_cons_zero, List.set_cons_succ]
                    refine wpAnyH_take (i := 34) (oi := { dst := some 99, op := Op.move (Operand.tmp 98), type := 4, pos := "law.go:47", after := #[{ on := 33, ground := Ground.data }, { on := 31, ground := Ground.chain }, { on := 31, ground := Ground.guard }], guard := some (31, false) }) (v := ?_) rfl (by kernel_rfl) (by kernel_rfl) (by kernel_rfl) (fun _ _ _ h => h) (Or.inl ⟨by rfl, ?_⟩) (by assumption) ?_
                    rotate_left
                    · (intro w hSw; (try dsimp only at hSw); go_simp; try with_reducible rfl)
                    try simp only [Act.put, List.setIfInBounds_toArray, List.set_cons_zero, List.set_cons_succ]
                    refine wpAnyH_take (i := 35) (oi := { dst := some 100, op := Op.load 30 (Operand.tmp 11), type := 30, pos := "law.go:47", after := #[{ on := 34, ground := Ground.guard }], guard := some (34, true) }) (v := ?_) rfl (by kernel_rfl) (by kernel_rfl) (by kernel_rfl) (fun _ _ _ h => h) (Or.inl ⟨by rfl, ?_⟩) (by assumption) ?_
                    rotate_left
                    · (intro w hSw; (try dsimp only at hSw); go_simp; try with_reducible rfl)
                    try simp only [Act.put, List.setIfInBounds_toArray, List.set_cons_zero, List.set_cons_succ]
                    refine wpAnyH_take (i := 36) (oi := { dst := some 101, op := Op.build 30 #[], type := 30, pos := "law.go:47", after := #[{ on := 34, ground := Ground.guard }], guard := some (34, true) }) (v := ?_) rfl (by kernel_rfl) (by kernel_rfl) (by kernel_rfl) (fun _ _ _ h => h) (Or.inl ⟨by rfl, ?_⟩) (by assumption) ?_
                    rotate_left
                    · (intro w hSw; (try dsimp only at hSw); go_simp; try with_reducible rfl)
                    try simp only [Act.put, List.setIfInBounds_toArray, List.set_cons_zero, List.set_cons_succ]
                    refine wpAnyH_ready (rs := [37]) (by kernel_rfl) (by simp) ?_
                    refine AllReadyH.cons (o := { dst := some 102, op := Op.call { callee := Callee.value (Operand.func 16), args := #[Operand.tmp 100, Operand.tmp 101], argTypes := #[30, 30] }, type := 4, pos := "law.go:47", after := #[{ on := 35, ground := Ground.data }, { on := 36, ground := Ground.data }, { on := 34, ground := Ground.chain }, { on := 34, ground := Ground.guard }], guard := some (34, true) }) rfl (fun K hK => ?_) AllReadyH.nil
                    go_simp
                    go_at_call 16
                    refine (refSame_any ⟨0, 0, 0, [], 0, false⟩ ⟨0, 0, 0, [], 0, false⟩ none none 0 0 _ (by simp) Reads.none_ Reads.none_).mono ?_
                    rintro e w6 ⟨rfl, hb6⟩
                    have hs6 := hT.keep hb6
                    have hdd : decide ((⟨0, 0, 0, [], 0, false⟩ : Cp) = ⟨0, 0, 0, [], 0, false⟩) = true := decide_eq_true rfl
                    rw [hdd]
                    clear hdd
                    refine hK.out _ _ hs6 (fun hHeld2 => ?_)
                    clear hHeld hK K
                    try simp only [Act.put, List.setIfInBounds_toArray, List.set_cons_zero, List.set_cons_succ]
                    refine wpAnyH_take (i := 38) (oi := { dst := some 103, op := Op.unOp UnOp.not 4 (Operand.tmp 102), type := 4, pos := "law.go:47", after := #[{ on := 37, ground := Ground.data }, { on := 34, ground := Ground.guard }], guard := some (34, true) }) (v := ?_) rfl (by kernel_rfl) (by kernel_rfl) (by kernel_rfl) (fun _ _ _ h => h) (Or.inl ⟨by rfl, ?_⟩) (by assumption) ?_
                    rotate_left
                    · (intro w hSw; (try dsimp only at hSw); go_simp; try with_reducible rfl)
                    try simp only [Act.put, List.setIfInBounds_toArray, List.set_cons_zero, List.set_cons_succ]
                    refine wpAnyH_take (i := 39) (oi := { dst := some 104, op := Op.pick (Operand.tmp 99) (Operand.tmp 103) (Operand.const (Value.bool false)), type := 4, pos := "law.go:47", after := #[{ on := 34, ground := Ground.data }, { on := 38, ground := Ground.data }, { on := 31, ground := Ground.guard }], guard := some (31, false) }) (v := ?_) rfl (by kernel_rfl) (by kernel_rfl) (by kernel_rfl) (fun _ _ _ h => h) (Or.inl ⟨by rfl, ?_⟩) (by assumption) ?_
                    rotate_left
                    · (intro w hSw; (try dsimp only at hSw); go_simp; try with_reducible rfl)
                    try simp only [Act.put, List.setIfInBounds_toArray, List.set_cons_zero, List.set_cons_succ]
                    refine wpAnyH_take (i := 40) (oi := { dst := some 105, op := Op.pick (Operand.tmp 96) (Operand.const (Value.bool true)) (Operand.tmp 104), type := 4, pos := "law.go:47", after := #[{ on := 31, ground := Ground.data }, { on := 39, ground := Ground.data }], guard := none }) (v := ?_) rfl (by kernel_rfl) (by kernel_rfl) (by kernel_rfl) (fun _ _ _ h => h) (Or.inl ⟨by rfl, ?_⟩) (by assumption) ?_
                    rotate_left
                    · (intro w hSw; (try dsimp only at hSw); go_simp; try with_reducible rfl)
                    try simp only [Act.put, List.setIfInBounds_toArray, List.set_cons_zero, List.set_cons_succ]
                    refine wpAnyH_done (by kernel_rfl) ?_ _
                    have HBZ := hide (HB5.out.drew.below hb6)
                    clear hb6 hT s1 s2 s3 z0 z1 z2 z3 z4 z5 hs5 hs6 hHeld2
                    generalize cps = cps2 at HBZ HGZ hle2 ⊢
                    go_wp2_with fail
                    obtain ⟨A2, k2, hs2, _⟩ := HBZ.out.seen
                    have hBd2 := HBZ.out.drew
                    have hs2d := cell_keep hs2 (Below.refl _ _).drew
                    go_region_held3 (fun w' => w'.cell? ⟨w2.heap.size, 2, none⟩ = some (.slice A2 cps2.length k2)) (first | assumption | go_keep)
                      ((go_at_call 14; refine (two_len (by assumption)).mono ?_; rintro r w6 ⟨rfl, hB6, hb6⟩; have hs3 := cell_keep hs2d hb6))
                    have HB6 := hide hB6.forget
                    clear hB6 hb6 hBd2 hs2 hs2d
                    go_wp2_with fail
                    clear hs3
                    have hle3 : cps2.length ≤ 1000 := by omega
                    go_loopw [143] (fun i wq => ∃ j : Nat, j ≤ cps2.length ∧ i = .int .i64 j ∧ Hid (Both w wq w1.heap.size (w1.heap.size + 1) w2.heap.size (w2.heap.size + 1) (roomF room) zs cps2 cps2 (fun _ => False))) (fun i _ => cps2.length - (intOf i).toNat)
                    case atStart => exact ⟨0, Nat.zero_le _, rfl, HB6⟩
                    case round =>
                      obtain ⟨j, hj, rfl, HQ⟩ := hrel
                      by_cases hjl : j < cps2.length
                      · obtain ⟨cc, hcc⟩ : ∃ cc, cps2[j]? = some cc := ⟨_, List.getElem?_eq_getElem hjl⟩
                        have HCC := hide hcc
                        have hcl := (HGZ.out cc (List.mem_of_getElem? hcc)).1
                        clear hcc
                        go_wp2_with fail
                        refine (two_at HQ.out HGZ.out j cc HCC.out).mono ?_
                        rintro r w7 ⟨A7, c7, rfl, ho7, hB7, hb7⟩
                        have HB7 := hide hB7
                        have HO7 := hide ho7
                        clear ho7 hB7 hb7
                        obtain ⟨xl, xf, xt, xb, xr, xs⟩ := cc
                        dsimp only [Cp.val] at HO7 hcl ⊢
                        go_wp2_with fail
                        have hN8 := Blk.new w7 30 #[.int .i64 xl, .int .i64 xf, .int .i64 xt, .slice A7 xb.length c7, .int .i64 xr, .bool xs]
                        have HN8 := hide ((Below.refl w7.heap.size w7).alloc (Nat.le_refl _) (.cells #[.int .i64 xl, .int .i64 xf, .int .i64 xt, .slice A7 xb.length c7, .int .i64 xr, .bool xs] 30))
                        generalize w7.alloc (.cells #[.int .i64 xl, .int .i64 xf, .int .i64 xt, .slice A7 xb.length c7, .int .i64 xr, .bool xs] 30) = W8 at hN8 HN8 ⊢
                        obtain ⟨z0, z1, z2, z3, z4, z5, _⟩ := hN8.cells6
                        have HB8 := hide (HB7.out.below HN8.out)
                        have HO8 := hide ((Keeps.of_below (F := fun _ => False) HN8.out).own HO7.out (fun _ _ h => h))
                        obtain ⟨A2', k2', hs8, hraw⟩ := HB8.out.seen
                        obtain ⟨rb, ro, rA, rc, rfl, ⟨g0, g1, g2, g3, g4, g5⟩, hrd⟩ := hraw j _ HCC.out
                        have HRD := hide hrd
                        dsimp only at g0 g1 g2 g3 g4 g5 HRD
                        clear hraw hrd hN8
                        go_still_tail 11, (by kernel_rfl)
                        go_wp2_with fail
                        refine (refSame_any ⟨xl, xf, xt, xb, xr, xs⟩ ⟨xl, xf, xt, xb, xr, xs⟩ A7 rA c7 rc _ (by show xb.length ≤ _; omega) (Reads.of_own HO8.out).drew HRD.out.drew).mono ?_
                        rintro e w9 ⟨rfl, hb9⟩
                        have hdd : decide ((⟨xl, xf, xt, xb, xr, xs⟩ : Cp) = ⟨xl, xf, xt, xb, xr, xs⟩) = true := decide_eq_true rfl
                        rw [hdd]
                        have HB9 := hide (HB8.out.drew.below hb9)
                        clear hb9 hdd z0 z1 z2 z3 z4 z5 g0 g1 g2 g3 g4 g5 hs8
                        go_wp2_with fail
                        exact ⟨⟨j + 1, by omega, by go_num, HB9⟩, by simp [intOf]; omega⟩
                      · go_wp2_with fail
                        exact ⟨⟨k + 1, cps2, by omega, by go_num, hle2, HGZ, HQ⟩, by simp [intOf]; omega⟩
                · obtain ⟨cc, hcc⟩ : ∃ cc, cps[q]? = some cc := ⟨_, List.getElem?_eq_getElem hq⟩
                  have HCC := hide hcc
                  have hcl := (HG.out cc (List.mem_of_getElem? hcc)).1
                  clear hcc
                  obtain ⟨s1, s2, s3⟩ := hS0
                  go_wp2_with fail
                  refine (two_take1 hB1' HG.out (by omega) q cc HCC.out).mono ?_
                  rintro r w4 ⟨A4, c4, rfl, ho4, hB4, hk4⟩
                  have hb4 := hk4.blk hb1 rfl
                  have HB4 := hide hB4
                  have HO4 := hide ho4
                  have HBK4 := hide hb4
                  clear ho4 hB4 hk4 hB1' hBd hbd hb1 s1 s2 s3 hb4
                  obtain ⟨xl, xf, xt, xb, xr, xs⟩ := cc
                  dsimp only [Cp.val] at HO4 hcl ⊢
                  go_wp2_with fail
                  have hN5 := Blk.new w4 30 #[.int .i64 xl, .int .i64 xf, .int .i64 xt, .slice A4 xb.length c4, .int .i64 xr, .bool xs]
                  have HN5 := hide ((Below.refl w4.heap.size w4).alloc (Nat.le_refl _) (.cells #[.int .i64 xl, .int .i64 xf, .int .i64 xt, .slice A4 xb.length c4, .int .i64 xr, .bool xs] 30))
                  generalize w4.alloc (.cells #[.int .i64 xl, .int .i64 xf, .int .i64 xt, .slice A4 xb.length c4, .int .i64 xr, .bool xs] 30) = W5 at hN5 HN5 ⊢
                  obtain ⟨z0, z1, z2, z3, z4, z5, _⟩ := hN5.cells6
                  have HB5 := hide (HB4.out.below HN5.out)
                  have HO5 := hide ((Keeps.of_below (F := fun _ => False) HN5.out).own HO4.out (fun _ _ h => h))
                  have HBK5 := hide (HBK4.out.below HN5.out HBK4.out.lt)
                  obtain ⟨s1, s2, s3⟩ := act_intS HBK5.out
                  obtain ⟨A2, k2, hs5, hraw⟩ := HB5.out.seen
                  obtain ⟨rb, ro, rA, rc, rfl, ⟨g0, g1, g2, g3, g4, g5⟩, hrd⟩ := hraw q _ HCC.out
                  have HRD := hide hrd
                  dsimp only at g0 g1 g2 g3 g4 g5 HRD
                  clear hraw hrd hN5
                  have hT : TakeS wr.heap.size w4.heap.size w2.heap.size rb (ro + q * 6) (.int .i64 (q : Int)) (.slice (some ⟨rb, ro, none⟩) cps.length k2) (.int .i64 xl) (.int .i64 xf) (.int .i64 xt) (.slice A4 xb.length c4) (.int .i64 xr) (.bool xs) (.int .i64 xl) (.int .i64 xf) (.int .i64 xt) (.slice rA xb.length rc) (.int .i64 xr) (.bool xs) W5.drew := ⟨s1, hs5, z0, z1, z2, z3, z4, z5, g0, g1, g2, g3, g4, g5⟩
                  refine wp_region_held_drew (S := (fun w' => TakeS wr.heap.size w4.heap.size w2.heap.size rb (ro + q * 6) (.int .i64 (q : Int)) (.slice (some ⟨rb, ro, none⟩) cps.length k2) (.int .i64 xl) (.int .i64 xf) (.int .i64 xt) (.slice A4 xb.length c4) (.int .i64 xr) (.bool xs) (.int .i64 xl) (.int .i64 xf) (.int .i64 xt) (.slice rA xb.length rc) (.int .i64 xr) (.bool xs) w')) (by kernel_rfl) hT (fun hHeld => ?_)
                  refine wpAnyH_take (i := 0) (oi := { dst := some 65, op := Op.move (Operand.tmp 12), type := 4, pos := "law.go:47", after := #[], guard := none }) (v := ?_) rfl (by kernel_rfl) (by kernel_rfl) (by kernel_rfl) (fun _ _ _ h => h) (Or.inl ⟨by rfl, ?_⟩) (by assumption) ?_
                  rotate_left
                  · (intro w hSw; (try dsimp only at hSw); go_simp; try with_reducible rfl)
                  try simp only [Act.put, List.setIfInBounds_toArray, List.set_cons_zero, List.set_cons_succ]
                  refine wpAnyH_take (i := 1) (oi := { dst := some 66, op := Op.fieldAddr 46 (Operand.tmp 10) 1, type := 0, pos := "law.go:47", after := #[], guard := none }) (v := ?_) rfl (by kernel_rfl) (by kernel_rfl) (by kernel_rfl) (fun _ _ _ h => h) (Or.inl ⟨by rfl, ?_⟩) (by assumption) ?_
                  rotate_left
                  · (intro w hSw; (try dsimp only at hSw); go_simp; try with_reducible rfl)
                  try simp only [Act.put, List.setIfInBounds_toArray, List.set_cons_zero, List.set_cons_succ]
                  refine wpAnyH_take (i := 2) (oi := { dst := some 67, op := Op.load 3 (Operand.tmp 66), type := 3, pos := "law.go:47", after := #[{ on := 1, ground := Ground.data }], guard := none }) (v := ?_) rfl (by kernel_rfl) (by kernel_rfl) (by kernel_rfl) (fun _ _ _ h => h) (Or.inl ⟨by rfl, ?_⟩) (by assumption) ?_
                  rotate_left
                  · (intro w hSw; (try dsimp only at hSw); go_simp; try with_reducible rfl)
                  try simp only [Act.put, List.setIfInBounds_toArray, List.set_cons_zero, List.set_cons_succ]
                  refine wpAnyH_take (i := 3) (oi := { dst := some 68, op := Op.binOp BinOp.geq 3 (Operand.tmp 67) (Operand.const (Value.int IntKind.i64 0)) 3, type := 4, pos := "law.go:47", after := #[{ on := 2, ground := Ground.data }], guard := none }) (v := ?_) rfl (by kernel_rfl) (by kernel_rfl) (by kernel_rfl) (fun _ _ _ h => h) (Or.inl ⟨by rfl, ?_⟩) (by assumption) ?_
                  rotate_left
                  · (intro w hSw; (try dsimp only at hSw); go_simp; try with_reducible rfl)
                  try simp only [Act.put, List.setIfInBounds_toArray, List.set_cons_zero, List.set_cons_succ]
                  refine wpAnyH_take (i := 4) (oi := { dst := some 69, op := Op.move (Operand.tmp 68), type := 4, pos := "law.go:47", after := #[{ on := 3, ground := Ground.data }], guard := none }) (v := ?_) rfl (by kernel_rfl) (by kernel_rfl) (by kernel_rfl) (fun _ _ _ h => h) (Or.inl ⟨by rfl, ?_⟩) (by assumption) ?_
                  rotate_left
                  · (intro w hSw; (try dsimp only at hSw); go_simp; try with_reducible rfl)
                  try simp only [Act.put, List.setIfInBounds_toArray, List.set_cons_zero, List.set_cons_succ]
                  refine wpAnyH_take (i := 5) (oi := { dst := some 70, op := Op.fieldAddr 46 (Operand.tmp 10) 1, type := 0, pos := "law.go:47", after := #[{ on := 4, ground := Ground.guard }], guard := some (4, true) }) (v := ?_) rfl (by kernel_rfl) (by kernel_rfl) (by kernel_rfl) (fun _ _ _ h => h) (Or.inl ⟨by rfl, ?_⟩) (by assumption) ?_
                  rotate_left
                  · (intro w hSw; (try dsimp only at hSw); go_simp; try with_reducible rfl)
                  try simp only [Act.put, List.setIfInBounds_toArray, List.set_cons_zero, List.set_cons_succ]
                  refine wpAnyH_take (i := 6) (oi := { dst := some 71, op := Op.load 3 (Operand.tmp 70), type := 3, pos := "law.go:47", after := #[{ on := 5, ground := Ground.data }, { on := 4, ground := Ground.guard }], guard := some (4, true) }) (v := ?_) rfl (by kernel_rfl) (by kernel_rfl) (by kernel_rfl) (fun _ _ _ h => h) (Or.inl ⟨by rfl, ?_⟩) (by assumption) ?_
                  rotate_left
                  · (intro w hSw; (try dsimp only at hSw); go_simp; try with_reducible rfl)
                  try simp only [Act.put, List.setIfInBounds_toArray, List.set_cons_zero, List.set_cons_succ]
                  refine wpAnyH_take (i := 7) (oi := { dst := some 72, op := Op.move (Operand.tmp 8), type := 43, pos := "law.go:47", after := #[{ on := 4, ground := Ground.guard }], guard := some (4, true) }) (v := ?_) rfl (by kernel_rfl) (by kernel_rfl) (by kernel_rfl) (fun _ _ _ h => h) (Or.inl ⟨by rfl, ?_⟩) (by assumption) ?_
                  rotate_left
                  · (intro w hSw; (try dsimp only at hSw); go_simp; try with_reducible rfl)
                  try simp only [Act.put, List.setIfInBounds_toArray, List.set_cons_zero, List.set_cons_succ]
                  refine wpAnyH_take (i := 8) (oi := { dst := some 73, op := Op.nilCheck (Operand.tmp 72), type := 0, pos := "law.go:47", after := #[{ on := 7, ground := Ground.data }, { on := 4, ground := Ground.guard }], guard := some (4, true) }) (v := ?_) rfl (by kernel_rfl) (by kernel_rfl) (by kernel_rfl) (fun _ _ _ h => h) (Or.inl ⟨by rfl, ?_⟩) (by assumption) ?_
                  rotate_left
                  · (intro w hSw; (try dsimp only at hSw); go_simp; try with_reducible rfl)
                  try simp only [Act.put, List.setIfInBounds_toArray, List.set_cons_zero, List.set_cons_succ]
                  refine wpAnyH_take (i := 9) (oi := { dst := some 74, op := Op.fieldAddr 49 (Operand.tmp 73) 2, type := 0, pos := "law.go:47", after := #[{ on := 8, ground := Ground.data }, { on := 4, ground := Ground.guard }], guard := some (4, true) }) (v := ?_) rfl (by kernel_rfl) (by kernel_rfl) (by kernel_rfl) (fun _ _ _ h => h) (Or.inl ⟨by rfl, ?_⟩) (by assumption) ?_
                  rotate_left
                  · (intro w hSw; (try dsimp only at hSw); go_simp; try with_reducible rfl)
                  try simp only [Act.put, List.setIfInBounds_toArray, List.set_cons_zero, List.set_cons_succ]
                  refine wpAnyH_take (i := 10) (oi := { dst := some 75, op := Op.load 47 (Operand.tmp 74), type := 47, pos := "law.go:47", after := #[{ on := 9, ground := Ground.data }, { on := 4, ground := Ground.guard }], guard := some (4, true) }) (v := ?_) rfl (by kernel_rfl) (by kernel_rfl) (by kernel_rfl) (fun _ _ _ h => h) (Or.inl ⟨by rfl, ?_⟩) (by assumption) ?_
                  rotate_left
                  · (intro w hSw; (try dsimp only at hSw); go_simp; try with_reducible rfl)
                  try simp only [Act.put, List.setIfInBounds_toArray, List.set_cons_zero, List.set_cons_succ]
                  refine wpAnyH_take (i := 11) (oi := { dst := some 76, op := Op.call { callee := Callee.builtin Builtin.len, args := #[Operand.tmp 75], argTypes := #[47] }, type := 3, pos := "law.go:47", after := #[{ on := 10, ground := Ground.data }, { on := 4, ground := Ground.guard }], guard := some (4, true) }) (v := ?_) rfl (by kernel_rfl) (by kernel_rfl) (by kernel_rfl) (fun _ _ _ h => h) (Or.inl ⟨by rfl, ?_⟩) (by assumption) ?_
                  rotate_left
                  · (intro w hSw; (try dsimp only at hSw); go_simp; try with_reducible rfl)
                  try simp only [Act.put, List.setIfInBounds_toArray, List.set_cons_zero, List.set_cons_succ]
                  refine wpAnyH_take (i := 12) (oi := { dst := some 77, op := Op.binOp BinOp.lss 3 (Operand.tmp 71) (Operand.tmp 76) 3, type := 4, pos := "law.go:47", after := #[{ on := 6, ground := Ground.data }, { on := 11, ground := Ground.data }, { on := 4, ground := Ground.guard }], guard := some (4, true) }) (v := ?_) rfl (by kernel_rfl) (by kernel_rfl) (by kernel_rfl) (fun _ _ _ h => h) (Or.inl ⟨by rfl, ?_⟩) (by assumption) ?_
                  rotate_left
                  · (intro w hSw; (try dsimp only at hSw); go_simp; try with_reducible rfl)
                  try simp only [Act.put, List.setIfInBounds_toArray, List.set_cons_zero, List.set_cons_succ]
                  refine wpAnyH_take (i := 13) (oi := { dst := some 78, op := Op.pick (Operand.tmp 69) (Operand.tmp 77) (Operand.const (Value.bool false)), type := 4, pos := "law.go:47", after := #[{ on := 4, ground := Ground.data }, { on := 12, ground := Ground.data }], guard := none }) (v := ?_) rfl (by kernel_rfl) (by kernel_rfl) (by kernel_rfl) (fun _ _ _ h => h) (Or.inl ⟨by rfl, ?_⟩) (by assumption) ?_
                  rotate_left
                  · (intro w hSw; (try dsimp only at hSw); go_simp; try with_reducible rfl)
                  try simp only [Act.put, List.setIfInBounds_toArray, List.set_cons_zero, List.set_cons_succ]
                  refine wpAnyH_take (i := 14) (oi := { dst := some 79, op := Op.binOp BinOp.neq 4 (Operand.tmp 65) (Operand.tmp 78) 4, type := 4, pos := "law.go:47", after := #[{ on := 0, ground := Ground.data }, { on := 13, ground := Ground.data }], guard := none }) (v := ?_) rfl (by kernel_rfl) (by kernel_rfl) (by kernel_rfl) (fun _ _ _ h => h) (Or.inl ⟨by rfl, ?_⟩) (by assumption) ?_
                  rotate_left
                  · (intro w hSw; (try dsimp only at hSw); go_simp; try with_reducible rfl)
                  try simp only [Act.put, List.setIfInBounds_toArray, List.set_cons_zero, List.set_cons_succ]
                  refine wpAnyH_take (i := 15) (oi := { dst := some 80, op := Op.move (Operand.tmp 79), type := 4, pos := "law.go:47", after := #[{ on := 14, ground := Ground.data }, { on := 4, ground := Ground.chain }], guard := none }) (v := ?_) rfl (by kernel_rfl) (by kernel_rfl) (by kernel_rfl) (fun _ _ _ h => h) (Or.inl ⟨by rfl, ?_⟩) (by assumption) ?_
                  rotate_left
                  · (intro w hSw; (try dsimp only at hSw); go_simp; try with_reducible rfl)
                  try simp only [Act.put, List.setIfInBounds_toArray, List.set_cons_zero, List.set_cons_succ]
                  refine wpAnyH_take (i := 16) (oi := { dst := some 81, op := Op.move (Operand.tmp 12), type := 4, pos := "law.go:47", after := #[{ on := 15, ground := Ground.guard }], guard := some (15, false) }) (v := ?_) rfl (by kernel_rfl) (by kernel_rfl) (by kernel_rfl) (fun _ _ _ h => h) (Or.inl ⟨by rfl, ?_⟩) (by assumption) ?_
                  rotate_left
                  · (intro w hSw; (try dsimp only at hSw); go_simp; try with_reducible rfl)
                  try simp only [Act.put, List.setIfInBounds_toArray, List.set_cons_zero, List.set_cons_succ]
                  refine wpAnyH_take (i := 17) (oi := { dst := some 82, op := Op.move (Operand.tmp 81), type := 4, pos := "law.go:47", after := #[{ on := 16, ground := Ground.data }, { on := 15, ground := Ground.chain }, { on := 15, ground := Ground.guard }], guard := some (15, false) }) (v := ?_) rfl (by kernel_rfl) (by kernel_rfl) (by kernel_rfl) (fun _ _ _ h => h) (Or.inl ⟨by rfl, ?_⟩) (by assumption) ?_
                  rotate_left
                  · (intro w hSw; (try dsimp only at hSw); go_simp; try with_reducible rfl)
                  try simp only [Act.put, List.setIfInBounds_toArray, List.set_cons_zero, List.set_cons_succ]
                  refine wpAnyH_take (i := 18) (oi := { dst := some 83, op := Op.load 30 (Operand.tmp 11), type := 30, pos := "law.go:47", after := #[{ on := 17, ground := Ground.guard }], guard := some (17, true) }) (v := ?_) rfl (by kernel_rfl) (by kernel_rfl) (by kernel_rfl) (fun _ _ _ h => h) (Or.inl ⟨by rfl, ?_⟩) (by assumption) ?_
                  rotate_left
                  · (intro w hSw; (try dsimp only at hSw); go_simp; try with_reducible rfl)
                  try simp only [Act.put, List.setIfInBounds_toArray, List.set_cons_zero, List.set_cons_succ]
                  refine wpAnyH_take (i := 19) (oi := { dst := some 84, op := Op.move (Operand.tmp 8), type := 43, pos := "law.go:47", after := #[{ on := 17, ground := Ground.guard }], guard := some (17, true) }) (v := ?_) rfl (by kernel_rfl) (by kernel_rfl) (by kernel_rfl) (fun _ _ _ h => h) (Or.inl ⟨by rfl, ?_⟩) (by assumption) ?_
                  rotate_left
                  · (intro w hSw; (try dsimp only at hSw); go_simp; try with_reducible rfl)
                  try simp only [Act.put, List.setIfInBounds_toArray, List.set_cons_zero, List.set_cons_succ]
                  refine wpAnyH_take (i := 20) (oi := { dst := some 85, op := Op.nilCheck (Operand.tmp 84), type := 0, pos := "law.go:47", after := #[{ on := 19, ground := Ground.data }, { on := 17, ground := Ground.guard }], guard := some (17, true) }) (v := ?_) rfl (by kernel_rfl) (by kernel_rfl) (by kernel_rfl) (fun _ _ _ h => h) (Or.inl ⟨by rfl, ?_⟩) (by assumption) ?_
                  rotate_left
                  · (intro w hSw; (try dsimp only at hSw); go_simp; try with_reducible rfl)
                  try simp only [Act.put, List.setIfInBounds_toArray, List.set_cons_zero, List.set_cons_succ]
                  refine wpAnyH_take (i := 21) (oi := { dst := some 86, op := Op.fieldAddr 49 (Operand.tmp 85) 2, type := 0, pos := "law.go:47", after := #[{ on := 20, ground := Ground.data }, { on := 17, ground := Ground.guard }], guard := some (17, true) }) (v := ?_) rfl (by kernel_rfl) (by kernel_rfl) (by kernel_rfl) (fun _ _ _ h => h) (Or.inl ⟨by rfl, ?_⟩) (by assumption) ?_
                  rotate_left
                  · (intro w hSw; (try dsimp only at hSw); go_simp; try with_reducible rfl)
                  try simp only [Act.put, List.setIfInBounds_toArray, List.set_cons_zero, List.set_cons_succ]
                  refine wpAnyH_take (i := 22) (oi := { dst := some 87, op := Op.load 47 (Operand.tmp 86), type := 47, pos := "law.go:47", after := #[{ on := 21, ground := Ground.data }, { on := 17, ground := Ground.guard }], guard := some (17, true) }) (v := ?_) rfl (by kernel_rfl) (by kernel_rfl) (by kernel_rfl) (fun _ _ _ h => h) (Or.inl ⟨by rfl, ?_⟩) (by assumption) ?_
                  rotate_left
                  · (intro w hSw; (try dsimp only at hSw); go_simp; try with_reducible rfl)
                  try simp only [Act.put, List.setIfInBounds_toArray, List.set_cons_zero, List.set_cons_succ]
                  refine wpAnyH_take (i := 23) (oi := { dst := some 88, op := Op.fieldAddr 46 (Operand.tmp 10) 1, type := 0, pos := "law.go:47", after := #[{ on := 17, ground := Ground.guard }], guard := some (17, true) }) (v := ?_) rfl (by kernel_rfl) (by kernel_rfl) (by kernel_rfl) (fun _ _ _ h => h) (Or.inl ⟨by rfl, ?_⟩) (by assumption) ?_
                  rotate_left
                  · (intro w hSw; (try dsimp only at hSw); go_simp; try with_reducible rfl)
                  try simp only [Act.put, List.setIfInBounds_toArray, List.set_cons_zero, List.set_cons_succ]
                  refine wpAnyH_take (i := 24) (oi := { dst := some 89, op := Op.load 3 (Operand.tmp 88), type := 3, pos := "law.go:47", after := #[{ on := 23, ground := Ground.data }, { on := 17, ground := Ground.guard }], guard := some (17, true) }) (v := ?_) rfl (by kernel_rfl) (by kernel_rfl) (by kernel_rfl) (fun _ _ _ h => h) (Or.inl ⟨by rfl, ?_⟩) (by assumption) ?_
                  rotate_left
                  · (intro w hSw; (try dsimp only at hSw); go_simp; try with_reducible rfl)
                  try simp only [Act.put, List.setIfInBounds_toArray, List.set_cons_zero, List.set_cons_succ]
                  refine wpAnyH_take (i := 25) (oi := { dst := some 90, op := Op.indexAddr 47 (Operand.tmp 87) (Operand.tmp 89), type := 0, pos := "law.go:47", after := #[{ on := 22, ground := Ground.data }, { on := 24, ground := Ground.data }, { on := 17, ground := Ground.guard }], guard := some (17, true) }) (v := ?_) rfl (by kernel_rfl) (by kernel_rfl) (by kernel_rfl) (fun _ _ _ h => h) (Or.inl ⟨by rfl, ?_⟩) (by assumption) ?_
                  rotate_left
                  · (intro w hSw; (try dsimp only at hSw); go_simp; try with_reducible rfl)
                  try simp only [Act.put, List.setIfInBounds_toArray, List.set_cons_zero, List.set_cons_succ]
                  refine wpAnyH_take (i := 26) (oi := { dst := some 91, op := Op.load 30 (Operand.tmp 90), type := 30, pos := "law.go:47", after := #[{ on := 25, ground := Ground.data }, { on := 17, ground := Ground.guard }], guard := some (17, true) }) (v := ?_) rfl (by kernel_rfl) (by kernel_rfl) (by kernel_rfl) (fun _ _ _ h => h) (Or.inl ⟨by rfl, ?_⟩) (by assumption) ?_
                  rotate_left
                  · (intro w hSw; (try dsimp only at hSw); go_simp; try with_reducible rfl)
                  try simp only [Act.put, List.setIfInBounds_toArray, List.set_cons_zero, List.set_cons_succ]
                  refine wpAnyH_ready (rs := [27]) (by kernel_rfl) (by simp) ?_
                  refine AllReadyH.cons (o := { dst := some 92, op := Op.call { callee := Callee.value (Operand.func 16), args := #[Operand.tmp 83, Operand.tmp 91], argTypes := #[30, 30] }, type := 4, pos := "law.go:47", after := #[{ on := 18, ground := Ground.data }, { on := 26, ground := Ground.data }, { on := 17, ground := Ground.chain }, { on := 17, ground := Ground.guard }], guard := some (17, true) }) rfl (fun K hK => ?_) AllReadyH.nil
                  go_simp
                  go_at_call 16
                  refine (refSame_any ⟨xl, xf, xt, xb, xr, xs⟩ ⟨xl, xf, xt, xb, xr, xs⟩ A4 rA c4 rc _ (by show xb.length ≤ _; omega) (Reads.of_own HO5.out).drew HRD.out.drew).mono ?_
                  rintro e w6 ⟨rfl, hb6⟩
                  have hs6 := hT.keep hb6
                  have hdd : decide ((⟨xl, xf, xt, xb, xr, xs⟩ : Cp) = ⟨xl, xf, xt, xb, xr, xs⟩) = true := decide_eq_true rfl
                  rw [hdd]
                  clear hdd
                  refine hK.out _ _ hs6 (fun hHeld2 => ?_)
                  clear hHeld hK K
                  try simp only [Act.put, List.setIfInBounds_toArray, List.set_cons_zero, List.set_cons_succ]
                  refine wpAnyH_take (i := 28) (oi := { dst := some 93, op := Op.unOp UnOp.not 4 (Operand.tmp 92), type := 4, pos := "law.go:47", after := #[{ on := 27, ground := Ground.data }, { on := 17, ground := Ground.guard }], guard := some (17, true) }) (v := ?_) rfl (by kernel_rfl) (by kernel_rfl) (by kernel_rfl) (fun _ _ _ h => h) (Or.inl ⟨by rfl, ?_⟩) (by assumption) ?_
                  rotate_left
                  · (intro w hSw; (try dsimp only at hSw); go_simp; try with_reducible rfl)
                  try simp only [Act.put, List.setIfInBounds_toArray, List.set_cons_zero, List.set_cons_succ]
                  refine wpAnyH_take (i := 29) (oi := { dst := some 94, op := Op.pick (Operand.tmp 82) (Operand.tmp 93) (Operand.const (Value.bool false)), type := 4, pos := "law.go:47", after := #[{ on := 17, ground := Ground.data }, { on := 28, ground := Ground.data }, { on := 15, ground := Ground.guard }], guard := some (15, false) }) (v := ?_) rfl (by kernel_rfl) (by kernel_rfl) (by kernel_rfl) (fun _ _ _ h => h) (Or.inl ⟨by rfl, ?_⟩) (by assumption) ?_
                  rotate_left
                  · (intro w hSw; (try dsimp only at hSw); go_simp; try with_reducible rfl)
                  try simp only [Act.put, List.setIfInBounds_toArray, List.set_cons_zero, List.set_cons_succ]
                  refine wpAnyH_take (i := 30) (oi := { dst := some 95, op := Op.pick (Operand.tmp 80) (Operand.const (Value.bool true)) (Operand.tmp 94), type := 4, pos := "law.go:47", after := #[{ on := 15, ground := Ground.data }, { on := 29, ground := Ground.data }], guard := none }) (v := ?_) rfl (by kernel_rfl) (by kernel_rfl) (by kernel_rfl) (fun _ _ _ h => h) (Or.inl ⟨by rfl, ?_⟩) (by assumption) ?_
                  rotate_left
                  · (intro w hSw; (try dsimp only at hSw); go_simp; try with_reducible rfl)
                  try simp only [Act.put, List.setIfInBounds_toArray, List.set_cons_zero, List.set_cons_succ]
                  refine wpAnyH_take (i := 31) (oi := { dst := some 96, op := Op.move (Operand.tmp 95), type := 4, pos := "law.go:47", after := #[{ on := 30, ground := Ground.data }, { on := 27, ground := Ground.chain }], guard := none }) (v := ?_) rfl (by kernel_rfl) (by kernel_rfl) (by kernel_rfl) (fun _ _ _ h => h) (Or.inl ⟨by rfl, ?_⟩) (by assumption) ?_
                  rotate_left
                  · (intro w hSw; (try dsimp only at hSw); go_simp; try with_reducible rfl)
                  try simp only [Act.put, List.setIfInBounds_toArray, List.set_cons_zero, List.set_cons_succ]
                  refine wpAnyH_take (i := 32) (oi := { dst := some 97, op := Op.move (Operand.tmp 12), type := 4, pos := "law.go:47", after := #[{ on := 31, ground := Ground.guard }], guard := some (31, false) }) (v := ?_) rfl (by kernel_rfl) (by kernel_rfl) (by kernel_rfl) (fun _ _ _ h => h) (Or.inl ⟨by rfl, ?_⟩) (by assumption) ?_
                  rotate_left
                  · (intro w hSw; (try dsimp only at hSw); go_simp; try with_reducible rfl)
                  try simp only [Act.put, List.setIfInBounds_toArray, List.set_cons_zero, List.set_cons_succ]
                  refine wpAnyH_take (i := 33) (oi := { dst := some 98, op := Op.unOp UnOp.not 4 (Operand.tmp 97), type := 4, pos := "law.go:47", after := #[{ on := 32, ground := Ground.data }, { on := 31, ground := Ground.guard }], guard := some (31, false) }) (v := ?_) rfl (by kernel_rfl) (by kernel_rfl) (by kernel_rfl) (fun _ _ _ h => h) (Or.inl ⟨by rfl, ?_⟩) (by assumption) ?_
                  rotate_left
                  · (intro w hSw; (try dsimp only at hSw); go_simp; try with_reducible rfl)
                  try simp only [Act.put, List.setIfInBounds_toArray, List.set_cons_zero, List.set_cons_succ]
                  refine wpAnyH_take (i := 34) (oi := { dst := some 99, op := Op.move (Operand.tmp 98), type := 4, pos := "law.go:47", after := #[{ on := 33, ground := Ground.data }, { on := 31, ground := Ground.chain }, { on := 31, ground := Ground.guard }], guard := some (31, false) }) (v := ?_) rfl (by kernel_rfl) (by kernel_rfl) (by kernel_rfl) (fun _ _ _ h => h) (Or.inl ⟨by rfl, ?_⟩) (by assumption) ?_
                  rotate_left
                  · (intro w hSw; (try dsimp only at hSw); go_simp; try with_reducible rfl)
                  try simp only [Act.put, List.setIfInBounds_toArray, List.set_cons_zero, List.set_cons_succ]
                  refine wpAnyH_take (i := 35) (oi := { dst := some 100, op := Op.load 30 (Operand.tmp 11), type := 30, pos := "law.go:47", after := #[{ on := 34, ground := Ground.guard }], guard := some (34, true) }) (v := undef) rfl (by kernel_rfl) (by kernel_rfl) (by kernel_rfl) (fun _ _ _ h => h) (Or.inr ⟨by rfl, rfl⟩) (by assumption) ?_
                  try simp only [Act.put, List.setIfInBounds_toArray, List.set_cons_zero, List.set_cons_succ]
                  refine wpAnyH_take (i := 36) (oi := { dst := some 101, op := Op.build 30 #[], type := 30, pos := "law.go:47", after := #[{ on := 34, ground := Ground.guard }], guard := some (34, true) }) (v := undef) rfl (by kernel_rfl) (by kernel_rfl) (by kernel_rfl) (fun _ _ _ h => h) (Or.inr ⟨by rfl, rfl⟩) (by assumption) ?_
                  try simp only [Act.put, List.setIfInBounds_toArray, List.set_cons_zero, List.set_cons_succ]
                  refine wpAnyH_take (i := 37) (oi := { dst := some 102, op := Op.call { callee := Callee.value (Operand.func 16), args := #[Operand.tmp 100, Operand.tmp 101], argTypes := #[30, 30] }, type := 4, pos := "law.go:47", after := #[{ on := 35, ground := Ground.data }, { on := 36, ground := Ground.data }, { on := 34, ground := Ground.chain }, { on := 34, ground := Ground.guard }], guard := some (34, true) }) (v := undef) rfl (by kernel_rfl) (by kernel_rfl) (by kernel_rfl) (fun _ _ _ h => h) (Or.inr ⟨by rfl, rfl⟩) (by assumption) ?_
                  try simp only [Act.put, List.setIfInBounds_toArray, List.set_cons_zero, List.set_cons_succ]
                  refine wpAnyH_take (i := 38) (oi := { dst := some 103, op := Op.unOp UnOp.not 4 (Operand.tmp 102), type := 4, pos := "law.go:47", after := #[{ on := 37, ground := Ground.data }, { on := 34, ground := Ground.guard }], guard := some (34, true) }) (v := undef) rfl (by kernel_rfl) (by kernel_rfl) (by kernel_rfl) (fun _ _ _ h => h) (Or.inr ⟨by rfl, rfl⟩) (by assumption) ?_
                  try simp only [Act.put, List.setIfInBounds_toArray, List.set_cons_zero, List.set_cons_succ]
                  refine wpAnyH_take (i := 39) (oi := { dst := some 104, op := Op.pick (Operand.tmp 99) (Operand.tmp 103) (Operand.const (Value.bool false)), type := 4, pos := "law.go:47", after := #[{ on := 34, ground := Ground.data }, { on := 38, ground := Ground.data }, { on := 31, ground := Ground.guard }], guard := some (31, false) }) (v := ?_) rfl (by kernel_rfl) (by kernel_rfl) (by kernel_rfl) (fun _ _ _ h => h) (Or.inl ⟨by rfl, ?_⟩) (by assumption) ?_
                  rotate_left
                  · (intro w hSw; (try dsimp only at hSw); go_simp; try with_reducible rfl)
                  try simp only [Act.put, List.setIfInBounds_toArray, List.set_cons_zero, List.set_cons_succ]
                  refine wpAnyH_take (i := 40) (oi := { dst := some 105, op := Op.pick (Operand.tmp 96) (Operand.const (Value.bool true)) (Operand.tmp 104), type := 4, pos := "law.go:47", after := #[{ on := 31, ground := Ground.data }, { on := 39, ground := Ground.data }], guard := none }) (v := ?_) rfl (by kernel_rfl) (by kernel_rfl) (by kernel_rfl) (fun _ _ _ h => h) (Or.inl ⟨by rfl, ?_⟩) (by assumption) ?_
                  rotate_left
                  · (intro w hSw; (try dsimp only at hSw); go_simp; try with_reducible rfl)
                  try simp only [Act.put, List.setIfInBounds_toArray, List.set_cons_zero, List.set_cons_succ]
                  refine wpAnyH_done (by kernel_rfl) ?_ _
                  obtain ⟨t1, _⟩ := hHeld2
                  have HB6 := hide (HB5.out.drew.below hb6)
                  clear hb6 hT s1 s2 s3 z0 z1 z2 z3 z4 z5 g0 g1 g2 g3 g4 g5 hs5 hs6
                  go_wp2_with fail
                  refine (two_take2 HB6.out (by omega) q).mono ?_
                  rintro r w7 ⟨rfl, hB7, hk7⟩
                  have hHG := HG.out.erase q
                  have hle2 : (cps.eraseIdx q).length ≤ (k + 1) * 16 := by have := List.length_eraseIdx_le cps q; omega
                  have HBZ := hide hB7
                  have HGZ := hide hHG
                  clear hB7 hk7 hHG t1
                  generalize cps.eraseIdx q = cps2 at HBZ HGZ hle2 ⊢
                  go_wp2_with fail
                  obtain ⟨A2, k2, hs2, _⟩ := HBZ.out.seen
                  have hBd2 := HBZ.out.drew
                  have hs2d := cell_keep hs2 (Below.refl _ _).drew
                  go_region_held3 (fun w' => w'.cell? ⟨w2.heap.size, 2, none⟩ = some (.slice A2 cps2.length k2)) (first | assumption | go_keep)
                    ((go_at_call 14; refine (two_len (by assumption)).mono ?_; rintro r w6 ⟨rfl, hB6, hb6⟩; have hs3 := cell_keep hs2d hb6))
                  have HB6 := hide hB6.forget
                  clear hB6 hb6 hBd2 hs2 hs2d
                  go_wp2_with fail
                  clear hs3
                  have hle3 : cps2.length ≤ 1000 := by omega
                  go_loopw [143] (fun i wq => ∃ j : Nat, j ≤ cps2.length ∧ i = .int .i64 j ∧ Hid (Both w wq w1.heap.size (w1.heap.size + 1) w2.heap.size (w2.heap.size + 1) (roomF room) zs cps2 cps2 (fun _ => False))) (fun i _ => cps2.length - (intOf i).toNat)
                  case atStart => exact ⟨0, Nat.zero_le _, rfl, HB6⟩
                  case round =>
                    obtain ⟨j, hj, rfl, HQ⟩ := hrel
                    by_cases hjl : j < cps2.length
                    · obtain ⟨cc, hcc⟩ : ∃ cc, cps2[j]? = some cc := ⟨_, List.getElem?_eq_getElem hjl⟩
                      have HCC := hide hcc
                      have hcl := (HGZ.out cc (List.mem_of_getElem? hcc)).1
                      clear hcc
                      go_wp2_with fail
                      refine (two_at HQ.out HGZ.out j cc HCC.out).mono ?_
                      rintro r w7 ⟨A7, c7, rfl, ho7, hB7, hb7⟩
                      have HB7 := hide hB7
                      have HO7 := hide ho7
                      clear ho7 hB7 hb7
                      obtain ⟨xl, xf, xt, xb, xr, xs⟩ := cc
                      dsimp only [Cp.val] at HO7 hcl ⊢
                      go_wp2_with fail
                      have hN8 := Blk.new w7 30 #[.int .i64 xl, .int .i64 xf, .int .i64 xt, .slice A7 xb.length c7, .int .i64 xr, .bool xs]
                      have HN8 := hide ((Below.refl w7.heap.size w7).alloc (Nat.le_refl _) (.cells #[.int .i64 xl, .int .i64 xf, .int .i64 xt, .slice A7 xb.length c7, .int .i64 xr, .bool xs] 30))
                      generalize w7.alloc (.cells #[.int .i64 xl, .int .i64 xf, .int .i64 xt, .slice A7 xb.length c7, .int .i64 xr, .bool xs] 30) = W8 at hN8 HN8 ⊢
                      obtain ⟨z0, z1, z2, z3, z4, z5, _⟩ := hN8.cells6
                      have HB8 := hide (HB7.out.below HN8.out)
                      have HO8 := hide ((Keeps.of_below (F := fun _ => False) HN8.out).own HO7.out (fun _ _ h => h))
                      obtain ⟨A2', k2', hs8, hraw⟩ := HB8.out.seen
                      obtain ⟨rb, ro, rA, rc, rfl, ⟨g0, g1, g2, g3, g4, g5⟩, hrd⟩ := hraw j _ HCC.out
                      have HRD := hide hrd
                      dsimp only at g0 g1 g2 g3 g4 g5 HRD
                      clear hraw hrd hN8
                      go_still_tail 11, (by kernel_rfl)
                      go_wp2_with fail
                      refine (refSame_any ⟨xl, xf, xt, xb, xr, xs⟩ ⟨xl, xf, xt, xb, xr, xs⟩ A7 rA c7 rc _ (by show xb.length ≤ _; omega) (Reads.of_own HO8.out).drew HRD.out.drew).mono ?_
                      rintro e w9 ⟨rfl, hb9⟩
                      have hdd : decide ((⟨xl, xf, xt, xb, xr, xs⟩ : Cp) = ⟨xl, xf, xt, xb, xr, xs⟩) = true := decide_eq_true rfl
                      rw [hdd]
                      have HB9 := hide (HB8.out.drew.below hb9)
                      clear hb9 hdd z0 z1 z2 z3 z4 z5 g0 g1 g2 g3 g4 g5 hs8
                      go_wp2_with fail
                      exact ⟨⟨j + 1, by omega, by go_num, HB9⟩, by simp [intOf]; omega⟩
                    · go_wp2_with fail
                      exact ⟨⟨k + 1, cps2, by omega, by go_num, hle2, HGZ, HQ⟩, by simp [intOf]; omega⟩
              · have d1 : (kind == 1) = false := by simpa using hk1
                by_cases hk2 : kind = 2
                · have d2 : (kind == 2) = true := by simpa using hk2
                  clear hk0 hk1 hk2
                  go_wp2_with fail
                  have hB1' := (HX1 (.cells #[.int .i64 kind, .int .i64 ii, .int .i64 ia, .int .i64 ib, .int .i64 lan, .int .i64 frm, .int .i64 to, .slice Ab bs.length cb] 46)).out
                  have hb1 := Blk.new wr 46 #[.int .i64 kind, .int .i64 ii, .int .i64 ia, .int .i64 ib, .int .i64 lan, .int .i64 frm, .int .i64 to, .slice Ab bs.length cb]
                  generalize wr.alloc (.cells #[.int .i64 kind, .int .i64 ii, .int .i64 ia, .int .i64 ib, .int .i64 lan, .int .i64 frm, .int .i64 to, .slice Ab bs.length cb] 46) = W1 at hB1' hb1 ⊢
                  have hBd := hB1'.drew
                  have hbd := hb1.drew
                  clear e0 e1 e2 e3 e4 e5 e6 e7
                  have hS0 := act_intS hb1
                  go_region_held3 (fun w' => IntS wr.heap.size ii ia ib w') (first | assumption | ((repeat' apply And.intro) <;> first | assumption | go_keep))
                    (first
                      | (go_at_call 12; refine (two_spoil1 (by assumption) HG.out (by omega) ii ia ib).mono ?_; rintro r w4 ⟨rfl, hB4, hk4⟩; have hb4 := hk4.blk hbd rfl; have hS2 := act_intS hb4)
                      | (go_at_call 20; refine (two_spoil2 (by assumption) HG.out (by omega) ii ia ib).mono ?_; rintro r w5 ⟨rfl, hB5, hk5⟩; have hb5 := hk5.blk hb4 rfl; have hS3 := act_intS hb5))
                  have hHG := HG.out.spoilF ii ia ib
                  have hle2 : (spoilF ii ia ib cps).2.length ≤ (k + 1) * 16 := by
                    have h1 := spoilF_length ii ia ib cps
                    omega
                  have HBZ := hide hB5
                  have HGZ := hide hHG
                  clear hB5 hb5 hb4 hk4 hk5 hB4 hbd hBd hb1 hB1' hS0 hS2 hS3 hHG
                  generalize (spoilF ii ia ib cps).2 = cps2 at HBZ HGZ hle2 ⊢
                  go_wp2_with fail
                  obtain ⟨A2, k2, hs2, _⟩ := HBZ.out.seen
                  have hBd2 := HBZ.out.drew
                  have hs2d := cell_keep hs2 (Below.refl _ _).drew
                  go_region_held3 (fun w' => w'.cell? ⟨w2.heap.size, 2, none⟩ = some (.slice A2 cps2.length k2)) (first | assumption | go_keep)
                    ((go_at_call 14; refine (two_len (by assumption)).mono ?_; rintro r w6 ⟨rfl, hB6, hb6⟩; have hs3 := cell_keep hs2d hb6))
                  have HB6 := hide hB6.forget
                  clear hB6 hb6 hBd2 hs2 hs2d
                  go_wp2_with fail
                  clear hs3
                  have hle3 : cps2.length ≤ 1000 := by omega
                  go_loopw [143] (fun i wq => ∃ j : Nat, j ≤ cps2.length ∧ i = .int .i64 j ∧ Hid (Both w wq w1.heap.size (w1.heap.size + 1) w2.heap.size (w2.heap.size + 1) (roomF room) zs cps2 cps2 (fun _ => False))) (fun i _ => cps2.length - (intOf i).toNat)
                  case atStart => exact ⟨0, Nat.zero_le _, rfl, HB6⟩
                  case round =>
                    obtain ⟨j, hj, rfl, HQ⟩ := hrel
                    by_cases hjl : j < cps2.length
                    · obtain ⟨cc, hcc⟩ : ∃ cc, cps2[j]? = some cc := ⟨_, List.getElem?_eq_getElem hjl⟩
                      have HCC := hide hcc
                      have hcl := (HGZ.out cc (List.mem_of_getElem? hcc)).1
                      clear hcc
                      go_wp2_with fail
                      refine (two_at HQ.out HGZ.out j cc HCC.out).mono ?_
                      rintro r w7 ⟨A7, c7, rfl, ho7, hB7, hb7⟩
                      have HB7 := hide hB7
                      have HO7 := hide ho7
                      clear ho7 hB7 hb7
                      obtain ⟨xl, xf, xt, xb, xr, xs⟩ := cc
                      dsimp only [Cp.val] at HO7 hcl ⊢
                      go_wp2_with fail
                      have hN8 := Blk.new w7 30 #[.int .i64 xl, .int .i64 xf, .int .i64 xt, .slice A7 xb.length c7, .int .i64 xr, .bool xs]
                      have HN8 := hide ((Below.refl w7.heap.size w7).alloc (Nat.le_refl _) (.cells #[.int .i64 xl, .int .i64 xf, .int .i64 xt, .slice A7 xb.length c7, .int .i64 xr, .bool xs] 30))
                      generalize w7.alloc (.cells #[.int .i64 xl, .int .i64 xf, .int .i64 xt, .slice A7 xb.length c7, .int .i64 xr, .bool xs] 30) = W8 at hN8 HN8 ⊢
                      obtain ⟨z0, z1, z2, z3, z4, z5, _⟩ := hN8.cells6
                      have HB8 := hide (HB7.out.below HN8.out)
                      have HO8 := hide ((Keeps.of_below (F := fun _ => False) HN8.out).own HO7.out (fun _ _ h => h))
                      obtain ⟨A2', k2', hs8, hraw⟩ := HB8.out.seen
                      obtain ⟨rb, ro, rA, rc, rfl, ⟨g0, g1, g2, g3, g4, g5⟩, hrd⟩ := hraw j _ HCC.out
                      have HRD := hide hrd
                      dsimp only at g0 g1 g2 g3 g4 g5 HRD
                      clear hraw hrd hN8
                      go_still_tail 11, (by kernel_rfl)
                      go_wp2_with fail
                      refine (refSame_any ⟨xl, xf, xt, xb, xr, xs⟩ ⟨xl, xf, xt, xb, xr, xs⟩ A7 rA c7 rc _ (by show xb.length ≤ _; omega) (Reads.of_own HO8.out).drew HRD.out.drew).mono ?_
                      rintro e w9 ⟨rfl, hb9⟩
                      have hdd : decide ((⟨xl, xf, xt, xb, xr, xs⟩ : Cp) = ⟨xl, xf, xt, xb, xr, xs⟩) = true := decide_eq_true rfl
                      rw [hdd]
                      have HB9 := hide (HB8.out.drew.below hb9)
                      clear hb9 hdd z0 z1 z2 z3 z4 z5 g0 g1 g2 g3 g4 g5 hs8
                      go_wp2_with fail
                      exact ⟨⟨j + 1, by omega, by go_num, HB9⟩, by simp [intOf]; omega⟩
                    · go_wp2_with fail
                      exact ⟨⟨k + 1, cps2, by omega, by go_num, hle2, HGZ, HQ⟩, by simp [intOf]; omega⟩
                · have d2 : (kind == 2) = false := by simpa using hk2
                  clear hk0 hk1 hk2
                  go_wp2_with fail
                  have hB1' := (HX1 (.cells #[.int .i64 kind, .int .i64 ii, .int .i64 ia, .int .i64 ib, .int .i64 lan, .int .i64 frm, .int .i64 to, .slice Ab bs.length cb] 46)).out
                  have hb1 := Blk.new wr 46 #[.int .i64 kind, .int .i64 ii, .int .i64 ia, .int .i64 ib, .int .i64 lan, .int .i64 frm, .int .i64 to, .slice Ab bs.length cb]
                  generalize wr.alloc (.cells #[.int .i64 kind, .int .i64 ii, .int .i64 ia, .int .i64 ib, .int .i64 lan, .int .i64 frm, .int .i64 to, .slice Ab bs.length cb] 46) = W1 at hB1' hb1 ⊢
                  have hBd := hB1'.drew
                  have hbd := hb1.drew
                  clear e0 e1 e2 e3 e4 e5 e6 e7
                  have hle2 : cps.length ≤ (k + 1) * 16 := by omega
                  have HBZ := hide hB1'
                  have HGZ := HG
                  clear hbd hBd hb1 hB1'
                  generalize cps = cps2 at HBZ HGZ hle2 ⊢
                  obtain ⟨A2, k2, hs2, _⟩ := HBZ.out.seen
                  have hBd2 := HBZ.out.drew
                  have hs2d := cell_keep hs2 (Below.refl _ _).drew
                  go_region_held3 (fun w' => w'.cell? ⟨w2.heap.size, 2, none⟩ = some (.slice A2 cps2.length k2)) (first | assumption | go_keep)
                    ((go_at_call 14; refine (two_len (by assumption)).mono ?_; rintro r w6 ⟨rfl, hB6, hb6⟩; have hs3 := cell_keep hs2d hb6))
                  have HB6 := hide hB6.forget
                  clear hB6 hb6 hBd2 hs2 hs2d
                  go_wp2_with fail
                  clear hs3
                  have hle3 : cps2.length ≤ 1000 := by omega
                  go_loopw [143] (fun i wq => ∃ j : Nat, j ≤ cps2.length ∧ i = .int .i64 j ∧ Hid (Both w wq w1.heap.size (w1.heap.size + 1) w2.heap.size (w2.heap.size + 1) (roomF room) zs cps2 cps2 (fun _ => False))) (fun i _ => cps2.length - (intOf i).toNat)
                  case atStart => exact ⟨0, Nat.zero_le _, rfl, HB6⟩
                  case round =>
                    obtain ⟨j, hj, rfl, HQ⟩ := hrel
                    by_cases hjl : j < cps2.length
                    · obtain ⟨cc, hcc⟩ : ∃ cc, cps2[j]? = some cc := ⟨_, List.getElem?_eq_getElem hjl⟩
                      have HCC := hide hcc
                      have hcl := (HGZ.out cc (List.mem_of_getElem? hcc)).1
                      clear hcc
                      go_wp2_with fail
                      refine (two_at HQ.out HGZ.out j cc HCC.out).mono ?_
                      rintro r w7 ⟨A7, c7, rfl, ho7, hB7, hb7⟩
                      have HB7 := hide hB7
                      have HO7 := hide ho7
                      clear ho7 hB7 hb7
                      obtain ⟨xl, xf, xt, xb, xr, xs⟩ := cc
                      dsimp only [Cp.val] at HO7 hcl ⊢
                      go_wp2_with fail
                      have hN8 := Blk.new w7 30 #[.int .i64 xl, .int .i64 xf, .int .i64 xt, .slice A7 xb.length c7, .int .i64 xr, .bool xs]
                      have HN8 := hide ((Below.refl w7.heap.size w7).alloc (Nat.le_refl _) (.cells #[.int .i64 xl, .int .i64 xf, .int .i64 xt, .slice A7 xb.length c7, .int .i64 xr, .bool xs] 30))
                      generalize w7.alloc (.cells #[.int .i64 xl, .int .i64 xf, .int .i64 xt, .slice A7 xb.length c7, .int .i64 xr, .bool xs] 30) = W8 at hN8 HN8 ⊢
                      obtain ⟨z0, z1, z2, z3, z4, z5, _⟩ := hN8.cells6
                      have HB8 := hide (HB7.out.below HN8.out)
                      have HO8 := hide ((Keeps.of_below (F := fun _ => False) HN8.out).own HO7.out (fun _ _ h => h))
                      obtain ⟨A2', k2', hs8, hraw⟩ := HB8.out.seen
                      obtain ⟨rb, ro, rA, rc, rfl, ⟨g0, g1, g2, g3, g4, g5⟩, hrd⟩ := hraw j _ HCC.out
                      have HRD := hide hrd
                      dsimp only at g0 g1 g2 g3 g4 g5 HRD
                      clear hraw hrd hN8
                      go_still_tail 11, (by kernel_rfl)
                      go_wp2_with fail
                      refine (refSame_any ⟨xl, xf, xt, xb, xr, xs⟩ ⟨xl, xf, xt, xb, xr, xs⟩ A7 rA c7 rc _ (by show xb.length ≤ _; omega) (Reads.of_own HO8.out).drew HRD.out.drew).mono ?_
                      rintro e w9 ⟨rfl, hb9⟩
                      have hdd : decide ((⟨xl, xf, xt, xb, xr, xs⟩ : Cp) = ⟨xl, xf, xt, xb, xr, xs⟩) = true := decide_eq_true rfl
                      rw [hdd]
                      have HB9 := hide (HB8.out.drew.below hb9)
                      clear hb9 hdd z0 z1 z2 z3 z4 z5 g0 g1 g2 g3 g4 g5 hs8
                      go_wp2_with fail
                      exact ⟨⟨j + 1, by omega, by go_num, HB9⟩, by simp [intOf]; omega⟩
                    · go_wp2_with fail
                      exact ⟨⟨k + 1, cps2, by omega, by go_num, hle2, HGZ, HQ⟩, by simp [intOf]; omega⟩
        · have HBQ := HB
          obtain ⟨vv, hbox⟩ := HBQ.out.on1
          obtain ⟨Ao, co, hon, hrd⟩ := HBQ.out.on2
          have HBX := hide hbox.drew
          have hond := cell_keep hon (Below.refl _ _).drew
          have HRD := hide hrd.drew
          clear hbox hrd
          go_wp2_with fail
          go_region_held3 (fun w' => w'.cell? ⟨w2.heap.size, 1, none⟩ = some (.slice Ao (onL (onF zs) 16).length co)) (first | assumption | go_keep)
            (first
              | (go_at_call 22; refine (on_any w1.heap.size (roomF room) (onF zs) vv _ HBX.out).mono ?_; rintro r w4 ⟨A4, c4, rfl, ho4, hb4⟩; have hs4 := cell_keep hond hb4)
              | (go_at_call 21; refine (ints_any A4 (onL (onF zs) 16).length c4 (onL (onF zs) 16) Ao (onL (onF zs) 16).length co (onL (onF zs) 16) _ (by have := onL_le (onF zs) 16; omega) (Reads.of_own ho4) ((HRD.out.below hb4).more hb4.size)).mono ?_; rintro r w5 ⟨rfl, hb5⟩; have hs5 := cell_keep hs4 hb5))
          have HF := hide (below0 (below0 HBQ.out.drew.frame hb4) hb5)
          clear hb4 hb5 hs4 hs5 ho4
          go_wp2_with fail
          go_ret
          exact ⟨ret_bool (by simp), HF.out⟩
end Go.Proofs.Ytldanafbaadgoaa
