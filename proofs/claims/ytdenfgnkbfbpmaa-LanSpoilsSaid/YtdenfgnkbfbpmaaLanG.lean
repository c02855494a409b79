/-
  (*lan.Lan).Spoil.
-/
import Derived.Test.YtdenfgnkbfbpmaaLanF
import Derived.StillTailTactics
namespace Go.Proofs.Ytdenfgnkbfbpmaa
open Go.RowKit

theorem modulo_same (n m : Int) (hm : 0 < m) (hm2 : m ≤ 1000000) (w : World) : Calls Try.prog 33 #[.int .i64 n, .int .i64 m] w fun r w' => r = .returned (.int .i64 (n % m)) ∧ w' = w := by
  have h1 := Int.tmod_lt_of_pos n hm
  have h2 := Int.lt_tmod_of_pos n hm
  have H := hide (tmod_pos n m)
  go_enter Try.func33, Try.ntmps33
  go_wp2
  go_ret
  exact ⟨ret_int H.out, rfl⟩

/-- a copy of which a byte is spoilt -/
def spoilB (at_ by_ : Int) (bs : List Int) : List Int := bs.set (at_ % bs.length).toNat ((bs.getD (at_ % bs.length).toNat 0 + by_ % 256) % 256)
def spoilC (at_ by_ : Int) (c : CpO) : CpO := { c with bs := spoilB at_ by_ c.bs, sp := true }
theorem spoilB_length (at_ by_ : Int) (bs : List Int) : (spoilB at_ by_ bs).length = bs.length := by simp [spoilB]

set_option maxRecDepth 20000 in
set_option maxHeartbeats 2000000 in
theorem spoil_nil (i a b : Int) (w : World) : Calls Try.prog 10 #[.pointer none, .int .i64 i, .int .i64 a, .int .i64 b] w fun r w' => r = .returned (.bool false) ∧ Below w.heap.size w w' := by
  go_enter Try.func10, Try.ntmps10
  go_wp2_with fail
  refine (at_nil i _).mono ?_
  rintro e w2 ⟨rfl, hb2⟩
  have HB := hide hb2
  clear hb2
  go_wp2_with fail
  go_ret
  exact ⟨rfl, HB.out.alloc HB.out.size _⟩

set_option maxRecDepth 20000 in
set_option maxHeartbeats 2000000 in
theorem spoil_out (F : Nat → Prop) (pl base : Nat) (room : Int) (on : Nat → Bool) (l : List Raw) (A : Option Addr) (c : Nat) (i a b : Int) (w : World) (h : LanRep w F pl base room on l A c) (hi : i < 0 ∨ (l.length : Int) ≤ i) :
    Calls Try.prog 10 #[.pointer (some ⟨pl, 0, none⟩), .int .i64 i, .int .i64 a, .int .i64 b] w fun r w' => r = .returned (.bool false) ∧ Below w.heap.size w w' := by
  have HI := hide hi
  have Hh := hide h
  clear hi h
  go_enter Try.func10, Try.ntmps10
  go_wp2_with fail
  refine (at_out F pl base room on l A c i _ Hh.out HI.out).mono ?_
  rintro e w2 ⟨rfl, hb2⟩
  have HB := hide hb2
  clear hb2
  go_wp2_with fail
  go_ret
  exact ⟨rfl, HB.out.alloc HB.out.size _⟩

set_option maxRecDepth 20000 in
set_option maxHeartbeats 2000000 in
theorem spoil_no (F : Nat → Prop) (pl base : Nat) (room : Int) (on : Nat → Bool) (l : List Raw) (A : Option Addr) (c : Nat) (k : Nat) (r : Raw) (a b : Int) (w : World) (h : LanRep w F pl base room on l A c) (hk : l[k]? = some r) (hn : r.cp.bs.length ≤ 100000)
    (hno : r.cp.sp = true ∨ r.cp.sp = false ∧ r.cp.bs.length = 0 ∨ r.cp.sp = false ∧ 0 < r.cp.bs.length ∧ b % 256 = 0) :
    Calls Try.prog 10 #[.pointer (some ⟨pl, 0, none⟩), .int .i64 (k : Int), .int .i64 a, .int .i64 b] w fun r w' => r = .returned (.bool false) ∧ Below w.heap.size w w' := by
  obtain ⟨⟨lan, frm, to, bs, for_, sp⟩, A1, c1⟩ := r
  have HK := hide hk
  have Hh := hide h
  have HL := hide hn
  clear hk h hn
  dsimp only at hno
  go_enter Try.func10, Try.ntmps10
  go_wp2_with fail
  refine (at_in F pl base room on l A c k _ _ Hh.out HK.out HL.out).mono ?_
  rintro e w2 ⟨A2, c2, rfl, ho2, hb2⟩
  have HB := hide hb2
  clear hb2 ho2
  rcases hno with rfl | ⟨rfl, h0⟩ | ⟨rfl, h0, h1⟩
  · go_wp2_with fail
    go_ret
    exact ⟨rfl, HB.out.alloc HB.out.size _⟩
  · have b0 : ((bs.length : Int) == 0) = true := by simpa using h0
    clear h0
    dsimp only at b0 ⊢
    go_wp2_with fail
    go_ret
    exact ⟨rfl, HB.out.alloc HB.out.size _⟩
  · have b0 : ((bs.length : Int) == 0) = false := by simp; intro e; simp [e] at h0
    have H1 := hide h1
    clear h0 h1
    dsimp only at b0 ⊢
    go_wp2_with fail
    refine (modulo_same b 256 (by omega) (by omega) _).mono ?_
    rintro e w3 ⟨rfl, rfl⟩
    rw [H1.out]
    go_wp2_with fail
    go_ret
    exact ⟨rfl, HB.out.alloc HB.out.size _⟩
theorem layL_lengthO (cs : List Value) (o : Nat) (vs : List Value) (h : o + vs.length ≤ cs.length) : (layLO cs o vs).length = cs.length := by simp [layLO]; omega
theorem layL_takeO (cs : List Value) (o : Nat) (vs : List Value) (n : Nat) (h : o + vs.length ≤ n) (hn : n ≤ cs.length) : (layLO cs o vs).take n = layLO (cs.take n) o vs := by
  obtain ⟨q, rfl⟩ : ∃ q, n = o + vs.length + q := ⟨n - (o + vs.length), by omega⟩
  unfold layLO
  rw [List.take_take, Nat.min_eq_left (by omega), List.append_assoc, List.append_assoc, List.take_append, List.length_take, Nat.min_eq_left (by omega), List.take_of_length_le (by rw [List.length_take]; omega), List.take_append,
    List.take_of_length_le (l := vs) (by omega), show o + vs.length + q - o - vs.length = q by omega, List.drop_take, show o + vs.length + q - (o + vs.length) = q by omega]
theorem rawsC_set (l : List Raw) (k : Nat) (r : Raw) (hk : k < l.length) : layLO (rawsC l) (k * 6) r.cells = rawsC (l.set k r) := by
  have e : l.set k r = l.take k ++ ([r] ++ l.drop (k + 1)) := by rw [List.set_eq_take_append_cons_drop, if_pos hk]; rfl
  have e2 : rawsC l = rawsC (l.take (k + 1)) ++ rawsC (l.drop (k + 1)) := by rw [← rawsC_append, List.take_append_drop]
  have e3 : (rawsC [r]) = r.cells := by simp [rawsC]
  have hc : r.cells.length = 6 := rfl
  rw [e, rawsC_append, rawsC_append, e3]
  unfold layLO
  rw [rawsC_take l k (by omega), List.append_assoc, hc]
  congr 2
  rw [e2, List.drop_append_of_le_length (by rw [rawsC_length, List.length_take]; omega), List.drop_of_length_le (by rw [rawsC_length, List.length_take]; omega)]
  rfl

theorem LanRep.setAt {w : World} {F : Nat → Prop} {pl base : Nat} {room : Int} {on : Nat → Bool} {l : List Raw} {g c k : Nat} (h : LanRep w F pl base room on l (some ⟨g, 0, none⟩) c) (hk : k < l.length) (r : Raw) (hr : w.ownsRow base 5 1 r.sl r.cp.bs.length (u8sO r.cp.bs)) (hrF : ∀ x, r.sl.ownBlock = some x → ¬ F x) :
    LanRep (w.setCells g (k * 6) r.cells) (fun x => F x ∨ r.sl.ownBlock = some x) pl base room on (l.set k r) (some ⟨g, 0, none⟩) c := by
  have hgF : F g := h.hrow g rfl
  have hgb := (own_baseO h.own (g := g) rfl).1
  have hK := Keeps.setCellsO (F := fun x => x = g) rfl r.cells (k * 6) _ (Keeps.refl (fun x => x = g) w)
  have hll : (l.set k r).length = l.length := List.length_set ..
  have hpl := h.plb
  refine ⟨?_, ?_, ?_, .inl h.hpl, ?_, ?_, h.plb, ?_, ?_⟩
  · rw [hll]; exact hK.blk h.box (by show ¬ pl = g; omega)
  · rw [hll]
    rcases h.own.2 with ⟨h0, _⟩ | ⟨g', cap', cur, h0, hb, hh, h1, h2, h3, h4⟩
    · cases h0
    · simp only [Value.slice.injEq, Option.some.injEq, Addr.mk.injEq, and_true, true_and] at h0
      obtain ⟨rfl, rfl⟩ := h0
      have hcl : r.cells.length = 6 := rfl
      have hsz : k * 6 + r.cells.length ≤ cur.size := by rw [hcl, h3]; omega
      have hb2 := Blk.setCellsO r.cells (k * 6) w cur hh hsz
      refine ⟨by rw [rawsC_length, hll], .inr ⟨g, c, _, rfl, hb, hb2, h1, h2, ?_, ?_⟩⟩
      · rw [List.size_toArray, layL_lengthO _ _ _ (by simpa using hsz)]; simpa using h3
      · rw [layL_takeO _ _ _ _ (by rw [hcl]; omega) (by simp; omega), h4]
        exact rawsC_set l k r hk
  · intro r' hr'
    rcases List.mem_or_eq_of_mem_set hr' with hm | rfl
    · refine hK.own (h.byt r' hm) (fun x hx => ?_)
      rcases own_typesO (h.byt r' hm) h.own (by decide) with e | e
      · rw [e] at hx; cases hx
      · rintro rfl; exact e hx
    · refine hK.own hr (fun x hx => ?_)
      rintro rfl
      exact hrF _ hx hgF
  · intro x hx
    exact .inl (h.hrow x (by rw [← hll]; exact hx))
  · intro r' hr' x hx
    rcases List.mem_or_eq_of_mem_set hr' with hm | rfl
    · exact .inl (h.hbyt r' hm x hx)
    · exact .inr hx
  · intro x hx
    rcases hx with hx | hx
    · exact Nat.lt_of_lt_of_le (h.lt x hx) hK.size
    · exact Nat.lt_of_lt_of_le (own_baseO hr hx).2 hK.size
  · exact Nat.le_trans h.bz hK.size

set_option maxRecDepth 20000 in
set_option maxHeartbeats 2000000 in
theorem spoil_yes (F : Nat → Prop) (pl base : Nat) (room : Int) (on : Nat → Bool) (l : List Raw) (A : Option Addr) (c : Nat) (k : Nat) (r : Raw) (a b : Int) (w : World) (h : LanRep w F pl base room on l A c) (hk : l[k]? = some r) (hn : r.cp.bs.length ≤ 100000) (hl : l.length ≤ 200000)
    (h1 : r.cp.sp = false) (h2 : 0 < r.cp.bs.length) (h3 : b % 256 ≠ 0) :
    Calls Try.prog 10 #[.pointer (some ⟨pl, 0, none⟩), .int .i64 (k : Int), .int .i64 a, .int .i64 b] w fun e w' => e = .returned (.bool true) ∧ LanAt w F pl base room on ((l.map (·.cp)).set k (spoilC a b r.cp)) w' := by
  have hkl : k < l.length := (List.getElem?_eq_some_iff.1 hk).1
  obtain ⟨g, rfl⟩ : ∃ g, A = some ⟨g, 0, none⟩ := by
    obtain ⟨g, cap, e, _⟩ := h.own.form (by omega)
    injection e with e
    exact ⟨g, e⟩
  obtain ⟨⟨lan, frm, to, bs, for_, sp⟩, A1, c1⟩ := r
  have HK := hide hk
  have Hh := hide h
  have HL := hide hn
  dsimp only at h1 h2 h3
  have hn' : bs.length ≤ 100000 := hn
  subst h1
  have b0 : ((bs.length : Int) == 0) = false := by simp; intro e; simp [e] at h2
  have b1 : (b % 256 == 0) = false := by simpa using h3
  have hq1 := Int.emod_nonneg a (b := (bs.length : Int)) (by omega)
  have hq2 := Int.emod_lt_of_pos a (b := (bs.length : Int)) (by omega)
  obtain ⟨q, hq⟩ : ∃ q : Nat, a % (bs.length : Int) = q := ⟨(a % (bs.length : Int)).toNat, by omega⟩
  have HQ := hide hq
  rw [hq] at hq1 hq2
  have hql : q < bs.length := by omega
  have H3 := hide h3
  have H2 := hide h2
  clear hk h hn h3 h2 hq1 hq2 hq
  go_enter Try.func10, Try.ntmps10
  go_wp2_with fail
  refine (at_in F pl base room on l _ c k _ _ Hh.out HK.out HL.out).mono ?_
  rintro e w2 ⟨A2, c2, rfl, ho2, hb2⟩
  have HB := hide hb2
  have HO := hide ho2
  clear hb2 ho2
  dsimp only at b0 ⊢
  go_wp2_with fail
  refine (modulo_same b 256 (by omega) (by omega) _).mono ?_
  rintro e w3 ⟨rfl, rfl⟩
  go_wp2_with fail
  obtain ⟨g2, hA2, hg2, hg2'⟩ : ∃ g2, A2 = some ⟨g2, 0, none⟩ ∧ w.heap.size ≤ g2 ∧ g2 < w2.heap.size := by
    obtain ⟨g2, cap, e, h1, h2⟩ := HO.out.form H2.out
    injection e with e
    exact ⟨g2, e, h1, h2⟩
  subst hA2
  have HN := hide (Blk.new w2 48 #[.int .i64 lan, .int .i64 frm, .int .i64 to, .slice (some ⟨g2, 0, none⟩) bs.length c2, .int .i64 for_, .bool true])
  have HA := hide ((Below.refl w2.heap.size w2).alloc (Nat.le_refl _) (.cells #[.int .i64 lan, .int .i64 frm, .int .i64 to, .slice (some ⟨g2, 0, none⟩) bs.length c2, .int .i64 for_, .bool true] 48))
  have hz3 : w2.heap.size < (w2.alloc (.cells #[.int .i64 lan, .int .i64 frm, .int .i64 to, .slice (some ⟨g2, 0, none⟩) bs.length c2, .int .i64 for_, .bool true] 48)).heap.size := by simp
  generalize w2.alloc (.cells #[.int .i64 lan, .int .i64 frm, .int .i64 to, .slice (some ⟨g2, 0, none⟩) bs.length c2, .int .i64 for_, .bool true] 48) = W3 at HN HA hz3 ⊢
  have HO3 := hide ((Keeps.of_below (F := fun _ => False) HA.out).own HO.out (fun _ _ h => h))
  have HR3 := hide ((Hh.out.below HB.out).below HA.out)
  obtain ⟨z, hz⟩ : ∃ z, bs[q]? = some z := ⟨_, List.getElem?_eq_getElem hql⟩
  have HZ := hide hz
  have cq : W3.cell? ⟨g2, q, none⟩ = some (.int .u8 z) := by
    rw [HO3.out.cellAt q (by simpa using hql), u8sO, List.getElem?_map, hz]; rfl
  have fq : W3.frozen? ⟨g2, q, none⟩ = false := HO3.out.frozenAt q
  have c3 : W3.cell? ⟨w2.heap.size, 3, none⟩ = some (.slice (some ⟨g2, 0, none⟩) bs.length c2) := HN.out.cell 3
  clear hz
  refine wp_region_still_tail 16 (by kernel_rfl) (by kernel_rfl) ?_
  simp only [List.take_succ_cons, List.take_zero, List.drop_succ_cons, List.drop_zero]
  repeat still_step
  still_call (modulo_same a bs.length (by omega) (by omega) _)
  rw [HQ.out]
  repeat still_step
  still_call (modulo_same b 256 (by omega) (by omega) _)
  repeat still_step
  refine wpStill_nil ?_
  go_wp2_with fail
  obtain ⟨hown5, hgr5⟩ := HO3.out.stored q (.int .u8 ((z + b % 256) % 256))
  have hg2F : ¬ F g2 := fun hf => absurd (Hh.out.lt _ hf) (by omega)
  have hw2F : ¬ F w2.heap.size := fun hf => absurd (Hh.out.lt _ hf) (by have := HB.out.size; omega)
  have hK5 : Keeps (fun x => x = g2) W3 (W3.setCell ⟨g2, q, none⟩ (.int .u8 ((z + b % 256) % 256))).drew := ((Keeps.refl _ _).grown hgr5 (fun x hx => .inl (by cases hx; rfl))).drew
  have ho5 : (W3.setCell ⟨g2, q, none⟩ (.int .u8 ((z + b % 256) % 256))).drew.ownsRow w.heap.size 5 1 (.slice (some ⟨g2, 0, none⟩) bs.length c2) bs.length ((u8sO bs).set q (.int .u8 ((z + b % 256) % 256))) := hown5
  clear hown5 hgr5
  generalize (W3.setCell ⟨g2, q, none⟩ (.int .u8 ((z + b % 256) % 256))).drew = W5 at hK5 ho5 ⊢
  have hR5 := HR3.out.keep hK5 (fun x hx e => hg2F (e ▸ hx))
  have hn5 := hK5.blk HN.out (by show ¬ w2.heap.size = g2; omega)
  have hpl5 : W5.cell? ⟨pl, 17, none⟩ = some (.slice (some ⟨g, 0, none⟩) l.length c) := hR5.box.cell 17
  obtain ⟨b', off', x, hA', _, hx, hat⟩ := (Reads.of_own hR5.own).raw_at hkl
  simp only [Option.some.injEq, Addr.mk.injEq, and_true] at hA'
  obtain ⟨rfl, rfl⟩ := hA'
  rw [Nat.zero_add] at hat
  obtain ⟨r0, r1, r2, r3, r4, r5⟩ := hat
  have fr : ∀ i, W5.frozen? ⟨g, i, none⟩ = false := hR5.own.frozenAt
  obtain ⟨k0, k1, k2, k3, k4, k5, f0⟩ := hn5.cells6
  have HR5 := hide hR5
  have HK5 := hide (((Keeps.of_below (F := F) (below0 HB.out HA.out))).trans hK5 (fun x hx => .inr (by cases hx; exact hg2)))
  have HO5 := hide ho5
  clear hx hR5 ho5 hK5 hn5 cq fq c3
  go_still_tail 7, (by kernel_rfl)
  go_wp2_with fail
  go_ret
  refine ⟨rfl, ?_⟩
  have hsl : (spoilB a b bs).length = bs.length := spoilB_length _ _ _
  have hsp : (u8sO bs).set q (.int .u8 ((z + b % 256) % 256)) = u8sO (spoilB a b bs) := by
    unfold spoilB u8sO
    rw [HQ.out, Int.toNat_natCast, List.getD_eq_getElem?_getD, HZ.out, List.map_set]
    rfl
  have hr : W5.ownsRow base 5 1 (Raw.sl ⟨spoilC a b ⟨lan, frm, to, bs, for_, false⟩, some ⟨g2, 0, none⟩, c2⟩) (spoilB a b bs).length (u8sO (spoilB a b bs)) := by
    have := own_monoO HO5.out Hh.out.bz
    rw [hsp] at this
    simp only [Raw.sl, spoilC, hsl]
    exact this
  have hR6 := HR5.out.setAt hkl ⟨spoilC a b ⟨lan, frm, to, bs, for_, false⟩, some ⟨g2, 0, none⟩, c2⟩ hr (fun x hx hf => by
    have : g2 = x := by simpa [Raw.sl, Value.ownBlock] using hx
    exact hg2F (this ▸ hf))
  have hK6 := Keeps.setCellsO (F := F) (Hh.out.hrow g rfl) (Raw.cells ⟨spoilC a b ⟨lan, frm, to, bs, for_, false⟩, some ⟨g2, 0, none⟩, c2⟩) (k * 6) _ HK5.out
  have e6 : W5.setCells g (k * 6) (Raw.cells ⟨spoilC a b ⟨lan, frm, to, bs, for_, false⟩, some ⟨g2, 0, none⟩, c2⟩) = (((((W5.setCell ⟨g, k * 6, none⟩ (.int .i64 lan)).setCell ⟨g, k * 6 + 1, none⟩ (.int .i64 frm)).setCell ⟨g, k * 6 + 2, none⟩ (.int .i64 to)).setCell ⟨g, k * 6 + 3, none⟩ (.slice (some ⟨g2, 0, none⟩) bs.length c2)).setCell ⟨g, k * 6 + 4, none⟩ (.int .i64 for_)).setCell ⟨g, k * 6 + 5, none⟩ (.bool true) := by
    simp only [Raw.cells, spoilC, hsl]
    rfl
  rw [e6] at hR6 hK6
  refine ⟨_, _, _, _, hR6.drewN 1, ?_, ?_, hK6.drew⟩
  · rw [List.map_set]
  · intro x hx
    rcases hx with hx | hx
    · exact .inl hx
    · have : g2 = x := by simpa [Raw.sl, Value.ownBlock] using hx
      exact .inr (this ▸ hg2)
end Go.Proofs.Ytdenfgnkbfbpmaa
