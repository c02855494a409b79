/-
  (*syndicref24.Lan).Take and Spoil.
-/
import Derived.Test.YtldanafbaadgoaaO
namespace Go.Proofs.Ytldanafbaadgoaa
open Go.RowKit

theorem RefRep.setL {w : World} {F : Nat → Prop} {pl base : Nat} {room : Int} {ids : List Int} {Ao : Option Addr} {co : Nat} {l l' : List Raw} {A A' : Option Addr} {c c' : Nat} (h : RefRep w F pl base room ids Ao co l A c)
    (hown : w.ownsRow base 30 6 (.slice A' l'.length c') l'.length (rawsC l')) (hsub : ∀ r ∈ l', r ∈ l) :
    RefRep (w.setCell ⟨pl, 2, none⟩ (.slice A' l'.length c')) (fun g => F g ∨ (Value.slice A' l'.length c').ownBlock = some g) pl base room ids Ao co l' A' c' := by
  have hsz : (w.setCell ⟨pl, 2, none⟩ (.slice A' l'.length c')).heap.size = w.heap.size := by simp [World.setCell]
  refine ⟨?_, ownsRow_setCell_below h.on (a := ⟨pl, 2, none⟩) h.plb _, ownsRow_setCell_below hown (a := ⟨pl, 2, none⟩) h.plb _, fun r hr => ownsRow_setCell_below (h.byt r (hsub r hr)) (a := ⟨pl, 2, none⟩) h.plb _, .inl h.hpl, fun g hg => .inl (h.hon g hg), fun g hg => .inr hg, fun r hr g hg => .inl (h.hbyt r (hsub r hr) g hg), h.plb, ?_, ?_⟩
  · have h2 := h.box.set_ 2 (.slice A' l'.length c')
    have e : (refCells room (.slice Ao ids.length co) (.slice A l.length c)).setIfInBounds 2 (.slice A' l'.length c') = refCells room (.slice Ao ids.length co) (.slice A' l'.length c') := by simp [refCells]
    rw [← e]
    exact h2
  · intro g hg
    rw [hsz]
    rcases hg with hg | hg
    · exact h.lt g hg
    · exact (own_base hown hg).2
  · rw [hsz]; exact h.bz

theorem erase_snoc (l : List Raw) (k i : Nat) (r : Raw) (h : l[k]? = some r) : (l.take (k + 1)).eraseIdx i = (l.take k).eraseIdx i ++ if k = i then [] else [r] := by
  have hk : k < l.length := (List.getElem?_eq_some_iff.1 h).1
  have hl : (l.take k).length = k := by rw [List.length_take]; omega
  rw [take_snoc _ _ _ h]
  by_cases h1 : i < k
  · rw [List.eraseIdx_append_of_lt_length (by omega), if_neg (by omega)]
  · rw [List.eraseIdx_append_of_length_le (by omega), hl, List.eraseIdx_of_length_le (l := l.take k) (by omega)]
    by_cases h2 : k = i
    · subst h2; simp
    · rw [if_neg h2, List.eraseIdx_of_length_le (by simp; omega)]

set_option maxHeartbeats 4000000 in
theorem refTake_any (F : Nat → Prop) (pl base : Nat) (room : Int) (ids : List Int) (Ao : Option Addr) (co : Nat) (l : List Raw) (A : Option Addr) (c : Nat) (i : Nat) (w : World)
    (h : RefRep w F pl base room ids Ao co l A c) (hl : l.length ≤ 200000) :
    Calls Try.prog 19 #[.pointer (some ⟨pl, 0, none⟩), .int .i64 (i : Int)] w fun r w' => r = .returned (.tuple #[]) ∧ RefAt w F pl base room ids ((l.map (·.cp)).eraseIdx i) w' := by
  obtain ⟨i0, hi, hz0, hz1, hz2⟩ := info_parts raw_info
  have Hh := hide h
  clear h
  go_enter Try.func19, Try.ntmps19
  go_wp2_with fail
  go_loopw [4, 5] (fun v j wr => ∃ (k : Nat) (Am : Option Addr) (cm : Nat), k ≤ l.length ∧ j = .int .i64 k ∧ v = .slice Am ((l.take k).eraseIdx i).length cm ∧ Hid (wr.ownsRow w.heap.size 30 6 (.slice Am ((l.take k).eraseIdx i).length cm) ((l.take k).eraseIdx i).length (rawsC ((l.take k).eraseIdx i))) ∧ Hid (Below w.heap.size w wr)) (fun _ j _ => l.length - (intOf j).toNat)
  case atStart => exact ⟨0, none, 0, Nat.zero_le _, rfl, rfl, World.ownsRow_nil _ _ _ _, Below.refl _ _⟩
  case round =>
    obtain ⟨k, Am, cm, hk, rfl, rfl, hown, hb⟩ := hrel
    have HR := hide (Hh.out.below hb.out)
    obtain ⟨_, _, hsl⟩ := HR.out.cells
    by_cases hlt : k < l.length
    · obtain ⟨b, off, r, hA, hbb, hr, hat⟩ := (Reads.of_own HR.out.own).raw_at hlt
      have HE := hide (erase_snoc l k i r hr)
      subst hA
      obtain ⟨⟨lan, frm, to, bs, for_, sp⟩, A1, c1⟩ := r
      obtain ⟨h0, h1, h2, h3, h4, h5⟩ := hat
      clear hr
      have hle : ((l.take k).eraseIdx i).length ≤ 200000 := by have h1 := List.length_eraseIdx_le (l.take k) i; have h2 := List.length_take_le k l; omega
      by_cases hki : k = i
      · have b1 : ((k : Int) != (i : Int)) = false := by simp [hki]
        have HE2 := hide (show (l.take (k + 1)).eraseIdx i = (l.take k).eraseIdx i by rw [HE.out, if_pos hki, List.append_nil])
        clear hki h0 h1 h2 h3 h4 h5
        go_wp2
        go_roundw
        case rel => exact ⟨k + 1, Am, cm, by omega, by go_num, by rw [HE2.out], by rw [HE2.out]; exact hown, hb⟩
        case measure => simp [intOf]; omega
      · have b1 : ((k : Int) != (i : Int)) = true := by simp; omega
        have HE2 := hide (show (l.take (k + 1)).eraseIdx i = (l.take k).eraseIdx i ++ [⟨⟨lan, frm, to, bs, for_, sp⟩, A1, c1⟩] by rw [HE.out, if_neg hki])
        clear hki
        generalize (l.take k).eraseIdx i = m at hown HE2 hle ⊢
        go_wp2_with (first
          | (at_builtin
             refine wpList_append_any _ rfl (.tmp 18) (.tmp 26) 47 rfl w.heap.size 30 i0 _ 6 64 Try.underlying47 hi hz0 hz1 hz2 rfl (by omega) (.slice Am m.length cm) m.length (rawsC m) rfl
               (hown.out.alloc _) (wr.heap.size + 1) (some ⟨wr.heap.size, 0, none⟩) 1 1 (Raw.cells ⟨⟨lan, frm, to, bs, for_, sp⟩, A1, c1⟩) rfl (Reads.new wr #[.int .i64 lan, .int .i64 frm, .int .i64 to, .slice A1 bs.length c1, .int .i64 for_, .bool sp] 30 1 6 rfl) (by simp [Raw.cells, Value.oneCell']) (by simp only [maxLen]; omega) (by omega) (by simp; have := hb.out.size; omega) ?_
             intro A3 c3 w3 hown3 hg3 hloc3
             have HB3 := hide ((hb.out.alloc hb.out.size (.cells #[.int .i64 lan, .int .i64 frm, .int .i64 to, .slice A1 bs.length c1, .int .i64 for_, .bool sp] 30)).grown hg3 (by have := hb.out.size; simp; omega) (fun g hg => (own_base hown.out hg).1))
             have HO3 := hide hown3
             clear hown3 hg3 hloc3))
        go_roundw
        case rel => exact ⟨k + 1, A3, c3, by omega, by go_num, by rw [HE2.out]; simp, by rw [HE2.out, rawsC_append, List.length_append]; apply hide; simpa [rawsC] using HO3.out, HB3⟩
        case measure => simp [intOf]; omega
    · have hkl : l.take k = l := List.take_of_length_le (by omega)
      rw [hkl] at hown ⊢
      have hf2 : wr.frozen? ⟨pl, 2, none⟩ = false := HR.out.box.frozen 2
      have HS := hide (HR.out.setL (l' := l.eraseIdx i) (own_mono hown.out Hh.out.bz) (fun r hr => List.mem_of_mem_eraseIdx hr))
      clear hkl
      generalize hm : l.eraseIdx i = m at hown HS ⊢
      have HM := hide hm
      clear hm
      go_wp2
      go_end0
      refine ⟨rfl, _, Ao, co, m, Am, cm, HS.out, ?_, fun g hg => ?_, (Keeps.of_below (F := F) hb.out).setCell (p := ⟨pl, 2, none⟩) (.inl Hh.out.hpl) _⟩
      · rw [← HM.out]
        simp only [List.eraseIdx_eq_take_drop_succ, List.map_append, List.map_take, List.map_drop]
      · rcases hg with hg | hg
        · exact .inl hg
        · exact .inr (own_base hown.out hg).1
theorem RefRep.setAt {w : World} {F : Nat → Prop} {pl base : Nat} {room : Int} {ids : List Int} {Ao : Option Addr} {co : Nat} {l : List Raw} {g c k : Nat} (h : RefRep w F pl base room ids Ao co l (some ⟨g, 0, none⟩) c) (hk : k < l.length) (r : Raw) (hr : w.ownsRow base 5 1 r.sl r.cp.bs.length (u8s r.cp.bs)) (hrF : ∀ x, r.sl.ownBlock = some x → ¬ F x) :
    RefRep (w.setCells g (k * 6) r.cells) (fun x => F x ∨ r.sl.ownBlock = some x) pl base room ids Ao co (l.set k r) (some ⟨g, 0, none⟩) c := by
  have hgF : F g := h.hrow g rfl
  have hgb := (own_base h.own (g := g) rfl).1
  have hK := Keeps.setCells (F := fun x => x = g) rfl r.cells (k * 6) _ (Keeps.refl (fun x => x = g) w)
  have hll : (l.set k r).length = l.length := List.length_set ..
  have hpl := h.plb
  refine ⟨?_, ?_, ?_, ?_, .inl h.hpl, (fun x hx => .inl (h.hon x hx)), ?_, ?_, h.plb, ?_, ?_⟩
  · rw [hll]; exact hK.blk h.box (by show ¬ pl = g; omega)
  · refine hK.own h.on (fun x hx => ?_)
    rcases own_types h.on h.own (by decide) with e | e
    · rw [e] at hx; cases hx
    · rintro rfl; exact e hx
  · rw [hll]
    rcases h.own.2 with ⟨h0, _⟩ | ⟨g', cap', cur, h0, hb, hh, h1, h2, h3, h4⟩
    · cases h0
    · simp only [Value.slice.injEq, Option.some.injEq, Addr.mk.injEq, and_true, true_and] at h0
      obtain ⟨rfl, rfl⟩ := h0
      have hcl : r.cells.length = 6 := rfl
      have hsz : k * 6 + r.cells.length ≤ cur.size := by rw [hcl, h3]; omega
      have hb2 := Blk.setCells r.cells (k * 6) w cur hh hsz
      refine ⟨by rw [rawsC_length, hll], .inr ⟨g, c, _, rfl, hb, hb2, h1, h2, ?_, ?_⟩⟩
      · rw [List.size_toArray, layL_length _ _ _ (by simpa using hsz)]; simpa using h3
      · rw [layL_take _ _ _ _ (by rw [hcl]; omega) (by simp; omega), h4]
        exact rawsC_set l k r hk
  · intro r' hr'
    rcases List.mem_or_eq_of_mem_set hr' with hm | rfl
    · refine hK.own (h.byt r' hm) (fun x hx => ?_)
      rcases own_types (h.byt r' hm) h.own (by decide) with e | e
      · rw [e] at hx; cases hx
      · rintro rfl; exact e hx
    · refine hK.own hr (fun x hx => ?_)
      rintro rfl
      exact hrF _ hx hgF
  · intro x hx
    exact .inl (h.hrow x (by rw [← hll]; exact hx))
  · intro r' hr' x hx
    rcases List.mem_or_eq_of_mem_set hr' with hm | rfl
    · exact .inl (h.hbyt r' hm x hx)
    · exact .inr hx
  · intro x hx
    rcases hx with hx | hx
    · exact Nat.lt_of_lt_of_le (h.lt x hx) hK.size
    · exact Nat.lt_of_lt_of_le (own_base hr hx).2 hK.size
  · exact Nat.le_trans h.bz hK.size

set_option maxHeartbeats 2000000 in
theorem refSpoil_out (F : Nat → Prop) (pl base : Nat) (room : Int) (ids : List Int) (Ao : Option Addr) (co : Nat) (l : List Raw) (A : Option Addr) (c : Nat) (i a b : Int) (w : World)
    (h : RefRep w F pl base room ids Ao co l A c) (hi : i < 0 ∨ (l.length : Int) ≤ i) :
    Calls Try.prog 20 #[.pointer (some ⟨pl, 0, none⟩), .int .i64 i, .int .i64 a, .int .i64 b] w fun r w' => r = .returned (.bool false) ∧ Below w.heap.size w w' := by
  obtain ⟨_, _, hsl⟩ := h.cells
  clear h
  go_enter Try.func20, Try.ntmps20
  have hcut : i < 0 ∨ 0 ≤ i ∧ (l.length : Int) ≤ i := by omega
  rcases hcut with hi | ⟨h0, hi⟩
  · go_wp2
    go_ret
    exact ⟨rfl, Below.refl _ _⟩
  · go_wp2
    go_ret
    exact ⟨rfl, Below.refl _ _⟩

set_option maxHeartbeats 2000000 in
theorem refSpoil_no (F : Nat → Prop) (pl base : Nat) (room : Int) (ids : List Int) (Ao : Option Addr) (co : Nat) (l : List Raw) (A : Option Addr) (c : Nat) (k : Nat) (r : Raw) (a b : Int) (w : World)
    (h : RefRep w F pl base room ids Ao co l A c) (hk : l[k]? = some r) (hn : r.cp.bs.length ≤ 100000) (hno : b % 256 = 0 ∨ b % 256 ≠ 0 ∧ r.cp.sp = true ∨ b % 256 ≠ 0 ∧ r.cp.sp = false ∧ r.cp.bs.length = 0) :
    Calls Try.prog 20 #[.pointer (some ⟨pl, 0, none⟩), .int .i64 (k : Int), .int .i64 a, .int .i64 b] w fun r w' => r = .returned (.bool false) ∧ Below w.heap.size w w' := by
  have hkl : k < l.length := (List.getElem?_eq_some_iff.1 hk).1
  obtain ⟨_, _, hsl⟩ := h.cells
  obtain ⟨b', off, r', rfl, hbb, hr', hat⟩ := (Reads.of_own h.own).raw_at hkl
  obtain rfl : r' = r := Option.some.inj (hr'.symm.trans hk)
  have HRD := hide (Reads.of_own (h.byt r' (List.mem_of_getElem? hk)))
  obtain ⟨⟨lan, frm, to, bs, for_, sp⟩, A1, c1⟩ := r'
  obtain ⟨h0, h1, h2, h3, h4, h5⟩ := hat
  clear hk hr' h
  dsimp only at hno hn
  have HN := hide hn
  have hcut : (b % 256 == 0) = true ∨ (b % 256 == 0) = false ∧ (sp = true ∨ sp = false ∧ bs.length = 0) := by
    rcases hno with h | ⟨h, h'⟩ | ⟨h, h', h''⟩
    · exact .inl (by simpa using h)
    · exact .inr ⟨by simpa using h, .inl h'⟩
    · exact .inr ⟨by simpa using h, .inr ⟨h', h''⟩⟩
  clear hno
  go_enter Try.func20, Try.ntmps20
  go_wp2_with fail
  refine (left_same b 256 (by omega) (by omega) _).mono ?_
  rintro e w1 ⟨rfl, rfl⟩
  rcases hcut with b1 | ⟨b1, hsp⟩
  · go_wp2_with fail
    go_ret
    exact ⟨rfl, Below.refl _ _⟩
  · go_wp2_with fail
    refine (refCopied_any ⟨lan, frm, to, bs, for_, sp⟩ A1 c1 _ HN.out HRD.out).mono ?_
    rintro e w2 ⟨A2, c2, rfl, ho2, hb2⟩
    have HB := hide hb2
    clear hb2 ho2
    rcases hsp with rfl | ⟨rfl, h0⟩
    · go_wp2_with fail
      go_ret
      exact ⟨rfl, HB.out.alloc HB.out.size _⟩
    · have b0 : ((bs.length : Int) == 0) = true := by simpa using h0
      clear h0
      go_wp2_with fail
      go_ret
      exact ⟨rfl, HB.out.alloc HB.out.size _⟩

set_option maxHeartbeats 2000000 in
theorem refSpoil_yes (F : Nat → Prop) (pl base : Nat) (room : Int) (ids : List Int) (Ao : Option Addr) (co : Nat) (l : List Raw) (A : Option Addr) (c : Nat) (k : Nat) (r : Raw) (a b : Int) (w : World)
    (h : RefRep w F pl base room ids Ao co l A c) (hk : l[k]? = some r) (hn : r.cp.bs.length ≤ 100000) (hl : l.length ≤ 200000) (hbnd : ∀ z ∈ r.cp.bs, 0 ≤ z ∧ z < 256)
    (h1 : r.cp.sp = false) (h2 : 0 < r.cp.bs.length) (h3 : b % 256 ≠ 0) :
    Calls Try.prog 20 #[.pointer (some ⟨pl, 0, none⟩), .int .i64 (k : Int), .int .i64 a, .int .i64 b] w fun e w' => e = .returned (.bool true) ∧ RefAt w F pl base room ids ((l.map (·.cp)).set k (spoilC a b r.cp)) w' := by
  have hkl : k < l.length := (List.getElem?_eq_some_iff.1 hk).1
  obtain ⟨_, _, hsl⟩ := h.cells
  obtain ⟨g, rfl⟩ : ∃ g, A = some ⟨g, 0, none⟩ := by
    obtain ⟨g, cap, e, _⟩ := h.own.form (by omega)
    injection e with e
    exact ⟨g, e⟩
  obtain ⟨b', off, r', hA', hbb, hr', hat⟩ := (Reads.of_own h.own).raw_at hkl
  obtain rfl : r' = r := Option.some.inj (hr'.symm.trans hk)
  simp only [Option.some.injEq, Addr.mk.injEq, and_true] at hA'
  obtain ⟨rfl, rfl⟩ := hA'
  rw [Nat.zero_add] at hat
  have HRD := hide (Reads.of_own (h.byt r' (List.mem_of_getElem? hk)))
  obtain ⟨⟨lan, frm, to, bs, for_, sp⟩, A1, c1⟩ := r'
  have Hh := hide h
  dsimp only at h1 h2 h3 hbnd
  have hn' : bs.length ≤ 100000 := hn
  subst h1
  have b0 : ((bs.length : Int) == 0) = false := by simp; intro e; simp [e] at h2
  have b1 : (b % 256 == 0) = false := by simpa using h3
  have hq1 := Int.emod_nonneg a (b := (bs.length : Int)) (by omega)
  have hq2 := Int.emod_lt_of_pos a (b := (bs.length : Int)) (by omega)
  obtain ⟨q, hq⟩ : ∃ q : Nat, a % (bs.length : Int) = q := ⟨(a % (bs.length : Int)).toNat, by omega⟩
  have HQ := hide hq
  rw [hq] at hq1 hq2
  have hql : q < bs.length := by omega
  have H2 := hide h2
  have m1 : 0 ≤ b % 256 := by omega
  have m2 : b % 256 < 256 := by omega
  obtain ⟨z, hz⟩ : ∃ z, bs[q]? = some z := ⟨_, List.getElem?_eq_getElem hql⟩
  obtain ⟨z1, z2⟩ := hbnd z (List.mem_of_getElem? hz)
  have HZ := hide hz
  obtain ⟨c0, c1', c2', c3', c4', c5'⟩ := hat
  clear hk hr' h hn h3 h2 hq1 hq2 hq hz hbnd
  go_enter Try.func20, Try.ntmps20
  go_wp2_with fail
  refine (left_same b 256 (by omega) (by omega) _).mono ?_
  rintro e w1 ⟨rfl, rfl⟩
  go_wp2_with fail
  refine (refCopied_any ⟨lan, frm, to, bs, for_, false⟩ A1 c1 _ hn' HRD.out).mono ?_
  rintro e w2 ⟨A2, c2, rfl, ho2, hb2⟩
  have HB := hide hb2
  have HO := hide ho2
  clear hb2 ho2 c0 c1' c2' c3' c4' c5' hsl
  dsimp only [Cp.val]
  go_wp2_with fail
  refine (left_same a bs.length (by omega) (by omega) _).mono ?_
  rintro e w3 ⟨rfl, rfl⟩
  rw [HQ.out]
  go_wp2_with fail
  obtain ⟨g2, hA2, hg2, hg2'⟩ : ∃ g2, A2 = some ⟨g2, 0, none⟩ ∧ w1.heap.size ≤ g2 ∧ g2 < w2.heap.size := own_spare HO.out H2.out
  subst hA2
  have HN := hide (Blk.new w2 30 #[.int .i64 lan, .int .i64 frm, .int .i64 to, .slice (some ⟨g2, 0, none⟩) bs.length c2, .int .i64 for_, .bool false])
  have HA := hide ((Below.refl w2.heap.size w2).alloc (Nat.le_refl _) (.cells #[.int .i64 lan, .int .i64 frm, .int .i64 to, .slice (some ⟨g2, 0, none⟩) bs.length c2, .int .i64 for_, .bool false] 30))
  have hz3 : w2.heap.size < (w2.alloc (.cells #[.int .i64 lan, .int .i64 frm, .int .i64 to, .slice (some ⟨g2, 0, none⟩) bs.length c2, .int .i64 for_, .bool false] 30)).heap.size := by simp
  generalize w2.alloc (.cells #[.int .i64 lan, .int .i64 frm, .int .i64 to, .slice (some ⟨g2, 0, none⟩) bs.length c2, .int .i64 for_, .bool false] 30) = W3 at HN HA hz3 ⊢
  have HO3 := hide ((Keeps.of_below (F := fun _ => False) HA.out).own HO.out (fun _ _ h => h))
  have HR3 := hide ((Hh.out.below HB.out).below HA.out)
  have cq : W3.cell? ⟨g2, q, none⟩ = some (.int .u8 z) := by
    rw [HO3.out.cellAt q (by simpa using hql), u8s, List.getElem?_map, HZ.out]; rfl
  have fq : W3.frozen? ⟨g2, q, none⟩ = false := HO3.out.frozenAt q
  have c3 : W3.cell? ⟨w2.heap.size, 3, none⟩ = some (.slice (some ⟨g2, 0, none⟩) bs.length c2) := HN.out.cell 3
  have c5 : W3.cell? ⟨w2.heap.size, 5, none⟩ = some (.bool false) := HN.out.cell 5
  have f5 : W3.frozen? ⟨w2.heap.size, 5, none⟩ = false := HN.out.frozen 5
  have hne : ¬ w2.heap.size = g2 := by omega
  have hvv : ((z + b % 256) % 256) % 256 = (z + b % 256) % 256 := by omega
  have HVV := hide hvv
  clear hvv
  refine wp_region_still_tail 17 (by kernel_rfl) (by kernel_rfl) ?_
  simp only [List.take_succ_cons, List.take_zero, List.drop_succ_cons, List.drop_zero]
  repeat still_step
  still_call (left_same b 256 (by omega) (by omega) _)
  repeat still_step
  refine wpStill_nil ?_
  go_wp2_with fail
  obtain ⟨hown5, hgr5⟩ := HO3.out.stored q (.int .u8 ((z + b) % 256))
  have hg2F : ¬ F g2 := fun hf => absurd (Hh.out.lt _ hf) (by omega)
  have hK5 : Keeps (fun x => x = g2 ∨ x = w2.heap.size) W3 ((W3.setCell ⟨g2, q, none⟩ (.int .u8 ((z + b) % 256))).setCell ⟨w2.heap.size, 5, none⟩ (.bool true)).drew := (((Keeps.refl _ _).grown hgr5 (fun x hx => .inl (by cases hx; exact .inl rfl))).setCell (p := ⟨w2.heap.size, 5, none⟩) (.inl (.inr rfl)) _).drew
  have hnF : ¬ F w2.heap.size := fun hf => absurd (Hh.out.lt _ hf) (by have := HB.out.size; omega)
  have ho5 : ((W3.setCell ⟨g2, q, none⟩ (.int .u8 ((z + b) % 256))).setCell ⟨w2.heap.size, 5, none⟩ (.bool true)).drew.ownsRow w1.heap.size 5 1 (.slice (some ⟨g2, 0, none⟩) bs.length c2) bs.length ((u8s bs).set q (.int .u8 ((z + b) % 256))) := by
    refine (Keeps.refl (fun x => x = w2.heap.size) _).setCell (p := ⟨w2.heap.size, 5, none⟩) (.inl rfl) (.bool true) |>.own hown5 (fun x hx => ?_)
    cases hx
    exact fun e => hne e.symm
  have hn5 : Blk ((W3.setCell ⟨g2, q, none⟩ (.int .u8 ((z + b) % 256))).setCell ⟨w2.heap.size, 5, none⟩ (.bool true)).drew w2.heap.size 30 #[.int .i64 lan, .int .i64 frm, .int .i64 to, .slice (some ⟨g2, 0, none⟩) bs.length c2, .int .i64 for_, .bool true] :=
    (HN.out.far (p := ⟨g2, q, none⟩) hne _).set_ 5 (.bool true)
  clear hown5 hgr5
  generalize ((W3.setCell ⟨g2, q, none⟩ (.int .u8 ((z + b) % 256))).setCell ⟨w2.heap.size, 5, none⟩ (.bool true)).drew = W5 at hK5 ho5 hn5 ⊢
  have hR5 := HR3.out.keep hK5 (fun x hx e => e.elim (fun e => hg2F (e ▸ hx)) (fun e => hnF (e ▸ hx)))
  have hpl5 : W5.cell? ⟨pl, 2, none⟩ = some (.slice (some ⟨g, 0, none⟩) l.length c) := hR5.box.cell 2
  obtain ⟨b', off', x, hA', _, hx, hat⟩ := (Reads.of_own hR5.own).raw_at hkl
  simp only [Option.some.injEq, Addr.mk.injEq, and_true] at hA'
  obtain ⟨rfl, rfl⟩ := hA'
  rw [Nat.zero_add] at hat
  obtain ⟨r0, r1, r2, r3, r4, r5⟩ := hat
  have fr : ∀ i, W5.frozen? ⟨g, i, none⟩ = false := hR5.own.frozenAt
  obtain ⟨k0, k1, k2, k3, k4, k5, f0⟩ := hn5.cells6
  have HR5 := hide hR5
  have HK5 := hide (((Keeps.of_below (F := F) (below0 HB.out HA.out))).trans hK5 (fun x hx => .inr (hx.elim (fun e => by omega) (fun e => by have := HB.out.size; omega))))
  have HO5 := hide ho5
  clear hx hR5 ho5 hK5 hn5 cq fq c3 c5 f5
  go_still_tail 7, (by kernel_rfl)
  go_wp2_with fail
  go_ret
  refine ⟨rfl, ?_⟩
  have hsl : (spoilB a b bs).length = bs.length := spoilB_length _ _ _
  have hsp : (u8s bs).set q (.int .u8 ((z + b) % 256)) = u8s (spoilB a b bs) := by
    rw [show (z + b) % 256 = (z + b % 256) % 256 by omega]
    unfold spoilB u8s
    rw [HQ.out, Int.toNat_natCast, List.getD_eq_getElem?_getD, HZ.out, List.map_set]
    rfl
  have hr : W5.ownsRow base 5 1 (Raw.sl ⟨spoilC a b ⟨lan, frm, to, bs, for_, false⟩, some ⟨g2, 0, none⟩, c2⟩) (spoilB a b bs).length (u8s (spoilB a b bs)) := by
    have := own_mono HO5.out Hh.out.bz
    rw [hsp] at this
    simp only [Raw.sl, spoilC, hsl]
    exact this
  have hR6 := HR5.out.setAt hkl ⟨spoilC a b ⟨lan, frm, to, bs, for_, false⟩, some ⟨g2, 0, none⟩, c2⟩ hr (fun x hx hf => by
    have : g2 = x := by simpa [Raw.sl, Value.ownBlock] using hx
    exact hg2F (this ▸ hf))
  have hK6 := Keeps.setCells (F := F) (Hh.out.hrow g rfl) (Raw.cells ⟨spoilC a b ⟨lan, frm, to, bs, for_, false⟩, some ⟨g2, 0, none⟩, c2⟩) (k * 6) _ HK5.out
  have e6 : W5.setCells g (k * 6) (Raw.cells ⟨spoilC a b ⟨lan, frm, to, bs, for_, false⟩, some ⟨g2, 0, none⟩, c2⟩) = (((((W5.setCell ⟨g, k * 6, none⟩ (.int .i64 lan)).setCell ⟨g, k * 6 + 1, none⟩ (.int .i64 frm)).setCell ⟨g, k * 6 + 2, none⟩ (.int .i64 to)).setCell ⟨g, k * 6 + 3, none⟩ (.slice (some ⟨g2, 0, none⟩) bs.length c2)).setCell ⟨g, k * 6 + 4, none⟩ (.int .i64 for_)).setCell ⟨g, k * 6 + 5, none⟩ (.bool true) := by
    simp only [Raw.cells, spoilC, hsl]
    rfl
  rw [e6] at hR6 hK6
  refine ⟨_, _, _, _, _, _, hR6.drewN 1, ?_, ?_, hK6.drew⟩
  · rw [List.map_set]
  · intro x hx
    rcases hx with hx | hx
    · exact .inl hx
    · have : g2 = x := by simpa [Raw.sl, Value.ownBlock] using hx
      exact .inr (this ▸ hg2)
end Go.Proofs.Ytldanafbaadgoaa
