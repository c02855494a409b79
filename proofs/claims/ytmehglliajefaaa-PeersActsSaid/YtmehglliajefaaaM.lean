/-
  The reference's Drop and Set.
-/
import Derived.Test.YtmehglliajefaaaJ
namespace Go.Proofs.Ytmehglliajefaaa
open Go.RowKit

theorem RefP.setL {w : World} {F : Nat → Prop} {pl base : Nat} {me lan : Int} {l l' : List PV} {A A' : Option Addr} {c c' : Nat} (h : RefP w F pl base me lan l A c)
    (hown : w.ownsRow base 47 7 (.slice A' l'.length c') l'.length (rowC PV.cells l')) :
    RefP (w.setCell ⟨pl, 2, none⟩ (.slice A' l'.length c')) (fun g => F g ∨ (Value.slice A' l'.length c').ownBlock = some g) pl base me lan l' A' c' := by
  have hsz : (w.setCell ⟨pl, 2, none⟩ (.slice A' l'.length c')).heap.size = w.heap.size := by simp [World.setCell]
  refine ⟨h.box.set_ 2 (.slice A' l'.length c'), ownsRow_setCell_below hown (a := ⟨pl, 2, none⟩) h.plb _, .inl h.hpl, fun g hg => .inr hg, h.plb, ?_, ?_⟩
  · intro g hg
    rw [hsz]
    rcases hg with hg | hg
    · exact h.lt g hg
    · exact (own_base hown hg).2
  · rw [hsz]; exact h.bz
theorem RefP.setAt {w : World} {F : Nat → Prop} {pl base : Nat} {me lan : Int} {l : List PV} {g c k : Nat} (h : RefP w F pl base me lan l (some ⟨g, 0, none⟩) c) (hk : k < l.length) (x : PV) :
    RefP (w.setCells g (k * 7) x.cells) F pl base me lan (l.set k x) (some ⟨g, 0, none⟩) c := by
  have hgF : F g := h.hrow g rfl
  have hgb := (own_base h.own (g := g) rfl).1
  have hK := Keeps.setCells (F := fun x => x = g) rfl x.cells (k * 7) _ (Keeps.refl (fun x => x = g) w)
  have hll : (l.set k x).length = l.length := List.length_set ..
  have hpl := h.plb
  refine ⟨?_, ?_, h.hpl, ?_, h.plb, ?_, ?_⟩
  · rw [hll]; exact hK.blk h.box (by show ¬ pl = g; omega)
  · rw [hll]
    rcases h.own.2 with ⟨h0, _⟩ | ⟨g', cap', cur, h0, hb, hh, h1, h2, h3, h4⟩
    · cases h0
    · simp only [Value.slice.injEq, Option.some.injEq, Addr.mk.injEq, and_true, true_and] at h0
      obtain ⟨rfl, rfl⟩ := h0
      have hcl : x.cells.length = 7 := rfl
      have hsz : k * 7 + x.cells.length ≤ cur.size := by rw [hcl, h3]; omega
      have hb2 := Blk.setCells x.cells (k * 7) w cur hh hsz
      refine ⟨by rw [rowC_length PV.cells 7 PV.cells_len, hll], .inr ⟨g, c, _, rfl, hb, hb2, h1, h2, ?_, ?_⟩⟩
      · rw [List.size_toArray, layL_length _ _ _ (by simpa using hsz)]; simpa using h3
      · rw [layL_take _ _ _ _ (by rw [hcl]; omega) (by simp; omega), h4]
        exact rowC_set PV.cells 7 PV.cells_len l k x hk
  · intro y hy
    exact h.hrow y (by rw [← hll]; exact hy)
  · intro y hy
    exact Nat.lt_of_lt_of_le (h.lt y hy) hK.size
  · exact Nat.le_trans h.bz hK.size

theorem erase_snoc (l : List PV) (k : Nat) (i : Int) (x : PV) (h : l[k]? = some x) (hi : -1 ≤ i) : ((l.take (k + 1)).eraseIdx (if 0 ≤ i then i.toNat else l.length)) = ((l.take k).eraseIdx (if 0 ≤ i then i.toNat else l.length)) ++ if (k : Int) = i then [] else [x] := by
  have hk : k < l.length := (List.getElem?_eq_some_iff.1 h).1
  have hl : (l.take k).length = k := by rw [List.length_take]; omega
  rw [take_snoc _ _ _ h]
  generalize hj : (if 0 ≤ i then i.toNat else l.length) = j
  have hji : ((k : Int) = i) ↔ k = j := by rw [← hj]; split <;> omega
  by_cases h1 : j < k
  · rw [List.eraseIdx_append_of_lt_length (by omega), if_neg (by rw [hji]; omega)]
  · rw [List.eraseIdx_append_of_length_le (by omega), hl, List.eraseIdx_of_length_le (l := l.take k) (by omega)]
    by_cases h2 : k = j
    · rw [if_pos (hji.2 h2), h2]; simp
    · rw [if_neg (fun h => h2 (hji.1 h)), List.eraseIdx_of_length_le (by simp; omega)]
theorem findI_ge (l : List PV) (id : Int) : -1 ≤ findI l id ∧ findI l id < l.length := by
  unfold findI
  split
  · rename_i k hk
    obtain ⟨h1, _⟩ := List.findIdx?_eq_some_iff_getElem.1 hk
    omega
  · omega
/-- a list without the one of a number -/
def dropI (l : List PV) (id : Int) : List PV := l.eraseIdx (if 0 ≤ findI l id then (findI l id).toNat else l.length)

def RefPAt (w : World) (F : Nat → Prop) (pl base : Nat) (me lan : Int) (l : List PV) (wr : World) : Prop :=
  ∃ (F' : Nat → Prop) (A : Option Addr) (c : Nat), RefP wr F' pl base me lan l A c ∧ (∀ g, F' g → F g ∨ w.heap.size ≤ g) ∧ Keeps F w wr

set_option maxHeartbeats 4000000 in
theorem refDrop_any (F : Nat → Prop) (pl base : Nat) (me lan : Int) (l : List PV) (A : Option Addr) (c : Nat) (id : Int) (w : World) (h : RefP w F pl base me lan l A c) (hl : l.length ≤ 100000) :
    Calls Try.prog 15 #[.pointer (some ⟨pl, 0, none⟩), .int .i64 id] w fun r w' => r = .returned (.bool (decide (0 ≤ findI l id))) ∧ RefPAt w F pl base me lan (dropI l id) w' := by
  obtain ⟨i0, hi, hz0, hz1, hz2⟩ := info_parts peer_info
  have Hh := hide h
  clear h
  obtain ⟨fi1, fi2⟩ := findI_ge l id
  go_enter Try.func15, Try.ntmps15
  go_wp2_with fail
  refine (find_any F pl base me lan l A c id _ Hh.out hl).mono ?_
  rintro r w ⟨rfl, rfl⟩
  obtain ⟨fi, hfi⟩ : ∃ fi, findI l id = fi := ⟨_, rfl⟩
  have HFI := hide hfi
  rw [hfi] at fi1 fi2 ⊢
  clear hfi
  obtain ⟨j, hj⟩ : ∃ j, (if 0 ≤ fi then fi.toNat else l.length) = j := ⟨_, rfl⟩
  have HJ := hide hj
  clear hj
  go_wp2_with fail
  go_loopw [6, 7] (fun v i wr => ∃ (k : Nat) (Am : Option Addr) (cm : Nat), k ≤ l.length ∧ i = .int .i64 k ∧ v = .slice Am ((l.take k).eraseIdx j).length cm ∧ Hid (wr.ownsRow w.heap.size 47 7 (.slice Am ((l.take k).eraseIdx j).length cm) ((l.take k).eraseIdx j).length (rowC PV.cells ((l.take k).eraseIdx j))) ∧ Hid (Below w.heap.size w wr)) (fun _ i _ => l.length - (intOf i).toNat)
  case atStart => exact ⟨0, none, 0, Nat.zero_le _, rfl, rfl, World.ownsRow_nil _ _ _ _, Below.refl _ _⟩
  case round =>
    obtain ⟨k, Am, cm, hk, rfl, rfl, hown, hb⟩ := hrel
    have HR := hide (Hh.out.below hb.out)
    obtain ⟨_, _, hsl⟩ := HR.out.cells
    by_cases hlt : k < l.length
    · obtain ⟨b, x, hA, hx, hat⟩ := HR.out.at_ hlt
      have HE := hide (show (l.take (k + 1)).eraseIdx j = (l.take k).eraseIdx j ++ if (k : Int) = fi then [] else [x] by rw [← HJ.out]; exact erase_snoc l k fi x hx fi1)
      obtain ⟨id1, prio, dr, bdr, state, two, at_⟩ := x
      have d0 : wr.cell? ⟨b, k * 7, none⟩ = some (.int .i64 id1) := hat 0 _ rfl
      have d1 : wr.cell? ⟨b, k * 7 + 1, none⟩ = some (.int .i64 prio) := hat 1 _ rfl
      have d2 : wr.cell? ⟨b, k * 7 + 2, none⟩ = some (.int .i64 dr) := hat 2 _ rfl
      have d3 : wr.cell? ⟨b, k * 7 + 3, none⟩ = some (.int .i64 bdr) := hat 3 _ rfl
      have d4 : wr.cell? ⟨b, k * 7 + 4, none⟩ = some (.int .i64 state) := hat 4 _ rfl
      have d5 : wr.cell? ⟨b, k * 7 + 5, none⟩ = some (.bool two) := hat 5 _ rfl
      have d6 : wr.cell? ⟨b, k * 7 + 6, none⟩ = some (.int .i64 at_) := hat 6 _ rfl
      subst hA
      have hle : ((l.take k).eraseIdx j).length ≤ 100000 := by have h1 := List.length_eraseIdx_le (l.take k) j; have h2 := List.length_take_le k l; omega
      have hbs := hb.out.size
      have hone := PV.cells_one ⟨id1, prio, dr, bdr, state, two, at_⟩
      clear hat hx
      by_cases hki : (k : Int) = fi
      · have b1 : ((k : Int) != fi) = false := by simpa using hki
        have HE2 := hide (show (l.take (k + 1)).eraseIdx j = (l.take k).eraseIdx j by rw [HE.out, if_pos hki, List.append_nil])
        clear hki d0 d1 d2 d3 d4 d5 d6
        go_wp2
        go_roundw
        case rel => exact ⟨k + 1, Am, cm, by omega, by go_num, by rw [HE2.out], by rw [HE2.out]; exact hown, hb⟩
        case measure => simp [intOf]; omega
      · have b1 : ((k : Int) != fi) = true := by simpa using hki
        have HE2 := hide (show (l.take (k + 1)).eraseIdx j = (l.take k).eraseIdx j ++ [⟨id1, prio, dr, bdr, state, two, at_⟩] by rw [HE.out, if_neg hki])
        clear hki
        generalize (l.take k).eraseIdx j = m at hown HE2 hle ⊢
        go_wp2_with (first
          | (at_builtin
             refine wpList_append_any _ rfl (.tmp 23) (.tmp 31) 31 rfl w.heap.size 47 i0 _ 7 56 Try.underlying31 hi hz0 hz1 hz2 rfl (by omega) (.slice Am m.length cm) m.length (rowC PV.cells m) rfl
               (hown.out.alloc _) (wr.heap.size + 1) (some ⟨wr.heap.size, 0, none⟩) 1 1 (PV.cells ⟨id1, prio, dr, bdr, state, two, at_⟩) rfl (Reads.new wr (PV.arr ⟨id1, prio, dr, bdr, state, two, at_⟩) 47 1 7 rfl) hone (by simp only [maxLen]; omega) (by omega) (by simp; omega) ?_
             intro A3 c3 w3 hown3 hg3 hloc3
             have HB3 := hide ((hb.out.alloc hb.out.size (.cells (PV.arr ⟨id1, prio, dr, bdr, state, two, at_⟩) 47)).grown hg3 (by simp; omega) (fun g hg => (own_base hown.out hg).1))
             have HO3 := hide hown3
             clear hown3 hg3 hloc3))
        go_roundw
        case rel => exact ⟨k + 1, A3, c3, by omega, by go_num, by rw [HE2.out]; simp, by rw [HE2.out, rowC_append, List.length_append]; apply hide; simpa [rowC] using HO3.out, HB3⟩
        case measure => simp [intOf]; omega
    · have hkl : l.take k = l := List.take_of_length_le (by omega)
      rw [hkl] at hown ⊢
      have hf2 : wr.frozen? ⟨pl, 2, none⟩ = false := HR.out.box.frozen 2
      have HS := hide (HR.out.setL (l' := l.eraseIdx j) (own_mono hown.out Hh.out.bz))
      clear hkl
      obtain ⟨m, hm⟩ : ∃ m, l.eraseIdx j = m := ⟨_, rfl⟩
      have HM := hide hm
      rw [hm] at hown HS ⊢
      clear hm
      go_wp2
      go_ret
      refine ⟨ret_bool (by rw [HFI.out]), _, Am, cm, by rw [dropI, HFI.out, HJ.out, HM.out]; exact HS.out, fun g hg => ?_, (Keeps.of_below (F := F) hb.out).setCell (p := ⟨pl, 2, none⟩) (.inl Hh.out.hpl) _⟩
      rcases hg with hg | hg
      · exact .inl hg
      · exact .inr (own_base hown.out hg).1
set_option maxHeartbeats 2000000 in
theorem refSet_no (F : Nat → Prop) (pl base : Nat) (me lan : Int) (l : List PV) (A : Option Addr) (c : Nat) (id s : Int) (w : World) (h : RefP w F pl base me lan l A c) (hl : l.length ≤ 100000) (hno : findI l id < 0 ∨ s < 0 ∨ 6 < s) :
    Calls Try.prog 17 #[.pointer (some ⟨pl, 0, none⟩), .int .i64 id, .int .i64 s] w fun r w' => r = .returned (.bool false) ∧ w' = w := by
  have Hh := hide h
  clear h
  obtain ⟨fi, hfi⟩ : ∃ fi, findI l id = fi := ⟨_, rfl⟩
  have HFI := hide hfi
  rw [hfi] at hno
  clear hfi
  have hcut : fi < 0 ∨ 0 ≤ fi ∧ s < 0 ∨ 0 ≤ fi ∧ 0 ≤ s ∧ 6 < s := by omega
  clear hno
  go_enter Try.func17, Try.ntmps17
  go_wp2_with fail
  refine (find_any F pl base me lan l A c id _ Hh.out hl).mono ?_
  rintro r w ⟨rfl, rfl⟩
  rw [HFI.out]
  rcases hcut with h1 | ⟨h1, h2⟩ | ⟨h1, h2, h3⟩
  · go_wp2
    go_ret
    exact ⟨rfl, rfl⟩
  · go_wp2
    go_ret
    exact ⟨rfl, rfl⟩
  · go_wp2
    go_ret
    exact ⟨rfl, rfl⟩
set_option maxHeartbeats 4000000 in
theorem refSet_yes (F : Nat → Prop) (pl base : Nat) (me lan : Int) (l : List PV) (A : Option Addr) (c : Nat) (id s : Int) (k : Nat) (x : PV) (w : World) (h : RefP w F pl base me lan l A c) (hl : l.length ≤ 100000) (hk : findI l id = k) (hx : l[k]? = some x) (hs0 : 0 ≤ s) (hs1 : s ≤ 6) :
    Calls Try.prog 17 #[.pointer (some ⟨pl, 0, none⟩), .int .i64 id, .int .i64 s] w fun r w' => r = .returned (.bool true) ∧ RefPAt w F pl base me lan (l.set k { x with state := s }) w' := by
  have hkl : k < l.length := (List.getElem?_eq_some_iff.1 hx).1
  obtain ⟨_, _, hsl⟩ := h.cells
  have hplt := h.box.lt
  obtain ⟨b, x', hA, hx', hat⟩ := h.at_ hkl
  obtain rfl : x' = x := Option.some.inj (hx'.symm.trans hx)
  subst hA
  have Hh := hide h
  have HK := hide hk
  have hbF := h.hrow b rfl
  have hblt := h.lt b hbF
  have hf := fun i => h.own.frozenAt i
  obtain ⟨id1, prio, dr, bdr, state, two, at_⟩ := x'
  have d0 : w.cell? ⟨b, k * 7, none⟩ = some (.int .i64 id1) := hat 0 _ rfl
  have d1 : w.cell? ⟨b, k * 7 + 1, none⟩ = some (.int .i64 prio) := hat 1 _ rfl
  have d2 : w.cell? ⟨b, k * 7 + 2, none⟩ = some (.int .i64 dr) := hat 2 _ rfl
  have d3 : w.cell? ⟨b, k * 7 + 3, none⟩ = some (.int .i64 bdr) := hat 3 _ rfl
  have d4 : w.cell? ⟨b, k * 7 + 4, none⟩ = some (.int .i64 state) := hat 4 _ rfl
  have d5 : w.cell? ⟨b, k * 7 + 5, none⟩ = some (.bool two) := hat 5 _ rfl
  have d6 : w.cell? ⟨b, k * 7 + 6, none⟩ = some (.int .i64 at_) := hat 6 _ rfl
  clear h hk hx hx' hat
  go_enter Try.func17, Try.ntmps17
  go_wp2_with fail
  refine (find_any F pl base me lan l _ c id _ Hh.out hl).mono ?_
  rintro r w ⟨rfl, rfl⟩
  rw [HK.out]
  go_wp2_with fail
  have hN := Blk.new w 47 (PV.arr ⟨id1, prio, dr, bdr, s, two, at_⟩)
  have HA := hide (below_new w (.cells (PV.arr ⟨id1, prio, dr, bdr, s, two, at_⟩) 47))
  generalize w.alloc (.cells (PV.arr ⟨id1, prio, dr, bdr, s, two, at_⟩) 47) = W at hN HA ⊢
  have HR := hide (Hh.out.below HA.out)
  have p2 : W.cell? ⟨pl, 2, none⟩ = some (.slice (some ⟨b, 0, none⟩) l.length c) := HR.out.box.cell 2
  obtain ⟨e0, e1, e2, e3, e4, e5, e6⟩ := (⟨cell_keep d0 HA.out, cell_keep d1 HA.out, cell_keep d2 HA.out, cell_keep d3 HA.out, cell_keep d4 HA.out, cell_keep d5 HA.out, cell_keep d6 HA.out⟩ : W.cell? ⟨b, k * 7, none⟩ = some (.int .i64 id1) ∧ W.cell? ⟨b, k * 7 + 1, none⟩ = some (.int .i64 prio) ∧ W.cell? ⟨b, k * 7 + 2, none⟩ = some (.int .i64 dr) ∧ W.cell? ⟨b, k * 7 + 3, none⟩ = some (.int .i64 bdr) ∧ W.cell? ⟨b, k * 7 + 4, none⟩ = some (.int .i64 state) ∧ W.cell? ⟨b, k * 7 + 5, none⟩ = some (.bool two) ∧ W.cell? ⟨b, k * 7 + 6, none⟩ = some (.int .i64 at_))
  have fr : ∀ i, W.frozen? ⟨b, i, none⟩ = false := HR.out.own.frozenAt
  have n0 : W.cell? ⟨w.heap.size, 0, none⟩ = some (.int .i64 id1) := hN.cell 0
  have n1 : W.cell? ⟨w.heap.size, 1, none⟩ = some (.int .i64 prio) := hN.cell 1
  have n2 : W.cell? ⟨w.heap.size, 2, none⟩ = some (.int .i64 dr) := hN.cell 2
  have n3 : W.cell? ⟨w.heap.size, 3, none⟩ = some (.int .i64 bdr) := hN.cell 3
  have n4 : W.cell? ⟨w.heap.size, 4, none⟩ = some (.int .i64 s) := hN.cell 4
  have n5 : W.cell? ⟨w.heap.size, 5, none⟩ = some (.bool two) := hN.cell 5
  have n6 : W.cell? ⟨w.heap.size, 6, none⟩ = some (.int .i64 at_) := hN.cell 6
  clear hN d0 d1 d2 d3 d4 d5 d6 hf hsl
  go_still_tail 7, (by kernel_rfl)
  go_wp2_with fail
  go_ret
  refine ⟨rfl, F, _, _, (HR.out.setAt hkl ⟨id1, prio, dr, bdr, s, two, at_⟩).below (below_drew _), fun g hg => .inl hg, (Keeps.setCells (F := F) hbF (PV.cells ⟨id1, prio, dr, bdr, s, two, at_⟩) (k * 7) _ (Keeps.of_below (F := F) HA.out)).drew⟩
end Go.Proofs.Ytmehglliajefaaa
