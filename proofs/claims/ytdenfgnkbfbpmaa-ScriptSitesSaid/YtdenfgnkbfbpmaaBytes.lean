/-
  lsa.bytes: a description's bytes, its checksum filled.
-/
import Derived.Test.YtdenfgnkbfbpmaaHead
import Derived.Test.YtdenfgnkbfbpmaaFill
import Derived.Test.YtdenfgnkbfbpmaaRead
import Derived.ArgAppend
namespace Go.Proofs.Ytdenfgnkbfbpmaa
open Go.RowKit
set_option linter.unusedSimpArgs false

/-- a link's bytes -/
def linkB (x : Lk) : List Int := putB 4 [x.id, x.data] ++ putB 1 [x.kind, 0] ++ putB 2 [x.cost]
def bodyB (l : LV) : List Int := if l.hd.kind = 1 then putB 4 [(l.links.length : Int)] ++ l.links.flatMap linkB else putB 4 l.mem
def allB (l : LV) : List Int := headB { l.hd with sum := 0, long := 20 + (bodyB l).length } ++ bodyB l
/-- a description's bytes -/
def lsaB (l : LV) : List Int := (allB l).take 2 ++ fillF ((allB l).drop 2) 14

theorem linkB_length (x : Lk) : (linkB x).length = 12 := by simp [linkB, putB_length]
theorem links_length : ∀ (l : List Lk), (l.flatMap linkB).length = 12 * l.length
  | [] => rfl
  | x :: l => by rw [List.flatMap_cons, List.length_append, linkB_length, links_length l, List.length_cons]; omega
theorem bodyB_length (l : LV) (h1 : l.links.length ≤ 5000) (h2 : l.mem.length ≤ 5000) : (bodyB l).length ≤ 60004 := by
  unfold bodyB
  split
  · rw [List.length_append, putB_length, links_length]; simp; omega
  · rw [putB_length]; omega

theorem reads_cells {w : World} {B n g : Nat} {xs : List Value} (h : Reads w B 1 (some ⟨g, 0, none⟩) n xs) : ∀ j u, xs[j]? = some u → w.cell? ((⟨g, 0, none⟩ : Addr).add j) = some u := by
  intro j u hu
  have hj : j < n := by
    have h1 := h.1
    have h2 := (List.getElem?_eq_some_iff.1 hu).1
    omega
  obtain ⟨b, off, u', e, _, hx, hc⟩ := h.at_ hj
  cases e
  rw [hx] at hu
  cases hu
  rw [Addr.add_lit]
  exact hc
theorem bytes_byte {a b : List Int} (ha : ∀ z ∈ a, 0 ≤ z ∧ z < 256) (hb : ∀ z ∈ b, 0 ≤ z ∧ z < 256) : ∀ z ∈ a ++ b, 0 ≤ z ∧ z < 256 := fun z hz => (List.mem_append.1 hz).elim (ha z) (hb z)
theorem allB_byte (l : LV) : ∀ z ∈ allB l, 0 ≤ z ∧ z < 256 := by
  refine bytes_byte (bytes_byte (bytes_byte (bytes_byte (putB_byte _ _) (putB_byte _ _)) (putB_byte _ _)) (putB_byte _ _)) ?_
  unfold bodyB
  split
  · refine bytes_byte (putB_byte _ _) (fun z hz => ?_)
    obtain ⟨x, _, hx⟩ := List.mem_flatMap.1 hz
    exact bytes_byte (bytes_byte (putB_byte _ _) (putB_byte _ _)) (putB_byte _ _) z hx
  · exact putB_byte _ _

set_option maxRecDepth 20000 in
set_option maxHeartbeats 1000000 in
theorem bytes_any (l : LV) (p : LP) (w : World) (h1 : l.links.length ≤ 5000) (h2 : l.mem.length ≤ 5000) (hok : LOK w l p) :
    Calls Try.prog 129 #[.agg (lsaA l p)] w fun r w' => ∃ v, r = .returned v ∧ Byts w.heap.size (lsaB l) v w' ∧ Below w.heap.size w w' := by
  obtain ⟨i0, hi, hz0, hz1, hz2⟩ := info_parts u8_info
  have HL := hide hok.links
  have HM := hide hok.mem
  clear hok
  obtain ⟨⟨age, kind, id, adv, seq, sum, long⟩, links, mem⟩ := l
  obtain ⟨A, c, B, d⟩ := p
  dsimp only at HL HM h1 h2
  go_enter Try.func129, Try.ntmps129
  go_upto_region 2 with (fail)
  have hb0 := Blk.new w 37 (lsaA ⟨⟨age, kind, id, adv, seq, sum, long⟩, links, mem⟩ ⟨A, c, B, d⟩)
  have hB0 := below_new w (.cells (lsaA ⟨⟨age, kind, id, adv, seq, sum, long⟩, links, mem⟩ ⟨A, c, B, d⟩) 37)
  generalize w.alloc (.cells (lsaA ⟨⟨age, kind, id, adv, seq, sum, long⟩, links, mem⟩ ⟨A, c, B, d⟩) 37) = W at hb0 hB0 ⊢
  have c0 := hb0.cell 0
  have c1 := hb0.cell 1
  have c2 := hb0.cell 2
  have c3 := hb0.cell 3
  have c4 := hb0.cell 4
  have c5 := hb0.cell 5
  have c6 := hb0.cell 6
  have c7 := hb0.cell 7
  have c8 := hb0.cell 8
  have HB := hide hb0
  have HW := hide hB0
  clear hb0 hB0
  go_upto_if 13 with (fail)
  generalize hkb : (kind == 1) = kb
  have HK := hide hkb
  clear hkb
  go_cut [3] (fun v wc => Hid (Byts w.heap.size (bodyB ⟨⟨age, kind, id, adv, seq, sum, long⟩, links, mem⟩) v wc) ∧ Hid (Below W.heap.size W wc))
  case first =>
    cases kb with
    | true =>
      go_upto_region 4 with (go_at_call 125; refine (put_byts w.heap.size 4 4 [] [(links.length : Int)] _ _ _ (by rfl) (by have := HW.out.size; simp; omega) (Rd.nil _ _) (Nums.new1 W _ _) (by simp) (by simp)).mono ?_; rintro r W3 ⟨v3, rfl, hv3, hb3⟩)
      have hb3' := (below_new W (.cells #[.int .i64 (links.length : Int)] 3)).trans (hb3.mono (by simp))
      have hL3 : Reads W3 w.heap.size 4 A links.length (rowC Lk.cells links) := HL.out.below (HW.out.trans (hb3'.mono HW.out.size))
      have hV3 := hide hv3
      have HB3 := hide hb3'
      have HL3 := hide hL3
      have c70 := (HB.out.below hb3' HB.out.lt).cell 7
      clear hb3 hb3' hL3 hv3 c0 c1 c2 c3 c4 c5 c6 c7 c8
      go_wp2_with fail
      go_loopw [3, 22] (fun v i wr => ∃ (k : Nat) (u : Value), k ≤ links.length ∧ i = .int .i64 k ∧ v = u ∧ Hid (Byts w.heap.size (putB 4 [(links.length : Int)] ++ (links.take k).flatMap linkB) u wr) ∧ Hid (Below W3.heap.size W3 wr)) (fun _ i _ => links.length - (intOf i).toNat)
      case atStart => exact ⟨0, _, Nat.zero_le _, rfl, rfl, hide (by simpa using hV3.out), hide (Below.refl _ _)⟩
      case round =>
        obtain ⟨k, vv, hk, rfl, hve, hv, hb⟩ := hrel
        rw [hve]
        clear hve
        by_cases hlt : k < links.length
        · obtain ⟨b, off, x, hA, hbb, hx, hat0⟩ := HL3.out.row_at Lk.cells 4 Lk.cells_len (by omega) hlt
          subst hA
          have HX := hide hx
          obtain ⟨lkind, lid, data, cost⟩ := x
          have d0 : wr.cell? ⟨b, off + k * 4, none⟩ = some (.int .i64 lkind) := cell_keep (hat0 0 _ rfl) hb.out
          have d1 : wr.cell? ⟨b, off + k * 4 + 1, none⟩ = some (.int .i64 lid) := cell_keep (hat0 1 _ rfl) hb.out
          have d2 : wr.cell? ⟨b, off + k * 4 + 2, none⟩ = some (.int .i64 data) := cell_keep (hat0 2 _ rfl) hb.out
          have d3 : wr.cell? ⟨b, off + k * 4 + 3, none⟩ = some (.int .i64 cost) := cell_keep (hat0 3 _ rfl) hb.out
          clear hat0 hx
          go_upto_region 7 with (fail)
          clear d0 d1 d2 d3
          have hbl := Blk.new wr 117 (Lk.arr ⟨lkind, lid, data, cost⟩)
          have hBl := below_new wr (.cells (Lk.arr ⟨lkind, lid, data, cost⟩) 117)
          have hvl := hv.out.keep hBl
          generalize wr.alloc (.cells (Lk.arr ⟨lkind, lid, data, cost⟩) 117) = wl at hbl hBl hvl ⊢
          have hpl : (putB 4 [(links.length : Int)] ++ (links.take k).flatMap linkB).length ≤ 60004 := by
            rw [List.length_append, putB_length, links_length, List.length_take]; simp; omega
          obtain ⟨pre, hpre⟩ : ∃ pre, putB 4 [(links.length : Int)] ++ (links.take k).flatMap linkB = pre := ⟨_, rfl⟩
          rw [hpre] at hvl hpl
          have HPRE := hide hpre
          clear hpre
          refine region_by (fun i v w' => match i with
            | 0 => Byts (w.heap.size) (pre) v w'
            | 1 => v = .pointer (some ⟨wr.heap.size, 1, none⟩)
            | 2 => v = .int .i64 lid
            | 3 => v = .pointer (some ⟨wr.heap.size, 2, none⟩)
            | 4 => v = .int .i64 data
            | 5 => Nums [lid, data] v w'
            | 6 => Byts wl.heap.size (pre ++ putB 4 [lid, data]) v w'
            | 7 => v = .pointer (some ⟨wr.heap.size, 0, none⟩)
            | 8 => v = .int .i64 lkind
            | 9 => Nums [lkind, 0] v w'
            | 10 => Byts wl.heap.size (pre ++ putB 4 [lid, data] ++ putB 1 [lkind, 0]) v w'
            | 11 => v = .pointer (some ⟨wr.heap.size, 3, none⟩)
            | 12 => v = .int .i64 cost
            | 13 => Nums [cost] v w'
            | 14 => Byts wl.heap.size (pre ++ putB 4 [lid, data] ++ putB 1 [lkind, 0] ++ putB 2 [cost]) v w'
            | _ => Byts (wl.heap.size) (pre ++ putB 4 [lid, data] ++ putB 1 [lkind, 0] ++ putB 2 [cost]) v w')
            (by kernel_rfl) (by kernel_rfl) (by kernel_rfl) (by kernel_rfl) ?_ ⟨?_, ?_, ?_, ?_, ?_, ?_, ?_, ?_, ?_, ?_, ?_, ?_, ?_, ?_, ?_, ?_, trivial⟩ ?_
          · intro i v w1 w2 hb hF
            match i, hF with
            | 0, h => exact Byts.keep h hb
            | 1, h => exact h
            | 2, h => exact h
            | 3, h => exact h
            | 4, h => exact h
            | 5, h => exact Nums.keep h hb
            | 6, h => exact Byts.keep h hb
            | 7, h => exact h
            | 8, h => exact h
            | 9, h => exact Nums.keep h hb
            | 10, h => exact Byts.keep h hb
            | 11, h => exact h
            | 12, h => exact h
            | 13, h => exact Nums.keep h hb
            | 14, h => exact Byts.keep h hb
            | _ + 15, h => exact Byts.keep h hb
          · intro a w1 hat
            have h1 : a.tmps.getD 3 undef = vv := hat.base 3 (by kernel_rfl)
            (have h11 := h1; rw [Array.getD_eq_getD_getElem?] at h11)
            rw [if_pos (by rfl)]
            go_simp
            exact ⟨_, rfl, Below.refl _ _, hvl.keep hat.since⟩
          · intro a w1 hat
            have h1 : a.tmps.getD 5 undef = .pointer (some ⟨wr.heap.size, 0, none⟩) := hat.base 5 (by kernel_rfl)
            (rw [if_pos (by rfl)]; go_simp; exact Below.refl _ _)
          · intro a w1 hat
            have h1 : a.tmps.getD 27 undef = .pointer (some ⟨wr.heap.size, 1, none⟩) := hat.dep 1 27 (by kernel_rfl) (by kernel_rfl)
            have hc := cell_keep (hbl.cell 1) hat.since
            (rw [if_pos (by rfl)]; go_simp; exact Below.refl _ _)
          · intro a w1 hat
            have h1 : a.tmps.getD 5 undef = .pointer (some ⟨wr.heap.size, 0, none⟩) := hat.base 5 (by kernel_rfl)
            (rw [if_pos (by rfl)]; go_simp; exact Below.refl _ _)
          · intro a w1 hat
            have h1 : a.tmps.getD 29 undef = .pointer (some ⟨wr.heap.size, 2, none⟩) := hat.dep 3 29 (by kernel_rfl) (by kernel_rfl)
            have hc := cell_keep (hbl.cell 2) hat.since
            (rw [if_pos (by rfl)]; go_simp; exact Below.refl _ _)
          · intro a w1 hat
            have h00 : a.tmps.getD 28 undef = .int .i64 lid := hat.dep 2 28 (by kernel_rfl) (by kernel_rfl)
            (have h01 := h00; rw [Array.getD_eq_getD_getElem?] at h01)
            have h10 : a.tmps.getD 30 undef = .int .i64 data := hat.dep 4 30 (by kernel_rfl) (by kernel_rfl)
            (have h11 := h10; rw [Array.getD_eq_getD_getElem?] at h11)
            rw [if_pos (by rfl)]
            go_simp
            exact ⟨_, rfl, below_new _ _, Nums.new2 _ _ _ _⟩
          · intro a w1 hat
            have hx : Byts (w.heap.size) (pre) (a.tmps.getD 26 undef) w1 := hat.dep 0 26 (by kernel_rfl) (by kernel_rfl)
            have hy : Nums [lid, data] (a.tmps.getD 31 undef) w1 := hat.dep 5 31 (by kernel_rfl) (by kernel_rfl)
            generalize h10 : a.tmps.getD 26 undef = x at hx
            (have h11 := h10; rw [Array.getD_eq_getD_getElem?] at h11)
            generalize h20 : a.tmps.getD 31 undef = y at hy
            (have h21 := h20; rw [Array.getD_eq_getD_getElem?] at h21)
            rw [if_pos (by rfl)]
            go_simp
            refine (put_byts wl.heap.size 4 4 (pre) [lid, data] _ _ w1 (by rfl) hat.since.size hx.rd hy (by ((try simp only [List.length_append, putB_length, List.length_cons, List.length_nil]); omega)) (by simp)).mono ?_
            rintro r w3 ⟨u, rfl, hu, hb⟩
            exact ⟨u, rfl, hb, by first | exact hu | simpa only [List.append_assoc] using hu⟩
          · intro a w1 hat
            have h1 : a.tmps.getD 5 undef = .pointer (some ⟨wr.heap.size, 0, none⟩) := hat.base 5 (by kernel_rfl)
            (rw [if_pos (by rfl)]; go_simp; exact Below.refl _ _)
          · intro a w1 hat
            have h1 : a.tmps.getD 33 undef = .pointer (some ⟨wr.heap.size, 0, none⟩) := hat.dep 7 33 (by kernel_rfl) (by kernel_rfl)
            have hc := cell_keep (hbl.cell 0) hat.since
            (rw [if_pos (by rfl)]; go_simp; exact Below.refl _ _)
          · intro a w1 hat
            have h00 : a.tmps.getD 34 undef = .int .i64 lkind := hat.dep 8 34 (by kernel_rfl) (by kernel_rfl)
            (have h01 := h00; rw [Array.getD_eq_getD_getElem?] at h01)
            rw [if_pos (by rfl)]
            go_simp
            exact ⟨_, rfl, below_new _ _, Nums.new2 _ _ _ _⟩
          · intro a w1 hat
            have hx : Byts (wl.heap.size) (pre ++ putB 4 [lid, data]) (a.tmps.getD 32 undef) w1 := hat.dep 6 32 (by kernel_rfl) (by kernel_rfl)
            have hy : Nums [lkind, 0] (a.tmps.getD 35 undef) w1 := hat.dep 9 35 (by kernel_rfl) (by kernel_rfl)
            generalize h10 : a.tmps.getD 32 undef = x at hx
            (have h11 := h10; rw [Array.getD_eq_getD_getElem?] at h11)
            generalize h20 : a.tmps.getD 35 undef = y at hy
            (have h21 := h20; rw [Array.getD_eq_getD_getElem?] at h21)
            rw [if_pos (by rfl)]
            go_simp
            refine (put_byts wl.heap.size 1 1 (pre ++ putB 4 [lid, data]) [lkind, 0] _ _ w1 (by rfl) hat.since.size hx.rd hy (by ((try simp only [List.length_append, putB_length, List.length_cons, List.length_nil]); omega)) (by simp)).mono ?_
            rintro r w3 ⟨u, rfl, hu, hb⟩
            exact ⟨u, rfl, hb, by first | exact hu | simpa only [List.append_assoc] using hu⟩
          · intro a w1 hat
            have h1 : a.tmps.getD 5 undef = .pointer (some ⟨wr.heap.size, 0, none⟩) := hat.base 5 (by kernel_rfl)
            (rw [if_pos (by rfl)]; go_simp; exact Below.refl _ _)
          · intro a w1 hat
            have h1 : a.tmps.getD 37 undef = .pointer (some ⟨wr.heap.size, 3, none⟩) := hat.dep 11 37 (by kernel_rfl) (by kernel_rfl)
            have hc := cell_keep (hbl.cell 3) hat.since
            (rw [if_pos (by rfl)]; go_simp; exact Below.refl _ _)
          · intro a w1 hat
            have h00 : a.tmps.getD 38 undef = .int .i64 cost := hat.dep 12 38 (by kernel_rfl) (by kernel_rfl)
            (have h01 := h00; rw [Array.getD_eq_getD_getElem?] at h01)
            rw [if_pos (by rfl)]
            go_simp
            exact ⟨_, rfl, below_new _ _, Nums.new1 _ _ _⟩
          · intro a w1 hat
            have hx : Byts (wl.heap.size) (pre ++ putB 4 [lid, data] ++ putB 1 [lkind, 0]) (a.tmps.getD 36 undef) w1 := hat.dep 10 36 (by kernel_rfl) (by kernel_rfl)
            have hy : Nums [cost] (a.tmps.getD 39 undef) w1 := hat.dep 13 39 (by kernel_rfl) (by kernel_rfl)
            generalize h10 : a.tmps.getD 36 undef = x at hx
            (have h11 := h10; rw [Array.getD_eq_getD_getElem?] at h11)
            generalize h20 : a.tmps.getD 39 undef = y at hy
            (have h21 := h20; rw [Array.getD_eq_getD_getElem?] at h21)
            rw [if_pos (by rfl)]
            go_simp
            refine (put_byts wl.heap.size 2 2 (pre ++ putB 4 [lid, data] ++ putB 1 [lkind, 0]) [cost] _ _ w1 (by rfl) hat.since.size hx.rd hy (by ((try simp only [List.length_append, putB_length, List.length_cons, List.length_nil]); omega)) (by simp)).mono ?_
            rintro r w3 ⟨u, rfl, hu, hb⟩
            exact ⟨u, rfl, hb, by first | exact hu | simpa only [List.append_assoc] using hu⟩
          · intro a w1 hat
            have h1 : Byts (wl.heap.size) (pre ++ putB 4 [lid, data] ++ putB 1 [lkind, 0] ++ putB 2 [cost]) (a.tmps.getD 40 undef) w1 := hat.dep 14 40 (by kernel_rfl) (by kernel_rfl)
            generalize h10 : a.tmps.getD 40 undef = x at h1
            (have h11 := h10; rw [Array.getD_eq_getD_getElem?] at h11)
            rw [if_pos (by rfl)]
            go_simp
            exact ⟨_, rfl, Below.refl _ _, by first | exact h1 | simpa only [List.append_assoc] using h1⟩
          intro vs wx hwx hF
          have hv0 : Byts (w.heap.size) (pre) (vs 0) wx := hF 0 (by decide)
          have hv1 : vs 1 = .pointer (some ⟨wr.heap.size, 1, none⟩) := hF 1 (by decide)
          have hv2 : vs 2 = .int .i64 lid := hF 2 (by decide)
          have hv3 : vs 3 = .pointer (some ⟨wr.heap.size, 2, none⟩) := hF 3 (by decide)
          have hv4 : vs 4 = .int .i64 data := hF 4 (by decide)
          have hv5 : Nums [lid, data] (vs 5) wx := hF 5 (by decide)
          have hv6 : Byts wl.heap.size (pre ++ putB 4 [lid, data]) (vs 6) wx := hF 6 (by decide)
          have hv7 : vs 7 = .pointer (some ⟨wr.heap.size, 0, none⟩) := hF 7 (by decide)
          have hv8 : vs 8 = .int .i64 lkind := hF 8 (by decide)
          have hv9 : Nums [lkind, 0] (vs 9) wx := hF 9 (by decide)
          have hv10 : Byts wl.heap.size (pre ++ putB 4 [lid, data] ++ putB 1 [lkind, 0]) (vs 10) wx := hF 10 (by decide)
          have hv11 : vs 11 = .pointer (some ⟨wr.heap.size, 3, none⟩) := hF 11 (by decide)
          have hv12 : vs 12 = .int .i64 cost := hF 12 (by decide)
          have hv13 : Nums [cost] (vs 13) wx := hF 13 (by decide)
          have hv14 : Byts wl.heap.size (pre ++ putB 4 [lid, data] ++ putB 1 [lkind, 0] ++ putB 2 [cost]) (vs 14) wx := hF 14 (by decide)
          have hv15 : Byts (wl.heap.size) (pre ++ putB 4 [lid, data] ++ putB 1 [lkind, 0] ++ putB 2 [cost]) (vs 15) wx := hF 15 (by decide)
          simp only [putAll, Act.put, List.setIfInBounds_toArray, List.set_cons_zero, List.set_cons_succ, Nat.zero_add, Nat.reduceAdd]
          generalize vs 0 = v0 at hv0 ⊢
          generalize vs 1 = v1 at hv1 ⊢
          generalize vs 2 = v2 at hv2 ⊢
          generalize vs 3 = v3 at hv3 ⊢
          generalize vs 4 = v4 at hv4 ⊢
          generalize vs 5 = v5 at hv5 ⊢
          generalize vs 6 = v6 at hv6 ⊢
          generalize vs 7 = v7 at hv7 ⊢
          generalize vs 8 = v8 at hv8 ⊢
          generalize vs 9 = v9 at hv9 ⊢
          generalize vs 10 = v10 at hv10 ⊢
          generalize vs 11 = v11 at hv11 ⊢
          generalize vs 12 = v12 at hv12 ⊢
          generalize vs 13 = v13 at hv13 ⊢
          generalize vs 14 = v14 at hv14 ⊢
          generalize vs 15 = v15 at hv15 ⊢
          subst hv1
          subst hv2
          subst hv3
          subst hv4
          subst hv7
          subst hv8
          subst hv11
          subst hv12
          clear hF
          have hz : w.heap.size ≤ wl.heap.size := Nat.le_trans HW.out.size (Nat.le_trans HB3.out.size (Nat.le_trans hb.out.size hBl.size))
          have HN := hide (show Byts w.heap.size (putB 4 [(links.length : Int)] ++ (links.take (k + 1)).flatMap linkB) v15 wx by
            have e : putB 4 [(links.length : Int)] ++ (links.take (k + 1)).flatMap linkB = pre ++ putB 4 [lid, data] ++ putB 1 [lkind, 0] ++ putB 2 [cost] := by
              rw [take_snoc _ _ _ HX.out, List.flatMap_append, ← List.append_assoc, HPRE.out]
              simp only [List.flatMap_cons, List.flatMap_nil, linkB, List.append_nil, List.append_assoc]
            rw [e]
            exact hv15.mono hz)
          have HNB := hide (show Below W3.heap.size W3 wx from below0 (below0 hb.out hBl) hwx)
          go_wp2
          go_roundw
          case rel => exact ⟨k + 1, _, by omega, by go_num, rfl, HN, HNB⟩
          case measure => (simp [intOf] <;> omega)
        · have hkl : links.take k = links := List.take_of_length_le (by omega)
          rw [hkl] at hv
          have HK1 := hide (show kind = 1 from eq_of_beq HK.out)
          go_wp2
          go_meet
          refine ⟨hide ?_, hide ?_⟩
          · rw [bodyB, if_pos HK1.out]
            exact hv.out
          · exact below0 HB3.out hb.out
    | false =>
      have hk : kind ≠ 1 := fun e => by have := HK.out; rw [e] at this; cases this
      have hM : Nums mem (.slice B mem.length d) W := ⟨B, d, rfl, (HM.out.below HW.out).more HW.out.size⟩
      go_wp2_with (go_at_call 125; refine (put_byts w.heap.size 4 4 [] mem _ _ W (by rfl) HW.out.size (Rd.nil _ _) hM (by simp) (by omega)).mono ?_; rintro r W3 ⟨v3, rfl, hv3, hb3⟩)
      go_meet
      refine ⟨hide ?_, hide hb3⟩
      rw [bodyB, if_neg hk]
      exact hv3
  case rest =>
  obtain ⟨hv, hb⟩ := hcut
  have hbl0 := bodyB_length ⟨⟨age, kind, id, adv, seq, sum, long⟩, links, mem⟩ h1 h2
  have HBB := hide (show allB ⟨⟨age, kind, id, adv, seq, sum, long⟩, links, mem⟩ = headB ⟨age, kind, id, adv, seq, 0, 20 + (bodyB ⟨⟨age, kind, id, adv, seq, sum, long⟩, links, mem⟩).length⟩ ++ bodyB ⟨⟨age, kind, id, adv, seq, sum, long⟩, links, mem⟩ from rfl)
  generalize bodyB ⟨⟨age, kind, id, adv, seq, sum, long⟩, links, mem⟩ = body at hv hbl0 HBB
  obtain ⟨A9, c9, hv3, ho3⟩ := hv.out
  subst hv3
  have hbw := HB.out.below hb.out HB.out.lt
  have e0 := hbw.cell 0
  have e1 := hbw.cell 1
  have e2 := hbw.cell 2
  have e3 := hbw.cell 3
  have e4 := hbw.cell 4
  have e5 := hbw.cell 5
  have e6 := hbw.cell 6
  clear c0 c1 c2 c3 c4 c5 c6 c7 c8
  have HO3 := hide ho3
  clear ho3 hbw
  go_upto_region 11 with (fail)
  have hbh := Blk.new wc 34 (HD.arr ⟨age, kind, id, adv, seq, sum, long⟩)
  have hBh := below_new wc (.cells (HD.arr ⟨age, kind, id, adv, seq, sum, long⟩) 34)
  generalize wc.alloc (.cells (HD.arr ⟨age, kind, id, adv, seq, sum, long⟩) 34) = wh at hbh hBh ⊢
  have hlen : IntKind.i64.wrap (20 + (body.length : Int)) = 20 + (body.length : Int) := wraps_i64 _ (by omega) (by omega)
  have f5 := hbh.cell 5
  have f6 := hbh.cell 6
  have fr := hbh.frozen
  clear e0 e1 e2 e3 e4 e5 e6
  go_upto_region 12 with (fail)
  have hbs : Blk ((wh.setCell ⟨wc.heap.size, 5, none⟩ (.int .i64 0)).setCell ⟨wc.heap.size, 6, none⟩ (.int .i64 (20 + (body.length : Int)))) wc.heap.size 34 (HD.arr ⟨age, kind, id, adv, seq, 0, 20 + body.length⟩) := (hbh.set_ 5 _).set_ 6 _
  have hBs := (hBh.setCell (p := ⟨wc.heap.size, 5, none⟩) (Nat.le_refl _) (.int .i64 0)).setCell (p := ⟨wc.heap.size, 6, none⟩) (Nat.le_refl _) (.int .i64 (20 + (body.length : Int)))
  generalize (wh.setCell ⟨wc.heap.size, 5, none⟩ (.int .i64 0)).setCell ⟨wc.heap.size, 6, none⟩ (.int .i64 (20 + (body.length : Int))) = ws at hbs hBs ⊢
  clear f5 f6 fr hbh hBh
  have e0 := hbs.cell 0
  have e1 := hbs.cell 1
  have e2 := hbs.cell 2
  have e3 := hbs.cell 3
  have e4 := hbs.cell 4
  have e5 := hbs.cell 5
  have e6 := hbs.cell 6
  have hput := putHead_any ⟨age, kind, id, adv, seq, 0, 20 + body.length⟩ ws
  have hhl : (headB ⟨age, kind, id, adv, seq, 0, 20 + body.length⟩).length = 20 := by simp [headB, putB_length]
  generalize headB ⟨age, kind, id, adv, seq, 0, 20 + body.length⟩ = hd at hput hhl HBB
  have HBS := hide hBs
  have HP := hide hput
  clear hput hBs hbs
  go_upto_region 13 with (first
    | (at_builtin
       refine wpList_append_any _ rfl (.tmp 53) (.tmp 54) 42 rfl ws.heap.size 5 i0 _ 1 1 Try.underlying42 hi hz0 hz1 hz2 rfl (by omega) (.slice A5 20 c5) 20 (u8s hd) rfl ho5
         w5.heap.size A9 body.length c9 (u8s body) rfl hr9 (u8s_one _) (by simp only [maxLen]; omega) (by omega) hb5.size ?_
       intro A6 c6 w6 ho6 hg6 hl6
       have HB6 := hide (hb5.grown hg6 hb5.size (fun g hg => (own_base ho5 hg).1))
       have HO6 := hide ho6
       clear ho6 hg6 hl6)
    | (go_at_call 95; refine HP.out.mono ?_; rintro r w5 ⟨v5, rfl, ⟨A5, c5, rfl, ho5⟩, hb5⟩; rw [hhl] at ho5 ⊢; have hbw5 := HBS.out.trans (hb5.mono HBS.out.size); have hr9 := ((Reads.of_own HO3.out).below hbw5).more hbw5.size))
  clear e0 e1 e2 e3 e4 e5 e6
  obtain ⟨g6, hg6, hgb6, hgl6⟩ := own_spare HO6.out (by omega)
  subst hg6
  have hq6 : 20 + body.length ≤ c6 := by
    rcases HO6.out.2 with ⟨h0, _⟩ | ⟨g', cap, cur, h0, _, _, h1, _⟩
    · cases h0
    · cases h0; exact h1
  have HBY := hide (allB_byte ⟨⟨age, kind, id, adv, seq, sum, long⟩, links, mem⟩)
  have hll : (hd ++ body).length = 20 + body.length := by rw [List.length_append, hhl]
  have HO6' := hide (show w6.ownsRow ws.heap.size 5 1 (.slice (some ⟨g6, 0, none⟩) (20 + body.length) c6) (20 + body.length) (u8s (hd ++ body)) by rw [u8s_append]; exact HO6.out)
  clear HO6
  rw [HBB.out] at HBY
  have HSB := hide (show lsaB ⟨⟨age, kind, id, adv, seq, sum, long⟩, links, mem⟩ = (hd ++ body).take 2 ++ fillF ((hd ++ body).drop 2) 14 by rw [lsaB, HBB.out])
  clear HBB
  generalize hd ++ body = al at HBY HO6' HSB hll
  have HLL := hide hll
  have hr6 := Reads.of_own HO6'.out
  have HR2 := hide (show Reads w6 w6.heap.size 1 (some ⟨g6, 2, none⟩) (18 + body.length) (u8s (al.drop 2)) by
    have := hr6.sub (i := 2) (m := 18 + body.length) (by omega) (by omega)
    rw [Nat.zero_add] at this
    have e : ((u8s al).drop 2).take (18 + body.length) = u8s (al.drop 2) := by
      rw [List.take_of_length_le (by rw [List.length_drop]; simp only [u8s, List.length_map]; omega)]
      simp only [u8s, List.map_drop]
    rw [e] at this
    exact this)
  have HR1 := hide (show Reads w6 w6.heap.size 1 (some ⟨g6, 0, none⟩) 2 (u8s (al.take 2)) by
    have := hr6.take (k := 2) (by omega)
    have e : (u8s al).take (2 * 1) = u8s (al.take 2) := by simp only [u8s, List.map_take]
    rw [e] at this
    exact this)
  clear hr6 hll HO6'
  obtain ⟨m, hm⟩ : ∃ m, m = 18 + body.length := ⟨_, rfl⟩
  have hn6 : 20 + body.length = m + 2 := by omega
  rw [hn6] at hq6 ⊢
  obtain ⟨k6, rfl⟩ : ∃ k, c6 = k + 2 := ⟨c6 - 2, by omega⟩
  have z1 : (2 : Int) ≤ ((m + 2 : Nat) : Int) := by omega
  have z2 : ((m + 2 : Nat) : Int) ≤ ((k6 + 2 : Nat) : Int) := by omega
  go_upto_region 14 with (go_at_call 138; refine (fill_any (some ⟨g6, 2, none⟩) (18 + body.length) k6 14 (al.drop 2) w6 (by omega) (by omega) HR2.out (fun z hz => HBY.out z (List.mem_of_mem_drop hz))).mono ?_; rintro r w7 ⟨A7, c7, rfl, ho7, hb7⟩)
  have HO7 := hide ho7
  have HB7 := hide hb7
  obtain ⟨g7, hg7, hgb7, hgl7⟩ := own_spare ho7 (by omega)
  subst hg7
  clear ho7 hb7
  have hr1 := ((HR1.out.below HB7.out).more HB7.out.size)
  have hr7 := Reads.of_own HO7.out
  go_wp2_with (
    at_builtin
    refine wpList_append_grows _ rfl (.tmp 63) (.tmp 64) 42 rfl 5 i0 _ 1 1 Try.underlying42 hi hz0 hz1 hz2 rfl (by omega) (some ⟨g6, 0, none⟩) 2 2 (u8s (al.take 2)) rfl (fun e => nomatch e) hr1.1
      (fun b e => by cases e; exact reads_cells hr1) ⟨g7, 0, none⟩ (18 + body.length) c7 (u8s (fillF (al.drop 2) 14)) rfl hr7.1 (reads_cells hr7) (u8s_one _) (by omega) (by simp only [maxLen]; omega) (by omega) ?_
    intro v8 w8 ho8 hg8)
  obtain ⟨A8, c8, hv8⟩ := own_form ho8
  subst hv8
  go_ret
  have hb8 : Below w7.heap.size w7 w8 := (Below.refl w7.heap.size w7).grown hg8 (Nat.le_refl _) (fun k hk => nomatch hk)
  have hA := below0 (below0 (below0 (below0 (below0 HW.out hb.out) HBS.out) HB6.out) HB7.out) hb8
  refine ⟨.slice A8 (2 + (18 + body.length)) c8, rfl, ?_, hA⟩
  have hlen8 : (lsaB ⟨⟨age, kind, id, adv, seq, sum, long⟩, links, mem⟩).length = 2 + (18 + body.length) := by
    have h1 := HO7.out.1
    rw [HSB.out, List.length_append, List.length_take, HLL.out]
    simp only [u8s, List.length_map] at h1
    rw [h1]; omega
  rw [HSB.out] at hlen8 ⊢
  refine ⟨A8, c8, by rw [hlen8], ?_⟩
  rw [hlen8, u8s_append]
  exact own_mono ho8 (Nat.le_trans HW.out.size (Nat.le_trans hb.out.size (Nat.le_trans HBS.out.size (Nat.le_trans HB6.out.size HB7.out.size))))
end Go.Proofs.Ytdenfgnkbfbpmaa
