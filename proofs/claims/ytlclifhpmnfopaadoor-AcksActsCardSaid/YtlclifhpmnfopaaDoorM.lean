/-
  The reference's Drop, and the plain law: the reference's rows and the networks' heads.
-/
import Derived.Test.YtlclifhpmnfopaaDoorL
import Derived.Test.YtlclifhpmnfopaaDoorF
namespace Go.Proofs.YtlclifhpmnfopaaDoor
open Go.RowKit

def dropF (l : Int) (rs : List Rw) : List Rw := rs.filter fun r => !(r.1 == l)
theorem dropF_snoc (l : Int) (rs : List Rw) (r : Rw) : dropF l (rs ++ [r]) = if (r.1 == l) = true then dropF l rs else dropF l rs ++ [r] := by
  unfold dropF
  rw [List.filter_append]
  by_cases h : (r.1 == l) = true <;> simp [h]
theorem dropF_le (l : Int) (rs : List Rw) : (dropF l rs).length ≤ rs.length := List.length_filter_le _ _

theorem RefRep.set {w w3 : World} {F : Nat → Prop} {px base : Nat} {rs rs' : List Rw} {A A3 : Option Addr} {c c3 : Nat} (h : RefRep w F px base rs A c)
    (hb : Below w.heap.size w w3) (hown : w3.ownsRow w.heap.size 56 8 (.slice A3 rs'.length c3) rs'.length (rowsC rs')) :
    RefRep (w3.setCell ⟨px, 0, none⟩ (.slice A3 rs'.length c3)) (fun g => F g ∨ (Value.slice A3 rs'.length c3).ownBlock = some g) px base rs' A3 c3 where
  box := by
    have h1 := (Keeps.of_below (F := fun _ => False) hb).blk h.box (fun h => h)
    have h2 := h1.set_ 0 (.slice A3 rs'.length c3)
    simpa using h2
  own := ownsRow_setCell_below (own_mono hown h.bz) (a := ⟨px, 0, none⟩) h.pxb _
  hpx := .inl h.hpx
  hrow := fun g hg => .inr hg
  pxb := h.pxb
  lt := fun g hg => by
    have hsz : (w3.setCell ⟨px, 0, none⟩ (.slice A3 rs'.length c3)).heap.size = w3.heap.size := by simp [World.setCell]
    rw [hsz]
    rcases hg with hg | hg
    · exact Nat.lt_of_lt_of_le (h.lt g hg) hb.size
    · exact (own_base hown hg).2
  bz := by
    have hsz : (w3.setCell ⟨px, 0, none⟩ (.slice A3 rs'.length c3)).heap.size = w3.heap.size := by simp [World.setCell]
    rw [hsz]
    exact Nat.le_trans h.bz hb.size

set_option maxHeartbeats 2000000 in
theorem refDrop_any (F : Nat → Prop) (px base : Nat) (rs : List Rw) (A : Option Addr) (c : Nat) (l : Int) (w : World) (h : RefRep w F px base rs A c) (hn : rs.length ≤ 1000000) :
    Calls Tryd.prog 17 #[.pointer (some ⟨px, 0, none⟩), .int .i64 l] w fun r w' => r = .returned (.int .i64 ((rs.length : Int) - ((dropF l rs).length : Int))) ∧ RefAt w F px base (dropF l rs) w' := by
  have Hh := hide h
  have hpx : px < w.heap.size := h.box.lt
  have hcell := h.cell
  have hfz : w.frozen? ⟨px, 0, none⟩ = false := h.box.frozen 0
  have hrd := Reads.of_own h.own
  clear h
  obtain ⟨i0, hi, hz0, hz1, hz2⟩ := info_parts row_info
  go_enter Tryd.func17, Tryd.ntmps17
  go_wp2_with fail
  go_loopw [5, 6] (fun v i wr => ∃ k : Nat, ∃ A1 c1, k ≤ rs.length ∧ i = .int .i64 k ∧ v = .slice A1 (dropF l (rs.take k)).length c1 ∧ wr.ownsRow w.heap.size 56 8 (.slice A1 (dropF l (rs.take k)).length c1) (dropF l (rs.take k)).length (rowsC (dropF l (rs.take k))) ∧ Below w.heap.size w wr) (fun _ i _ => rs.length - (intOf i).toNat)
  case atStart => exact ⟨0, none, 0, Nat.zero_le _, rfl, rfl, World.ownsRow_nil _ _ _ _, Below.refl _ _⟩
  case round =>
    obtain ⟨k, A1, c1, hk, rfl, rfl, hown, hb⟩ := hrel
    have hcw : wr.cell? ⟨px, 0, none⟩ = some (.slice A rs.length c) := (hb.cell (p := ⟨px, 0, none⟩) hpx).trans hcell
    by_cases hlt : k < rs.length
    · obtain ⟨b, off, x, rfl, hbb, hx, hat⟩ := hrd.row_at hlt
      obtain ⟨h0, h1, h2, h3, h4, h5, h6, h7⟩ := hat.below hb hbb
      have HT := hide (take_snoc _ _ _ hx)
      obtain ⟨x0, x1, x2, x3, x4, x5, x6, x7⟩ := x
      have hle : (dropF l (rs.take k)).length ≤ 1000000 := by
        have := dropF_le l (rs.take k)
        have : (rs.take k).length ≤ k := List.length_take_le _ _
        omega
      clear hat hx
      by_cases hxl : x0 = l
      · have HS := hide (show dropF l (rs.take (k + 1)) = dropF l (rs.take k) by rw [HT.out, dropF_snoc, if_pos (by simp [hxl])])
        have ht : (x0 == l) = true := by simp [hxl]
        clear hxl
        go_wp2
        go_roundw
        case rel => exact ⟨k + 1, A1, c1, by omega, by go_num, by rw [HS.out], by rw [HS.out]; exact hown, hb⟩
        case measure => simp [intOf]; omega
      · have HS := hide (show dropF l (rs.take (k + 1)) = dropF l (rs.take k) ++ [(x0, x1, x2, x3, x4, x5, x6, x7)] by rw [HT.out, dropF_snoc, if_neg (by simp [hxl])])
        have ht : (x0 == l) = false := by simp [hxl]
        clear hxl
        go_wp2_with (first
          | (at_builtin
             refine wpList_append_any _ rfl (.tmp 27) (.tmp 35) 30 rfl w.heap.size 56 i0 _ 8 64 Tryd.underlying30 hi hz0 hz1 hz2 rfl (by omega) (.slice A1 (dropF l (rs.take k)).length c1) (dropF l (rs.take k)).length (rowsC (dropF l (rs.take k))) rfl
               (hown.alloc _) (wr.heap.size + 1) (some ⟨wr.heap.size, 0, none⟩) 1 1 (Rw.vals (x0, x1, x2, x3, x4, x5, x6, x7)) rfl (Reads.new wr #[.int .i64 x0, .int .i64 x1, .int .i64 x2, .int .i64 x3, .int .i64 x4, .int .i64 x5, .int .i64 x6, .int .i64 x7] 56 1 8 rfl) (by simp [Rw.vals, Hd.vals, Value.oneCell']) (by simp only [maxLen]; omega) (by omega) (by simp; have := hb.size; omega) ?_
             intro A3 c3 w3 hown3 hg3 hloc3))
        have hb3 : Below w.heap.size w w3 := (hb.alloc hb.size _).grown hg3 (by have := hb.size; simp; omega) (fun g hg => (own_base hown hg).1)
        have ho3 : w3.ownsRow w.heap.size 56 8 (.slice A3 ((dropF l (rs.take k)).length + 1) c3) ((dropF l (rs.take k)).length + 1) (rowsC (dropF l (rs.take k) ++ [(x0, x1, x2, x3, x4, x5, x6, x7)])) := by rw [rowsC_append]; simpa [rowsC] using hown3
        clear hown3 hg3 hloc3
        have HO := hide ho3
        clear ho3
        go_wp2
        go_roundw
        case rel => exact ⟨k + 1, A3, c3, by omega, by go_num, by rw [HS.out]; simp, by rw [HS.out]; simpa using HO.out, hb3⟩
        case measure => simp [intOf]; omega
    · have hke : rs.length ≤ k := by omega
      have HE := hide (show rs.take k = rs from List.take_of_length_le hke)
      rw [HE.out] at hown
      have hput := Hh.out.set hb hown
      have hRA : RefAt w F px base (dropF l rs) (wr.setCell ⟨px, 0, none⟩ (.slice A1 (dropF l rs).length c1)) := by
        refine ⟨_, _, _, hput, fun g hg => ?_, (Keeps.of_below hb).setCell (.inl Hh.out.hpx) _⟩
        rcases hg with hg | hg
        · exact .inl hg
        · exact .inr (own_base hown hg).1
      have HRA := hide hRA
      have hle : (dropF l rs).length ≤ rs.length := dropF_le l rs
      have hfw : wr.frozen? ⟨px, 0, none⟩ = false := (hb.frozen (p := ⟨px, 0, none⟩) hpx).trans hfz
      clear hRA hput
      have HE2 := hide (show (dropF l (rs.take k)).length = (dropF l rs).length by rw [HE.out])
      obtain ⟨z, hz⟩ : ∃ z, z = (dropF l rs).length := ⟨_, rfl⟩
      rw [HE2.out, ← hz]
      rw [← hz] at HRA hle
      have Hz := hide hz
      clear hz
      go_wp2
      go_ret
      exact ⟨ret_int (by rw [Hz.out]), HRA.out⟩

theorem mem_ofF (l : Int) (rs : List Rw) (h : Hd) : h ∈ ofF l rs ↔ (l, h) ∈ rs := by
  unfold ofF
  rw [List.mem_map]
  constructor
  · rintro ⟨⟨a, b⟩, hm, rfl⟩
    obtain ⟨h1, h2⟩ := List.mem_filter.1 hm
    have : a = l := by simpa using h2
    subst this
    exact h1
  · intro hm
    exact ⟨(l, h), List.mem_filter.2 ⟨hm, by simp⟩, rfl⟩
theorem ofF_addR (l : Int) (rs : List Rw) (h : Hd) : ofF l (addR rs (l, h)) = addH (ofF l rs) h := by
  unfold addR addH
  by_cases hm : (l, h) ∈ rs
  · rw [if_pos hm, if_pos ((mem_ofF l rs h).2 hm)]
  · rw [if_neg hm, if_neg (fun e => hm ((mem_ofF l rs h).1 e)), ofF_snoc, if_pos (by simp)]
theorem ofF_addR_other {l l' : Int} (hne : l' ≠ l) (rs : List Rw) (h : Hd) : ofF l' (addR rs (l, h)) = ofF l' rs := by
  unfold addR
  split
  · rfl
  · rw [ofF_snoc, if_neg (by simpa using fun e => hne e.symm)]
theorem ofF_laterR (l : Int) (hs : List Hd) : ∀ rs, ofF l (laterR l rs hs) = laterF (ofF l rs) hs := by
  induction hs with
  | nil => intro rs; rfl
  | cons h hs ih =>
    intro rs
    show ofF l (laterR l (addR rs (l, h)) hs) = laterF (addH (ofF l rs) h) hs
    rw [ih, ofF_addR]
theorem ofF_laterR_other {l l' : Int} (hne : l' ≠ l) (hs : List Hd) : ∀ rs, ofF l' (laterR l rs hs) = ofF l' rs := by
  induction hs with
  | nil => intro rs; rfl
  | cons h hs ih =>
    intro rs
    show ofF l' (laterR l (addR rs (l, h)) hs) = ofF l' rs
    rw [ih, ofF_addR_other hne]
theorem mem_addH (m : List Hd) (h x : Hd) (hx : x ∈ m) : x ∈ addH m h := by
  unfold addH; split
  · exact hx
  · exact List.mem_append_left _ hx
theorem mem_laterF (hs : List Hd) : ∀ (m : List Hd) (x : Hd), x ∈ m → x ∈ laterF m hs := by
  induction hs with
  | nil => intro m x hx; exact hx
  | cons h hs ih => intro m x hx; exact ih _ x (mem_addH m h x hx)
theorem mem_laterF' (hs : List Hd) : ∀ (m : List Hd) (x : Hd), x ∈ hs → x ∈ laterF m hs := by
  induction hs with
  | nil => intro m x hx; cases hx
  | cons h hs ih =>
    intro m x hx
    rcases List.mem_cons.1 hx with rfl | hx
    · exact mem_laterF hs _ _ (by unfold addH; split; · assumption
                                  · simp)
    · exact ih _ x hx
theorem laterF_same (hs : List Hd) : ∀ (m : List Hd), (∀ x ∈ hs, x ∈ m) → laterF m hs = m := by
  induction hs with
  | nil => intro m _; rfl
  | cons h hs ih =>
    intro m hm
    show laterF (addH m h) hs = m
    rw [addH, if_pos (hm h (by simp))]
    exact ih m (fun x hx => hm x (by simp [hx]))
theorem laterF_again (m hs : List Hd) : laterF (laterF m hs) hs = laterF m hs := laterF_same hs _ (fun x hx => mem_laterF' hs m x hx)
theorem ofF_dropF (l : Int) (rs : List Rw) : ofF l (dropF l rs) = [] := by
  unfold ofF dropF
  rw [List.filter_filter]
  simp
theorem ofF_dropF_other {l l' : Int} (hne : l' ≠ l) (rs : List Rw) : ofF l' (dropF l rs) = ofF l' rs := by
  unfold ofF dropF
  rw [List.filter_filter]
  congr 2
  funext r
  by_cases h : r.1 = l' <;> simp [h, hne]
theorem dropF_length (l : Int) (rs : List Rw) : (ofF l rs).length + (dropF l rs).length = rs.length := by
  unfold ofF dropF
  rw [List.length_map]
  induction rs with
  | nil => rfl
  | cons r rs ih => by_cases h : (r.1 == l) = true <;> simp [List.filter_cons, h] at * <;> omega
end Go.Proofs.YtlclifhpmnfopaaDoor
