/-
  The reference's Acks: rows of a network and a head; Of and Drop.
-/
import Derived.Test.YtlclifhpmnfopaaDoorB
namespace Go.Proofs.YtlclifhpmnfopaaDoor
open Go.RowKit

abbrev Rw : Type := Int × Hd
def Rw.vals (r : Rw) : List Value := .int .i64 r.1 :: Hd.vals r.2
abbrev Rw.agg (r : Rw) : Value := .agg #[.int .i64 r.1, .int .i64 r.2.1, .int .i64 r.2.2.1, .int .i64 r.2.2.2.1, .int .i64 r.2.2.2.2.1, .int .i64 r.2.2.2.2.2.1, .int .i64 r.2.2.2.2.2.2.1, .int .i64 r.2.2.2.2.2.2.2]
def rowsC (l : List Rw) : List Value := l.flatMap Rw.vals
theorem rowsC_append (a b : List Rw) : rowsC (a ++ b) = rowsC a ++ rowsC b := by simp [rowsC]
theorem rowsC_length (l : List Rw) : (rowsC l).length = l.length * 8 := by
  induction l with
  | nil => rfl
  | cons h l ih => simp only [rowsC, List.flatMap_cons, List.length_append] at ih ⊢; rw [ih]; simp [Rw.vals, Hd.vals]; omega
theorem rowsC_at (l : List Rw) (k j : Nat) (h : Rw) (hk : l[k]? = some h) (hj : j < 8) : (rowsC l)[k * 8 + j]? = h.vals[j]? := by
  induction l generalizing k with
  | nil => simp at hk
  | cons x l ih =>
    cases k with
    | zero =>
      simp only [List.getElem?_cons_zero, Option.some.injEq] at hk
      subst hk
      simp only [rowsC, List.flatMap_cons, Nat.zero_mul, Nat.zero_add]
      rw [List.getElem?_append_left (by simpa [Rw.vals, Hd.vals] using hj)]
    | succ k =>
      simp only [List.getElem?_cons_succ] at hk
      have := ih k hk
      simp only [rowsC, List.flatMap_cons] at this ⊢
      rw [List.getElem?_append_right (by simp [Rw.vals, Hd.vals]; omega), ← this]
      congr 1
      simp [Rw.vals, Hd.vals]
      omega

def RwAt (w : World) (b o : Nat) (h : Rw) : Prop :=
  w.cell? ⟨b, o, none⟩ = some (.int .i64 h.1) ∧ w.cell? ⟨b, o + 1, none⟩ = some (.int .i64 h.2.1) ∧ w.cell? ⟨b, o + 2, none⟩ = some (.int .i64 h.2.2.1) ∧ w.cell? ⟨b, o + 3, none⟩ = some (.int .i64 h.2.2.2.1) ∧
  w.cell? ⟨b, o + 4, none⟩ = some (.int .i64 h.2.2.2.2.1) ∧ w.cell? ⟨b, o + 5, none⟩ = some (.int .i64 h.2.2.2.2.2.1) ∧ w.cell? ⟨b, o + 6, none⟩ = some (.int .i64 h.2.2.2.2.2.2.1) ∧ w.cell? ⟨b, o + 7, none⟩ = some (.int .i64 h.2.2.2.2.2.2.2)

theorem RwAt.of_cells {w : World} {b o : Nat} {x : Rw} (h : ∀ j (hj : j < 8), w.cell? ⟨b, o + j, none⟩ = some (x.vals[j]'(by simpa [Rw.vals, Hd.vals] using hj))) : RwAt w b o x :=
  ⟨h 0 (by omega), h 1 (by omega), h 2 (by omega), h 3 (by omega), h 4 (by omega), h 5 (by omega), h 6 (by omega), h 7 (by omega)⟩
theorem Reads.row_at {w : World} {B n k : Nat} {A : Option Addr} {rs : List Rw} (h : Reads w B 8 A n (rowsC rs)) (hk : k < n) :
    ∃ b off x, A = some ⟨b, off, none⟩ ∧ b < B ∧ rs[k]? = some x ∧ RwAt w b (off + k * 8) x := by
  obtain ⟨b, off, e, hb, hc⟩ := h.2 (by omega)
  have hl := h.1
  rw [rowsC_length] at hl
  have hlen : k < rs.length := by omega
  refine ⟨b, off, rs[k], e, hb, List.getElem?_eq_getElem hlen, RwAt.of_cells fun j hj => ?_⟩
  rw [Nat.add_assoc]
  exact hc (k * 8 + j) _ ((rowsC_at rs k j _ (List.getElem?_eq_getElem hlen) hj).trans (List.getElem?_eq_getElem (by simpa [Rw.vals, Hd.vals] using hj)))
theorem RwAt.below {w w' : World} {B b o : Nat} {h : Rw} (hh : RwAt w b o h) (hb : Below B w w') (hB : b < B) : RwAt w' b o h := by
  obtain ⟨h0, h1, h2, h3, h4, h5, h6, h7⟩ := hh
  exact ⟨(hb.cell hB).trans h0, (hb.cell hB).trans h1, (hb.cell hB).trans h2, (hb.cell hB).trans h3, (hb.cell hB).trans h4, (hb.cell hB).trans h5, (hb.cell hB).trans h6, (hb.cell hB).trans h7⟩

/-- The reference's object behind px: its rows. -/
structure RefRep (w : World) (F : Nat → Prop) (px base : Nat) (rs : List Rw) (A : Option Addr) (c : Nat) : Prop where
  box : Blk w px 32 #[.slice A rs.length c]
  own : w.ownsRow base 56 8 (.slice A rs.length c) rs.length (rowsC rs)
  hpx : F px
  hrow : ∀ g, (Value.slice A rs.length c).ownBlock = some g → F g
  pxb : px < base
  lt : ∀ g, F g → g < w.heap.size
  bz : base ≤ w.heap.size
theorem RefRep.keep {w w' : World} {F G : Nat → Prop} {px base : Nat} {rs : List Rw} {A : Option Addr} {c : Nat} (h : RefRep w F px base rs A c) (hk : Keeps G w w') (hd : ∀ g, F g → ¬ G g) : RefRep w' F px base rs A c where
  box := hk.blk h.box (hd _ h.hpx)
  own := hk.own h.own (fun g hg => hd _ (h.hrow g hg))
  hpx := h.hpx
  hrow := h.hrow
  pxb := h.pxb
  lt := fun g hg => Nat.lt_of_lt_of_le (h.lt g hg) hk.size
  bz := Nat.le_trans h.bz hk.size
theorem RefRep.below {w w' : World} {F : Nat → Prop} {px base : Nat} {rs : List Rw} {A : Option Addr} {c : Nat} (h : RefRep w F px base rs A c) (hb : Below w.heap.size w w') : RefRep w' F px base rs A c :=
  h.keep (Keeps.of_below (F := fun _ => False) hb) (fun _ _ h => h)
theorem RefRep.cell {w : World} {F : Nat → Prop} {px base : Nat} {rs : List Rw} {A : Option Addr} {c : Nat} (h : RefRep w F px base rs A c) : w.cell? ⟨px, 0, none⟩ = some (.slice A rs.length c) := by
  have := h.box.cell 0; simpa using this

def ofF (l : Int) (rs : List Rw) : List Hd := (rs.filter fun r => r.1 == l).map (·.2)
theorem ofF_snoc (l : Int) (rs : List Rw) (r : Rw) : ofF l (rs ++ [r]) = if (r.1 == l) = true then ofF l rs ++ [r.2] else ofF l rs := by
  unfold ofF
  rw [List.filter_append]
  by_cases h : (r.1 == l) = true <;> simp [h]
theorem ofF_le (l : Int) (rs : List Rw) : (ofF l rs).length ≤ rs.length := by
  unfold ofF; rw [List.length_map]; exact List.length_filter_le _ _
theorem take_snoc {α : Type} (l : List α) (k : Nat) (x : α) (h : l[k]? = some x) : l.take (k + 1) = l.take k ++ [x] := by
  rw [List.take_add_one, h]; rfl

theorem head_infoD : (Tryd.prog.info? 46).map (fun i => (i.zero, i.size, i.bytes)) = some (some (.agg #[.int .i64 0, .int .i64 0, .int .i64 0, .int .i64 0, .int .i64 0, .int .i64 0, .int .i64 0]), 7, 56) := by kernel_rfl
/-- a slice of heads of the call's own -/
def OwnHeads (w0 : World) (hs : List Hd) (v : Value) (w : World) : Prop :=
  ∃ A c, v = .slice A hs.length c ∧ w.ownsRow w0.heap.size 46 7 v hs.length (heads hs) ∧ Below w0.heap.size w0 w

set_option maxHeartbeats 2000000 in
theorem of_any (F : Nat → Prop) (px base : Nat) (rs : List Rw) (A : Option Addr) (c : Nat) (l : Int) (w : World) (h : RefRep w F px base rs A c) (hn : rs.length ≤ 1000000) :
    Calls Tryd.prog 16 #[.pointer (some ⟨px, 0, none⟩), .int .i64 l] w fun r w' => ∃ v, r = .returned v ∧ OwnHeads w (ofF l rs) v w' := by
  have Hh := hide h
  have hpx : px < w.heap.size := h.box.lt
  have hcell := h.cell
  have hrd := Reads.of_own h.own
  clear h
  obtain ⟨i0, hi, hz0, hz1, hz2⟩ := info_parts head_infoD
  go_enter Tryd.func16, Tryd.ntmps16
  go_wp2_with fail
  go_loopw [5, 6] (fun v i wr => ∃ k : Nat, ∃ A1 c1, k ≤ rs.length ∧ i = .int .i64 k ∧ v = .slice A1 (ofF l (rs.take k)).length c1 ∧ wr.ownsRow w.heap.size 46 7 (.slice A1 (ofF l (rs.take k)).length c1) (ofF l (rs.take k)).length (heads (ofF l (rs.take k))) ∧ Below w.heap.size w wr) (fun _ i _ => rs.length - (intOf i).toNat)
  case atStart => exact ⟨0, none, 0, Nat.zero_le _, rfl, rfl, World.ownsRow_nil _ _ _ _, Below.refl _ _⟩
  case round =>
    obtain ⟨k, A1, c1, hk, rfl, rfl, hown, hb⟩ := hrel
    have hcw : wr.cell? ⟨px, 0, none⟩ = some (.slice A rs.length c) := (hb.cell (p := ⟨px, 0, none⟩) hpx).trans hcell
    by_cases hlt : k < rs.length
    · obtain ⟨b, off, x, rfl, hbb, hx, hat⟩ := hrd.row_at hlt
      obtain ⟨h0, h1, h2, h3, h4, h5, h6, h7⟩ := hat.below hb hbb
      have HT := hide (take_snoc _ _ _ hx)
      obtain ⟨x0, x1, x2, x3, x4, x5, x6, x7⟩ := x
      have hle : (ofF l (rs.take k)).length ≤ 1000000 := by
        have := ofF_le l (rs.take k)
        have : (rs.take k).length ≤ k := List.length_take_le _ _
        omega
      clear hat hx
      by_cases hxl : x0 = l
      · have HS := hide (show ofF l (rs.take (k + 1)) = ofF l (rs.take k) ++ [(x1, x2, x3, x4, x5, x6, x7)] by rw [HT.out, ofF_snoc, if_pos (by simp [hxl])])
        have ht : (x0 == l) = true := by simp [hxl]
        clear hxl
        go_wp2_with (first
          | (at_builtin
             refine wpList_append_any _ rfl (.tmp 26) (.tmp 35) 33 rfl w.heap.size 46 i0 _ 7 56 Tryd.underlying33 hi hz0 hz1 hz2 rfl (by omega) (.slice A1 (ofF l (rs.take k)).length c1) (ofF l (rs.take k)).length (heads (ofF l (rs.take k))) rfl
               (hown.alloc _) (wr.heap.size + 1) (some ⟨wr.heap.size, 0, none⟩) 1 1 (Hd.vals (x1, x2, x3, x4, x5, x6, x7)) rfl (Reads.new wr #[.int .i64 x1, .int .i64 x2, .int .i64 x3, .int .i64 x4, .int .i64 x5, .int .i64 x6, .int .i64 x7] 46 1 7 rfl) (by simp [Hd.vals, Value.oneCell']) (by simp only [maxLen]; omega) (by omega) (by simp; have := hb.size; omega) ?_
             intro A3 c3 w3 hown3 hg3 hloc3))
        have hb3 : Below w.heap.size w w3 := (hb.alloc hb.size _).grown hg3 (by have := hb.size; simp; omega) (fun g hg => (own_base hown hg).1)
        have ho3 : w3.ownsRow w.heap.size 46 7 (.slice A3 ((ofF l (rs.take k)).length + 1) c3) ((ofF l (rs.take k)).length + 1) (heads (ofF l (rs.take k) ++ [(x1, x2, x3, x4, x5, x6, x7)])) := by rw [heads_append]; simpa [heads] using hown3
        clear hown3 hg3 hloc3
        have HO := hide ho3
        clear ho3
        go_wp2
        go_roundw
        case rel => exact ⟨k + 1, A3, c3, by omega, by go_num, by rw [HS.out]; simp, by rw [HS.out]; simpa using HO.out, hb3⟩
        case measure => simp [intOf]; omega
      · have HS := hide (show ofF l (rs.take (k + 1)) = ofF l (rs.take k) by rw [HT.out, ofF_snoc, if_neg (by simp [hxl])])
        have ht : (x0 == l) = false := by simp [hxl]
        clear hxl
        go_wp2
        go_roundw
        case rel => exact ⟨k + 1, A1, c1, by omega, by go_num, by rw [HS.out], by rw [HS.out]; exact hown, hb⟩
        case measure => simp [intOf]; omega
    · have hke : rs.length ≤ k := by omega
      have HE := hide (show rs.take k = rs from List.take_of_length_le hke)
      go_wp2
      go_ret
      rw [HE.out] at hown
      exact ⟨.slice A1 (ofF l rs).length c1, by (show Ending.returned (.slice A1 (ofF l (rs.take k)).length c1) = _; rw [HE.out]), A1, c1, rfl, hown, hb⟩
end Go.Proofs.YtlclifhpmnfopaaDoor
