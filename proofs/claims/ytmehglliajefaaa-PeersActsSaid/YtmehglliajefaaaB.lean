/-
  A list of neighbors in memory; New, at, Hear.
-/
import Derived.Test.YtmehglliajefaaaA
namespace Go.Proofs.Ytmehglliajefaaa
open Go.RowKit

def ptr (o : Option Nat) : Value := .pointer (o.map fun g => ⟨g, 0, none⟩)
def peersCells (self lan : Int) (ad : Nat → Option Nat) : Array Value :=
  #[.int .i64 self, .int .i64 lan, ptr (ad 0), ptr (ad 1), ptr (ad 2), ptr (ad 3), ptr (ad 4), ptr (ad 5), ptr (ad 6), ptr (ad 7), ptr (ad 8), ptr (ad 9), ptr (ad 10), ptr (ad 11), ptr (ad 12), ptr (ad 13), ptr (ad 14), ptr (ad 15)]
theorem peersCells_at (self lan : Int) (ad : Nat → Option Nat) (i : Nat) (hi : i < 16) : (peersCells self lan ad)[2 + i]? = some (ptr (ad i)) := by
  have h : i = 0 ∨ i = 1 ∨ i = 2 ∨ i = 3 ∨ i = 4 ∨ i = 5 ∨ i = 6 ∨ i = 7 ∨ i = 8 ∨ i = 9 ∨ i = 10 ∨ i = 11 ∨ i = 12 ∨ i = 13 ∨ i = 14 ∨ i = 15 := by omega
  rcases h with rfl | rfl | rfl | rfl | rfl | rfl | rfl | rfl | rfl | rfl | rfl | rfl | rfl | rfl | rfl | rfl <;> rfl
def setAd (ad : Nat → Option Nat) (k : Nat) (o : Option Nat) : Nat → Option Nat := fun i => if i = k then o else ad i
theorem peersCells_set (self lan : Int) (ad : Nat → Option Nat) (k : Nat) (o : Option Nat) (hk : k < 16) : (peersCells self lan ad).setIfInBounds (2 + k) (ptr o) = peersCells self lan (setAd ad k o) := by
  have h : k = 0 ∨ k = 1 ∨ k = 2 ∨ k = 3 ∨ k = 4 ∨ k = 5 ∨ k = 6 ∨ k = 7 ∨ k = 8 ∨ k = 9 ∨ k = 10 ∨ k = 11 ∨ k = 12 ∨ k = 13 ∨ k = 14 ∨ k = 15 := by omega
  rcases h with rfl | rfl | rfl | rfl | rfl | rfl | rfl | rfl | rfl | rfl | rfl | rfl | rfl | rfl | rfl | rfl <;> rfl

structure PeersRep (w : World) (F : Nat → Prop) (pl : Nat) (me lan : Int) (ad : Nat → Option Nat) (ps : Nat → PV) : Prop where
  box : Blk w pl 57 (peersCells me lan ad)
  one : ∀ i g, i < 16 → ad i = some g → Blk w g 47 (ps i).arr ∧ F g ∧ g ≠ pl ∧ (ps i).id = i
  inj : ∀ i j g, i < 16 → j < 16 → ad i = some g → ad j = some g → i = j
  zero : ad 0 = none
  hpl : F pl
  lt : ∀ g, F g → g < w.heap.size
theorem PeersRep.keep {w w' : World} {F G : Nat → Prop} {pl : Nat} {me lan : Int} {ad : Nat → Option Nat} {ps : Nat → PV} (h : PeersRep w F pl me lan ad ps) (hk : Keeps G w w') (hd : ∀ g, F g → ¬ G g) : PeersRep w' F pl me lan ad ps where
  box := hk.blk h.box (hd _ h.hpl)
  one := fun i g hi hg => by
    obtain ⟨h1, h2, h3, h4⟩ := h.one i g hi hg
    exact ⟨hk.blk h1 (hd _ h2), h2, h3, h4⟩
  inj := h.inj
  zero := h.zero
  hpl := h.hpl
  lt := fun g hg => Nat.lt_of_lt_of_le (h.lt g hg) hk.size
theorem PeersRep.below {w w' : World} {F : Nat → Prop} {pl : Nat} {me lan : Int} {ad : Nat → Option Nat} {ps : Nat → PV} (h : PeersRep w F pl me lan ad ps) (hb : Below w.heap.size w w') : PeersRep w' F pl me lan ad ps :=
  h.keep (Keeps.of_below (F := fun _ => False) hb) (fun _ _ h => h)

theorem new_any (self lan : Int) (w : World) : Calls Try.prog 7 #[.int .i64 self, .int .i64 lan] w fun r w' => r = .returned (.pointer (some ⟨w.heap.size, 0, none⟩)) ∧
    PeersRep w' (fun x => x = w.heap.size) w.heap.size self lan (fun _ => none) (fun _ => default) ∧ Below w.heap.size w w' := by
  go_enter Try.func7, Try.ntmps7
  go_wp2_with fail
  go_ret
  have hb := Blk.new w 57 (peersCells self lan (fun _ => none))
  exact ⟨rfl, ⟨hb, (fun i g _ h => by cases h), (fun i j g _ _ h => by cases h), rfl, rfl, (fun g hg => by cases hg; exact hb.lt)⟩, below_new w _⟩

theorem at_nil (i : Int) (w : World) : Calls Try.prog 33 #[.pointer none, .int .i64 i] w fun r w' => r = .returned (.pointer none) ∧ w' = w := by
  go_enter Try.func33, Try.ntmps33
  go_wp2
  go_ret
  exact ⟨rfl, rfl⟩
theorem at_out (pl : Nat) (i : Int) (hi : i < 1 ∨ 15 < i) (w : World) : Calls Try.prog 33 #[.pointer (some ⟨pl, 0, none⟩), .int .i64 i] w fun r w' => r = .returned (.pointer none) ∧ w' = w := by
  go_enter Try.func33, Try.ntmps33
  have hc : i < 1 ∨ 1 ≤ i ∧ 15 < i := by omega
  rcases hc with h | ⟨h1, h2⟩
  · go_wp2
    go_ret
    exact ⟨rfl, rfl⟩
  · go_wp2
    go_ret
    exact ⟨rfl, rfl⟩
set_option maxHeartbeats 1000000 in
theorem at_in (pl : Nat) (self lan : Int) (ad : Nat → Option Nat) (q : Nat) (h1 : 1 ≤ q) (h2 : q ≤ 15) (w : World) (h : Blk w pl 57 (peersCells self lan ad)) :
    Calls Try.prog 33 #[.pointer (some ⟨pl, 0, none⟩), .int .i64 (q : Int)] w fun r w' => r = .returned (ptr (ad q)) ∧ w' = w := by
  have hc : w.cell? ⟨pl, 2 + q, none⟩ = some (ptr (ad q)) := (h.cell (2 + q)).trans (peersCells_at _ _ _ _ (by omega))
  clear h
  generalize ptr (ad q) = v at hc ⊢
  go_enter Try.func33, Try.ntmps33
  go_wp2
  go_ret
  exact ⟨rfl, rfl⟩

abbrev heardV (a b c d e : Bool) : Value := .agg #[.bool a, .bool b, .bool c, .bool d, .bool e]

set_option maxRecDepth 20000 in
set_option maxHeartbeats 2000000 in
theorem hear_nil (i every dead prio dr bdr now : Int) (A : Option Addr) (n c : Nat) (w : World) :
    Calls Try.prog 8 #[.pointer none, .int .i64 i, .agg #[.int .i64 every, .int .i64 dead, .int .i64 prio, .int .i64 dr, .int .i64 bdr, .slice A n c], .int .i64 now] w fun r w' =>
      r = .returned (heardV false false false false false) ∧ Below w.heap.size w w' := by
  go_enter Try.func8, Try.ntmps8
  go_wp2_with fail
  have hb := Blk.new (w.alloc (.cells #[.int .i64 every, .int .i64 dead, .int .i64 prio, .int .i64 dr, .int .i64 bdr, .slice A n c] 24)) 29 #[.bool false, .bool false, .bool false, .bool false, .bool false]
  have hz : (w.alloc (.cells #[.int .i64 every, .int .i64 dead, .int .i64 prio, .int .i64 dr, .int .i64 bdr, .slice A n c] 24)).heap.size = w.heap.size + 1 := by simp
  rw [hz] at hb
  refine bodyPost_ret (results_cell_row (fn := Try.f8) rfl _ _ _ 29 _ (0, 0) _ rfl hb Try.underlying29 rfl (by kernel_rfl)) rfl ?_
  exact ⟨rfl, ((Below.refl _ _).alloc (Nat.le_refl _) _).alloc (by simp) _⟩

/-- is a Hello taken? -/
def takes (self lan frm every dead dr bdr : Int) : Prop := frm ≠ self ∧ 1 ≤ frm ∧ frm ≤ 15 ∧ every = 2 ∧ dead = 8 ∧ okA lan dr ∧ okA lan bdr
instance (self lan frm every dead dr bdr : Int) : Decidable (takes self lan frm every dead dr bdr) := inferInstanceAs (Decidable (_ ∧ _))

set_option maxRecDepth 20000 in
set_option maxHeartbeats 4000000 in
theorem hear_no (pl : Nat) (self lan : Int) (frm every dead prio dr bdr now : Int) (A : Option Addr) (n c : Nat) (w : World) (hl0 : 0 ≤ lan) (hl1 : lan ≤ 3) (c0 : w.cell? ⟨pl, 0, none⟩ = some (.int .i64 self)) (c1 : w.cell? ⟨pl, 1, none⟩ = some (.int .i64 lan))
    (hno : ¬ takes self lan frm every dead dr bdr) :
    Calls Try.prog 8 #[.pointer (some ⟨pl, 0, none⟩), .int .i64 frm, .agg #[.int .i64 every, .int .i64 dead, .int .i64 prio, .int .i64 dr, .int .i64 bdr, .slice A n c], .int .i64 now] w fun r w' =>
      r = .returned (heardV false false false false false) ∧ Below w.heap.size w w' := by
  have hplt : pl < w.heap.size := by
    rcases Nat.lt_or_ge pl w.heap.size with h | h
    · exact h
    · simp [World.cell?, Array.getElem?_eq_none h] at c0
  have hcut : (frm = self ∨ frm ≠ self ∧ frm < 1 ∨ frm ≠ self ∧ 1 ≤ frm ∧ 15 < frm ∨ frm ≠ self ∧ 1 ≤ frm ∧ frm ≤ 15 ∧ every ≠ 2 ∨ frm ≠ self ∧ 1 ≤ frm ∧ frm ≤ 15 ∧ every = 2 ∧ dead ≠ 8) ∨ (frm ≠ self ∧ 1 ≤ frm ∧ frm ≤ 15 ∧ every = 2 ∧ dead = 8 ∧ ¬ okA lan dr) ∨ (frm ≠ self ∧ 1 ≤ frm ∧ frm ≤ 15 ∧ every = 2 ∧ dead = 8 ∧ okA lan dr ∧ ¬ okA lan bdr) := by
    unfold takes at hno
    by_cases h1 : okA lan dr
    · by_cases h2 : okA lan bdr
      · left
        simp only [h1, h2, and_true] at hno
        omega
      · simp only [h1, h2, not_true_eq_false, and_false, false_or, not_false_eq_true, and_true]
        omega
    · simp only [h1, not_false_eq_true, and_true, false_and, and_false, or_false]
      omega
  clear hno
  go_enter Try.func8, Try.ntmps8
  have HB2 := fun (o1 o2 : Obj) => hide (((Below.refl w.heap.size w).alloc (Nat.le_refl _) o1).alloc (by simp) o2)
  have hz : ∀ o1, (w.alloc o1).heap.size = w.heap.size + 1 := fun o1 => by simp
  have HBL := fun o1 cs => (hz o1) ▸ Blk.new (w.alloc o1) 29 cs
  clear hz
  rcases hcut with hcut | ⟨h1, h2, h3, h4, h5, h6⟩ | ⟨h1, h2, h3, h4, h5, h6, h7⟩
  · have hcut2 : (frm == self) = true ∨ (frm == self) = false ∧ (decide (frm < 1) = true ∨ decide (frm < 1) = false ∧ (decide (15 < frm) = true ∨ decide (15 < frm) = false ∧ ((every != 2) = true ∨ (every != 2) = false ∧ (dead != 8) = true))) := by
      simp only [beq_iff_eq, beq_eq_false_iff_ne, decide_eq_true_eq, decide_eq_false_iff_not, bne_iff_ne, bne_eq_false_iff_eq]
      omega
    clear hcut
    have HBL' := fun o1 => hide (HBL o1 #[.bool false, .bool false, .bool false, .bool false, .bool false])
    clear HBL
    rcases hcut2 with b1 | ⟨b1, b2 | ⟨b2, b3 | ⟨b3, b4 | ⟨b4, b5⟩⟩⟩⟩
    all_goals
      go_wp2_with fail
      refine bodyPost_ret (results_cell_row (fn := Try.f8) rfl _ _ _ 29 _ (0, 0) _ rfl (HBL' _).out Try.underlying29 rfl (by kernel_rfl)) rfl ?_
      exact ⟨rfl, (HB2 _ _).out⟩
  all_goals
    subst h4 h5
    have b1 : (frm == self) = false := by simpa using h1
    have HBL' := fun o1 => hide (HBL o1 #[.bool false, .bool false, .bool false, .bool false, .bool false])
    clear HBL h1
  · have HD := hide (decide_eq_false h6)
    clear h6
    go_wp2_with fail
    refine (who_any pl lan dr hl0 hl1 _ (cell_keep c1 (HB2 _ _).out)).mono ?_
    rintro r w1 ⟨rfl, rfl⟩
    rw [HD.out]
    go_wp2_with fail
    refine (who_any pl lan bdr hl0 hl1 _ (cell_keep c1 (HB2 _ _).out)).mono ?_
    rintro r w1 ⟨rfl, rfl⟩
    go_wp2_with fail
    refine bodyPost_ret (results_cell_row (fn := Try.f8) rfl _ _ _ 29 _ (0, 0) _ rfl (HBL' _).out Try.underlying29 rfl (by kernel_rfl)) rfl ?_
    exact ⟨rfl, (HB2 _ _).out⟩
  · have HD := hide (decide_eq_true h6)
    have HD2 := hide (decide_eq_false h7)
    clear h6 h7
    go_wp2_with fail
    refine (who_any pl lan dr hl0 hl1 _ (cell_keep c1 (HB2 _ _).out)).mono ?_
    rintro r w1 ⟨rfl, rfl⟩
    rw [HD.out]
    go_wp2_with fail
    refine (who_any pl lan bdr hl0 hl1 _ (cell_keep c1 (HB2 _ _).out)).mono ?_
    rintro r w1 ⟨rfl, rfl⟩
    rw [HD2.out]
    go_wp2_with fail
    refine bodyPost_ret (results_cell_row (fn := Try.f8) rfl _ _ _ 29 _ (0, 0) _ rfl (HBL' _).out Try.underlying29 rfl (by kernel_rfl)) rfl ?_
    exact ⟨rfl, (HB2 _ _).out⟩
end Go.Proofs.Ytmehglliajefaaa
