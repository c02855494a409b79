/-
  acks.Way and the reference's Way; acks.New; the example.
-/
import Derived.Test.YtlclifhpmnfopaaDoorG
namespace Go.Proofs.YtlclifhpmnfopaaDoor
open Go.RowKit

def wayF (s : Int) (dr : Bool) (b : Int) : Int :=
  if b = 3 ∨ b = 4 then 2 else if b = 1 then (if s ≠ 3 ∨ dr = true then 1 else 0) else if b = 2 ∧ s = 3 ∧ dr = true then 1 else 0

set_option maxHeartbeats 1000000 in
theorem refWay_any (s : Int) (dr : Bool) (b : Int) (w : World) :
    Calls Tryd.prog 10 #[.int .i64 s, .bool dr, .int .i64 b] w fun r w' => r = .returned (.int .i64 (wayF s dr b)) ∧ Below w.heap.size w w' := by
  go_enter Tryd.func10, Tryd.ntmps10
  go_wp2
  all_goals go_ret
  all_goals refine ⟨ret_int ?_, Below.refl _ _⟩
  all_goals go_light
  all_goals grind [wayF]

def rowAt (k : Nat) : Int × Int × Int := tableL.getD k (0, 0, 0)
theorem table_cell (k j : Nat) (hk : k < 5) (hj : j < 3) : tableArr[k * 3 + j]? = some (.int .i64 (if j = 0 then (rowAt k).1 else if j = 1 then (rowAt k).2.1 else (rowAt k).2.2)) := by
  have h : k = 0 ∨ k = 1 ∨ k = 2 ∨ k = 3 ∨ k = 4 := by omega
  have h' : j = 0 ∨ j = 1 ∨ j = 2 := by omega
  rcases h with rfl | rfl | rfl | rfl | rfl <;> rcases h' with rfl | rfl | rfl <;> rfl

theorem row_way (s : Int) (dr : Bool) (k : Nat) (hk : k < 5) : wayF s dr (k : Int) = if s ≠ 3 then (rowAt k).2.2 else if dr = true then (rowAt k).1 else (rowAt k).2.1 := by
  have h : k = 0 ∨ k = 1 ∨ k = 2 ∨ k = 3 ∨ k = 4 := by omega
  by_cases hs : s = 3 <;> cases dr <;> rcases h with rfl | rfl | rfl | rfl | rfl <;> simp [wayF, rowAt, tableL, hs]

set_option maxHeartbeats 1000000 in
theorem way_any (s : Int) (dr : Bool) (b : Int) (w : World) (h : HasTable w) :
    Calls Tryd.prog 9 #[.int .i64 s, .bool dr, .int .i64 b] w fun r w' => r = .returned (.int .i64 (wayF s dr b)) ∧ Below w.heap.size w w' := by
  obtain ⟨t, f, hg⟩ := h
  go_enter Tryd.func9, Tryd.ntmps9
  by_cases hb : 0 ≤ b ∧ b < 5
  · obtain ⟨k, rfl⟩ : ∃ k : Nat, b = k := ⟨b.toNat, by omega⟩
    have hk : k < 5 := by omega
    have c0 : w.cell? ⟨0, k * 3, none⟩ = some (.int .i64 (rowAt k).1) := (cell_of_row w 0 (k * 3) _ t f hg).trans (table_cell k 0 hk (by omega))
    have c1 : w.cell? ⟨0, k * 3 + 1, none⟩ = some (.int .i64 (rowAt k).2.1) := (cell_of_row w 0 (k * 3 + 1) _ t f hg).trans (table_cell k 1 hk (by omega))
    have c2 : w.cell? ⟨0, k * 3 + 2, none⟩ = some (.int .i64 (rowAt k).2.2) := (cell_of_row w 0 (k * 3 + 2) _ t f hg).trans (table_cell k 2 hk (by omega))
    have HW := hide (row_way s dr k hk)
    go_wp2
    all_goals go_ret
    all_goals refine ⟨ret_int ?_, (Below.refl _ _).alloc (Nat.le_refl _) _⟩
    all_goals have hw := HW.out
    all_goals clear HW
    all_goals go_light
    all_goals grind
  · have HW := hide (show wayF s dr b = 0 by simp only [wayF]; grind)
    go_wp2
    all_goals go_ret
    all_goals exact ⟨ret_int HW.out.symm, Below.refl _ _⟩

def F0 (k : Nat) : Nat → Prop := fun g => g = k ∨ g = k + 1

set_option maxHeartbeats 1000000 in
theorem new_any (w : World) :
    Calls Tryd.prog 11 #[] w fun r w' => r = .returned (.pointer (some ⟨w.heap.size + 1, 0, none⟩)) ∧ AckRep w' (F0 w.heap.size) (w.heap.size + 1) w.heap.size (w.heap.size + 2) 0 (fun _ => []) (fun _ => .slice none 0 0) ∧ Below w.heap.size w w' := by
  go_enter Tryd.func11, Tryd.ntmps11
  have hmk : (Instr.makeMap 51 none).run Tryd.prog w = .ok (.map (some w.heap.size)) (w.alloc (.map #[] 0)) := rfl
  go_wp2
  go_ret
  refine ⟨by simp, ?_, ((Below.refl _ _).alloc (Nat.le_refl _) _).alloc (by simp) _⟩
  refine ⟨?_, IntMap.alloc (IntMap.made w _ 3 _) _, fun l _ => ⟨rfl, .inl ⟨rfl, rfl⟩⟩, fun _ _ _ _ _ => .inl rfl, .inr rfl, .inl rfl, fun l g _ h => by simp [Value.ownBlock] at h, by omega, by omega, by omega, fun g hg => ?_, by simp⟩
  · have := Blk.new (w.alloc (.map #[] 0)) 53 #[.map (some w.heap.size)]
    simpa using this
  · rcases hg with rfl | rfl <;> simp <;> omega

set_option maxHeartbeats 1000000 in
theorem wakes_any (w : World) (h : HasTable w) (hp : 0 < w.heap.size) :
    Calls Tryd.prog 8 #[] w fun r w' => r = .returned (.bool true) ∧ Below w.heap.size w w' := by
  have Hp := hide hp
  clear hp
  go_enter Tryd.func8, Tryd.ntmps8
  go_wp2_with fail
  refine (way_any _ _ _ _ h).mono ?_
  rintro r w1 ⟨rfl, hb1⟩
  have HB1 := hide hb1
  clear hb1
  have e1 : wayF 3 true 1 = 1 := rfl
  rw [e1]
  go_wp2_with fail
  refine (new_any _).mono ?_
  rintro r w2 ⟨rfl, hA, hb2⟩
  have HA := hide hA
  have HB2 := hide hb2
  clear hA hb2
  go_wp2_with fail
  have HN := hide (Reads.new w2 #[.int .i64 0, .int .i64 0, .int .i64 1, .int .i64 0, .int .i64 0, .int .i64 0, .int .i64 0, .int .i64 0, .int .i64 0, .int .i64 1, .int .i64 0, .int .i64 0, .int .i64 0, .int .i64 0] 46 2 7 rfl)
  refine (later_any _ _ _ _ (fun _ => []) _ _ 0 _ 2 2 [(0, 0, 1, 0, 0, 0, 0), (0, 0, 1, 0, 0, 0, 0)] _ rfl (HA.out.below ((Below.refl _ _).alloc (Nat.le_refl _) _)) (by have h := HN.out.more (B' := (w2.alloc (.cells #[.int .i64 0, .int .i64 0, .int .i64 1, .int .i64 0, .int .i64 0, .int .i64 0, .int .i64 0, .int .i64 0, .int .i64 0, .int .i64 1, .int .i64 0, .int .i64 0, .int .i64 0, .int .i64 0] 46)).heap.size) (by simp); exact h) ?_ (by omega) (by omega) (by simp)).mono ?_
  · intro b off e
    injection e with e
    injection e with e _
    subst e
    intro hg
    exact Nat.lt_irrefl _ (HA.out.lt _ hg)
  rintro r w3 ⟨rfl, hI⟩
  obtain ⟨F', f', _, hF, hK⟩ := hI
  have HK := hide (hK.toBelow (B := w.heap.size) (by have := HB1.out.size; have := HB2.out.size; simp; omega) (fun g hg => by have := HB1.out.size; rcases hg with rfl | rfl <;> omega))
  clear hF hK
  go_wp2
  go_ret
  refine ⟨ret_bool rfl, ?_⟩
  exact ((below0 HB1.out HB2.out).alloc (by have := HB1.out.size; have := HB2.out.size; omega) _).trans HK.out
end Go.Proofs.YtlclifhpmnfopaaDoor
