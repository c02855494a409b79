/-
  The walks of AcksWay, AcksSame, AcksNil.
-/
import Derived.Test.YtlclifhpmnfopaaDoorF
namespace Go.Proofs.YtlclifhpmnfopaaDoor
open Go.RowKit

set_option maxHeartbeats 1000000 in
theorem acksWay_walk (s : Int) (dr : Bool) (b : Int) (w : World) (h : HasTable w) (hp : 0 < w.heap.size) :
    Calls Tryd.prog 3 #[.int .i64 s, .bool dr, .int .i64 b] w fun r w' => r = .returned (.bool true) ∧ Below w.heap.size w w' := by
  have HT := hide h
  have HP := hide hp
  clear h hp
  go_enter Tryd.func3, Tryd.ntmps3
  go_wp2_with fail
  refine (wakes_any _ HT.out HP.out).mono ?_
  rintro r w1 ⟨rfl, hb1⟩
  have HB1 := hide hb1
  clear hb1
  go_wp2_with fail
  refine (way_any s dr b _ (HT.out.below HB1.out HP.out)).mono ?_
  rintro r w2 ⟨rfl, hb2⟩
  have HB2 := hide (below0 HB1.out hb2)
  clear hb2
  go_wp2_with fail
  refine (refWay_any s dr b _).mono ?_
  rintro r w3 ⟨rfl, hb3⟩
  have HB3 := hide (below0 HB2.out hb3)
  clear hb3
  go_wp2
  go_ret
  exact ⟨ret_bool (by simp), HB3.out⟩

set_option maxHeartbeats 2000000 in
theorem acksSame_walk (s : Int) (dr : Bool) (w : World) (h : HasTable w) (hp : 0 < w.heap.size) :
    Calls Tryd.prog 4 #[.int .i64 s, .bool dr] w fun r w' => r = .returned (.bool true) ∧ Below w.heap.size w w' := by
  have HT := hide h
  have HP := hide hp
  clear h hp
  have e3 : wayF s dr 3 = 2 := by simp [wayF]
  have e4 : wayF s dr 4 = 2 := by simp [wayF]
  have e0 : wayF s dr 0 = 0 := by simp [wayF]
  have e1 : wayF s dr 1 = if s ≠ 3 ∨ dr = true then 1 else 0 := by simp [wayF]
  go_enter Tryd.func4, Tryd.ntmps4
  go_wp2_with fail
  refine (wakes_any _ HT.out HP.out).mono ?_
  rintro r w1 ⟨rfl, hb1⟩
  have HB1 := hide hb1
  clear hb1
  go_wp2_with fail
  refine (way_any s dr 3 _ (HT.out.below HB1.out HP.out)).mono ?_
  rintro r w2 ⟨rfl, hb2⟩
  have HB2 := hide (below0 HB1.out hb2)
  clear hb2
  rw [e3]
  go_wp2_with fail
  refine (way_any s dr 4 _ (HT.out.below HB2.out HP.out)).mono ?_
  rintro r w3 ⟨rfl, hb3⟩
  have HB3 := hide (below0 HB2.out hb3)
  clear hb3
  rw [e4]
  go_wp2_with fail
  refine (way_any s dr 0 _ (HT.out.below HB3.out HP.out)).mono ?_
  rintro r w4 ⟨rfl, hb4⟩
  have HB4 := hide (below0 HB3.out hb4)
  clear hb4
  rw [e0]
  go_wp2_with fail
  refine (way_any s dr 1 _ (HT.out.below HB4.out HP.out)).mono ?_
  rintro r w5 ⟨rfl, hb5⟩
  have HB5 := hide (below0 HB4.out hb5)
  clear hb5
  rw [e1]
  by_cases h1 : s ≠ 3 ∨ dr = true
  · rw [if_pos h1]
    clear h1
    go_wp2
    go_ret
    exact ⟨ret_bool rfl, HB5.out⟩
  · rw [if_neg h1]
    have hs : s = 3 := by simpa using fun h => h1 (.inl h)
    have hd : dr = false := by cases dr <;> simp_all
    subst hs hd
    clear h1 e1 e0 e3 e4
    go_wp2
    go_ret
    exact ⟨ret_bool rfl, HB5.out⟩

set_option maxHeartbeats 1000000 in
theorem nil12 (l : Int) (v : Value) (w : World) : Calls Tryd.prog 12 #[.pointer none, .int .i64 l, v] w fun r w' => r = .returned (.int .i64 0) ∧ Below w.heap.size w w' := by
  go_enter Tryd.func12, Tryd.ntmps12
  go_wp2
  go_ret
  exact ⟨rfl, Below.refl _ _⟩
set_option maxHeartbeats 1000000 in
theorem nil15 (l : Int) (w : World) : Calls Tryd.prog 15 #[.pointer none, .int .i64 l] w fun r w' => r = .returned (.slice none 0 0) ∧ Below w.heap.size w w' := by
  go_enter Tryd.func15, Tryd.ntmps15
  go_wp2
  go_ret
  exact ⟨rfl, Below.refl _ _⟩
set_option maxHeartbeats 1000000 in
theorem nil18 (l : Int) (w : World) : Calls Tryd.prog 18 #[.pointer none, .int .i64 l] w fun r w' => r = .returned (.int .i64 0) ∧ Below w.heap.size w w' := by
  go_enter Tryd.func18, Tryd.ntmps18
  go_wp2
  go_ret
  exact ⟨rfl, Below.refl _ _⟩
set_option maxHeartbeats 1000000 in
theorem nil19 (l : Int) (w : World) : Calls Tryd.prog 19 #[.pointer none, .int .i64 l] w fun r w' => r = .returned (.int .i64 0) ∧ Below w.heap.size w w' := by
  go_enter Tryd.func19, Tryd.ntmps19
  go_wp2
  go_ret
  exact ⟨rfl, Below.refl _ _⟩

set_option maxHeartbeats 2000000 in
theorem acksNil_walk (l : Int) (x : Hd) (w : World) (h : HasTable w) (hp : 0 < w.heap.size) :
    Calls Tryd.prog 7 #[.int .i64 l, x.agg] w fun r w' => r = .returned (.bool true) ∧ Below w.heap.size w w' := by
  obtain ⟨a0, a1, a2, a3, a4, a5, a6⟩ := x
  have HB0 := hide ((Below.refl w.heap.size w).alloc (Nat.le_refl _) (.cells #[.int .i64 a0, .int .i64 a1, .int .i64 a2, .int .i64 a3, .int .i64 a4, .int .i64 a5, .int .i64 a6] 46))
  have hbl := Blk.new w 46 #[.int .i64 a0, .int .i64 a1, .int .i64 a2, .int .i64 a3, .int .i64 a4, .int .i64 a5, .int .i64 a6]
  have HT := hide h
  have HP := hide hp
  clear h hp
  go_enter Tryd.func7, Tryd.ntmps7
  go_wp2_with fail
  generalize w.alloc (.cells #[.int .i64 a0, .int .i64 a1, .int .i64 a2, .int .i64 a3, .int .i64 a4, .int .i64 a5, .int .i64 a6] 46) = W1 at hbl HB0 ⊢
  have HL := hide hbl
  clear hbl
  refine (wakes_any _ (HT.out.below HB0.out HP.out) (by have := HB0.out.size; have := HP.out; omega)).mono ?_
  rintro r w1 ⟨rfl, hb1⟩
  have hbl := HL.out.below hb1 HL.out.lt
  have HB1 := hide (below0 HB0.out hb1)
  clear hb1
  have e0 : w1.cell? ⟨w.heap.size, 0, none⟩ = some (.int .i64 a0) := by have := hbl.cell 0; simpa using this
  have e1 : w1.cell? ⟨w.heap.size, 1, none⟩ = some (.int .i64 a1) := by have := hbl.cell 1; simpa using this
  have e2 : w1.cell? ⟨w.heap.size, 2, none⟩ = some (.int .i64 a2) := by have := hbl.cell 2; simpa using this
  have e3 : w1.cell? ⟨w.heap.size, 3, none⟩ = some (.int .i64 a3) := by have := hbl.cell 3; simpa using this
  have e4 : w1.cell? ⟨w.heap.size, 4, none⟩ = some (.int .i64 a4) := by have := hbl.cell 4; simpa using this
  have e5 : w1.cell? ⟨w.heap.size, 5, none⟩ = some (.int .i64 a5) := by have := hbl.cell 5; simpa using this
  have e6 : w1.cell? ⟨w.heap.size, 6, none⟩ = some (.int .i64 a6) := by have := hbl.cell 6; simpa using this
  clear hbl
  go_wp2_with fail
  refine (nil12 _ _ _).mono ?_
  rintro r w2 ⟨rfl, hb2⟩
  have HB2 := hide (below0 (HB1.out.alloc HB1.out.size (.cells #[.int .i64 a0, .int .i64 a1, .int .i64 a2, .int .i64 a3, .int .i64 a4, .int .i64 a5, .int .i64 a6] 46)) hb2)
  clear hb2 e0 e1 e2 e3 e4 e5 e6
  go_wp2_with fail
  refine (nil15 _ _).mono ?_
  rintro r w3 ⟨rfl, hb3⟩
  have HB3 := hide (below0 HB2.out hb3)
  clear hb3
  go_wp2_with fail
  refine (nil18 _ _).mono ?_
  rintro r w4 ⟨rfl, hb4⟩
  have HB4 := hide (below0 HB3.out hb4)
  clear hb4
  go_wp2_with fail
  refine (nil19 _ _).mono ?_
  rintro r w5 ⟨rfl, hb5⟩
  have HB5 := hide (below0 HB4.out hb5)
  clear hb5
  go_wp2
  go_ret
  exact ⟨ret_bool rfl, HB5.out⟩
end Go.Proofs.YtlclifhpmnfopaaDoor
