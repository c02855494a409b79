/-
  The predicates; All, Late, Seen, Get, Drop, Set; the same of a list that is not there; wakes.
-/
import Derived.Test.YtmehglliajefaaaE
namespace Go.Proofs.Ytmehglliajefaaa
open Go.RowKit

theorem cf26 (args : Array Value) (w : World) : (callFunc 26 args).run Try.prog w = .ok (.enter 26 args) w := rfl
theorem cf28 (args : Array Value) (w : World) : (callFunc 28 args).run Try.prog w = .ok (.enter 28 args) w := rfl
theorem cf35 (args : Array Value) (w : World) : (callFunc 35 args).run Try.prog w = .ok (.enter 35 args) w := rfl

theorem all1_any (x : PV) (w : World) : Calls Try.prog 26 #[.agg x.arr] w fun r w' => r = .returned (.bool true) ∧ Below w.heap.size w w' := by
  obtain ⟨id, prio, dr, bdr, state, two, at_⟩ := x
  go_enter Try.func26, Try.ntmps26
  go_wp2
  go_ret
  exact ⟨rfl, below_new _ _⟩
theorem cands1_any (x : PV) (w : World) : Calls Try.prog 35 #[.agg x.arr] w fun r w' => r = .returned (.bool x.two) ∧ Below w.heap.size w w' := by
  obtain ⟨id, prio, dr, bdr, state, two, at_⟩ := x
  go_enter Try.func35, Try.ntmps35
  go_wp2
  go_ret
  exact ⟨rfl, below_new _ _⟩
def lateB (now : Int) (x : PV) : Bool := decide (8 ≤ wrap64 (now - x.at_))
theorem late1_any (x : PV) (g : Nat) (now : Int) (w : World) (hc : w.cell? ⟨g, 0, none⟩ = some (.int .i64 now)) : Calls Try.prog 28 #[.agg x.arr, .pointer (some ⟨g, 0, none⟩)] w fun r w' => r = .returned (.bool (lateB now x)) ∧ Below w.heap.size w w' := by
  obtain ⟨id, prio, dr, bdr, state, two, at_⟩ := x
  have hlt : g < w.heap.size := by
    rcases Nat.lt_or_ge g w.heap.size with h | h
    · exact h
    · simp [World.cell?, Array.getElem?_eq_none h] at hc
  go_enter Try.func28, Try.ntmps28
  go_wp2_with fail
  go_ret
  exact ⟨rfl, below_new _ _⟩
theorem all_nil (w : World) : Calls Try.prog 9 #[.pointer none] w fun r w' => r = .returned (.slice none 0 0) ∧ w' = w := by
  go_enter Try.func9, Try.ntmps9
  go_wp2_with fail
  refine (list_nil _ _).mono ?_
  rintro r w1 ⟨rfl, rfl⟩
  go_wp2
  go_ret
  exact ⟨rfl, rfl⟩
set_option maxHeartbeats 1000000 in
theorem numbers_nil (w : World) : Calls Try.prog 27 #[.slice none 0 0] w fun r w' => r = .returned (.slice none 0 0) ∧ w' = w := by
  go_enter Try.func27, Try.ntmps27
  go_wp2_with fail
  go_loop [3, 8] (fun v i => v = .slice none 0 0 ∧ i = .int .i64 0) (fun _ _ => 0)
  case atStart => exact ⟨rfl, rfl⟩
  case round =>
    obtain ⟨rfl, rfl⟩ := hrel
    go_wp2
    go_ret
    exact ⟨rfl, rfl⟩
theorem late_nil (now : Int) (w : World) : Calls Try.prog 10 #[.pointer none, .int .i64 now] w fun r w' => r = .returned (.slice none 0 0) ∧ Below w.heap.size w w' := by
  go_enter Try.func10, Try.ntmps10
  go_wp2_with fail
  refine (list_nil _ _).mono ?_
  rintro r w1 ⟨rfl, rfl⟩
  go_wp2_with fail
  refine (numbers_nil _).mono ?_
  rintro r w1 ⟨rfl, rfl⟩
  go_wp2
  go_ret
  exact ⟨rfl, below_new _ _⟩
theorem seen_nil (w : World) : Calls Try.prog 20 #[.pointer none] w fun r w' => r = .returned (.slice none 0 0) ∧ w' = w := by
  go_enter Try.func20, Try.ntmps20
  go_wp2_with fail
  refine (all_nil _).mono ?_
  rintro r w1 ⟨rfl, rfl⟩
  go_wp2_with fail
  refine (numbers_nil _).mono ?_
  rintro r w1 ⟨rfl, rfl⟩
  go_wp2
  go_ret
  exact ⟨rfl, rfl⟩
set_option maxHeartbeats 1000000 in
theorem cands_nil (w : World) : Calls Try.prog 21 #[.pointer none] w fun r w' => r = .returned (.slice none 0 0) ∧ w' = w := by
  go_enter Try.func21, Try.ntmps21
  go_wp2_with fail
  refine (list_nil _ _).mono ?_
  rintro r w1 ⟨rfl, rfl⟩
  go_wp2_with fail
  go_loop [3, 9] (fun v i => v = .slice none 0 0 ∧ i = .int .i64 0) (fun _ _ => 0)
  case atStart => exact ⟨rfl, rfl⟩
  case round =>
    obtain ⟨rfl, rfl⟩ := hrel
    go_wp2
    go_ret
    exact ⟨rfl, rfl⟩
theorem drop_nil (i : Int) (w : World) : Calls Try.prog 14 #[.pointer none, .int .i64 i] w fun r w' => r = .returned (.bool false) ∧ w' = w := by
  go_enter Try.func14, Try.ntmps14
  go_wp2_with fail
  refine (at_nil _ _).mono ?_
  rintro r w1 ⟨rfl, rfl⟩
  go_wp2
  go_ret
  exact ⟨rfl, rfl⟩
theorem set_nil (i s : Int) (w : World) : Calls Try.prog 16 #[.pointer none, .int .i64 i, .int .i64 s] w fun r w' => r = .returned (.bool false) ∧ w' = w := by
  go_enter Try.func16, Try.ntmps16
  go_wp2_with fail
  refine (at_nil _ _).mono ?_
  rintro r w1 ⟨rfl, rfl⟩
  go_wp2
  go_ret
  exact ⟨rfl, rfl⟩
abbrev zeroPeer : Value := .agg #[.int .i64 0, .int .i64 0, .int .i64 0, .int .i64 0, .int .i64 0, .bool false, .int .i64 0]
set_option maxHeartbeats 1000000 in
theorem get_nil (i : Int) (w : World) : Calls Try.prog 19 #[.pointer none, .int .i64 i] w fun r w' => r = .returned (.tuple #[zeroPeer, .bool false]) ∧ Below w.heap.size w w' := by
  go_enter Try.func19, Try.ntmps19
  go_wp2_with fail
  refine (at_nil _ _).mono ?_
  rintro r w1 ⟨rfl, rfl⟩
  go_wp2_with fail
  have hb := Blk.new w 47 #[.int .i64 0, .int .i64 0, .int .i64 0, .int .i64 0, .int .i64 0, .bool false, .int .i64 0]
  refine bodyPost_ret (results_row_tmp (fn := Try.f19) rfl _ _ _ 47 _ _ rfl hb Try.underlying47 rfl (by kernel_rfl)) rfl ?_
  exact ⟨rfl, below_new _ _⟩

set_option maxRecDepth 20000 in
set_option maxHeartbeats 2000000 in
theorem wakes_any (w : World) : Calls Try.prog 6 #[] w fun r w' => r = .returned (.bool true) ∧ Below w.heap.size w w' := by
  go_enter Try.func6, Try.ntmps6
  go_wp2_with fail
  refine (new_any 1 0 w).mono ?_
  rintro r w1 ⟨rfl, hR, hB⟩
  have HR := hide hR
  have HB := hide hB
  have hg : ¬ w1.heap.size = w.heap.size := by have := hR.box.lt; omega
  clear hR hB
  go_wp2_with fail
  have hr2 := Reads.new w1 #[.int .i64 1] 3 1 1 rfl
  have hA2 := below_new w1 (.cells #[.int .i64 1] 3)
  have hz2 : (w1.alloc (.cells #[.int .i64 1] 3)).heap.size = w1.heap.size + 1 := by simp
  rw [← hz2] at hr2
  clear hz2
  generalize w1.alloc (.cells #[.int .i64 1] 3) = W2 at hr2 hA2 ⊢
  have HR2 := hide (HR.out.below hA2)
  have HB2 := hide (below0 HB.out hA2)
  have HRD := hide hr2
  clear hr2 hA2
  refine (hear_fresh _ w.heap.size 1 0 _ _ 2 0 0 0 0 (some ⟨w1.heap.size, 0, none⟩) 1 1 [1] _ HR2.out (by omega) (by omega) (by omega) (by omega) (by omega) (.inl rfl) (.inl rfl) rfl HRD.out (fun _ b off e => by cases e; exact hg) (by omega)).mono ?_
  rintro r w3 ⟨rfl, g, _, _, _, hK⟩
  have HB3 := hide (below_keeps HB2.out hK (fun x hx => by cases hx; exact Nat.le_refl _))
  clear hK
  have h1 : decide ((1 : Int) ∈ [1]) = true := by decide
  have h2 : decide (claimsF ⟨((2 : Nat) : Int), 0, 0, 0, 1, false, 0⟩ ≠ claimsF (heardF 1 0 0 0 0 [1] ⟨((2 : Nat) : Int), 0, 0, 0, 1, false, 0⟩)) = true := by decide
  rw [h1, h2]
  clear h1 h2
  go_wp2_with fail
  go_ret
  exact ⟨rfl, HB3.out.alloc HB3.out.size _⟩

set_option maxRecDepth 20000 in
set_option maxHeartbeats 2000000 in
theorem peersNil_walk (i every dead prio dr bdr : Int) (A : Option Addr) (n c : Nat) (w : World) :
    Calls Try.prog 5 #[.int .i64 i, .agg #[.int .i64 every, .int .i64 dead, .int .i64 prio, .int .i64 dr, .int .i64 bdr, .slice A n c]] w fun r w' => r = .returned (.bool true) ∧ Below w.heap.size w w' := by
  go_enter Try.func5, Try.ntmps5
  go_wp2_with fail
  have hb0 := Blk.new w 24 #[.int .i64 every, .int .i64 dead, .int .i64 prio, .int .i64 dr, .int .i64 bdr, .slice A n c]
  have HB0 := hide (below_new w (.cells #[.int .i64 every, .int .i64 dead, .int .i64 prio, .int .i64 dr, .int .i64 bdr, .slice A n c] 24))
  generalize w.alloc (.cells #[.int .i64 every, .int .i64 dead, .int .i64 prio, .int .i64 dr, .int .i64 bdr, .slice A n c] 24) = W0 at hb0 HB0 ⊢
  refine (wakes_any _).mono ?_
  rintro r w1 ⟨rfl, hb1⟩
  have hbl1 := hb0.below hb1 hb0.lt
  have HB1 := hide (below0 HB0.out hb1)
  clear hb1 hb0
  go_wp2_with fail
  refine (get_nil i _).mono ?_
  rintro r w2 ⟨rfl, hb2⟩
  have hbl2 := hbl1.below hb2 hbl1.lt
  have HB2 := hide (below0 HB1.out hb2)
  clear hb2 hbl1
  have hbl3 := hbl2.alloc (.cells #[.int .i64 0, .int .i64 0, .int .i64 0, .int .i64 0, .int .i64 0, .bool false, .int .i64 0] 47)
  have HB3 := hide (HB2.out.alloc HB2.out.size (.cells #[.int .i64 0, .int .i64 0, .int .i64 0, .int .i64 0, .int .i64 0, .bool false, .int .i64 0] 47))
  have c0 : w2.cell? ⟨w.heap.size, 0, none⟩ = some (.int .i64 every) := hbl2.cell 0
  have c1 : w2.cell? ⟨w.heap.size, 1, none⟩ = some (.int .i64 dead) := hbl2.cell 1
  have c2 : w2.cell? ⟨w.heap.size, 2, none⟩ = some (.int .i64 prio) := hbl2.cell 2
  have c3 : w2.cell? ⟨w.heap.size, 3, none⟩ = some (.int .i64 dr) := hbl2.cell 3
  have c4 : w2.cell? ⟨w.heap.size, 4, none⟩ = some (.int .i64 bdr) := hbl2.cell 4
  have c5 : w2.cell? ⟨w.heap.size, 5, none⟩ = some (.slice A n c) := hbl2.cell 5
  have hlt := hbl2.lt
  clear hbl2 hbl3
  go_wp2_with fail
  generalize w2.alloc (.cells #[.int .i64 0, .int .i64 0, .int .i64 0, .int .i64 0, .int .i64 0, .bool false, .int .i64 0] 47) = W3 at HB3 ⊢
  refine (hear_nil i every dead prio dr bdr i A n c _).mono ?_
  rintro r w4 ⟨rfl, hb4⟩
  have HB4 := hide (below0 HB3.out hb4)
  clear hb4
  go_wp2_with fail
  refine (late_nil i _).mono ?_
  rintro r w5 ⟨rfl, hb5⟩
  have HB5 := hide (below0 HB4.out hb5)
  clear hb5
  go_wp2_with fail
  refine (all_nil _).mono ?_
  rintro r w5 ⟨rfl, rfl⟩
  go_wp2_with fail
  refine (seen_nil _).mono ?_
  rintro r w5 ⟨rfl, rfl⟩
  go_wp2_with fail
  refine (cands_nil _).mono ?_
  rintro r w5 ⟨rfl, rfl⟩
  go_wp2_with fail
  refine (drop_nil i _).mono ?_
  rintro r w5 ⟨rfl, rfl⟩
  go_wp2_with fail
  refine (set_nil i 1 _).mono ?_
  rintro r w5 ⟨rfl, rfl⟩
  go_wp2_with fail
  go_ret
  exact ⟨rfl, HB5.out⟩
end Go.Proofs.Ytmehglliajefaaa
