/-
  The walks of (near.rule).holds and of the reference's Step: what each computes, for all arguments.
-/
import Derived.Test.YtdmogmoccdlgaaaDoorKit
namespace Go.Proofs.YtdmogmoccdlgaaaDoor
open Go.RowKit

def holdsB (fr up by_ ad s e : Int) (a : Bool) : Bool := by_ == e && (decide (fr ≤ s) && (decide (s ≤ up) && (ad == 0 || (ad == 1) == a)))

set_option maxHeartbeats 400000 in
theorem holds_any (fr up by_ ad to s e : Int) (a : Bool) (w : World) :
    Calls Tryd.prog 13 #[.agg #[.int .i64 fr, .int .i64 up, .int .i64 by_, .int .i64 ad, .int .i64 to], .int .i64 s, .int .i64 e, .bool a] w
      fun r w' => r = .returned (.bool (holdsB fr up by_ ad s e a)) ∧ Below w.heap.size w w' := by
  go_enter Tryd.func13, Tryd.ntmps13
  go_wp2
  all_goals
    go_ret
    refine ⟨ret_bool ?_, ?_⟩
    · simp [holdsB, *] <;> omega
    · exact (Below.refl _ _).alloc (Nat.le_refl _) _

def refB (s e : Int) (a : Bool) : Int :=
  if e = 0 ∧ s = 0 then 1
  else if e = 1 ∧ s = 1 then (if a = true then 3 else 2)
  else if e = 2 ∧ 2 ≤ s ∧ s ≤ 6 then 1
  else if e = 3 ∧ s = 2 ∧ a = true then 3
  else if e = 3 ∧ 3 ≤ s ∧ s ≤ 6 ∧ a = false then 2
  else if e = 4 ∧ s = 3 then 4
  else if e = 5 ∧ s = 4 then 5
  else if e = 6 ∧ (s = 4 ∨ s = 5) then 6
  else if e = 7 ∧ 4 ≤ s ∧ s ≤ 6 then 3
  else if e = 8 ∧ 0 ≤ s ∧ s ≤ 6 then 0
  else s

set_option maxHeartbeats 1000000 in
theorem ref_any (s e : Int) (a : Bool) (w : World) :
    Calls Tryd.prog 9 #[.int .i64 s, .int .i64 e, .bool a] w
      fun r w' => r = .returned (.int .i64 (refB s e a)) ∧ Below w.heap.size w w' := by
  go_enter Tryd.func9, Tryd.ntmps9
  go_wp2
  all_goals go_ret
  all_goals refine ⟨ret_int ?_, Below.refl _ _⟩
  all_goals go_light
  all_goals grind [refB]
end Go.Proofs.YtdmogmoccdlgaaaDoor
