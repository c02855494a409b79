/-
  The walks of the laws NearSteps, NearOthers.
-/
import Derived.Test.YtdmogmoccdlgaaaDoorC
namespace Go.Proofs.YtdmogmoccdlgaaaDoor
open Go.RowKit

set_option maxHeartbeats 1000000 in
theorem nearSteps_walk (s e : Int) (a : Bool) (w : World) (h : HasRules w) (h0 : 0 < w.heap.size) :
    Calls Tryd.prog 3 #[.int .i64 s, .int .i64 e, .bool a] w fun r w' => r = .returned (.bool true) ∧ Below w.heap.size w w' := by
  have H := hide h
  clear h
  go_enter Tryd.func3, Tryd.ntmps3
  go_wp2_with fail
  refine (wakes_any _ H.out h0).mono ?_
  rintro r w1 ⟨rfl, hb1⟩
  have H1 := hide (H.out.below hb1 h0)
  go_wp2_with fail
  refine (step_any _ _ _ _ H1.out).mono ?_
  rintro r w2 ⟨rfl, hb2⟩
  go_wp2_with fail
  refine (ref_any _ _ _ _).mono ?_
  rintro r w3 ⟨rfl, hb3⟩
  go_wp2
  go_ret
  have h2 := below_call hb1 hb1.size hb2
  exact ⟨rfl, below_call h2 h2.size hb3⟩

def othersF (s : Int) (l : List Int) : Int := l.foldl (fun s e => refB s e false) s
theorem othersF_snoc (s : Int) (l : List Int) (e : Int) : othersF s (l ++ [e]) = refB (othersF s l) e false := by simp [othersF]
theorem others_le (s e : Int) (h : s ≤ 2) : refB s e false ≤ 2 := by unfold refB; grind
set_option maxHeartbeats 1000000 in
theorem nearOthers_walk (A : Option Addr) (n c : Nat) (zs : List Int) (w : World) (h : HasRules w) (h0 : 0 < w.heap.size) (hn : n ≤ 9223372036854775807) (hr : Reads w w.heap.size 1 A n (ints zs)) :
    Calls Tryd.prog 5 #[.slice A n c] w fun r w' => r = .returned (.bool true) ∧ Below w.heap.size w w' := by
  have H := hide h
  clear h
  by_cases hbig : 100 < n
  · have hbig' : (100 : Int) < (n : Int) := by omega
    go_enter Tryd.func5, Tryd.ntmps5
    go_wp2_with fail
    refine (wakes_any _ H.out h0).mono ?_
    rintro r w1 ⟨rfl, hb1⟩
    go_wp2
    go_ret
    exact ⟨rfl, hb1⟩
  · have hsm : (n : Int) ≤ 100 := by omega
    go_enter Tryd.func5, Tryd.ntmps5
    go_wp2_with fail
    refine (wakes_any _ H.out h0).mono ?_
    rintro r w1 ⟨rfl, hb1⟩
    go_wp2
    go_loopw [3, 13] (fun s i wr => ∃ k : Nat, ∃ s1 : Int, k ≤ n ∧ i = .int .i64 k ∧ s = .int .i64 s1 ∧ s1 ≤ 2 ∧ Below w.heap.size w wr) (fun _ i _ => n - (intOf i).toNat)
    case atStart => exact ⟨0, 0, Nat.zero_le _, rfl, rfl, by omega, hb1⟩
    case round =>
      obtain ⟨k, s1, hk, rfl, rfl, hs, hb⟩ := hrel
      by_cases hlt : k < n
      · obtain ⟨b, off, z, rfl, hbb, hz, hc⟩ := hr.int_at hlt
        have hcx : wr.cell? ⟨b, off + k, none⟩ = some (.int .i64 z) := (hb.cell hbb).trans hc
        have hle := others_le s1 z hs
        have HR := hide (H.out.below hb h0)
        clear hz hc
        go_wp2_with (go_at_call 8; refine (step_any _ _ _ _ HR.out).mono ?_; rintro e w1 ⟨rfl, hb2⟩)
        go_roundw
        case rel => exact ⟨k + 1, _, by omega, by go_num, rfl, hle, below_call hb hb.size hb2⟩
        case measure => simp [intOf]; omega
      · go_wp2
        go_ret
        exact ⟨rfl, hb⟩
end Go.Proofs.YtdmogmoccdlgaaaDoor
