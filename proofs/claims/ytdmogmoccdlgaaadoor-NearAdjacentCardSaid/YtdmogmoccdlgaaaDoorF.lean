/-
  The walks of near.Adjacent, of the reference's Adjacent, and of the law NearAdjacent.
-/
import Derived.Test.YtdmogmoccdlgaaaDoorC
import Derived.Deep.RegionHeld3
namespace Go.Proofs.YtdmogmoccdlgaaaDoor
open Go.RowKit

theorem below0 {a w w' : World} (h : Below a.heap.size a w) (h' : Below w.heap.size w w') : Below a.heap.size a w' := h.trans (h'.mono h.size)

def twoB (n dr bdr : Int) : Bool := n != 0 && (n == dr || n == bdr)
theorem two_any (B : Nat) (n dr bdr : Int) (w : World) (h3 : w.cell? ⟨B, 3, none⟩ = some (.int .i64 dr)) (h4 : w.cell? ⟨B, 4, none⟩ = some (.int .i64 bdr)) :
    Calls Tryd.prog 14 #[.int .i64 n, .pointer (some ⟨B, 0, none⟩)] w fun r w' => r = .returned (.bool (twoB n dr bdr)) ∧ w = w' := by
  go_enter Tryd.func14, Tryd.ntmps14
  go_wp2
  all_goals go_ret
  all_goals go_light
  all_goals first | (simp [twoB, *]; done) | (simp [twoB]; grind)

def adjB (self dr bdr id : Int) : Bool := twoB self dr bdr || twoB id dr bdr
set_option maxHeartbeats 1000000 in
theorem adj_any (self prio state dr bdr id : Int) (w : World) :
    Calls Tryd.prog 11 #[.agg #[.int .i64 self, .int .i64 prio, .int .i64 state, .int .i64 dr, .int .i64 bdr], .int .i64 id] w
      fun r w' => r = .returned (.bool (adjB self dr bdr id)) ∧ Below w.heap.size w w' := by
  go_enter Tryd.func11, Tryd.ntmps11
  go_wp2_with fail
  refine (two_any _ _ dr bdr _ (by simp) (by simp)).mono ?_
  rintro r w1 ⟨rfl, rfl⟩
  cases h1 : twoB self dr bdr
  · go_wp2_with fail
    refine (two_any _ _ dr bdr _ (by simp) (by simp)).mono ?_
    rintro r w1 ⟨rfl, rfl⟩
    go_wp2
    go_ret
    exact ⟨ret_bool (by simp [adjB, h1]), (Below.refl _ _).alloc (Nat.le_refl _) _⟩
  · go_wp2_with fail
    go_ret
    exact ⟨ret_bool (by simp [adjB, h1]), (Below.refl _ _).alloc (Nat.le_refl _) _⟩

set_option maxHeartbeats 1000000 in
theorem refAdj_any (self prio state dr bdr id : Int) (w : World) :
    Calls Tryd.prog 12 #[.agg #[.int .i64 self, .int .i64 prio, .int .i64 state, .int .i64 dr, .int .i64 bdr], .int .i64 id] w
      fun r w' => r = .returned (.bool (adjB self dr bdr id)) ∧ Below w.heap.size w w' := by
  go_enter Tryd.func12, Tryd.ntmps12
  go_wp2
  all_goals go_ret
  all_goals go_light
  all_goals refine ⟨ret_bool ?_, (Below.refl _ _).alloc (Nat.le_refl _) _⟩
  all_goals (simp only [adjB, twoB]; grind)

theorem adj_sym (self dr bdr id : Int) : adjB id dr bdr self = adjB self dr bdr id := by simp [adjB, Bool.or_comm]

abbrev AdjS (B0 B1 : Nat) (self prio state dr bdr id : Int) (w0 w' : World) : Prop :=
  w'.cell? ⟨B0, 0, none⟩ = some (.int .i64 self) ∧ w'.cell? ⟨B0, 1, none⟩ = some (.int .i64 prio) ∧ w'.cell? ⟨B0, 2, none⟩ = some (.int .i64 state) ∧ w'.cell? ⟨B0, 3, none⟩ = some (.int .i64 dr) ∧ w'.cell? ⟨B0, 4, none⟩ = some (.int .i64 bdr) ∧
  w'.cell? ⟨B1, 0, none⟩ = some (.int .i64 id) ∧ w'.cell? ⟨B1, 1, none⟩ = some (.int .i64 prio) ∧ w'.cell? ⟨B1, 2, none⟩ = some (.int .i64 state) ∧ w'.cell? ⟨B1, 3, none⟩ = some (.int .i64 dr) ∧ w'.cell? ⟨B1, 4, none⟩ = some (.int .i64 bdr) ∧
  B0 < w'.heap.size ∧ B1 < w'.heap.size ∧ Below w0.heap.size w0 w'
theorem AdjS.keep {B0 B1 : Nat} {self prio state dr bdr id : Int} {w0 w w' : World} (h : AdjS B0 B1 self prio state dr bdr id w0 w) (hb : Below w.heap.size w w') : AdjS B0 B1 self prio state dr bdr id w0 w' := by
  obtain ⟨h0, h1, h2, h3, h4, k0, k1, k2, k3, k4, s0, s1, hB⟩ := h
  obtain ⟨hc, _⟩ := bcell hb
  have hz := hb.size
  refine ⟨?_, ?_, ?_, ?_, ?_, ?_, ?_, ?_, ?_, ?_, by omega, by omega, below0 hB hb⟩
  all_goals (rw [hc _ _ (by omega)]; assumption)

set_option maxHeartbeats 2000000 in
theorem nearAdjacent_walk (self prio state dr bdr id : Int) (w : World) (h : HasRules w) (h0 : 0 < w.heap.size) :
    Calls Tryd.prog 6 #[.agg #[.int .i64 self, .int .i64 prio, .int .i64 state, .int .i64 dr, .int .i64 bdr], .int .i64 id] w
      fun r w' => r = .returned (.bool true) ∧ Below w.heap.size w w' := by
  have H := hide (h.below ((Below.refl w.heap.size w).alloc (Nat.le_refl _) (.cells #[.int .i64 self, .int .i64 prio, .int .i64 state, .int .i64 dr, .int .i64 bdr] 31)) h0)
  have hsym := adj_sym self dr bdr id
  clear h
  go_enter Tryd.func6, Tryd.ntmps6
  go_wp2_with fail
  refine (wakes_any _ H.out (by simp)).mono ?_
  rintro r w1 ⟨rfl, hb1⟩
  have hbw : Below w.heap.size w w1 := below_call ((Below.refl _ _).alloc (Nat.le_refl _) _) (by simp) hb1
  obtain ⟨hc1, hf1⟩ := bcell hb1
  have hz1 := hb1.size
  have hzw : w.heap.size < w1.heap.size := by simp at hz1; omega
  have hzw1 : w.heap.size < w1.heap.size + 1 := by omega
  go_wp2_with fail
  have hbw2 := (hbw.alloc hbw.size (.cells #[.int .i64 id, .int .i64 prio, .int .i64 state, .int .i64 dr, .int .i64 bdr] 31)).drew
  go_region_held3 (fun w' => AdjS w.heap.size w1.heap.size self prio state dr bdr id w w') (first | assumption | ((repeat' apply And.intro) <;> first | assumption | go_keep))
    (first
      | (go_at_call 12; refine (refAdj_any _ _ _ _ _ _ _).mono ?_; rintro r w2 ⟨rfl, hb2⟩; have hS2 := AdjS.keep (by assumption) hb2)
      | (go_at_call 11; refine (adj_any _ _ _ _ _ _ _).mono ?_; rintro r w2 ⟨rfl, hb2⟩; have hS2 := AdjS.keep (by assumption) hb2))
  go_wp2
  go_ret
  exact ⟨rfl, hS2.2.2.2.2.2.2.2.2.2.2.2.2⟩
end Go.Proofs.YtdmogmoccdlgaaaDoor
