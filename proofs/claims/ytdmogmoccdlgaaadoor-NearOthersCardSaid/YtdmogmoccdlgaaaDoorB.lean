/-
  near.Step: the loop over the table of rules is the reference's step.
-/
import Derived.Test.YtdmogmoccdlgaaaDoorA
import Derived.Laws.Rows
namespace Go.Proofs.YtdmogmoccdlgaaaDoor
open Go.RowKit

structure Rule where
  fr : Int
  up : Int
  by_ : Int
  ad : Int
  to : Int
def rulesL : List Rule := [⟨0,0,0,0,1⟩,⟨1,1,1,1,3⟩,⟨1,1,1,2,2⟩,⟨2,6,2,0,1⟩,⟨2,2,3,1,3⟩,⟨3,6,3,2,2⟩,⟨3,3,4,0,4⟩,⟨4,4,5,0,5⟩,⟨4,5,6,0,6⟩,⟨4,6,7,0,3⟩,⟨0,6,8,0,0⟩]
def ruleAt (k : Nat) : Rule := rulesL.getD k ⟨0,0,0,0,0⟩
def Rule.cells (r : Rule) : List Value := [.int .i64 r.fr, .int .i64 r.up, .int .i64 r.by_, .int .i64 r.ad, .int .i64 r.to]
def rulesArr : Array Value := (rulesL.flatMap Rule.cells).toArray
def Rule.holds (r : Rule) (s e : Int) (a : Bool) : Bool := holdsB r.fr r.up r.by_ r.ad s e a

/-- the table lies in variable 0 -/
def HasRules (w : World) : Prop := ∃ t f, w.heap[0]? = some (.cells rulesArr t f)

theorem HasRules.below {B : Nat} {w w' : World} (h : HasRules w) (hb : Below B w w') (hB : 0 < B) : HasRules w' := by
  obtain ⟨t, f, hg⟩ := h
  exact ⟨t, f, (hb.block 0 hB).trans hg⟩

theorem index_rule (k : Nat) (hk : k < 11) (w : World) :
    (Instr.index 35 (.agg rulesArr) (.int .i64 (k : Int))).run Tryd.prog w = .ok (.agg #[.int .i64 (ruleAt k).fr, .int .i64 (ruleAt k).up, .int .i64 (ruleAt k).by_, .int .i64 (ruleAt k).ad, .int .i64 (ruleAt k).to]) w := by
  have h : k = 0 ∨ k = 1 ∨ k = 2 ∨ k = 3 ∨ k = 4 ∨ k = 5 ∨ k = 6 ∨ k = 7 ∨ k = 8 ∨ k = 9 ∨ k = 10 := by omega
  rcases h with rfl | rfl | rfl | rfl | rfl | rfl | rfl | rfl | rfl | rfl | rfl <;> (show _ = _; kernel_rfl)

/-- what the loop finds from rule k on -/
def stepF (s e : Int) (a : Bool) : List Rule → Int × Bool
  | [] => (s, false)
  | r :: rs => if r.holds s e a = true then (r.to, r.to != s) else stepF s e a rs

theorem stepF_at (s e : Int) (a : Bool) (k : Nat) (hk : k < 11) : stepF s e a (rulesL.drop k) = if (ruleAt k).holds s e a = true then ((ruleAt k).to, (ruleAt k).to != s) else stepF s e a (rulesL.drop (k + 1)) := by
  match k, hk with
  | 0, _ => rfl
  | 1, _ => rfl
  | 2, _ => rfl
  | 3, _ => rfl
  | 4, _ => rfl
  | 5, _ => rfl
  | 6, _ => rfl
  | 7, _ => rfl
  | 8, _ => rfl
  | 9, _ => rfl
  | 10, _ => rfl

theorem stepF_snd (s e : Int) (a : Bool) : ∀ l : List Rule, (stepF s e a l).2 = ((stepF s e a l).1 != s)
  | [] => by simp [stepF]
  | r :: rs => by
    unfold stepF
    split
    · rfl
    · exact stepF_snd s e a rs

theorem holds_iff (r : Rule) (s e : Int) (a : Bool) : (r.holds s e a = true) = (r.by_ = e ∧ r.fr ≤ s ∧ s ≤ r.up ∧ (r.ad = 0 ∨ (r.ad == 1) = a)) := by
  simp [Rule.holds, holdsB]

theorem stepF_ref (s e : Int) (a : Bool) : stepF s e a rulesL = (refB s e a, refB s e a != s) := by
  have h1 : (stepF s e a rulesL).1 = refB s e a := by
    simp only [rulesL, stepF, holds_iff, refB]
    cases a
    all_goals
      by_cases h : e = 0 ∨ e = 1 ∨ e = 2 ∨ e = 3 ∨ e = 4 ∨ e = 5 ∨ e = 6 ∨ e = 7 ∨ e = 8
      · rcases h with rfl | rfl | rfl | rfl | rfl | rfl | rfl | rfl | rfl <;> simp <;> grind
      · grind
  have h2 := stepF_snd s e a rulesL
  rw [h1] at h2
  rw [← h2, ← h1]
set_option maxHeartbeats 1000000 in
theorem step_any (s e : Int) (a : Bool) (w : World) (h : HasRules w) :
    Calls Tryd.prog 8 #[.int .i64 s, .int .i64 e, .bool a] w
      fun r w' => r = .returned (.tuple #[.int .i64 (refB s e a), .bool (refB s e a != s)]) ∧ Below w.heap.size w w' := by
  obtain ⟨t, f, hg⟩ := h
  go_enter Tryd.func8, Tryd.ntmps8
  go_wp2_with (refine wpList_load_row rfl 35 _ rfl 0 rfl t rulesArr f _ hg Tryd.underlying35 rfl (by kernel_rfl) ?_)
  go_loopw [11] (fun i wr => ∃ k : Nat, k ≤ 11 ∧ i = .int .i64 k ∧ Below w.heap.size w wr ∧ Hid (stepF s e a (rulesL.drop k) = stepF s e a rulesL)) (fun i _ => 11 - (intOf i).toNat)
  case atStart => exact ⟨0, by omega, rfl, Below.refl _ _, rfl⟩
  case round =>
    obtain ⟨k, hk, rfl, hb, hst⟩ := hrel
    by_cases hlt : k < 11
    · have hix := index_rule k hlt
      have hsa := Lib.hid (stepF_at s e a k hlt)
      cases hh : (ruleAt k).holds s e a
      · unfold Rule.holds at hh
        go_wp2_with (go_at_call 13; refine (holds_any _ _ _ _ _ _ _ _ _).mono ?_; rintro e w1 ⟨rfl, hb1⟩)
        refine ⟨⟨k + 1, by omega, by go_num, ((hb.alloc hb.size _).trans (hb1.mono (by have := hb.size; simp; omega))), ?_⟩, by simp [intOf]; omega⟩
        have h2 := hsa.out
        unfold Rule.holds at h2
        rw [hh, if_neg (by simp)] at h2
        exact h2.symm.trans hst.out
      · have h2 : ((ruleAt k).to, (ruleAt k).to != s) = (refB s e a, refB s e a != s) := by
          have h3 := hsa.out
          rw [hh, if_pos rfl] at h3
          rw [← h3, hst.out, stepF_ref]
        simp only [Prod.mk.injEq] at h2
        obtain ⟨h2, h3⟩ := h2
        have H2 := Lib.hid h2
        clear h2 h3
        unfold Rule.holds at hh
        go_wp2_with (go_at_call 13; refine (holds_any _ _ _ _ _ _ _ _ _).mono ?_; rintro e w1 ⟨rfl, hb1⟩; obtain ⟨hc, hf⟩ := bcell hb1)
        go_quiet (fail)
        go_wp2
        go_ret2
        go_light
        have h2 := H2.out
        refine ⟨by simp only [h2]; rfl, ?_⟩
        exact below_drewN (below_call (hb.alloc hb.size _) (by have := hb.size; simp; omega) hb1) _
    · have hke : k = 11 := by omega
      subst hke
      have h2 : (s, false) = (refB s e a, refB s e a != s) := by
        rw [← stepF_ref, ← hst.out]; rfl
      have H2 := Lib.hid h2
      clear h2
      go_wp2
      go_ret2
      have h2 := H2.out
      simp only [Prod.mk.injEq] at h2
      exact ⟨by rw [← h2.1]; simp, hb⟩
end Go.Proofs.YtdmogmoccdlgaaaDoor
