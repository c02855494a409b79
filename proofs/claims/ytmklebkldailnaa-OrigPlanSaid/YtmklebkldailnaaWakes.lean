/-
  The laws' example, and what is wanted by a byte.
-/
import Derived.Test.YtmklebkldailnaaPlan
namespace Go.Proofs.Ytmklebkldailnaa
open Go.RowKit
set_option linter.unusedSimpArgs false
set_option linter.unusedVariables false

def m0 : MV := ⟨⟨⟨0, 1, 1, 1, 0, 0, 0⟩, [], []⟩, true, default, false, 0, 0, false⟩
theorem m0_plan : ∃ s : Int, planF m0 0 = (⟨⟨0, 1, 1, 1, -2147483647, s, 24⟩, [], []⟩, 1) := ⟨(planF m0 0).1.hd.sum, by decide +kernel⟩

set_option maxRecDepth 20000 in
set_option maxHeartbeats 2000000 in
theorem wakes_any (w : World) : Calls Try.prog 8 #[] w fun r w' => r = .returned (.bool true) ∧ Below w.heap.size w w' := by
  obtain ⟨s, hs⟩ := m0_plan
  have hp := plan_any m0 ⟨none, 0, none, 0⟩ ⟨none, 0, none, 0⟩ 0 w ⟨by decide, by decide, by decide, by decide⟩ ⟨⟨Reads.none_, Reads.none_⟩, ⟨Reads.none_, Reads.none_⟩⟩ (by decide) (by decide) (by decide) (by decide)
  rw [hs] at hp
  have e : mineA m0 ⟨none, 0, none, 0⟩ ⟨none, 0, none, 0⟩ = #[.int .i64 0, .int .i64 1, .int .i64 1, .int .i64 1, .int .i64 0, .int .i64 0, .int .i64 0, .slice none 0 0, .slice none 0 0, .bool true,
    .int .i64 0, .int .i64 0, .int .i64 0, .int .i64 0, .int .i64 0, .int .i64 0, .int .i64 0, .slice none 0 0, .slice none 0 0, .bool false, .int .i64 0, .int .i64 0, .bool false] := rfl
  rw [e] at hp
  have HP := hide hp
  clear hp hs e
  go_enter Try.func8, Try.ntmps8
  go_wp2_with fail
  refine HP.out.mono ?_
  rintro r w1 ⟨⟨A, c, B, d⟩, rfl, ho, hb⟩
  have HB := hide hb
  clear ho hb HP
  go_wp2_with fail
  go_ret
  exact ⟨rfl, HB.out.alloc HB.out.size _⟩

theorem own_blk {w : World} {base g n size : Nat} {e : TypeId} {cs : Array Value} (h : Blk w g e cs) (hg : base ≤ g) (hs : cs.size = n * size) (hn : n ≤ maxLen) : w.ownsRow base e size (.slice (some ⟨g, 0, none⟩) n n) n cs.toList :=
  ⟨by simp [hs], .inr ⟨g, n, cs, rfl, hg, h, Nat.le_refl _, hn, hs, by rw [List.take_of_length_le (by simp [hs])]⟩⟩
/-- what is wanted by a byte -/
def wantF (b : Int) : LV := ⟨⟨0, 1, 3, 3, 0, 0, 0⟩, [⟨3, 16, 19, 1 + b % 3⟩], []⟩
set_option maxRecDepth 20000 in
set_option maxHeartbeats 2000000 in
theorem wanted_any (b : Int) (w : World) (h0 : 0 ≤ b) (h1 : b < 256) : Calls Try.prog 14 #[.int .u8 b] w fun r w' => ∃ p, r = .returned (.tuple #[.agg (lsaA (wantF b) p), .bool (b % 7 != 0)]) ∧ LOwn w' w.heap.size (wantF b) p ∧ Below w.heap.size w w' := by
  go_enter Try.func14, Try.ntmps14
  go_wp2_with fail
  have hb1 := (Blk.new w 27 #[.int .i64 0, .int .i64 1, .int .i64 3, .int .i64 3, .int .i64 0, .int .i64 0, .int .i64 0, .slice (some ⟨w.heap.size + 1, 0, none⟩) 1 1, .slice none 0 0])
  have hb2 := Blk.new (w.alloc (.cells #[.int .i64 0, .int .i64 1, .int .i64 3, .int .i64 3, .int .i64 0, .int .i64 0, .int .i64 0, .slice (some ⟨w.heap.size + 1, 0, none⟩) 1 1, .slice none 0 0] 27)) 69 #[.int .i64 3, .int .i64 16, .int .i64 19, .int .i64 (1 + b % 3)]
  rw [show (w.alloc (.cells #[.int .i64 0, .int .i64 1, .int .i64 3, .int .i64 3, .int .i64 0, .int .i64 0, .int .i64 0, .slice (some ⟨w.heap.size + 1, 0, none⟩) 1 1, .slice none 0 0] 27)).heap.size = w.heap.size + 1 by simp] at hb2
  have hB := below0 (below0 (below_new w (.cells #[.int .i64 0, .int .i64 1, .int .i64 3, .int .i64 3, .int .i64 0, .int .i64 0, .int .i64 0, .slice (some ⟨w.heap.size + 1, 0, none⟩) 1 1, .slice none 0 0] 27)) (below_new _ (.cells #[.int .i64 3, .int .i64 16, .int .i64 19, .int .i64 (1 + b % 3)] 69))) (below_new _ (.cells #[.int .i64 0, .int .i64 1, .int .i64 3, .int .i64 3, .int .i64 0, .int .i64 0, .int .i64 0, .slice (some ⟨w.heap.size + 1, 0, none⟩) 1 1, .slice none 0 0] 27))
  have hb3 := (hb1.alloc (.cells #[.int .i64 3, .int .i64 16, .int .i64 19, .int .i64 (1 + b % 3)] 69)).alloc (.cells #[.int .i64 0, .int .i64 1, .int .i64 3, .int .i64 3, .int .i64 0, .int .i64 0, .int .i64 0, .slice (some ⟨w.heap.size + 1, 0, none⟩) 1 1, .slice none 0 0] 27)
  have hb4 := hb2.alloc (.cells #[.int .i64 0, .int .i64 1, .int .i64 3, .int .i64 3, .int .i64 0, .int .i64 0, .int .i64 0, .slice (some ⟨w.heap.size + 1, 0, none⟩) 1 1, .slice none 0 0] 27)
  have ho := own_blk (base := w.heap.size) (n := 1) (size := 4) hb4 (by omega) rfl (by simp only [maxLen]; omega)
  refine bodyPost_ret (results_row_tmp (fn := Try.f14) rfl _ _ w.heap.size 27 _ _ rfl hb3 Try.underlying27 rfl (by kernel_rfl)) rfl ?_
  exact ⟨⟨some ⟨w.heap.size + 1, 0, none⟩, 1, none, 0⟩, rfl, ⟨ho, World.ownsRow_nil _ _ _ _⟩, hB⟩
end Go.Proofs.Ytmklebkldailnaa
