/-
  A network just made; wakes; the walk of LanNil.
-/
import Derived.Test.YtdenfgnkbfbpmaaLanG
namespace Go.Proofs.Ytdenfgnkbfbpmaa
open Go.RowKit

theorem below_keepsO {F : Nat → Prop} {a w w' : World} (h : Below a.heap.size a w) (hk : Keeps F w w') (hF : ∀ g, F g → a.heap.size ≤ g) : Below a.heap.size a w' :=
  ⟨hk.os.trans h.os, hk.tape.trans h.tape, hk.output.trans h.output, Nat.le_trans h.size hk.size, fun i hi => (hk.block i (Nat.lt_of_lt_of_le hi h.size) (fun hf => by have := hF i hf; omega)).trans (h.block i hi)⟩
theorem LanRep.new {w : World} {g : Nat} {room : Int} {on : Nat → Bool} (h : Blk w g 73 (lanCells room on (.slice none 0 0))) : LanRep w (fun x => x = g) g (g + 1) room on [] none 0 where
  box := h
  own := World.ownsRow_nil _ _ _ _
  byt := fun r hr => by cases hr
  hpl := rfl
  hrow := fun x hx => by cases hx
  hbyt := fun r hr => by cases hr
  plb := Nat.lt_succ_self _
  lt := fun x hx => by cases hx; exact h.lt
  bz := h.lt
theorem map_at {l : List Raw} {cs : List CpO} (h : l.map (·.cp) = cs) {k : Nat} {c : CpO} (hk : cs[k]? = some c) : ∃ A cc, l[k]? = some ⟨c, A, cc⟩ := by
  rw [← h, List.getElem?_map] at hk
  obtain ⟨r, hr, rfl⟩ := Option.map_eq_some_iff.1 hk
  exact ⟨r.A, r.c, hr⟩

/-- the network of the examples -/
theorem new123 (w : World) : Calls Try.prog 7 #[.int .i64 9, .slice (some ⟨w.heap.size, 0, none⟩) 3 3] (w.alloc (.cells #[.int .i64 1, .int .i64 2, .int .i64 3] 3)) fun r w' =>
    r = .returned (.pointer (some ⟨w.heap.size + 1, 0, none⟩)) ∧ LanRep w' (fun x => x = w.heap.size + 1) (w.heap.size + 1) (w.heap.size + 2) 9 (onFO [1, 2, 3]) [] none 0 ∧ Below w.heap.size w w' := by
  have hr := Reads.new w #[.int .i64 1, .int .i64 2, .int .i64 3] 3 3 1 rfl
  have hz : (w.alloc (.cells #[.int .i64 1, .int .i64 2, .int .i64 3] 3)).heap.size = w.heap.size + 1 := by simp
  have h := new_any 9 (some ⟨w.heap.size, 0, none⟩) 3 3 [1, 2, 3] (w.alloc (.cells #[.int .i64 1, .int .i64 2, .int .i64 3] 3)) (by rw [hz]; exact hr) (by omega)
  rw [hz] at h
  refine h.mono ?_
  rintro r w' ⟨rfl, hb, hB⟩
  exact ⟨rfl, LanRep.new hb, ((Below.refl _ _).alloc (Nat.le_refl _) _).trans (hB.mono (by omega))⟩

theorem onL123 : onL (onFO [1, 2, 3]) 16 = [1, 2, 3] := by decide

set_option maxRecDepth 20000 in
set_option maxHeartbeats 2000000 in
theorem wakes_any (w : World) : Calls Try.prog 5 #[] w fun r w' => r = .returned (.bool true) ∧ Below w.heap.size w w' := by
  go_enter Try.func5, Try.ntmps5
  go_wp2_with fail
  refine (new123 w).mono ?_
  rintro r w1 ⟨rfl, hR, hB⟩
  have HR := hide hR
  have HB := hide hB
  clear hR hB
  go_wp2_with fail
  have hr2 := Reads.new w1 #[.int .u8 1] 5 1 1 rfl
  have hA2 := (Below.refl w1.heap.size w1).alloc (Nat.le_refl _) (.cells #[.int .u8 1] 5)
  have hz2 : (w1.alloc (.cells #[.int .u8 1] 5)).heap.size = w1.heap.size + 1 := by simp
  rw [← hz2] at hr2
  clear hz2
  have hg : ¬ w1.heap.size = w.heap.size + 1 := by have := HR.out.box.lt; omega
  generalize w1.alloc (.cells #[.int .u8 1] 5) = W2 at hr2 hA2 ⊢
  have HR2 := hide (HR.out.below hA2)
  have HB2 := hide (below0 HB.out hA2)
  have HRD := hide hr2
  clear hr2 hA2
  refine (send_any _ _ _ _ _ [] none 0 0 2 0 (some ⟨w1.heap.size, 0, none⟩) 1 1 [1] _ HR2.out HRD.out (fun _ b off e => by cases e; exact hg) (fun e => by cases e) (by omega) (by simp)).mono ?_
  rintro r w3 ⟨rfl, F3, l3, A3, c3, hR3, hl3, hF3, hK3⟩
  rw [onL123] at hl3
  have HR3 := hide hR3
  have hB3 := below_keepsO HB2.out hK3 (fun g hg => by cases hg; omega)
  obtain ⟨A4, c4, h4⟩ := map_at (k := 1) (c := ⟨0, 2, 0, [1], 3, false⟩) hl3 (by decide)
  have hn : ((sendF 9 0 2 0 [1] (onL (onFO [1, 2, 3]) 16) (List.map (fun x => x.cp) ([] : List Raw))).length : Int) - (([] : List Raw).length : Int) = 2 := by rw [onL123]; decide
  rw [hn]
  have HB3 := hide hB3
  have H4 := hide h4
  clear hl3 hR3 hF3 hK3 hB3 h4 hn
  go_wp2_with fail
  refine (at_in F3 _ _ _ _ l3 A3 c3 1 _ _ HR3.out H4.out (by simp)).mono ?_
  rintro e w5 ⟨A5, c5, rfl, ho5, hb5⟩
  have HB5 := hide (below0 HB3.out hb5)
  clear hb5 ho5
  dsimp only
  go_wp2_with fail
  go_ret
  exact ⟨rfl, HB5.out.alloc HB5.out.size _⟩

end Go.Proofs.Ytdenfgnkbfbpmaa
