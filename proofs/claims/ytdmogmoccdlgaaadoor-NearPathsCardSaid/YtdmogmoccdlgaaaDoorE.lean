/-
  The walk of the law NearPaths.
-/
import Derived.Test.YtdmogmoccdlgaaaDoorC
namespace Go.Proofs.YtdmogmoccdlgaaaDoor
open Go.RowKit

theorem own_empty (w : World) (base : Nat) (e : TypeId) (size : Nat) (hb : base ≤ w.heap.size) : (w.alloc (.cells #[] e)).ownsRow base e size (.slice (some ⟨w.heap.size, 0, none⟩) 0 0) 0 [] :=
  ⟨by simp, .inr ⟨w.heap.size, 0, #[], rfl, hb, heap_alloc_new w _, Nat.le_refl _, by simp [maxLen], by simp, by simp⟩⟩
theorem int_info : (Tryd.prog.info? 3).map (fun i => (i.zero, i.size, i.bytes)) = some (some (.int .i64 0), 1, 8) := by kernel_rfl
theorem ints_one (l : List Int) : ∀ u ∈ ints l, u.oneCell' = true := by
  intro u hu
  simp only [ints, List.mem_map] at hu
  obtain ⟨z, _, rfl⟩ := hu
  rfl
theorem ints_take (l : List Int) (k : Nat) : (ints l).take k = ints (l.take k) := by simp [ints, List.map_take]
theorem ints_append (a b : List Int) : ints a ++ ints b = ints (a ++ b) := by simp [ints]
theorem gone_path (l : List Int) : pathF 0 (l ++ [8]) = 0 := by
  have h : ∀ (l : List Int) (s : Int), 0 ≤ s → s ≤ 6 → 0 ≤ pathF s l ∧ pathF s l ≤ 6 := by
    intro l
    induction l with
    | nil => intro s h1 h2; exact ⟨h1, h2⟩
    | cons e l ih =>
      intro s h1 h2
      have h3 : 0 ≤ refB s e true ∧ refB s e true ≤ 6 := by unfold refB; grind
      exact ih _ h3.1 h3.2
  have h1 := h l 0 (by omega) (by omega)
  rw [pathF_snoc]
  unfold refB
  grind

set_option maxHeartbeats 2000000 in
theorem nearPaths_walk (A : Option Addr) (n c : Nat) (zs : List Int) (w : World) (h : HasRules w) (h0 : 0 < w.heap.size) (hn : n ≤ c) (hc : c ≤ 9223372036854775807) (hr : Reads w w.heap.size 1 A n (ints zs)) :
    Calls Tryd.prog 4 #[.slice A n c] w fun r w' => r = .returned (.bool true) ∧ Below w.heap.size w w' := by
  have H := hide h
  clear h
  by_cases hbig : 100 < n
  · have hbig' : (100 : Int) < (n : Int) := by omega
    go_enter Tryd.func4, Tryd.ntmps4
    go_wp2_with fail
    refine (wakes_any _ H.out h0).mono ?_
    rintro r w1 ⟨rfl, hb1⟩
    go_wp2
    go_ret
    exact ⟨rfl, hb1⟩
  · have hsm : (n : Int) ≤ 100 := by omega
    have hzl : zs.length = n := by have := hr.1; simpa [ints] using this
    have Hzl := hide hzl
    clear hzl
    obtain ⟨i0, hi, hz0, hz1, hz2⟩ := info_parts int_info
    go_enter Tryd.func4, Tryd.ntmps4
    go_wp2_with fail
    refine (wakes_any _ H.out h0).mono ?_
    rintro r w1 ⟨rfl, hb1⟩
    go_wp2
    go_loopw [3, 13] (fun s i wr => ∃ k : Nat, k ≤ n ∧ i = .int .i64 k ∧ s = .int .i64 (pathF 0 (zs.take k)) ∧ Below w.heap.size w wr) (fun _ i _ => n - (intOf i).toNat)
    case atStart => exact ⟨0, Nat.zero_le _, rfl, rfl, hb1⟩
    case round =>
      obtain ⟨k, hk, rfl, rfl, hb⟩ := hrel
      by_cases hlt : k < n
      · obtain ⟨b, off, z, hA, hbb, hz, hcell⟩ := hr.int_at hlt
        have hcx : wr.cell? ⟨b, off + k, none⟩ = some (.int .i64 z) := (hb.cell hbb).trans hcell
        have HS := hide (show pathF 0 (zs.take (k + 1)) = refB (pathF 0 (zs.take k)) z true by rw [take_snoc _ _ _ hz, pathF_snoc])
        have HT := hide ((hr.take (k := k + 1) (by omega)))
        subst hA
        clear hz hcell
        have hkc : k + 1 ≤ c := by omega
        have hkc' : (k : Int) + 1 ≤ (c : Int) := by omega
        go_wp2_with fail
        refine (ref_any _ _ _ _).mono ?_
        rintro r w2 ⟨rfl, hb2⟩
        have hb2' := hide (below_call hb hb.size hb2)
        rw [← HS.out]
        go_wp2_with fail
        have hR2 : Reads w2 w2.heap.size 1 (some ⟨b, off, none⟩) (k + 1) (ints (zs.take (k + 1))) := by
          have := (HT.out.below hb2'.out).more hb2'.out.size
          rwa [Nat.mul_one, ints_take] at this
        refine (path_any _ _ _ _ _ (H.out.below hb2'.out h0) (Nat.lt_of_lt_of_le h0 hb2'.out.size) (by omega) hR2).mono ?_
        rintro r w3 ⟨rfl, hb3⟩
        have hb3' := hide (below_call hb2'.out hb2'.out.size hb3)
        go_wp2
        go_roundw
        case rel => exact ⟨k + 1, by omega, by go_num, rfl, hb3'.out⟩
        case measure => simp [intOf]; omega
      · go_wp2_with (first
          | (at_builtin
             refine wpList_append_any _ rfl (.tmp 29) (.tmp 30) 27 rfl w.heap.size 3 i0 _ 1 8 Tryd.underlying27 hi hz0 hz1 hz2 rfl (by omega) (.slice (some ⟨wr.heap.size, 0, none⟩) 0 0) 0 [] rfl
               (own_empty _ _ _ _ hb.size) w.heap.size A n c (ints zs) rfl ((hr.below hb).alloc hb.size _) (ints_one _) (by simp only [maxLen]; omega) (by omega) (by simp; have := hb.size; omega) ?_
             intro A1 c1 w2 hown2 hg2 hloc2
             simp only [Nat.zero_add, List.nil_append] at hown2 hg2 hloc2
             have hb2 : Below w.heap.size w w2 := (hb.alloc hb.size _).grown hg2 (by have := hb.size; simp; omega) (by intro g hg; simp [Value.ownBlock] at hg; have := hb.size; omega))
          | (at_builtin
             refine wpList_append_any _ rfl (.tmp 31) (.tmp 32) 27 rfl w.heap.size 3 i0 _ 1 8 Tryd.underlying27 hi hz0 hz1 hz2 rfl (by omega) (.slice A1 n c1) n (ints zs) rfl
               (hown2.alloc _) (w2.heap.size + 1) (some ⟨w2.heap.size, 0, none⟩) 1 1 [.int .i64 8] rfl (Reads.new w2 #[.int .i64 8] 3 1 1 rfl) (by simp [Value.oneCell']) (by simp only [maxLen]; omega) (by omega) (by simp; have := hb2.size; omega) ?_
             intro A2 c2 w3 hown3 hg3 hloc3
             have hb3 : Below w.heap.size w w3 := (hb2.alloc hb2.size _).grown hg3 (by have := hb2.size; simp; omega) (by
               intro g hg
               rw [hg] at hloc2
               simp [Value.ownBlock] at hloc2
               have := hb.size
               omega)))
        have hR3 : Reads w3 w3.heap.size 1 A2 (n + 1) (ints (zs ++ [8])) := by
          have := Reads.of_own hown3
          rw [← ints_append]
          exact this
        have HG := hide (gone_path zs)
        refine (path_any _ _ _ _ _ (H.out.below hb3 h0) (Nat.lt_of_lt_of_le h0 hb3.size) (by omega) hR3).mono ?_
        rintro r w4 ⟨rfl, hb4⟩
        rw [HG.out]
        have hb4' := hide (below_call hb3 hb3.size hb4)
        go_wp2_with fail
        refine (path_any none 0 0 [] _ (H.out.below hb4'.out h0) (Nat.lt_of_lt_of_le h0 hb4'.out.size) (by omega) Reads.none_).mono ?_
        rintro r w5 ⟨rfl, hb5⟩
        rw [show pathF 0 [] = 0 from rfl]
        go_wp2
        go_ret
        exact ⟨rfl, below_call hb4'.out hb4'.out.size hb5⟩
end Go.Proofs.YtdmogmoccdlgaaaDoor
