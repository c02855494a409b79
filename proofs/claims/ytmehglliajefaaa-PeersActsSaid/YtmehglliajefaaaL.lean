/-
  The reference's Late and Cands.
-/
import Derived.Test.YtmehglliajefaaaJ
namespace Go.Proofs.Ytmehglliajefaaa
open Go.RowKit

theorem filter_snoc (p : PV → Bool) (l : List PV) (k : Nat) (x : PV) (h : l[k]? = some x) : (l.take (k + 1)).filter p = (l.take k).filter p ++ if p x = true then [x] else [] := by
  rw [take_snoc _ _ _ h, List.filter_append]
  cases hp : p x <;> simp [hp]
theorem filter_le (p : PV → Bool) (l : List PV) (k : Nat) : ((l.take k).filter p).length ≤ k := by
  have h1 := List.length_filter_le p (l.take k)
  have h2 := List.length_take_le k l
  omega

set_option maxHeartbeats 4000000 in
theorem refLate_any (F : Nat → Prop) (pl base : Nat) (me lan : Int) (l : List PV) (A : Option Addr) (c : Nat) (now : Int) (w : World) (h : RefP w F pl base me lan l A c) (hl : l.length ≤ 100000) :
    Calls Try.prog 13 #[.pointer (some ⟨pl, 0, none⟩), .int .i64 now] w fun r w' => ∃ A' c', r = .returned (.slice A' (l.filter (lateB now)).length c') ∧ w'.ownsRow w.heap.size 3 1 (.slice A' (l.filter (lateB now)).length c') (l.filter (lateB now)).length (ints ((l.filter (lateB now)).map (·.id))) ∧ Below w.heap.size w w' := by
  obtain ⟨i0, hi, hz0, hz1, hz2⟩ := info_parts int_info
  have Hh := hide h
  clear h
  go_enter Try.func13, Try.ntmps13
  go_wp2_with fail
  go_loopw [5, 6] (fun v j wr => ∃ (k : Nat) (A1 : Option Addr) (cc : Nat), k ≤ l.length ∧ j = .int .i64 k ∧ v = .slice A1 ((l.take k).filter (lateB now)).length cc ∧ Hid (wr.ownsRow w.heap.size 3 1 (.slice A1 ((l.take k).filter (lateB now)).length cc) ((l.take k).filter (lateB now)).length (ints (((l.take k).filter (lateB now)).map (·.id)))) ∧ Hid (Below w.heap.size w wr)) (fun _ j _ => l.length - (intOf j).toNat)
  case atStart => exact ⟨0, none, 0, Nat.zero_le _, rfl, rfl, World.ownsRow_nil _ _ _ _, Below.refl _ _⟩
  case round =>
    obtain ⟨k, A1, cc, hk, rfl, rfl, hown, hb⟩ := hrel
    have HR := hide (Hh.out.below hb.out)
    obtain ⟨_, _, hsl⟩ := HR.out.cells
    by_cases hlt : k < l.length
    · obtain ⟨b, x, hA, hx, hat⟩ := HR.out.at_ hlt
      have d0 : wr.cell? ⟨b, k * 7, none⟩ = some (.int .i64 x.id) := hat 0 _ rfl
      have d6 : wr.cell? ⟨b, k * 7 + 6, none⟩ = some (.int .i64 x.at_) := hat 6 _ rfl
      subst hA
      have HS := hide (filter_snoc (lateB now) l k x hx)
      have hle := filter_le (lateB now) l k
      have hbs := hb.out.size
      clear hat hx
      by_cases hp : 8 ≤ wrap64 (now - x.at_)
      · have HS2 := hide (show (l.take (k + 1)).filter (lateB now) = (l.take k).filter (lateB now) ++ [x] by rw [HS.out, if_pos (show lateB now x = true from decide_eq_true hp)])
        have q1 : decide (8 ≤ wrap64 (now - x.at_)) = true := decide_eq_true hp
        clear hp
        generalize (l.take k).filter (lateB now) = m at hown HS2 hle ⊢
        go_wp2_with (first
          | (at_builtin
             refine wpList_append_any _ rfl (.tmp 27) (.tmp 36) 22 rfl w.heap.size 3 i0 _ 1 8 Try.underlying22 hi hz0 hz1 hz2 rfl (by omega) (.slice A1 m.length cc) m.length (ints (m.map (·.id))) rfl
               (hown.out.alloc _) (wr.heap.size + 1) (some ⟨wr.heap.size, 0, none⟩) 1 1 [.int .i64 x.id] rfl (Reads.new wr #[.int .i64 x.id] 3 1 1 rfl) (by simp [Value.oneCell']) (by simp only [maxLen]; omega) (by omega) (by simp; omega) ?_
             intro A3 c3 w3 hown3 hg3 hloc3
             have HB3 := hide ((hb.out.alloc hb.out.size (.cells #[.int .i64 x.id] 3)).grown hg3 (by simp; omega) (fun g hg => (own_base hown.out hg).1))
             have HO3 := hide hown3
             clear hown3 hg3 hloc3))
        go_roundw
        case rel => exact ⟨k + 1, A3, c3, by omega, by go_num, by rw [HS2.out]; simp, by rw [HS2.out, List.map_append, ints_append, List.length_append]; exact HO3, HB3⟩
        case measure => simp [intOf]; omega
      · have HS2 := hide (show (l.take (k + 1)).filter (lateB now) = (l.take k).filter (lateB now) by rw [HS.out, if_neg (by simp [lateB, hp]), List.append_nil])
        have q1 : decide (8 ≤ wrap64 (now - x.at_)) = false := decide_eq_false hp
        clear hp
        go_wp2
        go_roundw
        case rel => exact ⟨k + 1, A1, cc, by omega, by go_num, by rw [HS2.out], by rw [HS2.out]; exact hown, hb⟩
        case measure => simp [intOf]; omega
    · have hkl : l.take k = l := List.take_of_length_le (by omega)
      rw [hkl] at hown ⊢
      clear hkl
      go_wp2
      go_ret
      exact ⟨A1, cc, rfl, hown.out, hb.out⟩

set_option maxHeartbeats 4000000 in
theorem refCands_any (F : Nat → Prop) (pl base : Nat) (me lan : Int) (l : List PV) (A : Option Addr) (c : Nat) (w : World) (h : RefP w F pl base me lan l A c) (hl : l.length ≤ 100000) :
    Calls Try.prog 34 #[.pointer (some ⟨pl, 0, none⟩)] w fun r w' => ∃ A' c', r = .returned (.slice A' (l.filter PV.two).length c') ∧ w'.ownsRow w.heap.size 70 4 (.slice A' (l.filter PV.two).length c') (l.filter PV.two).length (rowC CV.cells ((l.filter PV.two).map PV.cand)) ∧ Below w.heap.size w w' := by
  obtain ⟨i0, hi, hz0, hz1, hz2⟩ := info_parts cand_info
  have Hh := hide h
  clear h
  go_enter Try.func34, Try.ntmps34
  go_wp2_with fail
  go_loopw [3, 4] (fun v j wr => ∃ (k : Nat) (A1 : Option Addr) (cc : Nat), k ≤ l.length ∧ j = .int .i64 k ∧ v = .slice A1 ((l.take k).filter PV.two).length cc ∧ Hid (wr.ownsRow w.heap.size 70 4 (.slice A1 ((l.take k).filter PV.two).length cc) ((l.take k).filter PV.two).length (rowC CV.cells (((l.take k).filter PV.two).map PV.cand))) ∧ Hid (Below w.heap.size w wr)) (fun _ j _ => l.length - (intOf j).toNat)
  case atStart => exact ⟨0, none, 0, Nat.zero_le _, rfl, rfl, World.ownsRow_nil _ _ _ _, Below.refl _ _⟩
  case round =>
    obtain ⟨k, A1, cc, hk, rfl, rfl, hown, hb⟩ := hrel
    have HR := hide (Hh.out.below hb.out)
    obtain ⟨_, _, hsl⟩ := HR.out.cells
    by_cases hlt : k < l.length
    · obtain ⟨b, x, hA, hx, hat⟩ := HR.out.at_ hlt
      have HS := hide (filter_snoc PV.two l k x hx)
      obtain ⟨id, prio, dr, bdr, state, two, at_⟩ := x
      have d0 : wr.cell? ⟨b, k * 7, none⟩ = some (.int .i64 id) := hat 0 _ rfl
      have d1 : wr.cell? ⟨b, k * 7 + 1, none⟩ = some (.int .i64 prio) := hat 1 _ rfl
      have d2 : wr.cell? ⟨b, k * 7 + 2, none⟩ = some (.int .i64 dr) := hat 2 _ rfl
      have d3 : wr.cell? ⟨b, k * 7 + 3, none⟩ = some (.int .i64 bdr) := hat 3 _ rfl
      have d4 : wr.cell? ⟨b, k * 7 + 4, none⟩ = some (.int .i64 state) := hat 4 _ rfl
      have d5 : wr.cell? ⟨b, k * 7 + 5, none⟩ = some (.bool two) := hat 5 _ rfl
      have d6 : wr.cell? ⟨b, k * 7 + 6, none⟩ = some (.int .i64 at_) := hat 6 _ rfl
      subst hA
      have hle := filter_le PV.two l k
      have hbs := hb.out.size
      have HB1 := fun o1 => hide (hb.out.alloc hb.out.size o1)
      have HB2 := fun o1 o2 => hide ((hb.out.alloc hb.out.size o1).alloc (by simp; omega) o2)
      have HRN := fun o1 => hide (Reads.new (wr.alloc o1) #[.int .i64 id, .int .i64 prio, .int .i64 dr, .int .i64 bdr] 70 1 4 rfl)
      have hone := CV.cells_one ⟨id, prio, dr, bdr⟩
      clear hat hx
      cases two
      · have HS2 := hide (show (l.take (k + 1)).filter PV.two = (l.take k).filter PV.two by rw [HS.out]; simp)
        go_wp2
        go_roundw
        case rel => exact ⟨k + 1, A1, cc, by omega, by go_num, by rw [HS2.out], by rw [HS2.out]; exact hown.out.alloc _, (HB1 _).out⟩
        case measure => simp [intOf]; omega
      · have HS2 := hide (show (l.take (k + 1)).filter PV.two = (l.take k).filter PV.two ++ [⟨id, prio, dr, bdr, state, true, at_⟩] by rw [HS.out]; simp)
        generalize (l.take k).filter PV.two = m at hown HS2 hle ⊢
        go_wp2_with (first
          | (at_builtin
             refine wpList_append_any _ rfl (.tmp 24) (.tmp 34) 51 rfl w.heap.size 70 i0 _ 4 32 Try.underlying51 hi hz0 hz1 hz2 rfl (by omega) (.slice A1 m.length cc) m.length (rowC CV.cells (m.map PV.cand)) rfl
               ((hown.out.alloc _).alloc _) (wr.heap.size + 2) (some ⟨wr.heap.size + 1, 0, none⟩) 1 1 (CV.cells ⟨id, prio, dr, bdr⟩) rfl (by have := (HRN (.cells (PV.arr ⟨id, prio, dr, bdr, state, true, at_⟩) 47)).out; simpa [CV.cells] using this) hone (by simp only [maxLen]; omega) (by omega) (by simp; omega) ?_
             intro A3 c3 w3 hown3 hg3 hloc3
             have HB3 := hide ((HB2 _ _).out.grown hg3 (by simp; omega) (fun g hg => (own_base hown.out hg).1))
             have HO3 := hide hown3
             clear hown3 hg3 hloc3))
        go_roundw
        case rel => exact ⟨k + 1, A3, c3, by omega, by go_num, by rw [HS2.out]; simp, by rw [HS2.out, List.map_append, rowC_append, List.length_append]; apply hide; simpa [rowC, PV.cand] using HO3.out, HB3⟩
        case measure => simp [intOf]; omega
    · have hkl : l.take k = l := List.take_of_length_le (by omega)
      rw [hkl] at hown ⊢
      clear hkl
      go_wp2
      go_ret
      exact ⟨A1, cc, rfl, hown.out, hb.out⟩
end Go.Proofs.Ytmehglliajefaaa
