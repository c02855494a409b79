/-
  list (its predicate by a contract), numbers, All, Late, Seen, Cands, Get, Drop, Set.
-/
import Derived.Test.YtmehglliajefaaaD
namespace Go.Proofs.Ytmehglliajefaaa
open Go.RowKit

theorem index_ptr (ad : Nat → Option Nat) (k : Nat) (hk : k < 16) (w : World) :
    (Instr.index 55 (.agg #[ptr (ad 0), ptr (ad 1), ptr (ad 2), ptr (ad 3), ptr (ad 4), ptr (ad 5), ptr (ad 6), ptr (ad 7), ptr (ad 8), ptr (ad 9), ptr (ad 10), ptr (ad 11), ptr (ad 12), ptr (ad 13), ptr (ad 14), ptr (ad 15)]) (.int .i64 (k : Int))).run Try.prog w = .ok (ptr (ad k)) w := by
  have h : k = 0 ∨ k = 1 ∨ k = 2 ∨ k = 3 ∨ k = 4 ∨ k = 5 ∨ k = 6 ∨ k = 7 ∨ k = 8 ∨ k = 9 ∨ k = 10 ∨ k = 11 ∨ k = 12 ∨ k = 13 ∨ k = 14 ∨ k = 15 := by omega
  rcases h with rfl | rfl | rfl | rfl | rfl | rfl | rfl | rfl | rfl | rfl | rfl | rfl | rfl | rfl | rfl | rfl <;> (show _ = _; kernel_rfl)

/-- those that are so, below k, by their numbers -/
def listF (p : PV → Bool) (ad : Nat → Option Nat) (ps : Nat → PV) (k : Nat) : List PV := ((List.range k).filter fun i => (ad i).isSome && p (ps i)).map ps
theorem listF_succ (p : PV → Bool) (ad : Nat → Option Nat) (ps : Nat → PV) (k : Nat) : listF p ad ps (k + 1) = if ((ad k).isSome && p (ps k)) = true then listF p ad ps k ++ [ps k] else listF p ad ps k := by
  unfold listF
  rw [List.range_succ, List.filter_append]
  cases h : (ad k).isSome && p (ps k) <;> simp [h]
theorem listF_le (p : PV → Bool) (ad : Nat → Option Nat) (ps : Nat → PV) (k : Nat) : (listF p ad ps k).length ≤ k := by
  unfold listF
  rw [List.length_map]
  have := List.length_filter_le (fun i => (ad i).isSome && p (ps i)) (List.range k)
  simpa using this
theorem peer_info : (Try.prog.info? 47).map (fun i => (i.zero, i.size, i.bytes)) = some (some (.agg #[.int .i64 0, .int .i64 0, .int .i64 0, .int .i64 0, .int .i64 0, .bool false, .int .i64 0]), 7, 56) := by kernel_rfl
theorem int_info : (Try.prog.info? 3).map (fun i => (i.zero, i.size, i.bytes)) = some (some (.int .i64 0), 1, 8) := by kernel_rfl
theorem PV.cells_len (x : PV) : x.cells.length = 7 := rfl
theorem PV.cells_one (x : PV) : ∀ u ∈ x.cells, u.oneCell' = true := by
  intro u hu
  simp [PV.cells] at hu
  rcases hu with rfl | rfl | rfl | rfl | rfl | rfl | rfl <;> rfl

theorem list_nil (v : Value) (w : World) : Calls Try.prog 25 #[.pointer none, v] w fun r w' => r = .returned (.slice none 0 0) ∧ w' = w := by
  go_enter Try.func25, Try.ntmps25
  go_wp2
  go_ret
  exact ⟨rfl, rfl⟩

set_option maxRecDepth 20000 in
set_option maxHeartbeats 8000000 in
theorem list_any (F : Nat → Prop) (pl : Nat) (me lan : Int) (ad : Nat → Option Nat) (ps : Nat → PV) (f : FuncId) (caps : Array Value) (p : PV → Bool) (w : World) (h : PeersRep w F pl me lan ad ps)
    (hcf : ∀ (args : Array Value) (w : World), (callFunc f args).run Try.prog w = .ok (.enter f args) w) (hcl : ∀ (x : PV) (w' : World), Below w.heap.size w w' → Calls Try.prog f (#[.agg x.arr] ++ caps) w' fun r w'' => r = .returned (.bool (p x)) ∧ Below w'.heap.size w' w'') :
    Calls Try.prog 25 #[.pointer (some ⟨pl, 0, none⟩), .func (.func f) #[] caps] w fun r w' => ∃ A c, r = .returned (.slice A (listF p ad ps 16).length c) ∧ w'.ownsRow w.heap.size 47 7 (.slice A (listF p ad ps 16).length c) (listF p ad ps 16).length (rowC PV.cells (listF p ad ps 16)) ∧ Below w.heap.size w w' := by
  obtain ⟨i0, hi, hz0, hz1, hz2⟩ := info_parts peer_info
  have Hh := hide h
  have HC := hide hcl
  have hb := h.box
  have c0 : w.cell? ⟨pl, 2, none⟩ = some (ptr (ad 0)) := hb.cell 2
  have c1 : w.cell? ⟨pl, 3, none⟩ = some (ptr (ad 1)) := hb.cell 3
  have c2 : w.cell? ⟨pl, 4, none⟩ = some (ptr (ad 2)) := hb.cell 4
  have c3 : w.cell? ⟨pl, 5, none⟩ = some (ptr (ad 3)) := hb.cell 5
  have c4 : w.cell? ⟨pl, 6, none⟩ = some (ptr (ad 4)) := hb.cell 6
  have c5 : w.cell? ⟨pl, 7, none⟩ = some (ptr (ad 5)) := hb.cell 7
  have c6 : w.cell? ⟨pl, 8, none⟩ = some (ptr (ad 6)) := hb.cell 8
  have c7 : w.cell? ⟨pl, 9, none⟩ = some (ptr (ad 7)) := hb.cell 9
  have c8 : w.cell? ⟨pl, 10, none⟩ = some (ptr (ad 8)) := hb.cell 10
  have c9 : w.cell? ⟨pl, 11, none⟩ = some (ptr (ad 9)) := hb.cell 11
  have c10 : w.cell? ⟨pl, 12, none⟩ = some (ptr (ad 10)) := hb.cell 12
  have c11 : w.cell? ⟨pl, 13, none⟩ = some (ptr (ad 11)) := hb.cell 13
  have c12 : w.cell? ⟨pl, 14, none⟩ = some (ptr (ad 12)) := hb.cell 14
  have c13 : w.cell? ⟨pl, 15, none⟩ = some (ptr (ad 13)) := hb.cell 15
  have c14 : w.cell? ⟨pl, 16, none⟩ = some (ptr (ad 14)) := hb.cell 16
  have c15 : w.cell? ⟨pl, 17, none⟩ = some (ptr (ad 15)) := hb.cell 17
  clear h hcl hb
  go_enter Try.func25, Try.ntmps25
  go_wp2_with fail
  clear c0 c1 c2 c3 c4 c5 c6 c7 c8 c9 c10 c11 c12 c13 c14 c15
  go_loopw [5, 15] (fun v i wr => ∃ k : Nat, ∃ A1 cc, k ≤ 16 ∧ i = .int .i64 k ∧ v = .slice A1 (listF p ad ps k).length cc ∧ Hid (wr.ownsRow w.heap.size 47 7 (.slice A1 (listF p ad ps k).length cc) (listF p ad ps k).length (rowC PV.cells (listF p ad ps k))) ∧ Hid (Below w.heap.size w wr)) (fun _ i _ => 16 - (intOf i).toNat)
  case atStart => exact ⟨0, none, 0, by omega, rfl, rfl, World.ownsRow_nil _ _ _ _, Below.refl _ _⟩
  case round =>
    obtain ⟨k, A1, cc, hk, rfl, rfl, hown, hb⟩ := hrel
    by_cases hlt : k < 16
    · have hix := index_ptr ad k hlt
      have hle := listF_le p ad ps k
      have hs := listF_succ p ad ps k
      cases had : ad k with
      | none =>
        rw [had] at hix hs
        have HS := hide (show listF p ad ps (k + 1) = listF p ad ps k by rw [hs]; simp)
        clear hs
        have hp0 : ptr none = .pointer none := rfl
        rw [hp0] at hix
        clear hp0
        go_wp2
        go_roundw
        case rel => exact ⟨k + 1, A1, cc, by omega, by go_num, by rw [HS.out], by rw [HS.out]; exact hown, hb⟩
        case measure => simp [intOf]; omega
      | some g =>
        rw [had] at hix hs
        have hp0 : ptr (some g) = .pointer (some ⟨g, 0, none⟩) := rfl
        rw [hp0] at hix
        clear hp0
        obtain ⟨hbg, _, _, _⟩ := Hh.out.one k g hlt had
        have hbr := hbg.below hb.out hbg.lt
        obtain ⟨x, hx⟩ : ∃ x, ps k = x := ⟨_, rfl⟩
        rw [hx] at hbr hs
        obtain ⟨id, prio, dr, bdr, state, two, at_⟩ := x
        have d0 : wr.cell? ⟨g, 0, none⟩ = some (.int .i64 id) := hbr.cell 0
        have d1 : wr.cell? ⟨g, 1, none⟩ = some (.int .i64 prio) := hbr.cell 1
        have d2 : wr.cell? ⟨g, 2, none⟩ = some (.int .i64 dr) := hbr.cell 2
        have d3 : wr.cell? ⟨g, 3, none⟩ = some (.int .i64 bdr) := hbr.cell 3
        have d4 : wr.cell? ⟨g, 4, none⟩ = some (.int .i64 state) := hbr.cell 4
        have d5 : wr.cell? ⟨g, 5, none⟩ = some (.bool two) := hbr.cell 5
        have d6 : wr.cell? ⟨g, 6, none⟩ = some (.int .i64 at_) := hbr.cell 6
        have HBR := hide hbr
        have HS := hide hs
        clear hs hbr hbg hx
        go_wp2_with fail
        refine (HC.out ⟨id, prio, dr, bdr, state, two, at_⟩ _ hb.out).mono ?_
        rintro r w4 ⟨rfl, hb4⟩
        have HB4 := hide (below0 hb.out hb4)
        have HO4 := hide (own_below hown.out hb4)
        obtain ⟨e0, e1, e2, e3, e4, e5, e6⟩ := (⟨cell_keep d0 hb4, cell_keep d1 hb4, cell_keep d2 hb4, cell_keep d3 hb4, cell_keep d4 hb4, cell_keep d5 hb4, cell_keep d6 hb4⟩ : w4.cell? ⟨g, 0, none⟩ = some (.int .i64 id) ∧ w4.cell? ⟨g, 1, none⟩ = some (.int .i64 prio) ∧ w4.cell? ⟨g, 2, none⟩ = some (.int .i64 dr) ∧ w4.cell? ⟨g, 3, none⟩ = some (.int .i64 bdr) ∧ w4.cell? ⟨g, 4, none⟩ = some (.int .i64 state) ∧ w4.cell? ⟨g, 5, none⟩ = some (.bool two) ∧ w4.cell? ⟨g, 6, none⟩ = some (.int .i64 at_))
        clear d0 d1 d2 d3 d4 d5 d6 hb4
        cases hpx : p ⟨id, prio, dr, bdr, state, two, at_⟩ with
        | false =>
          have HS2 := hide (show listF p ad ps (k + 1) = listF p ad ps k by rw [HS.out, hpx]; simp)
          clear hpx
          go_wp2_with fail
          go_roundw
          case rel => exact ⟨k + 1, A1, cc, by omega, by go_num, by rw [HS2.out], by rw [HS2.out]; exact HO4, HB4⟩
          case measure => simp [intOf]; omega
        | true =>
          have HS2 := hide (show listF p ad ps (k + 1) = listF p ad ps k ++ [⟨id, prio, dr, bdr, state, two, at_⟩] by rw [HS.out, hpx]; simp)
          have hone := PV.cells_one ⟨id, prio, dr, bdr, state, two, at_⟩
          clear hpx
          go_wp2_with (first
            | (at_builtin
               refine wpList_append_any _ rfl (.tmp 27) (.tmp 31) 31 rfl w.heap.size 47 i0 _ 7 56 Try.underlying31 hi hz0 hz1 hz2 rfl (by omega) (.slice A1 (listF p ad ps k).length cc) (listF p ad ps k).length (rowC PV.cells (listF p ad ps k)) rfl
                 (HO4.out.alloc _) (w4.heap.size + 1) (some ⟨w4.heap.size, 0, none⟩) 1 1 (PV.cells ⟨id, prio, dr, bdr, state, two, at_⟩) rfl (Reads.new w4 (PV.arr ⟨id, prio, dr, bdr, state, two, at_⟩) 47 1 7 rfl) hone (by simp only [maxLen]; omega) (by omega) (by simp; have := HB4.out.size; omega) ?_
               intro A6 c6 w6 hown6 hg6 hloc6))
          have HB6 := hide ((HB4.out.alloc HB4.out.size (.cells (PV.arr ⟨id, prio, dr, bdr, state, two, at_⟩) 47)).grown hg6 (by have := HB4.out.size; simp; omega) (fun g hg => (own_base HO4.out hg).1))
          have HO6 := hide hown6
          clear hown6 hg6 hloc6
          go_roundw
          case rel => exact ⟨k + 1, A6, c6, by omega, by go_num, by rw [HS2.out]; simp, by rw [HS2.out, rowC_append, List.length_append]; apply hide; simpa [rowC] using HO6.out, HB6⟩
          case measure => simp [intOf]; omega
    · obtain rfl : k = 16 := by omega
      go_wp2
      go_ret
      exact ⟨A1, cc, rfl, hown.out, hb.out⟩

set_option maxHeartbeats 2000000 in
theorem numbers_any (A : Option Addr) (n c : Nat) (l : List PV) (w : World) (hn : n ≤ 100000) (hr : Reads w w.heap.size 7 A n (rowC PV.cells l)) :
    Calls Try.prog 27 #[.slice A n c] w fun r w' => ∃ A' c', r = .returned (.slice A' n c') ∧ w'.ownsRow w.heap.size 3 1 (.slice A' n c') n (ints (l.map (·.id))) ∧ Below w.heap.size w w' := by
  obtain ⟨i0, hi, hz0, hz1, hz2⟩ := info_parts int_info
  have hl : l.length = n := by have := hr.1; rw [rowC_length PV.cells 7 PV.cells_len] at this; omega
  have HL := hide hl
  clear hl
  go_enter Try.func27, Try.ntmps27
  go_wp2_with fail
  go_loopw [3, 8] (fun v i wr => ∃ k : Nat, ∃ A1 cc, k ≤ n ∧ i = .int .i64 k ∧ v = .slice A1 k cc ∧ Hid (wr.ownsRow w.heap.size 3 1 (.slice A1 k cc) k (ints ((l.take k).map (·.id)))) ∧ Hid (Below w.heap.size w wr)) (fun _ i _ => n - (intOf i).toNat)
  case atStart => exact ⟨0, none, 0, by omega, rfl, rfl, World.ownsRow_nil _ _ _ _, Below.refl _ _⟩
  case round =>
    obtain ⟨k, A1, cc, hk, rfl, rfl, hown, hb⟩ := hrel
    by_cases hlt : k < n
    · obtain ⟨b, off, x, rfl, hbb, hx, hat⟩ := hr.row_at PV.cells 7 PV.cells_len (by omega) hlt
      obtain ⟨id, prio, dr, bdr, state, two, at_⟩ := x
      have d0 : wr.cell? ⟨b, off + k * 7, none⟩ = some (.int .i64 id) := cell_keep (hat 0 _ rfl) hb.out
      have d1 : wr.cell? ⟨b, off + k * 7 + 1, none⟩ = some (.int .i64 prio) := cell_keep (hat 1 _ rfl) hb.out
      have d2 : wr.cell? ⟨b, off + k * 7 + 2, none⟩ = some (.int .i64 dr) := cell_keep (hat 2 _ rfl) hb.out
      have d3 : wr.cell? ⟨b, off + k * 7 + 3, none⟩ = some (.int .i64 bdr) := cell_keep (hat 3 _ rfl) hb.out
      have d4 : wr.cell? ⟨b, off + k * 7 + 4, none⟩ = some (.int .i64 state) := cell_keep (hat 4 _ rfl) hb.out
      have d5 : wr.cell? ⟨b, off + k * 7 + 5, none⟩ = some (.bool two) := cell_keep (hat 5 _ rfl) hb.out
      have d6 : wr.cell? ⟨b, off + k * 7 + 6, none⟩ = some (.int .i64 at_) := cell_keep (hat 6 _ rfl) hb.out
      have HT := hide (take_snoc _ _ _ hx)
      have HB1 := fun o1 o2 => hide ((hb.out.alloc hb.out.size o1).alloc (by have := hb.out.size; simp; omega) o2)
      have HRN := fun o1 => hide (Reads.new (wr.alloc o1) #[.int .i64 id] 3 1 1 rfl)
      clear hat hx
      go_wp2_with (first
        | (at_builtin
           refine wpList_append_any _ rfl (.tmp 12) (.tmp 15) 22 rfl w.heap.size 3 i0 _ 1 8 Try.underlying22 hi hz0 hz1 hz2 rfl (by omega) (.slice A1 k cc) k (ints ((l.take k).map (·.id))) rfl
             ((hown.out.alloc _).alloc _) (wr.heap.size + 2) (some ⟨wr.heap.size + 1, 0, none⟩) 1 1 [.int .i64 id] rfl (by have := (HRN (.cells (PV.arr ⟨id, prio, dr, bdr, state, two, at_⟩) 47)).out; simpa using this) (by simp [Value.oneCell']) (by simp only [maxLen]; omega) (by omega) (by simp; have := hb.out.size; omega) ?_
           intro A6 c6 w6 hown6 hg6 hloc6))
      have HB6 := hide ((HB1 _ _).out.grown hg6 (by have := hb.out.size; simp; omega) (fun g hg => (own_base hown.out hg).1))
      have HO6 := hide hown6
      clear hown6 hg6 hloc6
      go_roundw
      case rel => exact ⟨k + 1, A6, c6, by omega, by go_num, rfl, by rw [HT.out, List.map_append, ints_append]; exact HO6, HB6⟩
      case measure => simp [intOf]; omega
    · have hkn : k = n := by omega
      subst hkn
      have HT := hide (show l.take k = l from List.take_of_length_le (by rw [HL.out]; omega))
      go_wp2
      go_ret
      exact ⟨A1, cc, rfl, by have := hown.out; rwa [HT.out] at this, hb.out⟩
end Go.Proofs.Ytmehglliajefaaa
