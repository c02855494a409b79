/-
  What a network is in memory; lan.New, On, Len, modulo; syndicref01.Same.
-/
import Derived.Test.YtdenfgnkbfbpmaaLanA
namespace Go.Proofs.Ytdenfgnkbfbpmaa
open Go.RowKit

def lanCells (room : Int) (on : Nat → Bool) (v : Value) : Array Value :=
  #[.int .i64 room, .bool (on 0), .bool (on 1), .bool (on 2), .bool (on 3), .bool (on 4), .bool (on 5), .bool (on 6), .bool (on 7), .bool (on 8), .bool (on 9), .bool (on 10), .bool (on 11), .bool (on 12), .bool (on 13), .bool (on 14), .bool (on 15), v]
theorem lanCells_on (room : Int) (on : Nat → Bool) (v : Value) (i : Nat) (hi : i < 16) : (lanCells room on v)[1 + i]? = some (.bool (on i)) := by
  have h : i = 0 ∨ i = 1 ∨ i = 2 ∨ i = 3 ∨ i = 4 ∨ i = 5 ∨ i = 6 ∨ i = 7 ∨ i = 8 ∨ i = 9 ∨ i = 10 ∨ i = 11 ∨ i = 12 ∨ i = 13 ∨ i = 14 ∨ i = 15 := by omega
  rcases h with rfl | rfl | rfl | rfl | rfl | rfl | rfl | rfl | rfl | rfl | rfl | rfl | rfl | rfl | rfl | rfl <;> rfl
def setOn (on : Nat → Bool) (k : Nat) : Nat → Bool := fun i => if i = k then true else on i
theorem lanCells_set (room : Int) (on : Nat → Bool) (v : Value) (k : Nat) (hk : k < 16) : (lanCells room on v).setIfInBounds (1 + k) (.bool true) = lanCells room (setOn on k) v := by
  have h : k = 0 ∨ k = 1 ∨ k = 2 ∨ k = 3 ∨ k = 4 ∨ k = 5 ∨ k = 6 ∨ k = 7 ∨ k = 8 ∨ k = 9 ∨ k = 10 ∨ k = 11 ∨ k = 12 ∨ k = 13 ∨ k = 14 ∨ k = 15 := by omega
  rcases h with rfl | rfl | rfl | rfl | rfl | rfl | rfl | rfl | rfl | rfl | rfl | rfl | rfl | rfl | rfl | rfl <;> rfl

/-- who is on it, of those that are told -/
def onFO (ids : List Int) : Nat → Bool := fun i => decide (1 ≤ i ∧ i ≤ 15 ∧ (i : Int) ∈ ids)
def roomF (room : Int) : Int := if room < 1 then 1 else if 1024 < room then 1024 else room
def intsO (zs : List Int) : List Value := zs.map fun z => .int .i64 z
theorem Reads.int_atO {w : World} {B n k : Nat} {A : Option Addr} {zs : List Int} (h : Reads w B 1 A n (intsO zs)) (hk : k < n) : ∃ b off z, A = some ⟨b, off, none⟩ ∧ b < B ∧ zs[k]? = some z ∧ w.cell? ⟨b, off + k, none⟩ = some (.int .i64 z) := by
  obtain ⟨b, off, u, e, hb, hu, hc⟩ := h.at_ hk
  rw [intsO, List.getElem?_map] at hu
  obtain ⟨z, hz, rfl⟩ := Option.map_eq_some_iff.1 hu
  exact ⟨b, off, z, e, hb, hz, hc⟩
theorem Reads.byte_atO {w : World} {B n k : Nat} {A : Option Addr} {zs : List Int} (h : Reads w B 1 A n (u8sO zs)) (hk : k < n) : ∃ b off z, A = some ⟨b, off, none⟩ ∧ b < B ∧ zs[k]? = some z ∧ w.cell? ⟨b, off + k, none⟩ = some (.int .u8 z) := by
  obtain ⟨b, off, u, e, hb, hu, hc⟩ := h.at_ hk
  rw [u8sO, List.getElem?_map] at hu
  obtain ⟨z, hz, rfl⟩ := Option.map_eq_some_iff.1 hu
  exact ⟨b, off, z, e, hb, hz, hc⟩
theorem take_snocO {α : Type} (l : List α) (k : Nat) (x : α) (h : l[k]? = some x) : l.take (k + 1) = l.take k ++ [x] := by
  rw [List.take_add_one, h]; rfl

theorem onF_in (ids : List Int) (z : Int) (k : Nat) (hz : z = k) (h1 : 1 ≤ k) (h2 : k ≤ 15) : onFO (ids ++ [z]) = setOn (onFO ids) k := by
  funext i
  by_cases e : i = k
  · subst e; simp [onFO, setOn, hz, h1, h2]
  · have : ¬ ((i : Int) = z) := by omega
    simp [onFO, setOn, e, this]
theorem onF_out (ids : List Int) (z : Int) (h : ¬ (1 ≤ z ∧ z ≤ 15)) : onFO (ids ++ [z]) = onFO ids := by
  funext i
  simp only [onFO, List.mem_append, List.mem_singleton, decide_eq_decide]
  constructor
  · rintro ⟨a, b, c | c⟩
    · exact ⟨a, b, c⟩
    · omega
  · rintro ⟨a, b, c⟩
    exact ⟨a, b, .inl c⟩

set_option maxRecDepth 20000 in
set_option maxHeartbeats 4000000 in
theorem new_any (room : Int) (A : Option Addr) (n c : Nat) (ids : List Int) (w : World) (hr : Reads w w.heap.size 1 A n (intsO ids)) (hn : n ≤ 100000) :
    Calls Try.prog 7 #[.int .i64 room, .slice A n c] w fun r w' => r = .returned (.pointer (some ⟨w.heap.size, 0, none⟩)) ∧ Blk w' w.heap.size 73 (lanCells (roomF room) (onFO ids) (.slice none 0 0)) ∧ Below w.heap.size w w' := by
  have hlen : ids.length = n := by have := hr.1; simpa [intsO] using this
  have Hlen := hide hlen
  clear hlen
  go_enter Try.func7, Try.ntmps7
  go_wp2_with fail
  all_goals
    generalize hW : World.alloc w _ = W1
    have hbl : Blk W1 w.heap.size 73 (lanCells (roomF room) (onFO []) (.slice none 0 0)) := by
      unfold Blk
      rw [← hW, heap_alloc_new]
      simp [lanCells, onFO, roomF]
      omega
    have hB1 : Below w.heap.size w W1 := by rw [← hW]; exact (Below.refl _ _).alloc (Nat.le_refl _) _
    clear hW
    have HB1 := hide hB1
    have HBL := hide hbl
    clear hbl hB1
    go_loopw [15] (fun i wr => ∃ k : Nat, k ≤ n ∧ i = .int .i64 k ∧ Blk wr w.heap.size 73 (lanCells (roomF room) (onFO (ids.take k)) (.slice none 0 0)) ∧ Below w.heap.size w wr) (fun i _ => n - (intOf i).toNat)
    case atStart => exact ⟨0, Nat.zero_le _, rfl, by simpa using HBL.out, HB1.out⟩
    case round =>
      obtain ⟨k, hk, rfl, hbl, hb⟩ := hrel
      by_cases hlt : k < n
      · obtain ⟨b, off, z, rfl, hbb, hz, hcell⟩ := hr.int_atO hlt
        have hcell' : wr.cell? ⟨b, off + k, none⟩ = some (.int .i64 z) := (hb.cell (p := ⟨b, off + k, none⟩) hbb).trans hcell
        have HT := hide (take_snocO _ _ _ hz)
        clear hcell hz
        by_cases hin : 1 ≤ z ∧ z ≤ 15
        · obtain ⟨q, rfl⟩ : ∃ q : Nat, z = q := ⟨z.toNat, by omega⟩
          have hq1 : 1 ≤ q := by omega
          have hq2 : q ≤ 15 := by omega
          have hc0 : wr.cell? ⟨w.heap.size, 1 + q, none⟩ = some (.bool (onFO (ids.take k) q)) := (hbl.cell (1 + q)).trans (lanCells_on _ _ _ q (by omega))
          have hf0 : wr.frozen? ⟨w.heap.size, 1 + q, none⟩ = false := hbl.frozen _
          have hbl2 := hbl.set_ (1 + q) (.bool true)
          rw [lanCells_set _ _ _ q (by omega), ← onF_in _ q q rfl hq1 hq2, ← HT.out] at hbl2
          have HBL2 := hide hbl2
          have HB2 := hide (hb.setCell (p := ⟨w.heap.size, 1 + q, none⟩) (Nat.le_refl _) (.bool true))
          clear hbl2 hbl hb
          go_wp2
          go_roundw
          case rel => exact ⟨k + 1, by omega, by go_num, HBL2.out, HB2.out⟩
          case measure => simp [intOf]; omega
        · have hE := onF_out (ids.take k) z hin
          rw [← HT.out] at hE
          rw [← hE] at hbl
          have HBL2 := hide hbl
          have HB2 := hide hb
          clear hbl hb hE
          have hin' : z < 1 ∨ 15 < z := by omega
          rcases hin' with hz1 | hz2
          · go_wp2
            go_roundw
            case rel => exact ⟨k + 1, by omega, by go_num, HBL2.out, HB2.out⟩
            case measure => simp [intOf]; omega
          · go_wp2
            go_roundw
            case rel => exact ⟨k + 1, by omega, by go_num, HBL2.out, HB2.out⟩
            case measure => simp [intOf]; omega
      · have hke : ids.take k = ids := List.take_of_length_le (by rw [Hlen.out]; omega)
        rw [hke] at hbl
        have HBL2 := hide hbl
        clear hbl
        go_wp2
        go_ret
        exact ⟨rfl, HBL2.out, hb⟩

theorem tmod_pos (n m : Int) : (n.tmod m + m) % m = n % m := by
  rw [Int.add_emod_right, Int.tmod_def, Int.sub_mul_emod_self_left]

theorem modulo_anyO (n m : Int) (hm : 0 < m) (hm2 : m ≤ 1000000) (w : World) : Calls Try.prog 33 #[.int .i64 n, .int .i64 m] w fun r w' => r = .returned (.int .i64 (n % m)) ∧ Below w.heap.size w w' := by
  have h1 := Int.tmod_lt_of_pos n hm
  have h2 := Int.lt_tmod_of_pos n hm
  have H := hide (tmod_pos n m)
  go_enter Try.func33, Try.ntmps33
  go_wp2
  go_ret
  exact ⟨ret_int H.out, Below.refl _ _⟩

theorem index_on (on : Nat → Bool) (k : Nat) (hk : k < 16) (w : World) :
    (Instr.index 70 (.agg #[.bool (on 0), .bool (on 1), .bool (on 2), .bool (on 3), .bool (on 4), .bool (on 5), .bool (on 6), .bool (on 7), .bool (on 8), .bool (on 9), .bool (on 10), .bool (on 11), .bool (on 12), .bool (on 13), .bool (on 14), .bool (on 15)]) (.int .i64 (k : Int))).run Try.prog w = .ok (.bool (on k)) w := by
  have h : k = 0 ∨ k = 1 ∨ k = 2 ∨ k = 3 ∨ k = 4 ∨ k = 5 ∨ k = 6 ∨ k = 7 ∨ k = 8 ∨ k = 9 ∨ k = 10 ∨ k = 11 ∨ k = 12 ∨ k = 13 ∨ k = 14 ∨ k = 15 := by omega
  rcases h with rfl | rfl | rfl | rfl | rfl | rfl | rfl | rfl | rfl | rfl | rfl | rfl | rfl | rfl | rfl | rfl <;> (show _ = _; kernel_rfl)

/-- those on it, rising, below k -/
def onL (on : Nat → Bool) (k : Nat) : List Int := ((List.range k).filter on).map Int.ofNat
theorem onL_succ (on : Nat → Bool) (k : Nat) : onL on (k + 1) = if on k = true then onL on k ++ [(k : Int)] else onL on k := by
  unfold onL
  rw [List.range_succ, List.filter_append]
  cases h : on k <;> simp [h]
theorem onL_le (on : Nat → Bool) (k : Nat) : (onL on k).length ≤ k := by
  unfold onL
  rw [List.length_map]
  have := List.length_filter_le on (List.range k)
  simpa using this
theorem int_infoO : (Try.prog.info? 3).map (fun i => (i.zero, i.size, i.bytes)) = some (some (.int .i64 0), 1, 8) := by kernel_rfl
theorem ints_appendO (a b : List Int) : intsO (a ++ b) = intsO a ++ intsO b := by simp [intsO]

set_option maxRecDepth 20000 in
set_option maxHeartbeats 4000000 in
theorem on_any (pl : Nat) (room : Int) (on : Nat → Bool) (v : Value) (w : World) (h : Blk w pl 73 (lanCells room on v)) :
    Calls Try.prog 28 #[.pointer (some ⟨pl, 0, none⟩)] w fun r w' => ∃ A c, r = .returned (.slice A (onL on 16).length c) ∧ w'.ownsRow w.heap.size 3 1 (.slice A (onL on 16).length c) (onL on 16).length (intsO (onL on 16)) ∧ Below w.heap.size w w' := by
  obtain ⟨i0, hi, hz0, hz1, hz2⟩ := info_parts int_infoO
  have c0 : w.cell? ⟨pl, 1, none⟩ = some (.bool (on 0)) := h.cell 1
  have c1 : w.cell? ⟨pl, 2, none⟩ = some (.bool (on 1)) := h.cell 2
  have c2 : w.cell? ⟨pl, 3, none⟩ = some (.bool (on 2)) := h.cell 3
  have c3 : w.cell? ⟨pl, 4, none⟩ = some (.bool (on 3)) := h.cell 4
  have c4 : w.cell? ⟨pl, 5, none⟩ = some (.bool (on 4)) := h.cell 5
  have c5 : w.cell? ⟨pl, 6, none⟩ = some (.bool (on 5)) := h.cell 6
  have c6 : w.cell? ⟨pl, 7, none⟩ = some (.bool (on 6)) := h.cell 7
  have c7 : w.cell? ⟨pl, 8, none⟩ = some (.bool (on 7)) := h.cell 8
  have c8 : w.cell? ⟨pl, 9, none⟩ = some (.bool (on 8)) := h.cell 9
  have c9 : w.cell? ⟨pl, 10, none⟩ = some (.bool (on 9)) := h.cell 10
  have c10 : w.cell? ⟨pl, 11, none⟩ = some (.bool (on 10)) := h.cell 11
  have c11 : w.cell? ⟨pl, 12, none⟩ = some (.bool (on 11)) := h.cell 12
  have c12 : w.cell? ⟨pl, 13, none⟩ = some (.bool (on 12)) := h.cell 13
  have c13 : w.cell? ⟨pl, 14, none⟩ = some (.bool (on 13)) := h.cell 14
  have c14 : w.cell? ⟨pl, 15, none⟩ = some (.bool (on 14)) := h.cell 15
  have c15 : w.cell? ⟨pl, 16, none⟩ = some (.bool (on 15)) := h.cell 16
  go_enter Try.func28, Try.ntmps28
  go_wp2_with fail
  clear c0 c1 c2 c3 c4 c5 c6 c7 c8 c9 c10 c11 c12 c13 c14 c15
  go_loopw [3, 13] (fun v i wr => ∃ k : Nat, ∃ A1 cc, k ≤ 16 ∧ i = .int .i64 k ∧ v = .slice A1 (onL on k).length cc ∧ wr.ownsRow w.heap.size 3 1 (.slice A1 (onL on k).length cc) (onL on k).length (intsO (onL on k)) ∧ Below w.heap.size w wr) (fun _ i _ => 16 - (intOf i).toNat)
  case atStart => exact ⟨0, none, 0, by omega, rfl, rfl, World.ownsRow_nil _ _ _ _, Below.refl _ _⟩
  case round =>
    obtain ⟨k, A1, cc, hk, rfl, rfl, hown, hb⟩ := hrel
    by_cases hlt : k < 16
    · have hix := index_on on k hlt
      have hle := onL_le on k
      have hs := onL_succ on k
      cases hon : on k
      · rw [hon] at hix
        rw [hon, if_neg (by simp)] at hs
        have HS := hide hs
        clear hs
        go_wp2
        go_roundw
        case rel => exact ⟨k + 1, A1, cc, by omega, by go_num, by rw [HS.out], by rw [HS.out]; exact hown, hb⟩
        case measure => simp [intOf]; omega
      · rw [hon] at hix
        rw [hon, if_pos rfl] at hs
        have HS := hide hs
        clear hs
        go_wp2_with (first
          | (at_builtin
             refine wpList_append_any _ rfl (.tmp 18) (.tmp 20) 22 rfl w.heap.size 3 i0 _ 1 8 Try.underlying22 hi hz0 hz1 hz2 rfl (by omega) (.slice A1 (onL on k).length cc) (onL on k).length (intsO (onL on k)) rfl
               (hown.alloc _) (wr.heap.size + 1) (some ⟨wr.heap.size, 0, none⟩) 1 1 [.int .i64 k] rfl (Reads.new wr #[.int .i64 k] 3 1 1 rfl) (by simp [Value.oneCell']) (by simp only [maxLen]; omega) (by omega) (by simp; have := hb.size; omega) ?_
             intro A3 c3 w3 hown3 hg3 hloc3))
        have hb3 : Below w.heap.size w w3 := (hb.alloc hb.size _).grown hg3 (by have := hb.size; simp; omega) (fun g hg => (own_baseO hown hg).1)
        have HO := hide hown3
        clear hown3 hg3 hloc3
        go_wp2
        go_roundw
        case rel => exact ⟨k + 1, A3, c3, by omega, by go_num, by rw [HS.out]; simp, by rw [HS.out, ints_appendO]; simpa [intsO] using HO.out, hb3⟩
        case measure => simp [intOf]; omega
    · obtain rfl : k = 16 := by omega
      go_wp2
      go_ret
      exact ⟨A1, cc, rfl, hown, hb⟩


end Go.Proofs.Ytdenfgnkbfbpmaa
