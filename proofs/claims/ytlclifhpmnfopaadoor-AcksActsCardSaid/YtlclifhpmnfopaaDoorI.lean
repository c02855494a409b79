/-
  syndicref13.Same, slices.Clone over heads.
-/
import Derived.Test.YtlclifhpmnfopaaDoorD
import Derived.Lib.SliceRun
namespace Go.Proofs.YtlclifhpmnfopaaDoor
open Go.RowKit

theorem neq_head (a0 a1 a2 a3 a4 a5 a6 b0 b1 b2 b3 b4 b5 b6 : Int) (W : World) :
    (binOp .neq 46 (.agg #[.int .i64 a0, .int .i64 a1, .int .i64 a2, .int .i64 a3, .int .i64 a4, .int .i64 a5, .int .i64 a6]) (.agg #[.int .i64 b0, .int .i64 b1, .int .i64 b2, .int .i64 b3, .int .i64 b4, .int .i64 b5, .int .i64 b6])).run Tryd.prog W =
      .ok (.bool (!decide (((a0, a1, a2, a3, a4, a5, a6) : Hd) = (b0, b1, b2, b3, b4, b5, b6)))) W := by
  rw [run_neq_struct, run_equalIn_struct W 9999 46 _ _ u46 s46]
  have hu := Tryd.underlying3
  simp [go_sem, Op.eqFields, part, hu]
  (repeat' split) <;> simp_all

theorem heads_one (l : List Hd) : ∀ u ∈ heads l, u.oneCell' = true := by
  intro u hu
  obtain ⟨h, _, hu⟩ := List.mem_flatMap.1 hu
  simp [Hd.vals] at hu
  rcases hu with rfl | rfl | rfl | rfl | rfl | rfl | rfl <;> rfl
theorem heads_drop (l : List Hd) : ∀ k, (heads l).drop (k * 7) = heads (l.drop k) := by
  induction l with
  | nil => intro k; simp [heads]
  | cons h l ih =>
    intro k
    cases k with
    | zero => simp
    | succ k =>
      have := ih k
      simp only [List.drop_succ_cons]
      rw [← this, show (k + 1) * 7 = 7 + k * 7 by omega, ← List.drop_drop]
      congr 1
theorem heads_take (l : List Hd) : ∀ k, (heads l).take (k * 7) = heads (l.take k) := by
  induction l with
  | nil => intro k; simp [heads]
  | cons h l ih =>
    intro k
    cases k with
    | zero => simp [heads]
    | succ k =>
      have := ih k
      simp only [List.take_succ_cons]
      have e : ∀ m : List Hd, heads (h :: m) = Hd.vals h ++ heads m := fun m => rfl
      rw [e, e, ← this, List.take_append]
      have hl : (Hd.vals h).length = 7 := rfl
      rw [hl, show (k + 1) * 7 - 7 = k * 7 by omega, List.take_of_length_le (by rw [hl]; omega)]

/-- a part of a slice of heads -/
theorem Reads.sub {w : World} {B n : Nat} {A : Option Addr} {hs : List Hd} (h : Reads w B 7 A n (heads hs)) {lo hi m : Nat} (h1 : lo ≤ hi) (h2 : hi ≤ n) (h3 : lo < hi → m ≠ lo) :
    Reads w B 7 (if m = lo then A else A.map (·.add (lo * 7))) (hi - lo) (heads ((hs.drop lo).take (hi - lo))) := by
  have hl : hs.length = n := by have := h.1; rw [heads_length] at this; omega
  refine ⟨by rw [heads_length, List.length_take, List.length_drop, hl]; congr 1; omega, fun hp => ?_⟩
  obtain ⟨b, off, e, hb, hc⟩ := h.2 (by omega)
  subst e
  refine ⟨b, off + lo * 7, ?_, hb, fun j u hu => ?_⟩
  · rw [if_neg (h3 (by omega))]
    simp [Addr.add]
  · rw [← heads_take, ← heads_drop, List.getElem?_take] at hu
    split at hu
    · rw [List.getElem?_drop] at hu
      rw [Nat.add_assoc]
      exact hc _ _ hu
    · cases hu

set_option maxHeartbeats 2000000 in
theorem same_any (A : Option Addr) (n c : Nat) (hs : List Hd) (A' : Option Addr) (n' c' : Nat) (w : World) (hn : n ≤ 9223372036854775807) (hr : Reads w w.heap.size 7 A n (heads hs)) (hr' : Reads w w.heap.size 7 A' n' (heads hs)) :
    Calls Tryd.prog 21 #[.slice A n c, .slice A' n' c'] w fun r w' => r = .returned (.bool true) ∧ Below w.heap.size w w' := by
  have hl1 : hs.length = n := by have := hr.1; rw [heads_length] at this; omega
  have hl2 : hs.length = n' := by have := hr'.1; rw [heads_length] at this; omega
  obtain rfl : n' = n := by omega
  have Hlen := hide hl1
  clear hl1 hl2
  go_enter Tryd.func21, Tryd.ntmps21
  go_wp2_with fail
  go_loopw [5] (fun i wr => ∃ k : Nat, ∃ d : Nat, k ≤ n' ∧ i = .int .i64 k ∧ wr = w.drewN d) (fun i _ => n' - (intOf i).toNat)
  case atStart => exact ⟨0, 0, Nat.zero_le _, rfl, rfl⟩
  case round =>
    obtain ⟨k, d, hk, rfl, rfl⟩ := hrel
    by_cases hlt : k < n'
    · obtain ⟨b, off, x, rfl, hbb, hx, hat⟩ := hr.head_at hlt
      obtain ⟨b', off', x', rfl, hbb', hx', hat'⟩ := hr'.head_at hlt
      obtain rfl : x' = x := Option.some.inj (hx'.symm.trans hx)
      obtain ⟨h0, h1, h2, h3, h4, h5, h6⟩ := hat
      obtain ⟨g0, g1, g2, g3, g4, g5, g6⟩ := hat'
      obtain ⟨x0, x1, x2, x3, x4, x5, x6⟩ := x'
      clear hx hx'
      have he := neq_head x0 x1 x2 x3 x4 x5 x6 x0 x1 x2 x3 x4 x5 x6
      rw [show decide (((x0, x1, x2, x3, x4, x5, x6) : Hd) = (x0, x1, x2, x3, x4, x5, x6)) = true from decide_eq_true rfl] at he
      have hq := q46
      go_wp2_with fail
      go_quiet (fail)
      go_wp2
      go_roundw
      case rel => exact ⟨k + 1, d + nq, by omega, by go_num, rfl⟩
      case measure => simp [intOf]; omega
    · go_wp2
      go_ret
      exact ⟨rfl, below_drewN (Below.refl _ _) _⟩

set_option maxHeartbeats 2000000 in
theorem clone_any (A : Addr) (n c : Nat) (hs : List Hd) (w : World) (hn : n ≤ 100000) (hr : Reads w w.heap.size 7 (some A) n (heads hs)) :
    Calls Tryd.prog 24 #[.slice (some A) n c] w fun r w' => ∃ v, r = .returned v ∧ OwnHeads w hs v w' := by
  have hl1 : hs.length = n := by have := hr.1; rw [heads_length] at this; omega
  go_enter Tryd.func24, Tryd.ntmps24
  have hq : ∀ w : World, (binOp .eql 33 (.slice (some A) n c) (.slice none 0 0)).run Tryd.prog w = .ok (.bool (some A).isNone) w := fun w => Lib.run_eql_slice_nil w 33 46 (some A) n c 0 0 Tryd.underlying33
  obtain ⟨i0, hi, hz0, hz1, hz2⟩ := info_parts head_infoD
  have hown := World.ownsRow_made (e := 46) (size := 7) w #[] 0 (Nat.le_refl _) (Nat.zero_le _) rfl
  go_wp2_with (first
          | (at_builtin
             refine wpList_append_any _ rfl (.tmp 5) (.tmp 6) 33 rfl w.heap.size 46 i0 _ 7 56 Tryd.underlying33 hi hz0 hz1 hz2 rfl (by omega) (.slice (some ⟨w.heap.size, 0, none⟩) 0 0) 0 [] rfl
               hown w.heap.size (some A) n c (heads hs) rfl (hr.alloc (Nat.le_refl _) _) (heads_one hs) (by simp only [maxLen]; omega) (by omega) (by simp) ?_
             intro A3 c3 w3 hown3 hg3 hloc3))
  have hb3 : Below w.heap.size w w3 := ((Below.refl _ _).alloc (Nat.le_refl _) _).grown hg3 (by simp) (fun g hg => (own_base hown hg).1)
  go_wp2
  go_ret
  exact ⟨.slice A3 n c3, rfl, A3, c3, by rw [hl1], by rw [hl1]; simpa using hown3, hb3⟩
end Go.Proofs.YtlclifhpmnfopaaDoor
