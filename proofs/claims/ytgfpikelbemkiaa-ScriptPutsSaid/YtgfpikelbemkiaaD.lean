/-
  cuts: the function value, and the iterator that it is.
-/
import Derived.RangeFuncNested
import Derived.RangeFuncBound
import Derived.RangeFuncCalls
import Derived.RangeFuncLeaves
import Derived.Shelf.Abstract
import Derived.Shelf.RegionOpen
import Derived.OwnWalkIn
import Derived.TacticsInMore
import Derived.LoopNIn
import Derived.LoopIn
import Derived.Test.YtgfpikelbemkiaaC
namespace Go.Proofs.Ytgfpikelbemkiaa
open Go.RowKit
attribute [local go_sem] Oper.semAt_some

theorem cuts_any (A : Option Addr) (n c : Nat) (N : Int) (w : World) : Calls Try.prog 12 #[.slice A n c, .int .i64 N] w fun r w' =>
    r = .returned (.func (.func 14) #[] #[.pointer (some ⟨w.heap.size, 0, none⟩), .pointer (some ⟨w.heap.size + 1, 0, none⟩)]) ∧ w' = (w.alloc (.cells #[.slice A n c] 22)).alloc (.cells #[.int .i64 N] 3) := by
  go_enter Try.func12, Try.ntmps12
  go_wp2
  go_ret
  exact ⟨by simp, rfl⟩

def sliceLen (w : World) (B : Nat) : Nat := match w.cell? ⟨B, 0, none⟩ with | some (.slice _ n _) => n | _ => 0
theorem sliceLen_eq {w : World} {B n c : Nat} {A : Option Addr} (h : Blk w B 22 #[.slice A n c]) : sliceLen w B = n := by
  have := h.cell 0
  simp [sliceLen, this]

set_option maxRecDepth 100000 in
set_option maxHeartbeats 4000000 in
theorem cuts1_in (n l Bb Bn b off len cap N : Nat) (A : Option Addr) (J : Nat → World → Prop) (hN : 1 ≤ N) (hN2 : N ≤ 100) (hlen : len ≤ cap) (hcap : cap ≤ 9223372036854775807) (hA : 0 < len → A = some ⟨b, off, none⟩) (hne : Bb ≠ Bn)
    (hJ : ∀ k W v, J k W → J k (W.setCell ⟨Bb, 0, none⟩ v))
    (hY : ∀ k W, J k W → (k + 1) * N ≤ len → YieldAt Fence.wide (n - 1) Try.prog l #[.slice (some ⟨b, off + k * N, none⟩) N (cap - k * N)] W fun e W' => e = .returned (.bool true) ∧ J (k + 1) W' ∧ W'.heap[Bb]? = W.heap[Bb]? ∧ W'.heap[Bn]? = W.heap[Bn]?)
    (W : World) (hBb : Blk W Bb 22 #[.slice A len cap]) (hBn : Blk W Bn 3 #[.int .i64 N]) (h0 : J 0 W) :
    CallsIn Fence.wide n Try.prog 14 #[.func (.yield l) #[] #[], .pointer (some ⟨Bb, 0, none⟩), .pointer (some ⟨Bn, 0, none⟩)] W fun e W' => (∃ v, e = .returned v) ∧ ∃ k, k * N ≤ len ∧ len < k * N + N ∧ J k W' := by
  refine callsIn_of_wp Try.func14 rfl trivial ?_ rfl
  simp only [Try.ntmps14, List.size_toArray, List.length_cons, List.length_nil, Nat.reduceAdd, Nat.reduceSub, Array.replicate_succ, Array.replicate_zero, List.push_toArray, List.append_toArray, List.nil_append, List.cons_append]
  gi_wp2
  gi_loopw [7] (fun _ wr => ∃ (k L C o : Nat) (Ak : Option Addr), Hid (L + k * N = len ∧ C + k * N = cap ∧ o = off + k * N) ∧ L ≤ C ∧ C ≤ 9223372036854775807 ∧ Hid (Blk wr Bb 22 #[.slice Ak L C]) ∧ (0 < L → Ak = some ⟨b, o, none⟩) ∧ Hid (Blk wr Bn 3 #[.int .i64 N]) ∧ Hid (J k wr))
    (fun _ wr => sliceLen wr Bb)
  case atStart => exact ⟨0, len, cap, off, A, by apply hide; omega, hlen, hcap, hBb, hA, hBn, h0⟩
  case round =>
    obtain ⟨k, L, C, o, Ak, hk, hLC, hC, hb1, hAk, hb2, hj⟩ := hrel
    have c1 : wr.cell? ⟨Bb, 0, none⟩ = some (.slice Ak L C) := hb1.out.cell 0
    have c2 : wr.cell? ⟨Bn, 0, none⟩ = some (.int .i64 N) := hb2.out.cell 0
    by_cases hlt : N ≤ L
    · obtain rfl := hAk (by omega)
      obtain ⟨e1, e2, e3⟩ := hk.out
      have hy := hY k wr hj.out (by rw [Nat.add_mul, Nat.one_mul]; omega)
      rw [← e3, show cap - k * N = C by omega] at hy
      obtain ⟨fn, tmps, assign, body, hy, hR⟩ := hy
      clear e1 e2 e3 hAk
      gi_wp2
      refine ⟨fun h => (by simp [Fence.wide] at h), hR.mono ?_⟩
      rintro e W3 ⟨rfl, hj3, hh1, hh2⟩
      have hb3 : Blk W3 Bb 22 #[.slice (some ⟨b, o, none⟩) L C] := hh1.trans hb1.out
      have hb4 : Blk W3 Bn 3 #[.int .i64 N] := hh2.trans hb2.out
      have q1 : W3.cell? ⟨Bb, 0, none⟩ = some (.slice (some ⟨b, o, none⟩) L C) := hb3.cell 0
      have q2 : W3.cell? ⟨Bn, 0, none⟩ = some (.int .i64 N) := hb4.cell 0
      have q3 : W3.frozen? ⟨Bb, 0, none⟩ = false := hb3.frozen 0
      have HB3 := hide hb3
      have HB4 := hide hb4
      have HJ3 := hide hj3
      clear hb3 hb4 hj3 hh1 hh2 c1 c2 hR hy
      by_cases hCN : C = N
      · subst hCN
        have hL : L = C := by omega
        subst hL
        have hn3 : Hid (Blk (W3.setCell ⟨Bb, 0, none⟩ (.slice (some ⟨b, o, none⟩) 0 0)) Bb 22 #[.slice (some ⟨b, o, none⟩) 0 0]) := hide (by have := HB3.out.set_ 0 (.slice (some ⟨b, o, none⟩) 0 0); simpa using this)
        gi_wp2
        go_roundw
        case rel => exact ⟨k + 1, 0, 0, o + L, _, (by have := hk.out; apply hide; rw [Nat.add_mul, Nat.one_mul]; omega), Nat.le_refl _, by omega, hn3, fun h => absurd h (by omega), hide (HB4.out.far (p := ⟨Bb, 0, none⟩) (Ne.symm hne) _), hide (hJ _ _ _ HJ3.out)⟩
        case measure => rw [sliceLen_eq hn3.out, sliceLen_eq hb1.out]; omega
      · have hn3 : Hid (Blk (W3.setCell ⟨Bb, 0, none⟩ (.slice (some ⟨b, o + N, none⟩) (L - N) (C - N))) Bb 22 #[.slice (some ⟨b, o + N, none⟩) (L - N) (C - N)]) := hide (by have := HB3.out.set_ 0 (.slice (some ⟨b, o + N, none⟩) (L - N) (C - N)); simpa using this)
        gi_wp2
        go_roundw
        case rel => exact ⟨k + 1, L - N, C - N, o + N, _, (by have := hk.out; apply hide; rw [Nat.add_mul, Nat.one_mul]; omega), by omega, by omega, hn3, fun _ => rfl, hide (HB4.out.far (p := ⟨Bb, 0, none⟩) (Ne.symm hne) _), hide (hJ _ _ _ HJ3.out)⟩
        case measure => rw [sliceLen_eq hn3.out, sliceLen_eq hb1.out]; omega
    · clear hAk
      gi_wp2
      go_end0
      exact ⟨⟨_, rfl⟩, k, by have := hk.out; omega, by have := hk.out; omega, hj.out⟩
end Go.Proofs.Ytgfpikelbemkiaa
