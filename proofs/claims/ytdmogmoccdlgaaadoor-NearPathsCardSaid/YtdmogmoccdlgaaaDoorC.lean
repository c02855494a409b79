/-
  near.Path over any slice of integers: the fold of the reference's step; the law's example holds.
-/
import Derived.Test.YtdmogmoccdlgaaaDoorB
namespace Go.Proofs.YtdmogmoccdlgaaaDoor
open Go.RowKit

def pathF (s : Int) (l : List Int) : Int := l.foldl (fun s e => refB s e true) s
theorem pathF_snoc (s : Int) (l : List Int) (e : Int) : pathF s (l ++ [e]) = refB (pathF s l) e true := by simp [pathF]
def ints (l : List Int) : List Value := l.map (Value.int .i64)
theorem take_snoc {α : Type} (l : List α) (k : Nat) (x : α) (h : l[k]? = some x) : l.take (k + 1) = l.take k ++ [x] := by
  rw [List.take_add_one, h]; rfl
theorem Reads.int_at {w : World} {B n k : Nat} {A : Option Addr} {zs : List Int} (h : Reads w B 1 A n (ints zs)) (hk : k < n) :
    ∃ b off z, A = some ⟨b, off, none⟩ ∧ b < B ∧ zs[k]? = some z ∧ w.cell? ⟨b, off + k, none⟩ = some (.int .i64 z) := by
  obtain ⟨b, off, u, e, hb, hx, hc⟩ := h.at_ hk
  simp only [ints, List.getElem?_map, Option.map_eq_some_iff] at hx
  obtain ⟨z, hz, rfl⟩ := hx
  exact ⟨b, off, z, e, hb, hz, hc⟩

set_option maxHeartbeats 1000000 in
theorem path_any (A : Option Addr) (n c : Nat) (zs : List Int) (w : World) (h : HasRules w) (h0 : 0 < w.heap.size) (hn : n ≤ 9223372036854775807) (hr : Reads w w.heap.size 1 A n (ints zs)) :
    Calls Tryd.prog 10 #[.slice A n c] w fun r w' => r = .returned (.int .i64 (pathF 0 zs)) ∧ Below w.heap.size w w' := by
  have hlen : zs.length = n := by have := hr.1; simpa [ints] using this
  have Hlen := hide hlen
  clear hlen
  go_enter Tryd.func10, Tryd.ntmps10
  go_wp2
  go_loopw [3, 8] (fun s i wr => ∃ k : Nat, k ≤ n ∧ i = .int .i64 k ∧ s = .int .i64 (pathF 0 (zs.take k)) ∧ Below w.heap.size w wr) (fun _ i _ => n - (intOf i).toNat)
  case atStart => exact ⟨0, Nat.zero_le _, rfl, rfl, Below.refl _ _⟩
  case round =>
    obtain ⟨k, hk, rfl, rfl, hb⟩ := hrel
    by_cases hlt : k < n
    · obtain ⟨b, off, z, rfl, hbb, hz, hc⟩ := hr.int_at hlt
      have hcx : wr.cell? ⟨b, off + k, none⟩ = some (.int .i64 z) := (hb.cell hbb).trans hc
      have HS := hide (show pathF 0 (zs.take (k + 1)) = refB (pathF 0 (zs.take k)) z true by rw [take_snoc _ _ _ hz, pathF_snoc])
      have HR := hide (h.below hb h0)
      clear hz hc
      go_wp2_with (go_at_call 8; refine (step_any _ _ _ _ HR.out).mono ?_; rintro e w1 ⟨rfl, hb1⟩)
      go_roundw
      case rel => exact ⟨k + 1, by omega, by go_num, by rw [HS.out], below_call hb hb.size hb1⟩
      case measure => simp [intOf]; omega
    · have HF := hide (show pathF 0 (zs.take k) = pathF 0 zs by rw [List.take_of_length_le (by rw [Hlen.out]; omega)])
      go_wp2
      go_ret
      exact ⟨ret_int HF.out, hb⟩

theorem wakes_any (w : World) (h : HasRules w) (h0 : 0 < w.heap.size) : Calls Tryd.prog 7 #[] w fun r w' => r = .returned (.bool true) ∧ Below w.heap.size w w' := by
  have HR := hide (h.below ((Below.refl w.heap.size w).alloc (Nat.le_refl _) (.cells #[.int .i64 0, .int .i64 1] 3)) h0)
  have HP := hide (show pathF 0 [0, 1] = 3 by decide)
  go_enter Tryd.func7, Tryd.ntmps7
  go_wp2_with fail
  refine (path_any _ _ _ [0, 1] _ HR.out (by simp) (by omega) ⟨rfl, fun _ => ⟨w.heap.size, 0, rfl, by simp, fun j u hj => ?_⟩⟩).mono ?_
  · match j, hj with
    | 0, hj => simp [ints] at hj; subst hj; simp
    | 1, hj => simp [ints] at hj; subst hj; simp
  rintro e w1 ⟨rfl, hb1⟩
  rw [HP.out]
  go_wp2
  go_ret
  exact ⟨rfl, below_call ((Below.refl _ _).alloc (Nat.le_refl _) _) (by simp) hb1⟩
end Go.Proofs.YtdmogmoccdlgaaaDoor
