/-
  quad: wide, Put, Read, copied, Bytes, Num.
-/
import Derived.Test.YtdenfgnkbfbpmaaMore
import Derived.IntWalk
import Derived.Deep.DeepCutAuto
import Derived.Laws.BitsLemmas
namespace Go.Proofs.Ytdenfgnkbfbpmaa
open Go.RowKit

/-- how many bytes a number has -/
def wideF (w : Int) : Nat := if w < 1 then 1 else if 4 < w then 4 else w.toNat
theorem wideF_pos (w : Int) : 1 ≤ wideF w := by unfold wideF; split <;> (try split) <;> omega
theorem wideF_le (w : Int) : wideF w ≤ 4 := by unfold wideF; split <;> (try split) <;> omega
theorem wide_any (n : Int) (w : World) : Calls Try.prog 68 #[.int .i64 n] w fun r w' => r = .returned (.int .i64 (wideF n)) ∧ w' = w := by
  have h : min (max n 1) 4 = (wideF n : Int) := by unfold wideF; split <;> (try split) <;> omega
  have H := hide h
  clear h
  go_enter Try.func68, Try.ntmps68
  go_wp2
  all_goals go_ret
  all_goals refine ⟨ret_int ?_, rfl⟩
  all_goals (have := H.out; first | exact this | omega)

/-- a number's lowest k bytes, the highest first -/
def numB : Nat → Int → List Int
  | 0, _ => []
  | k + 1, n => n / 2 ^ (8 * k) % 256 :: numB k n
theorem numB_length : ∀ (k : Nat) (n : Int), (numB k n).length = k
  | 0, _ => rfl
  | k + 1, n => by simp [numB, numB_length k n]
theorem numB_byte : ∀ (k : Nat) (n z : Int), z ∈ numB k n → 0 ≤ z ∧ z < 256
  | 0, _, _, h => by cases h
  | k + 1, n, z, h => by
    rcases List.mem_cons.1 h with rfl | h
    · omega
    · exact numB_byte k n z h
def putB (k : Nat) (zs : List Int) : List Int := zs.flatMap (numB k)
theorem putB_length (k : Nat) (zs : List Int) : (putB k zs).length = zs.length * k := by
  induction zs with
  | nil => simp [putB]
  | cons z zs ih => simp only [putB, List.flatMap_cons, List.length_append, numB_length] at ih ⊢; rw [ih, List.length_cons, Nat.add_mul]; omega
theorem putB_byte (k : Nat) (zs : List Int) : ∀ z ∈ putB k zs, 0 ≤ z ∧ z < 256 := fun z hz => by
  obtain ⟨n, _, h⟩ := List.mem_flatMap.1 hz
  exact numB_byte k n z h
theorem putB_snoc (k : Nat) (zs : List Int) (z : Int) : putB k (zs ++ [z]) = putB k zs ++ numB k z := by simp [putB]
theorem u8_info : (Try.prog.info? 5).map (fun i => (i.zero, i.size, i.bytes)) = some (some (.int .u8 0), 1, 1) := by kernel_rfl
theorem u8s_append (a b : List Int) : u8s (a ++ b) = u8s a ++ u8s b := by simp [u8s]

set_option maxRecDepth 20000 in
set_option maxHeartbeats 4000000 in
theorem put_any (v : Int) (A : Option Addr) (n c : Nat) (bs : List Int) (A2 : Option Addr) (n2 c2 : Nat) (zs : List Int) (w : World) (hn : n ≤ 100000) (hn2 : n2 ≤ 10000) (hr : Reads w w.heap.size 1 A n (u8s bs)) (hr2 : Reads w w.heap.size 1 A2 n2 (ints zs)) :
    Calls Try.prog 125 #[.slice A n c, .int .i64 v, .slice A2 n2 c2] w fun r w' => ∃ A' c', r = .returned (.slice A' (n + n2 * wideF v) c') ∧ w'.ownsRow w.heap.size 5 1 (.slice A' (n + n2 * wideF v) c') (n + n2 * wideF v) (u8s (bs ++ putB (wideF v) zs)) ∧ Below w.heap.size w w' := by
  obtain ⟨i0, hi, hz0, hz1, hz2⟩ := info_parts u8_info
  have HR := hide hr
  have HR2 := hide hr2
  have HL2 := hide (show zs.length = n2 by have := hr2.1; simpa [ints] using this)
  have hW1 := wideF_pos v
  have hW2 := wideF_le v
  clear hr hr2
  obtain ⟨W, hW⟩ : ∃ W, wideF v = W := ⟨_, rfl⟩
  have HW := hide hW
  rw [hW] at hW1 hW2 ⊢
  clear hW
  go_enter Try.func125, Try.ntmps125
  go_wp2_with (first
    | (at_builtin
       refine wpList_append_any _ rfl (.const (.slice none 0 0)) (.tmp 11) 42 rfl w.heap.size 5 i0 _ 1 1 Try.underlying42 hi hz0 hz1 hz2 rfl (by omega) (.slice none 0 0) 0 [] rfl
         (World.ownsRow_nil _ _ _ _) w.heap.size A n c (u8s bs) rfl HR.out (u8s_one _) (by simp only [maxLen]; omega) (by omega) (by omega) ?_
       intro A3 c3 w3 hown3 hg3 hloc3
       have HB3 := hide ((Below.refl w.heap.size w).grown hg3 (Nat.le_refl _) (fun g hg => by simp [Value.ownBlock] at hg))
       have HO3 : Hid (w3.ownsRow w.heap.size 5 1 (.slice A3 n c3) n (u8s bs)) := hide (by simpa using hown3)
       clear hown3 hg3 hloc3))
  go_loopw [7, 15] (fun s i wr => ∃ (k m : Nat) (A1 : Option Addr) (c1 : Nat), k ≤ n2 ∧ i = .int .i64 k ∧ Hid (m = n + k * W) ∧ m ≤ n + n2 * 4 ∧ s = .slice A1 m c1 ∧ Hid (wr.ownsRow w.heap.size 5 1 (.slice A1 m c1) m (u8s (bs ++ putB W (zs.take k)))) ∧ Hid (Below w.heap.size w wr)) (fun _ i _ => n2 - (intOf i).toNat)
  case atStart => exact ⟨0, n, A3, c3, Nat.zero_le _, rfl, by apply hide; omega, by omega, rfl, by simpa [putB] using HO3, HB3⟩
  case round =>
    obtain ⟨k, m, A1, c1, hk, rfl, hm, hm2, rfl, hown, hb⟩ := hrel
    by_cases hlt : k < n2
    · obtain ⟨b, off, z, rfl, hbb, hz, hat⟩ := HR2.out.int_at hlt
      have d0 : wr.cell? ⟨b, off + k, none⟩ = some (.int .i64 z) := cell_keep hat hb.out
      have HS := hide (show putB W (zs.take (k + 1)) = putB W (zs.take k) ++ numB W z by rw [take_snoc _ _ _ hz, putB_snoc])
      clear hz hat
      go_wp2_with fail
      refine (wide_any v _).mono ?_
      rintro r w4 ⟨rfl, rfl⟩
      rw [HW.out]
      obtain ⟨wo, rfl⟩ : ∃ wo : World, wo = w4 := ⟨_, rfl⟩
      go_wp2_with fail
      go_loopw [7, 10] (fun s i wr => ∃ (j : Int) (q m' : Nat) (A1 : Option Addr) (c1 : Nat) (D : List Int), Hid (j = (q : Int) - 1) ∧ -1 ≤ j ∧ j ≤ 3 ∧ i = .int .i64 j ∧ Hid (D ++ numB q z = numB W z) ∧ Hid (m' + q = m + W) ∧ m' ≤ n + n2 * 4 ∧ s = .slice A1 m' c1 ∧ Hid (wr.ownsRow w.heap.size 5 1 (.slice A1 m' c1) m' (u8s (bs ++ putB W (zs.take k) ++ D))) ∧ Hid (Below w.heap.size w wr)) (fun _ i _ => (intOf i + 1).toNat)
      case atStart => exact ⟨(W : Int) - 1, W, m, A1, c1, [], hide rfl, by omega, by omega, rfl, hide rfl, hide rfl, hm2, rfl, by simpa using hown, hb⟩
      case round =>
        obtain ⟨j, q, m', A5, c5, D, hj, hj1, hj2, rfl, hD, hmq, hm3, rfl, hown5, hb5⟩ := hrel
        by_cases hj0 : 0 ≤ j
        · obtain ⟨p, rfl⟩ : ∃ p : Nat, q = p + 1 := ⟨q - 1, by have := hj.out; omega⟩
          obtain rfl : j = (p : Int) := by have := hj.out; omega
          have hbs5 := hb5.out.size
          go_wp2_with (first
            | (at_builtin
               refine wpList_append_any _ rfl (.tmp 26) (.tmp 32) 42 rfl w.heap.size 5 i0 _ 1 1 Try.underlying42 hi hz0 hz1 hz2 rfl (by omega) (.slice A5 m' c5) m' (u8s (bs ++ putB W (zs.take k) ++ D)) rfl
                 (hown5.out.alloc _) (wr.heap.size + 1) (some ⟨wr.heap.size, 0, none⟩) 1 1 (u8s [z / 2 ^ (8 * p) % 256]) rfl (Reads.new wr #[.int .u8 (z / 2 ^ (8 * p) % 256)] 5 1 1 rfl) (u8s_one _) (by simp only [maxLen]; omega) (by omega) (by simp; omega) ?_
               intro A7 c7 w7 hown7 hg7 hloc7
               have HB7 := hide ((hb5.out.alloc hb5.out.size (.cells #[.int .u8 (z / 2 ^ (8 * p) % 256)] 5)).grown hg7 (by simp; omega) (fun g hg => (own_base hown5.out hg).1))
               have HO7 := hide hown7
               clear hown7 hg7 hloc7))
          go_roundw
          case rel => exact ⟨(p : Int) - 1, p, m' + 1, A7, c7, D ++ [z / 2 ^ (8 * p) % 256], hide rfl, by omega, by omega, rfl, (by have := hD.out; rw [numB] at this; exact hide (by simpa using this)), (by have := hmq.out; exact hide (by omega)), (by have := hmq.out; have := hm.out; have : (k + 1) * W ≤ n2 * 4 := Nat.mul_le_mul (by omega) hW2; rw [Nat.add_mul] at this; omega), rfl, (by have := HO7.out; rw [← u8s_append, List.append_assoc _ D] at this; exact hide this), HB7⟩
          case measure => (simp [intOf] <;> omega)
        · obtain rfl : q = 0 := by have := hj.out; omega
          have hj' : j = -1 := by omega
          subst hj'
          have hDD := hD.out
          rw [numB, List.append_nil] at hDD
          subst hDD
          have hm' : m' = m + W := by have := hmq.out; omega
          have HM' := hide hm'
          clear hm' hj hD hmq hj0
          go_wp2_with fail
          go_roundw
          case rel => exact ⟨k + 1, m', A5, c5, by omega, by go_num, (by have := hm.out; have := HM'.out; apply hide; rw [Nat.add_mul]; omega), hm3, rfl, (by rw [HS.out, ← List.append_assoc]; exact hown5), hb5⟩
          case measure => (simp [intOf] <;> omega)
    · have hkn : k = n2 := by omega
      have HM := hide (show m = n + n2 * W by rw [← hkn]; exact hm.out)
      have HT := hide (show zs.take k = zs from List.take_of_length_le (by rw [HL2.out]; omega))
      clear hkn
      go_wp2
      go_ret
      rw [HT.out] at hown
      rw [← HM.out]
      exact ⟨A1, c1, rfl, hown.out, hb.out⟩
end Go.Proofs.Ytdenfgnkbfbpmaa
