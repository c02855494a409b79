/-
  fletch: held, Sums.
-/
import Derived.Test.YtdenfgnkbfbpmaaFloat
import Derived.Test.YtdenfgnkbfbpmaaRead
import Derived.WalkLawsBesides
namespace Go.Proofs.Ytdenfgnkbfbpmaa
open Go.RowKit

theorem held_any (n : Int) (w : World) (h0 : -4611686018427387904 ≤ n) (h1 : n ≤ 4611686018427387904) : Calls Try.prog 137 #[.int .i64 n] w fun r w' => r = .returned (.int .i64 (n % 255)) ∧ w' = w := by
  obtain ⟨hb1, hb2, hb3⟩ : -255 < n.tmod 255 ∧ n.tmod 255 < 255 ∧ (n.tmod 255 + 255) % 255 = n % 255 := by
    by_cases h : n < 0
    · obtain ⟨m, rfl⟩ : ∃ m : Nat, n = -(m : Int) := ⟨(-n).toNat, by omega⟩
      rw [Int.neg_tmod, Int.tmod_eq_emod_of_nonneg (by omega)]
      omega
    · rw [Int.tmod_eq_emod_of_nonneg (by omega)]; omega
  have H := hide hb3
  clear hb3
  go_enter Try.func137, Try.ntmps137
  go_wp2
  go_ret
  exact ⟨ret_int H.out, rfl⟩

theorem sum1 (x y z : Nat) (h1 : x + z < 2 ^ 53) (h2 : y < 2 ^ 53) (w : World) : (binOp .add 221 (.complex .f64 (fl x) (fl y)) (.complex .f64 (fl z) 0)).run Try.prog w = .ok (.complex .f64 (fl (x + z)) (fl y)) w :=
  run_complex_sum w .add (.inl rfl) _ .f64 _ _ _ _ _ _ (by
    have e := fl_add y 0 (by omega)
    have e2 : fl 0 = 0 := rfl
    rw [e2] at e
    unfold cSumBits
    rw [fl_add x z h1, e]
    rfl)
theorem sum2 (x y z : Nat) (h1 : x < 2 ^ 53) (h2 : y + z < 2 ^ 53) (w : World) : (binOp .add 221 (.complex .f64 (fl x) (fl y)) (.complex .f64 0 (fl z))).run Try.prog w = .ok (.complex .f64 (fl x) (fl (y + z))) w :=
  run_complex_sum w .add (.inl rfl) _ .f64 _ _ _ _ _ _ (by
    have e := fl_add x 0 (by omega)
    have e2 : fl 0 = 0 := rfl
    rw [e2] at e
    unfold cSumBits
    rw [e, fl_add y z h2]
    rfl)
theorem conv_fi (n : Nat) (hn : n < 2 ^ 53) (w : World) : (convert 222 3 (.float .f64 (fl n))).run Try.prog w = .ok (.int .i64 n) w :=
  run_convert_float_int w _ _ .f64 .i64 _ _ (by kernel_rfl) Try.underlying3 (fl_toInt n hn)
/-- the two sums -/
def sumS (s : Nat × Nat) (b : Int) : Nat × Nat := ((s.1 + b.toNat) % 255, (s.2 + (s.1 + b.toNat)) % 255)
def sumF (l : List Int) : Nat × Nat := l.foldl sumS (0, 0)
theorem sumF_snoc (l : List Int) (b : Int) : sumF (l ++ [b]) = sumS (sumF l) b := by simp [sumF]
theorem sumF_lt (l : List Int) : (sumF l).1 < 255 ∧ (sumF l).2 < 255 := by
  suffices ∀ (l : List Int) (s : Nat × Nat), s.1 < 255 → s.2 < 255 → (l.foldl sumS s).1 < 255 ∧ (l.foldl sumS s).2 < 255 from this l (0, 0) (by decide) (by decide)
  intro l
  induction l with
  | nil => intro s h1 h2; exact ⟨h1, h2⟩
  | cons b l ih => intro s h1 h2; exact ih _ (Nat.mod_lt _ (by omega)) (Nat.mod_lt _ (by omega))

set_option maxRecDepth 20000 in
set_option maxHeartbeats 4000000 in
theorem sums_any (A : Option Addr) (n c : Nat) (bs : List Int) (w : World) (hn : n ≤ 100000) (hr : Reads w w.heap.size 1 A n (u8s bs)) (hby : ∀ z ∈ bs, 0 ≤ z ∧ z < 256) :
    Calls Try.prog 121 #[.slice A n c] w fun r w' => r = .returned (.tuple #[.int .i64 (sumF bs).1, .int .i64 (sumF bs).2]) ∧ w' = w := by
  have HR := hide hr
  have HBY := hide hby
  have HL := hide (show bs.length = n by have := hr.1; simpa [u8s] using this)
  have hf0 : fl 0 = 0 := rfl
  have HF0 := hide hf0
  clear hr hby hf0
  go_enter Try.func121, Try.ntmps121
  go_wp2_with fail
  go_loop [4, 9] (fun v i => ∃ k : Nat, k ≤ n ∧ i = .int .i64 k ∧ v = .complex .f64 (fl (sumF (bs.take k)).1) (fl (sumF (bs.take k)).2)) (fun _ i => n - (intOf i).toNat)
  case atStart => exact ⟨0, Nat.zero_le _, rfl, rfl⟩
  case round =>
    obtain ⟨k, hk, rfl, rfl⟩ := hrel
    obtain ⟨l1, l2⟩ := sumF_lt (bs.take k)
    by_cases hlt : k < n
    · obtain ⟨b, off, z, rfl, hbb, hz, hat⟩ := HR.out.byte_at hlt
      obtain ⟨z0, z1⟩ := HBY.out z (List.mem_of_getElem? hz)
      obtain ⟨q, rfl⟩ : ∃ q : Nat, z = q := ⟨z.toNat, by omega⟩
      have HS := hide (show sumF (bs.take (k + 1)) = sumS (sumF (bs.take k)) q by rw [take_snoc _ _ _ hz, sumF_snoc])
      generalize sumF (bs.take k) = s at l1 l2 HS ⊢
      obtain ⟨x, y⟩ := s
      dsimp only at l1 l2 ⊢
      have h1 := fl_of q (by omega)
      have h2 := sum1 x y q (by omega) (by omega)
      have h3 := sum2 (x + q) y (x + q) (by omega) (by omega)
      have h4 := conv_fi (x + q) (by omega)
      have h5 := conv_fi (y + (x + q)) (by omega)
      have h6 : floatOfInt .f64 (((x : Int) + (q : Int)) % 255) = fl ((x + q) % 255) := by
        have := fl_of ((x + q) % 255) (by omega)
        rwa [show (((x + q) % 255 : Nat) : Int) = ((x : Int) + (q : Int)) % 255 by omega] at this
      have h7 : floatOfInt .f64 (((y : Int) + ((x : Int) + (q : Int))) % 255) = fl ((y + (x + q)) % 255) := by
        have := fl_of ((y + (x + q)) % 255) (by omega)
        rwa [show (((y + (x + q)) % 255 : Nat) : Int) = ((y : Int) + ((x : Int) + (q : Int))) % 255 by omega] at this
      clear hz
      go_wp2_with fail
      refine (held_any _ _ (by omega) (by omega)).mono ?_
      rintro r w1 ⟨rfl, rfl⟩
      go_wp2_with fail
      refine (held_any _ _ (by omega) (by omega)).mono ?_
      rintro r w1 ⟨rfl, rfl⟩
      go_wp2_with fail
      go_round
      case rel => exact ⟨k + 1, by omega, by go_num, by rw [HS.out]; rfl⟩
      case measure => (simp [intOf] <;> omega)
    · have hkl : bs.take k = bs := List.take_of_length_le (by rw [HL.out]; omega)
      rw [hkl] at l1 l2 ⊢
      have HP := hide (show (Value.tuple #[.int .i64 ((sumF bs).1 : Nat), .int .i64 ((sumF bs).2 : Nat)] = .tuple #[.int .i64 (sumF bs).1, .int .i64 (sumF bs).2]) from rfl)
      have h4 := conv_fi (sumF bs).1 (by omega)
      have h5 := conv_fi (sumF bs).2 (by omega)
      clear hkl
      go_wp2
      go_ret2
      exact ⟨rfl, rfl⟩
end Go.Proofs.Ytdenfgnkbfbpmaa
