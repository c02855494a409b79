/-
  Floats that are small whole numbers: their sums are exact.
-/
import Derived.Test.YtdenfgnkbfbpmaaMore
import Derived.Laws.ComplexArith
import Derived.Laws.FloatArith
import Derived.Laws.Cover3
import Derived.IntWalk
namespace Go.Proofs.Ytdenfgnkbfbpmaa
open Go.RowKit

theorem log2_shift (n k : Nat) (h0 : 0 < n) : (n * 2 ^ k).log2 = n.log2 + k := by
  have hp : 0 < 2 ^ k := Nat.two_pow_pos k
  rw [Nat.log2_eq_iff (by have := Nat.mul_pos h0 hp; omega)]
  obtain ⟨h1, h2⟩ := (Nat.log2_eq_iff (by omega : n ≠ 0)).1 rfl
  refine ⟨?_, ?_⟩
  · rw [Nat.pow_add]; exact Nat.mul_le_mul_right _ h1
  · rw [show n.log2 + k + 1 = n.log2 + 1 + k by omega, Nat.pow_add]; exact Nat.mul_lt_mul_of_pos_right h2 hp
theorem log2_le52 (n : Nat) (h0 : 0 < n) (h1 : n < 2 ^ 53) : n.log2 ≤ 52 := by
  have := (Nat.log2_lt (by omega : n ≠ 0)).2 h1
  omega
/-- a number's rung -/
def rungF (n : Nat) : Nat := (n.log2 + 1022) * 2 ^ 52 + n * 2 ^ (52 - n.log2)
theorem sig_bounds (n : Nat) (h0 : 0 < n) (h1 : n < 2 ^ 53) : 2 ^ 52 ≤ n * 2 ^ (52 - n.log2) ∧ n * 2 ^ (52 - n.log2) < 2 ^ 53 := by
  have hl := log2_le52 n h0 h1
  obtain ⟨h2, h3⟩ := (Nat.log2_eq_iff (by omega : n ≠ 0)).1 rfl
  refine ⟨?_, ?_⟩
  · have := Nat.mul_le_mul_right (2 ^ (52 - n.log2)) h2
    rw [← Nat.pow_add] at this
    rwa [show n.log2 + (52 - n.log2) = 52 by omega] at this
  · have := Nat.mul_lt_mul_of_pos_right h3 (Nat.two_pow_pos (52 - n.log2))
    rw [← Nat.pow_add] at this
    rwa [show n.log2 + 1 + (52 - n.log2) = 53 by omega] at this
theorem cut_any (way : Ieee.Toward) (m drop : Nat) (neg : Bool) : way.cut neg (m * 2 ^ drop) drop = m := by
  unfold Ieee.Toward.cut
  rcases Nat.eq_zero_or_pos m with h0 | h0
  · subst h0
    cases way <;> simp
  · have hl := log2_shift m drop h0
    have hmin : min drop ((m * 2 ^ drop).log2 + 2) = drop := by rw [hl]; omega
    simp only [hmin, Nat.shiftLeft_eq, Nat.one_mul]
    have hp : 0 < 2 ^ drop := Nat.two_pow_pos drop
    rw [Nat.mul_div_cancel _ hp, Nat.mul_mod_left]
    cases way <;> simp
theorem cut_exact (m drop : Nat) (neg : Bool) : Ieee.Toward.even.cut neg (m * 2 ^ drop) drop = m := cut_any .even m drop neg
theorem nearest_exact (n k : Nat) (h0 : 0 < n) (h1 : n < 2 ^ 53) : Ieee.double.nearest false (n * 2 ^ k) (-(k : Int)) = rungF n := by
  have hl := log2_le52 n h0 h1
  obtain ⟨b1, b2⟩ := sig_bounds n h0 h1
  have hp : 0 < 2 ^ k := Nat.two_pow_pos k
  have hm := Nat.mul_pos h0 hp
  unfold Ieee.Format.nearest
  rw [if_neg (by omega), log2_shift n k h0]
  have hlp : Ieee.double.leastPlace = -1074 := by decide
  have hfb : Ieee.double.fractionBits = 52 := rfl
  have hbin : Ieee.double.binade = 2 ^ 52 := rfl
  have hinf : Ieee.double.infRung = 2047 * 2 ^ 52 := by decide
  have hlast : max (-(k : Int) + ((n.log2 + k : Nat) : Int) - (Ieee.double.fractionBits : Nat)) (-1074) = (n.log2 : Int) - 52 := by rw [hfb]; omega
  simp only [hlp, hbin, hinf]
  rw [hlast]
  have hkept : Ieee.Toward.even.cut false ((n * 2 ^ k) <<< (-(k : Int) - ((n.log2 : Int) - 52)).toNat) ((n.log2 : Int) - 52 - -(k : Int)).toNat = n * 2 ^ (52 - n.log2) := by
    rcases Nat.lt_or_ge (n.log2 + k) 52 with hc | hc
    · rw [show ((n.log2 : Int) - 52 - -(k : Int)).toNat = 0 by omega, show (-(k : Int) - ((n.log2 : Int) - 52)).toNat = 52 - n.log2 - k by omega, Nat.shiftLeft_eq]
      have := cut_exact (n * 2 ^ k * 2 ^ (52 - n.log2 - k)) 0 false
      rw [Nat.pow_zero, Nat.mul_one] at this
      rw [this, Nat.mul_assoc, ← Nat.pow_add, show k + (52 - n.log2 - k) = 52 - n.log2 by omega]
    · rw [show (-(k : Int) - ((n.log2 : Int) - 52)).toNat = 0 by omega, Nat.shiftLeft_zero, show ((n.log2 : Int) - 52 - -(k : Int)).toNat = n.log2 + k - 52 by omega]
      have := cut_exact (n * 2 ^ (52 - n.log2)) (n.log2 + k - 52) false
      rwa [Nat.mul_assoc, ← Nat.pow_add, show 52 - n.log2 + (n.log2 + k - 52) = k by omega] at this
  rw [hkept]
  unfold Ieee.Format.word rungF
  rw [show ((n.log2 : Int) - 52 - -1074).toNat = n.log2 + 1022 by omega]
  simp only [Bool.false_eq_true, if_false]
  exact Nat.min_eq_left (by omega)
theorem read_rung (n : Nat) (h0 : 0 < n) (h1 : n < 2 ^ 53) : Ieee.double.read (rungF n) = .number false (n * 2 ^ (52 - n.log2)) ((n.log2 : Int) - 52) := by
  have hl := log2_le52 n h0 h1
  obtain ⟨b1, b2⟩ := sig_bounds n h0 h1
  have hlp : Ieee.double.leastPlace = -1074 := by decide
  have hbin : Ieee.double.binade = 2 ^ 52 := rfl
  have hinf : Ieee.double.infRung = 2047 * 2 ^ 52 := by decide
  have hsw : Ieee.double.signWeight = 2 ^ 63 := rfl
  have hr : rungF n < 2 ^ 63 := by unfold rungF; omega
  have hr1 : ¬ rungF n < 2 ^ 52 := by unfold rungF; omega
  have hr2 : rungF n < 2047 * 2 ^ 52 := by unfold rungF; omega
  have hd : rungF n / 2 ^ 52 = n.log2 + 1023 := by unfold rungF; omega
  have hm : rungF n % 2 ^ 52 = n * 2 ^ (52 - n.log2) - 2 ^ 52 := by unfold rungF; omega
  generalize rungF n = r at hr hr1 hr2 hd hm ⊢
  unfold Ieee.Format.read
  have e1 : r % 2 ^ 63 = r := Nat.mod_eq_of_lt hr
  have e2 : r / 2 ^ 63 = 0 := Nat.div_eq_of_lt hr
  simp only [hlp, hbin, hinf, hsw]
  rw [e1, e2, if_neg hr1, if_pos hr2, hd, hm]
  have e3 : 2 ^ 52 + (n * 2 ^ (52 - n.log2) - 2 ^ 52) = n * 2 ^ (52 - n.log2) := by omega
  have e4 : (-1074 : Int) + ((n.log2 + 1023 - 1 : Nat) : Int) = (n.log2 : Int) - 52 := by omega
  rw [e3, e4]
  rfl

/-- the bits of a whole number -/
def fl (n : Nat) : Nat := if n = 0 then 0 else rungF n
theorem fl_of (n : Nat) (h1 : n < 2 ^ 53) : floatOfInt .f64 n = fl n := by
  unfold fl
  rcases Nat.eq_zero_or_pos n with h0 | h0
  · subst h0; decide
  · rw [if_neg (by omega), ← nearest_exact n 0 h0 h1]
    have e : floatOfInt .f64 (n : Int) = Ieee.double.nearest (decide ((n : Int) < 0)) ((n : Int).natAbs) 0 := rfl
    rw [e, Int.natAbs_natCast, decide_eq_false (by omega), Nat.pow_zero, Nat.mul_one]
    rfl
theorem fl_read (n : Nat) (hn : n < 2 ^ 53) : ∃ k : Nat, Ieee.double.read (fl n) = .number false (n * 2 ^ k) (-(k : Int)) := by
  rcases Nat.eq_zero_or_pos n with h0 | h0
  · subst h0
    obtain ⟨k, hk⟩ : ∃ k : Nat, k = 1074 := ⟨_, rfl⟩
    refine ⟨k, ?_⟩
    rw [Nat.zero_mul, hk]
    decide
  · have hl := log2_le52 n h0 hn
    refine ⟨52 - n.log2, ?_⟩
    unfold fl
    rw [if_neg (by omega), read_rung n h0 hn, show ((n.log2 : Int) - 52) = -((52 - n.log2 : Nat) : Int) by omega]
theorem fl_write (n k : Nat) (hn : n < 2 ^ 53) : Ieee.double.write (.number false (n * 2 ^ k) (-(k : Int))) = fl n := by
  unfold fl
  rcases Nat.eq_zero_or_pos n with h0 | h0
  · subst h0
    rw [if_pos rfl, Nat.zero_mul]
    rfl
  · rw [if_neg (by omega), ← nearest_exact n k h0 hn]
    rfl
theorem fl_add (a b : Nat) (hab : a + b < 2 ^ 53) : floatBits .add .f64 (fl a) (fl b) = some (fl (a + b)) := by
  obtain ⟨k, hk⟩ := fl_read a (by omega)
  obtain ⟨j, hj⟩ := fl_read b (by omega)
  show (Ieee.double.add (fl a) (fl b)) = _
  unfold Ieee.Format.add
  rw [hk, hj]
  obtain ⟨K, hK⟩ : ∃ K : Nat, max k j = K := ⟨_, rfl⟩
  have hmin : min (-(k : Int)) (-(j : Int)) = -(K : Int) := by omega
  have e1 : Ieee.signed false (a * 2 ^ k) (-(k : Int) - -(K : Int)).toNat = ((a * 2 ^ K : Nat) : Int) := by
    rw [show (-(k : Int) - -(K : Int)).toNat = K - k by omega]
    simp only [Ieee.signed, Bool.false_eq_true, if_false, Nat.shiftLeft_eq]
    rw [Nat.mul_assoc, ← Nat.pow_add, show k + (K - k) = K by omega]
  have e2 : Ieee.signed false (b * 2 ^ j) (-(j : Int) - -(K : Int)).toNat = ((b * 2 ^ K : Nat) : Int) := by
    rw [show (-(j : Int) - -(K : Int)).toNat = K - j by omega]
    simp only [Ieee.signed, Bool.false_eq_true, if_false, Nat.shiftLeft_eq]
    rw [Nat.mul_assoc, ← Nat.pow_add, show j + (K - j) = K by omega]
  have e3 : ((a * 2 ^ K : Nat) : Int) + ((b * 2 ^ K : Nat) : Int) = (((a + b) * 2 ^ K : Nat) : Int) := by rw [Nat.add_mul]; omega
  simp only [Ieee.Datum.sum, hmin, e1, e2, e3, Int.natAbs_natCast, Option.map_some, Bool.and_false, decide_eq_false (Int.not_lt.2 (Int.natCast_nonneg _)), ite_self]
  rw [fl_write (a + b) K hab]
theorem fl_toInt (n : Nat) (hn : n < 2 ^ 53) : floatToIntVal .f64 (fl n) .i64 = some (n : Int) := by
  obtain ⟨k, hk⟩ := fl_read n hn
  have e : FloatKind.decode .f64 (fl n) = .number false (n * 2 ^ k) (-(k : Int)) := hk
  have e2 : (Ieee.Datum.number false (n * 2 ^ k) (-(k : Int))).toInt .zero = some (n : Int) := by
    have h1 : (-(k : Int)).toNat = 0 := by omega
    have h2 : (- -(k : Int)).toNat = k := by omega
    simp only [Ieee.Datum.toInt, Ieee.Datum.integral, h1, h2, Nat.shiftLeft_zero, cut_any]
    simp [Ieee.signed]
  unfold floatToIntVal
  rw [e, e2]
  have h3 : IntKind.i64.min ≤ (n : Int) ∧ (n : Int) ≤ IntKind.i64.max := by
    have a1 : IntKind.i64.min = -9223372036854775808 := by decide
    have a2 : IntKind.i64.max = 9223372036854775807 := by decide
    rw [a1, a2]
    omega
  simp only [if_pos h3]
end Go.Proofs.Ytdenfgnkbfbpmaa
