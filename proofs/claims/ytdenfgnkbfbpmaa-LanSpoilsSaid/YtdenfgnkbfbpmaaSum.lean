/-
  Sums of bytes: the reference's, and the place where they come out whole.
-/
import Derived.Test.YtdenfgnkbfbpmaaFill
namespace Go.Proofs.Ytdenfgnkbfbpmaa
set_option linter.unusedSimpArgs false
set_option linter.unusedVariables false

def totS (s : Int × Int) (b : Int) : Int × Int := (s.1 + b, s.2 + (s.1 + b))
def tot (l : List Int) : Int × Int := l.foldl totS (0, 0)
theorem tot_snoc (l : List Int) (b : Int) : tot (l ++ [b]) = totS (tot l) b := by simp [tot]
theorem tot_go : ∀ (l : List Int) (s : Int × Int), (∀ z ∈ l, 0 ≤ z ∧ z < 256) → 0 ≤ s.1 → 0 ≤ s.2 → s.1 + 255 * (l.length : Int) ≤ 25500000 →
    (0 ≤ (l.foldl totS s).1 ∧ (l.foldl totS s).1 ≤ s.1 + 255 * (l.length : Int)) ∧ 0 ≤ (l.foldl totS s).2 ∧ (l.foldl totS s).2 ≤ s.2 + 25500000 * (l.length : Int)
  | [], s, _, h1, h2, h3 => by simp; omega
  | b :: l, s, h, h1, h2, h3 => by
    have hb := h b (by simp)
    simp only [List.length_cons] at h3 ⊢
    have := tot_go l (totS s b) (fun z hz => h z (by simp [hz])) (by simp only [totS]; omega) (by simp only [totS]; omega) (by simp only [totS]; omega)
    simp only [List.foldl_cons]
    simp only [totS] at this ⊢
    omega
theorem tot_bound (l : List Int) (h : ∀ z ∈ l, 0 ≤ z ∧ z < 256) (hn : l.length ≤ 100000) :
    (0 ≤ (tot l).1 ∧ (tot l).1 ≤ 25500000) ∧ 0 ≤ (tot l).2 ∧ (tot l).2 ≤ 2550000000000 := by
  have := tot_go l (0, 0) h (by simp) (by simp) (by simp; omega)
  unfold tot
  simp only at this
  omega
theorem sum_go : ∀ (l : List Int) (s : Nat × Nat) (t : Int × Int), (∀ z ∈ l, 0 ≤ z ∧ z < 256) → (s.1 : Int) = t.1 % 255 → (s.2 : Int) = t.2 % 255 →
    ((l.foldl sumS s).1 : Int) = (l.foldl totS t).1 % 255 ∧ ((l.foldl sumS s).2 : Int) = (l.foldl totS t).2 % 255
  | [], s, t, _, h1, h2 => ⟨h1, h2⟩
  | b :: l, s, t, h, h1, h2 => by
    have hb := h b (by simp)
    exact sum_go l (sumS s b) (totS t b) (fun z hz => h z (by simp [hz])) (by simp only [sumS, totS]; omega) (by simp only [sumS, totS]; omega)
theorem sum_tot (l : List Int) (h : ∀ z ∈ l, 0 ≤ z ∧ z < 256) : ((sumF l).1 : Int) = (tot l).1 % 255 ∧ ((sumF l).2 : Int) = (tot l).2 % 255 :=
  sum_go l (0, 0) (0, 0) h (by simp) (by simp)
theorem tot_from : ∀ (l : List Int) (s : Int × Int), l.foldl totS s = (s.1 + (tot l).1, s.2 + (l.length : Int) * s.1 + (tot l).2)
  | [], s => by simp [tot]
  | b :: l, s => by
    have h1 := tot_from l (totS s b)
    have h2 := tot_from l (totS (0, 0) b)
    rw [List.foldl_cons, h1, show tot (b :: l) = l.foldl totS (totS (0, 0) b) from rfl, h2]
    simp only [totS, List.length_cons]
    refine Prod.ext (by simp only; omega) ?_
    have e1 : (l.length : Int) * (s.1 + b) = (l.length : Int) * s.1 + (l.length : Int) * b := Int.mul_add _ _ _
    have e2 : ((l.length + 1 : Nat) : Int) * s.1 = (l.length : Int) * s.1 + s.1 := by rw [Int.natCast_succ, Int.add_mul]; omega
    have e3 : (l.length : Int) * (0 + b) = (l.length : Int) * b := by rw [Int.zero_add]
    simp only
    rw [e1, e2, e3]
    omega
theorem tot_app (l m : List Int) : tot (l ++ m) = ((tot l).1 + (tot m).1, (tot l).2 + (m.length : Int) * (tot l).1 + (tot m).2) := by
  rw [tot, List.foldl_append]; exact tot_from m _
theorem two_parts (bs : List Int) (a : Nat) (i j : Int) (ha : a + 2 ≤ bs.length) : two_ bs a i j = bs.take a ++ ([i, j] ++ bs.drop (a + 2)) := by
  unfold two_
  apply List.ext_getElem?
  intro k
  rw [List.getElem?_append]
  by_cases h : k < a
  · rw [if_pos (by simp; omega), List.getElem?_set_ne (by omega), List.getElem?_set_ne (by omega), List.getElem?_take_of_lt h]
  · rw [if_neg (by simp; omega), List.length_take, Nat.min_eq_left (by omega)]
    by_cases h2 : k = a
    · subst h2
      rw [List.getElem?_set_ne (by omega), List.getElem?_set_self (by omega)]; simp
    · by_cases h3 : k = a + 1
      · subst h3
        rw [List.getElem?_set_self (by simp; omega)]; simp
      · rw [List.getElem?_set_ne (by omega), List.getElem?_set_ne (by omega), List.getElem?_append_right (by simp; omega), List.getElem?_drop]
        congr 1
        simp; omega
theorem tot_two (bs : List Int) (a : Nat) (i j : Int) (ha : a + 2 ≤ bs.length) :
    tot (two_ bs a i j) = ((tot (two_ bs a 0 0)).1 + i + j, (tot (two_ bs a 0 0)).2 + ((bs.length : Int) - a) * i + ((bs.length : Int) - a - 1) * j) := by
  rw [two_parts bs a i j ha, two_parts bs a 0 0 ha, tot_app, tot_app, tot_app, tot_app]
  obtain ⟨m, hm⟩ : ∃ m : Nat, bs.length = m + a + 2 := ⟨bs.length - a - 2, by omega⟩
  have hd : (bs.drop (a + 2)).length = m := by rw [List.length_drop]; omega
  have ht : tot [i, j] = (i + j, i + (i + j)) := by simp [tot, totS]
  have ht0 : tot [0, 0] = (0, 0) := by simp [tot, totS]
  have hl : ∀ x y : Int, (([x, y] ++ bs.drop (a + 2)).length : Int) = m + 2 := fun x y => by rw [List.length_append, hd]; simp; omega
  simp only [hl, ht, ht0, hd]
  rw [show (bs.length : Int) - a = m + 2 by omega, show (m : Int) + 2 - 1 = m + 1 by omega]
  generalize tot (bs.take a) = p
  generalize tot (bs.drop (a + 2)) = q
  refine Prod.ext (by simp only; omega) ?_
  simp only
  simp only [Int.mul_add, Int.add_mul, Int.mul_zero]
  omega
/-- the byte that makes all whole -/
def rootF (bs : List Int) (a : Nat) : Int := (((bs.length : Int) - a - 1) * (sumF (two_ bs a 0 0)).1 - (sumF (two_ bs a 0 0)).2) % 255
def lastF (bs : List Int) (a : Nat) (i : Int) : Int := (510 - (tot (two_ bs a 0 0)).1 % 255 - i) % 255
theorem fill_root (bs : List Int) (a : Nat) (ha : a + 2 ≤ bs.length) (h : ∀ z ∈ bs, 0 ≤ z ∧ z < 256) : fillF bs a = two_ bs a (rootF bs a) (lastF bs a (rootF bs a)) := by
  obtain ⟨e1, e2⟩ := sum_tot (two_ bs a 0 0) (two_byte bs a 0 0 h (by omega) (by omega))
  unfold fillF
  have : ((sumF (two_ bs a 0 0)).2 - ((bs.length : Int) - a) * (sumF (two_ bs a 0 0)).1) % 255 = lastF bs a (rootF bs a) := by
    unfold lastF rootF
    rw [← e1]
    have hm : ((bs.length : Int) - a) * (sumF (two_ bs a 0 0)).1 = ((bs.length : Int) - a - 1) * (sumF (two_ bs a 0 0)).1 + (sumF (two_ bs a 0 0)).1 := by
      rw [show (bs.length : Int) - a = ((bs.length : Int) - a - 1) + 1 by omega, Int.add_mul]; simp only [Int.one_mul]; rw [show (bs.length : Int) - a - 1 + 1 - 1 = (bs.length : Int) - a - 1 by omega]
    rw [hm]
    generalize ((bs.length : Int) - a - 1) * (sumF (two_ bs a 0 0)).1 = p
    omega
  rw [this]
  rfl
def wholeF (l : List Int) : Bool := decide (0 < l.length) && (decide ((tot l).1 % 255 = 0) && decide ((tot l).2 % 255 = 0))
theorem whole_two (bs : List Int) (a : Nat) (i : Int) (ha : a + 2 ≤ bs.length) (h : ∀ z ∈ bs, 0 ≤ z ∧ z < 256) (hi : 0 ≤ i ∧ i < 255) : wholeF (two_ bs a i (lastF bs a i)) = decide (i = rootF bs a) := by
  obtain ⟨e1, e2⟩ := sum_tot (two_ bs a 0 0) (two_byte bs a 0 0 h (by omega) (by omega))
  unfold wholeF
  rw [decide_eq_true (by rw [two_length]; omega), Bool.true_and, tot_two bs a i _ ha]
  unfold lastF rootF
  generalize hx : (tot (two_ bs a 0 0)).1 = x at *
  generalize hy : (tot (two_ bs a 0 0)).2 = y at *
  rw [e1, e2]
  obtain ⟨N, hN⟩ : ∃ N, (bs.length : Int) - a - 1 = N := ⟨_, rfl⟩
  rw [show (bs.length : Int) - a = N + 1 by omega]
  rw [show N + 1 - 1 = N by omega]
  obtain ⟨q, hq⟩ : ∃ q, (510 - x % 255 - i) / 255 = q := ⟨_, rfl⟩
  have hj : (510 - x % 255 - i) % 255 = 510 - x % 255 - i - 255 * q := by omega
  rw [hj, decide_eq_true (show (x + i + (510 - x % 255 - i - 255 * q)) % 255 = 0 by omega), Bool.true_and, decide_eq_decide]
  have m1 : N * (510 - x % 255 - i - 255 * q) = 510 * N - N * (x % 255) - N * i - 255 * (N * q) := by
    rw [Int.mul_sub, Int.mul_sub, Int.mul_sub, Int.mul_comm N 510, Int.mul_left_comm N 255 q]
  have m2 : (N + 1) * i = N * i + i := by rw [Int.add_mul, Int.one_mul]
  rw [m1, m2]
  generalize N * (x % 255) = p1
  generalize N * i = p2
  generalize N * q = p3
  omega
theorem two_set (bs : List Int) (a : Nat) (u v i j : Int) : ((two_ bs a u v).set a i).set (a + 1) j = two_ bs a i j := two_two bs a u v i j
theorem root_lt (bs : List Int) (a : Nat) : 0 ≤ rootF bs a ∧ rootF bs a < 255 := by unfold rootF; omega
theorem last_lt (bs : List Int) (a : Nat) (i : Int) : 0 ≤ lastF bs a i ∧ lastF bs a i < 255 := by unfold lastF; omega
end Go.Proofs.Ytdenfgnkbfbpmaa
