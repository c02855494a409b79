/-
  fletch.Fill.
-/
import Derived.Test.YtdenfgnkbfbpmaaFletch
namespace Go.Proofs.Ytdenfgnkbfbpmaa
open Go.RowKit

/-- bytes with two at a place -/
def two_ (bs : List Int) (a : Nat) (x y : Int) : List Int := (bs.set a x).set (a + 1) y
theorem two_length (bs : List Int) (a : Nat) (x y : Int) : (two_ bs a x y).length = bs.length := by simp [two_]
theorem two_byte (bs : List Int) (a : Nat) (x y : Int) (h : ∀ z ∈ bs, 0 ≤ z ∧ z < 256) (hx : 0 ≤ x ∧ x < 256) (hy : 0 ≤ y ∧ y < 256) : ∀ z ∈ two_ bs a x y, 0 ≤ z ∧ z < 256 := fun z hz => by
  rcases List.mem_or_eq_of_mem_set hz with hz | rfl
  · rcases List.mem_or_eq_of_mem_set hz with hz | rfl
    · exact h z hz
    · exact hx
  · exact hy
/-- the bytes, made whole -/
def fillF (bs : List Int) (a : Nat) : List Int :=
  two_ bs a ((((bs.length : Int) - a - 1) * (sumF (two_ bs a 0 0)).1 - (sumF (two_ bs a 0 0)).2) % 255) (((sumF (two_ bs a 0 0)).2 - ((bs.length : Int) - a) * (sumF (two_ bs a 0 0)).1) % 255)
theorem two_two (bs : List Int) (a : Nat) (x y x' y' : Int) : two_ (two_ bs a x y) a x' y' = two_ bs a x' y' := by
  unfold two_
  apply List.ext_getElem?
  intro i
  by_cases h1 : i = a + 1
  · subst h1
    simp [List.getElem?_set]
  · by_cases h2 : i = a
    · subst h2
      simp [List.getElem?_set]
    · simp [Ne.symm h1, Ne.symm h2]
theorem u8s_set (bs : List Int) (a : Nat) (x : Int) : (u8s bs).set a (.int .u8 x) = u8s (bs.set a x) := by simp [u8s]

set_option maxRecDepth 20000 in
set_option maxHeartbeats 4000000 in
theorem fill_any (A : Option Addr) (n c a : Nat) (bs : List Int) (w : World) (hn : n ≤ 100000) (ha : a + 2 ≤ n) (hr : Reads w w.heap.size 1 A n (u8s bs)) (hby : ∀ z ∈ bs, 0 ≤ z ∧ z < 256) :
    Calls Try.prog 138 #[.slice A n c, .int .i64 a] w fun r w' => ∃ A' c', r = .returned (.tuple #[.slice A' n c', .bool true]) ∧ w'.ownsRow w.heap.size 5 1 (.slice A' n c') n (u8s (fillF bs a)) ∧ Below w.heap.size w w' := by
  obtain ⟨i0, hi, hz0, hz1, hz2⟩ := info_parts u8_info
  have HR := hide hr
  have HBY := hide hby
  have HL := hide (show bs.length = n by have := hr.1; simpa [u8s] using this)
  clear hr hby
  go_enter Try.func138, Try.ntmps138
  go_upto_region 4 with (first
    | (at_builtin
       refine wpList_append_any _ rfl (.const (.slice none 0 0)) (.tmp 19) 42 rfl w.heap.size 5 i0 _ 1 1 Try.underlying42 hi hz0 hz1 hz2 rfl (by omega) (.slice none 0 0) 0 [] rfl
         (World.ownsRow_nil _ _ _ _) w.heap.size A n c (u8s bs) rfl HR.out (u8s_one _) (by simp only [maxLen]; omega) (by omega) (by omega) ?_
       intro A3 c3 w3 hown3 hg3 hloc3
       have HB3 := hide ((Below.refl w.heap.size w).grown hg3 (Nat.le_refl _) (fun g hg => by simp [Value.ownBlock] at hg))
       have HO3 : Hid (w3.ownsRow w.heap.size 5 1 (.slice A3 n c3) n (u8s bs)) := hide (by simpa using hown3)
       clear hown3 hg3 hloc3))
  obtain ⟨g, hg, hgb, hgl⟩ := own_spare HO3.out (by omega)
  subst hg
  have HQ := hide (show n ≤ c3 from by
    rcases HO3.out.2 with ⟨h0, _⟩ | ⟨g', cap, cur, h0, _, _, h1, _⟩
    · cases h0
    · cases h0; exact h1)
  obtain ⟨hs1, hk1⟩ := HO3.out.stored a (.int .u8 0)
  obtain ⟨hs2, hk2⟩ := hs1.stored (a + 1) (.int .u8 0)
  have HS2 : Hid (((w3.setCell ⟨g, a, none⟩ (.int .u8 0)).setCell ⟨g, a + 1, none⟩ (.int .u8 0)).ownsRow w.heap.size 5 1 (.slice (some ⟨g, 0, none⟩) n c3) n (u8s (two_ bs a 0 0))) := hide (by rw [two_, ← u8s_set, ← u8s_set]; exact hs2)
  have HB4 := hide ((HB3.out.setCell (p := ⟨g, a, none⟩) hgb (.int .u8 0)).setCell (p := ⟨g, a + 1, none⟩) hgb (.int .u8 0))
  have fr : ∀ i, w3.frozen? ⟨g, i, none⟩ = false := HO3.out.frozenAt
  have ce : ∀ i, i < n → (w3.cell? ⟨g, i, none⟩).isSome = true := fun i hi => by
    obtain ⟨b, off, u, e, _, _, hc⟩ := (Reads.of_own HO3.out).at_ hi
    cases e
    rw [← Nat.zero_add i, hc]
    rfl
  obtain ⟨u0, hu0⟩ := Option.isSome_iff_exists.1 (ce a (by omega))
  obtain ⟨u1, hu1⟩ := Option.isSome_iff_exists.1 (ce (a + 1) (by omega))
  clear hs1 hs2 hk1 hk2 ce
  go_upto_region 5 with (fail)
  clear hu0 hu1 fr
  generalize (w3.setCell ⟨g, a, none⟩ (.int .u8 0)).setCell ⟨g, a + 1, none⟩ (.int .u8 0) = W4 at HS2 HB4 ⊢
  have HBZ := hide (two_byte bs a 0 0 HBY.out (by omega) (by omega))
  go_wp2_with fail
  refine (sums_any _ n c3 (two_ bs a 0 0) _ hn ((Reads.of_own HS2.out)) HBZ.out).mono ?_
  rintro r w5 ⟨rfl, rfl⟩
  obtain ⟨l1, l2⟩ := sumF_lt (two_ bs a 0 0)
  have HF := hide (show fillF bs a = two_ (two_ bs a 0 0) a ((((n : Int) - a - 1) * (sumF (two_ bs a 0 0)).1 - (sumF (two_ bs a 0 0)).2) % 255) (((sumF (two_ bs a 0 0)).2 - ((n : Int) - a) * (sumF (two_ bs a 0 0)).1) % 255) by rw [two_two, fillF, HL.out])
  generalize two_ bs a 0 0 = zs at HS2 HBZ HF l1 l2 ⊢
  generalize (sumF zs).1 = x at HF l1 ⊢
  generalize (sumF zs).2 = y at HF l2 ⊢
  have p1 : 0 ≤ ((n : Int) - a - 1) * (x : Int) := Int.mul_nonneg (by omega) (by omega)
  have p2 : ((n : Int) - a - 1) * (x : Int) ≤ 100000 * 255 := Int.mul_le_mul (by omega) (by omega) (by omega) (by omega)
  have p3 : 0 ≤ ((n : Int) - a) * (x : Int) := Int.mul_nonneg (by omega) (by omega)
  have p4 : ((n : Int) - a) * (x : Int) ≤ 100000 * 255 := Int.mul_le_mul (by omega) (by omega) (by omega) (by omega)
  go_wp2_with fail
  refine (held_any _ _ (by omega) (by omega)).mono ?_
  rintro r w6 ⟨rfl, rfl⟩
  obtain ⟨v1, hv1⟩ : ∃ v, (((n : Int) - a - 1) * (x : Int) - y) % 255 = v := ⟨_, rfl⟩
  have b1 : 0 ≤ v1 := by omega
  have b2 : v1 < 256 := by omega
  rw [hv1] at HF ⊢
  clear hv1
  go_wp2_with fail
  refine (held_any _ _ (by omega) (by omega)).mono ?_
  rintro r w7 ⟨rfl, rfl⟩
  obtain ⟨v2, hv2⟩ : ∃ v, ((y : Int) - ((n : Int) - a) * (x : Int)) % 255 = v := ⟨_, rfl⟩
  have b3 : 0 ≤ v2 := by omega
  have b4 : v2 < 256 := by omega
  rw [hv2] at HF ⊢
  clear hv2 p1 p2 p3 p4
  obtain ⟨hs1, hk1⟩ := HS2.out.stored a (.int .u8 v1)
  obtain ⟨hs2, hk2⟩ := hs1.stored (a + 1) (.int .u8 v2)
  have HS3 : Hid (((w7.setCell ⟨g, a, none⟩ (.int .u8 v1)).setCell ⟨g, a + 1, none⟩ (.int .u8 v2)).ownsRow w.heap.size 5 1 (.slice (some ⟨g, 0, none⟩) n c3) n (u8s (fillF bs a))) := hide (by rw [HF.out, two_, ← u8s_set, ← u8s_set]; exact hs2)
  have HB5 := hide ((HB4.out.setCell (p := ⟨g, a, none⟩) hgb (.int .u8 v1)).setCell (p := ⟨g, a + 1, none⟩) hgb (.int .u8 v2))
  have fr : ∀ i, w7.frozen? ⟨g, i, none⟩ = false := HS2.out.frozenAt
  have ce : ∀ i, i < n → (w7.cell? ⟨g, i, none⟩).isSome = true := fun i hi => by
    obtain ⟨b, off, u, e, _, _, hc⟩ := (Reads.of_own HS2.out).at_ hi
    cases e
    rw [← Nat.zero_add i, hc]
    rfl
  obtain ⟨u0, hu0⟩ := Option.isSome_iff_exists.1 (ce a (by omega))
  obtain ⟨u1, hu1⟩ := Option.isSome_iff_exists.1 (ce (a + 1) (by omega))
  clear hs1 hs2 hk1 hk2 ce
  go_wp2_with fail
  go_ret2
  exact ⟨_, _, rfl, HS3.out, HB5.out⟩
end Go.Proofs.Ytdenfgnkbfbpmaa
