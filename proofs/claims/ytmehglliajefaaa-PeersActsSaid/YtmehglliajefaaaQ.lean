/-
  The plain law: the program's table of neighbors, as a rising list, is the reference's list; what each call does to both.
-/
import Derived.Test.YtmehglliajefaaaP
namespace Go.Proofs.Ytmehglliajefaaa
open Go.RowKit

/-- the neighbors with numbers from a on, below a + n -/
def seg (ad : Nat → Option Nat) (ps : Nat → PV) : Nat → Nat → List PV
  | _, 0 => []
  | a, n + 1 => (if (ad a).isSome = true then [ps a] else []) ++ seg ad ps (a + 1) n
theorem seg_split (ad : Nat → Option Nat) (ps : Nat → PV) (m : Nat) : ∀ (n a : Nat), seg ad ps a (n + m) = seg ad ps a n ++ seg ad ps (a + n) m
  | 0, a => by simp [seg]
  | n + 1, a => by
    rw [show n + 1 + m = (n + m) + 1 by omega, seg, seg, seg_split ad ps m n (a + 1), List.append_assoc, show a + 1 + n = a + (n + 1) by omega]
theorem seg_congr {ad ad' : Nat → Option Nat} {ps ps' : Nat → PV} : ∀ (n a : Nat), (∀ i, a ≤ i → i < a + n → (ad i).isSome = (ad' i).isSome ∧ ps i = ps' i) → seg ad ps a n = seg ad' ps' a n
  | 0, _, _ => rfl
  | n + 1, a, h => by
    obtain ⟨h1, h2⟩ := h a (by omega) (by omega)
    rw [seg, seg, h1, h2, seg_congr n (a + 1) (fun i hi hj => h i (by omega) (by omega))]
theorem seg_ids {ad : Nat → Option Nat} {ps : Nat → PV} : ∀ (n a : Nat), (∀ i, a ≤ i → i < a + n → (ad i).isSome = true → (ps i).id = i) → ∀ x ∈ seg ad ps a n, (a : Int) ≤ x.id ∧ x.id < ((a + n : Nat) : Int)
  | 0, _, _, x, hx => by cases hx
  | n + 1, a, h, x, hx => by
    rw [seg, List.mem_append] at hx
    rcases hx with hx | hx
    · split at hx
      · rename_i hs
        obtain rfl := List.mem_singleton.1 hx
        have := h a (by omega) (by omega) hs
        omega
      · cases hx
    · have := seg_ids n (a + 1) (fun i hi hj => h i (by omega) (by omega)) x hx
      omega
theorem seg_mem {ad : Nat → Option Nat} {ps : Nat → PV} : ∀ (n a : Nat) (x : PV), x ∈ seg ad ps a n → ∃ i, a ≤ i ∧ i < a + n ∧ (ad i).isSome = true ∧ ps i = x
  | 0, _, x, hx => by cases hx
  | n + 1, a, x, hx => by
    rw [seg, List.mem_append] at hx
    rcases hx with hx | hx
    · split at hx
      · rename_i hs
        exact ⟨a, by omega, by omega, hs, (List.mem_singleton.1 hx).symm⟩
      · cases hx
    · obtain ⟨i, h1, h2, h3, h4⟩ := seg_mem n (a + 1) x hx
      exact ⟨i, by omega, by omega, h3, h4⟩
theorem listF_seg (p : PV → Bool) (ad : Nat → Option Nat) (ps : Nat → PV) : ∀ k, listF p ad ps k = (seg ad ps 0 k).filter p
  | 0 => rfl
  | k + 1 => by
    rw [listF_succ, seg_split ad ps 1 k 0, List.filter_append, ← listF_seg p ad ps k, Nat.zero_add]
    cases h : ad k <;> cases hp : p (ps k) <;> simp [seg, h, hp]
/-- all of them -/
def allL (ad : Nat → Option Nat) (ps : Nat → PV) : List PV := seg ad ps 0 16
theorem listF_allL (p : PV → Bool) (ad : Nat → Option Nat) (ps : Nat → PV) : listF p ad ps 16 = (allL ad ps).filter p := listF_seg p ad ps 16
theorem listF_true (ad : Nat → Option Nat) (ps : Nat → PV) : listF (fun _ => true) ad ps 16 = allL ad ps := by rw [listF_allL]; simp
theorem seg_le (ad : Nat → Option Nat) (ps : Nat → PV) : ∀ (n a : Nat), (seg ad ps a n).length ≤ n
  | 0, _ => by simp [seg]
  | n + 1, a => by
    have := seg_le ad ps n (a + 1)
    rw [seg, List.length_append]
    split <;> simp <;> omega
theorem allL_le (ad : Nat → Option Nat) (ps : Nat → PV) : (allL ad ps).length ≤ 16 := seg_le ad ps 16 0
/-- the list, cut at a number -/
theorem allL_cut (ad : Nat → Option Nat) (ps : Nat → PV) (q : Nat) (hq : q < 16) : allL ad ps = seg ad ps 0 q ++ ((if (ad q).isSome = true then [ps q] else []) ++ seg ad ps (q + 1) (15 - q)) := by
  unfold allL
  have h1 := seg_split ad ps (16 - q) q 0
  rw [show q + (16 - q) = 16 by omega, Nat.zero_add] at h1
  rw [h1, show 16 - q = (15 - q) + 1 by omega, seg]

/-- a table is right: who is there has his number -/
def TabOK (ad : Nat → Option Nat) (ps : Nat → PV) : Prop := (∀ i, i < 16 → (ad i).isSome = true → (ps i).id = i) ∧ ad 0 = none
theorem PeersRep.tab {w : World} {F : Nat → Prop} {pl : Nat} {me lan : Int} {ad : Nat → Option Nat} {ps : Nat → PV} (h : PeersRep w F pl me lan ad ps) : TabOK ad ps :=
  ⟨fun i hi hs => by obtain ⟨g, hg⟩ := Option.isSome_iff_exists.1 hs; exact (h.one i g hi hg).2.2.2, h.zero⟩

section
variable {ad : Nat → Option Nat} {ps : Nat → PV} (h : TabOK ad ps)
include h
theorem seg_lo (q : Nat) (hq : q < 16) : ∀ x ∈ seg ad ps 0 q, x.id < (q : Int) := fun x hx => by
  have := seg_ids q 0 (fun i _ hj => h.1 i (by omega)) x hx
  omega
theorem seg_hi (q : Nat) (hq : q < 16) : ∀ x ∈ seg ad ps (q + 1) (15 - q), (q : Int) < x.id := fun x hx => by
  have := seg_ids (15 - q) (q + 1) (fun i _ hj => h.1 i (by omega)) x hx
  omega
theorem find_some (q : Nat) (hq : q < 16) (hs : (ad q).isSome = true) : findI (allL ad ps) q = ((seg ad ps 0 q).length : Nat) ∧ (allL ad ps)[(seg ad ps 0 q).length]? = some (ps q) := by
  have e := allL_cut ad ps q hq
  rw [if_pos hs] at e
  have e2 : (allL ad ps)[(seg ad ps 0 q).length]? = some (ps q) := by rw [e]; simp
  refine ⟨findI_at _ _ _ _ e2 (h.1 q hq hs) (fun y hy => ?_), e2⟩
  rw [e, List.take_left'] at hy
  · have := seg_lo h q hq y hy; omega
  · rfl
theorem find_none (i : Int) (hs : ∀ q : Nat, i = q → q < 16 → ad q = none) : findI (allL ad ps) i = -1 := by
  refine findI_none _ _ fun y hy e => ?_
  obtain ⟨q, _, h2, h3, rfl⟩ := seg_mem _ _ _ hy
  rw [h.1 q (by omega) h3] at e
  rw [hs q e.symm (by omega)] at h3
  cases h3
theorem find_atF (i : Int) : decide (0 ≤ findI (allL ad ps) i) = (atF ad i).isSome := by
  unfold atF
  by_cases hi : 1 ≤ i ∧ i ≤ 15
  · obtain ⟨q, rfl⟩ : ∃ q : Nat, i = q := ⟨i.toNat, by omega⟩
    rw [if_pos hi, Int.toNat_natCast]
    cases hs : ad q with
    | none => rw [find_none h q (fun q' e _ => by obtain rfl : q' = q := by omega
                                                  exact hs)]; rfl
    | some g => rw [(find_some h q (by omega) (by rw [hs]; rfl)).1]; simp
  · rw [if_neg hi, find_none h i (fun q e hq => by
      obtain rfl : q = 0 := by omega
      exact h.2)]
    rfl
omit h in
theorem set_some (q : Nat) (hq : q < 16) (hs : (ad q).isSome = true) (x : PV) : (allL ad ps).set (seg ad ps 0 q).length x = allL ad (fun i => if i = q then x else ps i) := by
  have e := allL_cut ad ps q hq
  have e' := allL_cut ad (fun i => if i = q then x else ps i) q hq
  rw [if_pos hs] at e e'
  rw [if_pos rfl] at e'
  have c1 : seg ad (fun i => if i = q then x else ps i) 0 q = seg ad ps 0 q := seg_congr q 0 (fun i _ hi => ⟨rfl, if_neg (by omega)⟩)
  have c2 : seg ad (fun i => if i = q then x else ps i) (q + 1) (15 - q) = seg ad ps (q + 1) (15 - q) := seg_congr _ _ (fun i hi _ => ⟨rfl, if_neg (by omega)⟩)
  rw [e, e', c1, c2, List.set_append_right _ _ (Nat.le_refl _), Nat.sub_self]
  rfl
theorem drop_some_law (q : Nat) (hq : q < 16) (hs : (ad q).isSome = true) : dropI (allL ad ps) q = allL (setAd ad q none) ps := by
  have e := allL_cut ad ps q hq
  have e' := allL_cut (setAd ad q none) ps q hq
  have e0 : setAd ad q none q = none := by simp [setAd]
  rw [if_pos hs] at e
  rw [e0, if_neg (by simp)] at e'
  unfold dropI
  rw [(find_some h q hq hs).1, if_pos (by omega), Int.toNat_natCast, e, e', seg_congr (ad := setAd ad q none) (ad' := ad) (ps := ps) (ps' := ps) q 0 (fun i _ hi => ⟨by rw [setAd, if_neg (by omega)], rfl⟩),
    seg_congr (ad := setAd ad q none) (ad' := ad) (ps := ps) (ps' := ps) (15 - q) (q + 1) (fun i hi _ => ⟨by rw [setAd, if_neg (by omega)], rfl⟩), List.eraseIdx_append_of_length_le (Nat.le_refl _), Nat.sub_self]
  rfl
theorem drop_none_law (i : Int) (ha : atF ad i = none) : dropI (allL ad ps) i = allL ad ps := by
  have := find_atF h i
  rw [ha] at this
  unfold dropI
  rw [if_neg (by simpa using this), List.eraseIdx_of_length_le (Nat.le_refl _)]
end

theorem insS_low (q : Int) : ∀ (A : List PV), (∀ x ∈ A, x.id < q) → insS q A = (A, false) := by
  intro A hA
  unfold insS
  suffices ∀ (A : List PV) (s : List PV), (∀ x ∈ A, x.id < q) → A.foldl (fun s y => if (!s.2 && decide (q < y.id)) = true then (s.1 ++ [newP q, y], true) else (s.1 ++ [y], s.2)) (s, false) = (s ++ A, false) by simpa using this A [] hA
  intro A
  induction A with
  | nil => intro s _; simp
  | cons a A ih =>
    intro s hA
    have h1 := hA a (by simp)
    rw [List.foldl_cons, if_neg (by simp; omega), ih _ (fun x hx => hA x (by simp [hx]))]
    simp
theorem insS_done (q : Int) : ∀ (B : List PV) (s : List PV), B.foldl (fun s y => if (!s.2 && decide (q < y.id)) = true then (s.1 ++ [newP q, y], true) else (s.1 ++ [y], s.2)) (s, true) = (s ++ B, true)
  | [], s => by simp
  | b :: B, s => by rw [List.foldl_cons, if_neg (by simp), insS_done q B]; simp
theorem insF_mid (q : Int) (A B : List PV) (hA : ∀ x ∈ A, x.id < q) (hB : ∀ x ∈ B, q < x.id) : insF q (A ++ B) = A ++ newP q :: B := by
  cases B with
  | nil => rw [List.append_nil, insF, insS_low q A hA]; simp
  | cons b B =>
    have h1 : insS q (A ++ b :: B) = (A ++ newP q :: b :: B, true) := by
      have hA' := insS_low q A hA
      unfold insS at hA' ⊢
      rw [List.foldl_append, hA', List.foldl_cons, if_pos (by simpa using hB b (by simp)), insS_done]
      simp
    rw [insF, h1]; simp

theorem ins_law {ad : Nat → Option Nat} {ps : Nat → PV} (h : TabOK ad ps) (q g : Nat) (hq : q < 16) (hs : ad q = none) (x : PV) :
    insF q (allL ad ps) = seg ad ps 0 q ++ newP q :: seg ad ps (q + 1) (15 - q) ∧ findI (insF q (allL ad ps)) q = ((seg ad ps 0 q).length : Nat) ∧ (insF q (allL ad ps))[(seg ad ps 0 q).length]? = some (newP q) ∧
    (insF q (allL ad ps)).set (seg ad ps 0 q).length x = allL (setAd ad q (some g)) (fun i => if i = q then x else ps i) := by
  have e := allL_cut ad ps q hq
  rw [hs, if_neg (by simp), List.nil_append] at e
  have e1 : insF q (allL ad ps) = seg ad ps 0 q ++ newP q :: seg ad ps (q + 1) (15 - q) := by rw [e]; exact insF_mid q _ _ (seg_lo h q hq) (seg_hi h q hq)
  have e2 : (insF q (allL ad ps))[(seg ad ps 0 q).length]? = some (newP q) := by rw [e1]; simp
  refine ⟨e1, findI_at _ _ _ _ e2 rfl (fun y hy => ?_), e2, ?_⟩
  · rw [e1, List.take_left'] at hy
    · have := seg_lo h q hq y hy; omega
    · rfl
  · have e' := allL_cut (setAd ad q (some g)) (fun i => if i = q then x else ps i) q hq
    have e0 : setAd ad q (some g) q = some g := by simp [setAd]
    rw [e0, if_pos (by rfl), if_pos rfl] at e'
    rw [e1, e', seg_congr (ad := setAd ad q (some g)) (ad' := ad) (ps := fun i => if i = q then x else ps i) (ps' := ps) q 0 (fun i _ hi => ⟨by rw [setAd, if_neg (by omega)], by rw [if_neg (by omega)]⟩),
      seg_congr (ad := setAd ad q (some g)) (ad' := ad) (ps := fun i => if i = q then x else ps i) (ps' := ps) (15 - q) (q + 1) (fun i hi _ => ⟨by rw [setAd, if_neg (by omega)], by rw [if_neg (by omega)]⟩), List.set_append_right _ _ (Nat.le_refl _), Nat.sub_self]
    rfl
end Go.Proofs.Ytmehglliajefaaa
