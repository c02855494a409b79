/-
  What bytes tell of sites: plain lists.
-/
import Derived.Test.YtdenfgnkbfbpmaaWorld
import Derived.Test.YtdenfgnkbfbpmaaCuts
namespace Go.Proofs.Ytdenfgnkbfbpmaa
open Go.RowKit
set_option linter.unusedVariables false
set_option linter.unusedSimpArgs false

/-- a port more, if there is none of its network -/
def addPt (l : List PtV) (a b c : Int) : List PtV := if l.any (fun p => decide (p.lan = a / 5 % 4)) then l else l ++ [⟨a / 5 % 4, b % 3, 1 + c % 100⟩]
def stepPS (ps : List (List PtV)) (a b c : Int) : List (List PtV) := ps.set (a % 5).toNat (addPt (ps.getD (a % 5).toNat []) a b c)
def portsK (bs : List Int) : Nat → List (List PtV)
  | 0 => [[], [], [], [], []]
  | k + 1 => stepPS (portsK bs k) (bs.getD (k * 3) 0) (bs.getD (k * 3 + 1) 0) (bs.getD (k * 3 + 2) 0)
theorem portsK_len (bs : List Int) : ∀ k, (portsK bs k).length = 5
  | 0 => rfl
  | k + 1 => by simp [portsK, stepPS, portsK_len bs k]
/-- the ports of one, of so many bytes -/
def portsOf (bs : List Int) (i : Int) : Nat → List PtV
  | 0 => []
  | k + 1 => if bs.getD (k * 3) 0 % 5 = i then addPt (portsOf bs i k) (bs.getD (k * 3) 0) (bs.getD (k * 3 + 1) 0) (bs.getD (k * 3 + 2) 0) else portsOf bs i k
theorem portsK_of (bs : List Int) (i : Nat) (hi : i < 5) : ∀ k, (portsK bs k).getD i [] = portsOf bs i k
  | 0 => by
    rcases (by omega : i = 0 ∨ i = 1 ∨ i = 2 ∨ i = 3 ∨ i = 4) with rfl | rfl | rfl | rfl | rfl <;> rfl
  | k + 1 => by
    have ih := portsK_of bs i hi k
    have hl := portsK_len bs k
    unfold portsK portsOf stepPS
    have h0 := Int.emod_nonneg (bs.getD (k * 3) 0) (show (5 : Int) ≠ 0 by omega)
    have h5 := Int.emod_lt_of_pos (bs.getD (k * 3) 0) (show (0 : Int) < 5 by omega)
    rw [List.getD_eq_getElem?_getD, List.getElem?_set]
    split
    · rename_i he
      rw [if_pos (by omega), if_pos (by omega), he]
      simp only [Option.getD_some]
      rw [ih]
    · rename_i he
      rw [if_neg (by omega), ← List.getD_eq_getElem?_getD, ih]
/-- one site, if it has ports -/
def siteI (ps : List (List PtV)) (i : Nat) : List SitV := if 0 < (ps.getD i []).length then [⟨(i : Int) + 1, ps.getD i []⟩] else []
def sitesU (ps : List (List PtV)) : Nat → List SitV
  | 0 => []
  | i + 1 => sitesU ps i ++ siteI ps i
def sitesF (bs : List Int) : List SitV := sitesU (portsK bs (bs.length / 3)) 5
theorem sitesU_len (ps : List (List PtV)) : ∀ k, (sitesU ps k).length ≤ k
  | 0 => Nat.le_refl _
  | k + 1 => by
    have := sitesU_len ps k
    unfold sitesU siteI; split <;> simp <;> omega
theorem sitesU_mem {ps : List (List PtV)} {x : SitV} : ∀ {k : Nat}, x ∈ sitesU ps k → ∃ i, i < k ∧ x = ⟨(i : Int) + 1, ps.getD i []⟩ ∧ 0 < (ps.getD i []).length
  | 0, h => by cases h
  | k + 1, h => by
    unfold sitesU siteI at h
    rcases List.mem_append.1 h with h | h
    · obtain ⟨i, h1, h2⟩ := sitesU_mem h
      exact ⟨i, by omega, h2⟩
    · split at h
      · rename_i hp
        exact ⟨k, by omega, by simpa using h, hp⟩
      · cases h
theorem sitesU_rise {ps : List (List PtV)} : ∀ {k : Nat}, (sitesU ps k).Pairwise (fun x y => x.id < y.id)
  | 0 => List.Pairwise.nil
  | k + 1 => by
    unfold sitesU
    rw [List.pairwise_append]
    refine ⟨sitesU_rise, ?_, fun x hx y hy => ?_⟩
    · unfold siteI; split <;> simp
    · obtain ⟨i, hi, rfl, _⟩ := sitesU_mem hx
      unfold siteI at hy
      split at hy
      · simp at hy; subst hy; show (i : Int) + 1 < (k : Int) + 1; omega
      · cases hy
/-- ports are as they may be, no two of one network -/
def goodP (l : List PtV) : Prop := (∀ p ∈ l, portOk p.lan p.prio p.cost) ∧ l.Pairwise (fun p q => p.lan ≠ q.lan)
theorem addPt_good {l : List PtV} {a b c : Int} (h : goodP l) : goodP (addPt l a b c) := by
  unfold addPt
  split
  · exact h
  · rename_i hn
    refine ⟨fun p hp => ?_, ?_⟩
    · rcases List.mem_append.1 hp with hp | hp
      · exact h.1 p hp
      · simp at hp; subst hp
        have h1 := Int.emod_nonneg (a / 5) (show (4 : Int) ≠ 0 by omega)
        have h2 := Int.emod_lt_of_pos (a / 5) (show (0 : Int) < 4 by omega)
        have h3 := Int.emod_nonneg b (show (3 : Int) ≠ 0 by omega)
        have h4 := Int.emod_lt_of_pos b (show (0 : Int) < 3 by omega)
        have h5 := Int.emod_nonneg c (show (100 : Int) ≠ 0 by omega)
        have h6 := Int.emod_lt_of_pos c (show (0 : Int) < 100 by omega)
        exact ⟨h1, by show a / 5 % 4 ≤ 3; omega, h3, by show b % 3 ≤ 255; omega, by show 1 ≤ 1 + c % 100; omega, by show 1 + c % 100 ≤ 100; omega⟩
    · rw [List.pairwise_append]
      refine ⟨h.2, by simp, fun p hp q hq => ?_⟩
      simp at hq; subst hq
      intro e
      apply hn
      rw [List.any_eq_true]
      exact ⟨p, hp, by simpa using e⟩
theorem portsOf_good (bs : List Int) (i : Int) : ∀ k, goodP (portsOf bs i k)
  | 0 => ⟨(fun p hp => by cases hp), List.Pairwise.nil⟩
  | k + 1 => by
    unfold portsOf; split
    · exact addPt_good (portsOf_good bs i k)
    · exact portsOf_good bs i k
theorem portsOf_len (bs : List Int) (i : Int) : ∀ k, (portsOf bs i k).length ≤ k
  | 0 => Nat.le_refl _
  | k + 1 => by
    have := portsOf_len bs i k
    unfold portsOf addPt; split
    · split
      · omega
      · simp; omega
    · omega
/-- good ports can all be added -/
theorem adds_good (id : Int) : ∀ (l : List PtV) (s : RoS), s.ports.length = 4 → (∀ p ∈ l, portOk p.lan p.prio p.cost) → l.Pairwise (fun p q => p.lan ≠ q.lan) → (∀ p ∈ l, s.ports[p.lan.toNat]? = some none) → (addsF id l s).isSome = true
  | [], _, _, _, _, _ => rfl
  | x :: l, s, h4, hok, hpw, hno => by
    have hx : addOk s x := ⟨hok x (by simp), hno x (by simp)⟩
    unfold addsF
    rw [if_pos hx]
    rw [List.pairwise_cons] at hpw
    refine adds_good id l _ (by simp [addP, h4]) (fun p hp => hok p (by simp [hp])) hpw.2 (fun p hp => ?_)
    have h1 := hno p (by simp [hp])
    have h2 := hpw.1 p hp
    have o1 := hok x (by simp)
    have o2 := hok p (by simp [hp])
    show (s.ports.set x.lan.toNat _)[p.lan.toNat]? = some none
    rw [List.getElem?_set, if_neg (by have := o1.1; have := o2.1; omega), h1]
theorem new_good {id boot room : Int} {l : List PtV} (h1 : 1 ≤ id ∧ id ≤ 15) (hg : goodP l) : (newF id boot room l).isSome = true := by
  unfold newF
  rw [if_neg (by omega), Option.isSome_map]
  refine adds_good id l _ rfl hg.1 hg.2 (fun p hp => ?_)
  obtain ⟨a, b, _⟩ := hg.1 p hp
  show [none, none, none, none][p.lan.toNat]? = some none
  rcases (by omega : p.lan.toNat = 0 ∨ p.lan.toNat = 1 ∨ p.lan.toNat = 2 ∨ p.lan.toNat = 3) with e | e | e | e <;> rw [e] <;> rfl
end Go.Proofs.Ytdenfgnkbfbpmaa
