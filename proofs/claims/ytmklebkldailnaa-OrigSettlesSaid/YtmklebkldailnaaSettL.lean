/-
  The plain law of OrigSettles: what is wanted is there within two ticks, and stays.
-/
import Derived.Test.YtmklebkldailnaaTickM
namespace Go.Proofs.Ytmklebkldailnaa
open Go.RowKit
set_option linter.unusedSimpArgs false
set_option linter.unusedVariables false

/-- what there is is no older than its telling -/
def JS (s : LS) : Prop := s.m.is_ = true → s.m.held.hd.age = 60 ∨ s.m.held.hd.age ≤ s.now - s.m.at_
/-- what is wanted is there, j ticks done, the last number told was L0 at first -/
structure Sat (b L0 j : Int) (s : LS) : Prop where
  is_ : s.m.is_ = true
  links : s.m.held.links = (wantF b).links
  mem : s.m.held.mem = []
  age : s.m.held.hd.age ≤ 19
  last : 20 * (s.m.last - L0) + s.m.held.hd.age ≤ j + 20
structure Uns (L0 j : Int) (s : LS) : Prop where
  j1 : j ≤ 1
  last : s.m.last = L0
  at_ : j ≤ s.now - s.m.at_
def Sett (b L0 j : Int) (s : LS) : Prop := Sat b L0 j s ∨ Uns L0 j s
theorem planF_sat {m : MV} {now : Int} (hw : m.wanted = true) (h1 : m.is_ = true) (h2 : m.held.hd.age < 20) (h3 : m.held.links = m.want.links) (h4 : m.held.mem = m.want.mem) : planF m now = (default, 0) := by
  unfold planF
  rw [if_neg (by simp [hw]), if_pos (by simp [h1, h2, h3, h4])]
theorem planF_cases {s : LS} (h : TOK s) (hw : s.m.wanted = true) (hl : s.m.last < 2147483647) :
    (planF s.m s.now = (default, 0) ∧ s.m.is_ = true ∧ s.m.held.hd.age < 20 ∧ s.m.held.links = s.m.want.links ∧ s.m.held.mem = s.m.want.mem) ∨
    (planF s.m s.now = (default, 3) ∧ s.now - s.m.at_ < 2) ∨ (planF s.m s.now = (tellF s.m (s.m.last + 1), 1) ∧ 2 ≤ s.now - s.m.at_) := by
  unfold planF
  rw [if_neg (by simp [hw])]
  split
  · rename_i hc
    simp only [Bool.and_eq_true, decide_eq_true_eq] at hc
    exact .inl ⟨rfl, hc.1.1, hc.1.2, hc.2.1, hc.2.2⟩
  split
  · rename_i _ hc
    simp only [Bool.and_eq_true, decide_eq_true_eq] at hc
    exact .inr (.inl ⟨rfl, hc.2⟩)
  · rename_i _ hc
    rw [h.ever] at hc
    simp only [Bool.true_and, decide_eq_true_eq] at hc
    rw [restF_ok h, if_pos hl]
    exact .inr (.inr ⟨rfl, by omega⟩)
theorem JS.tick {s : LS} (h : Inv s) (hJ : JS s) (hn : s.now ≤ 100000) (b : Int) : JS (tickF s b true) := by
  have ht := h.next hn true b
  have hA : ∀ t : LS, t = ⟨wantedF (ageF s.m true) b, s.now + 1, s.told⟩ → JS t := by
    intro t e
    subst e
    intro hi
    have hi : (olderF (dropF s.m true)).is_ = true := hi
    show (olderF (dropF s.m true)).held.hd.age = 60 ∨ (olderF (dropF s.m true)).held.hd.age ≤ s.now + 1 - (olderF (dropF s.m true)).at_
    rw [olderF_is] at hi
    have e := dropF_held hi
    rw [e] at hi ⊢
    have := hJ hi
    have ha := h.age hi
    rw [olderF_at]
    unfold olderF
    split
    · dsimp only; omega
    · rename_i hc
      have : ¬ s.m.held.hd.age < 60 := fun h => hc ⟨hi, h⟩
      omega
  refine (?_ : ∀ t : LS, JS t → TOK t → JS (doneF t (planF t.m t.now))) _ (hA _ rfl) ht
  clear hA ht
  intro t hA ht
  obtain ⟨l, n, hP⟩ : ∃ l n, planF t.m t.now = (l, n) := ⟨_, _, rfl⟩
  rw [hP]
  unfold doneF
  dsimp only
  split
  · rename_i h1
    subst h1
    have t1 := plan_told ht hP
    intro _
    right
    show l.hd.age ≤ t.now - t.now
    rw [t1.age]; omega
  split
  · rename_i h1 h2
    subst h2
    rw [(plan_flush ht hP).1]
    intro _
    exact .inl rfl
  · exact hA
theorem Sett.tick {s : LS} {b L0 j : Int} (h : Inv s) (hJ : JS s) (hn : s.now ≤ 100000) (hb : b % 7 ≠ 0) (hj : 0 ≤ j ∧ j ≤ 60) (hL : L0 ≤ 2147483637) (hS : Sett b L0 j s) : Sett b L0 (j + 1) (tickF s b true) := by
  have ht := h.next hn true b
  have hw : (wantedF (ageF s.m true) b).wanted = true := by simp [wantedF, hb]
  have hlast : (ageF s.m true).last = s.m.last := by unfold ageF; rw [olderF_last, dropF_last]
  have hat : (ageF s.m true).at_ = s.m.at_ := by unfold ageF; rw [olderF_at, dropF_at]
  have hl : s.m.last < 2147483647 := by
    rcases hS with hS | hS
    · have := hS.last; have := (h.age hS.is_).1; omega
    · have := hS.last; omega
  have hc := planF_cases ht hw (by show (ageF s.m true).last < 2147483647; rw [hlast]; exact hl)
  dsimp only at hc
  unfold tickF
  rcases hc with ⟨hP, hi, ha, hk, hm⟩ | ⟨hP, h2⟩ | ⟨hP, h2⟩
  · rw [hP]
    left
    show Sat b L0 (j + 1) ⟨wantedF (ageF s.m true) b, s.now + 1, s.told⟩
    refine ⟨hi, hk, hm, by dsimp only; omega, ?_⟩
    show 20 * ((ageF s.m true).last - L0) + (ageF s.m true).held.hd.age ≤ j + 1 + 20
    rw [hlast]
    have ha : (ageF s.m true).held.hd.age < 20 := ha
    rcases hS with hS | hS
    · have e := dropF_held (m := s.m) (d := true) (by have hi : (olderF (dropF s.m true)).is_ = true := hi; rwa [olderF_is] at hi)
      have e2 : (ageF s.m true).held.hd.age = s.m.held.hd.age + 1 := by
        unfold ageF
        rw [e]
        unfold olderF
        rw [if_pos ⟨hS.is_, by have := hS.age; omega⟩]
      have := hS.last
      omega
    · have := hS.last; omega
  · rw [hP]
    show Sett b L0 (j + 1) ⟨wantedF (ageF s.m true) b, s.now + 1, s.told⟩
    have h2 : s.now + 1 - (ageF s.m true).at_ < 2 := h2
    rw [hat] at h2
    rcases hS with hS | hS
    · exfalso
      have e : dropF s.m true = s.m := by unfold dropF; rw [if_neg (by have := hS.age; omega)]
      have hi2 : (ageF s.m true).is_ = true := by unfold ageF; rw [e, olderF_is]; exact hS.is_
      have e2 : (ageF s.m true).held.hd.age = s.m.held.hd.age + 1 := by
        unfold ageF
        rw [e]
        unfold olderF
        rw [if_pos ⟨hS.is_, by have := hS.age; omega⟩]
      have hli : (ageF s.m true).held.links = (wantF b).links := by unfold ageF; rw [e, (olderF_links _).1]; exact hS.links
      have hme : (ageF s.m true).held.mem = [] := by unfold ageF; rw [e, (olderF_links _).2]; exact hS.mem
      by_cases h20 : s.m.held.hd.age + 1 < 20
      · have := planF_sat (m := wantedF (ageF s.m true) b) (now := s.now + 1) hw hi2 (by rw [← e2] at h20; exact h20) hli hme
        rw [this] at hP
        exact absurd (congrArg Prod.snd hP) (show ¬ (0 : Int) = 3 by decide)
      · have h19 := hS.age
        have := hJ hS.is_
        omega
    · right
      refine ⟨?_, by show (ageF s.m true).last = L0; rw [hlast]; exact hS.last, ?_⟩
      · have := hS.at_; omega
      · show j + 1 ≤ s.now + 1 - (ageF s.m true).at_
        rw [hat]; have := hS.at_; omega
  · rw [hP]
    left
    show Sat b L0 (j + 1) ⟨{ wantedF (ageF s.m true) b with is_ := true, held := tellF (wantedF (ageF s.m true) b) ((ageF s.m true).last + 1), ever := true, last := (tellF (wantedF (ageF s.m true) b) ((ageF s.m true).last + 1)).hd.seq, at_ := s.now + 1 }, s.now + 1, s.told ++ [(tellF (wantedF (ageF s.m true) b) ((ageF s.m true).last + 1)).hd]⟩
    refine ⟨rfl, by show (tellF _ _).links = _; rw [tellF, sealF_links]; rfl, by show (tellF _ _).mem = _; rw [tellF, sealF_mem]; rfl, by show (tellF _ _).hd.age ≤ 19; rw [tellF, sealF_age]; dsimp only; omega, ?_⟩
    show 20 * ((tellF _ _).hd.seq - L0) + (tellF _ _).hd.age ≤ j + 1 + 20
    rw [tellF, sealF_seq, sealF_age, hlast]
    dsimp only
    rcases hS with hS | hS
    · by_cases h18 : s.m.held.hd.age + 1 < 20
      · exfalso
        have e : dropF s.m true = s.m := by unfold dropF; rw [if_neg (by have := hS.age; omega)]
        have hi2 : (ageF s.m true).is_ = true := by unfold ageF; rw [e, olderF_is]; exact hS.is_
        have e2 : (ageF s.m true).held.hd.age = s.m.held.hd.age + 1 := by
          unfold ageF
          rw [e]
          unfold olderF
          rw [if_pos ⟨hS.is_, by have := hS.age; omega⟩]
        have hli : (ageF s.m true).held.links = (wantF b).links := by unfold ageF; rw [e, (olderF_links _).1]; exact hS.links
        have hme : (ageF s.m true).held.mem = [] := by unfold ageF; rw [e, (olderF_links _).2]; exact hS.mem
        have := planF_sat (m := wantedF (ageF s.m true) b) (now := s.now + 1) hw hi2 (by rw [← e2] at h18; exact h18) hli hme
        rw [this] at hP
        exact absurd (congrArg Prod.snd hP) (show ¬ (0 : Int) = 1 by decide)
      · have := hS.last; have := hS.age; omega
    · have := hS.last; omega
end Go.Proofs.Ytmklebkldailnaa
