/-
  The plain law of a description from tick to tick: how it stands stays right.
-/
import Derived.Test.YtmklebkldailnaaTickL
namespace Go.Proofs.Ytmklebkldailnaa
open Go.RowKit
set_option linter.unusedSimpArgs false
set_option linter.unusedVariables false

/-- how a life stands -/
structure Inv (s : LS) : Prop where
  ok : TOK s
  len : (s.told.length : Int) ≤ s.now
theorem dropF_seq {m : MV} (d : Bool) (h1 : -2147483647 ≤ m.held.hd.seq ∧ m.held.hd.seq ≤ 2147483647) : -2147483647 ≤ (dropF m d).held.hd.seq ∧ (dropF m d).held.hd.seq ≤ 2147483647 := by
  unfold dropF
  split
  · show -2147483647 ≤ (0 : Int) ∧ (0 : Int) ≤ 2147483647
    omega
  · exact h1
theorem olderF_seq (m : MV) : (olderF m).held.hd.seq = m.held.hd.seq := by unfold olderF; split <;> rfl
theorem olderF_is (m : MV) : (olderF m).is_ = m.is_ := by unfold olderF; split <;> rfl
theorem olderF_last (m : MV) : (olderF m).last = m.last := by unfold olderF; split <;> rfl
theorem olderF_at (m : MV) : (olderF m).at_ = m.at_ := by unfold olderF; split <;> rfl
theorem olderF_ever (m : MV) : (olderF m).ever = m.ever := by unfold olderF; split <;> rfl
theorem olderF_links (m : MV) : (olderF m).held.links = m.held.links ∧ (olderF m).held.mem = m.held.mem := by unfold olderF; split <;> exact ⟨rfl, rfl⟩
theorem dropF_last (m : MV) (d : Bool) : (dropF m d).last = m.last := by unfold dropF; split <;> rfl
theorem dropF_at (m : MV) (d : Bool) : (dropF m d).at_ = m.at_ := by unfold dropF; split <;> rfl
theorem dropF_ever (m : MV) (d : Bool) : (dropF m d).ever = m.ever := by unfold dropF; split <;> rfl
theorem dropF_held {m : MV} {d : Bool} (h : (dropF m d).is_ = true) : dropF m d = m := by
  unfold dropF at h ⊢
  split
  · rename_i h1; rw [if_pos h1] at h; cases h
  · rfl
theorem olderF_age {m : MV} (h : 0 ≤ m.held.hd.age ∧ m.held.hd.age ≤ 60) : 0 ≤ (olderF m).held.hd.age ∧ (olderF m).held.hd.age ≤ 60 := by
  unfold olderF
  split
  · rename_i h1
    dsimp only
    omega
  · exact h
theorem Inv.next {s : LS} (h : Inv s) (hn : s.now ≤ 100000) (d : Bool) (b : Int) : TOK ⟨wantedF (ageF s.m d) b, s.now + 1, s.told⟩ where
  now := by have := h.ok.now; dsimp only; omega
  at_ := by
    have := h.ok.at_
    show 0 ≤ (olderF (dropF s.m d)).at_ ∧ (olderF (dropF s.m d)).at_ ≤ s.now + 1
    rw [olderF_at, dropF_at]; omega
  ever := by show (olderF (dropF s.m d)).ever = true; rw [olderF_ever, dropF_ever]; exact h.ok.ever
  last := by
    show -2147483647 ≤ (olderF (dropF s.m d)).last ∧ (olderF (dropF s.m d)).last ≤ 2147483647
    rw [olderF_last, dropF_last]; exact h.ok.last
  seq := by
    show -2147483647 ≤ (olderF (dropF s.m d)).held.hd.seq ∧ (olderF (dropF s.m d)).held.hd.seq ≤ 2147483647
    rw [olderF_seq]; exact dropF_seq d h.ok.seq
  held := by
    intro hi
    have hi : (olderF (dropF s.m d)).is_ = true := hi
    rw [olderF_is] at hi
    have e := dropF_held hi
    show (olderF (dropF s.m d)).held.hd.seq = (olderF (dropF s.m d)).last ∧ 0 ≤ (olderF (dropF s.m d)).held.hd.age ∧ (olderF (dropF s.m d)).held.hd.age ≤ 60
    rw [e] at hi ⊢
    have := h.ok.held hi
    rw [olderF_seq, olderF_last]
    exact ⟨this.1, olderF_age this.2⟩
  told := by
    intro x hx
    show x.seq = (olderF (dropF s.m d)).last
    rw [olderF_last, dropF_last]; exact h.ok.told x hx
  len := by have := h.len; have := h.ok.now; show s.told.length ≤ 100001; omega
  wl := by show (wantF b).links.length ≤ 5000; simp [wantF]
  wm := by show (wantF b).mem.length ≤ 5000; simp [wantF]
  hl := by
    show (olderF (dropF s.m d)).held.links.length ≤ 5000
    rw [(olderF_links _).1]; unfold dropF; split
    · show ([] : List Lk).length ≤ 5000; simp
    · exact h.ok.hl
  hm := by
    show (olderF (dropF s.m d)).held.mem.length ≤ 5000
    rw [(olderF_links _).2]; unfold dropF; split
    · show ([] : List Int).length ≤ 5000; simp
    · exact h.ok.hm
theorem doneF_now (s : LS) (r : LV × Int) : (doneF s r).now = s.now := by unfold doneF; split; rfl; split <;> rfl
/-- a flush is of what there is -/
theorem flush_is {s : LS} {l : LV} (hp : planF s.m s.now = (l, 2)) : s.m.is_ = true := by
  unfold planF restF at hp
  have key : ∀ c : Bool, livesF s.m = true → s.m.is_ = true := fun _ h => by unfold livesF at h; simp at h; exact h.1
  repeat' split at hp
  all_goals first
    | (simp at hp; done)
    | (exact key true (by assumption))
theorem Inv.done {s : LS} (h : TOK s) (hl : (s.told.length : Int) + 1 ≤ s.now) (hn : s.now ≤ 100000 + 1) : Inv (doneF s (planF s.m s.now)) := by
  obtain ⟨l, n, hP⟩ : ∃ l n, planF s.m s.now = (l, n) := ⟨_, _, rfl⟩
  rw [hP]
  unfold doneF
  dsimp only
  split
  · rename_i h1
    subst h1
    have t := plan_told h hP
    refine ⟨⟨h.now, ⟨by have := h.now; dsimp only; omega, Int.le_refl _⟩, rfl, t.seq, t.seq, fun _ => ⟨rfl, by rw [t.age]; omega⟩, fun x hx => ?_, ?_, h.wl, h.wm, by rw [t.links]; exact h.wl, by rw [t.mem]; exact h.wm⟩, ?_⟩
    · rw [List.getLast?_append] at hx
      simp at hx
      rw [← hx]
    · have := h.now
      simp; omega
    · simp; omega
  split
  · rename_i h1 h2
    subst h2
    have f := (plan_flush h hP).1
    have hi := flush_is hP
    subst f
    exact ⟨⟨h.now, h.at_, h.ever, h.last, h.seq, fun _ => ⟨(h.held hi).1, by show (0 : Int) ≤ 60 ∧ (60 : Int) ≤ 60; omega⟩, h.told, h.len, h.wl, h.wm, h.hl, h.hm⟩, by dsimp only; omega⟩
  · exact ⟨h, by omega⟩
theorem Inv.tick {s : LS} (h : Inv s) (hn : s.now ≤ 100000) (b : Int) (d : Bool) : Inv (tickF s b d) ∧ (tickF s b d).now = s.now + 1 := by
  have ht := h.next hn d b
  refine ⟨?_, doneF_now _ _⟩
  unfold tickF
  refine Inv.done ht (by have := h.len; dsimp only; omega) (by dsimp only; omega)
theorem Inv.age {s : LS} (h : Inv s) : s.m.is_ = true → 0 ≤ s.m.held.hd.age ∧ s.m.held.hd.age ≤ 60 := fun hi => (h.ok.held hi).2
/-- how a life begins -/
def life0 (near : Int) : LS := ⟨⟨default, false, default, false, 2147483647 - near, 0, true⟩, 0, []⟩
theorem inv0 (near : Int) (h : 0 ≤ near ∧ near < 256) : Inv (life0 near) :=
  ⟨⟨by show (0 : Int) ≤ 0 ∧ (0 : Int) ≤ 100001; omega, by show (0 : Int) ≤ 0 ∧ (0 : Int) ≤ 0; omega, rfl, by show -2147483647 ≤ 2147483647 - near ∧ 2147483647 - near ≤ 2147483647; omega, by show (-2147483647 : Int) ≤ 0 ∧ (0 : Int) ≤ 2147483647; omega, fun h => (by cases h), fun x hx => (by cases hx), by simp [life0], by simp [life0, default], by simp [life0, default], by simp [life0, default], by simp [life0, default]⟩, by simp [life0]⟩
end Go.Proofs.Ytmklebkldailnaa
