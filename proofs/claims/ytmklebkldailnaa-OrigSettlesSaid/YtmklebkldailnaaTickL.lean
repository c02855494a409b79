/-
  Plain laws of a tick: what is told, and what is flushed.
-/
import Derived.Test.YtmklebkldailnaaLife
namespace Go.Proofs.Ytmklebkldailnaa
open Go.RowKit
set_option linter.unusedSimpArgs false
set_option linter.unusedVariables false

/-- how a life stands ahead of its plan -/
structure TOK (s : LS) : Prop where
  now : 0 ≤ s.now ∧ s.now ≤ 100001
  at_ : 0 ≤ s.m.at_ ∧ s.m.at_ ≤ s.now
  ever : s.m.ever = true
  last : -2147483647 ≤ s.m.last ∧ s.m.last ≤ 2147483647
  seq : -2147483647 ≤ s.m.held.hd.seq ∧ s.m.held.hd.seq ≤ 2147483647
  held : s.m.is_ = true → s.m.held.hd.seq = s.m.last ∧ 0 ≤ s.m.held.hd.age ∧ s.m.held.hd.age ≤ 60
  told : ∀ h, s.told.getLast? = some h → h.seq = s.m.last
  len : s.told.length ≤ 100001
  wl : s.m.want.links.length ≤ 5000
  wm : s.m.want.mem.length ≤ 5000
  hl : s.m.held.links.length ≤ 5000
  hm : s.m.held.mem.length ≤ 5000
/-- what is told -/
structure Told (s : LS) (l : LV) : Prop where
  wanted : s.m.wanted = true
  late : 2 ≤ s.now - s.m.at_
  age : l.hd.age = 0
  seq : -2147483647 ≤ l.hd.seq ∧ l.hd.seq ≤ 2147483647
  newer : s.m.is_ = true → s.m.held.hd.seq < l.hd.seq
  next : s.m.last < 2147483647 → l.hd.seq = s.m.last + 1
  links : l.links = s.m.want.links
  mem : l.mem = s.m.want.mem
theorem sealF_age (l : LV) : (sealF l).hd.age = l.hd.age := by unfold sealF; split <;> rfl
theorem sealF_links (l : LV) : (sealF l).links = l.links := by unfold sealF; split <;> rfl
theorem sealF_mem (l : LV) : (sealF l).mem = l.mem := by unfold sealF; split <;> rfl
theorem numberF_ok {s : LS} (h : TOK s) : numberF s.m = (s.m.last, true) := by
  unfold numberF
  rw [h.ever]
  cases hi : s.m.is_ with
  | false => simp
  | true =>
    have := (h.held hi).1
    simp only [if_true, Prod.mk.injEq, and_true]
    omega
theorem restF_ok {s : LS} (h : TOK s) : restF s.m = if s.m.last < 2147483647 then (tellF s.m (s.m.last + 1), 1) else if s.m.is_ = true then (if s.m.held.hd.age ≠ 60 then (flushF s.m, 2) else (default, 3)) else (tellF s.m (-2147483647), 1) := by
  unfold restF
  rw [numberF_ok h]
  have := h.last
  by_cases h1 : s.m.last < 2147483647
  · simp [h1]
    omega
  · have h2 : 2147483647 ≤ s.m.last := by omega
    cases hi : s.m.is_ with
    | false => simp [h1, h2]
    | true => simp [h1, h2, livesF, hi]
theorem plan_told {s : LS} {l : LV} (h : TOK s) (hp : planF s.m s.now = (l, 1)) : Told s l := by
  unfold planF at hp
  split at hp
  · split at hp <;> simp at hp
  split at hp
  · simp at hp
  split at hp
  · simp at hp
  rename_i hw _ hl
  rw [h.ever] at hl
  have hw : s.m.wanted = true := by simpa using hw
  have hl : 2 ≤ s.now - s.m.at_ := by simp at hl; omega
  rw [restF_ok h] at hp
  have hlast := h.last
  split at hp
  · rename_i h1
    simp only [Prod.mk.injEq, and_true] at hp
    subst hp
    refine ⟨hw, hl, by rw [tellF, sealF_age], by rw [tellF, sealF_seq]; dsimp only; omega, fun hi => by rw [tellF, sealF_seq, (h.held hi).1]; dsimp only; omega, fun _ => by rw [tellF, sealF_seq], by rw [tellF, sealF_links], by rw [tellF, sealF_mem]⟩
  · rename_i h1
    split at hp
    · split at hp <;> simp at hp
    · rename_i hi
      simp only [Prod.mk.injEq, and_true] at hp
      subst hp
      exact ⟨hw, hl, by rw [tellF, sealF_age], by rw [tellF, sealF_seq]; dsimp only; omega, fun h2 => absurd h2 hi, fun h2 => absurd h2 h1, by rw [tellF, sealF_links], by rw [tellF, sealF_mem]⟩
theorem plan_flush {s : LS} {l : LV} (h : TOK s) (hp : planF s.m s.now = (l, 2)) : l = flushF s.m ∧ (s.m.wanted = true → s.m.last = 2147483647) := by
  unfold planF at hp
  split at hp
  · rename_i hw
    split at hp
    · simp only [Prod.mk.injEq, and_true] at hp
      exact ⟨hp.symm, fun h2 => by rw [hw] at h2; cases h2⟩
    · simp at hp
  split at hp
  · simp at hp
  split at hp
  · simp at hp
  rw [restF_ok h] at hp
  have hlast := h.last
  split at hp
  · simp at hp
  · rename_i h1
    split at hp
    · split at hp
      · simp only [Prod.mk.injEq, and_true] at hp
        exact ⟨hp.symm, fun _ => by omega⟩
      · simp at hp
    · simp at hp
theorem plan_what (m : MV) (now : Int) : (planF m now).2 = 0 ∨ (planF m now).2 = 1 ∨ (planF m now).2 = 2 ∨ (planF m now).2 = 3 := by
  unfold planF restF
  repeat' split
  all_goals simp
/-- the post of a tick -/
def TP (B g : Nat) (w : World) (F : LS) (r : Ending) (w' : World) : Prop := r = .returned (.bool true) ∧ ∃ p q A c, Life B w' g F p q A c ∧ Went B w w'
/-- the 'if' whose first branch begins at a region -/
def condAt (n : Nat) : Code → Option Code
  | .seq a b => match condAt n a with | some c => some c | none => condAt n b
  | .cond c a b => if startsAt n a then some (.cond c a b) else match condAt n a with | some c => some c | none => condAt n b
  | .block _ a => condAt n a
  | .loop a => condAt n a
  | _ => none
noncomputable def condOf (f : Func) (n : Nat) : Code := (f.body.bind (condAt n)).getD .skip
end Go.Proofs.Ytmklebkldailnaa
