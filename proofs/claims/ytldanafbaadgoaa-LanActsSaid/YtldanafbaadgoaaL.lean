/-
  The plain law of LanOrder: of what is sent, what comes to one is what is for it, in order.
-/
import Derived.Test.YtldanafbaadgoaaK
namespace Go.Proofs.Ytldanafbaadgoaa
open Go.RowKit

def forMe (me : Int) (l : List Cp) : List Cp := l.filter (fun c => c.for_ == me)
theorem forMe_append (me : Int) (a b : List Cp) : forMe me (a ++ b) = forMe me a ++ forMe me b := List.filter_append ..
/-- is a frame for one? -/
def isFor (frm to me : Int) : Prop := frm ≠ me ∧ (to = 0 ∨ to = 16 ∨ to = me)
instance (frm to me : Int) : Decidable (isFor frm to me) := inferInstanceAs (Decidable (_ ∧ _))

theorem forMe_step (room lan frm to : Int) (bs : List Int) (acc : List Cp) (id me : Int) (h : (acc.length : Int) < room) :
    forMe me (sendStep room lan frm to bs acc id) = forMe me acc ++ if id = me ∧ isFor frm to me then [⟨lan, frm, to, bs, me, false⟩] else [] := by
  unfold sendStep
  by_cases hc : id = frm ∨ (to ≠ 0 ∧ to ≠ 16 ∧ to ≠ id) ∨ room ≤ acc.length
  · rw [if_pos hc, if_neg]
    · simp
    · rintro ⟨rfl, h1, h2⟩
      omega
  · rw [if_neg hc, forMe_append]
    by_cases e : id = me
    · subst e
      rw [if_pos ⟨rfl, by unfold isFor; omega⟩]
      simp [forMe]
    · rw [if_neg (fun h => e h.1)]
      simp [forMe, e]
theorem forMe_send (room lan frm to me : Int) (bs : List Int) : ∀ (ids : List Int) (acc : List Cp), ids.Nodup → (acc.length : Int) + ids.length ≤ room →
    forMe me (sendF room lan frm to bs ids acc) = forMe me acc ++ if me ∈ ids ∧ isFor frm to me then [⟨lan, frm, to, bs, me, false⟩] else []
  | [], acc, _, _ => by simp [sendF]
  | id :: r, acc, hn, hl => by
    have hn' := List.nodup_cons.1 hn
    have h2 := sendStep_ge room lan frm to bs acc id
    simp only [List.length_cons] at hl
    have ih := forMe_send room lan frm to me bs r (sendStep room lan frm to bs acc id) hn'.2 (by omega)
    have hs := forMe_step room lan frm to bs acc id me (by omega)
    have e : sendF room lan frm to bs (id :: r) acc = sendF room lan frm to bs r (sendStep room lan frm to bs acc id) := rfl
    rw [e, ih, hs]
    by_cases hme : id = me
    · subst hme
      simp only [List.mem_cons, true_or, true_and, hn'.1, false_and, if_false, List.append_nil]
    · have hme' : ¬ me = id := fun h => hme h.symm
      simp only [hme, false_and, if_false, List.append_nil, List.mem_cons, hme', false_or]

theorem onL_nodup (on : Nat → Bool) (k : Nat) : (onL on k).Nodup := by
  induction k with
  | zero => simp [onL]
  | succ k ih =>
    rw [onL_succ]
    split
    · rw [List.nodup_append]
      refine ⟨ih, by simp, fun a ha b hb => ?_⟩
      simp only [List.mem_singleton] at hb
      subst hb
      unfold onL at ha
      obtain ⟨i, hi, rfl⟩ := List.mem_map.1 ha
      have := List.mem_range.1 (List.mem_filter.1 hi).1
      intro e
      have : (i : Int) = k := e
      omega
    · exact ih
theorem onL_mem (zs : List Int) (me : Int) (h1 : 1 ≤ me) (h2 : me ≤ 15) : me ∈ onL (onF zs) 16 ↔ me ∈ zs := by
  obtain ⟨q, rfl⟩ : ∃ q : Nat, me = q := ⟨me.toNat, by omega⟩
  unfold onL
  rw [List.mem_map]
  constructor
  · rintro ⟨i, hi, e⟩
    have h := (List.mem_filter.1 hi).2
    have e' : (i : Int) = q := e
    have : i = q := by omega
    subst this
    simp only [onF, decide_eq_true_eq] at h
    exact h.2.2
  · intro h
    refine ⟨q, List.mem_filter.2 ⟨List.mem_range.2 (by omega), ?_⟩, rfl⟩
    simp only [onF, decide_eq_true_eq]
    exact ⟨by omega, by omega, h⟩
/-- what one frame makes of a network's copies -/
def sendAll (room : Int) (ids : List Int) (acc : List Cp) (f : Fr) : List Cp := sendF room f.lan f.frm f.to f.bs ids acc
def Fr.cp (f : Fr) (me : Int) : Cp := ⟨f.lan, f.frm, f.to, f.bs, me, false⟩
theorem forMe_all (room me : Int) (zs : List Int) (acc : List Cp) (f : Fr) (ws : List Fr) (h1 : 1 ≤ me) (h2 : me ≤ 15) (hl : (acc.length : Int) + 16 ≤ room) (h : forMe me acc = ws.map (fun f => f.cp me)) :
    forMe me (sendAll room (onL (onF zs) 16) acc f) = (if me ∈ zs ∧ isFor f.frm f.to me then ws ++ [f] else ws).map (fun f => f.cp me) := by
  have := onL_le (onF zs) 16
  unfold sendAll
  rw [forMe_send _ _ _ _ _ _ _ _ (onL_nodup _ _) (by omega), h]
  by_cases hm : me ∈ zs ∧ isFor f.frm f.to me
  · rw [if_pos hm, if_pos ⟨(onL_mem zs me h1 h2).2 hm.1, hm.2⟩]
    simp [Fr.cp]
  · rw [if_neg hm, if_neg (fun h => hm ⟨(onL_mem zs me h1 h2).1 h.1, h.2⟩)]
    simp
theorem sendAll_le (room : Int) (zs : List Int) (acc : List Cp) (f : Fr) : (sendAll room (onL (onF zs) 16) acc f).length ≤ acc.length + 16 := by
  have h1 := onL_le (onF zs) 16
  have h2 := sendF_ge room f.lan f.frm f.to f.bs (onL (onF zs) 16) acc
  unfold sendAll
  omega
end Go.Proofs.Ytldanafbaadgoaa
