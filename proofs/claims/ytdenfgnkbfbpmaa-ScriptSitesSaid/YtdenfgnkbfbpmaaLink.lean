/-
  A region that draws its order AND WRITES, walked once: by facts of the values and by how the memory stands, told by what has come up. No statement is proved here.
-/
import Derived.Test.YtdenfgnkbfbpmaaFact
namespace Go.Proofs.Ytdenfgnkbfbpmaa
open Go.RowKit

section
variable {P : Program} {ops : Array Oper} {md : Region.Mode} {Q : Exit → Act → World → Prop}
/-- every edge that binds goes back -/
def backM (md : Region.Mode) (ops : Array Oper) : Bool := (List.range ops.size).all fun i => match ops[i]? with | some o => o.after.all fun e => !Region.binds md e || decide (e.on < i) | none => true
theorem backM_spec {i : Nat} {o : Oper} (hb : backM md ops = true) (ho : ops[i]? = some o) (e : Edge) (he : e ∈ o.after) (hbd : Region.binds md e = true) : e.on < i := by
  have := List.all_eq_true.1 hb i (List.mem_range.2 (Array.getElem?_eq_some_iff.1 ho).1)
  rw [ho] at this
  have := Array.all_eq_true_iff_forall_mem.1 this e he
  rw [hbd] at this
  exact of_decide_eq_true this
theorem finv_allM {F : Nat → Value → World → Prop} {a0 : Act} {w0 : World} {listed : Array Bool} {a : Act} {w : World} (inv : FInv md ops F a0 w0 listed a w) (hb : backM md ops = true) (hr : Region.ready md ops listed = []) : ∀ i, i < ops.size → listed.getD i false = true := by
  intro i
  induction i using Nat.strongRecOn with
  | ind i ih =>
    intro hi
    cases h : listed.getD i false with
    | true => rfl
    | false =>
      have hit : listed.getD i true = false := getD_in (by rw [inv.len]; exact hi) h
      have ho : ops[i]? = some ops[i] := Array.getElem?_eq_getElem hi
      have : i ∈ Region.ready md ops listed := mem_ready.2 ⟨hit, ops[i], ho, fun e he hbd => ih e.on (backM_spec hb ho e he hbd) (Nat.lt_trans (backM_spec hb ho e he hbd) hi)⟩
      rw [hr] at this
      cases this

/-! ### by an invariant over what has come up -/
/-- one more value -/
def upd (vs : Nat → Option Value) (i : Nat) (v : Value) : Nat → Option Value := fun j => if j = i then some v else vs j
theorem upd_same (vs : Nat → Option Value) (i : Nat) (v : Value) : upd vs i v i = some v := by simp [upd]
theorem upd_ne (vs : Nat → Option Value) {i j : Nat} (v : Value) (h : j ≠ i) : upd vs i v j = vs j := by simp [upd, h]
theorem FInv.mono {F G : Nat → Value → World → Prop} {a0 : Act} {w0 : World} {listed : Array Bool} {a : Act} {w : World} (h : FInv md ops F a0 w0 listed a w) (hm : ∀ i v, listed.getD i false = true → F i v w → G i v w) : FInv md ops G a0 w0 listed a w :=
  ⟨h.below, h.size, h.defers, h.len, h.old, fun i o ho hl => by
    obtain ⟨v, h1, h2⟩ := h.new i o ho hl
    exact ⟨v, h1, hm i v hl h2⟩, h.closed⟩
theorem wpAny_inv (I : (Nat → Option Value) → World → Prop) (a0 : Act) (wd : World) (hback : backM md ops = true) (hdst : dstB ops = true) (hroom : roomB ops a0.tmps.size = true)
    (hstep : ∀ (i : Nat) o, ops[i]? = some o → ∀ vs a w, I vs w → vs i = none → At md ops (fun j u _ => vs j = some u) a0 wd i a wd →
      if Region.wanted o (yielded ops a.tmps) = true then o.wp P a w (fun a' w' => ∃ v, a' = a.put o.dst v ∧ I (upd vs i v) w') Q else I (upd vs i undef) w)
    (hQ : ∀ (vs' : Nat → Value) vs w, (∀ i, i < ops.size → vs i = some (vs' i)) → I vs w → Q .normal (putAll ops.toList vs' 0 a0) w) :
    ∀ (fuel : Nat) (listed : Array Bool) (a : Act) (w : World) (vs : Nat → Option Value), FInv md ops (fun j u _ => vs j = some u) a0 wd listed a wd → (∀ i, listed.getD i false = false → vs i = none) → I vs w →
      (List.range ops.size).countP (fun i => !listed.getD i true) ≤ fuel → wpAny P md ops Q fuel listed a w := by
  have hend : ∀ (listed : Array Bool) (a : Act) (w : World) (vs : Nat → Option Value), FInv md ops (fun j u _ => vs j = some u) a0 wd listed a wd → I vs w → Region.ready md ops listed = [] → Q .normal a w := by
    intro listed a w vs inv hI hr
    obtain ⟨vs', hF, rfl⟩ := finv_end inv (finv_allM inv hback hr)
    exact hQ vs' vs w hF hI
  intro fuel
  induction fuel with
  | zero =>
    intro listed a w vs inv hn hI hc
    have hr : Region.ready md ops listed = [] := by
      cases h : Region.ready md ops listed with
      | nil => rfl
      | cons i l =>
        have hi : i ∈ Region.ready md ops listed := by rw [h]; exact List.mem_cons_self
        obtain ⟨h1, o, ho, _⟩ := mem_ready.1 hi
        have : 0 < (List.range ops.size).countP (fun i => !listed.getD i true) := List.countP_pos_iff.2 ⟨i, List.mem_range.2 (Array.getElem?_eq_some_iff.1 ho).1, by simp only [h1, Bool.not_false]⟩
        omega
    exact ⟨hr, hend _ _ _ _ inv hI hr⟩
  | succ fuel ih =>
    intro listed a w vs inv hn hI hc
    refine ⟨hend _ _ _ _ inv hI, fun i hi => ?_⟩
    obtain ⟨hun, o, ho, hdeps⟩ := mem_ready.1 hi
    have hil : i < ops.size := (Array.getElem?_eq_some_iff.1 ho).1
    have hun' : listed.getD i false = false := getD_both hun
    have hs := hstep i o ho vs a w hI (hn i hun') (finv_at inv ho hun' hdeps)
    have hcount : (List.range ops.size).countP (fun j => !(listed.setIfInBounds i true).getD j true) ≤ fuel := by
      have : (List.range ops.size).countP (fun j => !(listed.setIfInBounds i true).getD j true) < (List.range ops.size).countP (fun j => !listed.getD j true) := by
        refine countP_lt _ _ _ (fun j _ hj => ?_) i (List.mem_range.2 hil) ?_ ?_
        · by_cases hij : i = j
          · subst hij
            simp [inv.len, hil] at hj
          · rwa [getD_set_ne true hij] at hj
        · simp only [hun, Bool.not_false]
        · simp [inv.len, hil]
      omega
    have hnext : ∀ v w', I (upd vs i v) w' → wpAny P md ops Q fuel (listed.setIfInBounds i true) (a.put o.dst v) w' := by
      intro v w' hI'
      have inv' : FInv md ops (fun j u _ => upd vs i v j = some u) a0 wd listed a wd := inv.mono (fun j u hl h => by
        by_cases hij : j = i
        · subst hij; rw [hun'] at hl; cases hl
        · rw [upd_ne vs v hij]; exact h)
      refine ih _ _ _ _ (finv_next hdst hroom (fun _ _ _ _ _ h => h) inv' ho hil hdeps v wd (Below.refl _ _) (upd_same vs i v)) (fun j hj => ?_) hI' hcount
      by_cases hij : j = i
      · subst hij
        simp [inv.len, hil] at hj
      · rw [upd_ne vs v hij]
        exact hn j (by rwa [getD_set_ne false (fun e => hij e.symm)] at hj)
    unfold wpOp
    simp only [ho]
    split
    · rename_i hw
      rw [if_pos hw] at hs
      exact Or.inl (Oper.wp_mono (fun a' w' ⟨v, e1, e2⟩ => by subst e1; exact hnext v w' e2) hs)
    · rename_i hw
      rw [if_neg hw] at hs
      exact hnext undef w hs

/-- what is behind an operation: of one that writes, that the facts stay -/
def AfterL (F : Nat → Value → World → Prop) (E : (Nat → Option Value) → World → Prop) (sp : Bool) (vs : Nat → Option Value) (i : Nat) (w : World) (v : Value) (w' : World) : Prop :=
  F i v w' ∧ if sp then (∀ j u, F j u w → F j u w') ∧ E (upd vs i v) w' else Below w.heap.size w w'
def StepsL (P : Program) (ops : Array Oper) (Q : Exit → Act → World → Prop) (F : Nat → Value → World → Prop) (E : (Nat → Option Value) → World → Prop) (sp : Nat → Bool) (a0 : Act) : List Oper → Nat → Prop
  | [], _ => True
  | o :: l, i => (∀ vs a w, E vs w → vs i = none → At .any ops (fun j u w' => F j u w' ∧ vs j = some u) a0 w i a w →
      if Region.wanted o (yielded ops a.tmps) = true then o.wp P a w (fun a' w' => ∃ v, a' = a.put o.dst v ∧ AfterL F E (sp i) vs i w v w') Q else AfterL F E (sp i) vs i w undef w) ∧ StepsL P ops Q F E sp a0 l (i + 1)
theorem stepsL_get {F : Nat → Value → World → Prop} {E : (Nat → Option Value) → World → Prop} {sp : Nat → Bool} {a0 : Act} : ∀ (l : List Oper) (k : Nat), StepsL P ops Q F E sp a0 l k → ∀ (i : Nat) o, l[i]? = some o → ∀ vs a w, E vs w → vs (k + i) = none → At .any ops (fun j u w' => F j u w' ∧ vs j = some u) a0 w (k + i) a w →
      if Region.wanted o (yielded ops a.tmps) = true then o.wp P a w (fun a' w' => ∃ v, a' = a.put o.dst v ∧ AfterL F E (sp (k + i)) vs (k + i) w v w') Q else AfterL F E (sp (k + i)) vs (k + i) w undef w
  | [], _, _, i, _, h => by simp at h
  | o :: l, k, h, 0, o', ho => by
    simp only [List.getElem?_cons_zero, Option.some.injEq] at ho
    subst ho
    exact h.1
  | o :: l, k, h, i + 1, o', ho => by
    have := stepsL_get l (k + 1) h.2 i o' (by simpa using ho)
    rw [show k + (i + 1) = k + 1 + i by omega]
    exact this
/-- A REGION THAT DRAWS AND WRITES: F says what each value is, E how the memory stands by what has come up; the operations of 'sp' write, the others only make new memory. -/
theorem region_link {id : Nat} {l : List Oper} {a0 : Act} {w0 : World} (F : Nat → Value → World → Prop) (E : (Nat → Option Value) → World → Prop) (sp : Nat → Bool) (hm : P.follows .mixedOrders = true) (hback : backM .any l.toArray = true) (hdst : dstB l.toArray = true) (hroom : roomB l.toArray a0.tmps.size = true)
    (hst : ∀ i v w w', Below w.heap.size w w' → F i v w → F i v w')
    (hE : ∀ i v vs w w', sp i = false → vs i = none → Below w.heap.size w w' → E vs w → E (upd vs i v) w')
    (h0 : E (fun _ => none) w0.drew)
    (hstep : StepsL P l.toArray Q F E sp a0 l 0)
    (hQ : ∀ (vs : Nat → Value) vo w, (∀ i, i < l.length → vo i = some (vs i)) → (∀ i, i < l.length → F i (vs i) w) → E vo w → Q .normal (putAll l vs 0 a0) w) : (Code.region id l.toArray true).wp P Q a0 w0 := by
  refine wp_region_any hm (wpAny_inv (fun vs w => (∀ i v, vs i = some v → F i v w) ∧ E vs w) a0 w0.drew hback hdst hroom (fun i o ho vs a w hI hn hat => ?_) (fun vs' vs w hv hI => ?_) _ _ _ _ (fun _ => none) ⟨Below.refl _ _, rfl, rfl, by simp, fun s _ => rfl, fun i o _ h => ?_, fun j oj _ h => ?_⟩ (fun _ _ => rfl) ⟨fun i v h => by simp at h, h0⟩ ?_)
  · have hs := stepsL_get l 0 hstep i o (by simpa using ho) vs a w hI.2 (by rwa [Nat.zero_add]) (by
      rw [Nat.zero_add]
      exact ⟨Below.refl _ _, hat.base, fun j hj => by
        obtain ⟨v, h1, h2⟩ := hat.fact j hj
        exact ⟨v, h1, hI.1 j v h2, h2⟩⟩)
    rw [Nat.zero_add] at hs
    have key : ∀ v w', AfterL F E (sp i) vs i w v w' → (∀ j u, upd vs i v j = some u → F j u w') ∧ E (upd vs i v) w' := by
      intro v w' hA
      obtain ⟨hA1, hA2⟩ := hA
      cases hsp : sp i with
      | true =>
        rw [hsp, if_pos rfl] at hA2
        refine ⟨fun j u hj => ?_, hA2.2⟩
        by_cases hij : j = i
        · subst hij; rw [upd_same] at hj; cases hj; exact hA1
        · rw [upd_ne vs v hij] at hj; exact hA2.1 j u (hI.1 j u hj)
      | false =>
        rw [hsp, if_neg (by simp)] at hA2
        refine ⟨fun j u hj => ?_, hE i v vs w w' hsp hn hA2 hI.2⟩
        by_cases hij : j = i
        · subst hij; rw [upd_same] at hj; cases hj; exact hA1
        · rw [upd_ne vs v hij] at hj; exact hst j u w w' hA2 (hI.1 j u hj)
    split
    · rename_i hw
      rw [if_pos hw] at hs
      exact Oper.wp_mono (fun a' w' ⟨v, e1, e2⟩ => ⟨v, e1, key v w' e2⟩) hs
    · rename_i hw
      rw [if_neg hw] at hs
      exact key undef w hs
  · refine hQ vs' vs w (fun i hi => hv i (by simpa using hi)) (fun i hi => hI.1 i _ (hv i (by simpa using hi))) hI.2
  · rw [getD_replicate_false] at h; cases h
  · rw [getD_replicate_false] at h; cases h
  · exact Nat.le_trans List.countP_le_length (by simp)
end
end Go.Proofs.Ytdenfgnkbfbpmaa
