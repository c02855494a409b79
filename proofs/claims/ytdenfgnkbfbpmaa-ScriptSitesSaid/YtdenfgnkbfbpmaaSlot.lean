/-
  Regions met once, over frames that are told slot by slot: drawn or not, with writes one behind the other or without; and the steps of single operations. No statement is proved here.
-/
import Derived.Test.YtdenfgnkbfbpmaaStage
namespace Go.Proofs.Ytdenfgnkbfbpmaa
open Go.RowKit
set_option linter.unusedVariables false
set_option linter.unusedSimpArgs false

section
variable {P : Program} {ops : Array Oper} {Q : Exit → Act → World → Prop}
abbrev Fact := Value → World → Prop
/-- the facts of a region's values, in order -/
def Stab : List Fact → Prop
  | [] => True
  | f :: l => (∀ v w w', Below w.heap.size w w' → f v w → f v w') ∧ Stab l
def AllF : List Fact → (Nat → Value) → Nat → World → Prop
  | [], _, _, _ => True
  | f :: l, vs, k, w => f (vs k) w ∧ AllF l vs (k + 1) w
def factOf (l : List Fact) (i : Nat) : Fact := l.getD i fun _ _ => True
theorem stab_of : ∀ {l : List Fact}, Stab l → ∀ i v w w', Below w.heap.size w w' → factOf l i v w → factOf l i v w'
  | [], _, i, v, w, w', _, _ => trivial
  | f :: l, h, 0, v, w, w', hb, hf => h.1 v w w' hb hf
  | f :: l, h, i + 1, v, w, w', hb, hf => stab_of (l := l) h.2 i v w w' hb hf
theorem allF_of : ∀ (l : List Fact) (vs : Nat → Value) (k : Nat) (w : World), (∀ i, i < l.length → factOf l i (vs (k + i)) w) → AllF l vs k w
  | [], _, _, _, _ => trivial
  | f :: l, vs, k, w, h => ⟨h 0 (by simp), allF_of l vs (k + 1) w fun i hi => by
      have := h (i + 1) (by simpa using hi)
      rw [show k + 1 + i = k + (i + 1) by omega]
      exact this⟩
/-- what an operation may lean on when it comes up -/
structure AtS (ops : Array Oper) (F : Nat → Fact) (a0 : Act) (i : Nat) (a : Act) (w : World) : Prop where
  base : ∀ s, firstB .any ops i s = true → a.tmps.getD s undef = a0.tmps.getD s undef
  fact : ∀ j, Region.waitsFor .any ops i j = true → ∃ v, (∀ d, (ops[j]?).bind (·.dst) = some d → a.tmps.getD d undef = v) ∧ F j v w
theorem AtS.dep {F : Nat → Fact} {a0 : Act} {i : Nat} {a : Act} {w : World} (h : AtS ops F a0 i a w) (j d : Nat) (hj : Region.waitsFor .any ops i j = true) (hd : (ops[j]?).bind (·.dst) = some d) : F j (a.tmps.getD d undef) w := by
  obtain ⟨v, h1, h2⟩ := h.fact j hj
  rw [h1 d hd]; exact h2
theorem At.slots {F : Nat → Fact} {a0 : Act} {w0 : World} {i : Nat} {a : Act} {w : World} (h : At .any ops F a0 w0 i a w) : AtS ops F a0 i a w := ⟨h.base, h.fact⟩

/-! ### the order of the text is one of the orders -/
theorem wpList_of_any_go (hback : backM .any ops = true) : ∀ (fuel k : Nat) (listed : Array Bool) (a : Act) (w : World), listed.size = ops.size → (∀ j, j < k → j < ops.size → listed.getD j true = true) → (∀ j, k ≤ j → j < ops.size → listed.getD j true = false) →
    k ≤ ops.size → ops.size - k ≤ fuel → wpAny P .any ops Q fuel listed a w → wpList P ops Q (ops.toList.drop k) a w := by
  have hrdy : ∀ (k : Nat) (listed : Array Bool), listed.size = ops.size → (∀ j, j < k → j < ops.size → listed.getD j true = true) → (∀ j, k ≤ j → j < ops.size → listed.getD j true = false) → k < ops.size → k ∈ Region.ready .any ops listed := by
    intro k listed hs h1 h2 hk
    refine mem_ready.2 ⟨h2 k (Nat.le_refl _) hk, ops[k], Array.getElem?_eq_getElem hk, fun e he hb => ?_⟩
    have hlt := backM_spec hback (Array.getElem?_eq_getElem hk) e he hb
    have := h1 e.on hlt (Nat.lt_trans hlt hk)
    rw [Array.getD_eq_getD_getElem?, Array.getElem?_eq_getElem (by omega)] at this ⊢
    exact this
  intro fuel
  induction fuel with
  | zero =>
    intro k listed a w hs h1 h2 hk hf h
    have : k = ops.size := by omega
    subst this
    rw [List.drop_of_length_le (by simp)]
    exact h.2
  | succ fuel ih =>
    intro k listed a w hs h1 h2 hk hf h
    rcases Nat.lt_or_ge k ops.size with hlt | hge
    · have h := h.2 k (hrdy k listed hs h1 h2 hlt)
      have hnext : ∀ a w, wpAny P .any ops Q fuel (listed.setIfInBounds k true) a w → wpList P ops Q (ops.toList.drop (k + 1)) a w := by
        intro a w h
        refine ih (k + 1) _ a w (by simpa using hs) (fun j hj hj2 => ?_) (fun j hj hj2 => ?_) hlt (by omega) h
        · by_cases hjk : k = j
          · subst hjk; simp [hs, hj2]
          · rw [getD_set_ne true hjk]; exact h1 j (by omega) hj2
        · rw [getD_set_ne true (by omega)]; exact h2 j (by omega) hj2
      have hd : ops.toList.drop k = ops[k] :: ops.toList.drop (k + 1) := by
        rw [List.drop_eq_getElem_cons (by simpa using hlt)]
        simp
      rw [hd]
      unfold wpOp at h
      simp only [Array.getElem?_eq_getElem hlt] at h
      unfold wpList
      split
      · rename_i hw
        rw [if_pos hw] at h
        exact h.imp (Oper.wp_mono hnext) id
      · rename_i hw
        rw [if_neg hw] at h
        exact hnext _ _ h
    · have : k = ops.size := by omega
      subst this
      rw [List.drop_of_length_le (by simp)]
      refine h.1 ?_
      cases hr : Region.ready .any ops listed with
      | nil => rfl
      | cons i l =>
        have hi : i ∈ Region.ready .any ops listed := by rw [hr]; exact List.mem_cons_self
        obtain ⟨h3, o, ho, _⟩ := mem_ready.1 hi
        rw [h1 i (Array.getElem?_eq_some_iff.1 ho).1 (Array.getElem?_eq_some_iff.1 ho).1] at h3
        cases h3
theorem region_of_any {id : Nat} {l : List Oper} {d : Bool} {a0 : Act} {w0 : World} (hm : P.follows .mixedOrders = true) (hback : backM .any l.toArray = true)
    (h : wpAny P .any l.toArray Q l.toArray.size (Array.replicate l.toArray.size false) a0 (if d then w0.drew else w0)) : (Code.region id l.toArray d).wp P Q a0 w0 := by
  cases d with
  | true => exact wp_region_any hm h
  | false =>
    refine wp_region_lit ?_
    have := wpList_of_any_go hback l.toArray.size 0 _ a0 w0 (by simp) (fun j hj => by omega) (fun j _ hj => by
      have hj : j < l.length := by simpa using hj
      simp [hj]) (Nat.zero_le _) (by omega) h
    simpa using this

/-! ### how a frame stands behind a region -/
/-- 'a1' is 'a0' with the values 'vs' -/
structure Put (l : List Oper) (vs : Nat → Value) (a0 a1 : Act) : Prop where
  size : a1.tmps.size = a0.tmps.size
  defers : a1.defers = a0.defers
  new : ∀ i d, (l[i]?).bind (·.dst) = some d → a1.tmps.getD d undef = vs i
  old : ∀ s, (l.all fun o => o.dst != some s) = true → a1.tmps.getD s undef = a0.tmps.getD s undef
theorem putAll_old (s : Nat) : ∀ (l : List Oper) (vs : Nat → Value) (k : Nat) (a : Act), (l.all fun o => o.dst != some s) = true → (putAll l vs k a).tmps[s]? = a.tmps[s]?
  | [], _, _, _, _ => rfl
  | o :: l, vs, k, a, h => by
    simp only [List.all_cons, Bool.and_eq_true, bne_iff_ne, ne_eq] at h
    rw [putAll, putAll_old s l vs (k + 1) _ h.2, put_ne a _ _ s h.1]
theorem put_of {l : List Oper} {vs : Nat → Value} {a0 : Act} (hdst : dstB l.toArray = true) (hroom : roomB l.toArray a0.tmps.size = true) : Put l vs a0 (putAll l vs 0 a0) := by
  refine ⟨putAll_size l vs 0 a0, putAll_defers l vs 0 a0, fun i d h => ?_, fun s h => ?_⟩
  · cases ho : l[i]? with
    | none => rw [ho] at h; cases h
    | some o =>
      rw [ho] at h
      have hd : o.dst = some d := h
      have hi : l.toArray[i]? = some o := by simpa using ho
      have hs : d < a0.tmps.size := by
        have := Array.all_eq_true_iff_forall_mem.1 hroom o (Array.mem_of_getElem? hi)
        rw [hd] at this
        exact of_decide_eq_true this
      have := putAll_get d (vs i) l vs 0 a0 hs (fun j o' hj hd' => by
        rw [Nat.zero_add]
        by_cases hij : j = i
        · rw [hij]
        · have hj' : l.toArray[j]? = some o' := by simpa using hj
          have h3 := List.all_eq_true.1 (List.all_eq_true.1 hdst j (List.mem_range.2 (Array.getElem?_eq_some_iff.1 hj').1)) i (List.mem_range.2 (Array.getElem?_eq_some_iff.1 hi).1)
          simp only [hj', hi, Option.bind_some, hd, hd', bne_self_eq_false, Bool.or_false, beq_iff_eq] at h3
          exact absurd h3 hij) (.inr ⟨i, o, ho, hd⟩)
      rw [Array.getD_eq_getD_getElem?, this]; rfl
  · rw [Array.getD_eq_getD_getElem?, Array.getD_eq_getD_getElem?, putAll_old s l vs 0 a0 h]

/-! ### regions that make new memory at most -/
def StepsB (P : Program) (ops : Array Oper) (Q : Exit → Act → World → Prop) (F : Nat → Fact) (a0 : Act) (w0 : World) : List Oper → Nat → Prop
  | [], _ => True
  | o :: l, i => (∀ a w, Below w0.heap.size w0 w → AtS ops F a0 i a w → if Region.wanted o (yielded ops a.tmps) = true then o.wp P a w (fun a' w' => ∃ v, a' = a.put o.dst v ∧ Below w.heap.size w w' ∧ F i v w') Q else F i undef w) ∧ StepsB P ops Q F a0 w0 l (i + 1)
theorem stepsB_get {F : Nat → Fact} {a0 : Act} {w0 : World} : ∀ (l : List Oper) (k : Nat), StepsB P ops Q F a0 w0 l k → ∀ (i : Nat) o, l[i]? = some o → ∀ a w, Below w0.heap.size w0 w → AtS ops F a0 (k + i) a w → if Region.wanted o (yielded ops a.tmps) = true then o.wp P a w (fun a' w' => ∃ v, a' = a.put o.dst v ∧ Below w.heap.size w w' ∧ F (k + i) v w') Q else F (k + i) undef w
  | [], _, _, i, _, h => by simp at h
  | o :: l, k, h, 0, o', ho => by
    simp only [List.getElem?_cons_zero, Option.some.injEq] at ho
    subst ho
    exact h.1
  | o :: l, k, h, i + 1, o', ho => by
    have := stepsB_get l (k + 1) h.2 i o' (by simpa using ho)
    rw [show k + (i + 1) = k + 1 + i by omega]
    exact this
/-- how the memory may go on: a relation between worlds that new memory, and what follows, keeps -/
theorem slots_by {id : Nat} {d : Bool} {l : List Oper} {a0 : Act} {w0 : World} (FL : List Fact) (hm : P.follows .mixedOrders = true) (hback : backM .any l.toArray = true) (hdst : dstB l.toArray = true) {n : Nat} (hn : a0.tmps.size = n) (hroom : roomB l.toArray n = true) (hlen : l.length = FL.length)
    (hst : Stab FL) (hstep : StepsB P l.toArray Q (factOf FL) a0 w0 l 0)
    (hQ : ∀ (vs : Nat → Value) a1 w, Below w0.heap.size w0 w → AllF FL vs 0 w → Put l vs a0 a1 → Q .normal a1 w) : (Code.region id l.toArray d).wp P Q a0 w0 := by
  subst hn
  have hb0 : Below w0.heap.size w0 (if d then w0.drew else w0) := by cases d; exact Below.refl _ _; exact ⟨rfl, rfl, rfl, Nat.le_refl _, fun _ _ => rfl⟩
  have hh : (if d then w0.drew else w0).heap.size = w0.heap.size := by cases d <;> rfl
  refine region_of_any hm hback (wpAny_inv (fun vs w => (∀ i v, vs i = some v → factOf FL i v w) ∧ Below w0.heap.size w0 w) a0 (if d then w0.drew else w0) hback hdst hroom (fun i o ho vs a w hI hn hat => ?_) (fun vs' vs w hv hI => ?_) _ _ _ _ (fun _ => none) ⟨Below.refl _ _, rfl, rfl, by simp, fun s _ => rfl, fun i o _ h => ?_, fun j oj _ h => ?_⟩ (fun _ _ => rfl) ⟨fun i v h => by simp at h, hb0⟩ ?_)
  · have hs := stepsB_get l 0 hstep i o (by simpa using ho) a w hI.2 (by
      rw [Nat.zero_add]
      exact ⟨hat.base, fun j hj => by
        obtain ⟨v, h1, h2⟩ := hat.fact j hj
        exact ⟨v, h1, hI.1 j v h2⟩⟩)
    rw [Nat.zero_add] at hs
    have key : ∀ v w', Below w.heap.size w w' → factOf FL i v w' → (∀ j u, upd vs i v j = some u → factOf FL j u w') ∧ Below w0.heap.size w0 w' := by
      intro v w' hb hv
      refine ⟨fun j u hj => ?_, hI.2.trans (hb.mono hI.2.size)⟩
      by_cases hij : j = i
      · subst hij; rw [upd_same] at hj; cases hj; exact hv
      · rw [upd_ne vs v hij] at hj; exact stab_of hst j u w w' hb (hI.1 j u hj)
    split
    · rename_i hw
      rw [if_pos hw] at hs
      exact Oper.wp_mono (fun a' w' ⟨v, e1, e2, e3⟩ => ⟨v, e1, key v w' e2 e3⟩) hs
    · rename_i hw
      rw [if_neg hw] at hs
      exact key undef w (Below.refl _ _) hs
  · exact hQ vs' _ w hI.2 (allF_of FL vs' 0 w fun i hi => by
      rw [Nat.zero_add]
      exact hI.1 i _ (hv i (by simpa [hlen] using hi))) (put_of hdst hroom)
  · rw [getD_replicate_false] at h; cases h
  · rw [getD_replicate_false] at h; cases h
  · exact Nat.le_trans List.countP_le_length (by simp)

/-! ### regions in which some operations write, one behind the other -/
def StepT (P : Program) (ops : Array Oper) (Q : Exit → Act → World → Prop) (F : Nat → Fact) (E : Nat → World → Prop) (lo hi : Nat) (a0 : Act) (o : Oper) (i : Nat) : Option Nat → Prop
  | none => ∀ k a w, lo ≤ k → k ≤ hi → E k w → AtS ops F a0 i a w → if Region.wanted o (yielded ops a.tmps) = true then o.wp P a w (fun a' w' => ∃ v, a' = a.put o.dst v ∧ Below w.heap.size w w' ∧ F i v w') Q else F i undef w
  | some k => ∀ a w, E k w → AtS ops F a0 i a w → if Region.wanted o (yielded ops a.tmps) = true then o.wp P a w (fun a' w' => ∃ v, a' = a.put o.dst v ∧ (∀ j u, j ≠ i → F j u w → F j u w') ∧ F i v w' ∧ E (k + 1) w') Q else F i undef w ∧ E (k + 1) w
def StepsT (P : Program) (ops : Array Oper) (Q : Exit → Act → World → Prop) (F : Nat → Fact) (E : Nat → World → Prop) (cs lo hi : List Nat) (a0 : Act) : List Oper → Nat → Prop
  | [], _ => True
  | o :: l, i => StepT P ops Q F E (lo.getD i 0) (hi.getD i cs.length) a0 o i (cs.idxOf? i) ∧ StepsT P ops Q F E cs lo hi a0 l (i + 1)
theorem stepsT_of {F : Nat → Fact} {E : Nat → World → Prop} {cs lo hi : List Nat} {a0 : Act} : ∀ (l : List Oper) (k : Nat), StepsT P ops Q F E cs lo hi a0 l k → StepsS P ops Q F E cs lo hi a0 l k
  | [], _, _ => trivial
  | o :: l, k, h => ⟨by
      have h := h.1
      revert h
      cases cs.idxOf? k with
      | none => exact fun h k' a w h1 h2 h3 h4 => h k' a w h1 h2 h3 h4.slots
      | some m => exact fun h a w h1 h2 => h a w h1 h2.slots, stepsT_of l (k + 1) h.2⟩
theorem slots_stage {id : Nat} {d : Bool} {l : List Oper} {a0 : Act} {w0 : World} (cs lo hi : List Nat) (FL : List Fact) (E : Nat → World → Prop) (hm : P.follows .mixedOrders = true) (hback : backM .any l.toArray = true) (hdst : dstB l.toArray = true) {n : Nat} (hn : a0.tmps.size = n) (hroom : roomB l.toArray n = true) (hlen : l.length = FL.length)
    (hch : chainB .any l.toArray cs lo hi = true) (hst : Stab FL) (hE : ∀ k w w', Below w.heap.size w w' → E k w → E k w') (h0 : E 0 w0)
    (hstep : StepsT P l.toArray Q (factOf FL) E cs lo hi a0 l 0)
    (hQ : ∀ (vs : Nat → Value) a1 w, AllF FL vs 0 w → E cs.length w → Put l vs a0 a1 → Q .normal a1 w) : (Code.region id l.toArray d).wp P Q a0 w0 := by
  subst hn
  have hb0 : Below w0.heap.size w0 (if d then w0.drew else w0) := by cases d; exact Below.refl _ _; exact ⟨rfl, rfl, rfl, Nat.le_refl _, fun _ _ => rfl⟩
  refine region_of_any hm hback (stage_any cs lo hi (factOf FL) E hback hdst hroom hch (stab_of hst) hE (hE 0 _ _ hb0 h0) (stepsT_of l 0 hstep) fun vs w hF hEw => ?_)
  exact hQ vs _ w (allF_of FL vs 0 w fun i hi => by rw [Nat.zero_add]; exact hF i (by rw [hlen]; exact hi)) hEw (put_of hdst hroom)

/-- what was told stays told from one world to another, but of the operation i itself -/
def StabX (i : Nat) (w w' : World) : List Fact → Nat → Prop
  | [], _ => True
  | f :: l, k => (k = i ∨ ∀ v, f v w → f v w') ∧ StabX i w w' l (k + 1)
theorem stabX_of {i : Nat} {w w' : World} : ∀ {l : List Fact} {k : Nat}, StabX i w w' l k → ∀ j v, k + j ≠ i → factOf l j v w → factOf l j v w'
  | [], _, _, j, v, _, _ => trivial
  | f :: l, k, h, 0, v, hj, hf => h.1.elim (fun e => absurd (by omega) hj) fun h => h v hf
  | f :: l, k, h, j + 1, v, hj, hf => stabX_of (l := l) h.2 j v (by omega) hf
theorem stabX {i : Nat} {w w' : World} {l : List Fact} (h : StabX i w w' l 0) : ∀ j v, j ≠ i → factOf l j v w → factOf l j v w' := fun j v hj hf => stabX_of h j v (by omega) hf
/-- facts that speak of no world -/
def Flat : List Fact → Prop
  | [] => True
  | f :: l => (∀ v w w', f v w → f v w') ∧ Flat l
theorem flat_of : ∀ {l : List Fact}, Flat l → ∀ i v w w', factOf l i v w → factOf l i v w'
  | [], _, i, v, w, w', _ => trivial
  | f :: l, h, 0, v, w, w', hf => h.1 v w w' hf
  | f :: l, h, i + 1, v, w, w', hf => flat_of (l := l) h.2 i v w w' hf
theorem stab_flat : ∀ {l : List Fact}, Flat l → Stab l
  | [], _ => trivial
  | _ :: _, h => ⟨fun v w w' _ hf => h.1 v w w' hf, stab_flat h.2⟩
def StepU (P : Program) (ops : Array Oper) (Q : Exit → Act → World → Prop) (F : Nat → Fact) (E : Nat → World → Prop) (lo hi : Nat) (a0 : Act) (o : Oper) (i : Nat) : Option Nat → Prop
  | none => ∀ k a w, lo ≤ k → k ≤ hi → E k w → AtS ops F a0 i a w → if Region.wanted o (yielded ops a.tmps) = true then o.wp P a w (fun a' w' => ∃ v, a' = a.put o.dst v ∧ Below w.heap.size w w' ∧ F i v w') Q else F i undef w
  | some k => ∀ a w, E k w → AtS ops F a0 i a w → if Region.wanted o (yielded ops a.tmps) = true then o.wp P a w (fun a' w' => ∃ v, a' = a.put o.dst v ∧ F i v w' ∧ E (k + 1) w') Q else F i undef w ∧ E (k + 1) w
def StepsU (P : Program) (ops : Array Oper) (Q : Exit → Act → World → Prop) (F : Nat → Fact) (E : Nat → World → Prop) (cs lo hi : List Nat) (a0 : Act) : List Oper → Nat → Prop
  | [], _ => True
  | o :: l, i => StepU P ops Q F E (lo.getD i 0) (hi.getD i cs.length) a0 o i (cs.idxOf? i) ∧ StepsU P ops Q F E cs lo hi a0 l (i + 1)
theorem stepsU_of {F : Nat → Fact} {E : Nat → World → Prop} {cs lo hi : List Nat} {a0 : Act} (hf : ∀ i v w w', F i v w → F i v w') : ∀ (l : List Oper) (k : Nat), StepsU P ops Q F E cs lo hi a0 l k → StepsT P ops Q F E cs lo hi a0 l k
  | [], _, _ => trivial
  | o :: l, k, h => ⟨by
      have h := h.1
      revert h
      cases cs.idxOf? k with
      | none => exact fun h => h
      | some m =>
        intro h a w h1 h2
        have h := h a w h1 h2
        split
        · rename_i hw
          rw [if_pos hw] at h
          exact Oper.wp_mono (fun a' w' ⟨v, e1, e2, e3⟩ => ⟨v, e1, fun j u _ => hf j u w w', e2, e3⟩) h
        · rename_i hw
          rw [if_neg hw] at h
          exact h, stepsU_of hf l (k + 1) h.2⟩
theorem slots_flat {id : Nat} {d : Bool} {l : List Oper} {a0 : Act} {w0 : World} (cs lo hi : List Nat) (FL : List Fact) (E : Nat → World → Prop) (hm : P.follows .mixedOrders = true) (hback : backM .any l.toArray = true) (hdst : dstB l.toArray = true) {n : Nat} (hn : a0.tmps.size = n) (hroom : roomB l.toArray n = true) (hlen : l.length = FL.length)
    (hch : chainB .any l.toArray cs lo hi = true) (hfl : Flat FL) (hE : ∀ k w w', Below w.heap.size w w' → E k w → E k w') (h0 : E 0 w0)
    (hstep : StepsU P l.toArray Q (factOf FL) E cs lo hi a0 l 0)
    (hQ : ∀ (vs : Nat → Value) a1 w, AllF FL vs 0 w → E cs.length w → Put l vs a0 a1 → Q .normal a1 w) : (Code.region id l.toArray d).wp P Q a0 w0 :=
  slots_stage cs lo hi FL E hm hback hdst hn hroom hlen hch (stab_flat hfl) hE h0 (stepsU_of (flat_of hfl) l 0 hstep) hQ

/-! ### the same, where the stages speak of the values -/
def StepL (P : Program) (ops : Array Oper) (Q : Exit → Act → World → Prop) (F : Nat → Fact) (E : Nat → (Nat → Option Value) → World → Prop) (lo hi : Nat) (a0 : Act) (o : Oper) (i : Nat) : Option Nat → Prop
  | none => ∀ k vs a w, lo ≤ k → k ≤ hi → E k vs w → AtS ops (fun j u w => F j u w ∧ vs j = some u) a0 i a w → if Region.wanted o (yielded ops a.tmps) = true then o.wp P a w (fun a' w' => ∃ v, a' = a.put o.dst v ∧ Below w.heap.size w w' ∧ F i v w') Q else F i undef w
  | some k => ∀ vs a w, vs i = none → E k vs w → AtS ops (fun j u w => F j u w ∧ vs j = some u) a0 i a w → if Region.wanted o (yielded ops a.tmps) = true then o.wp P a w (fun a' w' => ∃ v, a' = a.put o.dst v ∧ (∀ j u, j ≠ i → F j u w → F j u w') ∧ F i v w' ∧ E (k + 1) (upd vs i v) w') Q else F i undef w ∧ E (k + 1) (upd vs i undef) w
def StepsK (P : Program) (ops : Array Oper) (Q : Exit → Act → World → Prop) (F : Nat → Fact) (E : Nat → (Nat → Option Value) → World → Prop) (cs lo hi : List Nat) (a0 : Act) : List Oper → Nat → Prop
  | [], _ => True
  | o :: l, i => StepL P ops Q F E (lo.getD i 0) (hi.getD i cs.length) a0 o i (cs.idxOf? i) ∧ StepsK P ops Q F E cs lo hi a0 l (i + 1)
theorem stepsK_of {F : Nat → Fact} {E : Nat → (Nat → Option Value) → World → Prop} {cs lo hi : List Nat} {a0 : Act} : ∀ (l : List Oper) (k : Nat), StepsK P ops Q F E cs lo hi a0 l k → StepsV P ops Q F E cs lo hi a0 l k
  | [], _, _ => trivial
  | o :: l, k, h => ⟨by
      have h := h.1
      revert h
      cases cs.idxOf? k with
      | none => exact fun h k' vs a w h1 h2 h3 h4 => h k' vs a w h1 h2 h3 h4.slots
      | some m => exact fun h vs a w h0 h1 h2 => h vs a w h0 h1 h2.slots, stepsK_of l (k + 1) h.2⟩
theorem slots_link {id : Nat} {d : Bool} {l : List Oper} {a0 : Act} {w0 : World} (cs lo hi : List Nat) (FL : List Fact) (E : Nat → (Nat → Option Value) → World → Prop) (hm : P.follows .mixedOrders = true) (hback : backM .any l.toArray = true) (hdst : dstB l.toArray = true) {n : Nat} (hn : a0.tmps.size = n) (hroom : roomB l.toArray n = true) (hlen : l.length = FL.length)
    (hch : chainB .any l.toArray cs lo hi = true) (hst : Stab FL) (hE : ∀ k vs vs' w w', Below w.heap.size w w' → (∀ j u, vs j = some u → vs' j = some u) → E k vs w → E k vs' w') (h0 : E 0 (fun _ => none) w0)
    (hstep : StepsK P l.toArray Q (factOf FL) E cs lo hi a0 l 0)
    (hQ : ∀ (vs : Nat → Value) a1 w, AllF FL vs 0 w → E cs.length (fun i => if i < l.length then some (vs i) else none) w → Put l vs a0 a1 → Q .normal a1 w) : (Code.region id l.toArray d).wp P Q a0 w0 := by
  subst hn
  have hb0 : Below w0.heap.size w0 (if d then w0.drew else w0) := by cases d; exact Below.refl _ _; exact ⟨rfl, rfl, rfl, Nat.le_refl _, fun _ _ => rfl⟩
  refine region_of_any hm hback (stage_anyV cs lo hi (factOf FL) E hback hdst hroom hch (stab_of hst) hE (hE 0 _ _ _ _ hb0 (fun _ _ h => h) h0) (stepsK_of l 0 hstep) fun vs w hF hEw => ?_)
  exact hQ vs _ w (allF_of FL vs 0 w fun i hi => by rw [Nat.zero_add]; exact hF i (by rw [hlen]; exact hi)) hEw (put_of hdst hroom)

/-! ### single operations -/
variable {o : Oper} {a : Act} {w : World} {K : Act → World → Prop} {E : Prop} {v : Value}
theorem step_ok {w' : World} (hw : Region.wanted o (yielded ops a.tmps) = true) (hrun : (execOp a.eval o).run P w = .ok (.value v) w') (hK : K (a.put o.dst v) w') : if Region.wanted o (yielded ops a.tmps) = true then o.wp P a w K Q else E := by
  rw [if_pos hw]; unfold Oper.wp; rw [hrun]; exact hK
theorem step_skip {w' : World} (hw : Region.wanted o (yielded ops a.tmps) = true) (hrun : (execOp a.eval o).run P w = .ok .skip w') (hK : K (a.put o.dst undef) w') : if Region.wanted o (yielded ops a.tmps) = true then o.wp P a w K Q else E := by
  rw [if_pos hw]; unfold Oper.wp; rw [hrun]; exact hK
theorem step_off (hw : Region.wanted o (yielded ops a.tmps) = false) (hE : E) : if Region.wanted o (yielded ops a.tmps) = true then o.wp P a w K Q else E := by
  rw [if_neg (by rw [hw]; simp)]; exact hE
theorem step_call {f : FuncId} {args : Array Value} (hw : Region.wanted o (yielded ops a.tmps) = true) (hrun : (execOp a.eval o).run P w = .ok (.enter f args) w) {R : Ending → World → Prop} (h : Calls P f args w R) (hR : ∀ e w', R e w' → ∃ v, e = .returned v ∧ K (a.put o.dst v) w') : if Region.wanted o (yielded ops a.tmps) = true then o.wp P a w K Q else E := by
  rw [if_pos hw]; unfold Oper.wp; rw [hrun]
  refine h.mono fun e w' he => ?_
  obtain ⟨v, rfl, hk⟩ := hR e w' he
  exact hk
theorem on_none (hg : o.guard = none) : Region.wanted o (yielded ops a.tmps) = true := by simp [Region.wanted, hg]
theorem slot_bool {x : Array Value} {d : Nat} {b : Bool} (h : x.getD d undef = .bool b) : x[d]? = some (.bool b) := by
  rw [Array.getD_eq_getD_getElem?] at h
  cases hx : x[d]? with
  | none => rw [hx] at h; cases h
  | some u => rw [hx] at h; rw [← h]; rfl
theorem on_dep {j d : Nat} {b : Bool} (hg : o.guard = some (j, b)) (hd : (ops[j]?).bind (·.dst) = some d) (h : a.tmps.getD d undef = .bool b) : Region.wanted o (yielded ops a.tmps) = true := by
  simp only [Region.wanted, hg, yielded, hd, Option.bind_some, slot_bool h]
  cases b <;> rfl
theorem off_dep {j d : Nat} {b : Bool} (hg : o.guard = some (j, b)) (hd : (ops[j]?).bind (·.dst) = some d) (h : a.tmps.getD d undef = .bool (!b)) : Region.wanted o (yielded ops a.tmps) = false := by
  simp only [Region.wanted, hg, yielded, hd, Option.bind_some, slot_bool h]
  cases b <;> rfl
theorem run_move {x : Operand} (ho : o.op = .move x) (hx : a.eval x = v) : (execOp a.eval o).run P w = .ok (.value v) w := by
  unfold execOp; simp only [ho]; rw [hx]; rfl
theorem run_assign {x : Operand} (ho : o.op = .assign x) (hx : a.eval x = v) : (execOp a.eval o).run P w = .ok (.value v) w := by
  unfold execOp; simp only [ho]; rw [hx]; rfl
theorem run_pick_t {c x y : Operand} (ho : o.op = .pick c x y) (hc : a.eval c = .bool true) (hx : a.eval x = v) : (execOp a.eval o).run P w = .ok (.value v) w := by
  unfold execOp; simp only [ho]; rw [hc, hx]; rfl
theorem run_pick_f {c x y : Operand} (ho : o.op = .pick c x y) (hc : a.eval c = .bool false) (hy : a.eval y = v) : (execOp a.eval o).run P w = .ok (.value v) w := by
  unfold execOp; simp only [ho]; rw [hc, hy]; rfl
theorem run_nilCheck {x : Operand} {p : Addr} (ho : o.op = .nilCheck x) (hx : a.eval x = .pointer (some p)) : (execOp a.eval o).run P w = .ok (.value (.pointer (some p))) w := by
  unfold execOp; simp only [ho]; rw [hx]; rfl
/-- a field's place -/
def fieldOff (P : Program) (s : TypeId) (f : Nat) : Option Nat :=
  match P.underlying s with
  | some (.struct fs) => (fs[f]?).bind fun x => (P.info? x.type).bind fun i => if i.size = 0 then none else some x.offset
  | _ => none
theorem run_fieldAddr {x : Operand} {s : TypeId} {f g k m n : Nat} (ho : o.op = .fieldAddr s x f) (hx : a.eval x = .pointer (some ⟨g, k, none⟩)) (hf : fieldOff P s f = some m) (hn : k + m = n) : (execOp a.eval o).run P w = .ok (.value (.pointer (some ⟨g, n, none⟩))) w := by
  unfold fieldOff at hf
  split at hf
  · rename_i fs hs
    cases hff : fs[f]? with
    | none => rw [hff] at hf; cases hf
    | some fd =>
      rw [hff] at hf
      simp only [Option.bind_some] at hf
      cases hi : P.info? fd.type with
      | none => rw [hi] at hf; cases hf
      | some i =>
        rw [hi] at hf
        simp only [Option.bind_some] at hf
        split at hf
        · cases hf
        · rename_i hz
          cases hf
          subst hn
          unfold execOp; simp only [ho]
          simp [hx, Instr.fieldAt, underlying, hs, hff, Instr.sureAddr, fieldPlace, sizeOf, typeInfo, hi, hz, Addr.add]
  · cases hf
/-- a type of one cell -/
def cellTy (P : Program) (t : TypeId) : Bool := match P.underlying t with | some (.struct _) | some (.array ..) => false | some _ => true | none => false
theorem run_load {x : Operand} {t : TypeId} {p : Addr} (ho : o.op = .load t x) (hx : a.eval x = .pointer (some p)) (ht : cellTy P t = true) (hc : w.cell? p = some v) : (execOp a.eval o).run P w = .ok (.value v) w := by
  unfold execOp; simp only [ho]; rw [hx]
  unfold cellTy at ht
  split at ht
  · cases ht
  · cases ht
  · rename_i u h1 h2 hs
    cases u <;> first
      | exact absurd rfl (h1 _)
      | exact absurd rfl (h2 _ _)
      | simp [Instr.loadAt, Instr.sureAddr, loadVar, isAgg, underlying, hs, load, Sem.run, hc]
  · cases ht
end
end Go.Proofs.Ytdenfgnkbfbpmaa
