/-
  A region that draws its order, in which some operations write, ONE BEHIND THE OTHER: walked once, by facts of the values and by stages of the memory. No statement is proved here.
-/
import Derived.Test.YtdenfgnkbfbpmaaLink
namespace Go.Proofs.Ytdenfgnkbfbpmaa
open Go.RowKit

section
variable {P : Program} {ops : Array Oper} {md : Region.Mode} {Q : Exit → Act → World → Prop}
/-- the operations 'cs' wait for each other, in this order; 'rng i' tells ahead of which of them, and behind which, operation i comes up -/
def chainB (md : Region.Mode) (ops : Array Oper) (cs : List Nat) (lo hi : List Nat) : Bool :=
  (cs.all fun c => decide (c < ops.size)) && ((List.range cs.length).all fun k => (List.range k).all fun j => Region.waitsFor md ops (cs.getD k 0) (cs.getD j 0) && (cs.getD k 0 != cs.getD j 0)) &&
  (List.range ops.size).all fun i => (decide (cs.length ≤ hi.getD i cs.length) || Region.waitsFor md ops (cs.getD (hi.getD i cs.length) 0) i) && (lo.getD i 0 == 0 || (decide (lo.getD i 0 ≤ cs.length) && Region.waitsFor md ops i (cs.getD (lo.getD i 0 - 1) 0)))
/-- k of the chain have come up -/
structure Stage (md : Region.Mode) (ops : Array Oper) (cs : List Nat) (k : Nat) (vs : Nat → Option Value) : Prop where
  le : k ≤ cs.length
  done : ∀ m, m < k → vs (cs.getD m 0) ≠ none
  todo : ∀ m, k ≤ m → m < cs.length → vs (cs.getD m 0) = none
  closed : ∀ m, m < k → ∀ j, Region.waitsFor md ops (cs.getD m 0) j = true → vs j ≠ none
theorem chainB_lt {cs lo hi : List Nat} (h : chainB md ops cs lo hi = true) {j k : Nat} (hk : k < cs.length) (hj : j < k) : Region.waitsFor md ops (cs.getD k 0) (cs.getD j 0) = true ∧ cs.getD k 0 ≠ cs.getD j 0 := by
  simp only [chainB, Bool.and_eq_true] at h
  have := List.all_eq_true.1 (List.all_eq_true.1 h.1.2 k (List.mem_range.2 hk)) j (List.mem_range.2 hj)
  simpa [Bool.and_eq_true] using this
theorem chainB_hi {cs lo hi : List Nat} (h : chainB md ops cs lo hi = true) {i : Nat} (hi' : i < ops.size) : cs.length ≤ hi.getD i cs.length ∨ Region.waitsFor md ops (cs.getD (hi.getD i cs.length) 0) i = true := by
  simp only [chainB, Bool.and_eq_true] at h
  have := List.all_eq_true.1 h.2 i (List.mem_range.2 hi')
  simp only [Bool.and_eq_true, Bool.or_eq_true, decide_eq_true_eq] at this
  exact this.1
theorem chainB_size {cs lo hi : List Nat} (h : chainB md ops cs lo hi = true) {k : Nat} (hk : k < cs.length) : cs.getD k 0 < ops.size := by
  simp only [chainB, Bool.and_eq_true] at h
  have := List.all_eq_true.1 h.1.1 (cs.getD k 0) (by rw [List.getD_eq_getElem?_getD, List.getElem?_eq_getElem hk]; exact List.getElem_mem hk)
  exact of_decide_eq_true this
theorem chainB_lo {cs lo hi : List Nat} (h : chainB md ops cs lo hi = true) {i : Nat} (hi' : i < ops.size) : lo.getD i 0 = 0 ∨ (lo.getD i 0 ≤ cs.length ∧ Region.waitsFor md ops i (cs.getD (lo.getD i 0 - 1) 0) = true) := by
  simp only [chainB, Bool.and_eq_true] at h
  have := List.all_eq_true.1 h.2 i (List.mem_range.2 hi')
  simp only [Bool.and_eq_true, Bool.or_eq_true, decide_eq_true_eq, beq_iff_eq] at this
  exact this.2

/-- one operation's step: 'none': it makes new memory at most; 'some k': it is the chain's k-th -/
def StepS (P : Program) (ops : Array Oper) (Q : Exit → Act → World → Prop) (F : Nat → Value → World → Prop) (E : Nat → World → Prop) (lo hi : Nat) (a0 : Act) (o : Oper) (i : Nat) : Option Nat → Prop
  | none => ∀ k a w, lo ≤ k → k ≤ hi → E k w → At .any ops F a0 w i a w → if Region.wanted o (yielded ops a.tmps) = true then o.wp P a w (fun a' w' => ∃ v, a' = a.put o.dst v ∧ Below w.heap.size w w' ∧ F i v w') Q else F i undef w
  | some k => ∀ a w, E k w → At .any ops F a0 w i a w → if Region.wanted o (yielded ops a.tmps) = true then o.wp P a w (fun a' w' => ∃ v, a' = a.put o.dst v ∧ (∀ j u, j ≠ i → F j u w → F j u w') ∧ F i v w' ∧ E (k + 1) w') Q else F i undef w ∧ E (k + 1) w
def StepsS (P : Program) (ops : Array Oper) (Q : Exit → Act → World → Prop) (F : Nat → Value → World → Prop) (E : Nat → World → Prop) (cs lo hi : List Nat) (a0 : Act) : List Oper → Nat → Prop
  | [], _ => True
  | o :: l, i => StepS P ops Q F E (lo.getD i 0) (hi.getD i cs.length) a0 o i (cs.idxOf? i) ∧ StepsS P ops Q F E cs lo hi a0 l (i + 1)
theorem stepsS_get {F : Nat → Value → World → Prop} {E : Nat → World → Prop} {cs lo hi : List Nat} {a0 : Act} : ∀ (l : List Oper) (k : Nat), StepsS P ops Q F E cs lo hi a0 l k → ∀ (i : Nat) o, l[i]? = some o → StepS P ops Q F E (lo.getD (k + i) 0) (hi.getD (k + i) cs.length) a0 o (k + i) (cs.idxOf? (k + i))
  | [], _, _, i, _, h => by simp at h
  | o :: l, k, h, 0, o', ho => by
    simp only [List.getElem?_cons_zero, Option.some.injEq] at ho
    subst ho
    exact h.1
  | o :: l, k, h, i + 1, o', ho => by
    have := stepsS_get l (k + 1) h.2 i o' (by simpa using ho)
    rw [show k + (i + 1) = k + 1 + i by omega]
    exact this
theorem idxOf?_some' : ∀ {l : List Nat} {i k : Nat}, l.idxOf? i = some k → k < l.length ∧ l.getD k 0 = i
  | [], i, k, h => by simp at h
  | x :: l, i, k, h => by
    rw [List.idxOf?_cons] at h
    by_cases hx : x = i
    · subst hx; simp at h; subst h; simp
    · simp [hx] at h
      obtain ⟨m, h1, rfl⟩ := h
      have := idxOf?_some' h1
      refine ⟨by simpa using this.1, ?_⟩
      rw [List.getD_cons_succ]
      exact this.2
theorem idxOf?_none' : ∀ {l : List Nat} {i : Nat}, l.idxOf? i = none → ∀ k, k < l.length → l.getD k 0 ≠ i
  | [], i, h, k, hk => by simp at hk
  | x :: l, i, h, k, hk => by
    rw [List.idxOf?_cons] at h
    by_cases hx : x = i
    · subst hx; simp at h
    · simp [hx] at h
      cases k with
      | zero => simpa using hx
      | succ k =>
        have := idxOf?_none' (l := l) (i := i) (by simpa using h) k (by simpa using hk)
        simpa using this
/-- A REGION THAT DRAWS, WHOSE WRITES COME ONE BEHIND THE OTHER (the operations 'cs'): F says what each value is, E k how the memory stands when k of them have come up. -/
theorem stage_any {l : List Oper} {a0 : Act} {w0 : World} (cs lo hi : List Nat) (F : Nat → Value → World → Prop) (E : Nat → World → Prop) (hback : backM .any l.toArray = true) (hdst : dstB l.toArray = true) (hroom : roomB l.toArray a0.tmps.size = true)
    (hch : chainB .any l.toArray cs lo hi = true)
    (hst : ∀ i v w w', Below w.heap.size w w' → F i v w → F i v w')
    (hE : ∀ k w w', Below w.heap.size w w' → E k w → E k w')
    (h0 : E 0 w0)
    (hstep : StepsS P l.toArray Q F E cs lo hi a0 l 0)
    (hQ : ∀ (vs : Nat → Value) w, (∀ i, i < l.length → F i (vs i) w) → E cs.length w → Q .normal (putAll l vs 0 a0) w) : wpAny P .any l.toArray Q l.toArray.size (Array.replicate l.toArray.size false) a0 w0 := by
  refine (wpAny_inv (fun vs w => (∀ i v, vs i = some v → F i v w) ∧ ∃ k, Stage .any l.toArray cs k vs ∧ E k w) a0 w0 hback hdst hroom (fun i o ho vs a w hI hn hat => ?_) (fun vs' vs w hv hI => ?_) _ _ _ _ (fun _ => none) ⟨Below.refl _ _, rfl, rfl, by simp, fun s _ => rfl, fun i o _ h => ?_, fun j oj _ h => ?_⟩ (fun _ _ => rfl) ⟨fun i v h => by simp at h, 0, ⟨Nat.zero_le _, fun m h => by omega, fun _ _ _ => rfl, fun m h => by omega⟩, h0⟩ ?_)
  · obtain ⟨hF, k, hS, hEk⟩ := hI
    have hil : i < l.toArray.size := (Array.getElem?_eq_some_iff.1 ho).1
    have hs := stepsS_get l 0 hstep i o (by simpa using ho)
    rw [Nat.zero_add] at hs
    have hat' : At .any l.toArray F a0 w i a w := ⟨Below.refl _ _, hat.base, fun j hj => by
        obtain ⟨v, h1, h2⟩ := hat.fact j hj
        exact ⟨v, h1, hF j v h2⟩⟩
    have hdep : ∀ j, Region.waitsFor .any l.toArray i j = true → vs j ≠ none := fun j hj => by
      obtain ⟨v, _, h2⟩ := hat.fact j hj
      rw [h2]; simp
    cases hidx : cs.idxOf? i with
    | none =>
      rw [hidx] at hs
      have hne := idxOf?_none' hidx
      have hlo : lo.getD i 0 ≤ k := by
        rcases chainB_lo hch hil with h | ⟨h, h2⟩
        · omega
        · rcases Nat.eq_zero_or_pos (lo.getD i 0) with h4 | h4
          · omega
          · rcases Nat.lt_or_ge (lo.getD i 0 - 1) k with h3 | h3
            · omega
            · exact absurd (hS.todo _ h3 (by omega)) (hdep _ h2)
      have hhi : k ≤ hi.getD i cs.length := by
        rcases chainB_hi hch hil with h | h
        · exact Nat.le_trans hS.le h
        · rcases Nat.lt_or_ge (hi.getD i cs.length) k with h3 | h3
          · exact absurd hn (hS.closed _ h3 i h)
          · exact h3
      have hs := hs k a w hlo hhi hEk hat'
      have key : ∀ v w', Below w.heap.size w w' → F i v w' → (∀ j u, upd vs i v j = some u → F j u w') ∧ ∃ k, Stage .any l.toArray cs k (upd vs i v) ∧ E k w' := by
        intro v w' hb hv
        refine ⟨fun j u hj => ?_, k, ⟨hS.le, fun m hm' => ?_, fun m h1 h2 => ?_, fun m hm' j hj => ?_⟩, hE k w w' hb hEk⟩
        · by_cases hij : j = i
          · subst hij; rw [upd_same] at hj; cases hj; exact hv
          · rw [upd_ne vs v hij] at hj; exact hst j u w w' hb (hF j u hj)
        · rw [upd_ne vs v (hne m (Nat.lt_of_lt_of_le hm' hS.le))]; exact hS.done m hm'
        · rw [upd_ne vs v (hne m h2)]; exact hS.todo m h1 h2
        · by_cases hij : j = i
          · subst hij; rw [upd_same]; simp
          · rw [upd_ne vs v hij]; exact hS.closed m hm' j hj
      split
      · rename_i hw
        rw [if_pos hw] at hs
        exact Oper.wp_mono (fun a' w' ⟨v, e1, e2, e3⟩ => ⟨v, e1, key v w' e2 e3⟩) hs
      · rename_i hw
        rw [if_neg hw] at hs
        exact key undef w (Below.refl _ _) hs
    | some m =>
      rw [hidx] at hs
      obtain ⟨hm1, hm2⟩ := idxOf?_some' hidx
      have hkm : k = m := by
        rcases Nat.lt_trichotomy k m with h | h | h
        · exact absurd (hS.todo k (Nat.le_refl _) (by omega)) (hdep _ (by rw [← hm2]; exact (chainB_lt hch hm1 h).1))
        · exact h
        · exact absurd hn (by have := hS.done m h; rwa [hm2] at this)
      subst hkm
      have hs := hs a w hEk hat'
      have key : ∀ v w', (∀ j u, j ≠ i → F j u w → F j u w') → F i v w' → E (k + 1) w' → (∀ j u, upd vs i v j = some u → F j u w') ∧ ∃ k, Stage .any l.toArray cs k (upd vs i v) ∧ E k w' := by
        intro v w' hb hv hE'
        refine ⟨fun j u hj => ?_, k + 1, ⟨hm1, fun m hm' => ?_, fun m h1 h2 => ?_, fun m hm' j hj => ?_⟩, hE'⟩
        · by_cases hij : j = i
          · subst hij; rw [upd_same] at hj; cases hj; exact hv
          · rw [upd_ne vs v hij] at hj; exact hb j u hij (hF j u hj)
        · rcases Nat.lt_or_ge m k with h | h
          · rw [upd_ne vs v (fun e => (chainB_lt hch hm1 h).2 (by rw [hm2, e]))]; exact hS.done m h
          · have : m = k := by omega
            subst this
            rw [hm2, upd_same]; simp
        · rw [upd_ne vs v (fun e => (chainB_lt hch h2 (show k < m by omega)).2 (by rw [hm2, e]))]
          exact hS.todo m (by omega) h2
        · by_cases hij : j = i
          · subst hij; rw [upd_same]; simp
          · rw [upd_ne vs v hij]
            rcases Nat.lt_or_ge m k with h | h
            · exact hS.closed m h j hj
            · have : m = k := by omega
              subst this
              rw [hm2] at hj
              exact hdep j hj
      split
      · rename_i hw
        rw [if_pos hw] at hs
        exact Oper.wp_mono (fun a' w' ⟨v, e1, e2, e3, e4⟩ => ⟨v, e1, key v w' e2 e3 e4⟩) hs
      · rename_i hw
        rw [if_neg hw] at hs
        exact key undef w (fun _ _ _ h => h) hs.1 hs.2
  · obtain ⟨hF, k, hS, hEk⟩ := hI
    refine hQ vs' w (fun i hi => hF i _ (hv i (by simpa using hi))) ?_
    have : k = cs.length := by
      rcases Nat.lt_or_ge k cs.length with h | h
      · have h1 := hS.todo k (Nat.le_refl _) h
        rw [hv _ (chainB_size hch h)] at h1
        cases h1
      · exact Nat.le_antisymm hS.le h
    rw [← this]; exact hEk
  · rw [getD_replicate_false] at h; cases h
  · rw [getD_replicate_false] at h; cases h
  · exact Nat.le_trans List.countP_le_length (by simp)
def StepV (P : Program) (ops : Array Oper) (Q : Exit → Act → World → Prop) (F : Nat → Value → World → Prop) (E : Nat → (Nat → Option Value) → World → Prop) (lo hi : Nat) (a0 : Act) (o : Oper) (i : Nat) : Option Nat → Prop
  | none => ∀ k vs a w, lo ≤ k → k ≤ hi → E k vs w → At .any ops (fun j u w => F j u w ∧ vs j = some u) a0 w i a w → if Region.wanted o (yielded ops a.tmps) = true then o.wp P a w (fun a' w' => ∃ v, a' = a.put o.dst v ∧ Below w.heap.size w w' ∧ F i v w') Q else F i undef w
  | some k => ∀ vs a w, vs i = none → E k vs w → At .any ops (fun j u w => F j u w ∧ vs j = some u) a0 w i a w → if Region.wanted o (yielded ops a.tmps) = true then o.wp P a w (fun a' w' => ∃ v, a' = a.put o.dst v ∧ (∀ j u, j ≠ i → F j u w → F j u w') ∧ F i v w' ∧ E (k + 1) (upd vs i v) w') Q else F i undef w ∧ E (k + 1) (upd vs i undef) w
def StepsV (P : Program) (ops : Array Oper) (Q : Exit → Act → World → Prop) (F : Nat → Value → World → Prop) (E : Nat → (Nat → Option Value) → World → Prop) (cs lo hi : List Nat) (a0 : Act) : List Oper → Nat → Prop
  | [], _ => True
  | o :: l, i => StepV P ops Q F E (lo.getD i 0) (hi.getD i cs.length) a0 o i (cs.idxOf? i) ∧ StepsV P ops Q F E cs lo hi a0 l (i + 1)
theorem stepsV_get {F : Nat → Value → World → Prop} {E : Nat → (Nat → Option Value) → World → Prop} {cs lo hi : List Nat} {a0 : Act} : ∀ (l : List Oper) (k : Nat), StepsV P ops Q F E cs lo hi a0 l k → ∀ (i : Nat) o, l[i]? = some o → StepV P ops Q F E (lo.getD (k + i) 0) (hi.getD (k + i) cs.length) a0 o (k + i) (cs.idxOf? (k + i))
  | [], _, _, i, _, h => by simp at h
  | o :: l, k, h, 0, o', ho => by
    simp only [List.getElem?_cons_zero, Option.some.injEq] at ho
    subst ho
    exact h.1
  | o :: l, k, h, i + 1, o', ho => by
    have := stepsV_get l (k + 1) h.2 i o' (by simpa using ho)
    rw [show k + (i + 1) = k + 1 + i by omega]
    exact this
/-- the same, and the stages speak of the values that have come up -/
theorem stage_anyV {l : List Oper} {a0 : Act} {w0 : World} (cs lo hi : List Nat) (F : Nat → Value → World → Prop) (E : Nat → (Nat → Option Value) → World → Prop) (hback : backM .any l.toArray = true) (hdst : dstB l.toArray = true) (hroom : roomB l.toArray a0.tmps.size = true)
    (hch : chainB .any l.toArray cs lo hi = true)
    (hst : ∀ i v w w', Below w.heap.size w w' → F i v w → F i v w')
    (hE : ∀ k vs vs' w w', Below w.heap.size w w' → (∀ j u, vs j = some u → vs' j = some u) → E k vs w → E k vs' w')
    (h0 : E 0 (fun _ => none) w0)
    (hstep : StepsV P l.toArray Q F E cs lo hi a0 l 0)
    (hQ : ∀ (vs : Nat → Value) w, (∀ i, i < l.length → F i (vs i) w) → E cs.length (fun i => if i < l.length then some (vs i) else none) w → Q .normal (putAll l vs 0 a0) w) : wpAny P .any l.toArray Q l.toArray.size (Array.replicate l.toArray.size false) a0 w0 := by
  refine (wpAny_inv (fun vs w => (∀ i v, vs i = some v → F i v w) ∧ (∀ i, l.length ≤ i → vs i = none) ∧ ∃ k, Stage .any l.toArray cs k vs ∧ E k vs w) a0 w0 hback hdst hroom (fun i o ho vs a w hI hn hat => ?_) (fun vs' vs w hv hI => ?_) _ _ _ _ (fun _ => none) ⟨Below.refl _ _, rfl, rfl, by simp, fun s _ => rfl, fun i o _ h => ?_, fun j oj _ h => ?_⟩ (fun _ _ => rfl) ⟨fun i v h => by simp at h, fun _ _ => rfl, 0, ⟨Nat.zero_le _, fun m h => by omega, fun _ _ _ => rfl, fun m h => by omega⟩, h0⟩ ?_)
  · obtain ⟨hF, hout, k, hS, hEk⟩ := hI
    have hil : i < l.toArray.size := (Array.getElem?_eq_some_iff.1 ho).1
    have hs := stepsV_get l 0 hstep i o (by simpa using ho)
    rw [Nat.zero_add] at hs
    have hat' : At .any l.toArray (fun j u w => F j u w ∧ vs j = some u) a0 w i a w := ⟨Below.refl _ _, hat.base, fun j hj => by
        obtain ⟨v, h1, h2⟩ := hat.fact j hj
        exact ⟨v, h1, hF j v h2, h2⟩⟩
    have hdep : ∀ j, Region.waitsFor .any l.toArray i j = true → vs j ≠ none := fun j hj => by
      obtain ⟨v, _, h2⟩ := hat.fact j hj
      rw [h2]; simp
    cases hidx : cs.idxOf? i with
    | none =>
      rw [hidx] at hs
      have hne := idxOf?_none' hidx
      have hlo : lo.getD i 0 ≤ k := by
        rcases chainB_lo hch hil with h | ⟨h, h2⟩
        · omega
        · rcases Nat.eq_zero_or_pos (lo.getD i 0) with h4 | h4
          · omega
          · rcases Nat.lt_or_ge (lo.getD i 0 - 1) k with h3 | h3
            · omega
            · exact absurd (hS.todo _ h3 (by omega)) (hdep _ h2)
      have hhi : k ≤ hi.getD i cs.length := by
        rcases chainB_hi hch hil with h | h
        · exact Nat.le_trans hS.le h
        · rcases Nat.lt_or_ge (hi.getD i cs.length) k with h3 | h3
          · exact absurd hn (hS.closed _ h3 i h)
          · exact h3
      have hs := hs k vs a w hlo hhi hEk hat'
      have key : ∀ v w', Below w.heap.size w w' → F i v w' → (∀ j u, upd vs i v j = some u → F j u w') ∧ (∀ j, l.length ≤ j → upd vs i v j = none) ∧ ∃ k, Stage .any l.toArray cs k (upd vs i v) ∧ E k (upd vs i v) w' := by
        intro v w' hb hv
        refine ⟨fun j u hj => ?_, fun j hj => by rw [upd_ne vs v (fun e => by rw [e] at hj; have hs' : l.toArray.size = l.length := List.size_toArray; omega)]; exact hout j hj, k, ⟨hS.le, fun m hm' => ?_, fun m h1 h2 => ?_, fun m hm' j hj => ?_⟩, hE k vs _ w w' hb (fun j u hj => by rw [upd_ne vs v (fun e => by subst e; rw [hn] at hj; cases hj)]; exact hj) hEk⟩
        · by_cases hij : j = i
          · subst hij; rw [upd_same] at hj; cases hj; exact hv
          · rw [upd_ne vs v hij] at hj; exact hst j u w w' hb (hF j u hj)
        · rw [upd_ne vs v (hne m (Nat.lt_of_lt_of_le hm' hS.le))]; exact hS.done m hm'
        · rw [upd_ne vs v (hne m h2)]; exact hS.todo m h1 h2
        · by_cases hij : j = i
          · subst hij; rw [upd_same]; simp
          · rw [upd_ne vs v hij]; exact hS.closed m hm' j hj
      split
      · rename_i hw
        rw [if_pos hw] at hs
        exact Oper.wp_mono (fun a' w' ⟨v, e1, e2, e3⟩ => ⟨v, e1, key v w' e2 e3⟩) hs
      · rename_i hw
        rw [if_neg hw] at hs
        exact key undef w (Below.refl _ _) hs
    | some m =>
      rw [hidx] at hs
      obtain ⟨hm1, hm2⟩ := idxOf?_some' hidx
      have hkm : k = m := by
        rcases Nat.lt_trichotomy k m with h | h | h
        · exact absurd (hS.todo k (Nat.le_refl _) (by omega)) (hdep _ (by rw [← hm2]; exact (chainB_lt hch hm1 h).1))
        · exact h
        · exact absurd hn (by have := hS.done m h; rwa [hm2] at this)
      subst hkm
      have hs := hs vs a w hn hEk hat'
      have key : ∀ v w', (∀ j u, j ≠ i → F j u w → F j u w') → F i v w' → E (k + 1) (upd vs i v) w' → (∀ j u, upd vs i v j = some u → F j u w') ∧ (∀ j, l.length ≤ j → upd vs i v j = none) ∧ ∃ k, Stage .any l.toArray cs k (upd vs i v) ∧ E k (upd vs i v) w' := by
        intro v w' hb hv hE'
        refine ⟨fun j u hj => ?_, fun j hj => by rw [upd_ne vs v (fun e => by rw [e] at hj; have hs' : l.toArray.size = l.length := List.size_toArray; omega)]; exact hout j hj, k + 1, ⟨hm1, fun m hm' => ?_, fun m h1 h2 => ?_, fun m hm' j hj => ?_⟩, hE'⟩
        · by_cases hij : j = i
          · subst hij; rw [upd_same] at hj; cases hj; exact hv
          · rw [upd_ne vs v hij] at hj; exact hb j u hij (hF j u hj)
        · rcases Nat.lt_or_ge m k with h | h
          · rw [upd_ne vs v (fun e => (chainB_lt hch hm1 h).2 (by rw [hm2, e]))]; exact hS.done m h
          · have : m = k := by omega
            subst this
            rw [hm2, upd_same]; simp
        · rw [upd_ne vs v (fun e => (chainB_lt hch h2 (show k < m by omega)).2 (by rw [hm2, e]))]
          exact hS.todo m (by omega) h2
        · by_cases hij : j = i
          · subst hij; rw [upd_same]; simp
          · rw [upd_ne vs v hij]
            rcases Nat.lt_or_ge m k with h | h
            · exact hS.closed m h j hj
            · have : m = k := by omega
              subst this
              rw [hm2] at hj
              exact hdep j hj
      split
      · rename_i hw
        rw [if_pos hw] at hs
        exact Oper.wp_mono (fun a' w' ⟨v, e1, e2, e3, e4⟩ => ⟨v, e1, key v w' e2 e3 e4⟩) hs
      · rename_i hw
        rw [if_neg hw] at hs
        exact key undef w (fun _ _ _ h => h) hs.1 hs.2
  · obtain ⟨hF, hout, k, hS, hEk⟩ := hI
    refine hQ vs' w (fun i hi => hF i _ (hv i (by simpa using hi))) ?_
    have : k = cs.length := by
      rcases Nat.lt_or_ge k cs.length with h | h
      · have h1 := hS.todo k (Nat.le_refl _) h
        rw [hv _ (chainB_size hch h)] at h1
        cases h1
      · exact Nat.le_antisymm hS.le h
    rw [← this]
    exact hE k vs _ w w (Below.refl _ _) (fun j u hj => by
      by_cases hjl : j < l.length
      · rw [if_pos hjl, ← hv j (by simpa using hjl)]; exact hj
      · exact absurd hj (by rw [hout j (by omega)]; simp)) hEk
  · rw [getD_replicate_false] at h; cases h
  · rw [getD_replicate_false] at h; cases h
  · exact Nat.le_trans List.countP_le_length (by simp)
end
end Go.Proofs.Ytdenfgnkbfbpmaa
