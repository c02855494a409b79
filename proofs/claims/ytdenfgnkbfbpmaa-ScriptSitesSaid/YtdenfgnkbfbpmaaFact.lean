/-
  A region that draws its order, walked ONCE BY FACTS: each operation's value has a fact that later operations leave true. No statement is proved here.
-/
import Derived.Test.YtdenfgnkbfbpmaaMore
import Derived.StillTail
namespace Go.Proofs.Ytdenfgnkbfbpmaa
open Go.RowKit

section
variable {P : Program} {ops : Array Oper} {md : Region.Mode} {Q : Exit → Act → World → Prop}

/-- every edge goes back -/
def backB (ops : Array Oper) : Bool := (List.range ops.size).all fun i => match ops[i]? with | some o => o.after.all fun e => decide (e.on < i) | none => true
/-- no two operations write one slot -/
def dstB (ops : Array Oper) : Bool := (List.range ops.size).all fun i => (List.range ops.size).all fun j => i == j || match (ops[i]?).bind (·.dst), (ops[j]?).bind (·.dst) with | some d, some e => d != e | _, _ => true
/-- slot s is as at first while operation i comes up -/
def firstB (md : Region.Mode) (ops : Array Oper) (i s : Nat) : Bool := (List.range ops.size).all fun j => ((ops[j]?).bind (·.dst) != some s) || j == i || Region.waitsFor md ops j i
/-- the slots lie in the frame -/
def roomB (ops : Array Oper) (n : Nat) : Bool := ops.all fun o => match o.dst with | some d => decide (d < n) | none => true

structure At (md : Region.Mode) (ops : Array Oper) (F : Nat → Value → World → Prop) (a0 : Act) (w0 : World) (i : Nat) (a : Act) (w : World) : Prop where
  below : Below w0.heap.size w0 w
  base : ∀ s, firstB md ops i s = true → a.tmps.getD s undef = a0.tmps.getD s undef
  fact : ∀ j, Region.waitsFor md ops i j = true → ∃ v, (∀ d, (ops[j]?).bind (·.dst) = some d → a.tmps.getD d undef = v) ∧ F j v w

structure FInv (md : Region.Mode) (ops : Array Oper) (F : Nat → Value → World → Prop) (a0 : Act) (w0 : World) (listed : Array Bool) (a : Act) (w : World) : Prop where
  below : Below w0.heap.size w0 w
  size : a.tmps.size = a0.tmps.size
  defers : a.defers = a0.defers
  len : listed.size = ops.size
  old : ∀ s, (∀ (i : Nat) o, ops[i]? = some o → listed.getD i false = true → o.dst ≠ some s) → a.tmps[s]? = a0.tmps[s]?
  new : ∀ (i : Nat) o, ops[i]? = some o → listed.getD i false = true → ∃ v, (∀ d, o.dst = some d → a.tmps[d]? = some v) ∧ F i v w
  closed : ∀ (j : Nat) oj, ops[j]? = some oj → listed.getD j false = true → ∀ e ∈ oj.after, Region.binds md e = true → listed.getD e.on false = true

def putAll : List Oper → (Nat → Value) → Nat → Act → Act
  | [], _, _, a => a
  | o :: l, vs, k, a => putAll l vs (k + 1) (a.put o.dst (vs k))
theorem put_size (a : Act) (d : Option Tmp) (v : Value) : (a.put d v).tmps.size = a.tmps.size := by cases d <;> simp [Act.put]
theorem put_defers (a : Act) (d : Option Tmp) (v : Value) : (a.put d v).defers = a.defers := by cases d <;> simp [Act.put]
theorem put_ne (a : Act) (d : Option Tmp) (v : Value) (s : Nat) (h : d ≠ some s) : (a.put d v).tmps[s]? = a.tmps[s]? := by
  cases d with
  | none => rfl
  | some d => simp only [Act.put]; exact Array.getElem?_setIfInBounds_ne (fun e => h (by rw [e]))
theorem put_eq (a : Act) (v : Value) (s : Nat) (h : s < a.tmps.size) : (a.put (some s) v).tmps[s]? = some v := by
  simp [Act.put, h]
theorem putAll_size : ∀ (l : List Oper) (vs : Nat → Value) (k : Nat) (a : Act), (putAll l vs k a).tmps.size = a.tmps.size
  | [], _, _, _ => rfl
  | o :: l, vs, k, a => by rw [putAll, putAll_size l, put_size]
theorem putAll_defers : ∀ (l : List Oper) (vs : Nat → Value) (k : Nat) (a : Act), (putAll l vs k a).defers = a.defers
  | [], _, _, _ => rfl
  | o :: l, vs, k, a => by rw [putAll, putAll_defers l, put_defers]
theorem putAll_get (s : Nat) (t : Value) : ∀ (l : List Oper) (vs : Nat → Value) (k : Nat) (a : Act), s < a.tmps.size → (∀ (j : Nat) o, l[j]? = some o → o.dst = some s → vs (k + j) = t) →
    (a.tmps[s]? = some t ∨ ∃ (j : Nat) (o : Oper), l[j]? = some o ∧ o.dst = some s) → (putAll l vs k a).tmps[s]? = some t
  | [], _, _, _, _, _, h => by
    rcases h with h | ⟨j, o, h, _⟩
    · exact h
    · simp at h
  | o :: l, vs, k, a, hs, h1, h => by
    rw [putAll]
    refine putAll_get s t l vs (k + 1) _ (by rw [put_size]; exact hs) (fun j o' hj hd => ?_) ?_
    · have := h1 (j + 1) o' (by simpa using hj) hd
      rw [show k + 1 + j = k + (j + 1) by omega]; exact this
    · by_cases hd : o.dst = some s
      · left
        rw [hd, put_eq a _ s hs, ← h1 0 o rfl hd]; rfl
      · rcases h with h | ⟨j, o', hj, hd'⟩
        · left; rw [put_ne a _ _ s hd]; exact h
        · right
          cases j with
          | zero => simp only [List.getElem?_cons_zero, Option.some.injEq] at hj; subst hj; exact absurd hd' hd
          | succ j => exact ⟨j, o', by simpa using hj, hd'⟩

theorem countP_lt {α : Type} (p q : α → Bool) : ∀ (l : List α), (∀ x ∈ l, p x = true → q x = true) → ∀ x ∈ l, q x = true → p x = false → l.countP p < l.countP q
  | [], _, _, h, _, _ => by cases h
  | y :: l, h, x, hx, hq, hp => by
    have hle : l.countP p ≤ l.countP q := List.countP_mono_left (fun z hz => h z (List.mem_cons_of_mem _ hz))
    rcases List.mem_cons.1 hx with rfl | hx
    · rw [List.countP_cons, List.countP_cons, hq, hp]; simp; omega
    · have := countP_lt p q l (fun z hz => h z (List.mem_cons_of_mem _ hz)) x hx hq hp
      have hy := h y List.mem_cons_self
      rw [List.countP_cons, List.countP_cons]
      cases h1 : p y with
      | true => rw [hy h1]; simp; exact this
      | false => simp; omega

theorem finv_all {F : Nat → Value → World → Prop} {a0 : Act} {w0 : World} {listed : Array Bool} {a : Act} {w : World} (inv : FInv md ops F a0 w0 listed a w) (hb : backB ops = true) (hr : Region.ready md ops listed = []) : ∀ i, i < ops.size → listed.getD i false = true := by
  intro i
  induction i using Nat.strongRecOn with
  | ind i ih =>
    intro hi
    cases h : listed.getD i false with
    | true => rfl
    | false =>
      have hit : listed.getD i true = false := getD_in (by rw [inv.len]; exact hi) h
      have ho : ops[i]? = some ops[i] := Array.getElem?_eq_getElem hi
      have : i ∈ Region.ready md ops listed := mem_ready.2 ⟨hit, ops[i], ho, fun e he _ => ih e.on (by
        have := List.all_eq_true.1 hb i (List.mem_range.2 hi)
        rw [ho] at this
        exact of_decide_eq_true (Array.all_eq_true_iff_forall_mem.1 this e he)) (Nat.lt_trans (by
        have := List.all_eq_true.1 hb i (List.mem_range.2 hi)
        rw [ho] at this
        exact of_decide_eq_true (Array.all_eq_true_iff_forall_mem.1 this e he)) hi)⟩
      rw [hr] at this
      cases this

theorem finv_end {F : Nat → Value → World → Prop} {a0 : Act} {w0 : World} {listed : Array Bool} {a : Act} {w : World} (inv : FInv md ops F a0 w0 listed a w) (hall : ∀ i, i < ops.size → listed.getD i false = true) :
    ∃ vs : Nat → Value, (∀ i, i < ops.size → F i (vs i) w) ∧ a = putAll ops.toList vs 0 a0 := by
  have hx : ∀ i, ∃ v, ∀ o, ops[i]? = some o → (∀ d, o.dst = some d → a.tmps[d]? = some v) ∧ F i v w := by
    intro i
    by_cases hi : i < ops.size
    · obtain ⟨v, h⟩ := inv.new i ops[i] (Array.getElem?_eq_getElem hi) (hall i hi)
      exact ⟨v, fun o ho => by rw [Array.getElem?_eq_getElem hi] at ho; cases ho; exact h⟩
    · exact ⟨undef, fun o ho => by rw [Array.getElem?_eq_none (by omega)] at ho; cases ho⟩
  obtain ⟨vs, hvs⟩ := Classical.axiomOfChoice hx
  refine ⟨vs, fun i hi => (hvs i _ (Array.getElem?_eq_getElem hi)).2, ?_⟩
  have hd : a.defers = (putAll ops.toList vs 0 a0).defers := by rw [putAll_defers]; exact inv.defers
  have ht : a.tmps = (putAll ops.toList vs 0 a0).tmps := by
    apply Array.ext_getElem?
    intro s
    by_cases hs : s < a0.tmps.size
    · have hs' : s < a.tmps.size := by rw [inv.size]; exact hs
      rw [Array.getElem?_eq_getElem hs']
      refine (putAll_get s a.tmps[s] ops.toList vs 0 a0 hs (fun j o hj hd => ?_) ?_).symm
      · rw [Array.getElem?_toList] at hj
        have := (hvs j o hj).1 s hd
        rw [Array.getElem?_eq_getElem hs'] at this
        rw [Nat.zero_add]
        exact (Option.some.inj this).symm
      · by_cases hw : ∃ (j : Nat) (o : Oper), ops[j]? = some o ∧ o.dst = some s
        · right
          obtain ⟨j, o, hj, hd⟩ := hw
          exact ⟨j, o, by rw [Array.getElem?_toList]; exact hj, hd⟩
        · left
          rw [← inv.old s (fun i o ho _ hd => hw ⟨i, o, ho, hd⟩)]
          exact Array.getElem?_eq_getElem hs'
    · rw [Array.getElem?_eq_none (by rw [inv.size]; omega), Array.getElem?_eq_none (by rw [putAll_size]; omega)]
  cases a
  cases hp : putAll ops.toList vs 0 a0
  rw [hp] at hd ht
  simp only at hd ht
  rw [hd, ht]

theorem finv_at {F : Nat → Value → World → Prop} {a0 : Act} {w0 : World} {listed : Array Bool} {a : Act} {w : World} (inv : FInv md ops F a0 w0 listed a w) {i : Nat} {o : Oper} (ho : ops[i]? = some o) (hun' : listed.getD i false = false)
    (hdeps : ∀ e ∈ o.after, Region.binds md e = true → listed.getD e.on false = true) : At md ops F a0 w0 i a w := by
    refine ⟨inv.below, fun s hs => ?_, fun j hj => ?_⟩
    · have := inv.old s (fun j oj hj hl hd => by
        have h1 := List.all_eq_true.1 hs j (List.mem_range.2 (Array.getElem?_eq_some_iff.1 hj).1)
        simp only [hj, Option.bind_some, hd, bne_self_eq_false, Bool.false_or, Bool.or_eq_true, beq_iff_eq] at h1
        rcases h1 with h1 | h1
        · rw [h1, hun'] at hl; cases hl
        · obtain ⟨oj', hj', e, he, hb, he2⟩ := Region.waitsFor_spec h1
          have := inv.closed j oj' hj' hl e he hb
          rw [he2, hun'] at this; cases this)
      rw [Array.getD_eq_getD_getElem?, Array.getD_eq_getD_getElem?, this]
    · obtain ⟨o', ho', e, he, hb, he2⟩ := Region.waitsFor_spec hj
      rw [ho] at ho'
      cases ho'
      have hl := hdeps e he hb
      rw [he2] at hl
      have hj2 : j < ops.size := by
        rcases Nat.lt_or_ge j listed.size with h | h
        · rw [inv.len] at h; exact h
        · rw [Array.getD_eq_getD_getElem?, Array.getElem?_eq_none h] at hl; cases hl
      obtain ⟨v, h1, h2⟩ := inv.new j ops[j] (Array.getElem?_eq_getElem hj2) hl
      refine ⟨v, fun d hd => ?_, h2⟩
      rw [Array.getElem?_eq_getElem hj2] at hd
      rw [Array.getD_eq_getD_getElem?, h1 d hd]; rfl
theorem finv_next {F : Nat → Value → World → Prop} {a0 : Act} {w0 : World} {listed : Array Bool} {a : Act} {w : World} (hdst : dstB ops = true) (hroom : roomB ops a0.tmps.size = true)
    (hst : ∀ i v w w', Below w.heap.size w w' → F i v w → F i v w') (inv : FInv md ops F a0 w0 listed a w) {i : Nat} {o : Oper} (ho : ops[i]? = some o) (hil : i < ops.size)
    (hdeps : ∀ e ∈ o.after, Region.binds md e = true → listed.getD e.on false = true) (v : Value) (w' : World) (hbw : Below w.heap.size w w') (hF : F i v w') : FInv md ops F a0 w0 (listed.setIfInBounds i true) (a.put o.dst v) w' := by
    refine ⟨?_, by rw [put_size]; exact inv.size, by rw [put_defers]; exact inv.defers, by simp [inv.len], fun s hs => ?_, fun j oj hj hl => ?_, fun j oj hj hl e he hb => ?_⟩
    · exact inv.below.trans (hbw.mono inv.below.size)
    · rw [put_ne a _ _ s (hs i o ho (by simp [inv.len, hil]))]
      exact inv.old s (fun j oj hj hl => hs j oj hj (by
        by_cases hij : i = j
        · subst hij; simp [inv.len, hil]
        · rwa [getD_set_ne false hij]))
    · by_cases hij : i = j
      · subst hij
        rw [ho] at hj; cases hj
        refine ⟨v, fun d hd => ?_, hF⟩
        rw [hd]
        refine put_eq a v d ?_
        rw [inv.size]
        have := Array.all_eq_true_iff_forall_mem.1 hroom o (Array.mem_of_getElem? ho)
        rw [hd] at this
        exact of_decide_eq_true this
      · rw [getD_set_ne false hij] at hl
        obtain ⟨u, h1, h2⟩ := inv.new j oj hj hl
        refine ⟨u, fun d hd => ?_, hst j u w w' hbw h2⟩
        rw [put_ne a _ _ d (fun e => ?_)]
        · exact h1 d hd
        · have h3 := List.all_eq_true.1 (List.all_eq_true.1 hdst i (List.mem_range.2 hil)) j (List.mem_range.2 (Array.getElem?_eq_some_iff.1 hj).1)
          simp only [ho, hj, Option.bind_some, e, hd, bne_self_eq_false, Bool.or_false, beq_iff_eq] at h3
          exact hij h3
    · have key : ∀ k, listed.getD k false = true → (listed.setIfInBounds i true).getD k false = true := fun k hk => by
        by_cases hik : i = k
        · subst hik; simp [inv.len, hil]
        · rwa [getD_set_ne false hik]
      by_cases hij : i = j
      · subst hij
        rw [ho] at hj; cases hj
        exact key _ (hdeps e he hb)
      · rw [getD_set_ne false hij] at hl
        exact key _ (inv.closed j oj hj hl e he hb)
/-- the last operation waits for every other -/
def lastB (md : Region.Mode) (ops : Array Oper) : Bool := decide (0 < ops.size) && (List.range (ops.size - 1)).all fun j => Region.waitsFor md ops (ops.size - 1) j
theorem wpAny_done_all {listed : Array Bool} (hall : ∀ i, i < ops.size → listed.getD i true = true) {a : Act} {w : World} (h : Q .normal a w) : ∀ fuel, wpAny P md ops Q fuel listed a w := by
  have hr : Region.ready md ops listed = [] := by
    cases h : Region.ready md ops listed with
    | nil => rfl
    | cons i l =>
      have hi : i ∈ Region.ready md ops listed := by rw [h]; exact List.mem_cons_self
      obtain ⟨h1, o, ho, _⟩ := mem_ready.1 hi
      rw [hall i (Array.getElem?_eq_some_iff.1 ho).1] at h1
      cases h1
  intro fuel
  cases fuel with
  | zero => exact ⟨hr, h⟩
  | succ fuel => exact ⟨fun _ => h, fun i hi => by rw [hr] at hi; cases hi⟩
theorem finv_end_last {F : Nat → Value → World → Prop} {a0 : Act} {w0 : World} {listed : Array Bool} {a : Act} {w : World} (inv : FInv md ops F a0 w0 listed a w) (hall : ∀ i, i < ops.size - 1 → listed.getD i false = true) (hlast : listed.getD (ops.size - 1) false = false) :
    ∃ vs : Nat → Value, (∀ i, i < ops.size - 1 → F i (vs i) w) ∧ a = putAll ops.toList.dropLast vs 0 a0 := by
  have hx : ∀ i, ∃ v, ∀ o, i < ops.size - 1 → ops[i]? = some o → (∀ d, o.dst = some d → a.tmps[d]? = some v) ∧ F i v w := by
    intro i
    by_cases hi : i < ops.size - 1
    · obtain ⟨v, h⟩ := inv.new i ops[i] (Array.getElem?_eq_getElem (by omega)) (hall i hi)
      exact ⟨v, fun o _ ho => by rw [Array.getElem?_eq_getElem (by omega)] at ho; cases ho; exact h⟩
    · exact ⟨undef, fun o h _ => absurd h hi⟩
  obtain ⟨vs, hvs⟩ := Classical.axiomOfChoice hx
  have hget : ∀ (j : Nat) (o : Oper), ops.toList.dropLast[j]? = some o → j < ops.size - 1 ∧ ops[j]? = some o := by
    intro j o hj
    have h1 := (List.getElem?_eq_some_iff.1 hj).1
    rw [List.length_dropLast, Array.length_toList] at h1
    rw [List.getElem?_dropLast, Array.length_toList, if_pos h1, Array.getElem?_toList] at hj
    exact ⟨h1, hj⟩
  refine ⟨vs, fun i hi => (hvs i _ hi (Array.getElem?_eq_getElem (by omega))).2, ?_⟩
  have hd : a.defers = (putAll ops.toList.dropLast vs 0 a0).defers := by rw [putAll_defers]; exact inv.defers
  have ht : a.tmps = (putAll ops.toList.dropLast vs 0 a0).tmps := by
    apply Array.ext_getElem?
    intro s
    by_cases hs : s < a0.tmps.size
    · have hs' : s < a.tmps.size := by rw [inv.size]; exact hs
      rw [Array.getElem?_eq_getElem hs']
      refine (putAll_get s a.tmps[s] ops.toList.dropLast vs 0 a0 hs (fun j o hj hd => ?_) ?_).symm
      · obtain ⟨h1, h2⟩ := hget j o hj
        have := (hvs j o h1 h2).1 s hd
        rw [Array.getElem?_eq_getElem hs'] at this
        rw [Nat.zero_add]
        exact (Option.some.inj this).symm
      · by_cases hw : ∃ (j : Nat) (o : Oper), j < ops.size - 1 ∧ ops[j]? = some o ∧ o.dst = some s
        · right
          obtain ⟨j, o, h1, hj, hd⟩ := hw
          exact ⟨j, o, by rw [List.getElem?_dropLast, Array.length_toList, if_pos h1, Array.getElem?_toList]; exact hj, hd⟩
        · left
          rw [← inv.old s (fun i o ho hl hd => hw ⟨i, o, (by
            rcases Nat.lt_or_ge i (ops.size - 1) with h | h
            · exact h
            · have := (Array.getElem?_eq_some_iff.1 ho).1
              have e : i = ops.size - 1 := by omega
              rw [e, hlast] at hl
              exact Bool.noConfusion hl), ho, hd⟩)]
          exact Array.getElem?_eq_getElem hs'
    · rw [Array.getElem?_eq_none (by rw [inv.size]; omega), Array.getElem?_eq_none (by rw [putAll_size]; omega)]
  cases a
  cases hp : putAll ops.toList.dropLast vs 0 a0
  rw [hp] at hd ht
  simp only at hd ht
  rw [hd, ht]

theorem wpAny_facts (F : Nat → Value → World → Prop) (a0 : Act) (w0 : World) (hback : backB ops = true) (hdst : dstB ops = true) (hroom : roomB ops a0.tmps.size = true)
    (hst : ∀ i v w w', Below w.heap.size w w' → F i v w → F i v w')
    (hstep : ∀ (i : Nat) o, ops[i]? = some o → ∀ a w, At md ops F a0 w0 i a w → if Region.wanted o (yielded ops a.tmps) = true then o.wp P a w (fun a' w' => ∃ v, a' = a.put o.dst v ∧ Below w.heap.size w w' ∧ F i v w') Q else F i undef w)
    (hQ : ∀ (vs : Nat → Value) w, Below w0.heap.size w0 w → (∀ i, i < ops.size → F i (vs i) w) → Q .normal (putAll ops.toList vs 0 a0) w) :
    ∀ (fuel : Nat) (listed : Array Bool) (a : Act) (w : World), FInv md ops F a0 w0 listed a w → (List.range ops.size).countP (fun i => !listed.getD i true) ≤ fuel → wpAny P md ops Q fuel listed a w := by
  have hend : ∀ (listed : Array Bool) (a : Act) (w : World), FInv md ops F a0 w0 listed a w → Region.ready md ops listed = [] → Q .normal a w := by
    intro listed a w inv hr
    obtain ⟨vs, hF, rfl⟩ := finv_end inv (finv_all inv hback hr)
    exact hQ vs w inv.below hF
  intro fuel
  induction fuel with
  | zero =>
    intro listed a w inv hc
    have hr : Region.ready md ops listed = [] := by
      cases h : Region.ready md ops listed with
      | nil => rfl
      | cons i l =>
        have hi : i ∈ Region.ready md ops listed := by rw [h]; exact List.mem_cons_self
        obtain ⟨h1, o, ho, _⟩ := mem_ready.1 hi
        have : 0 < (List.range ops.size).countP (fun i => !listed.getD i true) := List.countP_pos_iff.2 ⟨i, List.mem_range.2 (Array.getElem?_eq_some_iff.1 ho).1, by simp only [h1, Bool.not_false]⟩
        omega
    exact ⟨hr, hend _ _ _ inv hr⟩
  | succ fuel ih =>
    intro listed a w inv hc
    refine ⟨hend _ _ _ inv, fun i hi => ?_⟩
    obtain ⟨hun, o, ho, hdeps⟩ := mem_ready.1 hi
    have hil : i < ops.size := (Array.getElem?_eq_some_iff.1 ho).1
    have hun' : listed.getD i false = false := getD_both hun
    have hat : At md ops F a0 w0 i a w := by
      refine ⟨inv.below, fun s hs => ?_, fun j hj => ?_⟩
      · have := inv.old s (fun j oj hj hl hd => by
          have h1 := List.all_eq_true.1 hs j (List.mem_range.2 (Array.getElem?_eq_some_iff.1 hj).1)
          simp only [hj, Option.bind_some, hd, bne_self_eq_false, Bool.false_or, Bool.or_eq_true, beq_iff_eq] at h1
          rcases h1 with h1 | h1
          · rw [h1, hun'] at hl; cases hl
          · obtain ⟨oj', hj', e, he, hb, he2⟩ := Region.waitsFor_spec h1
            have := inv.closed j oj' hj' hl e he hb
            rw [he2, hun'] at this; cases this)
        rw [Array.getD_eq_getD_getElem?, Array.getD_eq_getD_getElem?, this]
      · obtain ⟨o', ho', e, he, hb, he2⟩ := Region.waitsFor_spec hj
        rw [ho] at ho'
        cases ho'
        have hl := hdeps e he hb
        rw [he2] at hl
        have hj2 : j < ops.size := by
          rcases Nat.lt_or_ge j listed.size with h | h
          · rw [inv.len] at h; exact h
          · rw [Array.getD_eq_getD_getElem?, Array.getElem?_eq_none h] at hl; cases hl
        obtain ⟨v, h1, h2⟩ := inv.new j ops[j] (Array.getElem?_eq_getElem hj2) hl
        refine ⟨v, fun d hd => ?_, h2⟩
        rw [Array.getElem?_eq_getElem hj2] at hd
        rw [Array.getD_eq_getD_getElem?, h1 d hd]; rfl
    have hs := hstep i o ho a w hat
    have hcount : (List.range ops.size).countP (fun j => !(listed.setIfInBounds i true).getD j true) ≤ fuel := by
      have : (List.range ops.size).countP (fun j => !(listed.setIfInBounds i true).getD j true) < (List.range ops.size).countP (fun j => !listed.getD j true) := by
        refine countP_lt _ _ _ (fun j _ hj => ?_) i (List.mem_range.2 hil) ?_ ?_
        · by_cases hij : i = j
          · subst hij
            simp [inv.len, hil] at hj
          · rwa [getD_set_ne true hij] at hj
        · simp only [hun, Bool.not_false]
        · simp [inv.len, hil]
      omega
    have hnext : ∀ v w', Below w.heap.size w w' → F i v w' → wpAny P md ops Q fuel (listed.setIfInBounds i true) (a.put o.dst v) w' := by
      intro v w' hbw hF
      refine ih _ _ _ ⟨?_, by rw [put_size]; exact inv.size, by rw [put_defers]; exact inv.defers, by simp [inv.len], fun s hs => ?_, fun j oj hj hl => ?_, fun j oj hj hl e he hb => ?_⟩ hcount
      · exact inv.below.trans (hbw.mono inv.below.size)
      · rw [put_ne a _ _ s (hs i o ho (by simp [inv.len, hil]))]
        exact inv.old s (fun j oj hj hl => hs j oj hj (by
          by_cases hij : i = j
          · subst hij; simp [inv.len, hil]
          · rwa [getD_set_ne false hij]))
      · by_cases hij : i = j
        · subst hij
          rw [ho] at hj; cases hj
          refine ⟨v, fun d hd => ?_, hF⟩
          rw [hd]
          refine put_eq a v d ?_
          rw [inv.size]
          have := Array.all_eq_true_iff_forall_mem.1 hroom o (Array.mem_of_getElem? ho)
          rw [hd] at this
          exact of_decide_eq_true this
        · rw [getD_set_ne false hij] at hl
          obtain ⟨u, h1, h2⟩ := inv.new j oj hj hl
          refine ⟨u, fun d hd => ?_, hst j u w w' hbw h2⟩
          rw [put_ne a _ _ d (fun e => ?_)]
          · exact h1 d hd
          · have h3 := List.all_eq_true.1 (List.all_eq_true.1 hdst i (List.mem_range.2 hil)) j (List.mem_range.2 (Array.getElem?_eq_some_iff.1 hj).1)
            simp only [ho, hj, Option.bind_some, e, hd, bne_self_eq_false, Bool.or_false, beq_iff_eq] at h3
            exact hij h3
      · have key : ∀ k, listed.getD k false = true → (listed.setIfInBounds i true).getD k false = true := fun k hk => by
          by_cases hik : i = k
          · subst hik; simp [inv.len, hil]
          · rwa [getD_set_ne false hik]
        by_cases hij : i = j
        · subst hij
          rw [ho] at hj; cases hj
          exact key _ (hdeps e he hb)
        · rw [getD_set_ne false hij] at hl
          exact key _ (inv.closed j oj hj hl e he hb)
    unfold wpOp
    simp only [ho]
    split
    · rename_i hw
      rw [if_pos hw] at hs
      exact Or.inl (Oper.wp_mono (fun a' w' ⟨v, e1, e2, e3⟩ => by subst e1; exact hnext v w' e2 e3) hs)
    · rename_i hw
      rw [if_neg hw] at hs
      exact hnext undef w (Below.refl _ _) hs

/-- A REGION THAT DRAWS, BY FACTS: F i v w says what operation i's value v is; each operation is met once. -/
theorem region_facts {id : Nat} {l : List Oper} {a0 : Act} {w0 : World} (F : Nat → Value → World → Prop) (hm : P.follows .mixedOrders = true) (hback : backB l.toArray = true) (hdst : dstB l.toArray = true) (hroom : roomB l.toArray a0.tmps.size = true)
    (hst : ∀ i v w w', Below w.heap.size w w' → F i v w → F i v w')
    (hstep : ∀ (i : Nat) o, l[i]? = some o → ∀ a w, At .any l.toArray F a0 w0.drew i a w → if Region.wanted o (yielded l.toArray a.tmps) = true then o.wp P a w (fun a' w' => ∃ v, a' = a.put o.dst v ∧ Below w.heap.size w w' ∧ F i v w') Q else F i undef w)
    (hQ : ∀ (vs : Nat → Value) w, Below w0.drew.heap.size w0.drew w → (∀ i, i < l.length → F i (vs i) w) → Q .normal (putAll l vs 0 a0) w) : (Code.region id l.toArray true).wp P Q a0 w0 := by
  refine wp_region_any hm (wpAny_facts F a0 w0.drew hback hdst hroom hst (fun i o ho => hstep i o (by simpa using ho)) (fun vs w hb hF => hQ vs w hb (fun i hi => hF i (by simpa using hi))) _ _ _ _ ⟨Below.refl _ _, rfl, rfl, by simp, fun s _ => rfl, fun i o _ h => ?_, fun j oj _ h => ?_⟩ ?_)
  · rw [getD_replicate_false] at h; cases h
  · rw [getD_replicate_false] at h; cases h
  · exact Nat.le_trans List.countP_le_length (by simp)
/-- each operation's step, one after the other -/
def StepsF (P : Program) (md : Region.Mode) (ops : Array Oper) (Q : Exit → Act → World → Prop) (F : Nat → Value → World → Prop) (a0 : Act) (w0 : World) : List Oper → Nat → Prop
  | [], _ => True
  | o :: l, i => (∀ a w, At md ops F a0 w0 i a w → if Region.wanted o (yielded ops a.tmps) = true then o.wp P a w (fun a' w' => ∃ v, a' = a.put o.dst v ∧ Below w.heap.size w w' ∧ F i v w') Q else F i undef w) ∧ StepsF P md ops Q F a0 w0 l (i + 1)
theorem stepsF_get {F : Nat → Value → World → Prop} {a0 : Act} {w0 : World} : ∀ (l : List Oper) (k : Nat), StepsF P md ops Q F a0 w0 l k → ∀ (i : Nat) o, l[i]? = some o → ∀ a w, At md ops F a0 w0 (k + i) a w → if Region.wanted o (yielded ops a.tmps) = true then o.wp P a w (fun a' w' => ∃ v, a' = a.put o.dst v ∧ Below w.heap.size w w' ∧ F (k + i) v w') Q else F (k + i) undef w
  | [], _, _, i, _, h => by simp at h
  | o :: l, k, h, 0, o', ho => by
    simp only [List.getElem?_cons_zero, Option.some.injEq] at ho
    subst ho
    exact h.1
  | o :: l, k, h, i + 1, o', ho => by
    have := stepsF_get l (k + 1) h.2 i o' (by simpa using ho)
    rw [show k + (i + 1) = k + 1 + i by omega]
    exact this
theorem region_by {id : Nat} {l : List Oper} {a0 : Act} {w0 : World} (F : Nat → Value → World → Prop) (hm : P.follows .mixedOrders = true) (hback : backB l.toArray = true) (hdst : dstB l.toArray = true) (hroom : roomB l.toArray a0.tmps.size = true)
    (hst : ∀ i v w w', Below w.heap.size w w' → F i v w → F i v w') (hstep : StepsF P .any l.toArray Q F a0 w0.drew l 0)
    (hQ : ∀ (vs : Nat → Value) w, Below w0.heap.size w0 w → (∀ i, i < l.length → F i (vs i) w) → Q .normal (putAll l vs 0 a0) w) : (Code.region id l.toArray true).wp P Q a0 w0 :=
  region_facts F hm hback hdst hroom hst (fun i o ho => by have := stepsF_get l 0 hstep i o ho; rwa [Nat.zero_add] at this) (fun vs w hb hF => hQ vs w ⟨hb.os, hb.tape, hb.output, hb.size, hb.block⟩ hF)
theorem At.dep {F : Nat → Value → World → Prop} {a0 : Act} {w0 : World} {i : Nat} {a : Act} {w : World} (h : At md ops F a0 w0 i a w) (j d : Nat) (hj : Region.waitsFor md ops i j = true) (hd : (ops[j]?).bind (·.dst) = some d) : F j (a.tmps.getD d undef) w := by
  obtain ⟨v, h1, h2⟩ := h.fact j hj
  rw [h1 d hd]; exact h2
theorem At.since {F : Nat → Value → World → Prop} {a0 : Act} {w0 : World} {i : Nat} {a : Act} {w : World} (h : At md ops F a0 w0.drew i a w) : Below w0.heap.size w0 w :=
  ⟨h.below.os, h.below.tape, h.below.output, h.below.size, h.below.block⟩
theorem wpAny_last (F : Nat → Value → World → Prop) (a0 : Act) (w0 : World) (hdst : dstB ops = true) (hroom : roomB ops a0.tmps.size = true) (hback : backB ops = true) (hl : lastB md ops = true)
    (hst : ∀ i v w w', Below w.heap.size w w' → F i v w → F i v w')
    (hstep : ∀ (i : Nat) o, i < ops.size - 1 → ops[i]? = some o → ∀ a w, At md ops F a0 w0 i a w → if Region.wanted o (yielded ops a.tmps) = true then o.wp P a w (fun a' w' => ∃ v, a' = a.put o.dst v ∧ Below w.heap.size w w' ∧ F i v w') Q else F i undef w)
    (hQ : ∀ o, ops[ops.size - 1]? = some o → ∀ (vs : Nat → Value) w, Below w0.heap.size w0 w → (∀ i, i < ops.size - 1 → F i (vs i) w) →
      if Region.wanted o (yielded ops (putAll ops.toList.dropLast vs 0 a0).tmps) = true then o.wp P (putAll ops.toList.dropLast vs 0 a0) w (fun a' w' => Q .normal a' w') Q else Q .normal ((putAll ops.toList.dropLast vs 0 a0).put o.dst undef) w) :
    ∀ (fuel : Nat) (listed : Array Bool) (a : Act) (w : World), FInv md ops F a0 w0 listed a w → listed.getD (ops.size - 1) false = false → (List.range ops.size).countP (fun i => !listed.getD i true) ≤ fuel → wpAny P md ops Q fuel listed a w := by
  simp only [lastB, Bool.and_eq_true, decide_eq_true_eq] at hl
  obtain ⟨hpos, hl⟩ := hl
  intro fuel
  induction fuel with
  | zero =>
    intro listed a w inv hun hc
    have : 0 < (List.range ops.size).countP (fun i => !listed.getD i true) := List.countP_pos_iff.2 ⟨ops.size - 1, List.mem_range.2 (by omega), by simp only [getD_in (by rw [inv.len]; omega) hun, Bool.not_false]⟩
    omega
  | succ fuel ih =>
    intro listed a w inv hun0 hc
    refine ⟨fun hr => ?_, fun i hi => ?_⟩
    · have := finv_all inv hback hr (ops.size - 1) (by omega)
      rw [hun0] at this; cases this
    obtain ⟨hun, o, ho, hdeps⟩ := mem_ready.1 hi
    have hil : i < ops.size := (Array.getElem?_eq_some_iff.1 ho).1
    have hun' : listed.getD i false = false := getD_both hun
    unfold wpOp
    simp only [ho]
    by_cases hii : i = ops.size - 1
    · have hall : ∀ j, j < ops.size - 1 → listed.getD j false = true := fun j hj => by
        obtain ⟨o', ho', e, he, hb, he2⟩ := Region.waitsFor_spec (List.all_eq_true.1 hl j (List.mem_range.2 hj))
        rw [← hii, ho] at ho'
        cases ho'
        rw [← he2]
        exact hdeps e he hb
      obtain ⟨vs, hF, rfl⟩ := finv_end_last inv hall hun0
      have h := hQ o (by rw [← hii]; exact ho) vs w inv.below hF
      have hall' : ∀ j, j < ops.size → (listed.setIfInBounds i true).getD j true = true := fun j hj => by
        by_cases hij : i = j
        · subst hij; simp [inv.len, hil]
        · rw [getD_set_ne true hij]
          have h1 := hall j (by omega)
          rw [Array.getD_eq_getD_getElem?, Array.getElem?_eq_getElem (by rw [inv.len]; exact hj)] at h1 ⊢
          exact h1
      split
      · rename_i hw
        rw [if_pos hw] at h
        exact Or.inl (Oper.wp_mono (fun a' w' hq => wpAny_done_all hall' hq fuel) h)
      · rename_i hw
        rw [if_neg hw] at h
        exact wpAny_done_all hall' h fuel
    · have hs := hstep i o (by omega) ho a w (finv_at inv ho hun' hdeps)
      have hcount : (List.range ops.size).countP (fun j => !(listed.setIfInBounds i true).getD j true) ≤ fuel := by
        have : (List.range ops.size).countP (fun j => !(listed.setIfInBounds i true).getD j true) < (List.range ops.size).countP (fun j => !listed.getD j true) := by
          refine countP_lt _ _ _ (fun j _ hj => ?_) i (List.mem_range.2 hil) ?_ ?_
          · by_cases hij : i = j
            · subst hij
              simp [inv.len, hil] at hj
            · rwa [getD_set_ne true hij] at hj
          · simp only [hun, Bool.not_false]
          · simp [inv.len, hil]
        omega
      have hnext : ∀ v w', Below w.heap.size w w' → F i v w' → wpAny P md ops Q fuel (listed.setIfInBounds i true) (a.put o.dst v) w' := fun v w' hbw hF =>
        ih _ _ _ (finv_next hdst hroom hst inv ho hil hdeps v w' hbw hF) (by rw [getD_set_ne false hii]; exact hun0) hcount
      split
      · rename_i hw
        rw [if_pos hw] at hs
        exact Or.inl (Oper.wp_mono (fun a' w' ⟨v, e1, e2, e3⟩ => by subst e1; exact hnext v w' e2 e3) hs)
      · rename_i hw
        rw [if_neg hw] at hs
        exact hnext undef w (Below.refl _ _) hs

/-- A REGION THAT DRAWS, BY FACTS, ITS LAST OPERATION (it waits for all the others) MET BEHIND ALL FACTS: it may write memory. -/
theorem region_by_last {id : Nat} {l : List Oper} {o : Oper} {a0 : Act} {w0 : World} (F : Nat → Value → World → Prop) (hm : P.follows .mixedOrders = true) (hback : backB (l ++ [o]).toArray = true) (hdst : dstB (l ++ [o]).toArray = true) (hroom : roomB (l ++ [o]).toArray a0.tmps.size = true) (hl : lastB .any (l ++ [o]).toArray = true)
    (hst : ∀ i v w w', Below w.heap.size w w' → F i v w → F i v w') (hstep : StepsF P .any (l ++ [o]).toArray Q F a0 w0.drew l 0)
    (hQ : ∀ (vs : Nat → Value) w, Below w0.heap.size w0 w → (∀ i, i < l.length → F i (vs i) w) →
      if Region.wanted o (yielded (l ++ [o]).toArray (putAll l vs 0 a0).tmps) = true then o.wp P (putAll l vs 0 a0) w (fun a' w' => Q .normal a' w') Q else Q .normal ((putAll l vs 0 a0).put o.dst undef) w) : (Code.region id (l ++ [o]).toArray true).wp P Q a0 w0 := by
  have hsz : (l ++ [o]).toArray.size - 1 = l.length := by simp
  have hdl : (l ++ [o]).toArray.toList.dropLast = l := by simp
  refine wp_region_any hm (wpAny_last F a0 w0.drew hdst hroom hback hl hst (fun i o' hi ho => ?_) (fun o' ho vs w hb hF => ?_) _ _ _ _ ⟨Below.refl _ _, rfl, rfl, by simp, fun s _ => rfl, fun i o _ h => ?_, fun j oj _ h => ?_⟩ (getD_replicate_false _ _) ?_)
  · rw [hsz] at hi
    have := stepsF_get l 0 hstep i o' (by
      rw [List.getElem?_toArray, List.getElem?_append_left hi] at ho
      exact ho)
    rwa [Nat.zero_add] at this
  · rw [hsz] at ho hF
    rw [List.getElem?_toArray, List.getElem?_append_right (Nat.le_refl _), Nat.sub_self] at ho
    cases ho
    rw [hdl]
    exact hQ vs w ⟨hb.os, hb.tape, hb.output, hb.size, hb.block⟩ hF
  · rw [getD_replicate_false] at h; cases h
  · rw [getD_replicate_false] at h; cases h
  · exact Nat.le_trans List.countP_le_length (by simp)
end
end Go.Proofs.Ytdenfgnkbfbpmaa
