/-
  Memory told by pieces that lie apart: what is owned, what only is read; and the steps of operations over it. No statement is proved here.
-/
import Derived.Test.YtdenfgnkbfbpmaaSeq
namespace Go.Proofs.Ytdenfgnkbfbpmaa
open Go.RowKit
set_option linter.unusedVariables false
set_option linter.unusedSimpArgs false

/-- what is told of some blocks -/
structure Atom where
  holds : World → List Nat → Prop
  loc : ∀ {w w' : World} {fp : List Nat}, holds w fp → (∀ b ∈ fp, w'.heap[b]? = w.heap[b]?) → holds w' fp
  dom : ∀ {w : World} {fp : List Nat}, holds w fp → ∀ b ∈ fp, b < w.heap.size
def Sep : List Atom → World → List Nat → Prop
  | [], _, fp => fp = []
  | a :: l, w, fp => ∃ f1 f2, fp = f1 ++ f2 ∧ (∀ b ∈ f1, b ∉ f2) ∧ a.holds w f1 ∧ Sep l w f2
abbrev Kap := Os × (Nat → Question → Nat) × Array (Nat × ByteArray)
def kap (w : World) : Kap := (w.os, w.tape, w.output)
/-- L: what is owned, apart from each other and from I; I: what is only read -/
def S (κ : Kap) (L I : List Atom) (w : World) : Prop := kap w = κ ∧ ∃ fp, Sep L w fp ∧ ∀ i ∈ I, ∃ f, i.holds w f ∧ ∀ b ∈ f, b ∉ fp
section
variable {κ : Kap} {L I : List Atom} {w w' : World}
theorem Sep.loc : ∀ {L : List Atom} {w w' : World} {fp : List Nat}, Sep L w fp → (∀ b ∈ fp, w'.heap[b]? = w.heap[b]?) → Sep L w' fp
  | [], _, _, _, h, _ => h
  | a :: l, w, w', fp, ⟨f1, f2, e, hd, h1, h2⟩, hb => by
    subst e
    exact ⟨f1, f2, rfl, hd, a.loc h1 (fun b h => hb b (List.mem_append_left _ h)), h2.loc (fun b h => hb b (List.mem_append_right _ h))⟩
theorem Sep.dom : ∀ {L : List Atom} {w : World} {fp : List Nat}, Sep L w fp → ∀ b ∈ fp, b < w.heap.size
  | [], _, _, h, b, hb => by rw [show _ = [] from h] at hb; cases hb
  | a :: l, w, fp, ⟨f1, f2, e, hd, h1, h2⟩, b, hb => by
    subst e
    rcases List.mem_append.1 hb with h | h
    · exact a.dom h1 b h
    · exact h2.dom b h
theorem Sep.app : ∀ {L M : List Atom} {w : World} {fp : List Nat}, Sep (L ++ M) w fp ↔ ∃ f1 f2, fp = f1 ++ f2 ∧ (∀ b ∈ f1, b ∉ f2) ∧ Sep L w f1 ∧ Sep M w f2
  | [], M, w, fp => ⟨fun h => ⟨[], fp, rfl, fun _ h => (by cases h), rfl, h⟩, fun ⟨f1, f2, e, _, h1, h2⟩ => by
    rw [show f1 = [] from h1, List.nil_append] at e; subst e; exact h2⟩
  | a :: L, M, w, fp => by
    constructor
    · rintro ⟨f1, f2, rfl, hd, h1, h2⟩
      obtain ⟨g1, g2, rfl, hd2, h3, h4⟩ := Sep.app.1 h2
      refine ⟨f1 ++ g1, g2, (List.append_assoc _ _ _).symm, fun b hb => ?_, ⟨f1, g1, rfl, fun b hb hc => hd b hb (List.mem_append_left _ hc), h1, h3⟩, h4⟩
      rcases List.mem_append.1 hb with h | h
      · exact fun hc => hd b h (List.mem_append_right _ hc)
      · exact hd2 b h
    · rintro ⟨f, g2, rfl, hd, ⟨f1, g1, rfl, hd2, h1, h3⟩, h4⟩
      refine ⟨f1, g1 ++ g2, List.append_assoc _ _ _, fun b hb hc => ?_, h1, Sep.app.2 ⟨g1, g2, rfl, fun b hb => hd b (List.mem_append_right _ hb), h3, h4⟩⟩
      rcases List.mem_append.1 hc with h | h
      · exact hd2 b hb h
      · exact hd b (List.mem_append_left _ hb) h
theorem Sep.perm {L M : List Atom} (hp : L.Perm M) : ∀ {w : World} {fp : List Nat}, Sep L w fp → ∃ fq, Sep M w fq ∧ ∀ b, b ∈ fq ↔ b ∈ fp := by
  induction hp with
  | nil => intro w fp h; exact ⟨fp, h, fun _ => Iff.rfl⟩
  | cons a _ ih =>
    rintro w fp ⟨f1, f2, rfl, hd, h1, h2⟩
    obtain ⟨g, hg, hm⟩ := ih h2
    exact ⟨f1 ++ g, ⟨f1, g, rfl, fun b hb hc => hd b hb ((hm b).1 hc), h1, hg⟩, fun b => by simp [hm b]⟩
  | swap a c l =>
    rintro w fp ⟨f1, f2, rfl, hd, h1, g1, g2, rfl, hd2, h3, h4⟩
    refine ⟨g1 ++ (f1 ++ g2), ⟨g1, f1 ++ g2, rfl, fun b hb hc => ?_, h3, f1, g2, rfl, fun b hb hc => hd b hb (List.mem_append_right _ hc), h1, h4⟩, fun b => by
      simp only [List.mem_append]
      constructor
      · rintro (h | h | h)
        · exact .inr (.inl h)
        · exact .inl h
        · exact .inr (.inr h)
      · rintro (h | h | h)
        · exact .inr (.inl h)
        · exact .inl h
        · exact .inr (.inr h)⟩
    rcases List.mem_append.1 hc with h | h
    · exact hd b h (List.mem_append_left _ hb)
    · exact hd2 b hb h
  | trans _ _ i1 i2 =>
    intro w fp h
    obtain ⟨g, hg, hm⟩ := i1 h
    obtain ⟨g2, hg2, hm2⟩ := i2 hg
    exact ⟨g2, hg2, fun b => (hm2 b).trans (hm b)⟩
theorem S.perm {M : List Atom} (h : S κ L I w) (hp : L.Perm M) : S κ M I w := by
  obtain ⟨hk, fp, hs, hi⟩ := h
  obtain ⟨fq, hq, hm⟩ := hs.perm hp
  exact ⟨hk, fq, hq, fun i hin => by
    obtain ⟨f, h1, h2⟩ := hi i hin
    exact ⟨f, h1, fun b hb hc => h2 b hb ((hm b).1 hc)⟩⟩
theorem S.eqv (h : S κ L I w) (hk : kap w' = kap w) (hb : ∀ b, b < w.heap.size → w'.heap[b]? = w.heap[b]?) : S κ L I w' := by
  obtain ⟨hκ, fp, hs, hi⟩ := h
  exact ⟨hk.trans hκ, fp, hs.loc (fun b hm => hb b (hs.dom b hm)), fun i hin => by
    obtain ⟨f, h1, h2⟩ := hi i hin
    exact ⟨f, i.loc h1 (fun b hm => hb b (i.dom h1 b hm)), h2⟩⟩
theorem kap_below {B : Nat} (hb : Below B w w') : kap w' = kap w := by unfold kap; rw [hb.os, hb.tape, hb.output]
theorem S.below (h : S κ L I w) (hb : Below w.heap.size w w') : S κ L I w' := h.eqv (kap_below hb) hb.block
/-- one piece, whatever it is -/
theorem Sep.get : ∀ {L : List Atom} {i : Nat} {a : Atom} {w : World} {fp : List Nat}, Sep L w fp → L[i]? = some a → ∃ f, a.holds w f
  | [], i, a, w, fp, _, hi => by simp at hi
  | c :: l, 0, a, w, fp, ⟨f1, f2, _, _, h1, _⟩, hi => by simp only [List.getElem?_cons_zero, Option.some.injEq] at hi; subst hi; exact ⟨f1, h1⟩
  | c :: l, i + 1, a, w, fp, ⟨f1, f2, _, _, _, h2⟩, hi => Sep.get h2 (by simpa using hi)
theorem S.own {i : Nat} {a : Atom} (h : S κ L I w) (hi : L[i]? = some a) : ∃ f, a.holds w f := h.2.elim fun _ h => h.1.get hi
theorem S.imm {i : Nat} {a : Atom} (h : S κ L I w) (hi : I[i]? = some a) : ∃ f, a.holds w f := by
  obtain ⟨_, fp, _, hI⟩ := h
  obtain ⟨f, h1, _⟩ := hI a (List.mem_of_getElem? hi)
  exact ⟨f, h1⟩
theorem S.drop {a : Atom} (h : S κ (a :: L) I w) : S κ L I w := by
  obtain ⟨hk, fp, ⟨f1, f2, rfl, hd, h1, h2⟩, hi⟩ := h
  exact ⟨hk, f2, h2, fun i hin => by
    obtain ⟨f, h3, h4⟩ := hi i hin
    exact ⟨f, h3, fun b hb hc => h4 b hb (List.mem_append_right _ hc)⟩⟩
theorem S.dropI {a : Atom} (h : S κ L (a :: I) w) : S κ L I w := ⟨h.1, h.2.imp fun fp ⟨h1, h2⟩ => ⟨h1, fun i hi => h2 i (List.mem_cons_of_mem _ hi)⟩⟩
theorem S.subI {J : List Atom} (h : S κ L I w) (hJ : ∀ i ∈ J, i ∈ I) : S κ L J w := ⟨h.1, h.2.imp fun fp ⟨h1, h2⟩ => ⟨h1, fun i hi => h2 i (hJ i hi)⟩⟩
theorem S.freeze {a : Atom} (h : S κ (a :: L) I w) : S κ L (a :: I) w := by
  obtain ⟨hk, fp, ⟨f1, f2, rfl, hd, h1, h2⟩, hi⟩ := h
  refine ⟨hk, f2, h2, fun i hin => ?_⟩
  rcases List.mem_cons.1 hin with rfl | hin
  · exact ⟨f1, h1, hd⟩
  · obtain ⟨f, h3, h4⟩ := hi i hin
    exact ⟨f, h3, fun b hb hc => h4 b hb (List.mem_append_right _ hc)⟩
/-- what is new comes to what is owned, or read -/
theorem S.push {a : Atom} {f : List Nat} (h : S κ L I w) (hb : Below w.heap.size w w') (ha : a.holds w' f) (hf : ∀ b ∈ f, w.heap.size ≤ b) : S κ (a :: L) I w' := by
  obtain ⟨hk, fp, hs, hi⟩ := h
  have hdom := hs.dom
  refine ⟨(kap_below hb).trans hk, f ++ fp, ⟨f, fp, rfl, fun b h1 h2 => ?_, ha, hs.loc (fun b hm => hb.block b (hdom b hm))⟩, fun i hin => ?_⟩
  · have := hf b h1; have := hdom b h2; omega
  · obtain ⟨g, h3, h4⟩ := hi i hin
    refine ⟨g, i.loc h3 (fun b hm => hb.block b (i.dom h3 b hm)), fun b hb2 hc => ?_⟩
    rcases List.mem_append.1 hc with h | h
    · have := hf b h; have := i.dom h3 b hb2; omega
    · exact h4 b hb2 h
theorem S.pushI {a : Atom} {f : List Nat} (h : S κ L I w) (hb : Below w.heap.size w w') (ha : a.holds w' f) (hf : ∀ b ∈ f, w.heap.size ≤ b) : S κ L (a :: I) w' := (h.push hb ha hf).freeze
theorem S.pushIs {M : List Atom} (h : S κ L I w) (hb : Below w.heap.size w w') (ha : ∀ a ∈ M, ∃ f, a.holds w' f ∧ ∀ b ∈ f, w.heap.size ≤ b) : S κ L (M ++ I) w' := by
  obtain ⟨hk, fp, hs, hi⟩ := h
  have hdom := hs.dom
  refine ⟨(kap_below hb).trans hk, fp, hs.loc (fun b hm => hb.block b (hdom b hm)), fun i hin => ?_⟩
  rcases List.mem_append.1 hin with hin | hin
  · obtain ⟨f, h1, h2⟩ := ha i hin
    exact ⟨f, h1, fun b hb1 hb2 => by have := h2 b hb1; have := hdom b hb2; omega⟩
  · obtain ⟨f, h1, h2⟩ := hi i hin
    exact ⟨f, i.loc h1 (fun b hm => hb.block b (i.dom h1 b hm)), h2⟩
/-- the first piece turns -/
theorem S.turn {a : Atom} (h : S κ (a :: L) I w) : ∃ f, a.holds w f ∧ ∀ (a' : Atom) (w' : World) (f' : List Nat), a'.holds w' f' → kap w' = kap w → w.heap.size ≤ w'.heap.size → (∀ b ∈ f', b ∈ f ∨ w.heap.size ≤ b) → (∀ b, b < w.heap.size → b ∉ f → w'.heap[b]? = w.heap[b]?) → S κ (a' :: L) I w' := by
  obtain ⟨hk, fp, ⟨f1, f2, rfl, hd, h1, h2⟩, hi⟩ := h
  refine ⟨f1, h1, fun a' w' f' ha hk' hsz hf hb => ⟨hk'.trans hk, f' ++ f2, ⟨f', f2, rfl, fun b h3 h4 => ?_, ha, h2.loc (fun b hm => hb b (h2.dom b hm) (fun hc => hd b hc hm))⟩, fun i hin => ?_⟩⟩
  · rcases hf b h3 with h | h
    · exact hd b h h4
    · have := h2.dom b h4; omega
  · obtain ⟨g, h3, h4⟩ := hi i hin
    refine ⟨g, i.loc h3 (fun b hm => hb b (i.dom h3 b hm) (fun hc => h4 b hm (List.mem_append_left _ hc))), fun b hb2 hc => ?_⟩
    rcases List.mem_append.1 hc with h | h
    · rcases hf b h with h5 | h5
      · exact h4 b hb2 (List.mem_append_left _ h5)
      · have := i.dom h3 b hb2; omega
    · exact h4 b hb2 (List.mem_append_right _ h)
/-- the piece i turns -/
theorem perm_front {α : Type} {l : List α} {i : Nat} {a : α} (h : l[i]? = some a) : l.Perm (a :: l.eraseIdx i) := by
  induction l generalizing i with
  | nil => simp at h
  | cons c l ih =>
    cases i with
    | zero => simp only [List.getElem?_cons_zero, Option.some.injEq] at h; subst h; simp
    | succ i =>
      have := ih (i := i) (by simpa using h)
      rw [List.eraseIdx_cons_succ]
      exact (List.Perm.cons c this).trans (List.Perm.swap _ _ _)
theorem perm_set {α : Type} {l : List α} {i : Nat} {a c : α} (h : l[i]? = some a) : (c :: l.eraseIdx i).Perm (l.set i c) := by
  induction l generalizing i with
  | nil => simp at h
  | cons d l ih =>
    cases i with
    | zero => simp
    | succ i =>
      have := ih (i := i) (by simpa using h)
      rw [List.eraseIdx_cons_succ, List.set_cons_succ]
      exact (List.Perm.swap _ _ _).trans (List.Perm.cons d this)
theorem S.front {i : Nat} {a : Atom} (h : S κ L I w) (hi : L[i]? = some a) : S κ (a :: L.eraseIdx i) I w := h.perm (perm_front hi)
theorem S.back {i : Nat} {a c : Atom} (h : S κ (c :: L.eraseIdx i) I w) (hi : L[i]? = some a) : S κ (L.set i c) I w := h.perm (perm_set hi)
theorem S.imp {a c : Atom} (h : S κ (a :: L) I w) (hc : ∀ w f, a.holds w f → c.holds w f) : S κ (c :: L) I w := by
  obtain ⟨hk, fp, ⟨f1, f2, e, hd, h1, h2⟩, hi⟩ := h
  exact ⟨hk, fp, ⟨f1, f2, e, hd, hc _ _ h1, h2⟩, hi⟩
/-! ### pieces -/
def blkA (g : Nat) (t : TypeId) (cs : Array Value) : Atom where
  holds w fp := fp = [g] ∧ Blk w g t cs
  loc := fun ⟨h1, h2⟩ hb => ⟨h1, (hb _ (by rw [h1]; simp)).trans h2⟩
  dom := fun ⟨h1, h2⟩ b hb => by rw [h1] at hb; simp at hb; subst hb; exact h2.lt
/-- a slice that owns its row -/
def rowA (v : Value) (e size n : Nat) (xs : List Value) : Atom where
  holds w fp := fp = v.ownBlock.toList ∧ w.ownsRow 0 e size v n xs
  loc := fun ⟨h1, ho⟩ hb => ⟨h1, ho.1, by
    rcases ho.2 with h0 | ⟨g, cap, cur, rfl, h3, hh, r⟩
    · exact .inl h0
    · exact .inr ⟨g, cap, cur, rfl, h3, (hb g (by rw [h1]; simp [Value.ownBlock])).trans hh, r⟩⟩
  dom := fun ⟨h1, h2⟩ b hb => by
    rw [h1] at hb
    exact own_lt h2 (by simpa using hb)
/-- all that was there at W, below B -/
def memA (W : World) (B : Nat) : Atom where
  holds w fp := fp = List.range B ∧ B ≤ w.heap.size ∧ ∀ b, b < B → w.heap[b]? = W.heap[b]?
  loc := fun {w w' fp} ⟨h1, h2, h3⟩ hb => ⟨h1, by
    rcases Nat.lt_or_ge w'.heap.size B with hlt | hge
    · have hk := hb w'.heap.size (by rw [h1]; exact List.mem_range.2 hlt)
      rw [Array.getElem?_eq_none (Nat.le_refl _), Array.getElem?_eq_getElem (by omega)] at hk
      cases hk
    · exact hge, fun b hlt => (hb b (by rw [h1]; exact List.mem_range.2 hlt)).trans (h3 b hlt)⟩
  dom := fun ⟨h1, h2, _⟩ b hb => by rw [h1] at hb; have := List.mem_range.1 hb; omega
def exA {α : Type} (f : α → Atom) : Atom where
  holds w fp := ∃ x, (f x).holds w fp
  loc := fun ⟨x, h⟩ hb => ⟨x, (f x).loc h hb⟩
  dom := fun ⟨x, h⟩ b hb => (f x).dom h b hb
def sepA (l : List Atom) : Atom where
  holds w fp := Sep l w fp
  loc := fun h hb => Sep.loc h hb
  dom := fun h b hb => Sep.dom h b hb
def pureA (p : Prop) (a : Atom) : Atom where
  holds w fp := p ∧ a.holds w fp
  loc := fun ⟨h1, h2⟩ hb => ⟨h1, a.loc h2 hb⟩
  dom := fun ⟨_, h2⟩ b hb => a.dom h2 b hb
theorem S.ex_open {α : Type} {f : α → Atom} (h : S κ (exA f :: L) I w) : ∃ x, S κ (f x :: L) I w := by
  obtain ⟨hk, fp, ⟨f1, f2, e, hd, ⟨x, h1⟩, h2⟩, hi⟩ := h
  exact ⟨x, hk, fp, ⟨f1, f2, e, hd, h1, h2⟩, hi⟩
theorem S.ex_close {α : Type} {f : α → Atom} (x : α) (h : S κ (f x :: L) I w) : S κ (exA f :: L) I w := h.imp fun _ _ h => ⟨x, h⟩
theorem S.pure_open {p : Prop} {a : Atom} (h : S κ (pureA p a :: L) I w) : p ∧ S κ (a :: L) I w := by
  obtain ⟨f, hf⟩ := h.own (i := 0) rfl
  exact ⟨hf.1, h.imp fun _ _ h => h.2⟩
theorem S.pure_close {p : Prop} {a : Atom} (hp : p) (h : S κ (a :: L) I w) : S κ (pureA p a :: L) I w := h.imp fun _ _ h => ⟨hp, h⟩
theorem S.sep_open {l : List Atom} (h : S κ (sepA l :: L) I w) : S κ (l ++ L) I w := by
  obtain ⟨hk, fp, ⟨f1, f2, e, hd, h1, h2⟩, hi⟩ := h
  exact ⟨hk, fp, Sep.app.2 ⟨f1, f2, e, hd, h1, h2⟩, hi⟩
theorem S.sep_close {l : List Atom} (h : S κ (l ++ L) I w) : S κ (sepA l :: L) I w := by
  obtain ⟨hk, fp, hs, hi⟩ := h
  obtain ⟨f1, f2, e, hd, h1, h2⟩ := Sep.app.1 hs
  exact ⟨hk, fp, ⟨f1, f2, e, hd, h1, h2⟩, hi⟩
/-! ### what is read -/
theorem S.blk {i g t : Nat} {cs : Array Value} (h : S κ L I w) (hi : L[i]? = some (blkA g t cs)) : Blk w g t cs := (h.own hi).elim fun _ h => h.2
theorem S.blkI {i g t : Nat} {cs : Array Value} (h : S κ L I w) (hi : I[i]? = some (blkA g t cs)) : Blk w g t cs := (h.imm hi).elim fun _ h => h.2
theorem S.row {i e size n : Nat} {v : Value} {xs : List Value} (h : S κ L I w) (hi : L[i]? = some (rowA v e size n xs)) : w.ownsRow 0 e size v n xs := (h.own hi).elim fun _ h => h.2
theorem S.rowI {i e size n : Nat} {v : Value} {xs : List Value} (h : S κ L I w) (hi : I[i]? = some (rowA v e size n xs)) : w.ownsRow 0 e size v n xs := (h.imm hi).elim fun _ h => h.2
theorem S.old {W : World} (h : S (kap W) L I w) (hm : memA W W.heap.size ∈ I) : Below W.heap.size W w := by
  obtain ⟨hk, fp, _, hI⟩ := h
  obtain ⟨f, ⟨_, h2, h3⟩, _⟩ := hI _ hm
  have hk : (w.os, w.tape, w.output) = (W.os, W.tape, W.output) := hk
  simp only [Prod.mk.injEq] at hk
  exact ⟨hk.1, hk.2.1, hk.2.2, h2, h3⟩
theorem S.start (W : World) : S (kap W) [] [memA W W.heap.size] W :=
  ⟨rfl, [], rfl, fun i hi => by simp at hi; subst hi; exact ⟨_, ⟨rfl, Nat.le_refl _, fun _ _ => rfl⟩, fun _ _ h => by cases h⟩⟩
end
/-! ### steps -/
section
variable {P : Program} {ops : Array Oper} {Q : Exit → Act → World → Prop} {o : Oper} {a : Act} {w : World} {K : Act → World → Prop} {E : Prop} {v : Value} {κ : Kap} {L I : List Atom}
theorem st_alloc {t : TypeId} {cells : Array Value} (hS : S κ L I w) (hw : Region.wanted o (yielded ops a.tmps) = true) (ho : o.op = .alloc t) (hz : zeroCells P t = some cells)
    (h : ∀ g w', S κ (blkA g t cells :: L) I w' → Below w.heap.size w w' → K (a.put o.dst (.pointer (some ⟨g, 0, none⟩))) w') : if Region.wanted o (yielded ops a.tmps) = true then o.wp P a w K Q else E :=
  step_ok hw (run_alloc ho hz) (h _ _ (hS.push (below_new w _) ⟨rfl, Blk.new w t cells⟩ (by simp)) (below_new w _))
theorem st_box {t : TypeId} {x : Operand} {cells : Array Value} {u : Value} (hS : S κ L I w) (hw : Region.wanted o (yielded ops a.tmps) = true) (ho : o.op = .box t x) (hx : a.eval x = u) (hc : u.cells = cells)
    (h : ∀ g w', S κ (blkA g t cells :: L) I w' → Below w.heap.size w w' → K (a.put o.dst (.pointer (some ⟨g, 0, none⟩))) w') : if Region.wanted o (yielded ops a.tmps) = true then o.wp P a w K Q else E :=
  step_ok hw (run_box ho hx hc) (h _ _ (hS.push (below_new w _) ⟨rfl, Blk.new w t cells⟩ (by simp)) (below_new w _))
theorem setRow_size (w : World) (g : Nat) (cs : Array Value) : (w.setRow g cs).heap.size = w.heap.size := by simp [World.setRow]
theorem kap_setRow (w : World) (g : Nat) (cs : Array Value) : kap (w.setRow g cs) = kap w := rfl
theorem S.store {g T : Nat} {cs : Array Value} (i : Nat) (cs' : Array Value) (hS : S κ L I w) (hi : L[i]? = some (blkA g T cs)) : S κ (L.set i (blkA g T cs')) I (w.setRow g cs') := by
  refine S.back ?_ hi
  obtain ⟨f, ⟨hf, hb⟩, h⟩ := (hS.front hi).turn
  refine h _ _ [g] ⟨rfl, setRow_heap w g cs cs' T (0, 0) hb⟩ (kap_setRow _ _ _) (by rw [setRow_size]; exact Nat.le_refl _) (fun b hb => .inl (by rw [hf]; exact hb)) (fun b hlt hn => ?_)
  exact setRow_other w g b cs' (fun e => hn (by rw [hf, e]; simp))
theorem st_store {x y : Operand} {t g k n T : Nat} {cs cells cs' : Array Value} {u : Value} (i : Nat) (hS : S κ L I w) (hi : L[i]? = some (blkA g T cs)) (hw : Region.wanted o (yielded ops a.tmps) = true) (ho : o.op = .store t x y) (hx : a.eval x = .pointer (some ⟨g, k, none⟩)) (hy : a.eval y = u) (hv : u.cells = cells)
    (hsz : (P.info? t).map (·.size) = some n) (hs : k + n ≤ cs.size ∧ cells.size = n ∧ cells.all (·.oneCell') = true) (hc : (layL cs.toList k cells.toList).toArray = cs')
    (h : ∀ w', S κ (L.set i (blkA g T cs')) I w' → w' = w.setRow g cs' → K (a.put o.dst undef) w') : if Region.wanted o (yielded ops a.tmps) = true then o.wp P a w K Q else E :=
  step_skip hw (run_store ho hx hy hv (hS.blk hi) hsz hs hc) (h _ (hS.store i cs' hi) rfl)
/-- a call whose contract speaks of pieces -/
theorem st_call {f : FuncId} {args : Array Value} {R : Ending → World → Prop} (hw : Region.wanted o (yielded ops a.tmps) = true) (hrun : (execOp a.eval o).run P w = .ok (.enter f args) w) (h : Calls P f args w R) (hR : ∀ e w', R e w' → ∃ v, e = .returned v ∧ K (a.put o.dst v) w') : if Region.wanted o (yielded ops a.tmps) = true then o.wp P a w K Q else E := step_call hw hrun h hR
theorem S.append {e size n m : Nat} {v v' : Value} {xs ys : List Value} {w' : World} (i : Nat) (hS : S κ L I w) (hi : L[i]? = some (rowA v e size n xs)) (ho : w'.ownsRow 0 e size v' m ys) (hg : w.grownBy w' v.ownBlock) (hv : v'.ownBlock = v.ownBlock ∨ v'.ownBlock = some w.heap.size) : S κ (L.set i (rowA v' e size m ys)) I w' := by
  refine S.back ?_ hi
  obtain ⟨f, ⟨hf, hb⟩, h⟩ := (hS.front hi).turn
  refine h _ _ _ ⟨rfl, ho⟩ (by unfold kap; rw [hg.os, hg.tape, hg.output]) hg.size (fun b hb => ?_) (fun b hlt hn => hg.block b hlt (fun e => hn (by rw [hf, ← e]; simp)))
  rcases hv with h1 | h1
  · left; rw [hf, ← h1]; exact hb
  · right; rw [h1] at hb; simp at hb; omega
theorem st_append {B : Nat} {A : Option Addr} (s x : Operand) (t : TypeId) (i e size bytes : Nat) (hS : S κ L I w) (hw : Region.wanted o (yielded ops a.tmps) = true) (ho : o.op = .call { callee := .builtin .append, args := #[s, x], argTypes := #[t, t] }) (hT : rowTy P t e size bytes = true)
    (n : Nat) (xs : List Value) (hs : a.eval s = v) (hi : L[i]? = some (rowA v e size n xs)) (m c : Nat) (news : List Value) (hx : a.eval x = .slice A m c) (hr : Reads w B size A m news) (h1 : ∀ u ∈ news, u.oneCell' = true)
    (h63 : n + m ≤ maxLen) (hbytes : (n + m) * bytes ≤ 140737488355328)
    (h : ∀ A' c' w', S κ (L.set i (rowA (.slice A' (n + m) c') e size (n + m) (xs ++ news))) I w' → K (a.put o.dst (.slice A' (n + m) c')) w') :
    if Region.wanted o (yielded ops a.tmps) = true then o.wp P a w K Q else E := by
  unfold rowTy at hT
  split at hT
  · rename_i e' ti hu hti
    simp only [Bool.and_eq_true, beq_iff_eq, decide_eq_true_eq] at hT
    obtain ⟨⟨⟨⟨rfl, h2⟩, h3⟩, h4⟩, h5⟩ := hT
    cases hz : ti.zero with
    | none => rw [hz] at h5; cases h5
    | some z =>
      rw [hz] at h5
      obtain ⟨v', w', hrun, g2, g3, g5⟩ := run_append_any (P := P) w 0 t o.type e' ti z size bytes hu hti hz h2 h3 (by simpa using h5) h4 v n xs (hS.row hi) B A m c news hr h1 h63 hbytes (Nat.zero_le _)
      obtain ⟨A', c', rfl⟩ := own_form g2
      refine step_ok (w' := w') (v := .slice A' (n + m) c') hw ?_ (h A' c' w' (hS.append i hi g2 g3 g5))
      unfold execOp
      simp only [ho, resolve, invoke, builtin, Sem.run_bind, Sem.run_pure, Result.andThen_ok, List.map_toArray, List.map_cons, List.map_nil, hs, hx, hrun]
  · cases hT
end
/-! ### elements of a slice that is only read -/
section
variable {P : Program} {o : Oper} {a : Act} {w : World}
theorem run_indexV {x y : Operand} {t : TypeId} {A : Option Addr} {b off n c size m : Nat} {i : Int} (ho : o.op = .indexAddr t x y) (hx : a.eval x = .slice A n c) (hA : A = some ⟨b, off, none⟩) (hy : a.eval y = .int .i64 i) (ht : sliceB P t size = true) (hi : 0 ≤ i ∧ i < n) (hm : off + i.toNat * size = m) : (execOp a.eval o).run P w = .ok (.value (.pointer (some ⟨b, m, none⟩))) w :=
  run_indexS ho (hx.trans (by rw [hA])) hy ht hi hm
theorem run_loadV {x : Operand} {t b m size : Nat} {cs : List Value} (ho : o.op = .load t x) (hx : a.eval x = .pointer (some ⟨b, m, none⟩)) (hT : structB P t size = true) (hn : cs.length = size) (hc : ∀ j u, cs[j]? = some u → w.cell? ⟨b, m + j, none⟩ = some u) : (execOp a.eval o).run P w = .ok (.value (.agg cs.toArray)) w := by
  have hl := run_loadVarS (P := P) (w := w) t size ⟨b, m, none⟩ cs hT hn (fun j v hj => by rw [cell_add]; exact hc j v hj)
  unfold execOp; simp only [ho]; rw [hx]
  simp [Instr.loadAt, Instr.sureAddr, hl]
end
theorem off_undef {ops : Array Oper} {o : Oper} {a : Act} {j d : Nat} {b : Bool} (hg : o.guard = some (j, b)) (hd : (ops[j]?).bind (·.dst) = some d) (h : a.tmps.getD d undef = undef) : Region.wanted o (yielded ops a.tmps) = false := by
  rw [Array.getD_eq_getD_getElem?] at h
  cases hx : a.tmps[d]? with
  | none => simp only [Region.wanted, hg, yielded, hd, Option.bind_some, hx]; rfl
  | some u =>
    rw [hx] at h
    have h : u = undef := h
    subst h
    simp only [Region.wanted, hg, yielded, hd, Option.bind_some, hx]; rfl
theorem ndt {p : Prop} [Decidable p] (h : (!(decide p)) = true) : ¬ p := by simpa using h
theorem ndf {p : Prop} [Decidable p] (h : (!(decide p)) = false) : p := by simpa using h
theorem nbt {b : Bool} (h : (!b) = true) : b = false := by simpa using h
theorem nbf {b : Bool} (h : (!b) = false) : b = true := by simpa using h
theorem neq_dec (a b : Int) : (a != b) = decide (a ≠ b) := by by_cases h : a = b <;> simp [h]
theorem eq_dec (a b : Int) : (a == b) = decide (a = b) := by by_cases h : a = b <;> simp [h]
/-! ### short forms for the printed walks -/
section
variable {P : Program} {ops : Array Oper} {Q : Exit → Act → World → Prop} {o : Oper} {a : Act} {w : World} {K : Act → World → Prop} {E : Prop} {v : Value} {κ : Kap} {L I : List Atom}
theorem ld {x : Operand} {t g k T : Nat} {cs : Array Value} (hS : S κ L I w) (i : Nat) (ho : o.op = .load t x) (hx : a.eval x = .pointer (some ⟨g, k, none⟩)) (hi : L[i]? = some (blkA g T cs) := by rfl) (hv : cs[k]? = some v := by rfl) (hf : cellTy P t = true := by kernel_rfl) : (execOp a.eval o).run P w = .ok (.value v) w := run_load ho hx hf ((hS.blk hi).cell k |>.trans hv)
theorem ldI {x : Operand} {t g k T : Nat} {cs : Array Value} (hS : S κ L I w) (i : Nat) (ho : o.op = .load t x) (hx : a.eval x = .pointer (some ⟨g, k, none⟩)) (hi : I[i]? = some (blkA g T cs) := by rfl) (hv : cs[k]? = some v := by rfl) (hf : cellTy P t = true := by kernel_rfl) : (execOp a.eval o).run P w = .ok (.value v) w := run_load ho hx hf ((hS.blkI hi).cell k |>.trans hv)
theorem lb {x : Operand} {t g k T : Nat} {cs : Array Value} (hK : Blk w g T cs) (ho : o.op = .load t x) (hx : a.eval x = .pointer (some ⟨g, k, none⟩)) (hv : cs[k]? = some v := by rfl) (hf : cellTy P t = true := by kernel_rfl) : (execOp a.eval o).run P w = .ok (.value v) w := run_load ho hx hf ((hK.cell k).trans hv)
theorem lbS {x : Operand} {t g k T : Nat} {cs : Array Value} {out : List Value} (n : Nat) (hg : Blk w g T cs) (ho : o.op = .load t x) (hx : a.eval x = .pointer (some ⟨g, k, none⟩)) (hcut : (cs.toList.drop k).take n = out := by rfl) (hn : out.length = n := by rfl) (hT : structB P t n = true := by kernel_rfl) : (execOp a.eval o).run P w = .ok (.value (.agg out.toArray)) w := run_loadS ho hx hT hg hcut hn
theorem fa {x : Operand} {t g k f n : Nat} (m : Nat) (ho : o.op = .fieldAddr t x f) (hx : a.eval x = .pointer (some ⟨g, k, none⟩)) (hf : fieldOff P t f = some m := by kernel_rfl) (hn : k + m = n := by rfl) : (execOp a.eval o).run P w = .ok (.value (.pointer (some ⟨g, n, none⟩))) w := run_fieldAddr ho hx hf hn
theorem sb {t : TypeId} {x : Operand} {cells : Array Value} {u : Value} (hS : S κ L I w) (ho : o.op = .box t x) (hx : a.eval x = u)
    (h : ∀ g w', S κ (blkA g t cells :: L) I w' → Below w.heap.size w w' → K (a.put o.dst (pt g 0)) w') (hc : u.cells = cells := by rfl) (hw : o.guard = none := by rfl) : if Region.wanted o (yielded ops a.tmps) = true then o.wp P a w K Q else E := st_box hS (on_none hw) ho hx hc h
end
section
variable {P : Program} {ops : Array Oper} {Q : Exit → Act → World → Prop} {o : Oper} {a : Act} {w : World} {v : Value}
theorem rmv {d : Nat} (hx : a.tmps.getD d undef = v) (ho : o.op = .move (.tmp d) := by rfl) (hg : o.guard = none := by rfl) : if Region.wanted o (yielded ops a.tmps) = true then o.wp P a w (fun a' w' => a' = a.put o.dst v ∧ w' = w) Q else v = undef := rk (run_move ho hx) hg
theorem ras {d : Nat} (hx : a.tmps.getD d undef = v) (ho : o.op = .assign (.tmp d) := by rfl) (hg : o.guard = none := by rfl) : if Region.wanted o (yielded ops a.tmps) = true then o.wp P a w (fun a' w' => a' = a.put o.dst v ∧ w' = w) Q else v = undef := rk (run_assign ho hx) hg
end
/-- a function's walk begins -/
theorem calls_walk {P : Program} {f : FuncId} {fn : Func} {c : Code} {args : Array Value} {W : World} {R0 : Ending → World → Prop} (hf : P.funcs[f]? = some fn) (hb : fn.body = some c)
    (h : ∀ (R : Ending → World → Prop), (∀ v w, R0 (.returned v) w → R (.returned v) w) → ∀ a : Act, a.tmps.size = args.size + (fn.ntmps - args.size) → a.defers = [] → (∀ i v, args[i]? = some v → a.tmps.getD i undef = v) → c.wp P (bodyPost P fn R) a W) : Calls P f args W R0 := by
  refine calls_of_wp hf hb (h R0 (fun _ _ h => h) _ (by simp) rfl fun i v hi => ?_)
  have hlt := (Array.getElem?_eq_some_iff.1 hi).1
  rw [Array.getD_eq_getD_getElem?, Array.getElem?_append_left hlt, hi]; rfl
section
variable {P : Program} {fn : Func} {R : Ending → World → Prop} {a : Act} {w : World} {u v : Value} {t t2 : Nat}
theorem ret0 (hd : a.defers = []) (h : R (.returned (.tuple #[])) w) (hr : fn.results = #[] := by kernel_rfl) : bodyPost P fn R .ret a w := bodyPost_ret (results_none hr _ _ _) hd h
theorem ret1 (hd : a.defers = []) (s : a.tmps.getD t undef = v) (h : R (.returned v) w) (hr : fn.results = #[.tmp t] := by kernel_rfl) : bodyPost P fn R .ret a w := bodyPost_ret (by rw [results_tmp hr, s]) hd h
theorem ret2 (hd : a.defers = []) (s : a.tmps.getD t undef = v) (s2 : a.tmps.getD t2 undef = u) (h : R (.returned (.tuple #[v, u])) w) (hr : fn.results = #[.tmp t, .tmp t2] := by kernel_rfl) : bodyPost P fn R .ret a w := bodyPost_ret (by rw [results_tmp2 hr, s, s2]) hd h
theorem retC {g T ty : Nat} {cs : Array Value} {d : TypeDesc} (hd : a.defers = []) (s : a.tmps.getD t undef = pt g 0) (hg : Blk w g T cs) (h : R (.returned (.agg cs)) w) (hu : P.underlying ty = some d) (hr : fn.results = #[.cell t ty] := by kernel_rfl) (hk : (match d with | .struct _ | .array _ _ => true | _ => false) = true := by rfl) (hi : (P.info? ty).map (·.size) = some cs.size := by kernel_rfl) : bodyPost P fn R .ret a w := bodyPost_ret (results_cell_row hr _ _ _ _ _ _ _ s hg hu hk hi) hd h
theorem retCT {g T ty : Nat} {cs : Array Value} {d : TypeDesc} (hd : a.defers = []) (s : a.tmps.getD t undef = pt g 0) (s2 : a.tmps.getD t2 undef = u) (hg : Blk w g T cs) (h : R (.returned (.tuple #[.agg cs, u])) w) (hu : P.underlying ty = some d) (hr : fn.results = #[.cell t ty, .tmp t2] := by kernel_rfl) (hk : (match d with | .struct _ | .array _ _ => true | _ => false) = true := by rfl) (hi : (P.info? ty).map (·.size) = some cs.size := by kernel_rfl) : bodyPost P fn R .ret a w := bodyPost_ret ((results_row_tmp hr _ _ _ _ _ _ s hg hu hk hi).trans (by rw [s2])) hd h
end
/-! ### a cut -/
theorem wp_seq_cut {P : Program} {x y : Code} {Q : Exit → Act → World → Prop} {a : Act} {w : World} (M : Act → World → Prop) (h : x.wp P (Exit.then M Q) a w) (h2 : ∀ a w, M a w → y.wp P Q a w) : (Code.seq x y).wp P Q a w :=
  wp_seq (Code.wp_mono (fun e a w q => by cases e <;> first | exact h2 _ _ q | exact q) h)
theorem run_pick_and {P : Program} {o : Oper} {a : Act} {w : World} {c x y : Operand} {b d : Bool} (ho : o.op = .pick c x y) (hc : a.eval c = .bool b) (hx : a.eval x = .bool d) (hy : a.eval y = .bool false) : (execOp a.eval o).run P w = .ok (.value (.bool (b && d))) w := by
  cases b
  · exact run_pick_f ho hc hy
  · exact (run_pick_t ho hc hx).trans (by simp)
theorem run_pick_or {P : Program} {o : Oper} {a : Act} {w : World} {c x y : Operand} {b d : Bool} (ho : o.op = .pick c x y) (hc : a.eval c = .bool b) (hx : a.eval x = .bool true) (hy : a.eval y = .bool d) : (execOp a.eval o).run P w = .ok (.value (.bool (b || d))) w := by
  cases b
  · exact (run_pick_f ho hc hy).trans (by simp)
  · exact run_pick_t ho hc hx
theorem run_bin2 {P : Program} {o : Oper} {a : Act} {w : World} {x y : Operand} {t t' : TypeId} {op : BinOp} {u u' r : Value} (ho : o.op = .binOp op t x y t') (hx : a.eval x = u) (hy : a.eval y = u') (hg : ∀ w, (eqGuard op t x y u u').run P w = .ok () w) (hr : ∀ w, (binOp op t u u').run P w = .ok r w) : (execOp a.eval o).run P w = .ok (.value r) w := by
  unfold execOp; simp only [ho]; rw [hx, hy]
  simp [Sem.run_bind, hg, hr]
theorem bp1 {a : Act} {i : Nat} {x : Operand} {u : Value} (hx : a.eval x = u) : ((#[(i, x)] : Array (Nat × Operand)).map fun (i, x) => (i, a.eval x)) = #[(i, u)] := by simp [hx]
theorem bp2 {a : Act} {i j : Nat} {x y : Operand} {u v : Value} (hx : a.eval x = u) (hy : a.eval y = v) : ((#[(i, x), (j, y)] : Array (Nat × Operand)).map fun (i, x) => (i, a.eval x)) = #[(i, u), (j, v)] := by simp [hx, hy]
theorem bp3 {a : Act} {i j k : Nat} {x y z : Operand} {u v t : Value} (hx : a.eval x = u) (hy : a.eval y = v) (hz : a.eval z = t) : ((#[(i, x), (j, y), (k, z)] : Array (Nat × Operand)).map fun (i, x) => (i, a.eval x)) = #[(i, u), (j, v), (k, t)] := by simp [hx, hy, hz]
theorem bp4 {a : Act} {i j k l : Nat} {x y z s : Operand} {u v t r : Value} (hx : a.eval x = u) (hy : a.eval y = v) (hz : a.eval z = t) (hs : a.eval s = r) : ((#[(i, x), (j, y), (k, z), (l, s)] : Array (Nat × Operand)).map fun (i, x) => (i, a.eval x)) = #[(i, u), (j, v), (k, t), (l, r)] := by simp [hx, hy, hz, hs]
theorem bp5 {a : Act} {i j k l m : Nat} {x y z s q : Operand} {u v t r p : Value} (hx : a.eval x = u) (hy : a.eval y = v) (hz : a.eval z = t) (hs : a.eval s = r) (hq : a.eval q = p) : ((#[(i, x), (j, y), (k, z), (l, s), (m, q)] : Array (Nat × Operand)).map fun (i, x) => (i, a.eval x)) = #[(i, u), (j, v), (k, t), (l, r), (m, p)] := by simp [hx, hy, hz, hs, hq]
end Go.Proofs.Ytdenfgnkbfbpmaa
