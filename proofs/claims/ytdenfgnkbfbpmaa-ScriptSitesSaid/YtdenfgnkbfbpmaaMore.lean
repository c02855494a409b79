/-
  More small lemmas that every text of this seat uses: owned rows, frames, rows of structs that came in, cells of a block written one behind the other. No statement is proved here.
-/
import Derived.Test.YtdenfgnkbfbpmaaData
import Derived.Test.YtdenfgnkbfbpmaaKeeps
import Derived.Lib.SliceRun
import Derived.Laws.ResultCell
import Derived.Laws.IdiomCopy
import Derived.Deep.RegionLaw
import Derived.Deep.RegionHeld3
import Derived.StillTailTactics
import Derived.Deep.Slices
namespace Go.Proofs.Ytdenfgnkbfbpmaa
open Go.RowKit Go.ChangeShapes Go.WideShapes

def u8s (bs : List Int) : List Value := bs.map fun b => .int .u8 b
theorem u8s_length (bs : List Int) : (u8s bs).length = bs.length := by simp [u8s]
theorem u8s_one (bs : List Int) : ∀ u ∈ u8s bs, u.oneCell' = true := by
  intro u hu
  obtain ⟨b, _, rfl⟩ := List.mem_map.1 hu
  rfl
def ints (zs : List Int) : List Value := zs.map fun z => .int .i64 z
theorem ints_length (zs : List Int) : (ints zs).length = zs.length := by simp [ints]
theorem ints_append (a b : List Int) : ints (a ++ b) = ints a ++ ints b := by simp [ints]
theorem take_snoc {α : Type} (l : List α) (k : Nat) (x : α) (h : l[k]? = some x) : l.take (k + 1) = l.take k ++ [x] := by
  rw [List.take_add_one, h]; rfl
theorem Reads.int_at {w : World} {B n k : Nat} {A : Option Addr} {zs : List Int} (h : Reads w B 1 A n (ints zs)) (hk : k < n) : ∃ b off z, A = some ⟨b, off, none⟩ ∧ b < B ∧ zs[k]? = some z ∧ w.cell? ⟨b, off + k, none⟩ = some (.int .i64 z) := by
  obtain ⟨b, off, u, e, hb, hu, hc⟩ := h.at_ hk
  rw [ints, List.getElem?_map] at hu
  obtain ⟨z, hz, rfl⟩ := Option.map_eq_some_iff.1 hu
  exact ⟨b, off, z, e, hb, hz, hc⟩
theorem Reads.byte_at {w : World} {B n k : Nat} {A : Option Addr} {zs : List Int} (h : Reads w B 1 A n (u8s zs)) (hk : k < n) : ∃ b off z, A = some ⟨b, off, none⟩ ∧ b < B ∧ zs[k]? = some z ∧ w.cell? ⟨b, off + k, none⟩ = some (.int .u8 z) := by
  obtain ⟨b, off, u, e, hb, hu, hc⟩ := h.at_ hk
  rw [u8s, List.getElem?_map] at hu
  obtain ⟨z, hz, rfl⟩ := Option.map_eq_some_iff.1 hu
  exact ⟨b, off, z, e, hb, hz, hc⟩
theorem Reads.nil_none {w : World} {B n : Nat} {A : Option Addr} {xs : List Value} (h : Reads w B 1 A n xs) (hA : A = none) : n = 0 := by
  rcases Nat.eq_zero_or_pos n with h0 | h0
  · exact h0
  · obtain ⟨_, _, e', _⟩ := h.2 h0
    rw [hA] at e'
    cases e'

theorem own_base {w : World} {base : Nat} {e : TypeId} {size n : Nat} {v : Value} {xs : List Value} (h : w.ownsRow base e size v n xs) {g : Nat} (hg : v.ownBlock = some g) : base ≤ g ∧ g < w.heap.size := by
  rcases h.2 with ⟨rfl, _⟩ | ⟨g', cap, cur, rfl, hb, hh, _⟩
  · simp [Value.ownBlock] at hg
  · have : g' = g := by simpa [Value.ownBlock] using hg
    subst this
    exact ⟨hb, (Array.getElem?_eq_some_iff.1 hh).1⟩
theorem own_mono {w : World} {base base' : Nat} {e : TypeId} {size n : Nat} {v : Value} {xs : List Value} (h : w.ownsRow base e size v n xs) (hb : base' ≤ base) : w.ownsRow base' e size v n xs := by
  refine ⟨h.1, ?_⟩
  rcases h.2 with h0 | ⟨g, cap, cur, rfl, hg, r⟩
  · exact .inl h0
  · exact .inr ⟨g, cap, cur, rfl, Nat.le_trans hb hg, r⟩
theorem own_types {w : World} {base base' : Nat} {e e' : TypeId} {size size' n n' : Nat} {v v' : Value} {xs xs' : List Value} (h : w.ownsRow base e size v n xs) (h' : w.ownsRow base' e' size' v' n' xs') (hne : e ≠ e') : v.ownBlock = none ∨ v.ownBlock ≠ v'.ownBlock := by
  rcases h.2 with ⟨rfl, _⟩ | ⟨g, cap, cur, rfl, _, hh, _⟩
  · exact .inl rfl
  · rcases h'.2 with ⟨rfl, _⟩ | ⟨g', cap', cur', rfl, _, hh', _⟩
    · exact .inr (by simp [Value.ownBlock])
    · refine .inr (fun e0 => ?_)
      have : g = g' := by simpa [Value.ownBlock] using e0
      subst this
      rw [hh] at hh'
      injection hh' with hh'
      injection hh' with _ ht
      exact hne ht
theorem own_spare {w : World} {base : Nat} {e : TypeId} {size n c : Nat} {A : Option Addr} {xs : List Value} (h : w.ownsRow base e size (.slice A n c) n xs) (hn : 0 < n) : ∃ g, A = some ⟨g, 0, none⟩ ∧ base ≤ g ∧ g < w.heap.size := by
  obtain ⟨g, cap, e, h1, h2⟩ := h.form hn
  injection e with e
  exact ⟨g, e, h1, h2⟩
theorem own_below {w w' : World} {base : Nat} {e : TypeId} {size n : Nat} {v : Value} {xs : List Value} (h : w.ownsRow base e size v n xs) (hb : Below w.heap.size w w') : w'.ownsRow base e size v n xs := (Keeps.of_below (F := fun _ => False) hb).own h (fun _ _ h => h)
theorem below_keeps {F : Nat → Prop} {a w w' : World} (h : Below a.heap.size a w) (hk : Keeps F w w') (hF : ∀ g, F g → a.heap.size ≤ g) : Below a.heap.size a w' :=
  ⟨hk.os.trans h.os, hk.tape.trans h.tape, hk.output.trans h.output, Nat.le_trans h.size hk.size, fun i hi => (hk.block i (Nat.lt_of_lt_of_le hi h.size) (fun hf => by have := hF i hf; omega)).trans (h.block i hi)⟩
theorem below_new (w : World) (o : Obj) : Below w.heap.size w (w.alloc o) := (Below.refl _ _).alloc (Nat.le_refl _) o
theorem below_drew (w : World) : Below w.heap.size w w.drew := (Below.refl _ _).drew
theorem cell_keep {w w' : World} {p : Addr} {v : Value} (h : w.cell? p = some v) (hb : Below w.heap.size w w') : w'.cell? p = some v := by
  have hlt : p.block < w.heap.size := by
    rcases Nat.lt_or_ge p.block w.heap.size with h1 | h1
    · exact h1
    · simp [World.cell?, Array.getElem?_eq_none h1] at h
  exact (hb.cell hlt).trans h
theorem results_row_tmp {P : Program} {fn : Func} {p u : Tmp} {ty : TypeId} (h : fn.results = #[.cell p ty, .tmp u]) (tmps : Array Value) (w : World) (g : Nat) (t : TypeId) (cs : Array Value) (d : TypeDesc)
    (hp : tmps.getD p undef = .pointer (some ⟨g, 0, none⟩)) (hg : Blk w g t cs) (hu : P.underlying ty = some d) (hd : (match d with | .struct _ | .array _ _ => true | _ => false) = true) (hi : (P.info? ty).map (·.size) = some cs.size) :
    (results fn tmps).run P w = .ok (.tuple #[.agg cs, tmps.getD u undef]) w := by
  rw [results_cell_tmp h, hp]
  simp [asAddr, run_loadVar_row w g t ty cs (0, 0) d hg hu hd hi, Result.andThen]

/-- cells written one behind the other -/
def layL (cs : List Value) (o : Nat) (vs : List Value) : List Value := cs.take o ++ vs ++ cs.drop (o + vs.length)
theorem layL_cons (cs : List Value) (o : Nat) (v : Value) (r : List Value) (h : o < cs.length) : layL (cs.set o v) (o + 1) r = layL cs o (v :: r) := by
  obtain ⟨a, x, b, rfl, rfl⟩ : ∃ a x b, cs = a ++ x :: b ∧ a.length = o := ⟨cs.take o, cs[o], cs.drop (o + 1), by simp, by simp; omega⟩
  simp [layL, List.take_append, List.drop_append, List.take_of_length_le, List.drop_of_length_le, show ∀ c : Nat, a.length + (c + 1) - a.length = c + 1 by intro c; omega, show ∀ c : Nat, a.length + 1 + c - a.length = c + 1 by intro c; omega]
  omega
theorem Blk.setCells {g : Nat} {t : TypeId} : ∀ (vs : List Value) (o : Nat) (w : World) (cs : Array Value), Blk w g t cs → o + vs.length ≤ cs.size → Blk (w.setCells g o vs) g t (layL cs.toList o vs).toArray
  | [], o, w, cs, h, _ => by simpa [layL, World.setCells] using h
  | v :: r, o, w, cs, h, hl => by
    have h1 := Blk.setCells r (o + 1) _ _ (h.set_ o v) (by simp at hl ⊢; omega)
    rw [Array.toList_setIfInBounds, layL_cons _ _ _ _ (by simp at hl ⊢; omega)] at h1
    exact h1
theorem Keeps.setCells {F : Nat → Prop} {g : Nat} (hg : F g) {a : World} : ∀ (vs : List Value) (o : Nat) (w : World), Keeps F a w → Keeps F a (w.setCells g o vs)
  | [], _, _, h => h
  | v :: r, o, _, h => Keeps.setCells hg r (o + 1) _ (h.setCell (p := ⟨g, o, none⟩) (.inl hg) v)
theorem layL_length (cs : List Value) (o : Nat) (vs : List Value) (h : o + vs.length ≤ cs.length) : (layL cs o vs).length = cs.length := by simp [layL]; omega
theorem layL_take (cs : List Value) (o : Nat) (vs : List Value) (n : Nat) (h : o + vs.length ≤ n) (hn : n ≤ cs.length) : (layL cs o vs).take n = layL (cs.take n) o vs := by
  obtain ⟨q, rfl⟩ : ∃ q, n = o + vs.length + q := ⟨n - (o + vs.length), by omega⟩
  unfold layL
  rw [List.take_take, Nat.min_eq_left (by omega), List.append_assoc, List.append_assoc, List.take_append, List.length_take, Nat.min_eq_left (by omega), List.take_of_length_le (by rw [List.length_take]; omega), List.take_append,
    List.take_of_length_le (l := vs) (by omega), show o + vs.length + q - o - vs.length = q by omega, List.drop_take, show o + vs.length + q - (o + vs.length) = q by omega]

/-! ### rows of structs -/
section
variable {α : Type} (cells : α → List Value) (size : Nat)
def rowC (l : List α) : List Value := l.flatMap cells
theorem rowC_append (a b : List α) : rowC cells (a ++ b) = rowC cells a ++ rowC cells b := by simp [rowC]
theorem rowC_length (h : ∀ a, (cells a).length = size) (l : List α) : (rowC cells l).length = l.length * size := by
  induction l with
  | nil => simp [rowC]
  | cons x l ih => simp only [rowC, List.flatMap_cons, List.length_append] at ih ⊢; rw [ih, h, List.length_cons, Nat.add_mul, Nat.one_mul, Nat.add_comm]
theorem rowC_at (h : ∀ a, (cells a).length = size) : ∀ (l : List α) (k j : Nat) (x : α), l[k]? = some x → j < size → (rowC cells l)[k * size + j]? = (cells x)[j]?
  | [], k, _, _, hk, _ => by simp at hk
  | y :: l, 0, j, x, hk, hj => by
    simp only [List.getElem?_cons_zero, Option.some.injEq] at hk
    subst hk
    simp only [rowC, List.flatMap_cons, Nat.zero_mul, Nat.zero_add]
    rw [List.getElem?_append_left (by rw [h]; exact hj)]
  | y :: l, k + 1, j, x, hk, hj => by
    simp only [List.getElem?_cons_succ] at hk
    have := rowC_at h l k j x hk hj
    simp only [rowC, List.flatMap_cons] at this ⊢
    rw [List.getElem?_append_right (by rw [h, Nat.add_mul, Nat.one_mul]; omega), ← this, h]
    congr 1
    rw [Nat.add_mul, Nat.one_mul]
    omega
theorem rowC_take (h : ∀ a, (cells a).length = size) (l : List α) (k : Nat) (hk : k ≤ l.length) : (rowC cells l).take (k * size) = rowC cells (l.take k) := by
  have e : rowC cells l = rowC cells (l.take k) ++ rowC cells (l.drop k) := by rw [← rowC_append, List.take_append_drop]
  have hl : (rowC cells (l.take k)).length = k * size := by rw [rowC_length cells size h, List.length_take, Nat.min_eq_left hk]
  rw [e, List.take_append_of_le_length (by omega), List.take_of_length_le (by omega)]
theorem rowC_drop (h : ∀ a, (cells a).length = size) (l : List α) (k : Nat) (hk : k ≤ l.length) : (rowC cells l).drop (k * size) = rowC cells (l.drop k) := by
  have e : rowC cells l = rowC cells (l.take k) ++ rowC cells (l.drop k) := by rw [← rowC_append, List.take_append_drop]
  have hl : (rowC cells (l.take k)).length = k * size := by rw [rowC_length cells size h, List.length_take, Nat.min_eq_left hk]
  rw [e, List.drop_append_of_le_length (by omega), List.drop_of_length_le (by omega), List.nil_append]
theorem rowC_set (h : ∀ a, (cells a).length = size) (l : List α) (k : Nat) (x : α) (hk : k < l.length) : layL (rowC cells l) (k * size) (cells x) = rowC cells (l.set k x) := by
  have e : l.set k x = l.take k ++ ([x] ++ l.drop (k + 1)) := by rw [List.set_eq_take_append_cons_drop, if_pos hk]; rfl
  have e3 : rowC cells [x] = cells x := by simp [rowC]
  rw [e, rowC_append, rowC_append, e3]
  unfold layL
  rw [rowC_take cells size h l k (by omega), List.append_assoc, h, show k * size + size = (k + 1) * size by rw [Nat.add_mul, Nat.one_mul], rowC_drop cells size h l (k + 1) (by omega)]
theorem Reads.row_at (h : ∀ a, (cells a).length = size) {w : World} {B n k : Nat} {A : Option Addr} {l : List α} (hr : Reads w B size A n (rowC cells l)) (hs : 0 < size) (hk : k < n) :
    ∃ b off x, A = some ⟨b, off, none⟩ ∧ b < B ∧ l[k]? = some x ∧ ∀ j u, (cells x)[j]? = some u → w.cell? ⟨b, off + k * size + j, none⟩ = some u := by
  obtain ⟨b, off, e, hb, hc⟩ := hr.2 (by omega)
  have hl := hr.1
  rw [rowC_length cells size h] at hl
  have hlen : k < l.length := by rw [Nat.mul_right_cancel hs hl]; exact hk
  refine ⟨b, off, l[k], e, hb, List.getElem?_eq_getElem hlen, fun j u hu => ?_⟩
  have hj : j < size := by
    have := (List.getElem?_eq_some_iff.1 hu).1
    rwa [h] at this
  rw [Nat.add_assoc]
  exact hc (k * size + j) u ((rowC_at cells size h l k j _ (List.getElem?_eq_getElem hlen) hj).trans hu)
end

/-- The slice '.slice A n _' that came in holds the elements l, each of 'size' cells. -/
def RowAt {α : Type} (cells : α → List Value) (size : Nat) (w : World) (A : Option Addr) (n : Nat) (l : List α) : Prop :=
  l.length = n ∧ (0 < n → ∃ b off, A = some ⟨b, off, none⟩ ∧ b < w.heap.size ∧ ∀ k a, l[k]? = some a → ∀ j u, (cells a)[j]? = some u → w.cell? ⟨b, off + k * size + j, none⟩ = some u)
theorem RowAt.at_ {α : Type} {cells : α → List Value} {size : Nat} {w w' : World} {A : Option Addr} {n k : Nat} {l : List α} (h : RowAt cells size w A n l) (hb : Below w.heap.size w w') (hk : k < n) :
    ∃ b off a, A = some ⟨b, off, none⟩ ∧ b < w.heap.size ∧ l[k]? = some a ∧ ∀ j u, (cells a)[j]? = some u → w'.cell? ⟨b, off + k * size + j, none⟩ = some u := by
  obtain ⟨h1, h2⟩ := h
  obtain ⟨b, off, rfl, hbb, hc⟩ := h2 (by omega)
  have hlt : k < l.length := by omega
  have hg : l[k]? = some l[k] := List.getElem?_eq_getElem hlt
  exact ⟨b, off, l[k], rfl, hbb, hg, fun j u hu => (hb.cell (p := ⟨b, _, none⟩) hbb).trans (hc k _ hg j u hu)⟩

section
variable {H : Type} {enc : TypeId × Value → H} {w : World} {base : Nat} {sp : Nat → Bool} {held : Bool} {P : Program}

/-- a struct's fields, each read by itself -/
theorem struct_fields {m : Nat} {t : TypeId} {fs : Array Field} {cs : List Value} {x : DataW H × List MemPlace} {L : List (TypeId × Nat)} (hu : P.underlying t = some (.struct fs)) (hL : fs.toList.map (fun f => (f.type, f.offset)) = L) (h : DataW.trod enc P w base sp held m t cs = some x) :
    ∃ n, ∀ (i : Nat) (t o : Nat), L[i]? = some (t, o) → ∃ y, DataW.trod enc P w base sp held n t ((cs.drop o).take (P.cellsOf t)) = some y := by
  obtain ⟨xs, n, rfl, _, _, hxl, hf⟩ := DataW.trod_struct hu h
  refine ⟨n, fun i t o hi => ?_⟩
  rw [← hL, List.getElem?_map] at hi
  obtain ⟨f, hf1, hf2⟩ := Option.map_eq_some_iff.1 hi
  have hlt : i < xs.length := by
    rw [hxl]
    have := (List.getElem?_eq_some_iff.1 hf1).1
    simpa using this
  have h1 := hf i f (by simpa using hf1)
  rw [List.getElem?_eq_getElem hlt] at h1
  simp only [Prod.mk.injEq] at hf2
  rw [hf2.1, hf2.2] at h1
  exact ⟨_, h1⟩
theorem slice_value {m : Nat} {t e : TypeId} {v : Value} {x : DataW H × List MemPlace} (ht : P.underlying t = some (.slice e)) (h : DataW.trod enc P w base sp held m t [v] = some x) : ∃ A n c, v = .slice A n c := by
  rcases DataW.trod_slice ht h with ⟨e, _⟩ | ⟨a, len, cap, _, _, _, _, e, _⟩
  · simp only [List.cons.injEq, and_true] at e; exact ⟨_, _, _, e⟩
  · simp only [List.cons.injEq, and_true] at e; exact ⟨_, _, _, e⟩
theorem rows_open {α : Type} [Inhabited α] (cells : α → List Value) (ok : α → Prop) (t e size : Nat) (ht : P.underlying t = some (.slice e)) (hce : P.cellsOf e = size) (hs : 0 < size) (hcl : ∀ a, (cells a).length = size)
    (one : ∀ (m : Nat) (cs : List Value) (x : DataW H × List MemPlace), cs.length = size → DataW.trod enc P w base sp held m e cs = some x → ∃ a, cs = cells a ∧ ok a)
    {m : Nat} {A : Option Addr} {n c : Nat} {x : DataW H × List MemPlace} (h : DataW.trod enc P w base sp held m t [.slice A n c] = some x) : ∃ l, RowAt cells size w A n l ∧ ∀ a ∈ l, ok a := by
  rcases Deep.open_slice ht h with ⟨h0, _⟩ | ⟨a, len, cap, mm, n', D, Pl, hcs, _, hl, hm, hmm, _, hi⟩
  · simp only [List.cons.injEq, Value.slice.injEq, and_true] at h0
    obtain ⟨rfl, rfl, rfl⟩ := h0
    exact ⟨[], ⟨rfl, fun h => absurd h (by omega)⟩, fun a ha => by cases ha⟩
  · simp only [List.cons.injEq, Value.slice.injEq, and_true] at hcs
    obtain ⟨rfl, rfl, rfl⟩ := hcs
    have hle : n ≤ mm := by rw [hmm]; split <;> omega
    have hall : ∀ i, i < n → ∃ v : α, ok v ∧ ∀ j u, (cells v)[j]? = some u → w.cell? ((a.add (i * size)).add j) = some u := by
      intro i hin
      obtain ⟨cs', hc', ht'⟩ := hi i (by omega)
      rw [hce] at hc'
      obtain ⟨_, hcl', hat⟩ := World.cells?_some hc'
      obtain ⟨v, rfl, hok⟩ := one _ _ _ hcl' ht'
      refine ⟨v, hok, fun j u hu => ?_⟩
      have hj : j < size := by
        have := (List.getElem?_eq_some_iff.1 hu).1
        rwa [hcl] at this
      rw [hat j hj]
      exact hu
    obtain ⟨f, hf⟩ := Deep.choose_lt hall
    refine ⟨(List.range n).map f, ⟨by simp, fun hn => ?_⟩, fun v hv => ?_⟩
    · have h00 := (hf 0 hn).2 0 _ (List.getElem?_eq_getElem (by rw [hcl]; omega))
      have hspot := World.cell?_spot h00
      obtain ⟨b, off, spot⟩ := a
      have hs0 : spot = none := by
        have : ((({ block := b, off := off, spot := spot } : Addr).add (0 * size)).add 0) = ⟨b, off, spot⟩ := by simp [Addr.add]
        rw [this] at hspot
        exact hspot
      subst hs0
      have hb : b < w.heap.size := by
        rcases Nat.lt_or_ge b w.heap.size with h | h
        · exact h
        · have : ((({ block := b, off := off, spot := none } : Addr).add (0 * size)).add 0) = ⟨b, off, none⟩ := by simp [Addr.add]
          rw [this] at h00
          simp [World.cell?, Array.getElem?_eq_none h] at h00
      refine ⟨b, off, rfl, hb, fun k v hv j u hu => ?_⟩
      rw [List.getElem?_map] at hv
      obtain ⟨k', hk', rfl⟩ := Option.map_eq_some_iff.1 hv
      have hkl : k < n := by
        rcases Nat.lt_or_ge k n with h | h
        · exact h
        · simp [Nat.not_lt.2 h] at hk'
      have hkk : k' = k := by simpa [hkl] using hk'.symm
      subst hkk
      have hc := (hf k' hkl).2 j u hu
      rw [add_of_add, cell_add, ← Nat.add_assoc] at hc
      exact hc
    · obtain ⟨i, hi', rfl⟩ := List.mem_map.1 hv
      exact (hf i (by simpa using hi')).1
end

theorem u8_wf {n : Int} (h : (Lit.int .u8 n).wf = true) : 0 ≤ n ∧ n < 256 := by
  have hm : IntKind.u8.min = 0 := rfl
  have hM : IntKind.u8.max = 255 := rfl
  have : 0 ≤ n ∧ n ≤ 255 := by simpa [Lit.wf, hm, hM] using h
  omega
theorem bytes_of_leaves : ∀ (xs : List Value) (n : Nat), xs.length = n → (∀ i, i < n → AllLeaf [some .u8] ((xs.drop i).take 1)) → ∃ zs, xs = u8s zs ∧ ∀ z ∈ zs, 0 ≤ z ∧ z < 256
  | [], _, _, _ => ⟨[], rfl, fun _ h => by cases h⟩
  | v :: r, n, hn, h => by
    simp only [List.length_cons] at hn
    obtain ⟨z, r0, e, hw, h0⟩ := AllLeaf.int_ (h 0 (by omega))
    obtain ⟨zs, hz, hb⟩ := bytes_of_leaves r (n - 1) (by omega) (fun i hi => by have := h (i + 1) (by omega); simpa using this)
    simp at e
    refine ⟨z :: zs, by rw [hz, e.1]; rfl, fun y hy => ?_⟩
    rcases List.mem_cons.1 hy with rfl | hy
    · exact u8_wf hw
    · exact hb y hy
theorem ints_of_leaves : ∀ (xs : List Value) (n : Nat), xs.length = n → (∀ i, i < n → AllLeaf [some .i64] ((xs.drop i).take 1)) → ∃ zs, xs = ints zs
  | [], _, _, _ => ⟨[], rfl⟩
  | v :: r, n, hn, h => by
    simp only [List.length_cons] at hn
    obtain ⟨z, r0, e, _, h0⟩ := AllLeaf.int_ (h 0 (by omega))
    obtain ⟨zs, hz⟩ := ints_of_leaves r (n - 1) (by omega) (fun i hi => by have := h (i + 1) (by omega); simpa using this)
    simp at e
    exact ⟨z :: zs, by rw [hz, e.1]; rfl⟩
end Go.Proofs.Ytdenfgnkbfbpmaa
