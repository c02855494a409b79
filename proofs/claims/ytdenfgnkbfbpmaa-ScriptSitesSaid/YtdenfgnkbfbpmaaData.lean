/-
  How arguments and listed variables read: types whose values are flat rows of integers and bools ('flatOf'), slices of such, each opened to its cells. Over any program; no statement is proved here.
-/
import Derived.Test.YtdenfgnkbfbpmaaKit
import Derived.ProofKit
import Derived.OpenShut
import Derived.Deep.Slices
namespace Go.Proofs.Ytdenfgnkbfbpmaa
open Go.RowKit Go.WideShapes Go.ChangeShapes

def LeafOK : Option IntKind → Value → Prop
  | some k, v => ∃ n, v = .int k n ∧ (Lit.int k n).wf = true
  | none, v => ∃ b, v = .bool b

def AllLeaf : List (Option IntKind) → List Value → Prop
  | [], [] => True
  | k :: ks, v :: vs => LeafOK k v ∧ AllLeaf ks vs
  | _, _ => False

theorem AllLeaf.length : ∀ {ks : List (Option IntKind)} {vs : List Value}, AllLeaf ks vs → vs.length = ks.length
  | [], [], _ => rfl
  | _ :: _, _ :: _, h => by simp [AllLeaf.length h.2]
  | [], _ :: _, h => h.elim
  | _ :: _, [], h => h.elim
theorem AllLeaf.append : ∀ {a b : List (Option IntKind)} {x y : List Value}, AllLeaf a x → AllLeaf b y → AllLeaf (a ++ b) (x ++ y)
  | [], _, [], _, _, h => h
  | _ :: _, _, _ :: _, _, h, h' => ⟨h.1, AllLeaf.append h.2 h'⟩
  | [], _, _ :: _, _, h, _ => h.elim
  | _ :: _, _, [], _, h, _ => h.elim
theorem AllLeaf.int_ {k : IntKind} {ks : List (Option IntKind)} {vs : List Value} (h : AllLeaf (some k :: ks) vs) : ∃ n r, vs = .int k n :: r ∧ (Lit.int k n).wf = true ∧ AllLeaf ks r := by
  cases vs with
  | nil => exact h.elim
  | cons v r =>
    obtain ⟨⟨n, rfl, hw⟩, hr⟩ := h
    exact ⟨n, r, rfl, hw, hr⟩
theorem AllLeaf.bool_ {ks : List (Option IntKind)} {vs : List Value} (h : AllLeaf (none :: ks) vs) : ∃ b r, vs = .bool b :: r ∧ AllLeaf ks r := by
  cases vs with
  | nil => exact h.elim
  | cons v r =>
    obtain ⟨⟨b, rfl⟩, hr⟩ := h
    exact ⟨b, r, rfl, hr⟩
theorem AllLeaf.nil_ {vs : List Value} (h : AllLeaf [] vs) : vs = [] := by
  cases vs with
  | nil => rfl
  | cons v r => exact h.elim
theorem AllLeaf.one : ∀ {ks : List (Option IntKind)} {vs : List Value}, AllLeaf ks vs → ∀ u ∈ vs, u.oneCell' = true
  | [], [], _, _, hu => by cases hu
  | k :: _, v :: _, h, u, hu => by
    rcases List.mem_cons.1 hu with rfl | hu
    · cases k with
      | none => obtain ⟨b, rfl⟩ := h.1; rfl
      | some k => obtain ⟨n, rfl, _⟩ := h.1; rfl
    · exact AllLeaf.one h.2 u hu
  | [], _ :: _, h, _, _ => h.elim
  | _ :: _, [], h, _, _ => h.elim

/-- The fields of a struct, one behind the other. -/
def seqFlat (f : TypeId → Option (List (Option IntKind))) : Nat → List Field → Option (List (Option IntKind))
  | _, [] => some []
  | off, fd :: r =>
    if fd.offset = off then
      match f fd.type with
      | some l => match seqFlat f (off + l.length) r with
        | some rest => some (l ++ rest)
        | none => none
      | none => none
    else none

/-- The leaves of a flat type: integers by their kinds, bools. -/
def flatOf (P : Program) : Nat → TypeId → Option (List (Option IntKind))
  | 0, _ => none
  | fuel + 1, t =>
    match (match P.underlying t with
      | some .bool => some [none]
      | some (.int k) => some [some k]
      | some (.struct fs) => seqFlat (flatOf P fuel) 0 fs.toList
      | some (.array n e) => (flatOf P fuel e).map fun l => (List.replicate n l).flatten
      | _ => none) with
    | some l => if P.cellsOf t = l.length then some l else none
    | none => none

mutual
def leaves {H : Type} : DataW H → List Value
  | .lit (.int k n) => [.int k n]
  | .lit (.bool b) => [.bool b]
  | .agg ds => leavesAll ds
  | _ => []
def leavesAll {H : Type} : List (DataW H) → List Value
  | [] => []
  | d :: r => leaves d ++ leavesAll r
end
theorem leavesAll_append {H : Type} : ∀ (a b : List (DataW H)), leavesAll (a ++ b) = leavesAll a ++ leavesAll b
  | [], b => by simp [leavesAll]
  | d :: a, b => by simp [leavesAll, leavesAll_append a b]

theorem flat_cells_len {P : Program} {fu : Nat} {t : TypeId} {ks : List (Option IntKind)} (h : flatOf P fu t = some ks) : P.cellsOf t = ks.length := by
  cases fu with
  | zero => simp [flatOf] at h
  | succ fu =>
    unfold flatOf at h
    split at h
    · split at h
      · rename_i h'
        cases h
        exact h'
      · cases h
    · cases h

section
variable {H : Type} {enc : TypeId × Value → H} {P : Program} {w : World} {base : Nat} {sp : Nat → Bool} {held : Bool}

theorem seq_flat {fu m : Nat} {cs : List Value}
    (ih : ∀ (t : TypeId) (ks : List (Option IntKind)) (cs : List Value) (x : DataW H × List MemPlace), flatOf P fu t = some ks → DataW.trod enc P w base sp held m t cs = some x → AllLeaf ks cs ∧ x.2 = [] ∧ leaves x.1 = cs) :
    ∀ (fs : List Field) (off : Nat) (ks : List (Option IntKind)) (xs : List (DataW H × List MemPlace)), seqFlat (flatOf P fu) off fs = some ks → off + ks.length = cs.length →
      xs.length = fs.length → (∀ (i : Nat) (f : Field), fs[i]? = some f → DataW.trod enc P w base sp held m f.type ((cs.drop f.offset).take (P.cellsOf f.type)) = xs[i]?) →
      AllLeaf ks (cs.drop off) ∧ xs.flatMap (·.2) = [] ∧ leavesAll (xs.map (·.1)) = cs.drop off
  | [], off, ks, xs, hk, hlen, hx, _ => by
    simp only [seqFlat, Option.some.injEq] at hk
    subst hk
    have hx0 : xs = [] := List.eq_nil_of_length_eq_zero hx
    subst hx0
    have hd : cs.drop off = [] := List.drop_eq_nil_of_le (by simp at hlen; omega)
    rw [hd]
    exact ⟨trivial, rfl, rfl⟩
  | fd :: fs, off, ks, xs, hk, hlen, hx, hf => by
    unfold seqFlat at hk
    split at hk
    · rename_i ho
      split at hk
      · rename_i l hl
        split at hk
        · rename_i rest hr
          simp only [Option.some.injEq] at hk
          subst hk
          match xs, hx with
          | x :: xs, hx =>
            have h0 := hf 0 fd rfl
            simp only [List.getElem?_cons_zero] at h0
            rw [flat_cells_len hl, ho] at h0
            obtain ⟨a1, a2, a3⟩ := ih _ _ _ _ hl h0
            have hrest := seq_flat (cs := cs) ih fs (off + l.length) rest xs hr (by simp at hlen; omega) (by simpa using hx) (fun i f hi => by have := hf (i + 1) f (by simpa using hi); simpa using this)
            obtain ⟨b1, b2, b3⟩ := hrest
            have hcut : cs.drop off = (cs.drop off).take l.length ++ cs.drop (off + l.length) := by
              rw [← List.drop_drop, List.take_append_drop]
            rw [hcut]
            refine ⟨AllLeaf.append a1 b1, ?_, ?_⟩
            · simp [List.flatMap_cons, a2, b2]
            · simp only [List.map_cons, leavesAll, a3, b3]
        · cases hk
      · cases hk
    · cases hk

theorem arr_flat {fu m : Nat} {e : TypeId} {l : List (Option IntKind)} (he : flatOf P fu e = some l) {cs : List Value}
    (ih : ∀ (t : TypeId) (ks : List (Option IntKind)) (cs : List Value) (x : DataW H × List MemPlace), flatOf P fu t = some ks → DataW.trod enc P w base sp held m t cs = some x → AllLeaf ks cs ∧ x.2 = [] ∧ leaves x.1 = cs) :
    ∀ (n i0 : Nat) (xs : List (DataW H × List MemPlace)), (i0 + n) * l.length = cs.length → xs.length = n →
      (∀ i, i < n → DataW.trod enc P w base sp held m e ((cs.drop ((i0 + i) * l.length)).take l.length) = xs[i]?) →
      AllLeaf ((List.replicate n l).flatten) (cs.drop (i0 * l.length)) ∧ xs.flatMap (·.2) = [] ∧ leavesAll (xs.map (·.1)) = cs.drop (i0 * l.length)
  | 0, i0, xs, hlen, hx, _ => by
    have hx0 : xs = [] := List.eq_nil_of_length_eq_zero hx
    subst hx0
    have hd : cs.drop (i0 * l.length) = [] := List.drop_eq_nil_of_le (by rw [← hlen]; simp)
    rw [hd]
    exact ⟨trivial, rfl, rfl⟩
  | n + 1, i0, xs, hlen, hx, hf => by
    match xs, hx with
    | x :: xs, hx =>
      have h0 := hf 0 (by omega)
      simp only [List.getElem?_cons_zero, Nat.add_zero] at h0
      obtain ⟨a1, a2, a3⟩ := ih _ _ _ _ he h0
      have hrest := arr_flat (cs := cs) he ih n (i0 + 1) xs (by rw [← hlen]; congr 1; omega) (by simpa using hx) (fun i hi => by
        have := hf (i + 1) (by omega)
        rw [show i0 + 1 + i = i0 + (i + 1) by omega]
        simpa using this)
      obtain ⟨b1, b2, b3⟩ := hrest
      have hcut : cs.drop (i0 * l.length) = (cs.drop (i0 * l.length)).take l.length ++ cs.drop ((i0 + 1) * l.length) := by
        rw [show (i0 + 1) * l.length = i0 * l.length + l.length by rw [Nat.add_mul, Nat.one_mul], ← List.drop_drop, List.take_append_drop]
      rw [hcut]
      refine ⟨?_, ?_, ?_⟩
      · rw [List.replicate_succ, List.flatten_cons]
        exact AllLeaf.append a1 b1
      · simp [List.flatMap_cons, a2, b2]
      · simp only [List.map_cons, leavesAll, a3, b3]

/-- A FLAT TYPE's READING: its cells are its leaves, it passes no place. -/
theorem flat_read : ∀ (fu m : Nat) (t : TypeId) (ks : List (Option IntKind)) (cs : List Value) (x : DataW H × List MemPlace), flatOf P fu t = some ks → DataW.trod enc P w base sp held m t cs = some x →
    AllLeaf ks cs ∧ x.2 = [] ∧ leaves x.1 = cs := by
  intro fu
  induction fu with
  | zero => intro m t ks cs x hk; simp [flatOf] at hk
  | succ fu ih =>
    intro m t ks cs x hk h
    have hcl := flat_cells_len hk
    unfold flatOf at hk
    split at hk
    · rename_i l hl
      split at hk
      · simp only [Option.some.injEq] at hk
        subst hk
        split at hl
        · rename_i hu
          simp only [Option.some.injEq] at hl
          subst hl
          obtain ⟨b, rfl, rfl⟩ := DataW.trod_bool hu h
          exact ⟨⟨⟨b, rfl⟩, trivial⟩, rfl, rfl⟩
        · rename_i k hu
          simp only [Option.some.injEq] at hl
          subst hl
          obtain ⟨n, rfl, rfl, hw⟩ := DataW.trod_int hu h
          exact ⟨⟨⟨n, rfl, hw⟩, trivial⟩, rfl, rfl⟩
        · rename_i fs hu
          obtain ⟨xs, n, rfl, rfl, hlen, hxl, hf⟩ := DataW.trod_struct hu h
          obtain ⟨r1, r2, r3⟩ := seq_flat (cs := cs) (fun t ks cs x => ih n t ks cs x) fs.toList 0 l xs hl (by rw [hlen, hcl]; omega) (by simpa using hxl) (fun i f hi => hf i f (by simpa using hi))
          refine ⟨by simpa using r1, r2, ?_⟩
          simpa [leaves] using r3
        · rename_i n e hu
          obtain ⟨l', hl', rfl⟩ := Option.map_eq_some_iff.1 hl
          obtain ⟨xs, m', rfl, rfl, hlen, hxl, hf⟩ := DataW.trod_array hu h
          have hce := flat_cells_len hl'
          rw [hce] at hf
          obtain ⟨r1, r2, r3⟩ := arr_flat (cs := cs) hl' (fun t ks cs x => ih m' t ks cs x) n 0 xs (by rw [hlen, hcl]; simp [List.length_flatten]) hxl (fun i hi => by simpa using hf i hi)
          refine ⟨by simpa using r1, r2, ?_⟩
          simpa [leaves] using r3
        · cases hl
      · cases hk
    · cases hk

/-- A SLICE OF A FLAT ELEMENT TYPE: its cells, element by element. -/
theorem open_slice_flat {fu m : Nat} {t e : TypeId} {ks : List (Option IntKind)} {A0 : Option Addr} {n c : Nat} {x : DataW H × List MemPlace} (ht : P.underlying t = some (.slice e)) (hk : flatOf P fu e = some ks) (hpos : 0 < ks.length)
    (h : DataW.trod enc P w base sp held m t [.slice A0 n c] = some x) :
    n ≤ c ∧ c ≤ maxLen ∧ ∃ xs, Reads w w.heap.size ks.length A0 n xs ∧ ∀ i, i < n → AllLeaf ks ((xs.drop (i * ks.length)).take ks.length) := by
  have hce := flat_cells_len hk
  rcases Deep.open_slice ht h with ⟨h0, _⟩ | ⟨a, len, cap, mm, n', D, Pl, hcs, _, hl, hm, hmm, _, hi⟩
  · simp only [List.cons.injEq, Value.slice.injEq, and_true] at h0
    obtain ⟨rfl, rfl, rfl⟩ := h0
    exact ⟨Nat.le_refl _, by simp [maxLen], [], ⟨by simp, fun hn => absurd hn (by omega)⟩, fun i hn => absurd hn (by omega)⟩
  · simp only [List.cons.injEq, Value.slice.injEq, and_true] at hcs
    obtain ⟨rfl, rfl, rfl⟩ := hcs
    have hle : n ≤ mm := by rw [hmm]; split <;> omega
    refine ⟨hl, hm, (List.range (n * ks.length)).map (fun j => (w.cell? (a.add j)).getD undef), ?_, ?_⟩
    · refine ⟨by simp, fun hn => ?_⟩
      obtain ⟨cs0, hc0, _⟩ := hi 0 (by omega)
      rw [hce] at hc0
      obtain ⟨_, hcl0, hat0⟩ := World.cells?_some hc0
      have h00 := hat0 0 hpos
      have hcell0 : w.cell? a = some (cs0[0]'(by omega)) := by
        have : w.cell? ((a.add (0 * ks.length)).add 0) = cs0[0]? := h00
        rw [List.getElem?_eq_getElem (by omega)] at this
        simpa [Addr.add] using this
      have hspot := World.cell?_spot hcell0
      obtain ⟨b, off, spot⟩ := a
      simp only at hspot
      subst hspot
      have hb : b < w.heap.size := by
        rcases Nat.lt_or_ge b w.heap.size with h | h
        · exact h
        · simp [World.cell?, Array.getElem?_eq_none h] at hcell0
      refine ⟨b, off, rfl, hb, fun j u hj => ?_⟩
      simp only [List.getElem?_map, Option.map_eq_some_iff] at hj
      obtain ⟨j', hj', hu⟩ := hj
      have hjl : j < n * ks.length := by
        rcases Nat.lt_or_ge j (n * ks.length) with h | h
        · exact h
        · simp [Nat.not_lt.2 h] at hj'
      have hjj : j' = j := by simpa [hjl] using hj'.symm
      subst hjj
      have hdiv : j' / ks.length < n := (Nat.div_lt_iff_lt_mul hpos).2 hjl
      obtain ⟨cs', hc', _⟩ := hi (j' / ks.length) (by omega)
      rw [hce] at hc'
      obtain ⟨_, hcl, hat⟩ := World.cells?_some hc'
      have hmod : j' % ks.length < ks.length := Nat.mod_lt _ hpos
      have h1 := hat _ hmod
      rw [add_of_add, Nat.mul_comm, Nat.div_add_mod, List.getElem?_eq_getElem (by omega)] at h1
      rw [← cell_add, ← hu, h1]
      rfl
    · intro i hin
      obtain ⟨cs', hc', ht'⟩ := hi i (by omega)
      rw [hce] at hc'
      obtain ⟨_, hcl, hat⟩ := World.cells?_some hc'
      obtain ⟨r1, _, _⟩ := flat_read fu n' e ks cs' _ hk ht'
      have he : ((((List.range (n * ks.length)).map (fun j => (w.cell? (a.add j)).getD undef)).drop (i * ks.length)).take ks.length) = cs' := by
        apply List.ext_getElem?
        intro j
        by_cases hj : j < ks.length
        · have h1 := hat j hj
          rw [add_of_add, List.getElem?_eq_getElem (by omega)] at h1
          have hlt : i * ks.length + j < n * ks.length := by
            have : (i + 1) * ks.length ≤ n * ks.length := Nat.mul_le_mul_right _ hin
            rw [Nat.add_mul, Nat.one_mul] at this
            omega
          rw [List.getElem?_take_of_lt hj, List.getElem?_drop, List.getElem?_map, List.getElem?_range hlt]
          simp [h1, List.getElem?_eq_getElem (show j < cs'.length by omega)]
        · rw [List.getElem?_take, if_neg hj, List.getElem?_eq_none (by omega)]
      rw [he]
      exact r1
end
end Go.Proofs.Ytdenfgnkbfbpmaa
