/-
  A slice of acts, opened to its cells.
-/
import Derived.Test.YtlclifhpmnfopaaDoorQ
import Derived.Test.YtlclifhpmnfopaaDoorP
import Derived.Deep.Slices
namespace Go.Proofs.YtlclifhpmnfopaaDoor
open Go.RowKit Go.ChangeShapes Go.WideShapes

theorem u35 : Tryd.prog.underlying 35 = some (.struct (Tryd.prog.fieldsOf 35)) := by kernel_rfl
theorem fs35 : (Tryd.prog.fieldsOf 35).toList.map (fun f => (f.type, f.offset)) = [(3, 0), (3, 1), (33, 2)] := by kernel_rfl
theorem c35 : Tryd.prog.cellsOf 35 = 3 := by kernel_rfl
theorem c3 : Tryd.prog.cellsOf 3 = 1 := by kernel_rfl
theorem c33 : Tryd.prog.cellsOf 33 = 1 := by kernel_rfl

section
variable {H : Type} {enc : TypeId × Value → H} {w : World} {base : Nat} {sp : Nat → Bool} {held : Bool}
theorem act_open {m : Nat} {cs : List Value} {x : DataW H × List MemPlace} (h : DataW.trod enc Tryd.prog w base sp held m 35 cs = some x) :
    ∃ kind lan A n c, cs = [.int .i64 kind, .int .i64 lan, .slice A n c] ∧ Wf lan ∧ ∃ hs, Reads w w.heap.size 7 A n (heads hs) := by
  obtain ⟨xs, n, rfl, _, hl, hxl, hf⟩ := DataW.trod_struct u35 h
  rw [c35] at hl
  have hfs := fs35
  have hsz : (Tryd.prog.fieldsOf 35).size = 3 := by have := congrArg List.length hfs; simpa using this
  have fld : ∀ (i : Nat) (t o : Nat), [((3 : TypeId), (0 : Nat)), (3, 1), (33, 2)][i]? = some (t, o) → ∃ y, DataW.trod enc Tryd.prog w base sp held n t ((cs.drop o).take (Tryd.prog.cellsOf t)) = some y := by
    intro i t o hi
    rw [← hfs, List.getElem?_map] at hi
    obtain ⟨f, hf1, hf2⟩ := Option.map_eq_some_iff.1 hi
    have hlt : i < xs.length := by
      rw [hxl]
      have := (List.getElem?_eq_some_iff.1 hf1).1
      simpa using this
    have h1 := hf i f (by simpa using hf1)
    rw [List.getElem?_eq_getElem hlt] at h1
    simp only [Prod.mk.injEq] at hf2
    rw [hf2.1, hf2.2] at h1
    exact ⟨_, h1⟩
  match cs, hl with
  | [a, b, d], _ =>
    obtain ⟨y0, h0⟩ := fld 0 3 0 rfl
    obtain ⟨y1, h1⟩ := fld 1 3 1 rfl
    obtain ⟨y2, h2⟩ := fld 2 33 2 rfl
    rw [c3] at h0 h1
    rw [c33] at h2
    simp only [List.drop_zero, List.drop_succ_cons, List.take_succ_cons, List.take_zero] at h0 h1 h2
    obtain ⟨k, e0, _, _⟩ := DataW.trod_int Tryd.underlying3 h0
    obtain ⟨l, e1, _, w1⟩ := DataW.trod_int Tryd.underlying3 h1
    simp only [List.cons.injEq, and_true] at e0 e1
    subst e0 e1
    have hv : ∃ A n c, d = .slice A n c := by
      rcases DataW.trod_slice Tryd.underlying33 h2 with ⟨e, _⟩ | ⟨a, len, cap, _, _, _, _, e, _⟩
      · simp only [List.cons.injEq, and_true] at e; exact ⟨_, _, _, e⟩
      · simp only [List.cons.injEq, and_true] at e; exact ⟨_, _, _, e⟩
    obtain ⟨A, nn, c, rfl⟩ := hv
    obtain ⟨_, _, xs0, hr0, hlf0⟩ := open_slice_flat (fu := 8) (ks := [some .i64, some .i64, some .i64, some .i64, some .i64, some .i64, some .i64]) Tryd.underlying33 (by kernel_rfl) (by simp) h2
    obtain ⟨hs, rfl⟩ := heads_of_leaves nn xs0 (by simpa using hr0.1) hlf0
    exact ⟨k, l, A, nn, c, rfl, w1, hs, hr0⟩

instance : Inhabited ActV := ⟨⟨0, 0, none, 0, 0, []⟩⟩

theorem acts_open {m : Nat} {A : Option Addr} {n c : Nat} {x : DataW H × List MemPlace} (h : DataW.trod enc Tryd.prog w base sp held m 26 [.slice A n c] = some x) : ∃ l, ActsAt w A n l := by
  rcases Deep.open_slice Tryd.underlying26 h with ⟨h0, _⟩ | ⟨a, len, cap, mm, n', D, Pl, hcs, _, hl, hm, hmm, _, hi⟩
  · simp only [List.cons.injEq, Value.slice.injEq, and_true] at h0
    obtain ⟨rfl, rfl, rfl⟩ := h0
    exact ⟨[], rfl, fun h => absurd h (by omega), fun a ha => by cases ha⟩
  · simp only [List.cons.injEq, Value.slice.injEq, and_true] at hcs
    obtain ⟨rfl, rfl, rfl⟩ := hcs
    have hle : n ≤ mm := by rw [hmm]; split <;> omega
    have hall : ∀ i, i < n → ∃ v : ActV, Wf v.lan ∧ Reads w w.heap.size 7 v.A v.n (heads v.hs) ∧ ∀ j u, v.vals[j]? = some u → w.cell? ((a.add (i * 3)).add j) = some u := by
      intro i hin
      obtain ⟨cs', hc', ht'⟩ := hi i (by omega)
      rw [c35] at hc'
      obtain ⟨kind, lan, A1, n1, c1, rfl, hw, hs, hr⟩ := act_open ht'
      refine ⟨⟨kind, lan, A1, n1, c1, hs⟩, hw, hr, fun j u hu => ?_⟩
      obtain ⟨_, _, hat⟩ := World.cells?_some hc'
      have hj : j < 3 := by
        have := (List.getElem?_eq_some_iff.1 hu).1
        simpa [ActV.vals] using this
      rw [hat j hj]
      exact hu
    obtain ⟨f, hf⟩ := Deep.choose_lt hall
    refine ⟨(List.range n).map f, by simp, fun hn => ?_, fun v hv => ?_⟩
    · have h00 := (hf 0 hn).2.2 0 _ rfl
      have hspot := World.cell?_spot h00
      obtain ⟨b, off, spot⟩ := a
      have hs0 : spot = none := by
        have : ((({ block := b, off := off, spot := spot } : Addr).add (0 * 3)).add 0) = ⟨b, off, spot⟩ := by simp [Addr.add]
        rw [this] at hspot
        exact hspot
      subst hs0
      have hb : b < w.heap.size := by
        rcases Nat.lt_or_ge b w.heap.size with h | h
        · exact h
        · have : ((({ block := b, off := off, spot := none } : Addr).add (0 * 3)).add 0) = ⟨b, off, none⟩ := by simp [Addr.add]
          rw [this] at h00
          simp [World.cell?, Array.getElem?_eq_none h] at h00
      refine ⟨b, off, rfl, hb, fun k v hv => ?_⟩
      rw [List.getElem?_map] at hv
      obtain ⟨k', hk', rfl⟩ := Option.map_eq_some_iff.1 hv
      have hkl : k < n := by
        rcases Nat.lt_or_ge k n with h | h
        · exact h
        · simp [Nat.not_lt.2 h] at hk'
      have hkk : k' = k := by simpa [hkl] using hk'.symm
      subst hkk
      have hc := (hf k' hkl).2.2
      have e : ∀ j, (({ block := b, off := off, spot := none } : Addr).add (k' * 3)).add j = (⟨b, off, none⟩ : Addr).add (k' * 3 + j) := fun j => add_of_add _ _ _
      have c0 := hc 0 _ rfl
      have c1 := hc 1 _ rfl
      have c2 := hc 2 _ rfl
      rw [e, cell_add] at c0 c1 c2
      exact ⟨c0, c1, c2⟩
    · obtain ⟨i, hi', rfl⟩ := List.mem_map.1 hv
      have := hf i (by simpa using hi')
      exact ⟨this.1, this.2.1⟩
end
end Go.Proofs.YtlclifhpmnfopaaDoor
