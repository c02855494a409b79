/-
  Slices of frames, and of acts, opened to their cells.
-/
import Derived.Test.YtldanafbaadgoaaJ
import Derived.Deep.Slices
namespace Go.Proofs.Ytldanafbaadgoaa
open Go.RowKit Go.ChangeShapes Go.WideShapes

/-- a frame: its values, and where its bytes lie -/
structure Fr where
  lan : Int
  frm : Int
  to : Int
  bs : List Int
  A : Option Addr
  c : Nat
instance : Inhabited Fr := ⟨⟨0, 0, 0, [], none, 0⟩⟩
def Fr.cells (f : Fr) : List Value := [.int .i64 f.lan, .int .i64 f.frm, .int .i64 f.to, .slice f.A f.bs.length f.c]
def FrOK (w : World) (f : Fr) : Prop := Reads w w.heap.size 1 f.A f.bs.length (u8s f.bs) ∧ ∀ z ∈ f.bs, 0 ≤ z ∧ z < 256
/-- one thing that is done -/
structure ActV where
  kind : Int
  i : Int
  at_ : Int
  by_ : Int
  f : Fr
instance : Inhabited ActV := ⟨⟨0, 0, 0, 0, default⟩⟩
def ActV.cells (a : ActV) : List Value := [.int .i64 a.kind, .int .i64 a.i, .int .i64 a.at_, .int .i64 a.by_] ++ a.f.cells

/-- The slice '.slice A n _' holds the elements l, each of 'size' cells. -/
def RowAt {α : Type} (cells : α → List Value) (size : Nat) (w : World) (A : Option Addr) (n : Nat) (l : List α) : Prop :=
  l.length = n ∧ (0 < n → ∃ b off, A = some ⟨b, off, none⟩ ∧ b < w.heap.size ∧ ∀ k a, l[k]? = some a → ∀ j u, (cells a)[j]? = some u → w.cell? ⟨b, off + k * size + j, none⟩ = some u)
theorem RowAt.at_ {α : Type} {cells : α → List Value} {size : Nat} {w w' : World} {A : Option Addr} {n k : Nat} {l : List α} (h : RowAt cells size w A n l) (hb : Below w.heap.size w w') (hk : k < n) :
    ∃ b off a, A = some ⟨b, off, none⟩ ∧ b < w.heap.size ∧ l[k]? = some a ∧ ∀ j u, (cells a)[j]? = some u → w'.cell? ⟨b, off + k * size + j, none⟩ = some u := by
  obtain ⟨h1, h2⟩ := h
  obtain ⟨b, off, rfl, hbb, hc⟩ := h2 (by omega)
  have hlt : k < l.length := by omega
  have hg : l[k]? = some l[k] := List.getElem?_eq_getElem hlt
  exact ⟨b, off, l[k], rfl, hbb, hg, fun j u hu => (hb.cell (p := ⟨b, _, none⟩) hbb).trans (hc k _ hg j u hu)⟩

theorem u28 : Try.prog.underlying 28 = some (.struct (Try.prog.fieldsOf 28)) := by kernel_rfl
theorem fs28 : (Try.prog.fieldsOf 28).toList.map (fun f => (f.type, f.offset)) = [(3, 0), (3, 1), (3, 2), (22, 3)] := by kernel_rfl
theorem c28 : Try.prog.cellsOf 28 = 4 := by kernel_rfl
theorem u46 : Try.prog.underlying 46 = some (.struct (Try.prog.fieldsOf 46)) := by kernel_rfl
theorem fs46 : (Try.prog.fieldsOf 46).toList.map (fun f => (f.type, f.offset)) = [(3, 0), (3, 1), (3, 2), (3, 3), (28, 4)] := by kernel_rfl
theorem c46 : Try.prog.cellsOf 46 = 8 := by kernel_rfl
theorem c3 : Try.prog.cellsOf 3 = 1 := by kernel_rfl
theorem c22 : Try.prog.cellsOf 22 = 1 := by kernel_rfl

section
variable {H : Type} {enc : TypeId × Value → H} {w : World} {base : Nat} {sp : Nat → Bool} {held : Bool}

/-- a struct's fields, each read by itself -/
theorem struct_fields {P : Program} {m : Nat} {t : TypeId} {fs : Array Field} {cs : List Value} {x : DataW H × List MemPlace} {L : List (TypeId × Nat)} (hu : P.underlying t = some (.struct fs)) (hL : fs.toList.map (fun f => (f.type, f.offset)) = L) (h : DataW.trod enc P w base sp held m t cs = some x) :
    ∃ n, ∀ (i : Nat) (t o : Nat), L[i]? = some (t, o) → ∃ y, DataW.trod enc P w base sp held n t ((cs.drop o).take (P.cellsOf t)) = some y := by
  obtain ⟨xs, n, rfl, _, _, hxl, hf⟩ := DataW.trod_struct hu h
  refine ⟨n, fun i t o hi => ?_⟩
  rw [← hL, List.getElem?_map] at hi
  obtain ⟨f, hf1, hf2⟩ := Option.map_eq_some_iff.1 hi
  have hlt : i < xs.length := by
    rw [hxl]
    have := (List.getElem?_eq_some_iff.1 hf1).1
    simpa using this
  have h1 := hf i f (by simpa using hf1)
  rw [List.getElem?_eq_getElem hlt] at h1
  simp only [Prod.mk.injEq] at hf2
  rw [hf2.1, hf2.2] at h1
  exact ⟨_, h1⟩

theorem frame_open {m : Nat} {cs : List Value} {x : DataW H × List MemPlace} (hl : cs.length = 4) (h : DataW.trod enc Try.prog w base sp held m 28 cs = some x) : ∃ f : Fr, cs = f.cells ∧ FrOK w f := by
  obtain ⟨n, fld⟩ := struct_fields u28 fs28 h
  match cs, hl with
  | [a, b, d, e], _ =>
    obtain ⟨y0, h0⟩ := fld 0 3 0 rfl
    obtain ⟨y1, h1⟩ := fld 1 3 1 rfl
    obtain ⟨y2, h2⟩ := fld 2 3 2 rfl
    obtain ⟨y3, h3⟩ := fld 3 22 3 rfl
    rw [c3] at h0 h1 h2
    rw [c22] at h3
    simp only [List.drop_zero, List.drop_succ_cons, List.take_succ_cons, List.take_zero] at h0 h1 h2 h3
    obtain ⟨k0, e0, _, _⟩ := DataW.trod_int Try.underlying3 h0
    obtain ⟨k1, e1, _, _⟩ := DataW.trod_int Try.underlying3 h1
    obtain ⟨k2, e2, _, _⟩ := DataW.trod_int Try.underlying3 h2
    simp only [List.cons.injEq, and_true] at e0 e1 e2
    subst e0 e1 e2
    have hv : ∃ A n c, e = .slice A n c := by
      rcases DataW.trod_slice Try.underlying22 h3 with ⟨e, _⟩ | ⟨a, len, cap, _, _, _, _, e, _⟩
      · simp only [List.cons.injEq, and_true] at e; exact ⟨_, _, _, e⟩
      · simp only [List.cons.injEq, and_true] at e; exact ⟨_, _, _, e⟩
    obtain ⟨A, nn, c, rfl⟩ := hv
    obtain ⟨_, _, xs0, hr0, hlf0⟩ := open_slice_flat (fu := 8) (ks := [some .u8]) Try.underlying22 (by kernel_rfl) (by simp) h3
    obtain ⟨zs, rfl, hz⟩ := bytes_of_leaves xs0 nn (by simpa using hr0.1) (by simpa using hlf0)
    have hzl : zs.length = nn := by have := hr0.1; rw [u8s_length] at this; simpa using this
    subst hzl
    exact ⟨⟨k0, k1, k2, zs, A, c⟩, rfl, by simpa using hr0, hz⟩

theorem act_open {m : Nat} {cs : List Value} {x : DataW H × List MemPlace} (hl : cs.length = 8) (h : DataW.trod enc Try.prog w base sp held m 46 cs = some x) : ∃ a : ActV, cs = a.cells ∧ FrOK w a.f := by
  obtain ⟨n, fld⟩ := struct_fields u46 fs46 h
  match cs, hl with
  | [a, b, d, e, f0, f1, f2, f3], _ =>
    obtain ⟨y0, h0⟩ := fld 0 3 0 rfl
    obtain ⟨y1, h1⟩ := fld 1 3 1 rfl
    obtain ⟨y2, h2⟩ := fld 2 3 2 rfl
    obtain ⟨y3, h3⟩ := fld 3 3 3 rfl
    obtain ⟨y4, h4⟩ := fld 4 28 4 rfl
    rw [c3] at h0 h1 h2 h3
    rw [c28] at h4
    simp only [List.drop_zero, List.drop_succ_cons, List.take_succ_cons, List.take_zero] at h0 h1 h2 h3 h4
    obtain ⟨k0, e0, _, _⟩ := DataW.trod_int Try.underlying3 h0
    obtain ⟨k1, e1, _, _⟩ := DataW.trod_int Try.underlying3 h1
    obtain ⟨k2, e2, _, _⟩ := DataW.trod_int Try.underlying3 h2
    obtain ⟨k3, e3, _, _⟩ := DataW.trod_int Try.underlying3 h3
    simp only [List.cons.injEq, and_true] at e0 e1 e2 e3
    subst e0 e1 e2 e3
    obtain ⟨f, hf, hok⟩ := frame_open rfl h4
    exact ⟨⟨k0, k1, k2, k3, f⟩, by rw [ActV.cells, ← hf]; rfl, hok⟩

theorem rows_open {α : Type} [Inhabited α] (cells : α → List Value) (ok : α → Prop) (t e size : Nat) (ht : Try.prog.underlying t = some (.slice e)) (hce : Try.prog.cellsOf e = size) (hs : 0 < size) (hcl : ∀ a, (cells a).length = size)
    (one : ∀ (m : Nat) (cs : List Value) (x : DataW H × List MemPlace), cs.length = size → DataW.trod enc Try.prog w base sp held m e cs = some x → ∃ a, cs = cells a ∧ ok a)
    {m : Nat} {A : Option Addr} {n c : Nat} {x : DataW H × List MemPlace} (h : DataW.trod enc Try.prog w base sp held m t [.slice A n c] = some x) : ∃ l, RowAt cells size w A n l ∧ ∀ a ∈ l, ok a := by
  rcases Deep.open_slice ht h with ⟨h0, _⟩ | ⟨a, len, cap, mm, n', D, Pl, hcs, _, hl, hm, hmm, _, hi⟩
  · simp only [List.cons.injEq, Value.slice.injEq, and_true] at h0
    obtain ⟨rfl, rfl, rfl⟩ := h0
    exact ⟨[], ⟨rfl, fun h => absurd h (by omega)⟩, fun a ha => by cases ha⟩
  · simp only [List.cons.injEq, Value.slice.injEq, and_true] at hcs
    obtain ⟨rfl, rfl, rfl⟩ := hcs
    have hle : n ≤ mm := by rw [hmm]; split <;> omega
    have hall : ∀ i, i < n → ∃ v : α, ok v ∧ ∀ j u, (cells v)[j]? = some u → w.cell? ((a.add (i * size)).add j) = some u := by
      intro i hin
      obtain ⟨cs', hc', ht'⟩ := hi i (by omega)
      rw [hce] at hc'
      obtain ⟨_, hcl', hat⟩ := World.cells?_some hc'
      obtain ⟨v, rfl, hok⟩ := one _ _ _ hcl' ht'
      refine ⟨v, hok, fun j u hu => ?_⟩
      have hj : j < size := by
        have := (List.getElem?_eq_some_iff.1 hu).1
        rwa [hcl] at this
      rw [hat j hj]
      exact hu
    obtain ⟨f, hf⟩ := Deep.choose_lt hall
    refine ⟨(List.range n).map f, ⟨by simp, fun hn => ?_⟩, fun v hv => ?_⟩
    · have h00 := (hf 0 hn).2 0 _ (List.getElem?_eq_getElem (by rw [hcl]; omega))
      have hspot := World.cell?_spot h00
      obtain ⟨b, off, spot⟩ := a
      have hs0 : spot = none := by
        have : ((({ block := b, off := off, spot := spot } : Addr).add (0 * size)).add 0) = ⟨b, off, spot⟩ := by simp [Addr.add]
        rw [this] at hspot
        exact hspot
      subst hs0
      have hb : b < w.heap.size := by
        rcases Nat.lt_or_ge b w.heap.size with h | h
        · exact h
        · have : ((({ block := b, off := off, spot := none } : Addr).add (0 * size)).add 0) = ⟨b, off, none⟩ := by simp [Addr.add]
          rw [this] at h00
          simp [World.cell?, Array.getElem?_eq_none h] at h00
      refine ⟨b, off, rfl, hb, fun k v hv j u hu => ?_⟩
      rw [List.getElem?_map] at hv
      obtain ⟨k', hk', rfl⟩ := Option.map_eq_some_iff.1 hv
      have hkl : k < n := by
        rcases Nat.lt_or_ge k n with h | h
        · exact h
        · simp [Nat.not_lt.2 h] at hk'
      have hkk : k' = k := by simpa [hkl] using hk'.symm
      subst hkk
      have hc := (hf k' hkl).2 j u hu
      rw [add_of_add, cell_add, ← Nat.add_assoc] at hc
      exact hc
    · obtain ⟨i, hi', rfl⟩ := List.mem_map.1 hv
      exact (hf i (by simpa using hi')).1

theorem frames_open {m : Nat} {A : Option Addr} {n c : Nat} {x : DataW H × List MemPlace} (h : DataW.trod enc Try.prog w base sp held m 37 [.slice A n c] = some x) : ∃ l, RowAt Fr.cells 4 w A n l ∧ ∀ f ∈ l, FrOK w f :=
  rows_open Fr.cells (FrOK w) 37 28 4 Try.underlying37 c28 (by omega) (fun _ => rfl) (fun _ _ _ hl h => frame_open hl h) h
theorem acts_open {m : Nat} {A : Option Addr} {n c : Nat} {x : DataW H × List MemPlace} (h : DataW.trod enc Try.prog w base sp held m 42 [.slice A n c] = some x) : ∃ l, RowAt ActV.cells 8 w A n l ∧ ∀ a ∈ l, FrOK w a.f :=
  rows_open ActV.cells (fun a => FrOK w a.f) 42 46 8 Try.underlying42 c46 (by omega) (fun _ => rfl) (fun _ _ _ hl h => act_open hl h) h
end
theorem ints_of_leaves : ∀ (xs : List Value) (n : Nat), xs.length = n → (∀ i, i < n → AllLeaf [some .i64] ((xs.drop i).take 1)) → ∃ zs, xs = ints zs
  | [], _, _, _ => ⟨[], rfl⟩
  | v :: r, n, hn, h => by
    simp only [List.length_cons] at hn
    obtain ⟨z, r0, e, _, h0⟩ := AllLeaf.int_ (h 0 (by omega))
    obtain ⟨zs, hz⟩ := ints_of_leaves r (n - 1) (by omega) (fun i hi => by have := h (i + 1) (by omega); simpa using this)
    simp at e
    exact ⟨z :: zs, by rw [hz, e.1]; rfl⟩
end Go.Proofs.Ytldanafbaadgoaa
