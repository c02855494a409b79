/-
  A packet opened to its cells.
-/
import Derived.Test.YtdenfgnkbfbpmaaLanLaw
namespace Go.Proofs.Ytdenfgnkbfbpmaa
open Go.RowKit Go.ChangeShapes Go.WideShapes
set_option linter.unusedSimpArgs false
set_option linter.unusedVariables false

instance : Inhabited Lk := ⟨⟨0, 0, 0, 0⟩⟩
instance : Inhabited HD := ⟨⟨0, 0, 0, 0, 0, 0, 0⟩⟩
instance : Inhabited KV := ⟨⟨0, 0, 0⟩⟩
instance : Inhabited (LV × LP) := ⟨⟨⟨default, [], []⟩, ⟨none, 0, none, 0⟩⟩⟩
theorem RowAt.reads {α : Type} {cells : α → List Value} {size : Nat} {w : World} {A : Option Addr} {n : Nat} {l : List α} (hc : ∀ a, (cells a).length = size) (hs : 0 < size) (h : RowAt cells size w A n l) : Reads w w.heap.size size A n (rowC cells l) := by
  obtain ⟨h1, h2⟩ := h
  refine ⟨by rw [rowC_length cells size hc, h1], fun hp => ?_⟩
  obtain ⟨b, off, e, hb, hq⟩ := h2 hp
  refine ⟨b, off, e, hb, fun j u hu => ?_⟩
  have hj : j < l.length * size := by have := (List.getElem?_eq_some_iff.1 hu).1; rwa [rowC_length cells size hc] at this
  have hk : j / size < l.length := Nat.div_lt_of_lt_mul (by rwa [Nat.mul_comm] at hj)
  have hr : j % size < size := Nat.mod_lt _ hs
  have e1 : j / size * size + j % size = j := by rw [Nat.mul_comm]; exact Nat.div_add_mod j size
  have h3 := rowC_at cells size hc l (j / size) (j % size) l[j / size] (List.getElem?_eq_getElem hk) hr
  rw [e1, hu] at h3
  have h4 := hq (j / size) l[j / size] (List.getElem?_eq_getElem hk) (j % size) u h3.symm
  rw [Nat.add_assoc, e1] at h4
  exact h4
theorem oc3 : Try.prog.cellsOf 3 = 1 := by kernel_rfl
theorem oc4 : Try.prog.cellsOf 4 = 1 := by kernel_rfl
theorem ou34 : Try.prog.underlying 34 = some (.struct (Try.prog.fieldsOf 34)) := by kernel_rfl
theorem ofs34 : (Try.prog.fieldsOf 34).toList.map (fun f => (f.type, f.offset)) = [(3, 0), (3, 1), (3, 2), (3, 3), (3, 4), (3, 5), (3, 6)] := by kernel_rfl
theorem oc34 : Try.prog.cellsOf 34 = 7 := by kernel_rfl
theorem ou117 : Try.prog.underlying 117 = some (.struct (Try.prog.fieldsOf 117)) := by kernel_rfl
theorem ofs117 : (Try.prog.fieldsOf 117).toList.map (fun f => (f.type, f.offset)) = [(3, 0), (3, 1), (3, 2), (3, 3)] := by kernel_rfl
theorem oc117 : Try.prog.cellsOf 117 = 4 := by kernel_rfl
theorem ou66 : Try.prog.underlying 66 = some (.struct (Try.prog.fieldsOf 66)) := by kernel_rfl
theorem ofs66 : (Try.prog.fieldsOf 66).toList.map (fun f => (f.type, f.offset)) = [(3, 0), (3, 1), (3, 2)] := by kernel_rfl
theorem oc66 : Try.prog.cellsOf 66 = 3 := by kernel_rfl
theorem oc35 : Try.prog.cellsOf 35 = 1 := by kernel_rfl
theorem oc22 : Try.prog.cellsOf 22 = 1 := by kernel_rfl
theorem ou37 : Try.prog.underlying 37 = some (.struct (Try.prog.fieldsOf 37)) := by kernel_rfl
theorem ofs37 : (Try.prog.fieldsOf 37).toList.map (fun f => (f.type, f.offset)) = [(34, 0), (35, 7), (22, 8)] := by kernel_rfl
theorem oc37 : Try.prog.cellsOf 37 = 9 := by kernel_rfl
theorem oc29 : Try.prog.cellsOf 29 = 1 := by kernel_rfl
theorem oc25 : Try.prog.cellsOf 25 = 1 := by kernel_rfl
theorem oc28 : Try.prog.cellsOf 28 = 1 := by kernel_rfl
theorem ou24 : Try.prog.underlying 24 = some (.struct (Try.prog.fieldsOf 24)) := by kernel_rfl
theorem ofs24 : (Try.prog.fieldsOf 24).toList.map (fun f => (f.type, f.offset)) = [(3, 0), (3, 1), (3, 2), (3, 3), (3, 4), (22, 5)] := by kernel_rfl
theorem oc24 : Try.prog.cellsOf 24 = 6 := by kernel_rfl
theorem ou27 : Try.prog.underlying 27 = some (.struct (Try.prog.fieldsOf 27)) := by kernel_rfl
theorem ofs27 : (Try.prog.fieldsOf 27).toList.map (fun f => (f.type, f.offset)) = [(4, 0), (4, 1), (4, 2), (3, 3), (25, 4)] := by kernel_rfl
theorem oc27 : Try.prog.cellsOf 27 = 5 := by kernel_rfl
theorem ou31 : Try.prog.underlying 31 = some (.struct (Try.prog.fieldsOf 31)) := by kernel_rfl
theorem ofs31 : (Try.prog.fieldsOf 31).toList.map (fun f => (f.type, f.offset)) = [(3, 0), (3, 1), (24, 2), (27, 8), (28, 13), (29, 14), (25, 15)] := by kernel_rfl
theorem oc31 : Try.prog.cellsOf 31 = 16 := by kernel_rfl
section
variable {H : Type} {enc : TypeId × Value → H} {w : World} {base : Nat} {sp : Nat → Bool} {held : Bool}
theorem slice_len {m : Nat} {t e : TypeId} {A : Option Addr} {n c : Nat} {x : DataW H × List MemPlace} (ht : Try.prog.underlying t = some (.slice e)) (h : DataW.trod enc Try.prog w base sp held m t [.slice A n c] = some x) : n ≤ 9223372036854775807 := by
  rcases DataW.trod_slice ht h with ⟨e, _⟩ | ⟨a, len, cap, _, _, _, _, e, _, _, h1, h2, _⟩
  · simp only [List.cons.injEq, and_true, Value.slice.injEq] at e
    obtain ⟨_, rfl, _⟩ := e; omega
  · simp only [List.cons.injEq, and_true, Value.slice.injEq] at e
    obtain ⟨_, rfl, rfl⟩ := e
    have : maxLen = 9223372036854775807 := rfl
    omega
set_option maxRecDepth 100000 in
theorem head_open {m : Nat} {cs : List Value} {x : DataW H × List MemPlace} (h : DataW.trod enc Try.prog w base sp held m 34 cs = some x) : ∃ z : HD, cs = hdC z ∧ True := by
  obtain ⟨n, fld⟩ := struct_fields ou34 ofs34 h
  have hl : cs.length = 7 := by
    obtain ⟨_, _, _, _, hl, _, _⟩ := DataW.trod_struct ou34 h
    rwa [oc34] at hl
  match cs, hl with
  | [x0, x1, x2, x3, x4, x5, x6], _ =>
    obtain ⟨y0, h0⟩ := fld 0 3 0 rfl
    rw [oc3] at h0
    simp only [List.drop_zero, List.drop_succ_cons, List.take_succ_cons, List.take_zero] at h0
    obtain ⟨k0, e0, _, v0⟩ := DataW.trod_int Try.underlying3 h0
    simp only [List.cons.injEq, and_true] at e0
    subst e0
    obtain ⟨y1, h1⟩ := fld 1 3 1 rfl
    rw [oc3] at h1
    simp only [List.drop_zero, List.drop_succ_cons, List.take_succ_cons, List.take_zero] at h1
    obtain ⟨k1, e1, _, v1⟩ := DataW.trod_int Try.underlying3 h1
    simp only [List.cons.injEq, and_true] at e1
    subst e1
    obtain ⟨y2, h2⟩ := fld 2 3 2 rfl
    rw [oc3] at h2
    simp only [List.drop_zero, List.drop_succ_cons, List.take_succ_cons, List.take_zero] at h2
    obtain ⟨k2, e2, _, v2⟩ := DataW.trod_int Try.underlying3 h2
    simp only [List.cons.injEq, and_true] at e2
    subst e2
    obtain ⟨y3, h3⟩ := fld 3 3 3 rfl
    rw [oc3] at h3
    simp only [List.drop_zero, List.drop_succ_cons, List.take_succ_cons, List.take_zero] at h3
    obtain ⟨k3, e3, _, v3⟩ := DataW.trod_int Try.underlying3 h3
    simp only [List.cons.injEq, and_true] at e3
    subst e3
    obtain ⟨y4, h4⟩ := fld 4 3 4 rfl
    rw [oc3] at h4
    simp only [List.drop_zero, List.drop_succ_cons, List.take_succ_cons, List.take_zero] at h4
    obtain ⟨k4, e4, _, v4⟩ := DataW.trod_int Try.underlying3 h4
    simp only [List.cons.injEq, and_true] at e4
    subst e4
    obtain ⟨y5, h5⟩ := fld 5 3 5 rfl
    rw [oc3] at h5
    simp only [List.drop_zero, List.drop_succ_cons, List.take_succ_cons, List.take_zero] at h5
    obtain ⟨k5, e5, _, v5⟩ := DataW.trod_int Try.underlying3 h5
    simp only [List.cons.injEq, and_true] at e5
    subst e5
    obtain ⟨y6, h6⟩ := fld 6 3 6 rfl
    rw [oc3] at h6
    simp only [List.drop_zero, List.drop_succ_cons, List.take_succ_cons, List.take_zero] at h6
    obtain ⟨k6, e6, _, v6⟩ := DataW.trod_int Try.underlying3 h6
    simp only [List.cons.injEq, and_true] at e6
    subst e6
    exact ⟨⟨k0, k1, k2, k3, k4, k5, k6⟩, rfl, trivial⟩
set_option maxRecDepth 100000 in
theorem link_open {m : Nat} {cs : List Value} {x : DataW H × List MemPlace} (h : DataW.trod enc Try.prog w base sp held m 117 cs = some x) : ∃ z : Lk, cs = z.cells ∧ True := by
  obtain ⟨n, fld⟩ := struct_fields ou117 ofs117 h
  have hl : cs.length = 4 := by
    obtain ⟨_, _, _, _, hl, _, _⟩ := DataW.trod_struct ou117 h
    rwa [oc117] at hl
  match cs, hl with
  | [x0, x1, x2, x3], _ =>
    obtain ⟨y0, h0⟩ := fld 0 3 0 rfl
    rw [oc3] at h0
    simp only [List.drop_zero, List.drop_succ_cons, List.take_succ_cons, List.take_zero] at h0
    obtain ⟨k0, e0, _, v0⟩ := DataW.trod_int Try.underlying3 h0
    simp only [List.cons.injEq, and_true] at e0
    subst e0
    obtain ⟨y1, h1⟩ := fld 1 3 1 rfl
    rw [oc3] at h1
    simp only [List.drop_zero, List.drop_succ_cons, List.take_succ_cons, List.take_zero] at h1
    obtain ⟨k1, e1, _, v1⟩ := DataW.trod_int Try.underlying3 h1
    simp only [List.cons.injEq, and_true] at e1
    subst e1
    obtain ⟨y2, h2⟩ := fld 2 3 2 rfl
    rw [oc3] at h2
    simp only [List.drop_zero, List.drop_succ_cons, List.take_succ_cons, List.take_zero] at h2
    obtain ⟨k2, e2, _, v2⟩ := DataW.trod_int Try.underlying3 h2
    simp only [List.cons.injEq, and_true] at e2
    subst e2
    obtain ⟨y3, h3⟩ := fld 3 3 3 rfl
    rw [oc3] at h3
    simp only [List.drop_zero, List.drop_succ_cons, List.take_succ_cons, List.take_zero] at h3
    obtain ⟨k3, e3, _, v3⟩ := DataW.trod_int Try.underlying3 h3
    simp only [List.cons.injEq, and_true] at e3
    subst e3
    exact ⟨⟨k0, k1, k2, k3⟩, rfl, trivial⟩
set_option maxRecDepth 100000 in
theorem key_open {m : Nat} {cs : List Value} {x : DataW H × List MemPlace} (h : DataW.trod enc Try.prog w base sp held m 66 cs = some x) : ∃ z : KV, cs = z.cells ∧ True := by
  obtain ⟨n, fld⟩ := struct_fields ou66 ofs66 h
  have hl : cs.length = 3 := by
    obtain ⟨_, _, _, _, hl, _, _⟩ := DataW.trod_struct ou66 h
    rwa [oc66] at hl
  match cs, hl with
  | [x0, x1, x2], _ =>
    obtain ⟨y0, h0⟩ := fld 0 3 0 rfl
    rw [oc3] at h0
    simp only [List.drop_zero, List.drop_succ_cons, List.take_succ_cons, List.take_zero] at h0
    obtain ⟨k0, e0, _, v0⟩ := DataW.trod_int Try.underlying3 h0
    simp only [List.cons.injEq, and_true] at e0
    subst e0
    obtain ⟨y1, h1⟩ := fld 1 3 1 rfl
    rw [oc3] at h1
    simp only [List.drop_zero, List.drop_succ_cons, List.take_succ_cons, List.take_zero] at h1
    obtain ⟨k1, e1, _, v1⟩ := DataW.trod_int Try.underlying3 h1
    simp only [List.cons.injEq, and_true] at e1
    subst e1
    obtain ⟨y2, h2⟩ := fld 2 3 2 rfl
    rw [oc3] at h2
    simp only [List.drop_zero, List.drop_succ_cons, List.take_succ_cons, List.take_zero] at h2
    obtain ⟨k2, e2, _, v2⟩ := DataW.trod_int Try.underlying3 h2
    simp only [List.cons.injEq, and_true] at e2
    subst e2
    exact ⟨⟨k0, k1, k2⟩, rfl, trivial⟩
set_option maxRecDepth 100000 in
theorem lsa_open {m : Nat} {cs : List Value} {x : DataW H × List MemPlace} (h : DataW.trod enc Try.prog w base sp held m 37 cs = some x) : ∃ x : LV × LP, cs = lsaC x ∧ LOK w x.1 x.2 := by
  obtain ⟨n, fld⟩ := struct_fields ou37 ofs37 h
  have hl : cs.length = 9 := by
    obtain ⟨_, _, _, _, hl, _, _⟩ := DataW.trod_struct ou37 h
    rwa [oc37] at hl
  match cs, hl with
  | [x0, x1, x2, x3, x4, x5, x6, x7, x8], _ =>
    obtain ⟨y0, h0⟩ := fld 0 34 0 rfl
    rw [oc34] at h0
    simp only [List.drop_zero, List.drop_succ_cons, List.take_succ_cons, List.take_zero] at h0
    obtain ⟨z0, he0, _⟩ := head_open h0
    obtain ⟨y1, h1⟩ := fld 1 35 7 rfl
    rw [oc35] at h1
    simp only [List.drop_zero, List.drop_succ_cons, List.take_succ_cons, List.take_zero] at h1
    obtain ⟨A1, n1, c1, rfl⟩ := slice_value Try.underlying35 h1
    obtain ⟨l1, hr1, ok1⟩ := rows_open Lk.cells (fun _ => True) 35 117 4 Try.underlying35 oc117 (by omega) Lk.cells_len (fun _ _ _ _ h => link_open h) h1
    have hn1 := hr1.1
    subst hn1
    obtain ⟨y2, h2⟩ := fld 2 22 8 rfl
    rw [oc22] at h2
    simp only [List.drop_zero, List.drop_succ_cons, List.take_succ_cons, List.take_zero] at h2
    obtain ⟨A2, n2, c2, rfl⟩ := slice_value Try.underlying22 h2
    obtain ⟨_, _, xs2, hr2, hlf2⟩ := open_slice_flat (fu := 8) (ks := [some .i64]) Try.underlying22 (by kernel_rfl) (by simp) h2
    obtain ⟨l2, rfl⟩ := ints_of_leaves xs2 n2 (by simpa using hr2.1) (by simpa using hlf2)
    have hn2 : l2.length = n2 := by have := hr2.1; rw [ints_length] at this; simpa using this
    subst hn2
    exact ⟨⟨⟨z0, l1, l2⟩, ⟨A1, c1, A2, c2⟩⟩, by simp only [hdC, List.cons.injEq, and_true] at he0; obtain ⟨rfl, rfl, rfl, rfl, rfl, rfl, rfl⟩ := he0; rfl, ⟨hr1.reads Lk.cells_len (by omega), hr2⟩⟩
set_option maxRecDepth 100000 in
theorem hello_open {m : Nat} {cs : List Value} {x : DataW H × List MemPlace} (h : DataW.trod enc Try.prog w base sp held m 24 cs = some x) : ∃ (a b c d e : Int) (A : Option Addr) (k : Nat) (l : List Int), cs = [.int .i64 a, .int .i64 b, .int .i64 c, .int .i64 d, .int .i64 e, .slice A l.length k] ∧ Reads w w.heap.size 1 A l.length (ints l) := by
  obtain ⟨n, fld⟩ := struct_fields ou24 ofs24 h
  have hl : cs.length = 6 := by
    obtain ⟨_, _, _, _, hl, _, _⟩ := DataW.trod_struct ou24 h
    rwa [oc24] at hl
  match cs, hl with
  | [x0, x1, x2, x3, x4, x5], _ =>
    obtain ⟨y0, h0⟩ := fld 0 3 0 rfl
    rw [oc3] at h0
    simp only [List.drop_zero, List.drop_succ_cons, List.take_succ_cons, List.take_zero] at h0
    obtain ⟨k0, e0, _, v0⟩ := DataW.trod_int Try.underlying3 h0
    simp only [List.cons.injEq, and_true] at e0
    subst e0
    obtain ⟨y1, h1⟩ := fld 1 3 1 rfl
    rw [oc3] at h1
    simp only [List.drop_zero, List.drop_succ_cons, List.take_succ_cons, List.take_zero] at h1
    obtain ⟨k1, e1, _, v1⟩ := DataW.trod_int Try.underlying3 h1
    simp only [List.cons.injEq, and_true] at e1
    subst e1
    obtain ⟨y2, h2⟩ := fld 2 3 2 rfl
    rw [oc3] at h2
    simp only [List.drop_zero, List.drop_succ_cons, List.take_succ_cons, List.take_zero] at h2
    obtain ⟨k2, e2, _, v2⟩ := DataW.trod_int Try.underlying3 h2
    simp only [List.cons.injEq, and_true] at e2
    subst e2
    obtain ⟨y3, h3⟩ := fld 3 3 3 rfl
    rw [oc3] at h3
    simp only [List.drop_zero, List.drop_succ_cons, List.take_succ_cons, List.take_zero] at h3
    obtain ⟨k3, e3, _, v3⟩ := DataW.trod_int Try.underlying3 h3
    simp only [List.cons.injEq, and_true] at e3
    subst e3
    obtain ⟨y4, h4⟩ := fld 4 3 4 rfl
    rw [oc3] at h4
    simp only [List.drop_zero, List.drop_succ_cons, List.take_succ_cons, List.take_zero] at h4
    obtain ⟨k4, e4, _, v4⟩ := DataW.trod_int Try.underlying3 h4
    simp only [List.cons.injEq, and_true] at e4
    subst e4
    obtain ⟨y5, h5⟩ := fld 5 22 5 rfl
    rw [oc22] at h5
    simp only [List.drop_zero, List.drop_succ_cons, List.take_succ_cons, List.take_zero] at h5
    obtain ⟨A5, n5, c5, rfl⟩ := slice_value Try.underlying22 h5
    obtain ⟨_, _, xs5, hr5, hlf5⟩ := open_slice_flat (fu := 8) (ks := [some .i64]) Try.underlying22 (by kernel_rfl) (by simp) h5
    obtain ⟨l5, rfl⟩ := ints_of_leaves xs5 n5 (by simpa using hr5.1) (by simpa using hlf5)
    have hn5 : l5.length = n5 := by have := hr5.1; rw [ints_length] at this; simpa using this
    subst hn5
    exact ⟨k0, k1, k2, k3, k4, A5, c5, l5, rfl, hr5⟩
set_option maxRecDepth 100000 in
theorem dd_open {m : Nat} {cs : List Value} {x : DataW H × List MemPlace} (h : DataW.trod enc Try.prog w base sp held m 27 cs = some x) : ∃ (a b c : Bool) (d : Int) (A : Option Addr) (k : Nat) (l : List HD), cs = [.bool a, .bool b, .bool c, .int .i64 d, .slice A l.length k] ∧ Reads w w.heap.size 7 A l.length (rowC hdC l) := by
  obtain ⟨n, fld⟩ := struct_fields ou27 ofs27 h
  have hl : cs.length = 5 := by
    obtain ⟨_, _, _, _, hl, _, _⟩ := DataW.trod_struct ou27 h
    rwa [oc27] at hl
  match cs, hl with
  | [x0, x1, x2, x3, x4], _ =>
    obtain ⟨y0, h0⟩ := fld 0 4 0 rfl
    rw [oc4] at h0
    simp only [List.drop_zero, List.drop_succ_cons, List.take_succ_cons, List.take_zero] at h0
    obtain ⟨k0, e0, _⟩ := DataW.trod_bool Try.underlying4 h0
    simp only [List.cons.injEq, and_true] at e0
    subst e0
    obtain ⟨y1, h1⟩ := fld 1 4 1 rfl
    rw [oc4] at h1
    simp only [List.drop_zero, List.drop_succ_cons, List.take_succ_cons, List.take_zero] at h1
    obtain ⟨k1, e1, _⟩ := DataW.trod_bool Try.underlying4 h1
    simp only [List.cons.injEq, and_true] at e1
    subst e1
    obtain ⟨y2, h2⟩ := fld 2 4 2 rfl
    rw [oc4] at h2
    simp only [List.drop_zero, List.drop_succ_cons, List.take_succ_cons, List.take_zero] at h2
    obtain ⟨k2, e2, _⟩ := DataW.trod_bool Try.underlying4 h2
    simp only [List.cons.injEq, and_true] at e2
    subst e2
    obtain ⟨y3, h3⟩ := fld 3 3 3 rfl
    rw [oc3] at h3
    simp only [List.drop_zero, List.drop_succ_cons, List.take_succ_cons, List.take_zero] at h3
    obtain ⟨k3, e3, _, v3⟩ := DataW.trod_int Try.underlying3 h3
    simp only [List.cons.injEq, and_true] at e3
    subst e3
    obtain ⟨y4, h4⟩ := fld 4 25 4 rfl
    rw [oc25] at h4
    simp only [List.drop_zero, List.drop_succ_cons, List.take_succ_cons, List.take_zero] at h4
    obtain ⟨A4, n4, c4, rfl⟩ := slice_value Try.underlying25 h4
    obtain ⟨l4, hr4, ok4⟩ := rows_open hdC (fun _ => True) 25 34 7 Try.underlying25 oc34 (by omega) hdC_len (fun _ _ _ _ h => head_open h) h4
    have hn4 := hr4.1
    subst hn4
    exact ⟨k0, k1, k2, k3, A4, c4, l4, rfl, hr4.reads hdC_len (by omega)⟩
set_option maxRecDepth 100000 in
theorem packet_open {m : Nat} {cs : List Value} {x : DataW H × List MemPlace} (h : DataW.trod enc Try.prog w base sp held m 31 cs = some x) : ∃ (p : PkV) (q : PkP), cs = (pkA p q).toList ∧ PkOK w p q ∧ p.lsas.length ≤ 9223372036854775807 := by
  obtain ⟨n, fld⟩ := struct_fields ou31 ofs31 h
  have hl : cs.length = 16 := by
    obtain ⟨_, _, _, _, hl, _, _⟩ := DataW.trod_struct ou31 h
    rwa [oc31] at hl
  match cs, hl with
  | [x0, x1, x2, x3, x4, x5, x6, x7, x8, x9, x10, x11, x12, x13, x14, x15], _ =>
    obtain ⟨y0, h0⟩ := fld 0 3 0 rfl
    rw [oc3] at h0
    simp only [List.drop_zero, List.drop_succ_cons, List.take_succ_cons, List.take_zero] at h0
    obtain ⟨k0, e0, _, v0⟩ := DataW.trod_int Try.underlying3 h0
    simp only [List.cons.injEq, and_true] at e0
    subst e0
    obtain ⟨y1, h1⟩ := fld 1 3 1 rfl
    rw [oc3] at h1
    simp only [List.drop_zero, List.drop_succ_cons, List.take_succ_cons, List.take_zero] at h1
    obtain ⟨k1, e1, _, v1⟩ := DataW.trod_int Try.underlying3 h1
    simp only [List.cons.injEq, and_true] at e1
    subst e1
    obtain ⟨y2, h2⟩ := fld 2 24 2 rfl
    rw [oc24] at h2
    simp only [List.drop_zero, List.drop_succ_cons, List.take_succ_cons, List.take_zero] at h2
    obtain ⟨ha, hb, hc, hd, he, hA, hk, hl, hq2, hh⟩ := hello_open h2
    obtain ⟨y3, h3⟩ := fld 3 27 8 rfl
    rw [oc27] at h3
    simp only [List.drop_zero, List.drop_succ_cons, List.take_succ_cons, List.take_zero] at h3
    obtain ⟨da, db, dc, dd, dA, dk, dl, hq3, hdd⟩ := dd_open h3
    obtain ⟨y4, h4⟩ := fld 4 28 13 rfl
    rw [oc28] at h4
    simp only [List.drop_zero, List.drop_succ_cons, List.take_succ_cons, List.take_zero] at h4
    obtain ⟨A4, n4, c4, rfl⟩ := slice_value Try.underlying28 h4
    obtain ⟨l4, hr4, ok4⟩ := rows_open KV.cells (fun _ => True) 28 66 3 Try.underlying28 oc66 (by omega) KV.cells_len (fun _ _ _ _ h => key_open h) h4
    have hn4 := hr4.1
    subst hn4
    obtain ⟨y5, h5⟩ := fld 5 29 14 rfl
    rw [oc29] at h5
    simp only [List.drop_zero, List.drop_succ_cons, List.take_succ_cons, List.take_zero] at h5
    obtain ⟨A5, n5, c5, rfl⟩ := slice_value Try.underlying29 h5
    obtain ⟨l5, hr5, ok5⟩ := rows_open lsaC (fun x => LOK w x.1 x.2) 29 37 9 Try.underlying29 oc37 (by omega) lsaC_len (fun _ _ _ _ h => lsa_open h) h5
    have hn5 := hr5.1
    subst hn5
    obtain ⟨y6, h6⟩ := fld 6 25 15 rfl
    rw [oc25] at h6
    simp only [List.drop_zero, List.drop_succ_cons, List.take_succ_cons, List.take_zero] at h6
    obtain ⟨A6, n6, c6, rfl⟩ := slice_value Try.underlying25 h6
    obtain ⟨l6, hr6, ok6⟩ := rows_open hdC (fun _ => True) 25 34 7 Try.underlying25 oc34 (by omega) hdC_len (fun _ _ _ _ h => head_open h) h6
    have hn6 := hr6.1
    subst hn6
    exact ⟨⟨k0, k1, ha, hb, hc, hd, he, hl, da, db, dc, dd, dl, l4, l5, l6⟩, ⟨hA, hk, dA, dk, A4, c4, A5, c5, A6, c6⟩, by simp only [List.cons.injEq, and_true] at hq2 hq3; obtain ⟨rfl, rfl, rfl, rfl, rfl, rfl⟩ := hq2; obtain ⟨rfl, rfl, rfl, rfl, rfl⟩ := hq3; rfl, ⟨hh, hdd, hr4.reads KV.cells_len (by omega), hr5.reads lsaC_len (by omega), hr6.reads hdC_len (by omega), ok5⟩, slice_len Try.underlying29 h5⟩
end
end Go.Proofs.Ytdenfgnkbfbpmaa
