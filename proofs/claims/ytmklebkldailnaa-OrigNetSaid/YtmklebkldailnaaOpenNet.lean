/-
  A View opened to its cells.
-/
import Derived.Test.YtmklebkldailnaaLawNet
namespace Go.Proofs.Ytmklebkldailnaa
open Go.RowKit Go.ChangeShapes Go.WideShapes
set_option linter.unusedSimpArgs false
set_option linter.unusedVariables false

instance : Inhabited PV := ⟨⟨0, 0, 0, 0, 0, false, 0⟩⟩
theorem RowAt.reads {α : Type} {cells : α → List Value} {size : Nat} {w : World} {A : Option Addr} {n : Nat} {l : List α} (hc : ∀ a, (cells a).length = size) (hs : 0 < size) (h : RowAt cells size w A n l) : Reads w w.heap.size size A n (rowC cells l) := by
  obtain ⟨h1, h2⟩ := h
  refine ⟨by rw [rowC_length cells size hc, h1], fun hp => ?_⟩
  obtain ⟨b, off, e, hb, hq⟩ := h2 hp
  refine ⟨b, off, e, hb, fun j u hu => ?_⟩
  have hj : j < l.length * size := by have := (List.getElem?_eq_some_iff.1 hu).1; rwa [rowC_length cells size hc] at this
  have hk : j / size < l.length := Nat.div_lt_of_lt_mul (by rwa [Nat.mul_comm] at hj)
  have hr : j % size < size := Nat.mod_lt _ hs
  have e1 : j / size * size + j % size = j := by rw [Nat.mul_comm]; exact Nat.div_add_mod j size
  have h3 := rowC_at cells size hc l (j / size) (j % size) l[j / size] (List.getElem?_eq_getElem hk) hr
  rw [e1, hu] at h3
  have h4 := hq (j / size) l[j / size] (List.getElem?_eq_getElem hk) (j % size) u h3.symm
  rw [Nat.add_assoc, e1] at h4
  exact h4
theorem oc3 : Try.prog.cellsOf 3 = 1 := by kernel_rfl
theorem oc4 : Try.prog.cellsOf 4 = 1 := by kernel_rfl
theorem ou44 : Try.prog.underlying 44 = some (.struct (Try.prog.fieldsOf 44)) := by kernel_rfl
theorem ofs44 : (Try.prog.fieldsOf 44).toList.map (fun f => (f.type, f.offset)) = [(3, 0), (3, 1), (3, 2), (3, 3), (3, 4)] := by kernel_rfl
theorem oc44 : Try.prog.cellsOf 44 = 5 := by kernel_rfl
theorem ou73 : Try.prog.underlying 73 = some (.struct (Try.prog.fieldsOf 73)) := by kernel_rfl
theorem ofs73 : (Try.prog.fieldsOf 73).toList.map (fun f => (f.type, f.offset)) = [(3, 0), (3, 1), (3, 2), (3, 3), (3, 4), (4, 5), (3, 6)] := by kernel_rfl
theorem oc73 : Try.prog.cellsOf 73 = 7 := by kernel_rfl
theorem oc45 : Try.prog.cellsOf 45 = 1 := by kernel_rfl
theorem oc46 : Try.prog.cellsOf 46 = 1 := by kernel_rfl
theorem ou48 : Try.prog.underlying 48 = some (.struct (Try.prog.fieldsOf 48)) := by kernel_rfl
theorem ofs48 : (Try.prog.fieldsOf 48).toList.map (fun f => (f.type, f.offset)) = [(3, 0), (3, 1), (44, 2), (45, 7), (46, 8)] := by kernel_rfl
theorem oc48 : Try.prog.cellsOf 48 = 9 := by kernel_rfl
section
variable {H : Type} {enc : TypeId × Value → H} {w : World} {base : Nat} {sp : Nat → Bool} {held : Bool}
set_option maxRecDepth 100000 in
theorem iface_open {m : Nat} {cs : List Value} {x : DataW H × List MemPlace} (h : DataW.trod enc Try.prog w base sp held m 44 cs = some x) : ∃ a b c d e : Int, cs = [.int .i64 a, .int .i64 b, .int .i64 c, .int .i64 d, .int .i64 e] := by
  obtain ⟨n, fld⟩ := struct_fields ou44 ofs44 h
  have hl : cs.length = 5 := by
    obtain ⟨_, _, _, _, hl, _, _⟩ := DataW.trod_struct ou44 h
    rwa [oc44] at hl
  match cs, hl with
  | [x0, x1, x2, x3, x4], _ =>
    obtain ⟨y0, h0⟩ := fld 0 3 0 rfl
    rw [oc3] at h0
    simp only [List.drop_zero, List.drop_succ_cons, List.take_succ_cons, List.take_zero] at h0
    obtain ⟨k0, e0, _, v0⟩ := DataW.trod_int Try.underlying3 h0
    simp only [List.cons.injEq, and_true] at e0
    subst e0
    obtain ⟨y1, h1⟩ := fld 1 3 1 rfl
    rw [oc3] at h1
    simp only [List.drop_zero, List.drop_succ_cons, List.take_succ_cons, List.take_zero] at h1
    obtain ⟨k1, e1, _, v1⟩ := DataW.trod_int Try.underlying3 h1
    simp only [List.cons.injEq, and_true] at e1
    subst e1
    obtain ⟨y2, h2⟩ := fld 2 3 2 rfl
    rw [oc3] at h2
    simp only [List.drop_zero, List.drop_succ_cons, List.take_succ_cons, List.take_zero] at h2
    obtain ⟨k2, e2, _, v2⟩ := DataW.trod_int Try.underlying3 h2
    simp only [List.cons.injEq, and_true] at e2
    subst e2
    obtain ⟨y3, h3⟩ := fld 3 3 3 rfl
    rw [oc3] at h3
    simp only [List.drop_zero, List.drop_succ_cons, List.take_succ_cons, List.take_zero] at h3
    obtain ⟨k3, e3, _, v3⟩ := DataW.trod_int Try.underlying3 h3
    simp only [List.cons.injEq, and_true] at e3
    subst e3
    obtain ⟨y4, h4⟩ := fld 4 3 4 rfl
    rw [oc3] at h4
    simp only [List.drop_zero, List.drop_succ_cons, List.take_succ_cons, List.take_zero] at h4
    obtain ⟨k4, e4, _, v4⟩ := DataW.trod_int Try.underlying3 h4
    simp only [List.cons.injEq, and_true] at e4
    subst e4
    exact ⟨k0, k1, k2, k3, k4, rfl⟩
set_option maxRecDepth 100000 in
theorem peer_open {m : Nat} {cs : List Value} {x : DataW H × List MemPlace} (h : DataW.trod enc Try.prog w base sp held m 73 cs = some x) : ∃ z : PV, cs = z.cells ∧ True := by
  obtain ⟨n, fld⟩ := struct_fields ou73 ofs73 h
  have hl : cs.length = 7 := by
    obtain ⟨_, _, _, _, hl, _, _⟩ := DataW.trod_struct ou73 h
    rwa [oc73] at hl
  match cs, hl with
  | [x0, x1, x2, x3, x4, x5, x6], _ =>
    obtain ⟨y0, h0⟩ := fld 0 3 0 rfl
    rw [oc3] at h0
    simp only [List.drop_zero, List.drop_succ_cons, List.take_succ_cons, List.take_zero] at h0
    obtain ⟨k0, e0, _, v0⟩ := DataW.trod_int Try.underlying3 h0
    simp only [List.cons.injEq, and_true] at e0
    subst e0
    obtain ⟨y1, h1⟩ := fld 1 3 1 rfl
    rw [oc3] at h1
    simp only [List.drop_zero, List.drop_succ_cons, List.take_succ_cons, List.take_zero] at h1
    obtain ⟨k1, e1, _, v1⟩ := DataW.trod_int Try.underlying3 h1
    simp only [List.cons.injEq, and_true] at e1
    subst e1
    obtain ⟨y2, h2⟩ := fld 2 3 2 rfl
    rw [oc3] at h2
    simp only [List.drop_zero, List.drop_succ_cons, List.take_succ_cons, List.take_zero] at h2
    obtain ⟨k2, e2, _, v2⟩ := DataW.trod_int Try.underlying3 h2
    simp only [List.cons.injEq, and_true] at e2
    subst e2
    obtain ⟨y3, h3⟩ := fld 3 3 3 rfl
    rw [oc3] at h3
    simp only [List.drop_zero, List.drop_succ_cons, List.take_succ_cons, List.take_zero] at h3
    obtain ⟨k3, e3, _, v3⟩ := DataW.trod_int Try.underlying3 h3
    simp only [List.cons.injEq, and_true] at e3
    subst e3
    obtain ⟨y4, h4⟩ := fld 4 3 4 rfl
    rw [oc3] at h4
    simp only [List.drop_zero, List.drop_succ_cons, List.take_succ_cons, List.take_zero] at h4
    obtain ⟨k4, e4, _, v4⟩ := DataW.trod_int Try.underlying3 h4
    simp only [List.cons.injEq, and_true] at e4
    subst e4
    obtain ⟨y5, h5⟩ := fld 5 4 5 rfl
    rw [oc4] at h5
    simp only [List.drop_zero, List.drop_succ_cons, List.take_succ_cons, List.take_zero] at h5
    obtain ⟨k5, e5, _⟩ := DataW.trod_bool Try.underlying4 h5
    simp only [List.cons.injEq, and_true] at e5
    subst e5
    obtain ⟨y6, h6⟩ := fld 6 3 6 rfl
    rw [oc3] at h6
    simp only [List.drop_zero, List.drop_succ_cons, List.take_succ_cons, List.take_zero] at h6
    obtain ⟨k6, e6, _, v6⟩ := DataW.trod_int Try.underlying3 h6
    simp only [List.cons.injEq, and_true] at e6
    subst e6
    exact ⟨⟨k0, k1, k2, k3, k4, k5, k6⟩, rfl, trivial⟩
set_option maxRecDepth 100000 in
theorem view_open {m : Nat} {cs : List Value} {x : DataW H × List MemPlace} (h : DataW.trod enc Try.prog w base sp held m 48 cs = some x) : ∃ (v : VV) (p : VP), cs = (viewA v p).toList ∧ VOK w v p := by
  obtain ⟨n, fld⟩ := struct_fields ou48 ofs48 h
  have hl : cs.length = 9 := by
    obtain ⟨_, _, _, _, hl, _, _⟩ := DataW.trod_struct ou48 h
    rwa [oc48] at hl
  match cs, hl with
  | [x0, x1, x2, x3, x4, x5, x6, x7, x8], _ =>
    obtain ⟨y0, h0⟩ := fld 0 3 0 rfl
    rw [oc3] at h0
    simp only [List.drop_zero, List.drop_succ_cons, List.take_succ_cons, List.take_zero] at h0
    obtain ⟨k0, e0, _, v0⟩ := DataW.trod_int Try.underlying3 h0
    simp only [List.cons.injEq, and_true] at e0
    subst e0
    obtain ⟨y1, h1⟩ := fld 1 3 1 rfl
    rw [oc3] at h1
    simp only [List.drop_zero, List.drop_succ_cons, List.take_succ_cons, List.take_zero] at h1
    obtain ⟨k1, e1, _, v1⟩ := DataW.trod_int Try.underlying3 h1
    simp only [List.cons.injEq, and_true] at e1
    subst e1
    obtain ⟨y2, h2⟩ := fld 2 44 2 rfl
    rw [oc44] at h2
    simp only [List.drop_zero, List.drop_succ_cons, List.take_succ_cons, List.take_zero] at h2
    obtain ⟨a2, b2, c2, d2, e2, he2⟩ := iface_open h2
    obtain ⟨y3, h3⟩ := fld 3 45 7 rfl
    rw [oc45] at h3
    simp only [List.drop_zero, List.drop_succ_cons, List.take_succ_cons, List.take_zero] at h3
    obtain ⟨A3, n3, c3, rfl⟩ := slice_value Try.underlying45 h3
    obtain ⟨l3, hr3, ok3⟩ := rows_open PV.cells (fun _ => True) 45 73 7 Try.underlying45 oc73 (by omega) PV.cells_len (fun _ _ _ _ h => peer_open h) h3
    have hn3 := hr3.1
    subst hn3
    obtain ⟨y4, h4⟩ := fld 4 46 8 rfl
    rw [oc46] at h4
    simp only [List.drop_zero, List.drop_succ_cons, List.take_succ_cons, List.take_zero] at h4
    obtain ⟨A4, n4, c4, rfl⟩ := slice_value Try.underlying46 h4
    exact ⟨⟨k0, k1, a2, b2, c2, d2, e2, l3⟩, ⟨A3, c3, A4, n4, c4⟩, by simp only [List.cons.injEq, and_true] at he2; obtain ⟨rfl, rfl, rfl, rfl, rfl⟩ := he2; rfl, hr3.reads PV.cells_len (by omega)⟩
end
end Go.Proofs.Ytmklebkldailnaa
