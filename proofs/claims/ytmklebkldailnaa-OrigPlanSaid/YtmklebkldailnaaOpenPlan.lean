/-
  A Mine opened to its cells.
-/
import Derived.Test.YtmklebkldailnaaLawPlan
namespace Go.Proofs.Ytmklebkldailnaa
open Go.RowKit Go.ChangeShapes Go.WideShapes
set_option linter.unusedSimpArgs false
set_option linter.unusedVariables false

instance : Inhabited Lk := ⟨⟨0, 0, 0, 0⟩⟩
theorem RowAt.reads {α : Type} {cells : α → List Value} {size : Nat} {w : World} {A : Option Addr} {n : Nat} {l : List α} (hc : ∀ a, (cells a).length = size) (hs : 0 < size) (h : RowAt cells size w A n l) : Reads w w.heap.size size A n (rowC cells l) := by
  obtain ⟨h1, h2⟩ := h
  refine ⟨by rw [rowC_length cells size hc, h1], fun hp => ?_⟩
  obtain ⟨b, off, e, hb, hq⟩ := h2 hp
  refine ⟨b, off, e, hb, fun j u hu => ?_⟩
  have hj : j < l.length * size := by have := (List.getElem?_eq_some_iff.1 hu).1; rwa [rowC_length cells size hc] at this
  have hk : j / size < l.length := Nat.div_lt_of_lt_mul (by rwa [Nat.mul_comm] at hj)
  have hr : j % size < size := Nat.mod_lt _ hs
  have e1 : j / size * size + j % size = j := by rw [Nat.mul_comm]; exact Nat.div_add_mod j size
  have h3 := rowC_at cells size hc l (j / size) (j % size) l[j / size] (List.getElem?_eq_getElem hk) hr
  rw [e1, hu] at h3
  have h4 := hq (j / size) l[j / size] (List.getElem?_eq_getElem hk) (j % size) u h3.symm
  rw [Nat.add_assoc, e1] at h4
  exact h4
theorem i64_low {n : Int} (h : (Lit.int .i64 n).wf = true) : -9223372036854775808 ≤ n := by
  have hm : IntKind.i64.min = -9223372036854775808 := rfl
  have : -9223372036854775808 ≤ n ∧ n ≤ IntKind.i64.max := by simpa [Lit.wf, hm] using h
  exact this.1
theorem oc3 : Try.prog.cellsOf 3 = 1 := by kernel_rfl
theorem oc4 : Try.prog.cellsOf 4 = 1 := by kernel_rfl
theorem ou23 : Try.prog.underlying 23 = some (.struct (Try.prog.fieldsOf 23)) := by kernel_rfl
theorem ofs23 : (Try.prog.fieldsOf 23).toList.map (fun f => (f.type, f.offset)) = [(3, 0), (3, 1), (3, 2), (3, 3), (3, 4), (3, 5), (3, 6)] := by kernel_rfl
theorem oc23 : Try.prog.cellsOf 23 = 7 := by kernel_rfl
theorem ou69 : Try.prog.underlying 69 = some (.struct (Try.prog.fieldsOf 69)) := by kernel_rfl
theorem ofs69 : (Try.prog.fieldsOf 69).toList.map (fun f => (f.type, f.offset)) = [(3, 0), (3, 1), (3, 2), (3, 3)] := by kernel_rfl
theorem oc69 : Try.prog.cellsOf 69 = 4 := by kernel_rfl
theorem oc24 : Try.prog.cellsOf 24 = 1 := by kernel_rfl
theorem oc25 : Try.prog.cellsOf 25 = 1 := by kernel_rfl
theorem ou27 : Try.prog.underlying 27 = some (.struct (Try.prog.fieldsOf 27)) := by kernel_rfl
theorem ofs27 : (Try.prog.fieldsOf 27).toList.map (fun f => (f.type, f.offset)) = [(23, 0), (24, 7), (25, 8)] := by kernel_rfl
theorem oc27 : Try.prog.cellsOf 27 = 9 := by kernel_rfl
theorem ou29 : Try.prog.underlying 29 = some (.struct (Try.prog.fieldsOf 29)) := by kernel_rfl
theorem ofs29 : (Try.prog.fieldsOf 29).toList.map (fun f => (f.type, f.offset)) = [(27, 0), (4, 9), (27, 10), (4, 19), (3, 20), (3, 21), (4, 22)] := by kernel_rfl
theorem oc29 : Try.prog.cellsOf 29 = 23 := by kernel_rfl
section
variable {H : Type} {enc : TypeId × Value → H} {w : World} {base : Nat} {sp : Nat → Bool} {held : Bool}
set_option maxRecDepth 100000 in
theorem head_open {m : Nat} {cs : List Value} {x : DataW H × List MemPlace} (h : DataW.trod enc Try.prog w base sp held m 23 cs = some x) : ∃ z : HD, cs = [.int .i64 z.age, .int .i64 z.kind, .int .i64 z.id, .int .i64 z.adv, .int .i64 z.seq, .int .i64 z.sum, .int .i64 z.long] ∧ -9223372036854775808 ≤ z.seq := by
  obtain ⟨n, fld⟩ := struct_fields ou23 ofs23 h
  have hl : cs.length = 7 := by
    obtain ⟨_, _, _, _, hl, _, _⟩ := DataW.trod_struct ou23 h
    rwa [oc23] at hl
  match cs, hl with
  | [x0, x1, x2, x3, x4, x5, x6], _ =>
    obtain ⟨y0, h0⟩ := fld 0 3 0 rfl
    rw [oc3] at h0
    simp only [List.drop_zero, List.drop_succ_cons, List.take_succ_cons, List.take_zero] at h0
    obtain ⟨k0, e0, _, v0⟩ := DataW.trod_int Try.underlying3 h0
    simp only [List.cons.injEq, and_true] at e0
    subst e0
    obtain ⟨y1, h1⟩ := fld 1 3 1 rfl
    rw [oc3] at h1
    simp only [List.drop_zero, List.drop_succ_cons, List.take_succ_cons, List.take_zero] at h1
    obtain ⟨k1, e1, _, v1⟩ := DataW.trod_int Try.underlying3 h1
    simp only [List.cons.injEq, and_true] at e1
    subst e1
    obtain ⟨y2, h2⟩ := fld 2 3 2 rfl
    rw [oc3] at h2
    simp only [List.drop_zero, List.drop_succ_cons, List.take_succ_cons, List.take_zero] at h2
    obtain ⟨k2, e2, _, v2⟩ := DataW.trod_int Try.underlying3 h2
    simp only [List.cons.injEq, and_true] at e2
    subst e2
    obtain ⟨y3, h3⟩ := fld 3 3 3 rfl
    rw [oc3] at h3
    simp only [List.drop_zero, List.drop_succ_cons, List.take_succ_cons, List.take_zero] at h3
    obtain ⟨k3, e3, _, v3⟩ := DataW.trod_int Try.underlying3 h3
    simp only [List.cons.injEq, and_true] at e3
    subst e3
    obtain ⟨y4, h4⟩ := fld 4 3 4 rfl
    rw [oc3] at h4
    simp only [List.drop_zero, List.drop_succ_cons, List.take_succ_cons, List.take_zero] at h4
    obtain ⟨k4, e4, _, v4⟩ := DataW.trod_int Try.underlying3 h4
    simp only [List.cons.injEq, and_true] at e4
    subst e4
    obtain ⟨y5, h5⟩ := fld 5 3 5 rfl
    rw [oc3] at h5
    simp only [List.drop_zero, List.drop_succ_cons, List.take_succ_cons, List.take_zero] at h5
    obtain ⟨k5, e5, _, v5⟩ := DataW.trod_int Try.underlying3 h5
    simp only [List.cons.injEq, and_true] at e5
    subst e5
    obtain ⟨y6, h6⟩ := fld 6 3 6 rfl
    rw [oc3] at h6
    simp only [List.drop_zero, List.drop_succ_cons, List.take_succ_cons, List.take_zero] at h6
    obtain ⟨k6, e6, _, v6⟩ := DataW.trod_int Try.underlying3 h6
    simp only [List.cons.injEq, and_true] at e6
    subst e6
    exact ⟨⟨k0, k1, k2, k3, k4, k5, k6⟩, rfl, i64_low v4⟩
set_option maxRecDepth 100000 in
theorem link_open {m : Nat} {cs : List Value} {x : DataW H × List MemPlace} (h : DataW.trod enc Try.prog w base sp held m 69 cs = some x) : ∃ z : Lk, cs = z.cells ∧ True := by
  obtain ⟨n, fld⟩ := struct_fields ou69 ofs69 h
  have hl : cs.length = 4 := by
    obtain ⟨_, _, _, _, hl, _, _⟩ := DataW.trod_struct ou69 h
    rwa [oc69] at hl
  match cs, hl with
  | [x0, x1, x2, x3], _ =>
    obtain ⟨y0, h0⟩ := fld 0 3 0 rfl
    rw [oc3] at h0
    simp only [List.drop_zero, List.drop_succ_cons, List.take_succ_cons, List.take_zero] at h0
    obtain ⟨k0, e0, _, v0⟩ := DataW.trod_int Try.underlying3 h0
    simp only [List.cons.injEq, and_true] at e0
    subst e0
    obtain ⟨y1, h1⟩ := fld 1 3 1 rfl
    rw [oc3] at h1
    simp only [List.drop_zero, List.drop_succ_cons, List.take_succ_cons, List.take_zero] at h1
    obtain ⟨k1, e1, _, v1⟩ := DataW.trod_int Try.underlying3 h1
    simp only [List.cons.injEq, and_true] at e1
    subst e1
    obtain ⟨y2, h2⟩ := fld 2 3 2 rfl
    rw [oc3] at h2
    simp only [List.drop_zero, List.drop_succ_cons, List.take_succ_cons, List.take_zero] at h2
    obtain ⟨k2, e2, _, v2⟩ := DataW.trod_int Try.underlying3 h2
    simp only [List.cons.injEq, and_true] at e2
    subst e2
    obtain ⟨y3, h3⟩ := fld 3 3 3 rfl
    rw [oc3] at h3
    simp only [List.drop_zero, List.drop_succ_cons, List.take_succ_cons, List.take_zero] at h3
    obtain ⟨k3, e3, _, v3⟩ := DataW.trod_int Try.underlying3 h3
    simp only [List.cons.injEq, and_true] at e3
    subst e3
    exact ⟨⟨k0, k1, k2, k3⟩, rfl, trivial⟩
set_option maxRecDepth 100000 in
theorem lsa_open {m : Nat} {cs : List Value} {x : DataW H × List MemPlace} (h : DataW.trod enc Try.prog w base sp held m 27 cs = some x) : ∃ (l : LV) (p : LP), cs = (lsaA l p).toList ∧ LOK w l p ∧ -9223372036854775808 ≤ l.hd.seq := by
  obtain ⟨n, fld⟩ := struct_fields ou27 ofs27 h
  have hl : cs.length = 9 := by
    obtain ⟨_, _, _, _, hl, _, _⟩ := DataW.trod_struct ou27 h
    rwa [oc27] at hl
  match cs, hl with
  | [x0, x1, x2, x3, x4, x5, x6, x7, x8], _ =>
    obtain ⟨y0, h0⟩ := fld 0 23 0 rfl
    rw [oc23] at h0
    simp only [List.drop_zero, List.drop_succ_cons, List.take_succ_cons, List.take_zero] at h0
    obtain ⟨z0, he0, hs0⟩ := head_open h0
    obtain ⟨y1, h1⟩ := fld 1 24 7 rfl
    rw [oc24] at h1
    simp only [List.drop_zero, List.drop_succ_cons, List.take_succ_cons, List.take_zero] at h1
    obtain ⟨A1, n1, c1, rfl⟩ := slice_value Try.underlying24 h1
    obtain ⟨l1, hr1, ok1⟩ := rows_open Lk.cells (fun _ => True) 24 69 4 Try.underlying24 oc69 (by omega) Lk.cells_len (fun _ _ _ _ h => link_open h) h1
    have hn1 := hr1.1
    subst hn1
    obtain ⟨y2, h2⟩ := fld 2 25 8 rfl
    rw [oc25] at h2
    simp only [List.drop_zero, List.drop_succ_cons, List.take_succ_cons, List.take_zero] at h2
    obtain ⟨A2, n2, c2, rfl⟩ := slice_value Try.underlying25 h2
    obtain ⟨_, _, xs2, hr2, hlf2⟩ := open_slice_flat (fu := 8) (ks := [some .i64]) Try.underlying25 (by kernel_rfl) (by simp) h2
    obtain ⟨l2, rfl⟩ := ints_of_leaves xs2 n2 (by simpa using hr2.1) (by simpa using hlf2)
    have hn2 : l2.length = n2 := by have := hr2.1; rw [ints_length] at this; simpa using this
    subst hn2
    exact ⟨⟨z0, l1, l2⟩, ⟨A1, c1, A2, c2⟩, by simp only [List.cons.injEq, and_true] at he0; obtain ⟨rfl, rfl, rfl, rfl, rfl, rfl, rfl⟩ := he0; rfl, ⟨hr1.reads Lk.cells_len (by omega), hr2⟩, hs0⟩
set_option maxRecDepth 100000 in
theorem mine_open {m : Nat} {cs : List Value} {x : DataW H × List MemPlace} (h : DataW.trod enc Try.prog w base sp held m 29 cs = some x) : ∃ (m : MV) (p q : LP), cs = (mineA m p q).toList ∧ MOK w m p q ∧ -9223372036854775808 ≤ m.last ∧ -9223372036854775808 ≤ m.held.hd.seq := by
  obtain ⟨n, fld⟩ := struct_fields ou29 ofs29 h
  have hl : cs.length = 23 := by
    obtain ⟨_, _, _, _, hl, _, _⟩ := DataW.trod_struct ou29 h
    rwa [oc29] at hl
  match cs, hl with
  | [x0, x1, x2, x3, x4, x5, x6, x7, x8, x9, x10, x11, x12, x13, x14, x15, x16, x17, x18, x19, x20, x21, x22], _ =>
    obtain ⟨y0, h0⟩ := fld 0 27 0 rfl
    rw [oc27] at h0
    simp only [List.drop_zero, List.drop_succ_cons, List.take_succ_cons, List.take_zero] at h0
    obtain ⟨w0, p0, he0, hk0, _⟩ := lsa_open h0
    obtain ⟨y1, h1⟩ := fld 1 4 9 rfl
    rw [oc4] at h1
    simp only [List.drop_zero, List.drop_succ_cons, List.take_succ_cons, List.take_zero] at h1
    obtain ⟨k1, e1, _⟩ := DataW.trod_bool Try.underlying4 h1
    simp only [List.cons.injEq, and_true] at e1
    subst e1
    obtain ⟨y2, h2⟩ := fld 2 27 10 rfl
    rw [oc27] at h2
    simp only [List.drop_zero, List.drop_succ_cons, List.take_succ_cons, List.take_zero] at h2
    obtain ⟨w2, p2, he2, hk2, hq2⟩ := lsa_open h2
    obtain ⟨y3, h3⟩ := fld 3 4 19 rfl
    rw [oc4] at h3
    simp only [List.drop_zero, List.drop_succ_cons, List.take_succ_cons, List.take_zero] at h3
    obtain ⟨k3, e3, _⟩ := DataW.trod_bool Try.underlying4 h3
    simp only [List.cons.injEq, and_true] at e3
    subst e3
    obtain ⟨y4, h4⟩ := fld 4 3 20 rfl
    rw [oc3] at h4
    simp only [List.drop_zero, List.drop_succ_cons, List.take_succ_cons, List.take_zero] at h4
    obtain ⟨k4, e4, _, v4⟩ := DataW.trod_int Try.underlying3 h4
    simp only [List.cons.injEq, and_true] at e4
    subst e4
    obtain ⟨y5, h5⟩ := fld 5 3 21 rfl
    rw [oc3] at h5
    simp only [List.drop_zero, List.drop_succ_cons, List.take_succ_cons, List.take_zero] at h5
    obtain ⟨k5, e5, _, v5⟩ := DataW.trod_int Try.underlying3 h5
    simp only [List.cons.injEq, and_true] at e5
    subst e5
    obtain ⟨y6, h6⟩ := fld 6 4 22 rfl
    rw [oc4] at h6
    simp only [List.drop_zero, List.drop_succ_cons, List.take_succ_cons, List.take_zero] at h6
    obtain ⟨k6, e6, _⟩ := DataW.trod_bool Try.underlying4 h6
    simp only [List.cons.injEq, and_true] at e6
    subst e6
    exact ⟨⟨w0, k1, w2, k3, k4, k5, k6⟩, p0, p2, by simp only [List.cons.injEq, and_true] at he0 he2; obtain ⟨rfl, rfl, rfl, rfl, rfl, rfl, rfl, rfl, rfl⟩ := he0; obtain ⟨rfl, rfl, rfl, rfl, rfl, rfl, rfl, rfl, rfl⟩ := he2; rfl, ⟨hk0, hk2⟩, i64_low v4, hq2⟩
end
end Go.Proofs.Ytmklebkldailnaa
