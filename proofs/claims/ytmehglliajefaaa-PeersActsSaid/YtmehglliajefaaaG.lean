/-
  A Hello, and slices of acts, opened to their cells.
-/
import Derived.Test.YtmehglliajefaaaF
namespace Go.Proofs.Ytmehglliajefaaa
open Go.RowKit Go.ChangeShapes Go.WideShapes

/-- a Hello, and where its numbers lie -/
structure HV where
  every : Int
  dead : Int
  prio : Int
  dr : Int
  bdr : Int
  seen : List Int
  A : Option Addr
  c : Nat
instance : Inhabited HV := ⟨⟨0, 0, 0, 0, 0, [], none, 0⟩⟩
def HV.cells (h : HV) : List Value := [.int .i64 h.every, .int .i64 h.dead, .int .i64 h.prio, .int .i64 h.dr, .int .i64 h.bdr, .slice h.A h.seen.length h.c]
def HVOK (w : World) (h : HV) : Prop := Reads w w.heap.size 1 h.A h.seen.length (ints h.seen)
structure ActV where
  kind : Int
  id : Int
  state : Int
  on : Int
  h : HV
instance : Inhabited ActV := ⟨⟨0, 0, 0, 0, default⟩⟩
def ActV.cells (a : ActV) : List Value := [.int .i64 a.kind, .int .i64 a.id, .int .i64 a.state, .int .u8 a.on] ++ a.h.cells

theorem u24 : Try.prog.underlying 24 = some (.struct (Try.prog.fieldsOf 24)) := by kernel_rfl
theorem fs24 : (Try.prog.fieldsOf 24).toList.map (fun f => (f.type, f.offset)) = [(3, 0), (3, 1), (3, 2), (3, 3), (3, 4), (22, 5)] := by kernel_rfl
theorem c24 : Try.prog.cellsOf 24 = 6 := by kernel_rfl
theorem u40 : Try.prog.underlying 40 = some (.struct (Try.prog.fieldsOf 40)) := by kernel_rfl
theorem fs40 : (Try.prog.fieldsOf 40).toList.map (fun f => (f.type, f.offset)) = [(3, 0), (3, 1), (3, 2), (5, 3), (24, 4)] := by kernel_rfl
theorem c40 : Try.prog.cellsOf 40 = 10 := by kernel_rfl
theorem c3 : Try.prog.cellsOf 3 = 1 := by kernel_rfl
theorem c5 : Try.prog.cellsOf 5 = 1 := by kernel_rfl
theorem c22 : Try.prog.cellsOf 22 = 1 := by kernel_rfl

section
variable {H : Type} {enc : TypeId × Value → H} {w : World} {base : Nat} {sp : Nat → Bool} {held : Bool}
theorem hello_open {m : Nat} {cs : List Value} {x : DataW H × List MemPlace} (h : DataW.trod enc Try.prog w base sp held m 24 cs = some x) : ∃ f : HV, cs = f.cells ∧ HVOK w f := by
  obtain ⟨n, fld⟩ := struct_fields u24 fs24 h
  have hl : cs.length = 6 := by
    obtain ⟨_, _, _, _, hl, _, _⟩ := DataW.trod_struct u24 h
    rwa [c24] at hl
  match cs, hl with
  | [a, b, d, e, f, g], _ =>
    obtain ⟨y0, h0⟩ := fld 0 3 0 rfl
    obtain ⟨y1, h1⟩ := fld 1 3 1 rfl
    obtain ⟨y2, h2⟩ := fld 2 3 2 rfl
    obtain ⟨y3, h3⟩ := fld 3 3 3 rfl
    obtain ⟨y4, h4⟩ := fld 4 3 4 rfl
    obtain ⟨y5, h5⟩ := fld 5 22 5 rfl
    rw [c3] at h0 h1 h2 h3 h4
    rw [c22] at h5
    simp only [List.drop_zero, List.drop_succ_cons, List.take_succ_cons, List.take_zero] at h0 h1 h2 h3 h4 h5
    obtain ⟨k0, e0, _, _⟩ := DataW.trod_int Try.underlying3 h0
    obtain ⟨k1, e1, _, _⟩ := DataW.trod_int Try.underlying3 h1
    obtain ⟨k2, e2, _, _⟩ := DataW.trod_int Try.underlying3 h2
    obtain ⟨k3, e3, _, _⟩ := DataW.trod_int Try.underlying3 h3
    obtain ⟨k4, e4, _, _⟩ := DataW.trod_int Try.underlying3 h4
    simp only [List.cons.injEq, and_true] at e0 e1 e2 e3 e4
    subst e0 e1 e2 e3 e4
    obtain ⟨A, nn, c, rfl⟩ := slice_value Try.underlying22 h5
    obtain ⟨_, _, xs0, hr0, hlf0⟩ := open_slice_flat (fu := 8) (ks := [some .i64]) Try.underlying22 (by kernel_rfl) (by simp) h5
    obtain ⟨zs, rfl⟩ := ints_of_leaves xs0 nn (by simpa using hr0.1) (by simpa using hlf0)
    have hzl : zs.length = nn := by have := hr0.1; rw [ints_length] at this; simpa using this
    subst hzl
    exact ⟨⟨k0, k1, k2, k3, k4, zs, A, c⟩, rfl, by simpa [HVOK] using hr0⟩

theorem act_open {m : Nat} {cs : List Value} {x : DataW H × List MemPlace} (hl : cs.length = 10) (h : DataW.trod enc Try.prog w base sp held m 40 cs = some x) : ∃ a : ActV, cs = a.cells ∧ HVOK w a.h ∧ 0 ≤ a.on ∧ a.on < 256 := by
  obtain ⟨n, fld⟩ := struct_fields u40 fs40 h
  match cs, hl with
  | [a, b, d, e, f0, f1, f2, f3, f4, f5], _ =>
    obtain ⟨y0, h0⟩ := fld 0 3 0 rfl
    obtain ⟨y1, h1⟩ := fld 1 3 1 rfl
    obtain ⟨y2, h2⟩ := fld 2 3 2 rfl
    obtain ⟨y3, h3⟩ := fld 3 5 3 rfl
    obtain ⟨y4, h4⟩ := fld 4 24 4 rfl
    rw [c3] at h0 h1 h2
    rw [c5] at h3
    rw [c24] at h4
    simp only [List.drop_zero, List.drop_succ_cons, List.take_succ_cons, List.take_zero] at h0 h1 h2 h3 h4
    obtain ⟨k0, e0, _, _⟩ := DataW.trod_int Try.underlying3 h0
    obtain ⟨k1, e1, _, _⟩ := DataW.trod_int Try.underlying3 h1
    obtain ⟨k2, e2, _, _⟩ := DataW.trod_int Try.underlying3 h2
    obtain ⟨k3, e3, _, w3⟩ := DataW.trod_int Try.underlying5 h3
    simp only [List.cons.injEq, and_true] at e0 e1 e2 e3
    subst e0 e1 e2 e3
    obtain ⟨f, hf, hok⟩ := hello_open h4
    have := u8_wf w3
    exact ⟨⟨k0, k1, k2, k3, f⟩, by rw [ActV.cells, ← hf]; rfl, hok, this.1, this.2⟩
theorem acts_open {m : Nat} {A : Option Addr} {n c : Nat} {x : DataW H × List MemPlace} (h : DataW.trod enc Try.prog w base sp held m 35 [.slice A n c] = some x) : ∃ l, RowAt ActV.cells 10 w A n l ∧ ∀ a ∈ l, HVOK w a.h ∧ 0 ≤ a.on ∧ a.on < 256 :=
  rows_open ActV.cells (fun a => HVOK w a.h ∧ 0 ≤ a.on ∧ a.on < 256) 35 40 10 Try.underlying35 c40 (by omega) (fun _ => rfl) (fun _ _ _ hl h => act_open hl h) h
end
end Go.Proofs.Ytmehglliajefaaa
