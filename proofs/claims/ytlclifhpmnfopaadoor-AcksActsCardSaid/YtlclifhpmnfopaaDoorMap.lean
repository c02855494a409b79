/-
  A map of the call's own with int keys, told by a function from keys to raw values: what a look-up, a store, a delete do. Over any program; no statement is proved here.
-/
import Derived.Test.YtlclifhpmnfopaaDoorKit
import Derived.Maps.OwnSet
namespace Go.Proofs.YtlclifhpmnfopaaDoor
open Go.RowKit Go.Maps

/-- every value reads as itself -/
def rawElem (v : Value) : Option (DataW Value × List MemPlace) := some (.held v, [])

/-- Block b is a map of at most n entries; f says what a look-up at an int key answers, z where there is none. -/
def IntMap (P : Program) (K : TypeId) (w : World) (b n : Nat) (z : Value) (f : Int → Value) : Prop :=
  ∃ D : DataW Value, w.ownsMap P K rawElem b n D ∧ ∀ k : Int, (Lit.int .i64 k).wf = true → D.atKey (.int .i64 k) (.held z) = .held (f k)

section
variable {P : Program} {K : TypeId} {w w' : World} {b n : Nat} {z : Value} {f : Int → Value}

theorem IntMap.made (w : World) (P : Program) (K : TypeId) (z : Value) : IntMap P K (w.alloc (.map #[] 0)) w.heap.size 0 z (fun _ => z) :=
  ⟨.map [], World.ownsMap_made _ _ _ _, fun _ _ => rfl⟩
theorem IntMap.lt (h : IntMap P K w b n z f) : b < w.heap.size := by obtain ⟨D, h, _⟩ := h; exact h.lt
theorem IntMap.kept {row : Option Nat} (h : IntMap P K w b n z f) (hg : w.grownBy w' row) (hne : some b ≠ row) : IntMap P K w' b n z f := by
  obtain ⟨D, h, hf⟩ := h; exact ⟨D, h.kept hg hne, hf⟩
theorem IntMap.below {B : Nat} (h : IntMap P K w b n z f) (hb : Below B w w') (hB : b < B) : IntMap P K w' b n z f := by
  obtain ⟨D, ⟨es, clock, hh, F, hs, hD⟩, hf⟩ := h
  exact ⟨D, ⟨es, clock, (hb.block b hB).trans hh, F, hs, hD⟩, hf⟩
theorem IntMap.alloc (h : IntMap P K w b n z f) (o : Obj) : IntMap P K (w.alloc o) b n z f := by
  obtain ⟨D, h, hf⟩ := h; exact ⟨D, h.alloc o, hf⟩
theorem IntMap.drew (h : IntMap P K w b n z f) : IntMap P K w.drew b n z f := h
theorem IntMap.setCell (h : IntMap P K w b n z f) {a : Addr} (ha : b ≠ a.block) (u : Value) : IntMap P K (w.setCell a u) b n z f := by
  obtain ⟨D, h, hf⟩ := h; exact ⟨D, h.setCell ha u, hf⟩
theorem IntMap.mono (h : IntMap P K w b n z f) {n' : Nat} (hn : n ≤ n') : IntMap P K w b n' z f := by
  obtain ⟨D, h, hf⟩ := h; exact ⟨D, h.mono hn, hf⟩

theorem IntMap.look {T E : TypeId} (h : IntMap P K w b n z f) (hK : P.underlying K = some (.int .i64)) (ht : P.underlying T = some (.map K E)) (hz : (zeroValue E).run P w = .ok z w) {k : Int} (hk : (Lit.int .i64 k).wf = true) :
    (Instr.lookup T (.map (some b)) (.int .i64 k) false).run P w = .ok (f k) w := by
  obtain ⟨D, h, hf⟩ := h
  obtain ⟨v, ps, hrun, hv⟩ := h.lookup (int_keyed hK) ht hz (zd := .held z) (zp := []) rfl (keyOf_int_mk hK hk)
  rw [hf k hk] at hv
  simp only [rawElem, Option.some.injEq, Prod.mk.injEq, DataW.held.injEq] at hv
  rw [hrun, hv.1]

theorem IntMap.store {T E : TypeId} (h : IntMap P K w b n z f) (hK : P.underlying K = some (.int .i64)) (ht : P.underlying T = some (.map K E)) (hn : n < maxLen) {k : Int} (hk : (Lit.int .i64 k).wf = true) (u : Value) :
    ∃ w', (Instr.mapUpdate T (.map (some b)) (.int .i64 k) u).run P w = .ok () w' ∧ IntMap P K w' b (n + 1) z (fun x => if x = k then u else f x) ∧ w.grownBy w' (some b) := by
  obtain ⟨D, h, hf⟩ := h
  obtain ⟨w', hrun, h', hg⟩ := h.update (int_keyed hK) ht hn (keyOf_int_mk hK hk) (val := u) (d := .held u) (ps := []) rfl
  refine ⟨w', hrun, ⟨_, h', fun x hx => ?_⟩, hg⟩
  by_cases e : x = k
  · subst e
    show _ = DataW.held (if x = x then u else f x)
    rw [if_pos rfl]
    exact atKey_put_same h.isMap (by simp [WideAt.IsKeyLit]) _ _
  · show _ = DataW.held (if x = k then u else f x)
    rw [if_neg e, atKey_put_other (by intro e'; cases e'; exact e rfl), hf x hx]

theorem IntMap.drop {T E : TypeId} (h : IntMap P K w b n z f) (hK : P.underlying K = some (.int .i64)) (ht : P.underlying T = some (.map K E)) {k : Int} (hk : (Lit.int .i64 k).wf = true) (ty : TypeId) :
    ∃ w', (Builtin.delete_ #[T, K] ty #[.map (some b), .int .i64 k]).run P w = .ok (.tuple #[]) w' ∧ IntMap P K w' b n z (fun x => if x = k then z else f x) ∧ w.grownBy w' (some b) := by
  obtain ⟨D, h, hf⟩ := h
  obtain ⟨w', hrun, h', ht'⟩ := h.drop (int_keyed hK) ht (keyOf_int_mk hK hk) ty
  refine ⟨w', hrun, ⟨_, h', fun x hx => ?_⟩, ht'.grown⟩
  by_cases e : x = k
  · subst e
    show _ = DataW.held (if x = x then z else f x)
    rw [if_pos rfl]
    exact atKey_del_same _
  · show _ = DataW.held (if x = k then z else f x)
    rw [if_neg e, atKey_del_other (by intro e'; cases e'; exact e rfl), hf x hx]
end

def updI (f : Int → Value) (k : Int) (u : Value) : Int → Value := fun x => if x = k then u else f x

theorem wpList_store_int {P : Program} (w : World) {ops : Array Oper} {rest : List Oper} {o : Oper} {a : Act} {Q : Exit → Act → World → Prop}
    (hg : o.guard = none) (m x v : Operand) (T : TypeId) (hop : o.op = Op.mapUpdate T m x v) {K E : TypeId} {b n : Nat} {z : Value} {f : Int → Value}
    (hK : P.underlying K = some (.int .i64)) (ht : P.underlying T = some (.map K E)) (hm : a.eval m = .map (some b)) (h : IntMap P K w b n z f) (hn : n < maxLen) (k : Int) (hk : (Lit.int .i64 k).wf = true) (u : Value)
    (hx : a.eval x = .int .i64 k) (hv : a.eval v = u)
    (hNext : ∀ w', IntMap P K w' b (n + 1) z (updI f k u) → w.grownBy w' (some b) → wpList P ops Q rest (a.put o.dst undef) w') : wpList P ops Q (o :: rest) a w := by
  refine wpList_plain hg fun K' hK' => ?_
  obtain ⟨w', hrun, r1, r2⟩ := h.store hK ht hn hk u
  unfold Oper.wp
  simp [execOp, hop, hm, hx, hv, hrun, Result.andThen]
  exact hK' _ _ (hNext w' r1 r2)

theorem wpList_drop_int {P : Program} (w : World) {ops : Array Oper} {rest : List Oper} {o : Oper} {a : Act} {Q : Exit → Act → World → Prop}
    (hg : o.guard = none) (m x : Operand) (T : TypeId) {K E : TypeId} (hop : o.op = Op.call { callee := Callee.builtin Builtin.delete, args := #[m, x], argTypes := #[T, K] }) {b n : Nat} {z : Value} {f : Int → Value}
    (hK : P.underlying K = some (.int .i64)) (ht : P.underlying T = some (.map K E)) (hm : a.eval m = .map (some b)) (h : IntMap P K w b n z f) (k : Int) (hk : (Lit.int .i64 k).wf = true)
    (hx : a.eval x = .int .i64 k)
    (hNext : ∀ w', IntMap P K w' b n z (updI f k z) → w.grownBy w' (some b) → wpList P ops Q rest (a.put o.dst (.tuple #[])) w') : wpList P ops Q (o :: rest) a w := by
  refine wpList_plain hg fun K' hK' => ?_
  obtain ⟨w', hrun, r1, r2⟩ := h.drop hK ht hk o.type
  unfold Oper.wp execOp
  simp only [hop, resolve, invoke, builtin, Sem.run_bind, Sem.run_pure, Result.andThen_ok, List.map_toArray, List.map_cons, List.map_nil, hm, hx, hrun]
  exact hK' _ _ (hNext w' r1 r2)
end Go.Proofs.YtlclifhpmnfopaaDoor
