/-
  What single operations answer, each with its operands told. No statement is proved here.
-/
import Derived.Test.YtdenfgnkbfbpmaaSlot
import Derived.Laws.CopyRow
import Derived.Great.BuildSlice
namespace Go.Proofs.Ytdenfgnkbfbpmaa
open Go.RowKit
set_option linter.unusedVariables false
set_option linter.unusedSimpArgs false

section
variable {P : Program} {ops : Array Oper} {Q : Exit → Act → World → Prop} {o : Oper} {a : Act} {w : World} {K : Act → World → Prop} {E : Prop} {v : Value}
/-- a struct type of so many cells -/
def structB (P : Program) (ty n : Nat) : Bool := match P.underlying ty, P.info? ty with | some (.struct _), some i => i.size == n | _, _ => false
theorem run_loadVarS (t n : Nat) (p : Addr) (out : List Value) (hT : structB P t n = true) (hn : out.length = n) (hc : ∀ j v, out[j]? = some v → w.cell? (p.add j) = some v) : (loadVar t p).run P w = .ok (.agg out.toArray) w := by
  unfold structB at hT
  split at hT
  · rename_i fs i hu hi
    have hsz : i.size = out.length := by rw [hn]; simpa using hT
    simp [loadVar, isAgg, underlying, hu, sizeOf, typeInfo, hi, hsz, run_loadCells_list (P := P) w p out hc]
  · cases hT
/-- a struct out of a block -/
theorem run_loadS {x : Operand} {t g k n T : Nat} {cs : Array Value} {out : List Value} (ho : o.op = .load t x) (hx : a.eval x = .pointer (some ⟨g, k, none⟩)) (hT : structB P t n = true) (hg : Blk w g T cs) (hcut : (cs.toList.drop k).take n = out) (hn : out.length = n) : (execOp a.eval o).run P w = .ok (.value (.agg out.toArray)) w := by
  have hl := run_loadVarS (P := P) (w := w) t n ⟨g, k, none⟩ out hT hn (fun j v hj => by
    rw [← hcut] at hj
    have hj' : cs.toList[k + j]? = some v := by
      rw [List.getElem?_take] at hj
      split at hj
      · rw [List.getElem?_drop] at hj; exact hj
      · cases hj
    have := hg.cell (k + j)
    have e : (⟨g, k, none⟩ : Addr).add j = ⟨g, k + j, none⟩ := by
      unfold Addr.add
      split
      · rename_i h; subst h; rfl
      · rfl
    rw [e, this]
    simpa using hj')
  unfold execOp; simp only [ho]; rw [hx]
  simp [Instr.loadAt, Instr.sureAddr, hl]
/-- a cell, or a struct, into a block -/
theorem run_store {x y : Operand} {t g k n T : Nat} {cs cells cs' : Array Value} (ho : o.op = .store t x y) (hx : a.eval x = .pointer (some ⟨g, k, none⟩)) (hy : a.eval y = v) (hv : v.cells = cells) (hg : Blk w g T cs) (hi : (P.info? t).map (·.size) = some n)
    (hs : k + n ≤ cs.size ∧ cells.size = n ∧ cells.all (·.oneCell') = true) (hc : (layL cs.toList k cells.toList).toArray = cs') : (execOp a.eval o).run P w = .ok .skip (w.setRow g cs') := by
  have h := run_storeCells_at (P := P) g k T cells.toList 0 cs w hg (by simp; omega) (fun v hv => (Array.all_eq_true_iff_forall_mem.1 hs.2.2) v (by simpa using hv))
  unfold execOp; simp only [ho]; rw [hx, hy]
  cases hq : P.info? t with
  | none => simp [hq] at hi
  | some i =>
    have hsz : cells.size = i.size := by simp [hq] at hi; omega
    simp only [Nat.add_zero] at h
    subst hc
    simp [Instr.storeAt, Instr.sureAddr, storeVar, sizeOf, typeInfo, hq, hv, hsz, h, layL]
theorem run_bin {x y : Operand} {t t' : TypeId} {op : BinOp} {u u' r : Value} (ho : o.op = .binOp op t x y t') (hx : a.eval x = u) (hy : a.eval y = u') (hr : (do eqGuard op t x y u u'; binOp op t u u' : Sem Value) = pure r) : (execOp a.eval o).run P w = .ok (.value r) w := by
  unfold execOp; simp only [ho]; rw [hx, hy]
  simp only [hr]; rfl
theorem run_addI {x y : Operand} {t t' : TypeId} {p q n : Int} (ho : o.op = .binOp .add t x y t') (hx : a.eval x = .int .i64 p) (hy : a.eval y = .int .i64 q) (h : -9223372036854775808 ≤ p + q ∧ p + q ≤ 9223372036854775807) (hn : p + q = n) : (execOp a.eval o).run P w = .ok (.value (.int .i64 n)) w := by
  rw [run_bin (P := P) (w := w) (r := .int .i64 (IntKind.wrap .i64 (p + q))) ho hx hy rfl, IntWalk.i64_left, IntWalk.wrap64_in _ h, hn]
theorem run_subI {x y : Operand} {t t' : TypeId} {p q n : Int} (ho : o.op = .binOp .sub t x y t') (hx : a.eval x = .int .i64 p) (hy : a.eval y = .int .i64 q) (h : -9223372036854775808 ≤ p - q ∧ p - q ≤ 9223372036854775807) (hn : p - q = n) : (execOp a.eval o).run P w = .ok (.value (.int .i64 n)) w := by
  rw [run_bin (P := P) (w := w) (r := .int .i64 (IntKind.wrap .i64 (p - q))) ho hx hy rfl, IntWalk.i64_left, IntWalk.wrap64_in _ h, hn]
theorem run_cmp {x y : Operand} {t t' : TypeId} {op : BinOp} {k : IntKind} {p q : Int} {b b' : Bool} (ho : o.op = .binOp op t x y t') (hx : a.eval x = .int k p) (hy : a.eval y = .int k q) (hr : (do eqGuard op t x y (.int k p) (.int k q); binOp op t (.int k p) (.int k q) : Sem Value) = pure (.bool b)) (hb : b = b') : (execOp a.eval o).run P w = .ok (.value (.bool b')) w := by
  rw [run_bin (P := P) (w := w) ho hx hy hr, hb]
theorem run_not {x : Operand} {t : TypeId} {b b' : Bool} (ho : o.op = .unOp .not t x) (hx : a.eval x = .bool b) (hb : (!b) = b') : (execOp a.eval o).run P w = .ok (.value (.bool b')) w := by
  unfold execOp; simp only [ho]; rw [hx, ← hb]; rfl
theorem run_extract {x : Operand} {k : Nat} {vs : Array Value} (ho : o.op = .extract x k) (hx : a.eval x = .tuple vs) (hv : vs[k]? = some v) : (execOp a.eval o).run P w = .ok (.value v) w := by
  unfold execOp; simp only [ho]; rw [hx]
  simp [Instr.extract, hv]
theorem run_call {f : FuncId} {xs : Array Operand} {ts : Array TypeId} {args : Array Value} (ho : o.op = .call { callee := .value (.func f), args := xs, argTypes := ts }) (ha : xs.map a.eval = args) (hf : (callFunc f args).run P w = .ok (.enter f args) w) : (execOp a.eval o).run P w = .ok (.enter f args) w := by
  unfold execOp; simp only [ho]
  simp [resolve, ha, Act.eval, Deferred.ofValue, invoke, hf]
theorem map1 {x : Operand} {u : Value} (hx : a.eval x = u) : #[x].map a.eval = #[u] := by simp [hx]
theorem map2 {x y : Operand} {u v : Value} (hx : a.eval x = u) (hy : a.eval y = v) : #[x, y].map a.eval = #[u, v] := by simp [hx, hy]
theorem map3 {x y z : Operand} {u v t : Value} (hx : a.eval x = u) (hy : a.eval y = v) (hz : a.eval z = t) : #[x, y, z].map a.eval = #[u, v, t] := by simp [hx, hy, hz]
theorem map4 {x y z s : Operand} {u v t r : Value} (hx : a.eval x = u) (hy : a.eval y = v) (hz : a.eval z = t) (hs : a.eval s = r) : #[x, y, z, s].map a.eval = #[u, v, t, r] := by simp [hx, hy, hz, hs]
def sliceB (P : Program) (t size : Nat) : Bool := match P.underlying t with | some (.slice e) => (P.info? e).map (·.size) == some size | _ => false
def isSlice (P : Program) (t : Nat) : Bool := match P.underlying t with | some (.slice _) => true | _ => false
/-- a slice's length -/
theorem run_lenS {x : Operand} {t : TypeId} {A : Option Addr} {n c : Nat} (ho : o.op = .call { callee := .builtin .len, args := #[x], argTypes := #[t] }) (hx : a.eval x = .slice A n c) (ht : isSlice P t = true) : (execOp a.eval o).run P w = .ok (.value (.int .i64 n)) w := by
  unfold isSlice at ht
  split at ht
  · rename_i e hu
    unfold execOp; simp only [ho]
    simp [resolve, invoke, builtin, Builtin.len_, underlying, hu, hx, goInt]
  · cases ht
/-- an element's place -/
theorem run_indexS {x y : Operand} {t : TypeId} {g k n c size m : Nat} {i : Int} (ho : o.op = .indexAddr t x y) (hx : a.eval x = .slice (some ⟨g, k, none⟩) n c) (hy : a.eval y = .int .i64 i) (ht : sliceB P t size = true) (hi : 0 ≤ i ∧ i < n) (hm : k + i.toNat * size = m) : (execOp a.eval o).run P w = .ok (.value (.pointer (some ⟨g, m, none⟩))) w := by
  unfold sliceB at ht
  split at ht
  · rename_i e hu
    cases hq : P.info? e with
    | none => simp [hq] at ht
    | some inf =>
      have hsz : inf.size = size := by simpa [hq] using ht
      unfold execOp; simp only [ho]; rw [hx, hy]
      subst hm
      simp [Instr.indexAt, asIntOf, underlying, hu, hi, sizeOf, typeInfo, hq, hsz, Addr.add]
  · cases ht
/-! ### a slice written out -/
/-- a slice of n elements, the whole of a block past N -/
def LitB (N e n : Nat) (cells : Array Value) (v : Value) (w : World) : Prop := ∃ b, v = .slice (some ⟨b, 0, none⟩) n n ∧ N ≤ b ∧ Blk w b e cells
theorem LitB.keep {N e n : Nat} {cells : Array Value} {v : Value} {w w' : World} (h : LitB N e n cells v w) (hb : Below w.heap.size w w') : LitB N e n cells v w' := by
  obtain ⟨b, e1, hB, hr⟩ := h
  exact ⟨b, e1, hB, hr.below hb hr.lt⟩
theorem LitB.keeps {N e n : Nat} {cells : Array Value} {v : Value} {w w' : World} {F : Nat → Prop} (h : LitB N e n cells v w) (hk : Keeps F w w') (hF : ∀ b, N ≤ b → Blk w b e cells → ¬ F b) : LitB N e n cells v w' := by
  obtain ⟨b, e1, hB, hr⟩ := h
  exact ⟨b, e1, hB, hk.blk hr (hF b hB hr)⟩
theorem litB_new {N : Nat} (w : World) (cells : Array Value) (e n : Nat) (hN : N ≤ w.heap.size) : LitB N e n cells (.slice (some ⟨w.heap.size, 0, none⟩) n n) (w.alloc (.cells cells e)) :=
  ⟨w.heap.size, rfl, hN, Blk.new w e cells⟩
theorem reads_blk {w : World} {b e n size : Nat} {cells : Array Value} (h : Blk w b e cells) (hc : cells.size = n * size) : Reads w (b + 1) size (some ⟨b, 0, none⟩) n cells.toList := by
  refine ⟨by simpa using hc, fun _ => ⟨b, 0, rfl, by omega, fun j u hu => ?_⟩⟩
  rw [h.cell]
  simpa using hu
theorem own_lt {w : World} {base e size n : Nat} {v : Value} {xs : List Value} (h : w.ownsRow base e size v n xs) {g : Nat} (hg : v.ownBlock = some g) : g < w.heap.size := by
  rcases h.2 with ⟨h0, _⟩ | ⟨g', cap, cur, h0, _, hh, _⟩
  · rw [h0] at hg; cases hg
  · rw [h0] at hg
    have : g' = g := by simpa [Value.ownBlock] using hg
    subst this
    exact (Array.getElem?_eq_some_iff.1 hh).1
def litCells (P : Program) (e n : Nat) (parts : List (Nat × Value)) : Option (Array Value) :=
  match P.info? e with
  | some ie => match ie.zero with
    | some z => if n * ie.size > 2 ^ 24 then none else if n * ie.size = 0 then none else Instr.fill (fun i => some (i * ie.size, ie.size)) ((Array.range (n * ie.size)).map (z.cells[· % z.cells.size]!)) parts
    | none => none
  | none => none
theorem run_lit {t e n : Nat} {parts : Array (Nat × Operand)} {vals : List (Nat × Value)} {cells : Array Value} (ho : o.op = .buildSlice t n parts) (hp : (parts.map fun (i, x) => (i, a.eval x)).toList = vals) (ht : P.underlying t = some (.slice e)) (hc : litCells P e n vals = some cells) :
    (execOp a.eval o).run P w = .ok (.value (.slice (some ⟨w.heap.size, 0, none⟩) n n)) (w.alloc (.cells cells e)) := by
  unfold litCells at hc
  cases hi : P.info? e with
  | none => rw [hi] at hc; cases hc
  | some ie =>
    rw [hi] at hc
    dsimp only at hc
    cases hz : ie.zero with
    | none => rw [hz] at hc; cases hc
    | some z =>
      rw [hz] at hc
      dsimp only at hc
      split at hc
      · cases hc
      rename_i h1
      split at hc
      · cases hc
      rename_i h2
      unfold execOp; simp only [ho]
      have := run_buildSlice (P := P) w t e n (parts.map fun (i, x) => (i, a.eval x)) cells ie z ht hi hz h1 h2 (by rw [hp]; exact hc)
      simp only [Sem.run_bind, this]; rfl
theorem parts1 {i : Nat} {x : Operand} {u : Value} (hx : a.eval x = u) : ((#[(i, x)] : Array (Nat × Operand)).map fun (i, x) => (i, a.eval x)).toList = [(i, u)] := by simp [hx]
theorem parts2 {i j : Nat} {x y : Operand} {u v : Value} (hx : a.eval x = u) (hy : a.eval y = v) : ((#[(i, x), (j, y)] : Array (Nat × Operand)).map fun (i, x) => (i, a.eval x)).toList = [(i, u), (j, v)] := by simp [hx, hy]
/-! ### append -/
def rowTy (P : Program) (t e size bytes : Nat) : Bool := match P.underlying t, P.info? e with
  | some (.slice e'), some i => e' == e && i.size == size && i.bytes == bytes && decide (0 < size) && (match i.zero with | some z => z.cells.size == size | none => false)
  | _, _ => false
theorem step_append (s x : Operand) (t : TypeId) (hgd : o.guard = none) (ho : o.op = .call { callee := .builtin .append, args := #[s, x], argTypes := #[t, t] }) (base e size bytes : Nat) (hT : rowTy P t e size bytes = true)
    (n : Nat) (xs : List Value) (hs : a.eval s = v) (hown : w.ownsRow base e size v n xs)
    (B : Nat) (A : Option Addr) (m c : Nat) (news : List Value) (hx : a.eval x = .slice A m c) (hr : Reads w B size A m news) (h1 : ∀ u ∈ news, u.oneCell' = true)
    (h63 : n + m ≤ maxLen) (hbytes : (n + m) * bytes ≤ 140737488355328) (hbase : base ≤ w.heap.size)
    (h : ∀ A' c' w', w'.ownsRow base e size (.slice A' (n + m) c') (n + m) (xs ++ news) → w.grownBy w' v.ownBlock → K (a.put o.dst (.slice A' (n + m) c')) w') :
    if Region.wanted o (yielded ops a.tmps) = true then o.wp P a w K Q else E := by
  unfold rowTy at hT
  split at hT
  · rename_i e' i hu hi
    simp only [Bool.and_eq_true, beq_iff_eq, decide_eq_true_eq] at hT
    obtain ⟨⟨⟨⟨rfl, h2⟩, h3⟩, h4⟩, h5⟩ := hT
    cases hz : i.zero with
    | none => rw [hz] at h5; cases h5
    | some z =>
      rw [hz] at h5
      exact step_append_any w hgd s x t ho base e' i z size bytes hu hi hz h2 h3 (by simpa using h5) h4 v n xs hs hown B A m c news hx hr h1 h63 hbytes hbase (fun A' c' w' ho' hg _ => h A' c' w' ho' hg)
  · cases hT
/-! ### new variables -/
def zeroCells (P : Program) (t : Nat) : Option (Array Value) := (P.info? t).bind fun i => i.zero.map (·.cells)
theorem run_alloc {t : TypeId} {cells : Array Value} (ho : o.op = .alloc t) (hz : zeroCells P t = some cells) : (execOp a.eval o).run P w = .ok (.value (.pointer (some ⟨w.heap.size, 0, none⟩))) (w.alloc (.cells cells t)) := by
  unfold zeroCells at hz
  cases hi : P.info? t with
  | none => rw [hi] at hz; cases hz
  | some i =>
    cases hzz : i.zero with
    | none => rw [hi] at hz; simp [hzz] at hz
    | some z =>
      rw [hi] at hz
      simp only [Option.bind_some, hzz, Option.map_some, Option.some.injEq] at hz
      subst hz
      unfold execOp; simp only [ho]
      simp [Instr.alloc, zeroValue, typeInfo, hi, hzz, newVar, newRow]
/-- a struct written out -/
theorem run_build {t : TypeId} {parts : Array (Nat × Operand)} {vals : Array (Nat × Value)} {r : Value} (ho : o.op = .build t parts) (hp : (parts.map fun (i, x) => (i, a.eval x)) = vals) (hr : (Instr.build t vals).run P w = .ok r w) : (execOp a.eval o).run P w = .ok (.value r) w := by
  unfold execOp; simp only [ho, hp]
  simp only [Sem.run_bind, hr]; rfl
theorem blkN_row {x y t n : Nat} {ds es : Array Value} (h : ∃ cs, Blk w x t cs ∧ cs.size = n) (hy : Blk w y t ds) (he : es.size = n) : ∃ cs, Blk (w.setRow y es) x t cs ∧ cs.size = n := by
  by_cases hxy : x = y
  · subst hxy
    exact ⟨es, setRow_heap w x ds es t (0, 0) hy, he⟩
  · obtain ⟨cs, hb, hc⟩ := h
    exact ⟨cs, by unfold Blk; rw [setRow_other w y x es hxy]; exact hb, hc⟩
theorem layL_all (a b : List Value) (h : a.length = b.length) : layL a 0 b = b := by
  unfold layL
  simp [h]
/-! ### a function's first loop: its round -/
def loopIn : Code → Option Code
  | .seq a b => match loopIn a with | some c => some c | none => loopIn b
  | .cond _ a b => match loopIn a with | some c => some c | none => loopIn b
  | .block _ a => loopIn a
  | .loop a => some a
  | _ => none
noncomputable def loopOf (f : Func) : Code := (f.body.bind loopIn).getD .skip
/-! ### numbers -/
theorem run_conv {x : Operand} {src dst : TypeId} {k k' : IntKind} {n : Int} (ho : o.op = .convert src dst x) (hx : a.eval x = .int k n) (ht : P.underlying dst = some (.int k')) (hw : k'.wrap n = n) (hs : (P.underlying src).isSome = true) : (execOp a.eval o).run P w = .ok (.value (.int k' n)) w := by
  cases hu : P.underlying src with
  | none => rw [hu] at hs; cases hs
  | some u =>
    unfold execOp; simp only [ho]; rw [hx]
    simp [convert, underlying, hu, ht, Conv.intToInt, hw]
theorem run_box {x : Operand} {t : TypeId} {cells : Array Value} {u : Value} (ho : o.op = .box t x) (hx : a.eval x = u) (hc : u.cells = cells) : (execOp a.eval o).run P w = .ok (.value (.pointer (some ⟨w.heap.size, 0, none⟩))) (w.alloc (.cells cells t)) := by
  unfold execOp; simp only [ho]; rw [hx, ← hc]
  simp [Instr.box, newVar, newRow]
theorem wrap_i64 {n : Int} (h : -9223372036854775808 ≤ n ∧ n ≤ 9223372036854775807) : IntKind.i64.wrap n = n := (IntWalk.i64_left _).trans (IntWalk.wrap64_in _ h)
end
end Go.Proofs.Ytdenfgnkbfbpmaa
