/-
  More operations: closures, arrays. No statement is proved here.
-/
import Derived.Test.YtdenfgnkbfbpmaaSep
import Derived.Laws.BitsLemmas
import Derived.Laws.MakeOwn
namespace Go.Proofs.Ytdenfgnkbfbpmaa
open Go.RowKit
set_option linter.unusedVariables false
set_option linter.unusedSimpArgs false

section
variable {P : Program} {ops : Array Oper} {Q : Exit → Act → World → Prop} {o : Oper} {a : Act} {w : World} {K : Act → World → Prop} {E : Prop} {v : Value} {κ : Kap} {L I : List Atom}
theorem run_makeFunc {fn : Fn} {fs cs : Array Operand} {first cap : Array Value} (ho : o.op = .makeFunc fn fs cs) (hf : fs.map a.eval = first) (hc : cs.map a.eval = cap) : (execOp a.eval o).run P w = .ok (.value (.func fn first cap)) w := by
  unfold execOp; simp only [ho]; subst hf; subst hc; rfl
theorem run_callV {f : FuncId} {x : Operand} {xs : Array Operand} {ts : Array TypeId} {first args cap full : Array Value} (ho : o.op = .call { callee := .value x, args := xs, argTypes := ts }) (hx : a.eval x = .func (.func f) first cap) (ha : xs.map a.eval = args) (hl : first ++ args ++ cap = full) (hf : (callFunc f full).run P w = .ok (.enter f full) w) : (execOp a.eval o).run P w = .ok (.enter f full) w := by
  unfold execOp; simp only [ho]
  simp [resolve, ha, hx, Deferred.ofValue, invoke]
  rw [← Array.append_assoc, hl]
  exact hf
def arrB (P : Program) (t n size : Nat) : Bool := match P.underlying t with | some (.array m e) => m == n && (P.info? e).map (·.size) == some size | _ => false
theorem run_indexP {x y : Operand} {t : TypeId} {g k n size m : Nat} {i : Int} (ho : o.op = .indexAddr t x y) (hx : a.eval x = .pointer (some ⟨g, k, none⟩)) (hy : a.eval y = .int .i64 i) (ht : arrB P t n size = true) (hi : 0 ≤ i ∧ i < n) (hm : k + i.toNat * size = m) : (execOp a.eval o).run P w = .ok (.value (.pointer (some ⟨g, m, none⟩))) w := by
  unfold arrB at ht
  split at ht
  · rename_i m' e hu
    simp only [Bool.and_eq_true, beq_iff_eq] at ht
    obtain ⟨rfl, ht⟩ := ht
    cases hq : P.info? e with
    | none => simp [hq] at ht
    | some inf =>
      have hsz : inf.size = size := by simpa [hq] using ht
      unfold execOp; simp only [ho]; rw [hx, hy]
      subst hm
      simp [Instr.indexAt, Instr.sureAddr, asIntOf, underlying, hu, hi, sizeOf, typeInfo, hq, hsz, Addr.add]
  · cases ht
def flatB (P : Program) (t : Nat) : Bool := match P.underlying t with | some (.struct _) => false | some (.array _ _) => false | some _ => true | none => false
theorem run_indexA {x y : Operand} {t e : TypeId} {n : Nat} {cs : Array Value} {i : Int} {u : Value} (ho : o.op = .index t x y) (hx : a.eval x = .agg cs) (hy : a.eval y = .int .i64 i) (ht : P.underlying t = some (.array n e)) (he : (P.info? e).map (·.size) = some 1) (hf : flatB P e = true) (hi : 0 ≤ i ∧ i < n) (hu : cs[i.toNat]? = some u) : (execOp a.eval o).run P w = .ok (.value u) w := by
  cases hq : P.info? e with
  | none => simp [hq] at he
  | some inf =>
    have hsz : inf.size = 1 := by simpa [hq] using he
    unfold flatB at hf
    unfold execOp; simp only [ho]; rw [hx, hy]
    cases hue : P.underlying e with
    | none => rw [hue] at hf; cases hf
    | some d =>
      rw [hue] at hf
      cases d <;> first | (simp at hf; done) | simp [Instr.index, asIntOf, underlying, ht, hi, sizeOf, typeInfo, hq, hsz, part, isAgg, hue, hu]
/-- a whole array out of its block -/
theorem run_loadA {x : Operand} {t g n T : Nat} {cs : Array Value} (ho : o.op = .load t x) (hx : a.eval x = .pointer (some ⟨g, 0, none⟩)) (hT : (match P.underlying t, P.info? t with | some (.array _ _), some i => i.size == n | _, _ => false) = true) (hg : Blk w g T cs) (hn : cs.size = n) : (execOp a.eval o).run P w = .ok (.value (.agg cs)) w := by
  obtain ⟨l⟩ := cs
  have hl : (loadVar t ⟨g, 0, none⟩).run P w = .ok (.agg l.toArray) w := by
    split at hT
    · rename_i m e i hu hi
      have hsz : i.size = l.length := by have : l.length = n := by simpa using hn
                                         rw [this]; simpa using hT
      simp [loadVar, isAgg, underlying, hu, sizeOf, typeInfo, hi, hsz, run_loadCells_list (P := P) w ⟨g, 0, none⟩ l (fun j v hj => by
        rw [cell_add, hg.cell]; simpa using hj)]
    · cases hT
  unfold execOp; simp only [ho]; rw [hx]
  simp [Instr.loadAt, Instr.sureAddr, hl]
/-- one cell into a block, at whatever place -/
theorem layL_one (cs : Array Value) (k : Nat) (v : Value) (h : k < cs.size) : (layL cs.toList k [v]).toArray = cs.setIfInBounds k v := by
  apply Array.ext_getElem?
  intro i
  unfold layL
  simp only [List.getElem?_toArray, List.length_singleton, Array.getElem?_setIfInBounds]
  rw [List.append_assoc, List.getElem?_append]
  by_cases hik : i < k
  · rw [if_pos (by simp; omega), if_neg (by omega)]
    rw [List.getElem?_take_of_lt hik]; simp
  · rw [if_neg (by simp; omega)]
    by_cases he : k = i
    · subst he; simp [h, Nat.min_eq_left (Nat.le_of_lt h)]
    · rw [if_neg he]
      have hl : (List.take k cs.toList).length = k := by simp; omega
      rw [hl, List.getElem?_append_right (by simp; omega), List.getElem?_drop]
      simp only [List.length_singleton]
      rw [show k + 1 + (i - k - 1) = i by omega]; simp
theorem st_set1 {x y : Operand} {t g k T : Nat} {cs : Array Value} {u : Value} (i : Nat) (hS : S κ L I w) (hi : L[i]? = some (blkA g T cs)) (hw : Region.wanted o (yielded ops a.tmps) = true) (ho : o.op = .store t x y) (hx : a.eval x = .pointer (some ⟨g, k, none⟩)) (hy : a.eval y = u) (hv : u.cells = #[u])
    (hsz : (P.info? t).map (·.size) = some 1) (hs : k < cs.size) (h1 : u.oneCell' = true)
    (h : ∀ w', S κ (L.set i (blkA g T (cs.setIfInBounds k u))) I w' → w' = w.setRow g (cs.setIfInBounds k u) → K (a.put o.dst undef) w') : if Region.wanted o (yielded ops a.tmps) = true then o.wp P a w K Q else E :=
  st_store i hS hi hw ho hx hy hv hsz ⟨by omega, rfl, by simp [h1]⟩ (layL_one cs k u hs) h
theorem run_convW {x : Operand} {src dst : TypeId} {k k' : IntKind} {n m : Int} (ho : o.op = .convert src dst x) (hx : a.eval x = .int k n) (ht : P.underlying dst = some (.int k')) (hw : k'.wrap n = m) (hs : (P.underlying src).isSome = true) : (execOp a.eval o).run P w = .ok (.value (.int k' m)) w := by
  cases hu : P.underlying src with
  | none => rw [hu] at hs; cases hs
  | some d =>
    unfold execOp; simp only [ho]; rw [hx]
    subst hw
    simp [convert, underlying, hu, ht, Conv.intToInt]
theorem run_mulI {x y : Operand} {t t' : TypeId} {p q n : Int} (ho : o.op = .binOp .mul t x y t') (hx : a.eval x = .int .i64 p) (hy : a.eval y = .int .i64 q) (h : -9223372036854775808 ≤ p * q ∧ p * q ≤ 9223372036854775807) (hn : p * q = n) : (execOp a.eval o).run P w = .ok (.value (.int .i64 n)) w :=
  run_bin ho hx hy (by subst hn; show (pure _ : Sem Value) = pure _; exact congrArg _ (congrArg _ (wrap_i64 h)))
theorem wrap_u8 {n : Int} (h : 0 ≤ n ∧ n < 256) : IntKind.u8.wrap n = n := by
  rw [IntKind.wrap_u8]; omega
theorem wrap_u64 (n : Int) : IntKind.u64.wrap n = n % 18446744073709551616 := by simp [IntKind.wrap, IntKind.bits, IntKind.signed]
/-- make of elements of one cell -/
theorem madeOne (z : Value) (n : Nat) : madeCells #[z] n = Array.replicate n z := by
  apply Array.ext_getElem?
  intro i
  by_cases h : i < n <;> simp [madeCells, h, Nat.mod_one]
theorem st_make {t e : TypeId} {x y : Operand} {n : Nat} {z : Value} {by_ : Nat} (hS : S κ L I w) (hw : Region.wanted o (yielded ops a.tmps) = true) (ho : o.op = .makeSlice t x y) (hx : a.eval x = .int .i64 n) (hy : a.eval y = .int .i64 n) (hn : by_ * n ≤ 281474976710656)
    (h : ∀ g w', S κ (blkA g e (Array.replicate n z) :: L) I w' → Below w.heap.size w w' → K (a.put o.dst (.slice (some ⟨g, 0, none⟩) n n)) w')
    (h63 : n ≤ 9223372036854775807 := by omega) (ht : P.underlying t = some (.slice e) := by kernel_rfl) (he : (P.info? e).map (fun i => (i.zero, i.size, i.bytes)) = some (some z, 1, by_) := by kernel_rfl) (hz : z.cells = #[z] := by rfl) : if Region.wanted o (yielded ops a.tmps) = true then o.wp P a w K Q else E := by
  cases hi : P.info? e with
  | none => rw [hi] at he; cases he
  | some i =>
    rw [hi] at he
    simp only [Option.map_some, Option.some.injEq, Prod.mk.injEq] at he
    obtain ⟨e1, e2, e3⟩ := he
    have hr := run_make (P := P) w t e i z ht hi e1 .i64 .i64 n n (by omega) (by omega) (by rw [e3, ← Int.natCast_mul]; omega) (by omega)
    rw [e2, hz, Nat.mul_one, Int.toNat_natCast, madeOne] at hr
    refine step_ok (w' := w.alloc (.cells (Array.replicate n z) e)) (v := .slice (some ⟨w.heap.size, 0, none⟩) n n) hw ?_ (h _ _ (hS.push (below_new w _) ⟨rfl, Blk.new w e _⟩ (by simp)) (below_new w _))
    unfold execOp; simp only [ho]; rw [hx, hy]
    simp only [Sem.run_bind, hr]; rfl
/-! ### slices of the call's own -/
theorem st_lit {t e n : Nat} {parts : Array (Nat × Operand)} {vals : List (Nat × Value)} {cells : Array Value} (hS : S κ L I w) (hw : Region.wanted o (yielded ops a.tmps) = true) (ho : o.op = .buildSlice t n parts) (hp : (parts.map fun (i, x) => (i, a.eval x)).toList = vals)
    (h : ∀ g w', S κ (blkA g e cells :: L) I w' → Below w.heap.size w w' → K (a.put o.dst (.slice (some ⟨g, 0, none⟩) n n)) w')
    (ht : P.underlying t = some (.slice e) := by kernel_rfl) (hc : litCells P e n vals = some cells := by kernel_rfl) : if Region.wanted o (yielded ops a.tmps) = true then o.wp P a w K Q else E :=
  step_ok hw (run_lit ho hp ht hc) (h _ _ (hS.push (below_new w _) ⟨rfl, Blk.new w e cells⟩ (by simp)) (below_new w _))
theorem sap {B : Nat} {A A2 : Option Addr} {s x : Operand} {t e size bytes n m c c2 : Nat} {xs news : List Value} (hS : S κ L I w) (i : Nat) (hw : Region.wanted o (yielded ops a.tmps) = true) (ho : o.op = .call { callee := .builtin .append, args := #[s, x], argTypes := #[t, t] })
    (hs : a.eval s = .slice A n c) (hx : a.eval x = .slice A2 m c2) (hr : Reads w B size A2 m news) (h1 : ∀ u ∈ news, u.oneCell' = true) (h63 : n + m ≤ maxLen) (hbytes : (n + m) * bytes ≤ 140737488355328)
    (h : ∀ A' c' w', S κ (L.set i (rowA (.slice A' (n + m) c') e size (n + m) (xs ++ news))) I w' → K (a.put o.dst (.slice A' (n + m) c')) w')
    (hi : L[i]? = some (rowA (.slice A n c) e size n xs) := by rfl) (hT : rowTy P t e size bytes = true := by kernel_rfl) : if Region.wanted o (yielded ops a.tmps) = true then o.wp P a w K Q else E :=
  st_append s x t i e size bytes hS hw ho hT n xs hs hi m c2 news hx hr h1 h63 hbytes h
theorem blk_row {w : World} {base g n size : Nat} {e : TypeId} {cs : Array Value} (h : Blk w g e cs) (hg : base ≤ g) (hs : cs.size = n * size) (hn : n ≤ 9223372036854775807) : w.ownsRow base e size (.slice (some ⟨g, 0, none⟩) n n) n cs.toList :=
  ⟨by simp [hs], .inr ⟨g, n, cs, rfl, hg, h, Nat.le_refl _, by simpa [maxLen] using hn, hs, by rw [List.take_of_length_le (by simp [hs])]⟩⟩
theorem S.nilrow (hS : S κ L I w) (e size : Nat) : S κ (rowA (.slice none 0 0) e size 0 [] :: L) I w :=
  hS.push (Below.refl _ _) (f := []) ⟨rfl, World.ownsRow_nil _ _ _ _⟩ (by simp)
theorem S.pushRow {w' : World} {e size n : Nat} {v : Value} {xs : List Value} (hS : S κ L I w) (hb : Below w.heap.size w w') (ho : w'.ownsRow w.heap.size e size v n xs) : S κ (rowA v e size n xs :: L) I w' :=
  hS.push hb (f := v.ownBlock.toList) ⟨rfl, own_mono ho (Nat.zero_le _)⟩ (fun b hb => (own_base ho (by simpa using hb)).1)
theorem S.pushRowI {w' : World} {e size n : Nat} {v : Value} {xs : List Value} (hS : S κ L I w) (hb : Below w.heap.size w w') (ho : w'.ownsRow w.heap.size e size v n xs) : S κ L (rowA v e size n xs :: I) w' :=
  hS.pushI hb (f := v.ownBlock.toList) ⟨rfl, own_mono ho (Nat.zero_le _)⟩ (fun b hb => (own_base ho (by simpa using hb)).1)
theorem S.rdI {i e size n c : Nat} {A : Option Addr} {xs : List Value} (h : S κ L I w) (hi : I[i]? = some (rowA (.slice A n c) e size n xs)) : Reads w w.heap.size size A n xs := Reads.of_own (h.rowI hi)
theorem S.rd {i e size n c : Nat} {A : Option Addr} {xs : List Value} (h : S κ L I w) (hi : L[i]? = some (rowA (.slice A n c) e size n xs)) : Reads w w.heap.size size A n xs := Reads.of_own (h.row hi)
theorem S.rowBase {i e size n B : Nat} {W : World} {v : Value} {xs : List Value} (h : S κ L I w) (hi : L[i]? = some (rowA v e size n xs)) (hm : memA W B ∈ I) : w.ownsRow B e size v n xs := by
  obtain ⟨_, fp, ⟨f1, f2, rfl, hd, ⟨h1, ho⟩, _⟩, hI⟩ := h.front hi
  obtain ⟨f, ⟨h2, _, _⟩, h3⟩ := hI _ hm
  refine ⟨ho.1, ?_⟩
  rcases ho.2 with h0 | ⟨g, cap, cur, rfl, hb, r⟩
  · exact .inl h0
  · refine .inr ⟨g, cap, cur, rfl, ?_, r⟩
    rcases Nat.lt_or_ge g B with hlt | hge
    · exact absurd (List.mem_append_left _ (by rw [h1]; simp [Value.ownBlock])) (h3 g (by rw [h2]; exact List.mem_range.2 hlt))
    · exact hge
theorem S.base {i g t B : Nat} {W : World} {cs : Array Value} (h : S κ L I w) (hi : L[i]? = some (blkA g t cs)) (hm : memA W B ∈ I) : B ≤ g := by
  obtain ⟨_, fp, ⟨f1, f2, rfl, hd, ⟨h1, _⟩, _⟩, hI⟩ := h.front hi
  obtain ⟨f, ⟨h2, _, _⟩, h3⟩ := hI _ hm
  rcases Nat.lt_or_ge g B with hlt | hge
  · exact absurd (List.mem_append_left _ (by rw [h1]; simp)) (h3 g (by rw [h2]; exact List.mem_range.2 hlt))
  · exact hge
end
theorem S.rowAt {κ : Kap} {L I : List Atom} {w : World} {i e size n c : Nat} {A : Option Addr} {xs : List Value} (h : S κ L I w) (hi : L[i]? = some (rowA (.slice A n c) e size n xs)) (hn : 0 < n) : ∃ g, A = some ⟨g, 0, none⟩ := by
  have ho := h.row hi
  rcases ho.2 with ⟨h', _⟩ | ⟨g, cap, cur, h', _⟩
  · cases h'; omega
  · cases h'; exact ⟨g, rfl⟩
section
variable {P : Program} {ops : Array Oper} {o : Oper} {a : Act} {w : World} {κ : Kap} {L I : List Atom} {K : Act → World → Prop} {Q : Exit → Act → World → Prop} {E : Prop}
theorem st_rowset {x y : Operand} {A : Option Addr} {t g k n c e : Nat} {xs : List Value} {u : Value} (i : Nat) (hS : S κ L I w) (hA : A = some ⟨g, 0, none⟩) (hi : L[i]? = some (rowA (.slice A n c) e 1 n xs)) (hw : Region.wanted o (yielded ops a.tmps) = true) (ho : o.op = .store t x y) (hx : a.eval x = .pointer (some ⟨g, k, none⟩)) (hy : a.eval y = u) (hv : u.cells = #[u])
    (hsz : (P.info? t).map (·.size) = some 1) (hk : k < n) (h1 : u.oneCell' = true)
    (h : ∀ w', S κ (L.set i (rowA (.slice A n c) e 1 n (xs.set k u))) I w' → K (a.put o.dst undef) w') : if Region.wanted o (yielded ops a.tmps) = true then o.wp P a w K Q else E := by
  subst hA
  have hr := hS.row hi
  obtain ⟨hlen, hr2⟩ := hr
  rcases hr2 with ⟨h', _⟩ | ⟨g', cap', cur, h', hb, hg, hnc, hcm, hcs, htake⟩
  · cases h'
  · cases h'
    have hkc : k < cur.size := by omega
    refine step_skip hw (run_store (g := g) (k := k) (n := 1) (T := e) (cs := cur) (cells := #[u]) (cs' := cur.setIfInBounds k u) ho hx hy hv hg hsz ⟨by omega, rfl, by simp [h1]⟩ (layL_one cur k u hkc)) (h _ (S.back ?_ hi))
    obtain ⟨f, ⟨hf, hb'⟩, hT⟩ := (hS.front hi).turn
    refine hT (rowA (.slice (some ⟨g, 0, none⟩) n c) e 1 n (xs.set k u)) _ [g] ⟨rfl, by simpa using hlen, .inr ⟨g, c, cur.setIfInBounds k u, rfl, Nat.zero_le _, setRow_heap w g cur _ e (0, 0) hg, hnc, hcm, by simpa using hcs, by rw [Array.toList_setIfInBounds, ← htake, List.take_set]⟩⟩ (kap_setRow _ _ _) (by rw [setRow_size]; exact Nat.le_refl _) (fun b hb => .inl (by rw [hf]; exact hb)) (fun b hlt hn => ?_)
    exact setRow_other w g b _ (fun e => hn (by rw [hf, e]; simp [Value.ownBlock]))
theorem sap0 {B : Nat} {A A2 : Option Addr} {s x : Operand} {t e size bytes m c c2 : Nat} {news : List Value} (hS : S κ L I w) (i : Nat) (hw : Region.wanted o (yielded ops a.tmps) = true) (ho : o.op = .call { callee := .builtin .append, args := #[s, x], argTypes := #[t, t] })
    (hs : a.eval s = .slice A 0 c) (hx : a.eval x = .slice A2 m c2) (hr : Reads w B size A2 m news) (h1 : ∀ u ∈ news, u.oneCell' = true) (h63 : m ≤ maxLen) (hbytes : m * bytes ≤ 140737488355328)
    (h : ∀ A' c' w', S κ (L.set i (rowA (.slice A' m c') e size m news)) I w' → K (a.put o.dst (.slice A' m c')) w')
    (hi : L[i]? = some (rowA (.slice A 0 c) e size 0 []) := by rfl) (hT : rowTy P t e size bytes = true := by kernel_rfl) : if Region.wanted o (yielded ops a.tmps) = true then o.wp P a w K Q else E := by
  have e1 : 0 + m = m := Nat.zero_add m
  refine sap hS i hw ho hs hx hr h1 (by omega) (by rw [e1]; exact hbytes) (fun A' c' w' hS' => ?_) hi hT
  rw [e1, List.nil_append] at hS'
  rw [e1]
  exact h A' c' w' hS'

end

/-! ### slices of slices -/
def cutA (A : Option Addr) (l c s : Nat) : Option Addr := if c = l then A else A.map (·.add (l * s))
theorem Reads.cut {w : World} {B s n c l h : Nat} {A : Option Addr} {xs : List Value} (hr : Reads w B s A n xs) (h1 : l ≤ h) (h2 : h ≤ n) (h3 : n ≤ c) : Reads w B s (cutA A l c s) (h - l) ((xs.drop (l * s)).take ((h - l) * s)) := by
  have hm : h * s ≤ n * s := Nat.mul_le_mul_right _ h2
  have hd : (h - l) * s = h * s - l * s := Nat.sub_mul ..
  have hl := hr.1
  refine ⟨by rw [List.length_take, List.length_drop, hl, hd]; omega, fun hn => ?_⟩
  obtain ⟨b, off, rfl, hb, hc⟩ := hr.2 (by omega)
  refine ⟨b, off + l * s, by unfold cutA; rw [if_neg (by omega)]; show some (Addr.add _ _) = _; unfold Addr.add; split <;> simp_all, hb, fun j u hu => ?_⟩
  have hj : j < (h - l) * s := by have := (List.getElem?_eq_some_iff.1 hu).1; rw [List.length_take] at this; omega
  rw [List.getElem?_take_of_lt hj, List.getElem?_drop] at hu
  rw [Nat.add_assoc]
  exact hc _ _ hu
section
variable {P : Program} {o : Oper} {a : Act} {w : World}
theorem run_cutH {x z : Operand} {t n c s m : Nat} {A : Option Addr} {h : Int} (ho : o.op = .slice t x none (some z) none) (hx : a.eval x = .slice A n c) (hz : a.eval z = .int .i64 h) (h0 : 0 ≤ h ∧ h ≤ c) (hm : h.toNat = m) (ht : P.underlying t = some (.slice (P.elem t)) := by kernel_rfl) (hs : (P.info? (P.elem t)).map (·.size) = some s := by kernel_rfl) : (execOp a.eval o).run P w = .ok (.value (.slice (cutA A 0 c s) (m - 0) (c - 0))) w := by
  unfold execOp; simp only [ho]
  cases hi : P.info? (P.elem t) with
  | none => rw [hi] at hs; cases hs
  | some ti =>
    rw [hi] at hs
    simp only [Option.map_some, Option.some.injEq] at hs
    simp only [Sem.run_bind, Sem.run_pure, Option.map, hx, hz]
    rw [run_sliceAt_slice _ _ _ _ _ _ ht, run_slice_h _ _ _ _ _ ht _ _ h0.1 h0.2]
    simp [sizeOf, typeInfo, hi, hs, sliced, hm, cutA]
theorem run_cutL {x y : Operand} {t n c s m : Nat} {A : Option Addr} {l : Int} (ho : o.op = .slice t x (some y) none none) (hx : a.eval x = .slice A n c) (hy : a.eval y = .int .i64 l) (h0 : 0 ≤ l ∧ l ≤ n) (hm : l.toNat = m) (ht : P.underlying t = some (.slice (P.elem t)) := by kernel_rfl) (hs : (P.info? (P.elem t)).map (·.size) = some s := by kernel_rfl) : (execOp a.eval o).run P w = .ok (.value (.slice (cutA A m c s) (n - m) (c - m))) w := by
  unfold execOp; simp only [ho]
  cases hi : P.info? (P.elem t) with
  | none => rw [hi] at hs; cases hs
  | some ti =>
    rw [hi] at hs
    simp only [Option.map_some, Option.some.injEq] at hs
    simp only [Sem.run_bind, Sem.run_pure, Option.map, hx, hy]
    rw [run_sliceAt_slice _ _ _ _ _ _ ht, run_slice_l _ _ _ _ _ ht _ _ h0.1 h0.2]
    simp [sizeOf, typeInfo, hi, hs, sliced, hm, cutA]
theorem run_cutLH {x y z : Operand} {t n c s m k : Nat} {A : Option Addr} {l h : Int} (ho : o.op = .slice t x (some y) (some z) none) (hx : a.eval x = .slice A n c) (hy : a.eval y = .int .i64 l) (hz : a.eval z = .int .i64 h) (h0 : 0 ≤ l ∧ l ≤ h ∧ h ≤ c) (hm : l.toNat = m) (hk : h.toNat = k) (ht : P.underlying t = some (.slice (P.elem t)) := by kernel_rfl) (hs : (P.info? (P.elem t)).map (·.size) = some s := by kernel_rfl) : (execOp a.eval o).run P w = .ok (.value (.slice (cutA A m c s) (k - m) (c - m))) w := by
  unfold execOp; simp only [ho]
  cases hi : P.info? (P.elem t) with
  | none => rw [hi] at hs; cases hs
  | some ti =>
    rw [hi] at hs
    simp only [Option.map_some, Option.some.injEq] at hs
    simp only [Sem.run_bind, Sem.run_pure, Option.map, hx, hy, hz]
    rw [run_sliceAt_slice _ _ _ _ _ _ ht, run_slice_lh _ _ _ _ _ ht _ _ _ _ h0.1 h0.2.1 h0.2.2]
    simp [sizeOf, typeInfo, hi, hs, sliced, hm, hk, cutA]
end
theorem own_ncap {w : World} {B e size n c : Nat} {A : Option Addr} {xs : List Value} (h : w.ownsRow B e size (.slice A n c) n xs) : n ≤ c := by
  rcases h.2 with ⟨h', _⟩ | ⟨g, cap, cur, h', _, _, hc, _⟩
  · cases h'; exact Nat.le_refl _
  · cases h'; exact hc
theorem S.rowCap {κ : Kap} {L I : List Atom} {w : World} {i e size n c : Nat} {A : Option Addr} {xs : List Value} (h : S κ L I w) (hi : L[i]? = some (rowA (.slice A n c) e size n xs)) : n ≤ c := own_ncap (h.row hi)
theorem S.rowCapI {κ : Kap} {L I : List Atom} {w : World} {i e size n c : Nat} {A : Option Addr} {xs : List Value} (h : S κ L I w) (hi : I[i]? = some (rowA (.slice A n c) e size n xs)) : n ≤ c := own_ncap (h.rowI hi)
theorem wrap_u8m (n : Int) : IntKind.u8.wrap n = n % 256 := by simp [IntKind.wrap, IntKind.bits, IntKind.signed]

theorem parts3 {a : Act} {i j k : Nat} {x y z : Operand} {u v t : Value} (hx : a.eval x = u) (hy : a.eval y = v) (hz : a.eval z = t) : ((#[(i, x), (j, y), (k, z)] : Array (Nat × Operand)).map fun (i, x) => (i, a.eval x)).toList = [(i, u), (j, v), (k, t)] := by simp [hx, hy, hz]
theorem parts4 {a : Act} {i j k l : Nat} {x y z s : Operand} {u v t r : Value} (hx : a.eval x = u) (hy : a.eval y = v) (hz : a.eval z = t) (hs : a.eval s = r) : ((#[(i, x), (j, y), (k, z), (l, s)] : Array (Nat × Operand)).map fun (i, x) => (i, a.eval x)).toList = [(i, u), (j, v), (k, t), (l, r)] := by simp [hx, hy, hz, hs]

end Go.Proofs.Ytdenfgnkbfbpmaa
