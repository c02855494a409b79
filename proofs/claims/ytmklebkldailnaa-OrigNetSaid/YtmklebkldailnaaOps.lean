/-
  More operations: closures, arrays. No statement is proved here.
-/
import Derived.Test.YtmklebkldailnaaSep
namespace Go.Proofs.Ytmklebkldailnaa
open Go.RowKit
set_option linter.unusedVariables false
set_option linter.unusedSimpArgs false

section
variable {P : Program} {ops : Array Oper} {Q : Exit → Act → World → Prop} {o : Oper} {a : Act} {w : World} {K : Act → World → Prop} {E : Prop} {v : Value} {κ : Kap} {L I : List Atom}
theorem run_makeFunc {fn : Fn} {fs cs : Array Operand} {first cap : Array Value} (ho : o.op = .makeFunc fn fs cs) (hf : fs.map a.eval = first) (hc : cs.map a.eval = cap) : (execOp a.eval o).run P w = .ok (.value (.func fn first cap)) w := by
  unfold execOp; simp only [ho]; subst hf; subst hc; rfl
theorem run_callV {f : FuncId} {x : Operand} {xs : Array Operand} {ts : Array TypeId} {first args cap full : Array Value} (ho : o.op = .call { callee := .value x, args := xs, argTypes := ts }) (hx : a.eval x = .func (.func f) first cap) (ha : xs.map a.eval = args) (hl : first ++ args ++ cap = full) (hf : (callFunc f full).run P w = .ok (.enter f full) w) : (execOp a.eval o).run P w = .ok (.enter f full) w := by
  unfold execOp; simp only [ho]
  simp [resolve, ha, hx, Deferred.ofValue, invoke]
  rw [← Array.append_assoc, hl]
  exact hf
def arrB (P : Program) (t n size : Nat) : Bool := match P.underlying t with | some (.array m e) => m == n && (P.info? e).map (·.size) == some size | _ => false
theorem run_indexP {x y : Operand} {t : TypeId} {g k n size m : Nat} {i : Int} (ho : o.op = .indexAddr t x y) (hx : a.eval x = .pointer (some ⟨g, k, none⟩)) (hy : a.eval y = .int .i64 i) (ht : arrB P t n size = true) (hi : 0 ≤ i ∧ i < n) (hm : k + i.toNat * size = m) : (execOp a.eval o).run P w = .ok (.value (.pointer (some ⟨g, m, none⟩))) w := by
  unfold arrB at ht
  split at ht
  · rename_i m' e hu
    simp only [Bool.and_eq_true, beq_iff_eq] at ht
    obtain ⟨rfl, ht⟩ := ht
    cases hq : P.info? e with
    | none => simp [hq] at ht
    | some inf =>
      have hsz : inf.size = size := by simpa [hq] using ht
      unfold execOp; simp only [ho]; rw [hx, hy]
      subst hm
      simp [Instr.indexAt, Instr.sureAddr, asIntOf, underlying, hu, hi, sizeOf, typeInfo, hq, hsz, Addr.add]
  · cases ht
def flatB (P : Program) (t : Nat) : Bool := match P.underlying t with | some (.struct _) => false | some (.array _ _) => false | some _ => true | none => false
theorem run_indexA {x y : Operand} {t e : TypeId} {n : Nat} {cs : Array Value} {i : Int} {u : Value} (ho : o.op = .index t x y) (hx : a.eval x = .agg cs) (hy : a.eval y = .int .i64 i) (ht : P.underlying t = some (.array n e)) (he : (P.info? e).map (·.size) = some 1) (hf : flatB P e = true) (hi : 0 ≤ i ∧ i < n) (hu : cs[i.toNat]? = some u) : (execOp a.eval o).run P w = .ok (.value u) w := by
  cases hq : P.info? e with
  | none => simp [hq] at he
  | some inf =>
    have hsz : inf.size = 1 := by simpa [hq] using he
    unfold flatB at hf
    unfold execOp; simp only [ho]; rw [hx, hy]
    cases hue : P.underlying e with
    | none => rw [hue] at hf; cases hf
    | some d =>
      rw [hue] at hf
      cases d <;> first | (simp at hf; done) | simp [Instr.index, asIntOf, underlying, ht, hi, sizeOf, typeInfo, hq, hsz, part, isAgg, hue, hu]
/-- a whole array out of its block -/
theorem run_loadA {x : Operand} {t g n T : Nat} {cs : Array Value} (ho : o.op = .load t x) (hx : a.eval x = .pointer (some ⟨g, 0, none⟩)) (hT : (match P.underlying t, P.info? t with | some (.array _ _), some i => i.size == n | _, _ => false) = true) (hg : Blk w g T cs) (hn : cs.size = n) : (execOp a.eval o).run P w = .ok (.value (.agg cs)) w := by
  obtain ⟨l⟩ := cs
  have hl : (loadVar t ⟨g, 0, none⟩).run P w = .ok (.agg l.toArray) w := by
    split at hT
    · rename_i m e i hu hi
      have hsz : i.size = l.length := by have : l.length = n := by simpa using hn
                                         rw [this]; simpa using hT
      simp [loadVar, isAgg, underlying, hu, sizeOf, typeInfo, hi, hsz, run_loadCells_list (P := P) w ⟨g, 0, none⟩ l (fun j v hj => by
        rw [cell_add, hg.cell]; simpa using hj)]
    · cases hT
  unfold execOp; simp only [ho]; rw [hx]
  simp [Instr.loadAt, Instr.sureAddr, hl]
/-- one cell into a block, at whatever place -/
theorem layL_one (cs : Array Value) (k : Nat) (v : Value) (h : k < cs.size) : (layL cs.toList k [v]).toArray = cs.setIfInBounds k v := by
  apply Array.ext_getElem?
  intro i
  unfold layL
  simp only [List.getElem?_toArray, List.length_singleton, Array.getElem?_setIfInBounds]
  rw [List.append_assoc, List.getElem?_append]
  by_cases hik : i < k
  · rw [if_pos (by simp; omega), if_neg (by omega)]
    rw [List.getElem?_take_of_lt hik]; simp
  · rw [if_neg (by simp; omega)]
    by_cases he : k = i
    · subst he; simp [h, Nat.min_eq_left (Nat.le_of_lt h)]
    · rw [if_neg he]
      have hl : (List.take k cs.toList).length = k := by simp; omega
      rw [hl, List.getElem?_append_right (by simp; omega), List.getElem?_drop]
      simp only [List.length_singleton]
      rw [show k + 1 + (i - k - 1) = i by omega]; simp
theorem st_set1 {x y : Operand} {t g k T : Nat} {cs : Array Value} {u : Value} (i : Nat) (hS : S κ L I w) (hi : L[i]? = some (blkA g T cs)) (hw : Region.wanted o (yielded ops a.tmps) = true) (ho : o.op = .store t x y) (hx : a.eval x = .pointer (some ⟨g, k, none⟩)) (hy : a.eval y = u) (hv : u.cells = #[u])
    (hsz : (P.info? t).map (·.size) = some 1) (hs : k < cs.size) (h1 : u.oneCell' = true)
    (h : ∀ w', S κ (L.set i (blkA g T (cs.setIfInBounds k u))) I w' → w' = w.setRow g (cs.setIfInBounds k u) → K (a.put o.dst undef) w') : if Region.wanted o (yielded ops a.tmps) = true then o.wp P a w K Q else E :=
  st_store i hS hi hw ho hx hy hv hsz ⟨by omega, rfl, by simp [h1]⟩ (layL_one cs k u hs) h
/-! ### slices of the call's own -/
theorem st_lit {t e n : Nat} {parts : Array (Nat × Operand)} {vals : List (Nat × Value)} {cells : Array Value} (hS : S κ L I w) (hw : Region.wanted o (yielded ops a.tmps) = true) (ho : o.op = .buildSlice t n parts) (hp : (parts.map fun (i, x) => (i, a.eval x)).toList = vals)
    (h : ∀ g w', S κ (blkA g e cells :: L) I w' → Below w.heap.size w w' → K (a.put o.dst (.slice (some ⟨g, 0, none⟩) n n)) w')
    (ht : P.underlying t = some (.slice e) := by kernel_rfl) (hc : litCells P e n vals = some cells := by kernel_rfl) : if Region.wanted o (yielded ops a.tmps) = true then o.wp P a w K Q else E :=
  step_ok hw (run_lit ho hp ht hc) (h _ _ (hS.push (below_new w _) ⟨rfl, Blk.new w e cells⟩ (by simp)) (below_new w _))
theorem sap {B : Nat} {A A2 : Option Addr} {s x : Operand} {t e size bytes n m c c2 : Nat} {xs news : List Value} (hS : S κ L I w) (i : Nat) (hw : Region.wanted o (yielded ops a.tmps) = true) (ho : o.op = .call { callee := .builtin .append, args := #[s, x], argTypes := #[t, t] })
    (hs : a.eval s = .slice A n c) (hx : a.eval x = .slice A2 m c2) (hr : Reads w B size A2 m news) (h1 : ∀ u ∈ news, u.oneCell' = true) (h63 : n + m ≤ maxLen) (hbytes : (n + m) * bytes ≤ 140737488355328)
    (h : ∀ A' c' w', S κ (L.set i (rowA (.slice A' (n + m) c') e size (n + m) (xs ++ news))) I w' → K (a.put o.dst (.slice A' (n + m) c')) w')
    (hi : L[i]? = some (rowA (.slice A n c) e size n xs) := by rfl) (hT : rowTy P t e size bytes = true := by kernel_rfl) : if Region.wanted o (yielded ops a.tmps) = true then o.wp P a w K Q else E :=
  st_append s x t i e size bytes hS hw ho hT n xs hs hi m c2 news hx hr h1 h63 hbytes h
theorem S.nilrow (hS : S κ L I w) (e size : Nat) : S κ (rowA (.slice none 0 0) e size 0 [] :: L) I w :=
  hS.push (Below.refl _ _) (f := []) ⟨rfl, World.ownsRow_nil _ _ _ _⟩ (by simp)
theorem S.rowBase {i e size n B : Nat} {W : World} {v : Value} {xs : List Value} (h : S κ L I w) (hi : L[i]? = some (rowA v e size n xs)) (hm : memA W B ∈ I) : w.ownsRow B e size v n xs := by
  obtain ⟨_, fp, ⟨f1, f2, rfl, hd, ⟨h1, ho⟩, _⟩, hI⟩ := h.front hi
  obtain ⟨f, ⟨h2, _, _⟩, h3⟩ := hI _ hm
  refine ⟨ho.1, ?_⟩
  rcases ho.2 with h0 | ⟨g, cap, cur, rfl, hb, r⟩
  · exact .inl h0
  · refine .inr ⟨g, cap, cur, rfl, ?_, r⟩
    rcases Nat.lt_or_ge g B with hlt | hge
    · exact absurd (List.mem_append_left _ (by rw [h1]; simp [Value.ownBlock])) (h3 g (by rw [h2]; exact List.mem_range.2 hlt))
    · exact hge
theorem S.base {i g t B : Nat} {W : World} {cs : Array Value} (h : S κ L I w) (hi : L[i]? = some (blkA g t cs)) (hm : memA W B ∈ I) : B ≤ g := by
  obtain ⟨_, fp, ⟨f1, f2, rfl, hd, ⟨h1, _⟩, _⟩, hI⟩ := h.front hi
  obtain ⟨f, ⟨h2, _, _⟩, h3⟩ := hI _ hm
  rcases Nat.lt_or_ge g B with hlt | hge
  · exact absurd (List.mem_append_left _ (by rw [h1]; simp)) (h3 g (by rw [h2]; exact List.mem_range.2 hlt))
  · exact hge
end
end Go.Proofs.Ytmklebkldailnaa
