/-
  Maps as pieces: what a look-up, a store, a delete, a length do. Over any program; no statement is proved here.
-/
import Derived.Test.YtdenfgnkbfbpmaaOps
import Derived.MapKept
namespace Go.Proofs.Ytdenfgnkbfbpmaa
open Go.RowKit
set_option linter.unusedVariables false
set_option linter.unusedSimpArgs false

/-- entries tell a list of pairs -/
def Ents {α β : Type} (ek : α → Value) (ev : β → Value) (l : List (α × β)) (es : List MapEntry) : Prop := es.map (fun e => (e.key, e.val)) = l.map (fun p => (ek p.1, ev p.2))
def findF {α β : Type} [DecidableEq α] (ev : β → Value) (x : α) : List (α × β) → Nat → Option (Nat × Value)
  | [], _ => none
  | (k, v) :: l, i => if x = k then some (i, ev v) else findF ev x l (i + 1)
/-- a type of keys -/
structure KeyK {α : Type} [DecidableEq α] (P : Program) (K : TypeId) (ek : α → Value) : Prop where
  chk : ∀ (e : Bool) (a : α) (w : World), (Instr.checkKey e 10000 K (ek a)).run P w = .ok () w
  bits : ∀ a, Instr.sameBits 10000 (ek a) (ek a) = true
  find : ∀ {β : Type} (ev : β → Value) (l : List (α × β)) (es : List MapEntry) (x : α) (w : World), Ents ek ev l es → (Instr.findKey K (ek x) es).run P w = .ok (findF ev x l 0) w
section
variable {α β : Type} {ek : α → Value} {ev : β → Value}
theorem Ents.cons_inv {p : α × β} {l : List (α × β)} {es : List MapEntry} (h : Ents ek ev (p :: l) es) : ∃ e es', es = e :: es' ∧ e.key = ek p.1 ∧ e.val = ev p.2 ∧ Ents ek ev l es' := by
  cases es with
  | nil => cases h
  | cons e es =>
    simp only [Ents, List.map_cons, List.cons.injEq, Prod.mk.injEq] at h
    exact ⟨e, es, rfl, h.1.1, h.1.2, h.2⟩
theorem Ents.nil_inv {es : List MapEntry} (h : Ents ek ev ([] : List (α × β)) es) : es = [] := by
  cases es with
  | nil => rfl
  | cons e es => cases h
end
section
variable {α β : Type} [DecidableEq α] {P : Program} {K : TypeId} {ek : α → Value} {ev : β → Value}
theorem findAsking_run (heq : ∀ (a b : α) (w : World), (Op.equal K (ek a) (ek b)).run P w = .ok (decide (a = b)) w) : ∀ (l : List (α × β)) (es : List MapEntry) (i : Nat) (x : α) (w : World), Ents ek ev l es → (Instr.findAsking K (ek x) es i).run P w = .ok (findF ev x l i) w
  | [], es, i, x, w, h => by
    rw [h.nil_inv]; rfl
  | (k, v) :: l, es, i, x, w, h => by
    obtain ⟨e, es', rfl, h1, h2, h3⟩ := h.cons_inv
    simp only [Instr.findAsking, Sem.run_bind, h1, heq, Result.andThen, findF]
    by_cases hx : x = k
    · simp [hx, h2]
    · simp only [hx, decide_false, Bool.false_eq_true, if_false]
      exact findAsking_run heq l es' (i + 1) x w h3
theorem KeyK.ofStruct {fs : Array Field} (hu : P.underlying K = some (.struct fs)) (heq : ∀ (a b : α) (w : World), (Op.equal K (ek a) (ek b)).run P w = .ok (decide (a = b)) w)
    (hchk : ∀ (e : Bool) (a : α) (w : World), (Instr.checkKey e 10000 K (ek a)).run P w = .ok () w) (hbits : ∀ a, Instr.sameBits 10000 (ek a) (ek a) = true) : KeyK P K ek where
  chk := hchk
  bits := hbits
  find := fun {β} ev l es x w h => by
    have hn : Instr.findNow (.struct fs) (ek x) es 0 = none ∨ es = [] := by
      cases es with
      | nil => exact .inr rfl
      | cons e es => left; simp [Instr.findNow, Instr.sameNow]
    rcases hn with hn | rfl
    · simp only [Instr.findKey, Sem.run_bind, run_underlying hu, Result.andThen, hn]
      exact findAsking_run heq l es 0 x w h
    · cases l with
      | nil => simp [Instr.findKey, run_underlying hu, Result.andThen, Instr.findNow, findF]
      | cons p l => cases h
theorem findNow_int {q : IntKind} {qv : IntKind} {f : α → Int} (hf : ∀ a b, (f a == f b) = decide (a = b)) : ∀ (l : List (α × β)) (es : List MapEntry) (i : Nat) (x : α), Ents (fun a => .int q (f a)) ev l es → Instr.findNow (.int qv) (.int q (f x)) es i = some (findF ev x l i)
  | [], es, i, x, h => by rw [h.nil_inv]; rfl
  | (k, v) :: l, es, i, x, h => by
    obtain ⟨e, es', rfl, h1, h2, h3⟩ := h.cons_inv
    simp only at h1
    simp only [Instr.findNow, h1, Instr.sameNow, if_true, hf, findF]
    by_cases hx : x = k
    · simp [hx, h2]
    · simp only [hx, decide_false, if_false]
      exact findNow_int hf l es' (i + 1) x h3
theorem KeyK.ofInt (hu : P.underlying K = some (.int .i64)) : KeyK P K (fun a : Int => .int .i64 a) where
  chk := fun e a w => by unfold Instr.checkKey; simp [run_underlying hu, Result.andThen]
  bits := fun a => by unfold Instr.sameBits; simp
  find := fun {β} ev l es x w h => by
    have := findNow_int (q := .i64) (qv := .i64) (f := fun a : Int => a) (fun a b => by by_cases h : a = b <;> simp [h]) l es 0 x h
    simp [Instr.findKey, run_underlying hu, Result.andThen, this]
/-- what a look-up tells -/
def lookL (x : α) : List (α × β) → Option β
  | [] => none
  | (k, v) :: l => if x = k then some v else lookL x l
theorem findF_look (x : α) : ∀ (l : List (α × β)) (i : Nat), (findF ev x l i).map (·.2) = (lookL x l).map ev
  | [], _ => rfl
  | (k, v) :: l, i => by
    unfold findF lookL
    split
    · rfl
    · exact findF_look x l _
/-- what a store makes -/
def putL (x : α) (u : β) : List (α × β) → List (α × β)
  | [] => [(x, u)]
  | (k, v) :: l => if x = k then (x, u) :: l else (k, v) :: putL x u l
/-- what a delete leaves -/
def delL (x : α) : List (α × β) → List (α × β)
  | [] => []
  | (k, v) :: l => if x = k then l else (k, v) :: delL x l
theorem findF_none {x : α} : ∀ {l : List (α × β)} {i : Nat}, findF ev x l i = none → lookL x l = none ∧ (∀ u : β, putL x u l = l ++ [(x, u)]) ∧ delL x l = l
  | [], _, _ => ⟨rfl, fun _ => rfl, rfl⟩
  | (k, v) :: l, i, h => by
    unfold findF at h
    split at h
    · cases h
    · rename_i hx
      obtain ⟨h1, h2, h3⟩ := findF_none h
      simp [lookL, putL, delL, hx, h1, h2, h3]
theorem findF_some {x : α} {j : Nat} {u : Value} : ∀ {l : List (α × β)} {i : Nat}, findF ev x l i = some (j, u) → i ≤ j ∧ (∃ v, l[j - i]? = some (x, v) ∧ u = ev v ∧ lookL x l = some v) ∧ (∀ u : β, putL x u l = l.set (j - i) (x, u)) ∧ delL x l = l.eraseIdx (j - i)
  | [], _, h => by cases h
  | (k, v) :: l, i, h => by
    unfold findF at h
    split at h
    · rename_i hx
      simp only [Option.some.injEq, Prod.mk.injEq] at h
      obtain ⟨rfl, rfl⟩ := h
      subst hx
      simp [lookL, putL, delL]
    · rename_i hx
      obtain ⟨h0, ⟨v', h1, h2, h3⟩, h4, h5⟩ := findF_some h
      have e : j - i = (j - (i + 1)) + 1 := by omega
      refine ⟨by omega, ⟨v', by rw [e]; simpa using h1, h2, by simp [lookL, hx, h3]⟩, fun u => ?_, ?_⟩
      · rw [e]; simp [putL, hx, h4 u]
      · rw [e]; simp [delL, hx, h5]
theorem putL_keys {x : α} {u : β} {l : List (α × β)} : (putL x u l).map (·.1) = if lookL x l = none then l.map (·.1) ++ [x] else l.map (·.1) := by
  induction l with
  | nil => rfl
  | cons p l ih =>
    obtain ⟨k, v⟩ := p
    unfold putL lookL
    split
    · rename_i h; subst h; simp
    · simp only [List.map_cons, ih]; split <;> simp
theorem lookL_none {x : α} {l : List (α × β)} : lookL x l = none ↔ x ∉ l.map (·.1) := by
  induction l with
  | nil => simp [lookL]
  | cons p l ih =>
    obtain ⟨k, v⟩ := p
    unfold lookL
    split
    · rename_i h; subst h; simp
    · rename_i h; simp [ih, h]
theorem putL_nodup {x : α} {u : β} {l : List (α × β)} (h : (l.map (·.1)).Nodup) : ((putL x u l).map (·.1)).Nodup := by
  rw [putL_keys]
  split
  · rename_i hn
    rw [lookL_none] at hn
    exact List.nodup_append.2 ⟨h, by simp, fun a ha b hb => by simp at hb; subst hb; exact fun e => hn (e ▸ ha)⟩
  · exact h
theorem delL_sub {x : α} : ∀ l : List (α × β), (delL x l).Sublist l
  | [] => List.Sublist.slnil
  | (k, v) :: l => by
    unfold delL
    split
    · exact List.sublist_cons_self _ _
    · exact (delL_sub l).cons_cons _
theorem delL_nodup {x : α} {l : List (α × β)} (h : (l.map (·.1)).Nodup) : ((delL x l).map (·.1)).Nodup := h.sublist ((delL_sub l).map _)
/-- a map as a piece -/
structure MapOK (ek : α → Value) (ev : β → Value) (l : List (α × β)) (es : Array MapEntry) (clock : Nat) : Prop where
  ents : Ents ek ev l es.toList
  nodup : (l.map (·.1)).Nodup
  rise : (es.toList.map (·.born)).Pairwise (· < ·)
  late : ∀ e ∈ es.toList, e.born < clock
def mapA (ek : α → Value) (ev : β → Value) (b : Nat) (l : List (α × β)) : Atom where
  holds w fp := fp = [b] ∧ ∃ es clock, w.heap[b]? = some (.map es clock) ∧ MapOK ek ev l es clock
  loc := fun ⟨h1, es, c, h2, h3⟩ hb => ⟨h1, es, c, (hb _ (by rw [h1]; simp)).trans h2, h3⟩
  dom := fun ⟨h1, es, c, h2, h3⟩ b hb => by rw [h1] at hb; simp at hb; subst hb; exact (Array.getElem?_eq_some_iff.1 h2).1
theorem MapOK.put_new {l : List (α × β)} {es : Array MapEntry} {clock : Nat} {x : α} {u : β} (h : MapOK ek ev l es clock) (hn : findF ev x l 0 = none) : MapOK ek ev (putL x u l) (es.push { key := ek x, val := ev u, born := clock }) (clock + 1) where
  ents := by
    have h2 := h.ents
    rw [(findF_none hn).2.1 u]
    unfold Ents at h2 ⊢
    rw [Array.toList_push, List.map_append, List.map_append, h2]
    rfl
  nodup := putL_nodup h.nodup
  rise := by
    simp only [Array.toList_push, List.map_append, List.map_cons, List.map_nil, List.pairwise_append]
    refine ⟨h.rise, by simp, fun a ha b hb => ?_⟩
    simp only [List.mem_singleton] at hb; subst hb
    obtain ⟨e, he, rfl⟩ := List.mem_map.1 ha
    exact h.late e he
  late := fun e he => by
    simp only [Array.toList_push, List.mem_append, List.mem_singleton] at he
    rcases he with he | rfl
    · exact Nat.lt_succ_of_lt (h.late e he)
    · exact Nat.lt_succ_self _
theorem modify_born (l : List MapEntry) (j : Nat) (k v : Value) : (l.modify j fun e => { e with key := k, val := v }).map (·.born) = l.map (·.born) := by
  induction l generalizing j with
  | nil => simp
  | cons e l ih => cases j <;> simp [List.modify_cons, ih]
theorem modify_ents (l : List MapEntry) (j : Nat) (k v : Value) : (l.modify j fun e => { e with key := k, val := v }).map (fun e => (e.key, e.val)) = (l.map (fun e => (e.key, e.val))).set j (k, v) := by
  induction l generalizing j with
  | nil => simp
  | cons e l ih => cases j <;> simp [List.modify_cons, ih]
theorem MapOK.put_old {l : List (α × β)} {es : Array MapEntry} {clock j : Nat} {x : α} {u : β} {o : Value} (h : MapOK ek ev l es clock) (hn : findF ev x l 0 = some (j, o)) : MapOK ek ev (putL x u l) (es.modify j fun e => { e with key := ek x, val := ev u }) clock where
  ents := by
    have h1 := (findF_some hn).2.2.1 u
    rw [Nat.sub_zero] at h1
    rw [h1]
    unfold Ents
    rw [Array.toList_modify, modify_ents, h.ents, List.map_set]
  nodup := putL_nodup h.nodup
  rise := by rw [Array.toList_modify, modify_born]; exact h.rise
  late := fun e he => by
    rw [Array.toList_modify] at he
    have : e.born ∈ es.toList.map (·.born) := by
      rw [← modify_born es.toList j (ek x) (ev u)]; exact List.mem_map_of_mem he
    obtain ⟨e', he', e2⟩ := List.mem_map.1 this
    rw [← e2]; exact h.late e' he'
theorem map_erase {γ δ : Type} (f : γ → δ) : ∀ (l : List γ) (j : Nat), (l.eraseIdx j).map f = (l.map f).eraseIdx j
  | [], _ => by simp
  | _ :: _, 0 => by simp
  | x :: l, j + 1 => by simp [map_erase f l j]
theorem MapOK.del {l : List (α × β)} {es : Array MapEntry} {clock j : Nat} {x : α} {o : Value} (h : MapOK ek ev l es clock) (hn : findF ev x l 0 = some (j, o)) : MapOK ek ev (delL x l) (es.eraseIdxIfInBounds j) clock := by
  have h1 := (findF_some hn).2.2.2
  rw [Nat.sub_zero] at h1
  have e : (es.eraseIdxIfInBounds j).toList = es.toList.eraseIdx j := by simp
  have hs := List.eraseIdx_sublist es.toList j
  refine ⟨?_, delL_nodup h.nodup, ?_, ?_⟩
  · rw [h1]; unfold Ents; rw [e, map_erase, h.ents, map_erase]
  · rw [e]; exact h.rise.sublist (hs.map _)
  · rw [e]; exact fun x hx => h.late x (hs.subset hx)
end
section
variable {α β : Type} {ek : α → Value} {ev : β → Value} {κ : Kap} {L I : List Atom} {w : World} {b i : Nat} {l : List (α × β)}
theorem MapOK.size {es : Array MapEntry} {clock : Nat} (h : MapOK ek ev l es clock) : es.size = l.length := by
  have := congrArg List.length h.ents
  simpa using this
theorem S.mapAt (hS : S κ L I w) (hi : L[i]? = some (mapA ek ev b l)) : ∃ es clock, w.heap[b]? = some (.map es clock) ∧ MapOK ek ev l es clock := (hS.own hi).elim fun _ h => h.2
theorem S.mapAtI (hS : S κ L I w) (hi : I[i]? = some (mapA ek ev b l)) : ∃ es clock, w.heap[b]? = some (.map es clock) ∧ MapOK ek ev l es clock := (hS.imm hi).elim fun _ h => h.2
theorem S.mapTurn {es' : Array MapEntry} {clock' : Nat} {l' : List (α × β)} (hS : S κ L I w) (hi : L[i]? = some (mapA ek ev b l)) (hm : MapOK ek ev l' es' clock') : S κ (L.set i (mapA ek ev b l')) I { w with heap := w.heap.setIfInBounds b (.map es' clock') } := by
  refine S.back ?_ hi
  obtain ⟨f, ⟨hf, es, c, hb, hok⟩, h⟩ := (hS.front hi).turn
  have hs := MapKept.heap_set (o' := Obj.map es' clock') hb
  refine h _ _ [b] ⟨rfl, es', clock', hs.1, hm⟩ rfl (by simp) (fun b hb => .inl (by rw [hf]; exact hb)) (fun b' _ hn => hs.2 b' (fun e => hn (by rw [hf, e]; simp)))
end
section
variable {α β : Type} [DecidableEq α] {P : Program} {K T E : TypeId} {ek : α → Value} {ev : β → Value} {w : World} {b : Nat} {l : List (α × β)}
theorem run_look_at (hK : KeyK P K ek) (ht : P.underlying T = some (.map K E)) {z : Value} (hz : ∀ w, (zeroValue E).run P w = .ok z w) (c : Bool) (h : ∃ es clock, w.heap[b]? = some (.map es clock) ∧ MapOK ek ev l es clock) (x : α) :
    (Instr.lookup T (.map (some b)) (ek x) c).run P w = .ok (if c then .tuple #[((lookL x l).map ev).getD z, .bool (lookL x l).isSome] else ((lookL x l).map ev).getD z) w := by
  obtain ⟨es, clock, hb, hok⟩ := h
  have hf := hK.find ev l es.toList x w hok.ents
  have hl := findF_look (ev := ev) x l 0
  unfold Instr.lookup
  simp only [Sem.run_bind, run_underlying ht, Result.andThen, MapKept.run_getObj_map hb, Sem.run_pure, hK.chk, hf]
  cases hq : findF ev x l 0 with
  | none =>
    rw [hq] at hl
    have hn : lookL x l = none := by simpa using hl.symm
    simp [hn, hz, Result.andThen]
  | some p =>
    obtain ⟨j, u⟩ := p
    obtain ⟨v, _, e1, e2⟩ := (findF_some hq).2.1
    simp [e2, e1]
theorem run_put_at (hK : KeyK P K ek) (ht : P.underlying T = some (.map K E)) (hb : ∃ es clock, w.heap[b]? = some (.map es clock) ∧ MapOK ek ev l es clock) (x : α) (u : β) :
    ∃ es' clock', (Instr.mapUpdate T (.map (some b)) (ek x) (ev u)).run P w = .ok () { w with heap := w.heap.setIfInBounds b (.map es' clock') } ∧ MapOK ek ev (putL x u l) es' clock' := by
  obtain ⟨es, clock, hb, hok⟩ := hb
  have hf := hK.find ev l es.toList x w hok.ents
  cases hq : findF ev x l 0 with
  | none =>
    rw [hq] at hf
    refine ⟨_, _, ?_, hok.put_new hq⟩
    simp [Instr.mapUpdate, run_underlying ht, MapKept.run_getObj_map hb, hK.chk, hf, MapKept.run_setObj_map _ hb, Result.andThen]
  | some p =>
    obtain ⟨j, o⟩ := p
    rw [hq] at hf
    refine ⟨_, _, ?_, hok.put_old hq⟩
    obtain ⟨v, e0, _, _⟩ := (findF_some hq).2.1
    rw [Nat.sub_zero] at e0
    have hek : ((es[j]?).map (·.key)).getD (ek x) = ek x := by
      have h1 : (es.toList.map (fun e => (e.key, e.val)))[j]? = some (ek x, ev v) := by rw [hok.ents, List.getElem?_map, e0]; rfl
      rw [List.getElem?_map] at h1
      obtain ⟨e, he, h2⟩ := Option.map_eq_some_iff.1 h1
      have he' : es[j]? = some e := by simpa using he
      rw [he']; exact (Prod.mk.inj h2).1
    have hst : (Instr.keyThatStays (ek x) (ek x)).run P w = .ok (ek x) w := by simp [Instr.keyThatStays, hK.bits x]
    simp [Instr.mapUpdate, run_underlying ht, MapKept.run_getObj_map hb, hK.chk, hf, hek, hst, MapKept.run_setObj_map _ hb, Result.andThen]
theorem run_del_at (hK : KeyK P K ek) (ht : P.underlying T = some (.map K E)) (hb : ∃ es clock, w.heap[b]? = some (.map es clock) ∧ MapOK ek ev l es clock) (x : α) (ts : Array TypeId) (hts : ts[0]? = some T) (ty : TypeId) :
    ∃ es' clock', (Builtin.delete_ ts ty #[.map (some b), ek x]).run P w = .ok (.tuple #[]) { w with heap := w.heap.setIfInBounds b (.map es' clock') } ∧ MapOK ek ev (delL x l) es' clock' := by
  obtain ⟨es, clock, hb, hok⟩ := hb
  have hf := hK.find ev l es.toList x w hok.ents
  cases hq : findF ev x l 0 with
  | none =>
    rw [hq] at hf
    refine ⟨es, clock, ?_, by rw [(findF_none hq).2.2]; exact hok⟩
    simp [Builtin.delete_, hts, run_underlying ht, MapKept.run_getObj_map hb, hK.chk, hf, MapKept.run_setObj_map _ hb, Result.andThen]
  | some p =>
    obtain ⟨j, o⟩ := p
    rw [hq] at hf
    refine ⟨_, _, ?_, hok.del hq⟩
    simp [Builtin.delete_, hts, run_underlying ht, MapKept.run_getObj_map hb, hK.chk, hf, MapKept.run_setObj_map _ hb, Result.andThen]
end
/-! ### steps -/
section
variable {α β : Type} {P : Program} {κ : Kap} {L I : List Atom} {w : World} {ops : Array Oper} {Q : Exit → Act → World → Prop} {o : Oper} {a : Act} {KK : Act → World → Prop} {EE : Prop}
theorem st_makeMap (ek : α → Value) (ev : β → Value) {t : TypeId} (hS : S κ L I w) (hw : Region.wanted o (yielded ops a.tmps) = true) (ho : o.op = .makeMap t none)
    (h : ∀ g w', S κ (mapA ek ev g ([] : List (α × β)) :: L) I w' → Below w.heap.size w w' → KK (a.put o.dst (.map (some g))) w') : if Region.wanted o (yielded ops a.tmps) = true then o.wp P a w KK Q else EE := by
  have hr : (execOp a.eval o).run P w = .ok (.value (.map (some w.heap.size))) (w.alloc (.map #[] 0)) := by
    unfold execOp; simp only [ho]; rfl
  refine step_ok hw hr (h _ _ (hS.push (below_new w _) (f := [w.heap.size]) ⟨rfl, #[], 0, (MapKept.heap_alloc w _).1, ⟨rfl, List.nodup_nil, List.Pairwise.nil, fun e he => by cases he⟩⟩ (by simp)) (below_new w _))
end
section
variable {α β : Type} [DecidableEq α] {P : Program} {K T E : TypeId} {ek : α → Value} {ev : β → Value} {κ : Kap} {L I : List Atom} {w : World} {b : Nat} {l : List (α × β)} {ops : Array Oper} {Q : Exit → Act → World → Prop} {o : Oper} {a : Act} {KK : Act → World → Prop} {EE : Prop}
theorem st_mapset {t : TypeId} {m y v : Operand} (i : Nat) (x : α) (u : β) (hK : KeyK P K ek) (hS : S κ L I w) (hw : Region.wanted o (yielded ops a.tmps) = true) (ho : o.op = .mapUpdate t m y v ∨ o.op = .insert t m y v) (hm : a.eval m = .map (some b)) (hy : a.eval y = ek x) (hv : a.eval v = ev u)
    (h : ∀ w', S κ (L.set i (mapA ek ev b (putL x u l))) I w' → KK (a.put o.dst undef) w') (hi : L[i]? = some (mapA ek ev b l) := by rfl) (ht : P.underlying t = some (.map K E) := by kernel_rfl) : if Region.wanted o (yielded ops a.tmps) = true then o.wp P a w KK Q else EE := by
  obtain ⟨es', c', hr, hok⟩ := run_put_at hK ht (hS.mapAt hi) x u
  refine step_skip hw ?_ (h _ (hS.mapTurn hi hok))
  unfold execOp
  rcases ho with ho | ho <;> simp only [ho] <;> rw [hm, hy, hv] <;> simp [hr, Result.andThen]
theorem st_mapdel {m y : Operand} {t : TypeId} {ts : Array TypeId} (i : Nat) (x : α) (hK : KeyK P K ek) (hS : S κ L I w) (hw : Region.wanted o (yielded ops a.tmps) = true) (ho : o.op = .call { callee := .builtin .delete, args := #[m, y], argTypes := ts }) (hm : a.eval m = .map (some b)) (hy : a.eval y = ek x)
    (h : ∀ w', S κ (L.set i (mapA ek ev b (delL x l))) I w' → KK (a.put o.dst (.tuple #[])) w') (hi : L[i]? = some (mapA ek ev b l) := by rfl) (hts : ts[0]? = some t := by rfl) (ht : P.underlying t = some (.map K E) := by kernel_rfl) : if Region.wanted o (yielded ops a.tmps) = true then o.wp P a w KK Q else EE := by
  obtain ⟨es', c', hr, hok⟩ := run_del_at hK ht (hS.mapAt hi) x ts hts o.type
  refine step_ok hw ?_ (h _ (hS.mapTurn hi hok))
  unfold execOp
  simp only [ho, resolve, invoke, builtin, Sem.run_bind, Sem.run_pure, Result.andThen_ok, List.map_toArray, List.map_cons, List.map_nil, hm, hy, hr]
theorem run_look2 {m y : Operand} {t : TypeId} {z r : Value} (x : α) (hK : KeyK P K ek) (h : ∃ es clock, w.heap[b]? = some (.map es clock) ∧ MapOK ek ev l es clock) (ho : o.op = .lookup t m y true) (hm : a.eval m = .map (some b)) (hy : a.eval y = ek x) (hr : Value.tuple #[((lookL x l).map ev).getD z, .bool (lookL x l).isSome] = r)
    (ht : P.underlying t = some (.map K E) := by kernel_rfl) (hz : ∀ w, (zeroValue E).run P w = .ok z w := by intro w; rfl) : (execOp a.eval o).run P w = .ok (.value r) w := by
  have := run_look_at hK ht hz true h x
  unfold execOp; simp only [ho]; rw [hm, hy]
  simp only [if_true] at this
  simp only [Sem.run_bind, this, Result.andThen, Sem.run_pure]
  rw [hr]
theorem run_look1 {m y : Operand} {t : TypeId} {z r : Value} (x : α) (hK : KeyK P K ek) (h : ∃ es clock, w.heap[b]? = some (.map es clock) ∧ MapOK ek ev l es clock) (ho : o.op = .lookup t m y false) (hm : a.eval m = .map (some b)) (hy : a.eval y = ek x) (hr : ((lookL x l).map ev).getD z = r)
    (ht : P.underlying t = some (.map K E) := by kernel_rfl) (hz : ∀ w, (zeroValue E).run P w = .ok z w := by intro w; rfl) : (execOp a.eval o).run P w = .ok (.value r) w := by
  have := run_look_at hK ht hz false h x
  unfold execOp; simp only [ho]; rw [hm, hy]
  simp only [Bool.false_eq_true, if_false] at this
  simp only [Sem.run_bind, this, Result.andThen, Sem.run_pure]
  rw [hr]
end
end Go.Proofs.Ytdenfgnkbfbpmaa
