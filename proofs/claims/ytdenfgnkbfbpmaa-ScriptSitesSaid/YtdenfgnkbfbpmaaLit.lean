/-
  A region that makes a map and fills it in whatever order. Over any program; no statement is proved here.
-/
import Derived.Test.YtdenfgnkbfbpmaaMapA
namespace Go.Proofs.Ytdenfgnkbfbpmaa
open Go.RowKit
set_option linter.unusedVariables false
set_option linter.unusedSimpArgs false

section
variable {α β : Type} [DecidableEq α]
theorem lookL_mem {x : α} {v : β} : ∀ {l : List (α × β)}, (l.map (·.1)).Nodup → (lookL x l = some v ↔ (x, v) ∈ l)
  | [], _ => by simp [lookL]
  | (k, u) :: l, h => by
    simp only [List.map_cons, List.nodup_cons] at h
    unfold lookL
    split
    · rename_i hx; subst hx
      simp only [Option.some.injEq, List.mem_cons, Prod.mk.injEq, true_and]
      exact ⟨fun e => .inl e.symm, fun e => e.elim (fun e => e.symm) (fun hm => absurd (List.mem_map_of_mem (f := (·.1)) hm) h.1)⟩
    · rename_i hx
      rw [lookL_mem h.2]
      simp [hx]
theorem lookL_same {l m : List (α × β)} (hl : (l.map (·.1)).Nodup) (hm : (m.map (·.1)).Nodup) (h : ∀ p, p ∈ l ↔ p ∈ m) (x : α) : lookL x l = lookL x m := by
  apply Option.ext
  intro v
  rw [lookL_mem hl, lookL_mem hm, h]
theorem putL_mem {x : α} {u : β} {l : List (α × β)} (h : lookL x l = none) (p : α × β) : p ∈ putL x u l ↔ p = (x, u) ∨ p ∈ l := by
  induction l with
  | nil => simp [putL]
  | cons q l ih =>
    obtain ⟨k, v⟩ := q
    unfold lookL at h
    split at h
    · cases h
    · rename_i hx
      simp only [putL, if_neg hx, List.mem_cons, ih h]
      constructor
      · rintro (h | h | h) <;> simp [h]
      · rintro (h | h | h) <;> simp [h]
end
theorem S.mapNodup {α β : Type} {ek : α → Value} {ev : β → Value} {κ : Kap} {L I : List Atom} {w : World} {b i : Nat} {l : List (α × β)} (hS : S κ L I w) (hi : L[i]? = some (mapA ek ev b l)) : (l.map (·.1)).Nodup := by
  obtain ⟨_, _, _, h⟩ := hS.mapAt hi
  exact h.nodup

section
variable {α β : Type} [DecidableEq α] {P : Program} {K T E : TypeId} {ek : α → Value} {ev : β → Value} {κ : Kap} {L I : List Atom} {Q : Exit → Act → World → Prop}
/-- operation 0 makes the map; 'ins' tells which ones fill it, by what; the others read: vals tells their values -/
theorem region_lit {id n : Nat} {l : List Oper} {a0 : Act} {w0 : World} (vals : Nat → Nat → Value) (ins : Nat → Option (α × β)) (hn : a0.tmps.size = n) (hK : KeyK P K ek) (hS : S κ L I w0) (hlen : 0 < l.length)
    (h0 : ∀ o, l[0]? = some o → o.op = .makeMap T none ∧ o.guard = none) (hv0 : ∀ g, vals g 0 = .map (some g))
    (hins : ∀ i o k v, l[i]? = some o → ins i = some (k, v) → o.guard = none ∧ o.dst = none ∧ Region.waitsFor .any l.toArray i 0 = true ∧ vals 0 i = undef ∧ (∀ g, vals g i = undef) ∧
      ∃ x y z, o.op = .insert T x y z ∧ ∀ g (a : Act), (∀ s, firstB .any l.toArray i s = true → a.tmps.getD s undef = a0.tmps.getD s undef) → (∀ j d, Region.waitsFor .any l.toArray i j = true → (l.toArray[j]?).bind (·.dst) = some d → a.tmps.getD d undef = vals g j) → a.eval x = .map (some g) ∧ a.eval y = ek k ∧ a.eval z = ev v)
    (hinj : ∀ i j p q, ins i = some p → ins j = some q → p.1 = q.1 → i = j)
    (hread : ∀ i o, l[i]? = some o → i ≠ 0 → ins i = none → o.guard = none ∧ ∀ g (a : Act), (∀ s, firstB .any l.toArray i s = true → a.tmps.getD s undef = a0.tmps.getD s undef) → (∀ j d, Region.waitsFor .any l.toArray i j = true → (l.toArray[j]?).bind (·.dst) = some d → a.tmps.getD d undef = vals g j) → ∀ w, (execOp a.eval o).run P w = .ok (.value (vals g i)) w)
    (hQ : ∀ g m w a1, Put l (vals g) a0 a1 → S κ (mapA ek ev g m :: L) I w → (∀ p, p ∈ m ↔ ∃ i, i < l.length ∧ ins i = some p) → (m.map (·.1)).Nodup → Q .normal a1 w)
    (hTy : P.underlying T = some (.map K E) := by kernel_rfl)
    (hm : P.follows .mixedOrders = true := by kernel_rfl) (hback : backM .any l.toArray = true := by kernel_rfl) (hdst : dstB l.toArray = true := by kernel_rfl) (hroom : roomB l.toArray n = true := by kernel_rfl) : (Code.region id l.toArray true).wp P Q a0 w0 := by
  rw [← hn] at hroom
  have hSd : S κ L I w0.drew := hS.eqv rfl (fun _ _ => rfl)
  let Inv : (Nat → Option Value) → World → Prop := fun vs w =>
    (vs 0 = none ∧ (∀ i p, ins i = some p → i < l.length → vs i = none) ∧ S κ L I w ∧ ∀ i v, vs i = some v → ∀ g, v = vals g i) ∨
    (∃ g m, vs 0 = some (vals g 0) ∧ (∀ i v, vs i = some v → v = vals g i) ∧ S κ (mapA ek ev g m :: L) I w ∧ ∀ p, p ∈ m ↔ ∃ i, i < l.length ∧ (vs i).isSome = true ∧ ins i = some p)
  refine wp_region_any hm (wpAny_inv Inv a0 w0.drew hback hdst hroom (fun i o ho vs a w hI hni hat => ?_) (fun vs' vs w hv hI => ?_) _ _ _ _ (fun _ => none) ⟨Below.refl _ _, rfl, rfl, by simp, fun s _ => rfl, fun i o _ h => ?_, fun j oj _ h => ?_⟩ (fun _ _ => rfl) (.inl ⟨rfl, fun _ _ _ _ => rfl, hSd, fun i v h => by cases h⟩) ?_)
  · have ho' : l[i]? = some o := by simpa using ho
    have hil : i < l.length := (List.getElem?_eq_some_iff.1 ho').1
    have hbase : ∀ s, firstB .any l.toArray i s = true → a.tmps.getD s undef = a0.tmps.getD s undef := hat.base
    by_cases hi0 : i = 0
    · subst hi0
      obtain ⟨e1, e2⟩ := h0 o ho'
      rcases hI with ⟨h1, h2, h3, h4⟩ | ⟨g, m, h1, _⟩
      · refine st_makeMap ek ev h3 (on_none e2) e1 (fun g w' hS' hb => ⟨_, rfl, .inr ⟨g, [], ?_, fun j v hj => ?_, hS', fun p => ?_⟩⟩)
        · rw [upd_same, hv0]
        · by_cases hj0 : j = 0
          · subst hj0; rw [upd_same] at hj; cases hj; exact (hv0 g).symm
          · rw [upd_ne _ _ hj0] at hj; exact h4 j v hj g
        · constructor
          · intro h; cases h
          · rintro ⟨j, hjl, hj, hp⟩
            exfalso
            by_cases hj0 : j = 0
            · subst hj0
              obtain ⟨_, _, _, _, _, x, y, z, e, _⟩ := hins 0 o p.1 p.2 ho' hp
              rw [e1] at e; cases e
            · rw [upd_ne _ _ hj0, h2 j p hp hjl] at hj; cases hj
      · rw [hni] at h1; cases h1
    · cases hp : ins i with
      | none =>
        obtain ⟨e1, e2⟩ := hread i o ho' hi0 hp
        rw [if_pos (on_none e1)]
        rcases hI with ⟨h1, h2, h3, h4⟩ | ⟨g, m, h1, h2, h3, h4⟩
        · have hd : ∀ g, ∀ j d, Region.waitsFor .any l.toArray i j = true → (l.toArray[j]?).bind (·.dst) = some d → a.tmps.getD d undef = vals g j := fun g j d hw hd => by
            obtain ⟨v, g1, g2⟩ := hat.fact j hw
            rw [g1 d hd, h4 j v g2 g]
          have hrun := e2 0 a hbase (hd 0) w
          have heq : ∀ g, vals 0 i = vals g i := fun g => by
            have := e2 g a hbase (hd g) w
            rw [hrun] at this
            injection this with this; injection this
          unfold Oper.wp; rw [hrun]
          refine ⟨_, rfl, .inl ⟨?_, fun j p hj hjl => ?_, h3, fun j v hj g => ?_⟩⟩
          · rw [upd_ne _ _ (fun e => hi0 e.symm)]; exact h1
          · rw [upd_ne _ _ (fun e => by rw [e, hp] at hj; cases hj)]; exact h2 j p hj hjl
          · by_cases hji : j = i
            · subst hji; rw [upd_same] at hj; cases hj; exact heq g
            · rw [upd_ne _ _ hji] at hj; exact h4 j v hj g
        · have hd : ∀ j d, Region.waitsFor .any l.toArray i j = true → (l.toArray[j]?).bind (·.dst) = some d → a.tmps.getD d undef = vals g j := fun j d hw hd => by
            obtain ⟨v, g1, g2⟩ := hat.fact j hw
            rw [g1 d hd, h2 j v g2]
          unfold Oper.wp; rw [e2 g a hbase hd w]
          refine ⟨_, rfl, .inr ⟨g, m, ?_, fun j v hj => ?_, h3, fun p => ?_⟩⟩
          · rw [upd_ne _ _ (fun e => hi0 e.symm)]; exact h1
          · by_cases hji : j = i
            · subst hji; rw [upd_same] at hj; cases hj; rfl
            · rw [upd_ne _ _ hji] at hj; exact h2 j v hj
          · rw [h4]
            constructor
            · rintro ⟨j, g1, g2, g3⟩
              exact ⟨j, g1, by rw [upd_ne _ _ (fun e => by rw [e, hp] at g3; cases g3)]; exact g2, g3⟩
            · rintro ⟨j, g1, g2, g3⟩
              exact ⟨j, g1, by rwa [upd_ne _ _ (fun e => by rw [e, hp] at g3; cases g3)] at g2, g3⟩
      | some q =>
        obtain ⟨e1, e2, e3, _, e4, x, y, z, e5, e6⟩ := hins i o q.1 q.2 ho' hp
        rcases hI with ⟨h1, _⟩ | ⟨g, m, h1, h2, h3, h4⟩
        · obtain ⟨v, _, g2⟩ := hat.fact 0 e3
          rw [h1] at g2; cases g2
        · have hd : ∀ j d, Region.waitsFor .any l.toArray i j = true → (l.toArray[j]?).bind (·.dst) = some d → a.tmps.getD d undef = vals g j := fun j d hw hd => by
            obtain ⟨v, g1, g2⟩ := hat.fact j hw
            rw [g1 d hd, h2 j v g2]
          obtain ⟨f1, f2, f3⟩ := e6 g a hbase hd
          have hnone : lookL q.1 m = none := by
            rw [lookL_none]
            intro hmem
            obtain ⟨p, hpm, hpe⟩ := List.mem_map.1 hmem
            obtain ⟨j, g1, g2, g3⟩ := (h4 p).1 hpm
            have := hinj j i p q g3 hp hpe
            subst this
            rw [hni] at g2; cases g2
          refine st_mapset 0 q.1 q.2 hK h3 (on_none e1) (.inr e5) f1 f2 f3 (fun w' hS' => ⟨_, rfl, .inr ⟨g, _, ?_, fun j v hj => ?_, hS', fun p => ?_⟩⟩) rfl hTy
          · rw [upd_ne _ _ (fun e => hi0 e.symm)]; exact h1
          · by_cases hji : j = i
            · subst hji; rw [upd_same] at hj; cases hj; exact (e4 g).symm
            · rw [upd_ne _ _ hji] at hj; exact h2 j v hj
          · rw [putL_mem hnone, h4]
            constructor
            · rintro (rfl | ⟨j, g1, g2, g3⟩)
              · exact ⟨i, hil, by rw [upd_same]; rfl, hp⟩
              · refine ⟨j, g1, ?_, g3⟩
                by_cases hji : j = i
                · subst hji; rw [upd_same]; rfl
                · rw [upd_ne _ _ hji]; exact g2
            · rintro ⟨j, g1, g2, g3⟩
              by_cases hji : j = i
              · subst hji; rw [hp] at g3; cases g3; exact .inl rfl
              · rw [upd_ne _ _ hji] at g2; exact .inr ⟨j, g1, g2, g3⟩
  · rcases hI with ⟨h1, h2, h3, h4⟩ | ⟨g, m, h1, h2, h3, h4⟩
    · rw [hv 0 (by simpa using hlen)] at h1; cases h1
    · have hvs : ∀ i, i < l.length → vs' i = vals g i := fun i hi => h2 i _ (hv i (by simpa using hi))
      have hp := put_of (l := l) (vs := vs') hdst hroom
      refine hQ g m w _ ⟨hp.size, hp.defers, fun i d hd => ?_, hp.old⟩ h3 (fun p => ?_) (h3.mapNodup (i := 0) rfl)
      · have hil : i < l.length := by
          rcases Nat.lt_or_ge i l.length with h | h
          · exact h
          · rw [List.getElem?_eq_none h] at hd; cases hd
        rw [hp.new i d hd, hvs i hil]
      · rw [h4]
        exact ⟨fun ⟨i, g1, _, g3⟩ => ⟨i, g1, g3⟩, fun ⟨i, g1, g3⟩ => ⟨i, g1, by rw [hv i (by simpa using g1)]; rfl, g3⟩⟩
  · rw [getD_replicate_false] at h; cases h
  · rw [getD_replicate_false] at h; cases h
  · exact Nat.le_trans List.countP_le_length (by simp)
theorem lookup_in {γ : Type} {i : Nat} {p : γ} : ∀ {t : List (Nat × γ)}, t.lookup i = some p → (i, p) ∈ t
  | [], h => by cases h
  | (j, q) :: t, h => by
    rw [List.lookup_cons] at h
    split at h
    · rename_i hj
      simp only [beq_iff_eq] at hj
      simp only [Option.some.injEq] at h
      subst hj; subst h; exact List.mem_cons_self
    · exact List.mem_cons_of_mem _ (lookup_in h)
theorem in_lookup {γ : Type} {i : Nat} {p : γ} : ∀ {t : List (Nat × γ)}, (t.map (·.1)).Nodup → (i, p) ∈ t → t.lookup i = some p
  | [], _, h => by cases h
  | (j, q) :: t, hn, h => by
    simp only [List.map_cons, List.nodup_cons] at hn
    rw [List.lookup_cons]
    rcases List.mem_cons.1 h with h | h
    · cases h; simp
    · have hij : i ≠ j := fun e => hn.1 (by rw [← e]; exact List.mem_map_of_mem (f := (·.1)) h)
      rw [show (i == j) = false by simpa using hij]
      exact in_lookup hn.2 h
/-- the same, by a table of the fillings -/
theorem region_litT {id n : Nat} {l : List Oper} {a0 : Act} {w0 : World} (vals : Nat → Nat → Value) (tab : List (Nat × α × β)) (hn : a0.tmps.size = n) (hK : KeyK P K ek) (hS : S κ L I w0) (hlen : 0 < l.length)
    (h0 : ∀ o, l[0]? = some o → o.op = .makeMap T none ∧ o.guard = none) (hv0 : ∀ g, vals g 0 = .map (some g))
    (hnd : (tab.map (·.1)).Nodup) (hkd : (tab.map (·.2.1)).Nodup)
    (hins : ∀ q ∈ tab, ∃ o, l[q.1]? = some o ∧ o.guard = none ∧ o.dst = none ∧ Region.waitsFor .any l.toArray q.1 0 = true ∧ (∀ g, vals g q.1 = undef) ∧
      ∃ x y z, o.op = .insert T x y z ∧ ∀ g (a : Act), (∀ s, firstB .any l.toArray q.1 s = true → a.tmps.getD s undef = a0.tmps.getD s undef) → (∀ j d, Region.waitsFor .any l.toArray q.1 j = true → (l.toArray[j]?).bind (·.dst) = some d → a.tmps.getD d undef = vals g j) → a.eval x = .map (some g) ∧ a.eval y = ek q.2.1 ∧ a.eval z = ev q.2.2)
    (hread : ∀ i o, l[i]? = some o → i ≠ 0 → i ∉ tab.map (·.1) → o.guard = none ∧ ∀ g (a : Act), (∀ s, firstB .any l.toArray i s = true → a.tmps.getD s undef = a0.tmps.getD s undef) → (∀ j d, Region.waitsFor .any l.toArray i j = true → (l.toArray[j]?).bind (·.dst) = some d → a.tmps.getD d undef = vals g j) → ∀ w, (execOp a.eval o).run P w = .ok (.value (vals g i)) w)
    (hQ : ∀ g m w a1, Put l (vals g) a0 a1 → S κ (mapA ek ev g m :: L) I w → (∀ x, lookL x m = lookL x (tab.map (·.2))) → Q .normal a1 w)
    (hTy : P.underlying T = some (.map K E) := by kernel_rfl)
    (hm : P.follows .mixedOrders = true := by kernel_rfl) (hback : backM .any l.toArray = true := by kernel_rfl) (hdst : dstB l.toArray = true := by kernel_rfl) (hroom : roomB l.toArray n = true := by kernel_rfl) : (Code.region id l.toArray true).wp P Q a0 w0 := by
  have hmem : ∀ i p, tab.lookup i = some p → (i, p) ∈ tab := fun i p h => lookup_in h
  refine region_lit (E := E) (T := T) (ev := ev) vals (fun i => tab.lookup i) hn hK hS hlen h0 hv0 (fun i o k v ho hi => ?_) (fun i j p q hi hj hpq => ?_) (fun i o ho hi0 hi => ?_) (fun g m w a1 hp hS' hmm hnd' => ?_) hTy hm hback hdst hroom
  · obtain ⟨o', h1, h2, h3, h4, h5, h6⟩ := hins _ (hmem i _ hi)
    rw [ho] at h1; cases h1
    exact ⟨h2, h3, h4, h5 0, h5, h6⟩
  · have h1 := hmem _ _ hi
    have h2 := hmem _ _ hj
    have key : ∀ {t : List (Nat × α × β)}, (t.map (·.2.1)).Nodup → (i, p) ∈ t → (j, q) ∈ t → i = j := by
      intro t
      induction t with
      | nil => intro _ h; cases h
      | cons x t ih =>
        intro hn h1 h2
        simp only [List.map_cons, List.nodup_cons] at hn
        rcases List.mem_cons.1 h1 with e1 | k1 <;> rcases List.mem_cons.1 h2 with e2 | k2
        · rw [← e1] at e2; cases e2; rfl
        · subst e1; exact absurd (show p.1 ∈ _ from hpq ▸ List.mem_map_of_mem (f := fun x => x.2.1) k2) hn.1
        · subst e2; exact absurd (show q.1 ∈ _ from hpq ▸ List.mem_map_of_mem (f := fun x => x.2.1) k1) hn.1
        · exact ih hn.2 k1 k2
    exact key hkd h1 h2
  · refine hread i o ho hi0 (fun h => ?_)
    obtain ⟨⟨j, p⟩, hp, e⟩ := List.mem_map.1 h
    simp only at e; subst e
    rw [in_lookup hnd hp] at hi; cases hi
  · refine hQ g m w a1 hp hS' (lookL_same hnd' (by rw [List.map_map]; exact hkd) (fun p => ?_))
    rw [hmm]
    constructor
    · rintro ⟨i, _, hi⟩
      exact List.mem_map.2 ⟨_, hmem i p hi, rfl⟩
    · intro h
      obtain ⟨⟨i, p'⟩, hq, e⟩ := List.mem_map.1 h
      simp only at e; subst e
      obtain ⟨o, h1, _⟩ := hins _ hq
      exact ⟨i, (List.getElem?_eq_some_iff.1 h1).1, in_lookup hnd hq⟩
end
end Go.Proofs.Ytdenfgnkbfbpmaa
