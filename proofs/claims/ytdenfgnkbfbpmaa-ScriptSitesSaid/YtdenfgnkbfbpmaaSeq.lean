/-
  Regions walked in the order of their effects: what only reads is met where it may come up, what writes is met one behind the other. No statement is proved here.
-/
import Derived.Test.YtdenfgnkbfbpmaaRun
namespace Go.Proofs.Ytdenfgnkbfbpmaa
open Go.RowKit
set_option linter.unusedVariables false
set_option linter.unusedSimpArgs false

/-- a plan: 'rd i': operation i reads, and is met first; 'ag i': it may come up here, too; 'ef i p q': operation i writes, then p; or else q; 'non': no other one -/
inductive Plan where
  | fin
  | rd (i : Nat) (p : Plan)
  | ag (i : Nat) (p : Plan)
  | ef (i : Nat) (p q : Plan)
  | non
def updv (vs : Nat → Value) (i : Nat) (v : Value) : Nat → Value := fun j => match Nat.beq j i with | true => v | false => vs j
theorem updv_same (vs : Nat → Value) (i : Nat) (v : Value) : updv vs i v i = v := by
  unfold updv; rw [Nat.beq_refl]
theorem updv_ne (vs : Nat → Value) {i j : Nat} (v : Value) (h : j ≠ i) : updv vs i v j = vs j := by
  unfold updv
  cases hb : Nat.beq j i with
  | true => exact absurd (Nat.eq_of_beq_eq_true hb) h
  | false => rfl

section
variable (P : Program) (ops : Array Oper) (bs dp : Nat → Nat → Bool) (a0 : Act) (Q : Exit → Act → World → Prop) (Qf : (Nat → Value) → World → Prop)
structure AtV (vs : Nat → Value) (i : Nat) (a : Act) : Prop where
  base : ∀ s, bs i s = true → a.tmps.getD s undef = a0.tmps.getD s undef
  dep : ∀ j d, dp i j = true → (ops[j]?).bind (·.dst) = some d → a.tmps.getD d undef = vs j
/-- operation i's value is v, at this world -/
def ROK (vs : Nat → Value) (i : Nat) (v : Value) (w : World) : Prop :=
  match ops[i]? with
  | some o => ∀ a, AtV ops bs dp a0 vs i a → if Region.wanted o (yielded ops a.tmps) = true then o.wp P a w (fun a' w' => a' = a.put o.dst v ∧ w' = w) Q else v = undef
  | none => True
def SeqP : Plan → (Nat → Value) → World → Prop
  | .fin, vs, w => Qf vs w
  | .rd i p, vs, w => ∃ v, ROK P ops bs dp a0 Q vs i v w ∧ SeqP p (updv vs i v) w
  | .ag i p, vs, w => ROK P ops bs dp a0 Q vs i (vs i) w ∧ SeqP p vs w
  | .ef i p q, vs, w => (match ops[i]? with
      | some o => ∀ a, AtV ops bs dp a0 vs i a → if Region.wanted o (yielded ops a.tmps) = true then o.wp P a w (fun a' w' => ∃ v, a' = a.put o.dst v ∧ SeqP p (updv vs i v) w') Q else SeqP p (updv vs i undef) w
      | none => True) ∧ SeqP q vs w
  | .non, _, _ => True
end

section
variable (ops : Array Oper) (tab : List (List Nat)) (ef : List Nat)
def tabOk : Bool := (List.range ops.size).all fun i => (tab.getD i []).all fun j => Region.waitsFor .any ops i j || (List.range i).any fun m => Region.waitsFor .any ops i m && (tab.getD m []).contains j
def depsIn (i : Nat) (intro : List Nat) : Bool := match ops[i]? with | some o => o.after.all fun e => !Region.binds .any e || intro.contains e.on | none => true
def availB (j : Nat) (D : List Nat) : Bool := (tab.getD j []).all fun e => !ef.contains e || D.contains e
def closedB (j : Nat) (D : List Nat) : Bool := D.any fun e => (tab.getD e []).contains j
def covB (D seg : List Nat) : Bool := (List.range ops.size).all fun j => ef.contains j || seg.contains j || closedB tab j D || !availB tab ef j D
def okP : Plan → Bool → List Nat → List Nat → List Nat → List Nat → Bool
  | .fin, m, D, intro, seg, _ => !m && (covB ops tab ef D seg && ((List.range ops.size).all intro.contains && ef.all D.contains))
  | .rd i p, m, D, intro, seg, _ => !m && (decide (i < ops.size) && (!ef.contains i && (!intro.contains i && (depsIn ops i intro && okP p false D (i :: intro) (i :: seg) []))))
  | .ag i p, m, D, intro, seg, _ => !m && (decide (i < ops.size) && (!ef.contains i && (intro.contains i && (depsIn ops i intro && okP p false D intro (i :: seg) []))))
  | .ef i p q, m, D, intro, seg, alts => covB ops tab ef D seg && (decide (i < ops.size) && (ef.contains i && (!intro.contains i && (depsIn ops i intro && (okP p false (i :: D) (i :: intro) [] [] && okP q true D intro seg (i :: alts))))))
  | .non, m, D, _, _, alts => m && ef.all fun e => D.contains e || (alts.contains e || !availB tab ef e D)
end

section
variable {P : Program} {ops : Array Oper} {a0 : Act} {Q : Exit → Act → World → Prop} {Qf : (Nat → Value) → World → Prop} {tab : List (List Nat)} {ef : List Nat}
theorem depsIn_spec {i j : Nat} {intro : List Nat} (h : depsIn ops i intro = true) (hw : Region.waitsFor .any ops i j = true) : j ∈ intro := by
  obtain ⟨o, ho, e, he, hb, rfl⟩ := Region.waitsFor_spec hw
  unfold depsIn at h
  rw [ho] at h
  have := Array.all_eq_true_iff_forall_mem.1 h e he
  rw [hb] at this
  simpa using this
theorem rok_congr {vs vs' : Nat → Value} {i : Nat} {v : Value} {w : World} (h : ∀ j, Region.waitsFor .any ops i j = true → vs j = vs' j) (hr : ROK P ops (firstB .any ops) (Region.waitsFor .any ops) a0 Q vs i v w) : ROK P ops (firstB .any ops) (Region.waitsFor .any ops) a0 Q vs' i v w := by
  unfold ROK at hr ⊢
  split
  · rename_i o ho
    rw [ho] at hr
    intro a hat
    exact hr a ⟨hat.base, fun j d hj hd => by rw [hat.dep j d hj hd, h j hj]⟩
  · trivial
theorem tab_spec {n : Nat} (htab : tabOk ops tab = true) {vsO : Nat → Option Value} (hcl : ∀ i, vsO i ≠ none → ∀ j, Region.waitsFor .any ops i j = true → vsO j ≠ none) (hlt : ∀ i, vsO i ≠ none → i < ops.size) : ∀ i, (i < n) → (∀ j, Region.waitsFor .any ops i j = true → vsO j ≠ none) → i < ops.size → ∀ j ∈ tab.getD i [], vsO j ≠ none := by
  induction n with
  | zero => intro i hi; omega
  | succ n ih =>
    intro i hi hdo hil j hj
    have h1 := List.all_eq_true.1 (List.all_eq_true.1 htab i (List.mem_range.2 hil)) j hj
    simp only [Bool.or_eq_true] at h1
    rcases h1 with h1 | h1
    · exact hdo j h1
    · obtain ⟨m, hm, h2⟩ := List.any_eq_true.1 h1
      simp only [Bool.and_eq_true] at h2
      have hmd := hdo m h2.1
      exact ih m (by have := List.mem_range.1 hm; omega) (hcl m hmd) (hlt m hmd) j (by simpa using h2.2)
theorem covB_spec {D seg : List Nat} {j : Nat} (h : covB ops tab ef D seg = true) (hj : j < ops.size) : j ∈ ef ∨ j ∈ seg ∨ closedB tab j D = true ∨ availB tab ef j D = false := by
  have := List.all_eq_true.1 h j (List.mem_range.2 hj)
  simp only [Bool.or_eq_true, List.contains_iff_mem, Bool.not_eq_true'] at this
  rcases this with ((h | h) | h) | h
  · exact .inl h
  · exact .inr (.inl h)
  · exact .inr (.inr (.inl h))
  · exact .inr (.inr (.inr h))
abbrev SeqA (P : Program) (ops : Array Oper) (a0 : Act) (Q : Exit → Act → World → Prop) (Qf : (Nat → Value) → World → Prop) := SeqP P ops (firstB .any ops) (Region.waitsFor .any ops) a0 Q Qf
abbrev ROKA (P : Program) (ops : Array Oper) (a0 : Act) (Q : Exit → Act → World → Prop) := ROK P ops (firstB .any ops) (Region.waitsFor .any ops) a0 Q
/-- a plan's head: nothing is left to be read -/
def planHead : Plan → Bool
  | .fin => true
  | .ef _ _ _ => true
  | _ => false
/-- the state of the plan -/
structure PSt (P : Program) (ops : Array Oper) (a0 : Act) (Q : Exit → Act → World → Prop) (Qf : (Nat → Value) → World → Prop) (tab : List (List Nat)) (ef : List Nat) (pl : Plan) (D intro seg : List Nat) (vs : Nat → Value) (w : World) : Prop where
  ok : okP ops tab ef pl false D intro seg [] = true
  segs : ∀ i ∈ seg, ROKA P ops a0 Q vs i (vs i) w ∧ i ∈ intro ∧ depsIn ops i intro = true
  seq : SeqA P ops a0 Q Qf pl vs w
theorem plan_unroll : ∀ (pl : Plan) (D intro seg : List Nat) (vs : Nat → Value) (w : World), PSt P ops a0 Q Qf tab ef pl D intro seg vs w →
    ∃ pl' intro' seg' vs', planHead pl' = true ∧ PSt P ops a0 Q Qf tab ef pl' D intro' seg' vs' w ∧ (∀ i ∈ intro, i ∈ intro' ∧ vs' i = vs i)
  | .fin, D, intro, seg, vs, w, h => ⟨.fin, intro, seg, vs, rfl, h, fun i hi => ⟨hi, rfl⟩⟩
  | .ef i p q, D, intro, seg, vs, w, h => ⟨.ef i p q, intro, seg, vs, rfl, h, fun i hi => ⟨hi, rfl⟩⟩
  | .non, D, intro, seg, vs, w, h => by have := h.ok; simp [okP] at this
  | .rd i p, D, intro, seg, vs, w, h => by
    have hok := h.ok
    simp only [okP, Bool.not_false, Bool.true_and, Bool.and_eq_true, decide_eq_true_eq, Bool.not_eq_true'] at hok
    obtain ⟨hi, _, hni, hdi, hok⟩ := hok
    have hni : i ∉ intro := fun hm => by rw [List.contains_iff_mem.2 hm] at hni; cases hni
    obtain ⟨v, hv, hs⟩ := h.seq
    have hag : ∀ j ∈ intro, updv vs i v j = vs j := fun j hj => updv_ne vs v (fun e => hni (e ▸ hj))
    obtain ⟨pl', intro', seg', vs', h1, h2, h3⟩ := plan_unroll p D (i :: intro) (i :: seg) (updv vs i v) w ⟨hok, fun j hj => by
      rcases List.mem_cons.1 hj with rfl | hj
      · refine ⟨?_, List.mem_cons_self, ?_⟩
        · rw [updv_same]
          exact rok_congr (fun k hk => (hag k (depsIn_spec hdi hk)).symm) hv
        · unfold depsIn at hdi ⊢
          split
          · rename_i o ho
            rw [ho] at hdi
            refine Array.all_eq_true_iff_forall_mem.2 fun e he => ?_
            have := Array.all_eq_true_iff_forall_mem.1 hdi e he
            simp only [Bool.or_eq_true, List.contains_iff_mem, List.mem_cons] at this ⊢
            exact this.imp id .inr
          · rfl
      · obtain ⟨a1, a2, a3⟩ := h.segs j hj
        refine ⟨?_, List.mem_cons_of_mem _ a2, ?_⟩
        · rw [hag j a2]
          exact rok_congr (fun k hk => (hag k (depsIn_spec a3 hk)).symm) a1
        · unfold depsIn at a3 ⊢
          split
          · rename_i o ho
            rw [ho] at a3
            refine Array.all_eq_true_iff_forall_mem.2 fun e he => ?_
            have := Array.all_eq_true_iff_forall_mem.1 a3 e he
            simp only [Bool.or_eq_true, List.contains_iff_mem, List.mem_cons] at this ⊢
            exact this.imp id .inr
          · rfl, hs⟩
    exact ⟨pl', intro', seg', vs', h1, h2, fun j hj => by
      obtain ⟨b1, b2⟩ := h3 j (List.mem_cons_of_mem _ hj)
      exact ⟨b1, b2.trans (hag j hj)⟩⟩
  | .ag i p, D, intro, seg, vs, w, h => by
    have hok := h.ok
    simp only [okP, Bool.not_false, Bool.true_and, Bool.and_eq_true, decide_eq_true_eq, Bool.not_eq_true', List.contains_iff_mem] at hok
    obtain ⟨hi, _, hni, hdi, hok⟩ := hok
    obtain ⟨hv, hs⟩ := h.seq
    exact plan_unroll p D intro (i :: seg) vs w ⟨hok, fun j hj => by
      rcases List.mem_cons.1 hj with rfl | hj
      · exact ⟨hv, hni, hdi⟩
      · exact h.segs j hj, hs⟩
/-- what is told at an effect's turn -/
theorem plan_alt {D intro seg : List Nat} {vs : Nat → Value} {w : World} {e : Nat} (he : e ∈ ef) (hD : e ∉ D) (hav : availB tab ef e D = true) : ∀ (pl : Plan) (m : Bool) (alts : List Nat), (m = true ∨ planHead pl = true) → e ∉ alts → okP ops tab ef pl m D intro seg alts = true → (ef.all D.contains = true → False) → SeqA P ops a0 Q Qf pl vs w →
    ∃ p, okP ops tab ef p false (e :: D) (e :: intro) [] [] = true ∧ e ∉ intro ∧ depsIn ops e intro = true ∧ ∀ o, ops[e]? = some o → ∀ a, AtV ops (firstB .any ops) (Region.waitsFor .any ops) a0 vs e a → if Region.wanted o (yielded ops a.tmps) = true then o.wp P a w (fun a' w' => ∃ v, a' = a.put o.dst v ∧ SeqA P ops a0 Q Qf p (updv vs e v) w') Q else SeqA P ops a0 Q Qf p (updv vs e undef) w
  | .fin, m, alts, hm, hna, hok, hall, h => by
    simp only [okP, Bool.and_eq_true] at hok
    exact absurd hok.2.2.2 (fun h => hall h)
  | .rd i p, m, alts, hm, hna, hok, hall, h => by
    rcases hm with rfl | hm
    · simp [okP] at hok
    · cases hm
  | .ag i p, m, alts, hm, hna, hok, hall, h => by
    rcases hm with rfl | hm
    · simp [okP] at hok
    · cases hm
  | .non, m, alts, hm, hna, hok, hall, h => by
    simp only [okP, Bool.and_eq_true] at hok
    have := List.all_eq_true.1 hok.2 e he
    simp only [Bool.or_eq_true, List.contains_iff_mem, Bool.not_eq_true', hav] at this
    rcases this with h | h | h
    · exact absurd h hD
    · exact absurd h hna
    · cases h
  | .ef i p q, m, alts, hm, hna, hok, hall, h => by
    simp only [okP, Bool.and_eq_true, decide_eq_true_eq, Bool.not_eq_true', List.contains_iff_mem] at hok
    obtain ⟨_, _, hie, hni, hdi, hp, hq⟩ := hok
    by_cases hei : e = i
    · subst hei
      refine ⟨p, hp, fun hm => (by rw [List.contains_iff_mem.2 hm] at hni; cases hni), hdi, fun o ho a hat => ?_⟩
      have := h.1
      rw [ho] at this
      exact this a hat
    · exact plan_alt he hD hav q true (i :: alts) (.inl rfl) (by simp [hei, hna]) hq hall h.2

theorem putAll_congr {vs vs' : Nat → Value} : ∀ (l : List Oper) (k : Nat) (a : Act), (∀ i, i < l.length → vs' (k + i) = vs (k + i)) → putAll l vs' k a = putAll l vs k a
  | [], _, _, _ => rfl
  | o :: l, k, a, h => by
    have h0 := h 0 (by simp)
    rw [Nat.add_zero] at h0
    rw [putAll, putAll, h0]
    exact putAll_congr l (k + 1) _ fun i hi => by
      have := h (i + 1) (by simpa using hi)
      rw [show k + 1 + i = k + (i + 1) by omega]; exact this
theorem seq_any {l : List Oper} {w0 : World} (tab : List (List Nat)) (ef : List Nat) (pl : Plan) (hback : backM .any l.toArray = true) (hdst : dstB l.toArray = true) (hroom : roomB l.toArray a0.tmps.size = true)
    (htab : tabOk l.toArray tab = true) (hok : okP l.toArray tab ef pl false [] [] [] [] = true) (hseq : SeqA P l.toArray a0 Q Qf pl (fun _ => undef) w0)
    (hQ : ∀ (vs : Nat → Value) w, Qf vs w → Q .normal (putAll l vs 0 a0) w) : wpAny P .any l.toArray Q l.toArray.size (Array.replicate l.toArray.size false) a0 w0 := by
  have hmain := wpAny_inv (P := P) (ops := l.toArray) (md := .any) (Q := Q) (fun vsO w => ∃ pl D intro seg vs, planHead pl = true ∧ PSt P l.toArray a0 Q Qf tab ef pl D intro seg vs w ∧ (∀ i v, vsO i = some v → vs i = v ∧ i ∈ intro ∧ i < l.toArray.size) ∧ (∀ i ∈ D, vsO i ≠ none) ∧ (∀ i ∈ ef, vsO i ≠ none → i ∈ D) ∧ (∀ i, vsO i ≠ none → ∀ j, Region.waitsFor .any l.toArray i j = true → vsO j ≠ none)) a0 w0 hback hdst hroom
    (fun i o ho vsO a w hI hn hat => ?_) (fun vs' vsO w hv hI => ?_)
  · refine hmain _ _ _ _ (fun _ => none) ⟨Below.refl _ _, rfl, rfl, by simp, fun s _ => rfl, fun i o _ h => ?_, fun j oj _ h => ?_⟩ (fun _ _ => rfl) ?_ ?_
    · rw [getD_replicate_false] at h; cases h
    · rw [getD_replicate_false] at h; cases h
    · obtain ⟨pl', intro', seg', vs', h1, h2, _⟩ := plan_unroll (P := P) (ops := l.toArray) (a0 := a0) (Q := Q) (Qf := Qf) (tab := tab) (ef := ef) pl [] [] [] (fun _ => undef) w0 ⟨hok, fun i hi => (by cases hi), hseq⟩
      exact ⟨pl', [], intro', seg', vs', h1, h2, fun i v h => (by cases h), fun i hi => (by cases hi), fun i _ h => absurd rfl h, fun i h => absurd rfl h⟩
    · exact Nat.le_trans List.countP_le_length (by simp)
  · obtain ⟨pl, D, intro, seg, vs, hhd, hst, hdone, hD, hefD, hcl⟩ := hI
    have hil : i < l.toArray.size := (Array.getElem?_eq_some_iff.1 ho).1
    have hat' : AtV l.toArray (firstB .any l.toArray) (Region.waitsFor .any l.toArray) a0 vs i a := ⟨hat.base, fun j d hj hd => by
      obtain ⟨u, h1, h2⟩ := hat.fact j hj
      rw [h1 d hd, (hdone j u h2).1]⟩
    have hdo : ∀ j, Region.waitsFor .any l.toArray i j = true → vsO j ≠ none := fun j hj => by
      obtain ⟨u, _, h2⟩ := hat.fact j hj
      rw [h2]; simp
    have hclt := fun j => tab_spec (n := i + 1) htab hcl (fun k hk => by
      cases hv : vsO k with
      | none => exact absurd hv hk
      | some u => exact (hdone k u hv).2.2) i (by omega) hdo hil j
    have hav : availB tab ef i D = true := by
      refine List.all_eq_true.2 fun e he => ?_
      simp only [Bool.or_eq_true, Bool.not_eq_true', List.contains_iff_mem]
      by_cases hee : e ∈ ef
      · exact .inr (hefD e hee (hclt e he))
      · left
        cases hc : ef.contains e with
        | true => exact absurd (List.contains_iff_mem.1 hc) hee
        | false => rfl
    have hnD : i ∉ D := fun hm => hD i hm hn
    have hcl' : ∀ v k, upd vsO i v k ≠ none → ∀ j, Region.waitsFor .any l.toArray k j = true → upd vsO i v j ≠ none := by
      intro v k hk j hj
      by_cases hji : j = i
      · subst hji; rw [upd_same]; simp
      · rw [upd_ne vsO v hji]
        by_cases hki : k = i
        · subst hki; exact hdo j hj
        · rw [upd_ne vsO v hki] at hk; exact hcl k hk j hj
    by_cases hie : i ∈ ef
    · -- an effect
      obtain ⟨p, hp, hni, hdi, hstep⟩ := plan_alt (P := P) (ops := l.toArray) (a0 := a0) (Q := Q) (Qf := Qf) (tab := tab) (ef := ef) hie hnD hav pl false [] (.inr hhd) (by simp) hst.ok (fun h => hnD (by have := List.all_eq_true.1 h i hie; simpa using this)) hst.seq
      have key : ∀ v w', SeqA P l.toArray a0 Q Qf p (updv vs i v) w' → ∃ pl D intro seg vs, planHead pl = true ∧ PSt P l.toArray a0 Q Qf tab ef pl D intro seg vs w' ∧ (∀ k u, upd vsO i v k = some u → vs k = u ∧ k ∈ intro ∧ k < l.toArray.size) ∧ (∀ k ∈ D, upd vsO i v k ≠ none) ∧ (∀ k ∈ ef, upd vsO i v k ≠ none → k ∈ D) ∧ (∀ k, upd vsO i v k ≠ none → ∀ j, Region.waitsFor .any l.toArray k j = true → upd vsO i v j ≠ none) := by
        intro v w' hs
        obtain ⟨pl', intro', seg', vs', h1, h2, h3⟩ := plan_unroll (P := P) (ops := l.toArray) (a0 := a0) (Q := Q) (Qf := Qf) (tab := tab) (ef := ef) p (i :: D) (i :: intro) [] (updv vs i v) w' ⟨hp, fun k hk => (by cases hk), hs⟩
        refine ⟨pl', i :: D, intro', seg', vs', h1, h2, fun k u hk => ?_, fun k hk => ?_, fun k hk hk2 => ?_, hcl' v⟩
        · by_cases hki : k = i
          · subst hki
            rw [upd_same] at hk; cases hk
            obtain ⟨b1, b2⟩ := h3 k List.mem_cons_self
            exact ⟨b2.trans (updv_same vs k v), b1, hil⟩
          · rw [upd_ne vsO v hki] at hk
            obtain ⟨c1, c2, c3⟩ := hdone k u hk
            obtain ⟨b1, b2⟩ := h3 k (List.mem_cons_of_mem _ c2)
            exact ⟨b2.trans ((updv_ne vs v hki).trans c1), b1, c3⟩
        · by_cases hki : k = i
          · subst hki; rw [upd_same]; simp
          · rw [upd_ne vsO v hki]
            rcases List.mem_cons.1 hk with h | h
            · exact absurd h hki
            · exact hD k h
        · by_cases hki : k = i
          · subst hki; exact List.mem_cons_self
          · rw [upd_ne vsO v hki] at hk2
            exact List.mem_cons_of_mem _ (hefD k hk hk2)
      have hs := hstep o ho a hat'
      split
      · rename_i hw
        rw [if_pos hw] at hs
        exact Oper.wp_mono (fun a' w' ⟨v, e1, e2⟩ => ⟨v, e1, key v w' e2⟩) hs
      · rename_i hw
        rw [if_neg hw] at hs
        exact key undef w hs
    · -- it reads
      have hcov : covB l.toArray tab ef D seg = true := by
        have := hst.ok
        cases pl with
        | fin => simp only [okP, Bool.and_eq_true] at this; exact this.2.1
        | ef _ _ _ => simp only [okP, Bool.and_eq_true] at this; exact this.1
        | rd _ _ => cases hhd
        | ag _ _ => cases hhd
        | non => cases hhd
      have hseg : i ∈ seg := by
        rcases covB_spec hcov hil with h | h | h | h
        · exact absurd h hie
        · exact h
        · obtain ⟨e, he, hj⟩ := List.any_eq_true.1 h
          have hed := hD e he
          have := tab_spec (n := e + 1) htab hcl (fun k hk => by
            cases hv : vsO k with
            | none => exact absurd hv hk
            | some u => exact (hdone k u hv).2.2) e (by omega) (hcl e hed) (by
            cases hv : vsO e with
            | none => exact absurd hv hed
            | some u => exact (hdone e u hv).2.2) i (by simpa using hj)
          exact absurd hn this
        · rw [hav] at h; cases h
      obtain ⟨hr, hin, _⟩ := hst.segs i hseg
      have key : ∃ pl D intro seg vs', planHead pl = true ∧ PSt P l.toArray a0 Q Qf tab ef pl D intro seg vs' w ∧ (∀ k u, upd vsO i (vs i) k = some u → vs' k = u ∧ k ∈ intro ∧ k < l.toArray.size) ∧ (∀ k ∈ D, upd vsO i (vs i) k ≠ none) ∧ (∀ k ∈ ef, upd vsO i (vs i) k ≠ none → k ∈ D) ∧ (∀ k, upd vsO i (vs i) k ≠ none → ∀ j, Region.waitsFor .any l.toArray k j = true → upd vsO i (vs i) j ≠ none) := by
        refine ⟨pl, D, intro, seg, vs, hhd, hst, fun k u hk => ?_, fun k hk => ?_, fun k hk hk2 => ?_, hcl' _⟩
        · by_cases hki : k = i
          · subst hki; rw [upd_same] at hk; cases hk; exact ⟨rfl, hin, hil⟩
          · rw [upd_ne vsO _ hki] at hk; exact hdone k u hk
        · have hki : k ≠ i := fun e => hnD (e ▸ hk)
          rw [upd_ne vsO _ hki]; exact hD k hk
        · have hki : k ≠ i := fun e => hie (e ▸ hk)
          rw [upd_ne vsO _ hki] at hk2; exact hefD k hk hk2
      unfold ROKA ROK at hr
      rw [ho] at hr
      have hr := hr a hat'
      split
      · rename_i hw
        rw [if_pos hw] at hr
        exact Oper.wp_mono (fun a' w' ⟨e1, e2⟩ => ⟨vs i, e1, e2 ▸ key⟩) hr
      · rename_i hw
        rw [if_neg hw] at hr
        rw [← hr]
        exact key
  · obtain ⟨pl, D, intro, seg, vs, hhd, hst, hdone, hD, hefD, hcl⟩ := hI
    have hfin : pl = .fin := by
      cases pl with
      | fin => rfl
      | ef i p q =>
        have := hst.ok
        simp only [okP, Bool.and_eq_true, decide_eq_true_eq, Bool.not_eq_true', List.contains_iff_mem] at this
        obtain ⟨_, h1, _, h2, _⟩ := this
        have := (hdone i _ (hv i h1)).2.1
        rw [List.contains_iff_mem.2 this] at h2; cases h2
      | rd _ _ => cases hhd
      | ag _ _ => cases hhd
      | non => cases hhd
    subst hfin
    have hq := hQ vs w hst.seq
    have e : putAll l vs' 0 a0 = putAll l vs 0 a0 := putAll_congr l 0 a0 fun i hi => by
      rw [Nat.zero_add]
      exact ((hdone i _ (hv i (by simpa using hi))).1).symm
    rw [show l.toArray.toList = l by simp, e]
    exact hq

abbrev Fin (Q : Exit → Act → World → Prop) (l : List Oper) (a0 : Act) : (Nat → Value) → World → Prop := fun vs w => ∀ a1, Put l vs a0 a1 → Q .normal a1 w
/-- A REGION THAT DRAWS ITS ORDER, by a plan. -/
theorem seq_region {id : Nat} {d : Bool} {l : List Oper} {w0 : World} (tab : List (List Nat)) (ef : List Nat) (pl : Plan) (hm : P.follows .mixedOrders = true) (hback : backM .any l.toArray = true) (hdst : dstB l.toArray = true) {n : Nat} (hn : a0.tmps.size = n) (hroom : roomB l.toArray n = true)
    (htab : tabOk l.toArray tab = true) (hok : okP l.toArray tab ef pl false [] [] [] [] = true)
    (hseq : ∀ w1, Below w0.heap.size w0 w1 → SeqP P l.toArray (firstB .any l.toArray) (Region.waitsFor .any l.toArray) a0 Q (Fin Q l a0) pl (fun _ => undef) w1) : (Code.region id l.toArray d).wp P Q a0 w0 := by
  subst hn
  have hb0 : Below w0.heap.size w0 (if d then w0.drew else w0) := by cases d; exact Below.refl _ _; exact ⟨rfl, rfl, rfl, Nat.le_refl _, fun _ _ => rfl⟩
  exact region_of_any hm hback (seq_any tab ef pl hback hdst hroom htab hok (hseq _ hb0) fun vs w h => h _ (put_of hdst hroom))
/-! ### a region in the order of the text -/
def bsL (ops : Array Oper) (i s : Nat) : Bool := (List.range i).all fun j => (ops[j]?).bind (·.dst) != some s
def dpL (i j : Nat) : Bool := decide (j < i)
def okL (n : Nat) : Plan → Nat → Bool
  | .fin, k => k == n
  | .rd i p, k => i == k && okL n p (k + 1)
  | .ef i p .non, k => i == k && okL n p (k + 1)
  | _, _ => false
structure LInv (l : List Oper) (a0 : Act) (k : Nat) (vs : Nat → Value) (a : Act) : Prop where
  size : a.tmps.size = a0.tmps.size
  defers : a.defers = a0.defers
  base : ∀ s, bsL l.toArray k s = true → a.tmps.getD s undef = a0.tmps.getD s undef
  dep : ∀ j d, j < k → (l[j]?).bind (·.dst) = some d → a.tmps.getD d undef = vs j
theorem linv_next {l : List Oper} {k : Nat} {vs : Nat → Value} {a : Act} {o : Oper} (hdst : dstB l.toArray = true) (hroom : roomB l.toArray a0.tmps.size = true) (ho : l[k]? = some o) (v : Value) (h : LInv l a0 k vs a) : LInv l a0 (k + 1) (updv vs k v) (a.put o.dst v) := by
  have hkl : k < l.length := (List.getElem?_eq_some_iff.1 ho).1
  refine ⟨by rw [put_size]; exact h.size, by rw [put_defers]; exact h.defers, fun s hs => ?_, fun j d hj hd => ?_⟩
  · have hs2 : o.dst ≠ some s := by
      have := List.all_eq_true.1 hs k (List.mem_range.2 (by omega))
      simpa [ho] using this
    rw [Array.getD_eq_getD_getElem?, put_ne a _ _ s hs2, ← Array.getD_eq_getD_getElem?]
    exact h.base s (List.all_eq_true.2 fun j hj => List.all_eq_true.1 hs j (List.mem_range.2 (by have := List.mem_range.1 hj; omega)))
  · by_cases hjk : j = k
    · subst hjk
      rw [ho] at hd
      have hd : o.dst = some d := hd
      rw [hd, updv_same, Array.getD_eq_getD_getElem?, put_eq a v d, Option.getD_some]
      rw [h.size]
      have := Array.all_eq_true_iff_forall_mem.1 hroom o (Array.mem_of_getElem? (by simpa using ho))
      rw [hd] at this
      exact of_decide_eq_true this
    · rw [updv_ne vs v hjk, Array.getD_eq_getD_getElem?, put_ne a _ _ d (fun e => ?_), ← Array.getD_eq_getD_getElem?]
      · exact h.dep j d (by omega) hd
      · have h3 := List.all_eq_true.1 (List.all_eq_true.1 hdst k (List.mem_range.2 (by simpa using hkl))) j (List.mem_range.2 (by simp; omega))
        simp only [List.getElem?_toArray, ho, Option.bind_some, e, hd, bne_self_eq_false, Bool.or_false, beq_iff_eq] at h3
        exact hjk h3.symm
theorem seq_list {l : List Oper} (hdst : dstB l.toArray = true) (hroom : roomB l.toArray a0.tmps.size = true) : ∀ (pl : Plan) (k : Nat) (vs : Nat → Value) (a : Act) (w : World), LInv l a0 k vs a → okL l.length pl k = true →
    SeqP P l.toArray (bsL l.toArray) dpL a0 Q (Fin Q l a0) pl vs w → wpList P l.toArray Q (l.drop k) a w := by
  have hat : ∀ {k : Nat} {vs : Nat → Value} {a : Act}, LInv l a0 k vs a → AtV l.toArray (bsL l.toArray) dpL a0 vs k a := fun h => ⟨h.base, fun j d hj hd => h.dep j d (of_decide_eq_true hj) (by simpa using hd)⟩
  intro pl
  induction pl with
  | fin =>
    intro k vs a w hI hok hs
    have hk : k = l.length := by simpa [okL] using hok
    subst hk
    rw [List.drop_of_length_le (Nat.le_refl _)]
    exact hs a ⟨hI.size, hI.defers, fun i d hd => by
      have hi : i < l.length := by
        cases ho : l[i]? with
        | none => rw [ho] at hd; cases hd
        | some o => exact (List.getElem?_eq_some_iff.1 ho).1
      exact hI.dep i d hi hd, fun s hs => hI.base s (by
      refine List.all_eq_true.2 fun j hj => ?_
      have hj := List.mem_range.1 hj
      have := List.all_eq_true.1 hs l[j] (List.getElem_mem hj)
      simpa [List.getElem?_eq_getElem hj] using this)⟩
  | rd i p ih =>
    intro k vs a w hI hok hs
    simp only [okL, Bool.and_eq_true, beq_iff_eq] at hok
    obtain ⟨rfl, hok⟩ := hok
    obtain ⟨v, hr, hs⟩ := hs
    rcases Nat.lt_or_ge i l.length with hlt | hge
    · have hoi : l[i]? = some l[i] := List.getElem?_eq_getElem hlt
      rw [List.drop_eq_getElem_cons hlt]
      unfold ROK at hr
      rw [List.getElem?_toArray, hoi] at hr
      have hr := hr a (hat hI)
      unfold wpList
      split
      · rename_i hw
        rw [if_pos hw] at hr
        refine .inl (Oper.wp_mono (fun a' w' ⟨e1, e2⟩ => ?_) hr)
        subst e1; subst e2
        exact ih (i + 1) _ _ _ (linv_next hdst hroom hoi v hI) hok hs
      · rename_i hw
        rw [if_neg hw] at hr
        rw [← hr]
        exact ih (i + 1) _ _ _ (linv_next hdst hroom hoi v hI) hok hs
    · exfalso
      revert hok
      have : ∀ (p : Plan) (k : Nat), l.length < k → okL l.length p k = true → False := by
        intro p
        induction p with
        | fin => intro k hk h; simp [okL] at h; omega
        | rd j q ihq => intro k hk h; simp only [okL, Bool.and_eq_true] at h; exact ihq (k + 1) (by omega) h.2
        | ag j q _ => intro k hk h; simp [okL] at h
        | ef j q r ihq _ =>
          intro k hk h
          cases r with
          | non => simp only [okL, Bool.and_eq_true] at h; exact ihq (k + 1) (by omega) h.2
          | _ => simp [okL] at h
        | non => intro k hk h; simp [okL] at h
      exact this p (i + 1) (by omega)
  | ag i p _ => intro k vs a w hI hok hs; simp [okL] at hok
  | ef i p q ih _ =>
    intro k vs a w hI hok hs
    cases q with
    | non =>
      simp only [okL, Bool.and_eq_true, beq_iff_eq] at hok
      obtain ⟨rfl, hok⟩ := hok
      obtain ⟨hs, _⟩ := hs
      rcases Nat.lt_or_ge i l.length with hlt | hge
      · have hoi : l[i]? = some l[i] := List.getElem?_eq_getElem hlt
        rw [List.drop_eq_getElem_cons hlt]
        rw [List.getElem?_toArray, hoi] at hs
        have hs := hs a (hat hI)
        unfold wpList
        split
        · rename_i hw
          rw [if_pos hw] at hs
          refine .inl (Oper.wp_mono (fun a' w' ⟨v, e1, e2⟩ => ?_) hs)
          subst e1
          exact ih (i + 1) _ _ _ (linv_next hdst hroom hoi v hI) hok e2
        · rename_i hw
          rw [if_neg hw] at hs
          exact ih (i + 1) _ _ _ (linv_next hdst hroom hoi undef hI) hok hs
      · exfalso
        revert hok
        have : ∀ (p : Plan) (k : Nat), l.length < k → okL l.length p k = true → False := by
          intro p
          induction p with
          | fin => intro k hk h; simp [okL] at h; omega
          | rd j q ihq => intro k hk h; simp only [okL, Bool.and_eq_true] at h; exact ihq (k + 1) (by omega) h.2
          | ag j q _ => intro k hk h; simp [okL] at h
          | ef j q r ihq _ =>
            intro k hk h
            cases r with
            | non => simp only [okL, Bool.and_eq_true] at h; exact ihq (k + 1) (by omega) h.2
            | _ => simp [okL] at h
          | non => intro k hk h; simp [okL] at h
        exact this p (i + 1) (by omega)
    | _ => simp [okL] at hok
  | non => intro k vs a w hI hok hs; simp [okL] at hok
/-- A REGION IN THE ORDER OF THE TEXT, by a plan. -/
theorem seq_lit {id : Nat} {l : List Oper} {w0 : World} (pl : Plan) (hdst : dstB l.toArray = true) {n : Nat} (hn : a0.tmps.size = n) (hroom : roomB l.toArray n = true) (hok : okL l.length pl 0 = true)
    (hseq : SeqP P l.toArray (bsL l.toArray) dpL a0 Q (Fin Q l a0) pl (fun _ => undef) w0) : (Code.region id l.toArray false).wp P Q a0 w0 := by
  subst hn
  exact wp_region_lit (seq_list hdst hroom pl 0 _ a0 w0 ⟨rfl, rfl, fun _ _ => rfl, fun j d hj => by omega⟩ hok hseq)
/-! ### single operations that read -/
theorem r_ok {ops : Array Oper} {o : Oper} {a : Act} {w : World} {v : Value} (hw : Region.wanted o (yielded ops a.tmps) = true) (hrun : (execOp a.eval o).run P w = .ok (.value v) w) : if Region.wanted o (yielded ops a.tmps) = true then o.wp P a w (fun a' w' => a' = a.put o.dst v ∧ w' = w) Q else v = undef := by
  rw [if_pos hw]; unfold Oper.wp; rw [hrun]; exact ⟨rfl, rfl⟩
/-- without a guard -/
theorem rk {ops : Array Oper} {o : Oper} {a : Act} {w : World} {v : Value} (hrun : (execOp a.eval o).run P w = .ok (.value v) w) (hg : o.guard = none := by rfl) : if Region.wanted o (yielded ops a.tmps) = true then o.wp P a w (fun a' w' => a' = a.put o.dst v ∧ w' = w) Q else v = undef := r_ok (on_none hg) hrun
theorem r_off {ops : Array Oper} {o : Oper} {a : Act} {w : World} {v : Value} (hw : Region.wanted o (yielded ops a.tmps) = false) (hv : v = undef) : if Region.wanted o (yielded ops a.tmps) = true then o.wp P a w (fun a' w' => a' = a.put o.dst v ∧ w' = w) Q else v = undef := by rw [if_neg (by rw [hw]; simp)]; exact hv
/-- a call that only reads -/
theorem r_call {ops : Array Oper} {o : Oper} {a : Act} {w : World} {v : Value} {f : FuncId} {args : Array Value} (hw : Region.wanted o (yielded ops a.tmps) = true) (hrun : (execOp a.eval o).run P w = .ok (.enter f args) w) (h : Calls P f args w fun e w' => e = .returned v ∧ w' = w) : if Region.wanted o (yielded ops a.tmps) = true then o.wp P a w (fun a' w' => a' = a.put o.dst v ∧ w' = w) Q else v = undef := by
  rw [if_pos hw]; unfold Oper.wp; rw [hrun]
  refine h.mono fun e w' ⟨he, hw'⟩ => ?_
  subst he
  exact ⟨rfl, hw'⟩
end
section
variable {P : Program} {ops : Array Oper} {bs dp : Nat → Nat → Bool} {a0 : Act} {Q : Exit → Act → World → Prop} {Qf : (Nat → Value) → World → Prop}
theorem AtV.b {vs : Nat → Value} {i : Nat} {a : Act} (h : AtV ops bs dp a0 vs i a) (s : Nat) {v : Value} (hs : a0.tmps.getD s undef = v) (hb : bs i s = true := by kernel_rfl) : a.tmps.getD s undef = v := (h.base s hb).trans hs
theorem AtV.d {vs : Nat → Value} {i : Nat} {a : Act} (h : AtV ops bs dp a0 vs i a) (j d : Nat) (hj : dp i j = true := by kernel_rfl) (hd : (ops[j]?).bind (·.dst) = some d := by kernel_rfl) : a.tmps.getD d undef = vs j := h.dep j d hj hd
abbrev sl (a : Act) (i : Nat) : Value := a.tmps.getD i undef
theorem Put.o {l : List Oper} {vs : Nat → Value} {a0 a1 : Act} (h : Put l vs a0 a1) (s : Nat) {v : Value} (hs : a0.tmps.getD s undef = v) (hb : (l.all fun o => o.dst != some s) = true := by kernel_rfl) : a1.tmps.getD s undef = v := (h.old s hb).trans hs
/-- a guard that is told -/
theorem AtV.on {vs : Nat → Value} {i : Nat} {a : Act} {o : Oper} (h : AtV ops bs dp a0 vs i a) (j d : Nat) {b : Bool} (hv : vs j = .bool b := by rfl) (hg : o.guard = some (j, b) := by rfl) (hj : dp i j = true := by kernel_rfl) (hd : (ops[j]?).bind (·.dst) = some d := by kernel_rfl) : Region.wanted o (yielded ops a.tmps) = true := on_dep hg hd ((h.dep j d hj hd).trans hv)
/-- rounds of what is guarded off -/
def rds : List Nat → Plan → Plan
  | [], p => p
  | i :: l, p => .rd i (rds l p)
def undefs : List Nat → (Nat → Value) → (Nat → Value)
  | [], vs => vs
  | i :: l, vs => undefs l (updv vs i undef)
def offB (ops : Array Oper) (dp : Nat → Nat → Bool) (j d : Nat) (b : Bool) (l : List Nat) : Bool := ((ops[j]?).bind (·.dst) == some d) && l.all fun i => i != j && (dp i j && match ops[i]? with | some o => o.guard == some (j, b) | none => false)
theorem isOff {o : Oper} {a : Act} {j d : Nat} {b : Bool} {v : Value} (hg : o.guard = some (j, b)) (hd : (ops[j]?).bind (·.dst) = some d) (h : a.tmps.getD d undef = v) (hv : v = .bool (!b) ∨ v = undef) : Region.wanted o (yielded ops a.tmps) = false := by
  rcases hv with rfl | rfl
  · exact off_dep hg hd h
  · rw [Array.getD_eq_getD_getElem?] at h
    cases hx : a.tmps[d]? with
    | none => simp only [Region.wanted, hg, yielded, hd, Option.bind_some, hx]; rfl
    | some u =>
      rw [hx] at h
      have h : u = undef := h
      subst h
      simp only [Region.wanted, hg, yielded, hd, Option.bind_some, hx]; rfl
theorem seq_off {j d : Nat} {b : Bool} {p : Plan} {w : World} : ∀ (l : List Nat) (vs : Nat → Value), offB ops dp j d b l = true → (vs j = .bool (!b) ∨ vs j = undef) → SeqP P ops bs dp a0 Q Qf p (undefs l vs) w → SeqP P ops bs dp a0 Q Qf (rds l p) vs w
  | [], vs, _, _, h => h
  | i :: l, vs, hB, hv, h => by
    simp only [offB, List.all_cons, Bool.and_eq_true, beq_iff_eq, bne_iff_ne] at hB
    obtain ⟨hd, ⟨hij, hj, hg⟩, hl⟩ := hB
    refine ⟨undef, ?_, seq_off (j := j) (d := d) (b := b) l (updv vs i undef) ?_ ?_ h⟩
    · unfold ROK
      split
      · rename_i o ho
        rw [ho] at hg
        intro a hat
        exact r_off (isOff (by simpa using hg) hd (hat.dep j d hj hd) hv) rfl
      · trivial
    · simp only [offB, Bool.and_eq_true, beq_iff_eq]
      exact ⟨hd, hl⟩
    · rw [updv_ne vs undef (fun e => hij e.symm)]; exact hv
theorem seq_offe {j d i : Nat} {b : Bool} {p : Plan} {w : World} {vs : Nat → Value} (hB : offB ops dp j d b [i] = true) (hv : vs j = .bool (!b) ∨ vs j = undef) (h : SeqP P ops bs dp a0 Q Qf p (updv vs i undef) w) : SeqP P ops bs dp a0 Q Qf (.ef i p .non) vs w := by
  simp only [offB, List.all_cons, Bool.and_eq_true, beq_iff_eq, bne_iff_ne] at hB
  obtain ⟨hd, ⟨hij, hj, hg⟩, hl⟩ := hB
  refine ⟨?_, trivial⟩
  split
  · rename_i o ho
    rw [ho] at hg
    intro a hat
    rw [if_neg (by rw [isOff (by simpa using hg) hd (hat.dep j d hj hd) hv]; simp)]
    exact h
  · trivial
end
/-- the plan in the order of the text -/
def planL (efs : List Nat) : Nat → Nat → Plan
  | 0, _ => .fin
  | n + 1, k => match efs.contains k with
    | true => .ef k (planL efs n (k + 1)) .non
    | false => .rd k (planL efs n (k + 1))
/-- a region in the order of the text; 'efs': the operations that write -/
theorem seq_l {P : Program} {Q : Exit → Act → World → Prop} {a0 : Act} {id : Nat} {l : List Oper} {w0 : World} (efs : List Nat) {n : Nat} (hn : a0.tmps.size = n) (hseq : SeqP P l.toArray (bsL l.toArray) dpL a0 Q (Fin Q l a0) (planL efs l.length 0) (fun _ => undef) w0)
    (hdst : dstB l.toArray = true := by kernel_rfl) (hroom : roomB l.toArray n = true := by kernel_rfl) (hok : okL l.length (planL efs l.length 0) 0 = true := by kernel_rfl) : (Code.region id l.toArray false).wp P Q a0 w0 := seq_lit _ hdst hn hroom hok hseq
theorem seq_r {P : Program} {Q : Exit → Act → World → Prop} {a0 : Act} {id : Nat} {d : Bool} {l : List Oper} {w0 : World} (tab : List (List Nat)) (ef : List Nat) (pl : Plan) {n : Nat} (hn : a0.tmps.size = n)
    (hseq : ∀ w1, Below w0.heap.size w0 w1 → SeqP P l.toArray (firstB .any l.toArray) (Region.waitsFor .any l.toArray) a0 Q (Fin Q l a0) pl (fun _ => undef) w1)
    (hm : P.follows .mixedOrders = true := by kernel_rfl) (hback : backM .any l.toArray = true := by kernel_rfl) (hdst : dstB l.toArray = true := by kernel_rfl) (hroom : roomB l.toArray n = true := by kernel_rfl)
    (htab : tabOk l.toArray tab = true := by kernel_rfl) (hok : okP l.toArray tab ef pl false [] [] [] [] = true := by kernel_rfl) : (Code.region id l.toArray d).wp P Q a0 w0 := seq_region tab ef pl hm hback hdst hn hroom htab hok hseq
abbrev i6 (n : Int) : Value := .int .i64 n
abbrev pt (g k : Nat) : Value := .pointer (some ⟨g, k, none⟩)
theorem bt (b : Bool) : b = true ∨ b = false := by cases b <;> simp
theorem dt (p : Prop) [Decidable p] : (decide p = true ∧ p) ∨ (decide p = false ∧ ¬ p) := by by_cases h : p <;> simp [h]
theorem nt (p : Prop) [Decidable p] : ((!(decide p)) = true ∧ ¬ p) ∨ ((!(decide p)) = false ∧ p) := by by_cases h : p <;> simp [h]
theorem wp_cond_b {P : Program} {Q : Exit → Act → World → Prop} {a : Act} {w : World} {c : Operand} {b : Bool} {x y : Code} (h : a.eval c = .bool b) (h1 : b = true → x.wp P Q a w) (h2 : b = false → y.wp P Q a w) : (Code.cond c x y).wp P Q a w := by
  cases b
  · exact wp_cond_false h (h2 rfl)
  · exact wp_cond_true h (h1 rfl)
theorem wp_cond_d {P : Program} {Q : Exit → Act → World → Prop} {a : Act} {w : World} {c : Operand} {p : Prop} [Decidable p] {x y : Code} (h : a.eval c = .bool (decide p)) (h1 : p → x.wp P Q a w) (h2 : ¬ p → y.wp P Q a w) : (Code.cond c x y).wp P Q a w :=
  wp_cond_b h (fun e => h1 (of_decide_eq_true e)) (fun e => h2 (of_decide_eq_false e))
theorem wp_cond_n {P : Program} {Q : Exit → Act → World → Prop} {a : Act} {w : World} {c : Operand} {p : Prop} [Decidable p] {x y : Code} (h : a.eval c = .bool (!(decide p))) (h1 : ¬ p → x.wp P Q a w) (h2 : p → y.wp P Q a w) : (Code.cond c x y).wp P Q a w :=
  wp_cond_b h (fun e => h1 (by simpa using e)) (fun e => h2 (by simpa using e))
end Go.Proofs.Ytdenfgnkbfbpmaa
