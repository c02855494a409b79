/-
  What an Acks object is in memory, and what Len, Contains and Later do to it.
-/
import Derived.Test.YtlclifhpmnfopaaDoorA
import Derived.Test.YtlclifhpmnfopaaDoorKeeps
import Derived.StillTailTactics
namespace Go.Proofs.YtlclifhpmnfopaaDoor
open Go.RowKit

theorem IntMap.keeps {P : Program} {K : TypeId} {w w' : World} {b n : Nat} {z : Value} {f : Int → Value} {F : Nat → Prop} (h : IntMap P K w b n z f) (hk : Keeps F w w') (hb : ¬ F b) : IntMap P K w' b n z f := by
  have hlt := h.lt
  obtain ⟨D, ⟨es, clock, hh, r⟩, hf⟩ := h
  exact ⟨D, ⟨es, clock, (hk.block b hlt hb).trans hh, r⟩, hf⟩

abbrev Wf (l : Int) : Prop := (Lit.int .i64 l).wf = true

/-- The object behind pointer pa: its map's block bm, the rows of heads from block 'base' on; M: the heads by network. -/
structure AckRep (w : World) (F : Nat → Prop) (pa bm base N : Nat) (M : Int → List Hd) (f : Int → Value) : Prop where
  box : Blk w pa 53 #[.map (some bm)]
  map : IntMap Tryd.prog 3 w bm N (.slice none 0 0) f
  rows : ∀ l, Wf l → w.ownsRow base 46 7 (f l) (M l).length (heads (M l))
  apart : ∀ l l', Wf l → Wf l' → l ≠ l' → (f l).ownBlock = none ∨ (f l).ownBlock ≠ (f l').ownBlock
  hpa : F pa
  hbm : F bm
  hrow : ∀ l g, Wf l → (f l).ownBlock = some g → F g
  pab : pa < base
  bmb : bm < base
  ne : pa ≠ bm
  lt : ∀ g, F g → g < w.heap.size
  bz : base ≤ w.heap.size

theorem AckRep.keep {w w' : World} {F G : Nat → Prop} {pa bm base N : Nat} {M : Int → List Hd} {f : Int → Value} (h : AckRep w F pa bm base N M f) (hk : Keeps G w w') (hd : ∀ g, F g → ¬ G g) : AckRep w' F pa bm base N M f where
  box := hk.blk h.box (hd _ h.hpa)
  map := h.map.keeps hk (hd _ h.hbm)
  rows := fun l hl => hk.own (h.rows l hl) (fun g hg => hd _ (h.hrow l g hl hg))
  apart := h.apart
  hpa := h.hpa
  hbm := h.hbm
  hrow := h.hrow
  pab := h.pab
  bmb := h.bmb
  ne := h.ne
  lt := fun g hg => Nat.lt_of_lt_of_le (h.lt g hg) hk.size
  bz := Nat.le_trans h.bz hk.size
theorem AckRep.below {w w' : World} {F : Nat → Prop} {pa bm base N : Nat} {M : Int → List Hd} {f : Int → Value} (h : AckRep w F pa bm base N M f) (hb : Below w.heap.size w w') : AckRep w' F pa bm base N M f :=
  h.keep (Keeps.of_below (F := fun _ => False) hb) (fun _ _ h => h)

theorem AckRep.drew {w : World} {F : Nat → Prop} {pa bm base N : Nat} {M : Int → List Hd} {f : Int → Value} (h : AckRep w F pa bm base N M f) : AckRep w.drew F pa bm base N M f :=
  ⟨h.box, h.map, h.rows, h.apart, h.hpa, h.hbm, h.hrow, h.pab, h.bmb, h.ne, h.lt, h.bz⟩
theorem zero33 (w : World) : (zeroValue 33).run Tryd.prog w = .ok (.slice none 0 0) w := by kernel_rfl
theorem AckRep.look {w : World} {F : Nat → Prop} {pa bm base N : Nat} {M : Int → List Hd} {f : Int → Value} (h : AckRep w F pa bm base N M f) {l : Int} (hl : Wf l) :
    ∃ A c, f l = .slice A (M l).length c ∧ (Instr.lookup 51 (.map (some bm)) (.int .i64 l) false).run Tryd.prog w = .ok (.slice A (M l).length c) w ∧ w.ownsRow base 46 7 (.slice A (M l).length c) (M l).length (heads (M l)) := by
  obtain ⟨A, c, e⟩ := own_form (h.rows l hl)
  have h1 := h.map.look Tryd.underlying3 Tryd.underlying51 (zero33 w) hl
  have h2 := h.rows l hl
  rw [e] at h1 h2
  exact ⟨A, c, e, h1, h2⟩

set_option maxHeartbeats 1000000 in
theorem len_any (pa bm base N : Nat) (M : Int → List Hd) (f : Int → Value) (F : Nat → Prop) (l : Int) (w : World) (hl : Wf l) (h : AckRep w F pa bm base N M f) :
    Calls Tryd.prog 19 #[.pointer (some ⟨pa, 0, none⟩), .int .i64 l] w fun r w' => r = .returned (.int .i64 ((M l).length : Int)) ∧ Below w.heap.size w w' := by
  obtain ⟨A, c, _, hrun, _⟩ := h.look hl
  have hc := h.box.cell 0
  have hc0 : w.cell? ⟨pa, 0, none⟩ = some (.map (some bm)) := by simpa using hc
  clear hc
  go_enter Tryd.func19, Tryd.ntmps19
  go_wp2
  go_ret
  exact ⟨rfl, Below.refl _ _⟩

theorem indexF_mem (h : Hd) : ∀ (l : List Hd) (i : Nat), decide (0 ≤ indexF h l i) = decide (h ∈ l)
  | [], i => by simp [indexF]
  | x :: l, i => by
    unfold indexF
    split
    · rename_i e
      subst e
      simp
    · rename_i e
      rw [indexF_mem h l (i + 1)]
      simp [List.mem_cons, Ne.symm e]

set_option maxHeartbeats 1000000 in
theorem contains_any (A : Option Addr) (n c : Nat) (hs : List Hd) (h : Hd) (w : World) (hn : n ≤ 9223372036854775807) (hr : Reads w w.heap.size 7 A n (heads hs)) :
    Calls Tryd.prog 20 #[.slice A n c, h.agg] w fun r w' => r = .returned (.bool (decide (h ∈ hs))) ∧ Below w.heap.size w w' := by
  have Hi := hide (indexF_mem h hs 0)
  obtain ⟨a0, a1, a2, a3, a4, a5, a6⟩ := h
  have hb0 := (Below.refl w.heap.size w).alloc (Nat.le_refl _) (.cells #[.int .i64 a0, .int .i64 a1, .int .i64 a2, .int .i64 a3, .int .i64 a4, .int .i64 a5, .int .i64 a6] 46)
  have HR := hide ((hr.below hb0).more hb0.size)
  have Hb0 := hide hb0
  clear hb0
  go_enter Tryd.func20, Tryd.ntmps20
  go_wp2_with fail
  refine (index_any _ _ _ hs (a0, a1, a2, a3, a4, a5, a6) _ hn HR.out).mono ?_
  rintro r w1 ⟨rfl, hb1⟩
  go_wp2
  go_ret
  exact ⟨ret_bool Hi.out, below0 Hb0.out hb1⟩

def upd {α : Type} (M : Int → α) (l : Int) (v : α) : Int → α := fun x => if x = l then v else M x
theorem upd_same {α : Type} (M : Int → α) (l : Int) (v : α) : upd M l v l = v := by simp [upd]
theorem upd_other {α : Type} (M : Int → α) {l x : Int} (v : α) (h : x ≠ l) : upd M l v x = M x := by simp [upd, h]
theorem upd_upd {α : Type} (M : Int → α) (l : Int) (v v' : α) : upd (upd M l v) l v' = upd M l v' := by funext x; simp only [upd]; split <;> rfl
theorem upd_self {α : Type} (M : Int → α) (l : Int) : upd M l (M l) = M := by funext x; simp only [upd]; split <;> simp_all

theorem own_base {w : World} {base : Nat} {e : TypeId} {size n : Nat} {v : Value} {xs : List Value} (h : w.ownsRow base e size v n xs) {g : Nat} (hg : v.ownBlock = some g) : base ≤ g ∧ g < w.heap.size := by
  rcases h.2 with ⟨rfl, _⟩ | ⟨g', cap, cur, rfl, hb, hh, _⟩
  · simp [Value.ownBlock] at hg
  · have : g' = g := by simpa [Value.ownBlock] using hg
    subst this
    exact ⟨hb, (Array.getElem?_eq_some_iff.1 hh).1⟩

/-- The map's entry at l is a new slice value: the object behind it. -/
theorem AckRep.put {w w3 w4 : World} {F : Nat → Prop} {pa bm base N : Nat} {M : Int → List Hd} {f : Int → Value} (hR : AckRep w F pa bm base N M f) {l : Int} (hl : Wf l) {v' : Value} {hs' : List Hd}
    (hKa : Keeps (fun g => (f l).ownBlock = some g) w w3) (hown3 : w3.ownsRow base 46 7 v' hs'.length (heads hs')) (hloc : v'.ownBlock = none ∨ v'.ownBlock = (f l).ownBlock ∨ ∃ g, v'.ownBlock = some g ∧ w.heap.size ≤ g)
    {N' : Nat} (hmap4 : IntMap Tryd.prog 3 w4 bm N' (.slice none 0 0) (updI f l v')) (hg4 : w3.grownBy w4 (some bm)) :
    AckRep w4 (fun g => F g ∨ v'.ownBlock = some g) pa bm base N' (upd M l hs') (updI f l v') where
  box := by
    have h1 := hKa.blk hR.box (fun e => by have := (own_base (hR.rows l hl) e).1; have := hR.pab; omega)
    exact h1.grown hg4 (fun e => hR.ne (by injection e))
  map := hmap4
  rows := fun x hx => by
    by_cases e : x = l
    · subst e
      rw [upd_same]
      simp only [updI, if_pos]
      refine hown3.kept hg4 ?_
      cases hv : v'.ownBlock with
      | none => exact .inl rfl
      | some g => exact .inr (fun e => by have := (own_base hown3 hv).1; have := hR.bmb; injection e with e; omega)
    · rw [upd_other _ _ e]
      simp only [updI, if_neg e]
      have h1 := hKa.own (hR.rows x hx) (fun g hg hg' => by
        rcases hR.apart x l hx hl e with h | h
        · rw [h] at hg; cases hg
        · exact h (hg.trans hg'.symm))
      refine h1.kept hg4 ?_
      cases hv : (f x).ownBlock with
      | none => exact .inl rfl
      | some g => exact .inr (fun e => by have := (own_base (hR.rows x hx) hv).1; have := hR.bmb; injection e with e; omega)
  apart := fun x y hx hy hne => by
    have key : ∀ z, Wf z → z ≠ l → (f z).ownBlock = none ∨ (f z).ownBlock ≠ v'.ownBlock := fun z hz hzl => by
      rcases hloc with h | h | ⟨g, h, hg⟩
      · rw [h]
        cases (f z).ownBlock with
        | none => exact .inl rfl
        | some _ => exact .inr (by simp)
      · rw [h]
        exact hR.apart z l hz hl hzl
      · rw [h]
        refine .inr (fun e => ?_)
        have := (own_base (hR.rows z hz) e).2
        omega
    by_cases ex : x = l <;> by_cases ey : y = l
    · exact absurd (ex.trans ey.symm) hne
    · simp only [updI, if_pos ex, if_neg ey]
      rcases key y hy ey with h | h
      · rw [h]
        cases v'.ownBlock with
        | none => exact .inl rfl
        | some _ => exact .inr (by simp)
      · exact .inr (fun e => h e.symm)
    · simp only [updI, if_neg ex, if_pos ey]
      exact key x hx ex
    · simp only [updI, if_neg ex, if_neg ey]
      exact hR.apart x y hx hy hne
  hpa := .inl hR.hpa
  hbm := .inl hR.hbm
  hrow := fun x g hx hg => by
    by_cases e : x = l
    · simp only [updI, if_pos e] at hg
      exact .inr hg
    · simp only [updI, if_neg e] at hg
      exact .inl (hR.hrow x g hx hg)
  pab := hR.pab
  bmb := hR.bmb
  ne := hR.ne
  lt := fun g hg => by
    rcases hg with hg | hg
    · exact Nat.lt_of_lt_of_le (hR.lt g hg) (Nat.le_trans hKa.size hg4.size)
    · exact Nat.lt_of_lt_of_le (own_base hown3 hg).2 hg4.size
  bz := Nat.le_trans hR.bz (Nat.le_trans hKa.size hg4.size)
end Go.Proofs.YtlclifhpmnfopaaDoor
