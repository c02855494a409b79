/-
  (*acks.Acks).Take and Drop; the reference's Drop.
-/
import Derived.Test.YtlclifhpmnfopaaDoorJ
import Derived.Test.YtlclifhpmnfopaaDoorE
namespace Go.Proofs.YtlclifhpmnfopaaDoor
open Go.RowKit

theorem own_cap {w : World} {base : Nat} {e : TypeId} {size n c : Nat} {A : Option Addr} {xs : List Value} (h : w.ownsRow base e size (.slice A n c) n xs) : n ≤ c ∧ c ≤ maxLen := by
  rcases h.2 with ⟨e, rfl⟩ | ⟨g, cap, cur, e, _, _, h1, h2, _⟩
  · injection e with _ h1 h2
    subst h2
    exact ⟨Nat.le_refl _, by decide⟩
  · injection e with _ _ h0
    subst h0
    exact ⟨h1, h2⟩

/-- the object behind pa after a step: some footprint within the old one and new blocks -/
def AckAt (w : World) (F : Nat → Prop) (pa bm base N : Nat) (M : Int → List Hd) (wr : World) : Prop :=
  ∃ (F' : Nat → Prop) (f' : Int → Value), AckRep wr F' pa bm base N M f' ∧ (∀ g, F' g → F g ∨ w.heap.size ≤ g) ∧ Keeps F w wr
def RefAt (w : World) (F : Nat → Prop) (px base : Nat) (rs : List Rw) (wr : World) : Prop :=
  ∃ (F' : Nat → Prop) (A : Option Addr) (c : Nat), RefRep wr F' px base rs A c ∧ (∀ g, F' g → F g ∨ w.heap.size ≤ g) ∧ Keeps F w wr

theorem AckAt.del {w w3 w4 : World} {F : Nat → Prop} {pa bm base N : Nat} {M : Int → List Hd} {f : Int → Value} (h : AckRep w F pa bm base N M f) {l : Int} (hl : Wf l) (hb : Below w.heap.size w w3)
    (hmap4 : IntMap Tryd.prog 3 w4 bm N (.slice none 0 0) (updI f l (.slice none 0 0))) (hg4 : w3.grownBy w4 (some bm)) : AckAt w F pa bm base N (upd M l []) w4 := by
  refine ⟨_, _, h.put hl (Keeps.of_below hb) (v' := .slice none 0 0) (hs' := []) (World.ownsRow_nil _ _ _ _) (.inl rfl) hmap4 hg4, fun g hg => ?_, (Keeps.of_below hb).grown hg4 (fun g hg => ?_)⟩
  · rcases hg with hg | hg
    · exact .inl hg
    · simp [Value.ownBlock] at hg
  · injection hg with hg
    subst hg
    exact .inl h.hbm

set_option maxHeartbeats 2000000 in
theorem take_any (pa bm base N : Nat) (M : Int → List Hd) (f : Int → Value) (F : Nat → Prop) (l : Int) (w : World) (hl : Wf l) (h : AckRep w F pa bm base N M f) (hM : (M l).length ≤ 100000) :
    Calls Tryd.prog 15 #[.pointer (some ⟨pa, 0, none⟩), .int .i64 l] w fun r w' => ∃ A' c' vs, r = .returned (.slice A' (((M l).length + 2) / 3) c') ∧ w'.ownsRow w.heap.size 33 1 (.slice A' (((M l).length + 2) / 3) c') (((M l).length + 2) / 3) vs ∧ PiecesAt w' w.heap.size vs (M l) (((M l).length + 2) / 3) ∧ AckAt w F pa bm base N (upd M l []) w' := by
  obtain ⟨A, c, _, hrun, hown⟩ := h.look hl
  have hc0 : w.cell? ⟨pa, 0, none⟩ = some (.map (some bm)) := by have := h.box.cell 0; simpa using this
  have hpa := h.box.lt
  have hcap := own_cap hown
  have HR := hide (Reads.of_own hown)
  have Hh := hide h
  clear h hown
  go_enter Tryd.func15, Tryd.ntmps15
  go_wp2_with fail
  refine (pieces_any _ _ _ (M l) _ hM hcap.1 hcap.2 HR.out).mono ?_
  rintro r w1 ⟨A1, c1, vs, rfl, ho1, hP1, hb1⟩
  have hc1 : w1.cell? ⟨pa, 0, none⟩ = some (.map (some bm)) := (hb1.cell (p := ⟨pa, 0, none⟩) hpa).trans hc0
  have hmap1 := (Hh.out.below hb1).map
  have HH := hide (⟨ho1, hP1, hb1⟩ : w1.ownsRow w.heap.size 33 1 (.slice A1 (((M l).length + 2) / 3) c1) (((M l).length + 2) / 3) vs ∧ PiecesAt w1 w.heap.size vs (M l) (((M l).length + 2) / 3) ∧ Below w.heap.size w w1)
  clear ho1 hP1 hb1 hrun hcap
  obtain ⟨w4, hrunD, hmap4, hg4⟩ := hmap1.drop Tryd.underlying3 Tryd.underlying51 hl 0
  have hA4 := AckAt.del Hh.out hl HH.out.2.2 hmap4 hg4
  have hbm : ∀ g, g < w.heap.size → w.heap.size ≤ g → False := fun g h1 h2 => by omega
  have hbml : bm < w.heap.size := Hh.out.lt _ Hh.out.hbm
  go_wp2
  go_ret
  refine ⟨A1, c1, vs, rfl, HH.out.1.kept hg4 ?_, ⟨HH.out.2.1.1, fun j v hv => (HH.out.2.1.2 j v hv).kept hg4 ?_⟩, hA4⟩
  · cases hv : (Value.slice A1 (((M l).length + 2) / 3) c1).ownBlock with
    | none => exact .inl rfl
    | some g => exact .inr (fun e => by have := (own_base HH.out.1 hv).1; injection e with e; omega)
  · cases hv' : v.ownBlock with
    | none => exact .inl rfl
    | some g => exact .inr (fun e => by have := (own_base (HH.out.2.1.2 j v hv) hv').1; injection e with e; omega)

set_option maxHeartbeats 2000000 in
theorem drop_any (pa bm base N : Nat) (M : Int → List Hd) (f : Int → Value) (F : Nat → Prop) (l : Int) (w : World) (hl : Wf l) (h : AckRep w F pa bm base N M f) :
    Calls Tryd.prog 18 #[.pointer (some ⟨pa, 0, none⟩), .int .i64 l] w fun r w' => r = .returned (.int .i64 ((M l).length : Int)) ∧ AckAt w F pa bm base N (upd M l []) w' := by
  have hc0 : w.cell? ⟨pa, 0, none⟩ = some (.map (some bm)) := by have := h.box.cell 0; simpa using this
  have hpa := h.box.lt
  have Hh := hide h
  clear h
  go_enter Tryd.func18, Tryd.ntmps18
  go_wp2_with fail
  refine (len_any _ _ _ _ M f F l _ hl Hh.out).mono ?_
  rintro r w1 ⟨rfl, hb1⟩
  have hc1 : w1.cell? ⟨pa, 0, none⟩ = some (.map (some bm)) := (hb1.cell (p := ⟨pa, 0, none⟩) hpa).trans hc0
  have hmap1 := (Hh.out.below hb1).map
  have HB1 := hide hb1
  clear hb1
  by_cases hz : 0 < (M l).length
  · obtain ⟨w4, hrunD, hmap4, hg4⟩ := hmap1.drop Tryd.underlying3 Tryd.underlying51 hl 0
    have hA4 := AckAt.del Hh.out hl HB1.out hmap4 hg4
    go_wp2
    go_ret
    exact ⟨rfl, hA4⟩
  · have hA4 : AckAt w F pa bm base N (upd M l []) w1 := by
      refine ⟨F, f, ?_, fun g hg => .inl hg, Keeps.of_below HB1.out⟩
      have e : M l = [] := List.eq_nil_of_length_eq_zero (by omega)
      rw [← e, upd_self]
      exact Hh.out.below HB1.out
    go_wp2
    go_ret
    exact ⟨rfl, hA4⟩
end Go.Proofs.YtlclifhpmnfopaaDoor
