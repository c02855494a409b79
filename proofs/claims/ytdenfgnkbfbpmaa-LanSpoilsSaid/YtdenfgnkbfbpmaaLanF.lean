/-
  (*lan.Lan).Take.
-/
import Derived.Test.YtdenfgnkbfbpmaaLanE
namespace Go.Proofs.Ytdenfgnkbfbpmaa
open Go.RowKit

theorem LanRep.take {w w' : World} {F : Nat → Prop} {pl base : Nat} {room : Int} {on : Nat → Bool} {l : List Raw} {A A' : Option Addr} {c c' k : Nat} (h : LanRep w F pl base room on l A c) {g : Nat} (hA : A = some ⟨g, 0, none⟩) (hA' : A' = some ⟨g, 0, none⟩) (hk : k < l.length)
    (hK : Keeps (fun x => x = g) w w') (hown : w'.ownsRow base 48 6 (.slice A' (l.length - 1) c') (l.length - 1) (rawsC (l.eraseIdx k))) :
    LanRep (w'.setCell ⟨pl, 17, none⟩ (.slice A' (l.length - 1) c')) F pl base room on (l.eraseIdx k) A' c' := by
  subst hA hA'
  have hl : (l.eraseIdx k).length = l.length - 1 := by rw [List.length_eraseIdx, if_pos hk]
  have hsz : (w'.setCell ⟨pl, 17, none⟩ (.slice (some ⟨g, 0, none⟩) (l.length - 1) c')).heap.size = w'.heap.size := by simp [World.setCell]
  have hgb : base ≤ g := (own_baseO h.own (g := g) rfl).1
  have hpl := h.plb
  refine ⟨?_, ?_, ?_, h.hpl, ?_, ?_, h.plb, ?_, ?_⟩
  · have h2 := (hK.blk h.box (by show ¬ pl = g; omega)).set_ 17 (.slice (some ⟨g, 0, none⟩) (l.length - 1) c')
    rw [hl]
    have e : (lanCells room on (.slice (some ⟨g, 0, none⟩) l.length c)).setIfInBounds 17 (.slice (some ⟨g, 0, none⟩) (l.length - 1) c') = lanCells room on (.slice (some ⟨g, 0, none⟩) (l.length - 1) c') := by simp [lanCells]
    rw [← e]
    exact h2
  · rw [hl]
    exact ownsRow_setCell_below hown (a := ⟨pl, 17, none⟩) h.plb _
  · intro r hr
    have hb := h.byt r (List.mem_of_mem_eraseIdx hr)
    refine ownsRow_setCell_below (hK.own hb (fun x hx => ?_)) (a := ⟨pl, 17, none⟩) h.plb _
    rcases own_typesO hb h.own (by decide) with e | e
    · rw [e] at hx; cases hx
    · rintro rfl
      exact e hx
  · intro x hx
    exact h.hrow x (by simpa [Value.ownBlock] using hx)
  · intro r hr
    exact h.hbyt r (List.mem_of_mem_eraseIdx hr)
  · intro x hx
    rw [hsz]
    exact Nat.lt_of_lt_of_le (h.lt x hx) hK.size
  · rw [hsz]
    exact Nat.le_trans h.bz hK.size

theorem Blk.cells6 {w : World} {g : Nat} {t : TypeId} {a0 a1 a2 a3 a4 a5 : Value} (h : Blk w g t #[a0, a1, a2, a3, a4, a5]) :
    w.cell? ⟨g, 0, none⟩ = some a0 ∧ w.cell? ⟨g, 1, none⟩ = some a1 ∧ w.cell? ⟨g, 2, none⟩ = some a2 ∧ w.cell? ⟨g, 3, none⟩ = some a3 ∧ w.cell? ⟨g, 4, none⟩ = some a4 ∧ w.cell? ⟨g, 5, none⟩ = some a5 ∧ ∀ i, w.frozen? ⟨g, i, none⟩ = false :=
  ⟨h.cell 0, h.cell 1, h.cell 2, h.cell 3, h.cell 4, h.cell 5, h.frozen⟩

theorem keeps_six {F : Nat → Prop} {a w : World} {g : Nat} (h : Keeps F a w) (hg : F g ∨ a.heap.size ≤ g) (v0 v1 v2 v3 v4 v5 : Value) : Keeps F a (set6 w g v0 v1 v2 v3 v4 v5) :=
  (((((h.setCell (p := ⟨g, 0, none⟩) hg _).setCell (p := ⟨g, 1, none⟩) hg _).setCell (p := ⟨g, 2, none⟩) hg _).setCell (p := ⟨g, 3, none⟩) hg _).setCell (p := ⟨g, 4, none⟩) hg _).setCell (p := ⟨g, 5, none⟩) hg _

set_option maxRecDepth 20000 in
set_option maxHeartbeats 2000000 in
theorem take_nil (i : Int) (w : World) : Calls Try.prog 11 #[.pointer none, .int .i64 i] w fun r w' => r = .returned (.tuple #[zeroCopy, .bool false]) ∧ Below w.heap.size w w' := by
  go_enter Try.func11, Try.ntmps11
  go_wp2_with fail
  have hb1 := Blk.new w 48 #[.int .i64 0, .int .i64 0, .int .i64 0, .slice none 0 0, .int .i64 0, .bool false]
  have hB1 := (Below.refl w.heap.size w).alloc (Nat.le_refl _) (.cells #[.int .i64 0, .int .i64 0, .int .i64 0, .slice none 0 0, .int .i64 0, .bool false] 48)
  generalize w.alloc (.cells #[.int .i64 0, .int .i64 0, .int .i64 0, .slice none 0 0, .int .i64 0, .bool false] 48) = W1 at hb1 hB1 ⊢
  have hlt := hb1.lt
  refine (at_nil i _).mono ?_
  rintro e w2 ⟨rfl, hb2⟩
  have hbb2 := hb1.below hb2 hlt
  have hlt2 := hbb2.lt
  obtain ⟨k0, k1, k2, k3, k4, k5, f0⟩ := hbb2.cells6
  have HB := hide (below0 hB1 hb2)
  have HBB := hide hbb2
  clear hbb2 hb2 hb1 hB1
  go_wp2_with fail
  have hb := (HBB.out.six (.int .i64 0) (.int .i64 0) (.int .i64 0) (.slice none 0 0) (.int .i64 0) (.bool false)).alloc (.cells #[.int .i64 0, .int .i64 0, .int .i64 0, .slice none 0 0, .int .i64 0, .bool false] 48)
  refine bodyPost_ret (results_row_tmpO (fn := Try.f11) rfl _ _ _ 48 _ _ rfl hb Try.underlying48 rfl (by kernel_rfl)) rfl ?_
  exact ⟨rfl, (below_six HB.out (Nat.le_refl _) _ _ _ _ _ _).alloc (by simp [World.setCell]; omega) _⟩

theorem delete_at (g cap k : Nat) (l : List Raw) (base : Nat) (w : World) (hk : k < l.length) (hown : w.ownsRow base 48 6 (.slice (some ⟨g, 0, none⟩) l.length cap) l.length (rawsC l)) (hn : l.length ≤ 200000) :
    Calls Try.prog 34 #[.slice (some ⟨g, 0, none⟩) l.length cap, .int .i64 (k : Int), .int .i64 ((k : Int) + 1)] w fun r w' =>
      r = .returned (.slice (some ⟨g, 0, none⟩) (l.length - 1) cap) ∧ w'.ownsRow base 48 6 (.slice (some ⟨g, 0, none⟩) (l.length - 1) cap) (l.length - 1) (rawsC (l.eraseIdx k)) ∧ Keeps (fun x => x = g) w w' := by
  obtain ⟨m, hm⟩ : ∃ m, l.length = k + 1 + m := ⟨l.length - (k + 1), by omega⟩
  have h := delete_any g cap k m l base w hm hown hn
  rw [← hm, show k + m = l.length - 1 by omega] at h
  exact h

set_option maxRecDepth 20000 in
set_option maxHeartbeats 2000000 in
theorem take_in (F : Nat → Prop) (pl base : Nat) (room : Int) (on : Nat → Bool) (l : List Raw) (A : Option Addr) (c : Nat) (k : Nat) (r : Raw) (w : World) (h : LanRep w F pl base room on l A c) (hk : l[k]? = some r) (hn : r.cp.bs.length ≤ 100000) (hl : l.length ≤ 200000) :
    Calls Try.prog 11 #[.pointer (some ⟨pl, 0, none⟩), .int .i64 (k : Int)] w fun e w' => ∃ A1 c1 A' c', e = .returned (.tuple #[.agg #[.int .i64 r.cp.lan, .int .i64 r.cp.frm, .int .i64 r.cp.to, .slice A1 r.cp.bs.length c1, .int .i64 r.cp.for_, .bool r.cp.sp], .bool true]) ∧ w'.ownsRow w.heap.size 5 1 (.slice A1 r.cp.bs.length c1) r.cp.bs.length (u8sO r.cp.bs) ∧
      LanRep w' F pl base room on (l.eraseIdx k) A' c' ∧ Keeps F w w' := by
  have hkl : k < l.length := (List.getElem?_eq_some_iff.1 hk).1
  obtain ⟨b, off, r', hA, _, _, _⟩ := (Reads.of_own h.own).raw_at hkl
  obtain ⟨g, rfl⟩ : ∃ g, A = some ⟨g, 0, none⟩ := by
    obtain ⟨g, cap, e, _⟩ := h.own.form (by omega)
    injection e with e
    exact ⟨g, e⟩
  have Hh := hide h
  have HK := hide hk
  clear h hk hA
  go_enter Try.func11, Try.ntmps11
  go_wp2_with fail
  have hb1 := Blk.new w 48 #[.int .i64 0, .int .i64 0, .int .i64 0, .slice none 0 0, .int .i64 0, .bool false]
  have hB1 := (Below.refl w.heap.size w).alloc (Nat.le_refl _) (.cells #[.int .i64 0, .int .i64 0, .int .i64 0, .slice none 0 0, .int .i64 0, .bool false] 48)
  generalize w.alloc (.cells #[.int .i64 0, .int .i64 0, .int .i64 0, .slice none 0 0, .int .i64 0, .bool false] 48) = W1 at hb1 hB1 ⊢
  have hlt := hb1.lt
  refine (at_in F pl base room on l _ c k r _ (Hh.out.below hB1) HK.out hn).mono ?_
  rintro e w2 ⟨A2, c2, rfl, ho2, hb2⟩
  have hR2 := (Hh.out.below hB1).below hb2
  have hbb2 := hb1.below hb2 hlt
  have hlt2 := hbb2.lt
  have HB := hide (below0 hB1 hb2)
  have HO := hide ho2
  have c17 : w2.cell? ⟨pl, 17, none⟩ = some (.slice (some ⟨g, 0, none⟩) l.length c) := hR2.box.cell 17
  have hpl2 := hR2.box.lt
  have HR2 := hide hR2
  have HBB := hide hbb2
  clear hbb2 hR2 ho2 hb2 hb1 hB1
  go_wp2_with fail
  have HN := hide (Blk.new w2 48 #[.int .i64 r.cp.lan, .int .i64 r.cp.frm, .int .i64 r.cp.to, .slice A2 r.cp.bs.length c2, .int .i64 r.cp.for_, .bool r.cp.sp])
  have HA := hide ((Below.refl w2.heap.size w2).alloc (Nat.le_refl _) (.cells #[.int .i64 r.cp.lan, .int .i64 r.cp.frm, .int .i64 r.cp.to, .slice A2 r.cp.bs.length c2, .int .i64 r.cp.for_, .bool r.cp.sp] 48))
  generalize w2.alloc (.cells #[.int .i64 r.cp.lan, .int .i64 r.cp.frm, .int .i64 r.cp.to, .slice A2 r.cp.bs.length c2, .int .i64 r.cp.for_, .bool r.cp.sp] 48) = W3 at HN HA ⊢
  have HR3 := hide (HR2.out.below HA.out)
  refine (delete_at g c k l base _ hkl HR3.out.own hl).mono ?_
  rintro e w4 ⟨rfl, ho4, hK4⟩
  have hgF := HR2.out.hrow g rfl
  have hgb := (own_baseO HR2.out.own (g := g) rfl).1
  have hg2 := (own_baseO HR2.out.own (g := g) rfl).2
  have hplb := HR2.out.plb
  have hwF : ¬ w.heap.size = g := fun e => absurd (Hh.out.lt _ (e ▸ hgF)) (Nat.lt_irrefl _)
  have hw2F : ¬ w2.heap.size = g := by omega
  have hw2F' : ¬ w2.heap.size = pl := by omega
  have hwp : ¬ w.heap.size = pl := fun e => absurd (Hh.out.lt _ (e ▸ Hh.out.hpl)) (Nat.lt_irrefl _)
  have hbx := hK4.blk HR3.out.box (by show ¬ pl = g; omega)
  have d17 : w4.cell? ⟨pl, 17, none⟩ = some (.slice (some ⟨g, 0, none⟩) l.length c) := hbx.cell 17
  have e17 : w4.frozen? ⟨pl, 17, none⟩ = false := hbx.frozen 17
  have hn4 := hK4.blk HN.out hw2F
  have hr4 := hK4.blk (HBB.out.below HA.out hlt2) hwF
  obtain ⟨k0, k1, k2, k3, k4, k5, f0⟩ := hn4.cells6
  obtain ⟨q0, q1, q2, q3, q4, q5, f1⟩ := hr4.cells6
  have HR4 := hide (HR3.out.take rfl rfl hkl hK4 ho4)
  have HO4 := hide (hK4.own (own_monoO HO.out (Nat.le_refl _) |> fun h => (Keeps.of_below (F := fun _ => False) HA.out).own h (fun _ _ h => h)) (fun x hx => by
    have h1 := (own_baseO HO.out hx).1
    show ¬ x = g
    rintro rfl
    exact absurd (Hh.out.lt _ hgF) (by have := HB.out.size; omega)))
  have HK4 := hide (((Keeps.of_below (F := F) HB.out).below HA.out).trans hK4 (fun x hx => .inl (by cases hx; exact hgF)))
  have HR5 := hide hr4
  clear hbx hn4 hr4 hK4 ho4 c17 hpl2
  go_wp2_with fail
  have hb := (HR5.out.far (p := ⟨pl, 17, none⟩) hwp (.slice (some ⟨g, 0, none⟩) (l.length - 1) c)).six (.int .i64 r.cp.lan) (.int .i64 r.cp.frm) (.int .i64 r.cp.to) (.slice A2 r.cp.bs.length c2) (.int .i64 r.cp.for_) (.bool r.cp.sp)
  refine bodyPost_ret (results_row_tmpO (fn := Try.f11) rfl _ _ _ 48 _ _ rfl hb Try.underlying48 rfl (by kernel_rfl)) rfl ?_
  refine ⟨A2, c2, some ⟨g, 0, none⟩, c, rfl, own_monoO (own_six (ownsRow_setCell_below HO4.out (a := ⟨pl, 17, none⟩) ?_ _) hlt _ _ _ _ _ _) (Nat.le_of_lt hlt), ?_, ?_⟩
  · exact Nat.lt_trans (Hh.out.lt _ Hh.out.hpl) hlt
  · exact HR4.out.keep (keeps_six (F := fun x => x = w.heap.size) (Keeps.refl _ _) (.inl rfl) _ _ _ _ _ _) (fun x hx e => absurd (Hh.out.lt _ (e ▸ hx)) (Nat.lt_irrefl _))
  · exact keeps_six (HK4.out.setCell (p := ⟨pl, 17, none⟩) (.inl Hh.out.hpl) _) (.inr (Nat.le_refl _)) _ _ _ _ _ _
end Go.Proofs.Ytdenfgnkbfbpmaa
