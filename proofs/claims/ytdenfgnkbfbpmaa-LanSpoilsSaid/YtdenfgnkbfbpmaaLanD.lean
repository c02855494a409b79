/-
  (*lan.Lan).At.
-/
import Derived.Test.YtdenfgnkbfbpmaaLanC
import Derived.Laws.ResultCell
namespace Go.Proofs.Ytdenfgnkbfbpmaa
open Go.RowKit

abbrev zeroCopy : Value := .agg #[.int .i64 0, .int .i64 0, .int .i64 0, .slice none 0 0, .int .i64 0, .bool false]

abbrev set6 (w : World) (g : Nat) (v0 v1 v2 v3 v4 v5 : Value) : World := (((((w.setCell ⟨g, 0, none⟩ v0).setCell ⟨g, 1, none⟩ v1).setCell ⟨g, 2, none⟩ v2).setCell ⟨g, 3, none⟩ v3).setCell ⟨g, 4, none⟩ v4).setCell ⟨g, 5, none⟩ v5
theorem Blk.six {w : World} {g : Nat} {t : TypeId} {a0 a1 a2 a3 a4 a5 : Value} (h : Blk w g t #[a0, a1, a2, a3, a4, a5]) (v0 v1 v2 v3 v4 v5 : Value) : Blk (set6 w g v0 v1 v2 v3 v4 v5) g t #[v0, v1, v2, v3, v4, v5] := by
  have := (((((h.set_ 0 v0).set_ 1 v1).set_ 2 v2).set_ 3 v3).set_ 4 v4).set_ 5 v5
  simpa using this
theorem below_six {B : Nat} {a w : World} {g : Nat} (h : Below B a w) (hg : B ≤ g) (v0 v1 v2 v3 v4 v5 : Value) : Below B a (set6 w g v0 v1 v2 v3 v4 v5) :=
  (((((h.setCell (p := ⟨g, 0, none⟩) hg _).setCell (p := ⟨g, 1, none⟩) hg _).setCell (p := ⟨g, 2, none⟩) hg _).setCell (p := ⟨g, 3, none⟩) hg _).setCell (p := ⟨g, 4, none⟩) hg _).setCell (p := ⟨g, 5, none⟩) hg _
theorem own_six {w : World} {base : Nat} {e : TypeId} {size n : Nat} {v : Value} {xs : List Value} {g : Nat} (h : w.ownsRow base e size v n xs) (hg : g < base) (v0 v1 v2 v3 v4 v5 : Value) : (set6 w g v0 v1 v2 v3 v4 v5).ownsRow base e size v n xs :=
  ownsRow_setCell_below (ownsRow_setCell_below (ownsRow_setCell_below (ownsRow_setCell_below (ownsRow_setCell_below (ownsRow_setCell_below h (a := ⟨g, 0, none⟩) hg _) (a := ⟨g, 1, none⟩) hg _) (a := ⟨g, 2, none⟩) hg _) (a := ⟨g, 3, none⟩) hg _) (a := ⟨g, 4, none⟩) hg _) (a := ⟨g, 5, none⟩) hg _
theorem results_row_tmpO {P : Program} {fn : Func} {p u : Tmp} {ty : TypeId} (h : fn.results = #[.cell p ty, .tmp u]) (tmps : Array Value) (w : World) (g : Nat) (t : TypeId) (cs : Array Value) (d : TypeDesc)
    (hp : tmps.getD p undef = .pointer (some ⟨g, 0, none⟩)) (hg : Blk w g t cs) (hu : P.underlying ty = some d) (hd : (match d with | .struct _ | .array _ _ => true | _ => false) = true) (hi : (P.info? ty).map (·.size) = some cs.size) :
    (results fn tmps).run P w = .ok (.tuple #[.agg cs, tmps.getD u undef]) w := by
  rw [results_cell_tmp h, hp]
  simp [asAddr, run_loadVar_row w g t ty cs (0, 0) d hg hu hd hi, Result.andThen]

set_option maxRecDepth 20000 in
set_option maxHeartbeats 2000000 in
theorem at_nil (i : Int) (w : World) : Calls Try.prog 19 #[.pointer none, .int .i64 i] w fun r w' => r = .returned (.tuple #[zeroCopy, .bool false]) ∧ Below w.heap.size w w' := by
  go_enter Try.func19, Try.ntmps19
  go_wp2_with fail
  have hb := Blk.new w 48 #[.int .i64 0, .int .i64 0, .int .i64 0, .slice none 0 0, .int .i64 0, .bool false]
  refine bodyPost_ret (results_row_tmpO (fn := Try.f19) rfl _ _ _ 48 _ _ rfl hb Try.underlying48 rfl (by kernel_rfl)) rfl ?_
  exact ⟨rfl, (Below.refl _ _).alloc (Nat.le_refl _) _⟩

set_option maxRecDepth 20000 in
set_option maxHeartbeats 2000000 in
theorem at_in (F : Nat → Prop) (pl base : Nat) (room : Int) (on : Nat → Bool) (l : List Raw) (A : Option Addr) (c : Nat) (k : Nat) (r : Raw) (w : World) (h : LanRep w F pl base room on l A c) (hk : l[k]? = some r) (hn : r.cp.bs.length ≤ 100000) :
    Calls Try.prog 19 #[.pointer (some ⟨pl, 0, none⟩), .int .i64 (k : Int)] w fun e w' => ∃ A' c', e = .returned (.tuple #[.agg #[.int .i64 r.cp.lan, .int .i64 r.cp.frm, .int .i64 r.cp.to, .slice A' r.cp.bs.length c', .int .i64 r.cp.for_, .bool r.cp.sp], .bool true]) ∧ w'.ownsRow w.heap.size 5 1 (.slice A' r.cp.bs.length c') r.cp.bs.length (u8sO r.cp.bs) ∧ Below w.heap.size w w' := by
  have hkl : k < l.length := (List.getElem?_eq_some_iff.1 hk).1
  obtain ⟨b, off, r', rfl, hbb, hr', hat⟩ := (Reads.of_own h.own).raw_at hkl
  obtain rfl : r' = r := Option.some.inj (hr'.symm.trans hk)
  have hrd := Reads.of_own (h.byt r' (List.mem_of_getElem? hk))
  have hnc : r'.A = none → r'.cp.bs.length = 0 := fun e => by
    rcases Nat.eq_zero_or_pos r'.cp.bs.length with h0 | h0
    · exact h0
    · obtain ⟨_, _, e', _⟩ := hrd.2 h0
      rw [e] at e'
      cases e'
  have hc17 : w.cell? ⟨pl, 17, none⟩ = some (.slice (some ⟨b, off, none⟩) l.length c) := h.box.cell 17
  obtain ⟨⟨lan, frm, to, bs, for_, sp⟩, A1, c1⟩ := r'
  obtain ⟨h0, h1, h2, h3, h4, h5⟩ := hat
  have hpl := h.box.lt
  have Hh := hide h
  have HRD := hide hrd
  clear h hrd hr' hk
  go_enter Try.func19, Try.ntmps19
  go_wp2_with fail
  have hb1 := Blk.new w 48 #[.int .i64 0, .int .i64 0, .int .i64 0, .slice none 0 0, .int .i64 0, .bool false]
  have hB1 := (Below.refl w.heap.size w).alloc (Nat.le_refl _) (.cells #[.int .i64 0, .int .i64 0, .int .i64 0, .slice none 0 0, .int .i64 0, .bool false] 48)
  generalize w.alloc (.cells #[.int .i64 0, .int .i64 0, .int .i64 0, .slice none 0 0, .int .i64 0, .bool false] 48) = W1 at hb1 hB1 ⊢
  have hlt := hb1.lt
  refine (copied_anyO lan frm to for_ sp A1 _ c1 bs _ hn hnc ((HRD.out.below hB1).more hB1.size)).mono ?_
  rintro e w2 ⟨A2, c2, rfl, ho2, hb2⟩
  have hbb2 := hb1.below hb2 hlt
  have HB := hide (below0 hB1 hb2)
  have HO := hide ho2
  have k0 : w2.cell? ⟨w.heap.size, 0, none⟩ = some (.int .i64 0) := by have := hbb2.cell 0; simpa using this
  have k1 : w2.cell? ⟨w.heap.size, 1, none⟩ = some (.int .i64 0) := by have := hbb2.cell 1; simpa using this
  have k2 : w2.cell? ⟨w.heap.size, 2, none⟩ = some (.int .i64 0) := by have := hbb2.cell 2; simpa using this
  have k3 : w2.cell? ⟨w.heap.size, 3, none⟩ = some (.slice none 0 0) := by have := hbb2.cell 3; simpa using this
  have k4 : w2.cell? ⟨w.heap.size, 4, none⟩ = some (.int .i64 0) := by have := hbb2.cell 4; simpa using this
  have k5 : w2.cell? ⟨w.heap.size, 5, none⟩ = some (.bool false) := by have := hbb2.cell 5; simpa using this
  have f2 : ∀ i, w2.frozen? ⟨w.heap.size, i, none⟩ = false := fun i => hbb2.frozen i
  have HH := hide hbb2
  clear hbb2 ho2 hb2 h0 h1 h2 h3 h4 h5
  go_wp2_with fail
  have hb := HH.out.six (.int .i64 lan) (.int .i64 frm) (.int .i64 to) (.slice A2 bs.length c2) (.int .i64 for_) (.bool sp)
  refine bodyPost_ret (results_row_tmpO (fn := Try.f19) rfl _ _ _ 48 _ _ rfl hb Try.underlying48 rfl (by kernel_rfl)) rfl ?_
  exact ⟨A2, c2, rfl, own_monoO (own_six HO.out hlt _ _ _ _ _ _) (Nat.le_of_lt hlt), below_six HB.out (Nat.le_refl _) _ _ _ _ _ _⟩

set_option maxRecDepth 20000 in
set_option maxHeartbeats 2000000 in
theorem at_out (F : Nat → Prop) (pl base : Nat) (room : Int) (on : Nat → Bool) (l : List Raw) (A : Option Addr) (c : Nat) (i : Int) (w : World) (h : LanRep w F pl base room on l A c) (hi : i < 0 ∨ (l.length : Int) ≤ i) :
    Calls Try.prog 19 #[.pointer (some ⟨pl, 0, none⟩), .int .i64 i] w fun r w' => r = .returned (.tuple #[zeroCopy, .bool false]) ∧ Below w.heap.size w w' := by
  have hc17 : w.cell? ⟨pl, 17, none⟩ = some (.slice A l.length c) := h.box.cell 17
  have hpl := h.box.lt
  clear h
  go_enter Try.func19, Try.ntmps19
  rcases hi with hi | hi
  all_goals
    go_wp2_with fail
    have hb := Blk.new w 48 #[.int .i64 0, .int .i64 0, .int .i64 0, .slice none 0 0, .int .i64 0, .bool false]
    refine bodyPost_ret (results_row_tmpO (fn := Try.f19) rfl _ _ _ 48 _ _ rfl hb Try.underlying48 rfl (by kernel_rfl)) rfl ?_
    exact ⟨rfl, (Below.refl _ _).alloc (Nat.le_refl _) _⟩
end Go.Proofs.Ytdenfgnkbfbpmaa
