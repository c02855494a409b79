/-
  Copies as values; slices.Clone over bytes; lan.copied.
-/
import Derived.Test.YtdenfgnkbfbpmaaData
import Derived.Test.YtdenfgnkbfbpmaaKeeps
import Derived.Lib.SliceRun
namespace Go.Proofs.Ytdenfgnkbfbpmaa
open Go.RowKit

def u8sO (bs : List Int) : List Value := bs.map fun b => .int .u8 b
theorem u8s_lengthO (bs : List Int) : (u8sO bs).length = bs.length := by simp [u8sO]
theorem u8s_oneO (bs : List Int) : ∀ u ∈ u8sO bs, u.oneCell' = true := by
  intro u hu
  obtain ⟨b, _, rfl⟩ := List.mem_map.1 hu
  rfl
theorem byte_infoO : (Try.prog.info? 5).map (fun i => (i.zero, i.size, i.bytes)) = some (some (.int .u8 0), 1, 1) := by kernel_rfl

theorem own_baseO {w : World} {base : Nat} {e : TypeId} {size n : Nat} {v : Value} {xs : List Value} (h : w.ownsRow base e size v n xs) {g : Nat} (hg : v.ownBlock = some g) : base ≤ g ∧ g < w.heap.size := by
  rcases h.2 with ⟨rfl, _⟩ | ⟨g', cap, cur, rfl, hb, hh, _⟩
  · simp [Value.ownBlock] at hg
  · have : g' = g := by simpa [Value.ownBlock] using hg
    subst this
    exact ⟨hb, (Array.getElem?_eq_some_iff.1 hh).1⟩
theorem own_monoO {w : World} {base base' : Nat} {e : TypeId} {size n : Nat} {v : Value} {xs : List Value} (h : w.ownsRow base e size v n xs) (hb : base' ≤ base) : w.ownsRow base' e size v n xs := by
  refine ⟨h.1, ?_⟩
  rcases h.2 with h0 | ⟨g, cap, cur, rfl, hg, r⟩
  · exact .inl h0
  · exact .inr ⟨g, cap, cur, rfl, Nat.le_trans hb hg, r⟩

set_option maxRecDepth 20000 in
set_option maxHeartbeats 2000000 in
theorem clone_any (A : Option Addr) (n c : Nat) (bs : List Int) (w : World) (hn : n ≤ 100000) (hnc : A = none → n = 0) (hr : Reads w w.heap.size 1 A n (u8sO bs)) :
    Calls Try.prog 63 #[.slice A n c] w fun r w' => ∃ A' c', r = .returned (.slice A' n c') ∧ w'.ownsRow w.heap.size 5 1 (.slice A' n c') n (u8sO bs) ∧ Below w.heap.size w w' := by
  have hq : ∀ w : World, (binOp .eql 42 (.slice A n c) (.slice none 0 0)).run Try.prog w = .ok (.bool A.isNone) w := fun w => Lib.run_eql_slice_nil w 42 5 A n c 0 0 Try.underlying42
  obtain ⟨i0, hi, hz0, hz1, hz2⟩ := info_parts byte_infoO
  have hown := World.ownsRow_made (e := 5) (size := 1) w #[] 0 (Nat.le_refl _) (Nat.zero_le _) rfl
  go_enter Try.func63, Try.ntmps63
  cases A with
  | none =>
    obtain rfl := hnc rfl
    have hbs := hide (show u8sO bs = [] from List.eq_nil_of_length_eq_zero (by have := hr.1; omega))
    go_wp2
    go_ret
    exact ⟨none, 0, rfl, by rw [hbs.out]; exact World.ownsRow_nil _ _ _ _, Below.refl _ _⟩
  | some A =>
    go_wp2_with (first
      | (at_builtin
         refine wpList_append_any _ rfl (.tmp 5) (.tmp 6) 42 rfl w.heap.size 5 i0 _ 1 1 Try.underlying42 hi hz0 hz1 hz2 rfl (by omega) (.slice (some ⟨w.heap.size, 0, none⟩) 0 0) 0 [] rfl
           hown w.heap.size (some A) n c (u8sO bs) rfl (hr.alloc (Nat.le_refl _) _) (u8s_oneO bs) (by simp only [maxLen]; omega) (by omega) (by simp) ?_
         intro A3 c3 w3 hown3 hg3 hloc3))
    have hb3 : Below w.heap.size w w3 := ((Below.refl _ _).alloc (Nat.le_refl _) _).grown hg3 (by simp) (fun g hg => (own_baseO hown hg).1)
    go_wp2
    go_ret
    exact ⟨A3, c3, rfl, by simpa using hown3, hb3⟩

set_option maxRecDepth 20000 in
set_option maxHeartbeats 2000000 in
theorem copied_anyO (lan frm to for_ : Int) (sp : Bool) (A : Option Addr) (n c : Nat) (bs : List Int) (w : World) (hn : n ≤ 100000) (hnc : A = none → n = 0) (hr : Reads w w.heap.size 1 A n (u8sO bs)) :
    Calls Try.prog 29 #[.agg #[.int .i64 lan, .int .i64 frm, .int .i64 to, .slice A n c, .int .i64 for_, .bool sp]] w fun r w' => ∃ A' c', r = .returned (.agg #[.int .i64 lan, .int .i64 frm, .int .i64 to, .slice A' n c', .int .i64 for_, .bool sp]) ∧ w'.ownsRow w.heap.size 5 1 (.slice A' n c') n (u8sO bs) ∧ Below w.heap.size w w' := by
  go_enter Try.func29, Try.ntmps29
  go_wp2_with fail
  have h1 := Blk.new w 48 #[.int .i64 lan, .int .i64 frm, .int .i64 to, .slice A n c, .int .i64 for_, .bool sp]
  have hB1 := (Below.refl w.heap.size w).alloc (Nat.le_refl _) (.cells #[.int .i64 lan, .int .i64 frm, .int .i64 to, .slice A n c, .int .i64 for_, .bool sp] 48)
  have hz1 : (w.alloc (.cells #[.int .i64 lan, .int .i64 frm, .int .i64 to, .slice A n c, .int .i64 for_, .bool sp] 48)).heap.size = w.heap.size + 1 := by simp
  generalize w.alloc (.cells #[.int .i64 lan, .int .i64 frm, .int .i64 to, .slice A n c, .int .i64 for_, .bool sp] 48) = W1 at h1 hB1 hz1 ⊢
  have h2 := Blk.new W1 48 #[.int .i64 0, .int .i64 0, .int .i64 0, .slice none 0 0, .int .i64 0, .bool false]
  have hB2 := hB1.alloc hB1.size (.cells #[.int .i64 0, .int .i64 0, .int .i64 0, .slice none 0 0, .int .i64 0, .bool false] 48)
  have h1' := h1.alloc (.cells #[.int .i64 0, .int .i64 0, .int .i64 0, .slice none 0 0, .int .i64 0, .bool false] 48)
  have hlt := h1.lt
  rw [hz1] at h2
  have hz2 : (W1.alloc (.cells #[.int .i64 0, .int .i64 0, .int .i64 0, .slice none 0 0, .int .i64 0, .bool false] 48)).heap.size = w.heap.size + 2 := by simp [hz1]
  clear hz1
  generalize W1.alloc (.cells #[.int .i64 0, .int .i64 0, .int .i64 0, .slice none 0 0, .int .i64 0, .bool false] 48) = W2 at h2 h1' hB2 hz2 ⊢
  have HZ := hide hz2
  clear hz2
  have H1 := hide h1'
  have H2 := hide h2
  have HB := hide hB2
  clear h1 h1' h2 hB1 hB2
  refine (clone_any A n c bs _ hn hnc ((hr.below HB.out).more HB.out.size)).mono ?_
  rintro r w3 ⟨A3, c3, rfl, ho3, hb3⟩
  have H1' := H1.out.below hb3 H1.out.lt
  have H2' := H2.out.below hb3 H2.out.lt
  have H3 := hide (⟨ho3, hb3⟩ : w3.ownsRow W2.heap.size 5 1 (.slice A3 n c3) n (u8sO bs) ∧ Below W2.heap.size W2 w3)
  clear ho3 hb3
  have e0 : w3.cell? ⟨w.heap.size, 0, none⟩ = some (.int .i64 lan) := by have := H1'.cell 0; simpa using this
  have e1 : w3.cell? ⟨w.heap.size, 1, none⟩ = some (.int .i64 frm) := by have := H1'.cell 1; simpa using this
  have e2 : w3.cell? ⟨w.heap.size, 2, none⟩ = some (.int .i64 to) := by have := H1'.cell 2; simpa using this
  have e3 : w3.cell? ⟨w.heap.size, 3, none⟩ = some (.slice A n c) := by have := H1'.cell 3; simpa using this
  have e4 : w3.cell? ⟨w.heap.size, 4, none⟩ = some (.int .i64 for_) := by have := H1'.cell 4; simpa using this
  have e5 : w3.cell? ⟨w.heap.size, 5, none⟩ = some (.bool sp) := by have := H1'.cell 5; simpa using this
  have k0 : w3.cell? ⟨w.heap.size + 1, 0, none⟩ = some (.int .i64 0) := by have := H2'.cell 0; simpa using this
  have k1 : w3.cell? ⟨w.heap.size + 1, 1, none⟩ = some (.int .i64 0) := by have := H2'.cell 1; simpa using this
  have k2 : w3.cell? ⟨w.heap.size + 1, 2, none⟩ = some (.int .i64 0) := by have := H2'.cell 2; simpa using this
  have k3 : w3.cell? ⟨w.heap.size + 1, 3, none⟩ = some (.slice none 0 0) := by have := H2'.cell 3; simpa using this
  have k4 : w3.cell? ⟨w.heap.size + 1, 4, none⟩ = some (.int .i64 0) := by have := H2'.cell 4; simpa using this
  have k5 : w3.cell? ⟨w.heap.size + 1, 5, none⟩ = some (.bool false) := by have := H2'.cell 5; simpa using this
  have f1 : ∀ i, w3.frozen? ⟨w.heap.size, i, none⟩ = false := fun i => H1'.frozen i
  have f2 : ∀ i, w3.frozen? ⟨w.heap.size + 1, i, none⟩ = false := fun i => H2'.frozen i
  have HH2 := hide H2'
  clear H1' H2'
  go_wp2_with fail
  have hb1 := (((((((HH2.out.far (p := ⟨w.heap.size, 3, none⟩) (by simp) (.slice A3 n c3)).set_ 0 (.int .i64 lan)).set_ 1 (.int .i64 frm)).set_ 2 (.int .i64 to)).set_ 3 (.slice A3 n c3)).set_ 4 (.int .i64 for_)).set_ 5 (.bool sp))
  have hb1' : Blk (((((((w3.setCell ⟨w.heap.size, 3, none⟩ (.slice A3 n c3)).setCell ⟨w.heap.size + 1, 0, none⟩ (.int .i64 lan)).setCell ⟨w.heap.size + 1, 1, none⟩ (.int .i64 frm)).setCell ⟨w.heap.size + 1, 2, none⟩ (.int .i64 to)).setCell ⟨w.heap.size + 1, 3, none⟩ (.slice A3 n c3)).setCell ⟨w.heap.size + 1, 4, none⟩ (.int .i64 for_)).setCell ⟨w.heap.size + 1, 5, none⟩ (.bool sp)) (w.heap.size + 1) 48 #[.int .i64 lan, .int .i64 frm, .int .i64 to, .slice A3 n c3, .int .i64 for_, .bool sp] := by simpa using hb1
  refine bodyPost_ret (results_cell_row (fn := Try.f29) rfl _ _ _ 48 _ (0, 0) _ rfl hb1' Try.underlying48 rfl (by kernel_rfl)) rfl ?_
  refine ⟨A3, c3, rfl, ?_, ?_⟩
  · have ho := own_monoO H3.out.1 (base' := W2.heap.size) (Nat.le_refl _)
    refine own_monoO ?_ (show w.heap.size ≤ W2.heap.size by rw [HZ.out]; omega)
    have hz := HZ.out
    exact ownsRow_setCell_below (ownsRow_setCell_below (ownsRow_setCell_below (ownsRow_setCell_below (ownsRow_setCell_below (ownsRow_setCell_below (ownsRow_setCell_below ho (a := ⟨w.heap.size, 3, none⟩) (by show w.heap.size < _; omega) _) (a := ⟨w.heap.size + 1, 0, none⟩) (by show w.heap.size + 1 < _; omega) _) (a := ⟨w.heap.size + 1, 1, none⟩) (by show w.heap.size + 1 < _; omega) _) (a := ⟨w.heap.size + 1, 2, none⟩) (by show w.heap.size + 1 < _; omega) _) (a := ⟨w.heap.size + 1, 3, none⟩) (by show w.heap.size + 1 < _; omega) _) (a := ⟨w.heap.size + 1, 4, none⟩) (by show w.heap.size + 1 < _; omega) _) (a := ⟨w.heap.size + 1, 5, none⟩) (by show w.heap.size + 1 < _; omega) _
  · have hb := below_call HB.out HB.out.size H3.out.2
    exact ((((((hb.setCell (p := ⟨w.heap.size, 3, none⟩) (Nat.le_refl _) _).setCell (p := ⟨w.heap.size + 1, 0, none⟩) (by simp) _).setCell (p := ⟨w.heap.size + 1, 1, none⟩) (by simp) _).setCell (p := ⟨w.heap.size + 1, 2, none⟩) (by simp) _).setCell (p := ⟨w.heap.size + 1, 3, none⟩) (by simp) _).setCell (p := ⟨w.heap.size + 1, 4, none⟩) (by simp) _).setCell (p := ⟨w.heap.size + 1, 5, none⟩) (by simp) _
end Go.Proofs.Ytdenfgnkbfbpmaa
