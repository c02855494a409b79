/-
  The two objects side by side, and each call on them.
-/
import Derived.Test.YtlclifhpmnfopaaDoorM
namespace Go.Proofs.YtlclifhpmnfopaaDoor
open Go.RowKit

set_option maxHeartbeats 1000000 in
theorem later_zero (pa bm base N : Nat) (M : Int → List Hd) (f : Int → Value) (F : Nat → Prop) (l : Int) (A : Option Addr) (c : Nat) (w : World) (hl : Wf l) (h : AckRep w F pa bm base N M f) :
    Calls Tryd.prog 12 #[.pointer (some ⟨pa, 0, none⟩), .int .i64 l, .slice A 0 c] w fun r w' => r = .returned (.int .i64 ((M l).length : Int)) ∧ Below w.heap.size w w' := by
  obtain ⟨A1, c1, _, hrun, _⟩ := h.look hl
  have hc0 : w.cell? ⟨pa, 0, none⟩ = some (.map (some bm)) := by have := h.box.cell 0; simpa using this
  clear h
  go_enter Tryd.func12, Tryd.ntmps12
  go_wp2_with fail
  go_loopw [13] (fun i wr => i = .int .i64 0 ∧ wr = w) (fun i _ => 0)
  case atStart => exact ⟨rfl, rfl⟩
  case round =>
    obtain ⟨rfl, rfl⟩ := hrel
    go_wp2
    go_ret
    exact ⟨rfl, Below.refl _ _⟩

set_option maxHeartbeats 1000000 in
theorem refLater_zero (F : Nat → Prop) (px base : Nat) (l : Int) (rs : List Rw) (A0 : Option Addr) (c0 : Nat) (A : Option Addr) (c : Nat) (w : World) (h : RefRep w F px base rs A0 c0) (hN : rs.length ≤ 100000) :
    Calls Tryd.prog 13 #[.pointer (some ⟨px, 0, none⟩), .int .i64 l, .slice A 0 c] w fun r w' => r = .returned (.int .i64 ((ofF l rs).length : Int)) ∧ Below w.heap.size w w' := by
  go_enter Tryd.func13, Tryd.ntmps13
  go_wp2_with fail
  go_loopw [7] (fun i wr => i = .int .i64 0 ∧ wr = w) (fun i _ => 0)
  case atStart => exact ⟨rfl, rfl⟩
  case round =>
    obtain ⟨rfl, rfl⟩ := hrel
    go_wp2_with fail
    refine (of_any _ _ _ _ _ _ l _ h (by omega)).mono ?_
    rintro r w1 ⟨v, rfl, A1, c1, rfl, _, hB1⟩
    go_wp2
    go_ret
    exact ⟨rfl, hB1⟩

/-- Both objects, all of their blocks from w0's end on. -/
def Both (w0 wr : World) (pa bm base N : Nat) (M : Int → List Hd) (px base2 : Nat) (rs : List Rw) : Prop :=
  ∃ (F : Nat → Prop) (f : Int → Value) (G : Nat → Prop) (A : Option Addr) (c : Nat), AckRep wr F pa bm base N M f ∧ RefRep wr G px base2 rs A c ∧ (∀ g, F g → ¬ G g) ∧ (∀ g, F g → w0.heap.size ≤ g) ∧ (∀ g, G g → w0.heap.size ≤ g) ∧ Below w0.heap.size w0 wr

section
variable {w0 wr w' : World} {pa bm base N : Nat} {M : Int → List Hd} {px base2 : Nat} {rs : List Rw}
theorem Both.frame (h : Both w0 wr pa bm base N M px base2 rs) : Below w0.heap.size w0 wr := by obtain ⟨_, _, _, _, _, _, _, _, _, _, hb⟩ := h; exact hb
theorem Both.below (h : Both w0 wr pa bm base N M px base2 rs) (hb : Below wr.heap.size wr w') : Both w0 w' pa bm base N M px base2 rs := by
  obtain ⟨F, f, G, A, c, h1, h2, h3, h4, h5, h6⟩ := h
  exact ⟨F, f, G, A, c, h1.below hb, h2.below hb, h3, h4, h5, below0 h6 hb⟩
theorem Both.ack {F : Nat → Prop} {f : Int → Value} {G : Nat → Prop} {A : Option Addr} {c : Nat} (h1 : AckRep wr F pa bm base N M f) (h2 : RefRep wr G px base2 rs A c) (h3 : ∀ g, F g → ¬ G g) (h4 : ∀ g, F g → w0.heap.size ≤ g) (h5 : ∀ g, G g → w0.heap.size ≤ g) (h6 : Below w0.heap.size w0 wr)
    {N' : Nat} {M' : Int → List Hd} (hA : AckAt wr F pa bm base N' M' w') : Both w0 w' pa bm base N' M' px base2 rs := by
  obtain ⟨F', f', r1, r2, r3⟩ := hA
  refine ⟨F', f', G, A, c, r1, h2.keep r3 (fun g hg hf => h3 g hf hg), fun g hg hG => ?_, fun g hg => ?_, h5, h6.trans (r3.toBelow h6.size h4)⟩
  · rcases r2 g hg with hf | hf
    · exact h3 g hf hG
    · have := h2.lt g hG; omega
  · rcases r2 g hg with hf | hf
    · exact h4 g hf
    · have := h6.size; omega
theorem Both.ref {F : Nat → Prop} {f : Int → Value} {G : Nat → Prop} {A : Option Addr} {c : Nat} (h1 : AckRep wr F pa bm base N M f) (h2 : RefRep wr G px base2 rs A c) (h3 : ∀ g, F g → ¬ G g) (h4 : ∀ g, F g → w0.heap.size ≤ g) (h5 : ∀ g, G g → w0.heap.size ≤ g) (h6 : Below w0.heap.size w0 wr)
    {rs' : List Rw} (hA : RefAt wr G px base2 rs' w') : Both w0 w' pa bm base N M px base2 rs' := by
  obtain ⟨G', A', c', r1, r2, r3⟩ := hA
  refine ⟨F, f, G', A', c', h1.keep r3 h3, r1, fun g hg hG => ?_, h4, fun g hg => ?_, h6.trans (r3.toBelow h6.size h5)⟩
  · rcases r2 g hG with hf | hf
    · exact h3 g hg hf
    · have := h1.lt g hg; omega
  · rcases r2 g hg with hf | hf
    · exact h5 g hf
    · have := h6.size; omega

theorem both_later (h : Both w0 wr pa bm base N M px base2 rs) {l : Int} (hl : Wf l) {A : Option Addr} {n c : Nat} {hs : List Hd} (hr : Reads w0 w0.heap.size 7 A n (heads hs)) (hn : n ≤ 1000) (hN : N ≤ 100000) (hM : (M l).length ≤ 100000) :
    Calls Tryd.prog 12 #[.pointer (some ⟨pa, 0, none⟩), .int .i64 l, .slice A n c] wr fun r w' => r = .returned (.int .i64 ((laterF (M l) hs).length : Int)) ∧ Both w0 w' pa bm base (N + n) (upd M l (laterF (M l) hs)) px base2 rs := by
  have hb := h.frame
  have hl2 : hs.length = n := by have := hr.1; rw [heads_length] at this; omega
  have hh := h
  obtain ⟨F, f, G, A0, c0, h1, h2, h3, h4, h5, h6⟩ := h
  rcases Nat.eq_zero_or_pos n with rfl | hp
  · obtain rfl : hs = [] := List.eq_nil_of_length_eq_zero hl2
    refine (later_zero pa bm base N M f F l A c wr hl h1).mono ?_
    rintro r w1 ⟨rfl, hb1⟩
    refine ⟨rfl, ?_⟩
    show Both w0 w1 pa bm base N (upd M l (M l)) px base2 rs
    rw [upd_self]
    exact hh.below hb1
  · obtain ⟨b, off, rfl, hbb, _⟩ := hr.2 hp
    refine (later_any pa bm base N M f F l _ n c hs wr hl h1 ((hr.below hb).more hb.size) (fun b' off' e => ?_) (by omega) (by omega) (by omega)).mono ?_
    · injection e with e
      injection e with e _
      subst e
      intro hF
      have := h4 _ hF
      omega
    rintro r w1 ⟨rfl, F', f', r1, r2, r3⟩
    rw [List.take_of_length_le (by omega)] at r1
    exact ⟨rfl, Both.ack h1 h2 h3 h4 h5 h6 ⟨F', f', r1, r2, r3⟩⟩

theorem both_refLater (h : Both w0 wr pa bm base N M px base2 rs) {l : Int} {A : Option Addr} {n c : Nat} {hs : List Hd} (hr : Reads w0 w0.heap.size 7 A n (heads hs)) (hn : n ≤ 1000) (hN : rs.length ≤ 10000) :
    Calls Tryd.prog 13 #[.pointer (some ⟨px, 0, none⟩), .int .i64 l, .slice A n c] wr fun r w' => r = .returned (.int .i64 ((ofF l (laterR l rs hs)).length : Int)) ∧ Both w0 w' pa bm base N M px base2 (laterR l rs hs) := by
  have hb := h.frame
  have hl2 : hs.length = n := by have := hr.1; rw [heads_length] at this; omega
  have hh := h
  obtain ⟨F, f, G, A0, c0, h1, h2, h3, h4, h5, h6⟩ := h
  rcases Nat.eq_zero_or_pos n with rfl | hp
  · obtain rfl : hs = [] := List.eq_nil_of_length_eq_zero hl2
    refine (refLater_zero G px base2 l rs A0 c0 A c wr h2 (by omega)).mono ?_
    rintro r w1 ⟨rfl, hb1⟩
    exact ⟨rfl, hh.below hb1⟩
  · obtain ⟨b, off, rfl, hbb, _⟩ := hr.2 hp
    refine (refLater_any G px base2 l rs A0 c0 _ n c hs wr h2 ((hr.below hb).more hb.size) (fun b' off' e => ?_) (by omega) (by omega)).mono ?_
    · injection e with e
      injection e with e _
      subst e
      intro hF
      have := h5 _ hF
      omega
    rintro r w1 ⟨rfl, F', A', c', r1, r2, r3⟩
    rw [List.take_of_length_le (by omega)] at r1
    exact ⟨rfl, Both.ref h1 h2 h3 h4 h5 h6 ⟨F', A', c', r1, r2, r3⟩⟩

theorem both_len (h : Both w0 wr pa bm base N M px base2 rs) {l : Int} (hl : Wf l) :
    Calls Tryd.prog 19 #[.pointer (some ⟨pa, 0, none⟩), .int .i64 l] wr fun r w' => r = .returned (.int .i64 ((M l).length : Int)) ∧ Both w0 w' pa bm base N M px base2 rs := by
  have hh := h
  obtain ⟨F, f, G, A0, c0, h1, h2, h3, h4, h5, h6⟩ := h
  refine (len_any pa bm base N M f F l wr hl h1).mono ?_
  rintro r w1 ⟨rfl, hb1⟩
  exact ⟨rfl, hh.below hb1⟩

theorem both_of (h : Both w0 wr pa bm base N M px base2 rs) (l : Int) (hN : rs.length ≤ 100000) :
    Calls Tryd.prog 16 #[.pointer (some ⟨px, 0, none⟩), .int .i64 l] wr fun r w' => (∃ A c, r = .returned (.slice A (ofF l rs).length c) ∧ w'.ownsRow wr.heap.size 46 7 (.slice A (ofF l rs).length c) (ofF l rs).length (heads (ofF l rs)) ∧ Below wr.heap.size wr w') ∧ Both w0 w' pa bm base N M px base2 rs := by
  have hh := h
  obtain ⟨F, f, G, A0, c0, h1, h2, h3, h4, h5, h6⟩ := h
  refine (of_any G px base2 rs A0 c0 l wr h2 (by omega)).mono ?_
  rintro r w1 ⟨v, rfl, A, c, rfl, ho, hb1⟩
  exact ⟨⟨A, c, rfl, ho, hb1⟩, hh.below hb1⟩

theorem both_take (h : Both w0 wr pa bm base N M px base2 rs) {l : Int} (hl : Wf l) (hM : (M l).length ≤ 100000) :
    Calls Tryd.prog 15 #[.pointer (some ⟨pa, 0, none⟩), .int .i64 l] wr fun r w' => (∃ A' c' vs, r = .returned (.slice A' (((M l).length + 2) / 3) c') ∧ w'.ownsRow wr.heap.size 33 1 (.slice A' (((M l).length + 2) / 3) c') (((M l).length + 2) / 3) vs ∧ PiecesAt w' wr.heap.size vs (M l) (((M l).length + 2) / 3)) ∧ Both w0 w' pa bm base N (upd M l []) px base2 rs := by
  obtain ⟨F, f, G, A0, c0, h1, h2, h3, h4, h5, h6⟩ := h
  refine (take_any pa bm base N M f F l wr hl h1 hM).mono ?_
  rintro r w1 ⟨A, c, vs, rfl, ho, hP, hA⟩
  exact ⟨⟨A, c, vs, rfl, ho, hP⟩, Both.ack h1 h2 h3 h4 h5 h6 hA⟩

theorem both_drop (h : Both w0 wr pa bm base N M px base2 rs) {l : Int} (hl : Wf l) :
    Calls Tryd.prog 18 #[.pointer (some ⟨pa, 0, none⟩), .int .i64 l] wr fun r w' => r = .returned (.int .i64 ((M l).length : Int)) ∧ Both w0 w' pa bm base N (upd M l []) px base2 rs := by
  obtain ⟨F, f, G, A0, c0, h1, h2, h3, h4, h5, h6⟩ := h
  refine (drop_any pa bm base N M f F l wr hl h1).mono ?_
  rintro r w1 ⟨rfl, hA⟩
  exact ⟨rfl, Both.ack h1 h2 h3 h4 h5 h6 hA⟩

theorem both_refDrop (h : Both w0 wr pa bm base N M px base2 rs) (l : Int) (hN : rs.length ≤ 100000) :
    Calls Tryd.prog 17 #[.pointer (some ⟨px, 0, none⟩), .int .i64 l] wr fun r w' => r = .returned (.int .i64 ((ofF l rs).length : Int)) ∧ Both w0 w' pa bm base N M px base2 (dropF l rs) := by
  obtain ⟨F, f, G, A0, c0, h1, h2, h3, h4, h5, h6⟩ := h
  refine (refDrop_any G px base2 rs A0 c0 l wr h2 (by omega)).mono ?_
  rintro r w1 ⟨rfl, hA⟩
  refine ⟨ret_int ?_, Both.ref h1 h2 h3 h4 h5 h6 hA⟩
  have := dropF_length l rs
  omega
end
end Go.Proofs.YtlclifhpmnfopaaDoor
