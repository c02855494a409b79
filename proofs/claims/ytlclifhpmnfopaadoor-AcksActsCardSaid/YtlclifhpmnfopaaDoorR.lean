/-
  The two objects side by side with a block of the caller's that no call touches; the map told by rows.
-/
import Derived.Test.YtlclifhpmnfopaaDoorO
namespace Go.Proofs.YtlclifhpmnfopaaDoor
open Go.RowKit

def Both2 (w0 wr : World) (pa bm base N : Nat) (rm : List Rw) (px base2 : Nat) (rs : List Rw) (g0 : Nat) (cs : Array Value) : Prop :=
  ∃ (F : Nat → Prop) (f : Int → Value) (G : Nat → Prop) (A : Option Addr) (c : Nat), AckRep wr F pa bm base N (fun x => ofF x rm) f ∧ RefRep wr G px base2 rs A c ∧ (∀ g, F g → ¬ G g) ∧ (∀ g, F g → w0.heap.size ≤ g) ∧ (∀ g, G g → w0.heap.size ≤ g) ∧ Below w0.heap.size w0 wr ∧ Blk wr g0 35 cs ∧ ¬ F g0 ∧ ¬ G g0

section
variable {w0 wr w' : World} {pa bm base N : Nat} {rm : List Rw} {px base2 : Nat} {rs : List Rw} {g0 : Nat} {cs : Array Value}
theorem Both2.frame (h : Both2 w0 wr pa bm base N rm px base2 rs g0 cs) : Below w0.heap.size w0 wr := by obtain ⟨_, _, _, _, _, _, _, _, _, _, hb, _⟩ := h; exact hb
theorem Both2.blk (h : Both2 w0 wr pa bm base N rm px base2 rs g0 cs) : Blk wr g0 35 cs := by obtain ⟨_, _, _, _, _, _, _, _, _, _, _, hb, _⟩ := h; exact hb
theorem Both2.back (h : Both2 w0 wr pa bm base N rm px base2 rs g0 cs) : Both w0 wr pa bm base N (fun x => ofF x rm) px base2 rs := by
  obtain ⟨F, f, G, A, c, h1, h2, h3, h4, h5, h6, _⟩ := h
  exact ⟨F, f, G, A, c, h1, h2, h3, h4, h5, h6⟩
theorem Both.two (h : Both w0 wr pa bm base N (fun x => ofF x rm) px base2 rs) (cs : Array Value) : Both2 w0 (wr.alloc (.cells cs 35)) pa bm base N rm px base2 rs wr.heap.size cs := by
  obtain ⟨F, f, G, A, c, h1, h2, h3, h4, h5, h6⟩ := h
  have hb := (Below.refl wr.heap.size wr).alloc (Nat.le_refl _) (.cells cs 35)
  exact ⟨F, f, G, A, c, h1.below hb, h2.below hb, h3, h4, h5, below0 h6 hb, Blk.new wr 35 cs, fun hg => absurd (h1.lt _ hg) (Nat.lt_irrefl _), fun hg => absurd (h2.lt _ hg) (Nat.lt_irrefl _)⟩
theorem Both2.below (h : Both2 w0 wr pa bm base N rm px base2 rs g0 cs) (hb : Below wr.heap.size wr w') : Both2 w0 w' pa bm base N rm px base2 rs g0 cs := by
  obtain ⟨F, f, G, A, c, h1, h2, h3, h4, h5, h6, h7, h8, h9⟩ := h
  exact ⟨F, f, G, A, c, h1.below hb, h2.below hb, h3, h4, h5, below0 h6 hb, h7.below hb h7.lt, h8, h9⟩
theorem Both2.drew (h : Both2 w0 wr pa bm base N rm px base2 rs g0 cs) : Both2 w0 wr.drew pa bm base N rm px base2 rs g0 cs := h.below (Below.refl _ _).drew
theorem Both2.ack {F : Nat → Prop} {f : Int → Value} {G : Nat → Prop} {A : Option Addr} {c : Nat} {M : Int → List Hd} (h1 : AckRep wr F pa bm base N M f) (h2 : RefRep wr G px base2 rs A c) (h3 : ∀ g, F g → ¬ G g) (h4 : ∀ g, F g → w0.heap.size ≤ g) (h5 : ∀ g, G g → w0.heap.size ≤ g) (h6 : Below w0.heap.size w0 wr)
    (h7 : Blk wr g0 35 cs) (h8 : ¬ F g0) (h9 : ¬ G g0) {N' : Nat} {rm' : List Rw} (hA : AckAt wr F pa bm base N' (fun x => ofF x rm') w') : Both2 w0 w' pa bm base N' rm' px base2 rs g0 cs := by
  obtain ⟨F', f', r1, r2, r3⟩ := hA
  refine ⟨F', f', G, A, c, r1, h2.keep r3 (fun g hg hf => h3 g hf hg), fun g hg hG => ?_, fun g hg => ?_, h5, h6.trans (r3.toBelow h6.size h4), r3.blk h7 h8, fun hg => ?_, h9⟩
  · rcases r2 g hg with hf | hf
    · exact h3 g hf hG
    · have := h2.lt g hG; omega
  · rcases r2 g hg with hf | hf
    · exact h4 g hf
    · have := h6.size; omega
  · rcases r2 g0 hg with hf | hf
    · exact h8 hf
    · have := h7.lt; omega
theorem Both2.ref {F : Nat → Prop} {f : Int → Value} {G : Nat → Prop} {A : Option Addr} {c : Nat} (h1 : AckRep wr F pa bm base N (fun x => ofF x rm) f) (h2 : RefRep wr G px base2 rs A c) (h3 : ∀ g, F g → ¬ G g) (h4 : ∀ g, F g → w0.heap.size ≤ g) (h5 : ∀ g, G g → w0.heap.size ≤ g) (h6 : Below w0.heap.size w0 wr)
    (h7 : Blk wr g0 35 cs) (h8 : ¬ F g0) (h9 : ¬ G g0) {rs' : List Rw} (hA : RefAt wr G px base2 rs' w') : Both2 w0 w' pa bm base N rm px base2 rs' g0 cs := by
  obtain ⟨G', A', c', r1, r2, r3⟩ := hA
  refine ⟨F, f, G', A', c', h1.keep r3 h3, r1, fun g hg hG => ?_, h4, fun g hg => ?_, h6.trans (r3.toBelow h6.size h5), r3.blk h7 h9, h8, fun hg => ?_⟩
  · rcases r2 g hG with hf | hf
    · exact h3 g hg hf
    · have := h1.lt g hg; omega
  · rcases r2 g hg with hf | hf
    · exact h5 g hf
    · have := h6.size; omega
  · rcases r2 g0 hg with hf | hf
    · exact h9 hf
    · have := h7.lt; omega

theorem upd_later (l : Int) (rm : List Rw) (hs : List Hd) : upd (fun x => ofF x rm) l (laterF (ofF l rm) hs) = fun x => ofF x (laterR l rm hs) := by
  funext x
  by_cases e : x = l
  · subst e; rw [upd_same, ofF_laterR]
  · rw [upd_other _ _ e, ofF_laterR_other e]
theorem upd_drop (l : Int) (rm : List Rw) : upd (fun x => ofF x rm) l [] = fun x => ofF x (dropF l rm) := by
  funext x
  by_cases e : x = l
  · subst e; rw [upd_same, ofF_dropF]
  · rw [upd_other _ _ e, ofF_dropF_other e]

theorem two_later (h : Both2 w0 wr pa bm base N rm px base2 rs g0 cs) {l : Int} (hl : Wf l) {A : Option Addr} {n c : Nat} {hs : List Hd} (hr : Reads w0 w0.heap.size 7 A n (heads hs)) (hn : n ≤ 1000) (hN : N ≤ 100000) (hM : rm.length ≤ 100000) :
    Calls Tryd.prog 12 #[.pointer (some ⟨pa, 0, none⟩), .int .i64 l, .slice A n c] wr fun r w' => r = .returned (.int .i64 ((ofF l (laterR l rm hs)).length : Int)) ∧ Both2 w0 w' pa bm base (N + n) (laterR l rm hs) px base2 rs g0 cs := by
  have hb := h.frame
  have hl2 : hs.length = n := by have := hr.1; rw [heads_length] at this; omega
  have hh := h
  obtain ⟨F, f, G, A0, c0, h1, h2, h3, h4, h5, h6, h7, h8, h9⟩ := h
  rcases Nat.eq_zero_or_pos n with rfl | hp
  · obtain rfl : hs = [] := List.eq_nil_of_length_eq_zero hl2
    refine (later_zero pa bm base N _ f F l A c wr hl h1).mono ?_
    rintro r w1 ⟨rfl, hb1⟩
    exact ⟨rfl, hh.below hb1⟩
  · obtain ⟨b, off, rfl, hbb, _⟩ := hr.2 hp
    have hle := ofF_le l rm
    refine (later_any pa bm base N _ f F l _ n c hs wr hl h1 ((hr.below hb).more hb.size) (fun b' off' e => ?_) (by omega) (by omega) (by omega)).mono ?_
    · injection e with e
      injection e with e _
      subst e
      intro hF
      have := h4 _ hF
      omega
    rintro r w1 ⟨rfl, F', f', r1, r2, r3⟩
    rw [List.take_of_length_le (by omega)] at r1
    simp only [upd_later] at r1
    exact ⟨ret_int (by rw [ofF_laterR]), Both2.ack h1 h2 h3 h4 h5 h6 h7 h8 h9 ⟨F', f', r1, r2, r3⟩⟩

theorem two_refLater (h : Both2 w0 wr pa bm base N rm px base2 rs g0 cs) {l : Int} {A : Option Addr} {n c : Nat} {hs : List Hd} (hr : Reads w0 w0.heap.size 7 A n (heads hs)) (hn : n ≤ 1000) (hN : rs.length ≤ 10000) :
    Calls Tryd.prog 13 #[.pointer (some ⟨px, 0, none⟩), .int .i64 l, .slice A n c] wr fun r w' => r = .returned (.int .i64 ((ofF l (laterR l rs hs)).length : Int)) ∧ Both2 w0 w' pa bm base N rm px base2 (laterR l rs hs) g0 cs := by
  have hb := h.frame
  have hl2 : hs.length = n := by have := hr.1; rw [heads_length] at this; omega
  have hh := h
  obtain ⟨F, f, G, A0, c0, h1, h2, h3, h4, h5, h6, h7, h8, h9⟩ := h
  rcases Nat.eq_zero_or_pos n with rfl | hp
  · obtain rfl : hs = [] := List.eq_nil_of_length_eq_zero hl2
    refine (refLater_zero G px base2 l rs A0 c0 A c wr h2 (by omega)).mono ?_
    rintro r w1 ⟨rfl, hb1⟩
    exact ⟨rfl, hh.below hb1⟩
  · obtain ⟨b, off, rfl, hbb, _⟩ := hr.2 hp
    refine (refLater_any G px base2 l rs A0 c0 _ n c hs wr h2 ((hr.below hb).more hb.size) (fun b' off' e => ?_) (by omega) (by omega)).mono ?_
    · injection e with e
      injection e with e _
      subst e
      intro hF
      have := h5 _ hF
      omega
    rintro r w1 ⟨rfl, F', A', c', r1, r2, r3⟩
    rw [List.take_of_length_le (by omega)] at r1
    exact ⟨rfl, Both2.ref h1 h2 h3 h4 h5 h6 h7 h8 h9 ⟨F', A', c', r1, r2, r3⟩⟩

theorem two_len (h : Both2 w0 wr pa bm base N rm px base2 rs g0 cs) {l : Int} (hl : Wf l) :
    Calls Tryd.prog 19 #[.pointer (some ⟨pa, 0, none⟩), .int .i64 l] wr fun r w' => r = .returned (.int .i64 ((ofF l rm).length : Int)) ∧ Both2 w0 w' pa bm base N rm px base2 rs g0 cs := by
  have hh := h
  obtain ⟨F, f, G, A0, c0, h1, h2, h3, h4, h5, h6, h7, h8, h9⟩ := h
  refine (len_any pa bm base N _ f F l wr hl h1).mono ?_
  rintro r w1 ⟨rfl, hb1⟩
  exact ⟨rfl, hh.below hb1⟩

theorem two_of (h : Both2 w0 wr pa bm base N rm px base2 rs g0 cs) (l : Int) (hN : rs.length ≤ 100000) :
    Calls Tryd.prog 16 #[.pointer (some ⟨px, 0, none⟩), .int .i64 l] wr fun r w' => (∃ A c, r = .returned (.slice A (ofF l rs).length c) ∧ w'.ownsRow wr.heap.size 46 7 (.slice A (ofF l rs).length c) (ofF l rs).length (heads (ofF l rs)) ∧ Below wr.heap.size wr w') ∧ Both2 w0 w' pa bm base N rm px base2 rs g0 cs := by
  have hh := h
  obtain ⟨F, f, G, A0, c0, h1, h2, h3, h4, h5, h6, h7, h8, h9⟩ := h
  refine (of_any G px base2 rs A0 c0 l wr h2 (by omega)).mono ?_
  rintro r w1 ⟨v, rfl, A, c, rfl, ho, hb1⟩
  exact ⟨⟨A, c, rfl, ho, hb1⟩, hh.below hb1⟩

theorem two_take (h : Both2 w0 wr pa bm base N rm px base2 rs g0 cs) {l : Int} (hl : Wf l) (hM : rm.length ≤ 100000) :
    Calls Tryd.prog 15 #[.pointer (some ⟨pa, 0, none⟩), .int .i64 l] wr fun r w' => (∃ A' c' vs, r = .returned (.slice A' (((ofF l rm).length + 2) / 3) c') ∧ w'.ownsRow wr.heap.size 33 1 (.slice A' (((ofF l rm).length + 2) / 3) c') (((ofF l rm).length + 2) / 3) vs ∧ PiecesAt w' wr.heap.size vs (ofF l rm) (((ofF l rm).length + 2) / 3)) ∧ Both2 w0 w' pa bm base N (dropF l rm) px base2 rs g0 cs := by
  obtain ⟨F, f, G, A0, c0, h1, h2, h3, h4, h5, h6, h7, h8, h9⟩ := h
  have hle := ofF_le l rm
  refine (take_any pa bm base N _ f F l wr hl h1 (by omega)).mono ?_
  rintro r w1 ⟨A, c, vs, rfl, ho, hP, hA⟩
  rw [upd_drop] at hA
  exact ⟨⟨A, c, vs, rfl, ho, hP⟩, Both2.ack h1 h2 h3 h4 h5 h6 h7 h8 h9 hA⟩

theorem two_drop (h : Both2 w0 wr pa bm base N rm px base2 rs g0 cs) {l : Int} (hl : Wf l) :
    Calls Tryd.prog 18 #[.pointer (some ⟨pa, 0, none⟩), .int .i64 l] wr fun r w' => r = .returned (.int .i64 ((ofF l rm).length : Int)) ∧ Both2 w0 w' pa bm base N (dropF l rm) px base2 rs g0 cs := by
  obtain ⟨F, f, G, A0, c0, h1, h2, h3, h4, h5, h6, h7, h8, h9⟩ := h
  refine (drop_any pa bm base N _ f F l wr hl h1).mono ?_
  rintro r w1 ⟨rfl, hA⟩
  rw [upd_drop] at hA
  exact ⟨rfl, Both2.ack h1 h2 h3 h4 h5 h6 h7 h8 h9 hA⟩

theorem two_refDrop (h : Both2 w0 wr pa bm base N rm px base2 rs g0 cs) (l : Int) (hN : rs.length ≤ 100000) :
    Calls Tryd.prog 17 #[.pointer (some ⟨px, 0, none⟩), .int .i64 l] wr fun r w' => r = .returned (.int .i64 ((ofF l rs).length : Int)) ∧ Both2 w0 w' pa bm base N rm px base2 (dropF l rs) g0 cs := by
  obtain ⟨F, f, G, A0, c0, h1, h2, h3, h4, h5, h6, h7, h8, h9⟩ := h
  refine (refDrop_any G px base2 rs A0 c0 l wr h2 (by omega)).mono ?_
  rintro r w1 ⟨rfl, hA⟩
  refine ⟨ret_int ?_, Both2.ref h1 h2 h3 h4 h5 h6 h7 h8 h9 hA⟩
  have := dropF_length l rs
  omega
end
end Go.Proofs.YtlclifhpmnfopaaDoor
