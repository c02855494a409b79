/-
  Frames by footprints: 'Keeps F w w'': but for the blocks that F names, and new ones, nothing has turned. No statement is proved here.
-/
import Derived.Test.YtdenfgnkbfbpmaaKit
namespace Go.Proofs.Ytdenfgnkbfbpmaa
open Go.RowKit

theorem below0 {a w w' : World} (h : Below a.heap.size a w) (h' : Below w.heap.size w w') : Below a.heap.size a w' := h.trans (h'.mono h.size)

structure Keeps (F : Nat → Prop) (w w' : World) : Prop where
  os : w'.os = w.os
  tape : w'.tape = w.tape
  output : w'.output = w.output
  size : w.heap.size ≤ w'.heap.size
  block : ∀ k, k < w.heap.size → ¬ F k → w'.heap[k]? = w.heap[k]?

section
variable {F G : Nat → Prop} {a b w w' : World}
theorem Keeps.refl (F : Nat → Prop) (w : World) : Keeps F w w := ⟨rfl, rfl, rfl, Nat.le_refl _, fun _ _ _ => rfl⟩
theorem Keeps.trans (h : Keeps F a b) (k : Keeps G b w) (hG : ∀ g, G g → F g ∨ a.heap.size ≤ g) : Keeps F a w :=
  ⟨k.os.trans h.os, k.tape.trans h.tape, k.output.trans h.output, Nat.le_trans h.size k.size, fun i hi hF => (k.block i (Nat.lt_of_lt_of_le hi h.size) (fun hg => (hG i hg).elim hF (fun h' => by omega))).trans (h.block i hi hF)⟩
theorem Keeps.trans0 (h : Keeps F a b) (k : Keeps F b w) : Keeps F a w := h.trans k fun _ h => .inl h
theorem Keeps.mono (h : Keeps F a b) (hG : ∀ g, F g → g < a.heap.size → G g) : Keeps G a b :=
  ⟨h.os, h.tape, h.output, h.size, fun i hi hn => h.block i hi (fun hf => hn (hG i hf hi))⟩
theorem Keeps.of_below (h : Below a.heap.size a b) : Keeps F a b := ⟨h.os, h.tape, h.output, h.size, fun i hi _ => h.block i hi⟩
theorem Keeps.below (h : Keeps F a b) (k : Below b.heap.size b w) : Keeps F a w := h.trans (Keeps.of_below (F := F) k) fun _ h => .inl h
theorem Keeps.alloc (h : Keeps F a w) (o : Obj) : Keeps F a (w.alloc o) := h.below ((Below.refl _ _).alloc (Nat.le_refl _) o)
theorem Keeps.drew (h : Keeps F a w) : Keeps F a w.drew := ⟨h.os, h.tape, h.output, h.size, h.block⟩
theorem Keeps.drewN (h : Keeps F a w) (n : Nat) : Keeps F a (w.drewN n) := ⟨h.os, h.tape, h.output, h.size, h.block⟩
theorem Keeps.setCell (h : Keeps F a w) {p : Addr} (hp : F p.block ∨ a.heap.size ≤ p.block) (u : Value) : Keeps F a (w.setCell p u) :=
  ⟨h.os, h.tape, h.output, by simpa [World.setCell] using h.size, fun i hi hn => (Below.heap_setCell w p u i (by
    rintro rfl
    rcases hp with hp | hp
    · exact hn hp
    · omega)).trans (h.block i hi hn)⟩
theorem Keeps.grown (h : Keeps F a w) {row : Option Nat} (hg : w.grownBy w' row) (hr : ∀ g, row = some g → F g ∨ a.heap.size ≤ g) : Keeps F a w' :=
  ⟨hg.os.trans h.os, hg.tape.trans h.tape, hg.output.trans h.output, Nat.le_trans h.size hg.size, fun i hi hn => (hg.block i (Nat.lt_of_lt_of_le hi h.size) (fun e => (hr i e.symm).elim hn (fun h' => by omega))).trans (h.block i hi hn)⟩
theorem Keeps.toBelow (h : Keeps F a w) {B : Nat} (hB : B ≤ a.heap.size) (hF : ∀ g, F g → B ≤ g) : Below B a w :=
  ⟨h.os, h.tape, h.output, h.size, fun i hi => h.block i (by omega) (fun hf => by have := hF i hf; omega)⟩

theorem Keeps.cell (h : Keeps F a w) {p : Addr} (hlt : p.block < a.heap.size) (hn : ¬ F p.block) : w.cell? p = a.cell? p := World.cell?_of_block (w := a) (h.block _ hlt hn)
theorem Keeps.blk (h : Keeps F a w) {g : Nat} {t : TypeId} {cs : Array Value} (hb : Blk a g t cs) (hn : ¬ F g) : Blk w g t cs := (h.block g hb.lt hn).trans hb
theorem Keeps.own (h : Keeps F a w) {base : Nat} {e : TypeId} {size n : Nat} {v : Value} {xs : List Value} (ho : a.ownsRow base e size v n xs) (hn : ∀ g, v.ownBlock = some g → ¬ F g) : w.ownsRow base e size v n xs := by
  refine ⟨ho.1, ?_⟩
  rcases ho.2 with h0 | ⟨g, cap, cur, rfl, hb, hh, r⟩
  · exact .inl h0
  · exact .inr ⟨g, cap, cur, rfl, hb, (h.block g (Array.getElem?_eq_some_iff.1 hh).1 (hn g rfl)).trans hh, r⟩
theorem Keeps.reads (h : Keeps F a w) {B size n : Nat} {A : Option Addr} {xs : List Value} (hr : Reads a B size A n xs) (hB : B ≤ a.heap.size) (hn : ∀ b off, A = some ⟨b, off, none⟩ → ¬ F b) : Reads w B size A n xs :=
  ⟨hr.1, fun hp => by
    obtain ⟨b, off, e, hb, hc⟩ := hr.2 hp
    exact ⟨b, off, e, hb, fun j u hu => (h.cell (p := ⟨b, off + j, none⟩) (by exact Nat.lt_of_lt_of_le hb hB) (hn b off e)).trans (hc j u hu)⟩⟩
end
end Go.Proofs.Ytdenfgnkbfbpmaa
