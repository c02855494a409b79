/-
  Slices of entries, opened to their cells.
-/
import Derived.Test.YtgfpikelbemkiaaG
namespace Go.Proofs.Ytgfpikelbemkiaa
open Go.RowKit Go.ChangeShapes Go.WideShapes
section
variable {H : Type} {enc : TypeId × Value → H} {w : World} {base : Nat} {sp : Nat → Bool} {held : Bool}
theorem c27 : Try.prog.cellsOf 27 = 4 := by kernel_rfl
theorem entry_open {m : Nat} {cs : List Value} {x : DataW H × List MemPlace} (h : DataW.trod enc Try.prog w base sp held m 27 cs = some x) : ∃ a : EV, cs = a.cells ∧ True := by
  obtain ⟨lf, _, _⟩ := flat_read 8 m 27 [some .i64, some .i64, some .i64, some .i64] cs x (by kernel_rfl) h
  obtain ⟨y0, r0, rfl, _, lf1⟩ := AllLeaf.int_ lf
  obtain ⟨y1, r1, rfl, _, lf2⟩ := AllLeaf.int_ lf1
  obtain ⟨y2, r2, rfl, _, lf3⟩ := AllLeaf.int_ lf2
  obtain ⟨y3, r3, rfl, _, lf4⟩ := AllLeaf.int_ lf3
  obtain rfl := AllLeaf.nil_ lf4
  exact ⟨⟨y0, y1, y2, y3⟩, rfl, trivial⟩
theorem entries_open {m : Nat} {A : Option Addr} {n c : Nat} {x : DataW H × List MemPlace} (h : DataW.trod enc Try.prog w base sp held m 24 [.slice A n c] = some x) : ∃ l, RowAt EV.cells 4 w A n l ∧ ∀ a ∈ l, True :=
  rows_open EV.cells (fun _ => True) 24 27 4 Try.underlying24 c27 (by omega) (fun _ => rfl) (fun _ _ _ _ h => entry_open h) h
end
end Go.Proofs.Ytgfpikelbemkiaa
