/-
  The reference's Hear, refused.
-/
import Derived.Test.YtmehglliajefaaaC
import Derived.Test.YtmehglliajefaaaK
import Derived.Test.YtmehglliajefaaaL
import Derived.Test.YtmehglliajefaaaM
import Derived.Test.YtmehglliajefaaaN
namespace Go.Proofs.Ytmehglliajefaaa
open Go.RowKit

theorem below_five {B : Nat} {a w : World} {g : Nat} (h : Below B a w) (hg : B ≤ g) (v0 v1 v2 v3 v4 : Value) : Below B a (set5 w g v0 v1 v2 v3 v4) :=
  ((((h.setCell (p := ⟨g, 0, none⟩) hg _).setCell (p := ⟨g, 1, none⟩) hg _).setCell (p := ⟨g, 2, none⟩) hg _).setCell (p := ⟨g, 3, none⟩) hg _).setCell (p := ⟨g, 4, none⟩) hg _

set_option maxRecDepth 20000 in
set_option maxHeartbeats 4000000 in
theorem refHear_no (F : Nat → Prop) (pl base : Nat) (me lan : Int) (l : List PV) (A0 : Option Addr) (c0 : Nat) (frm every dead prio dr bdr now : Int) (A : Option Addr) (n c : Nat) (w : World) (h : RefP w F pl base me lan l A0 c0) (hl0 : 0 ≤ lan) (hl1 : lan ≤ 3)
    (hno : ¬ takes me lan frm every dead dr bdr) :
    Calls Try.prog 11 #[.pointer (some ⟨pl, 0, none⟩), .int .i64 frm, .agg #[.int .i64 every, .int .i64 dead, .int .i64 prio, .int .i64 dr, .int .i64 bdr, .slice A n c], .int .i64 now] w fun r w' =>
      r = .returned (heardV false false false false false) ∧ Below w.heap.size w w' := by
  have HD := hide (decide_eq_false hno)
  have Hh := hide h
  clear h hno
  go_enter Try.func11, Try.ntmps11
  have HB2 := fun (o1 o2 : Obj) => hide (((Below.refl w.heap.size w).alloc (Nat.le_refl _) o1).alloc (by simp) o2)
  have hz : ∀ o1, (w.alloc o1).heap.size = w.heap.size + 1 := fun o1 => by simp
  have HBL := fun o1 cs => hide ((hz o1) ▸ Blk.new (w.alloc o1) 29 cs)
  clear hz
  go_wp2_with fail
  refine (takes_any F pl base me lan l A0 c0 frm every dead prio dr bdr A n c _ (Hh.out.below (HB2 _ _).out) hl0 hl1).mono ?_
  rintro r w1 ⟨rfl, hb1⟩
  have HB := hide (below_call (HB2 _ _).out (HB2 _ _).out.size hb1)
  have HR := hide ((HBL (.cells #[.int .i64 every, .int .i64 dead, .int .i64 prio, .int .i64 dr, .int .i64 bdr, .slice A n c] 24) #[.bool false, .bool false, .bool false, .bool false, .bool false]).out.below hb1 (by simp))
  clear hb1
  obtain ⟨s0, s1, s2, s3, s4, sf⟩ := HR.out.cells5
  rw [HD.out]
  go_wp2_with fail
  have hbf := HR.out.five (.bool false) (.bool false) (.bool false) (.bool false) (.bool false)
  refine bodyPost_ret (results_cell_row (fn := Try.f11) rfl _ _ _ 29 _ (0, 0) _ rfl hbf Try.underlying29 rfl (by kernel_rfl)) rfl ?_
  exact ⟨rfl, below_five HB.out (by omega) _ _ _ _ _⟩
end Go.Proofs.Ytmehglliajefaaa
