/-
  The reference's Takes, Late, Cands, Drop, Set.
-/
import Derived.Test.YtmehglliajefaaaJ
namespace Go.Proofs.Ytmehglliajefaaa
open Go.RowKit

theorem on_at (l a : Int) (b : Bool) (hb : decide (okA l a) = b) (h0 : 0 ≤ l) (h1 : l ≤ 3) (w : World) : Calls Try.prog 38 #[.int .i64 l, .int .i64 a] w fun r w' => r = .returned (.bool b) ∧ w' = w := by
  subst hb
  exact on_any l a h0 h1 w

set_option maxRecDepth 20000 in
set_option maxHeartbeats 8000000 in
theorem takes_any (F : Nat → Prop) (pl base : Nat) (me lan : Int) (l : List PV) (A0 : Option Addr) (c0 : Nat) (frm every dead prio dr bdr : Int) (A : Option Addr) (n c : Nat) (w : World) (h : RefP w F pl base me lan l A0 c0) (hl0 : 0 ≤ lan) (hl1 : lan ≤ 3) :
    Calls Try.prog 29 #[.pointer (some ⟨pl, 0, none⟩), .int .i64 frm, .agg #[.int .i64 every, .int .i64 dead, .int .i64 prio, .int .i64 dr, .int .i64 bdr, .slice A n c]] w fun r w' =>
      r = .returned (.bool (decide (takes me lan frm every dead dr bdr))) ∧ Below w.heap.size w w' := by
  obtain ⟨p0, p1, _⟩ := h.cells
  have hplt := h.box.lt
  clear h
  have hcut : frm < 1 ∨ (1 ≤ frm ∧ 15 < frm) ∨ (1 ≤ frm ∧ frm ≤ 15 ∧ frm = me) ∨ (1 ≤ frm ∧ frm ≤ 15 ∧ frm ≠ me ∧ every ≠ 2) ∨ (1 ≤ frm ∧ frm ≤ 15 ∧ frm ≠ me ∧ every = 2 ∧ dead ≠ 8) ∨ (1 ≤ frm ∧ frm ≤ 15 ∧ frm ≠ me ∧ every = 2 ∧ dead = 8) := by omega
  have fin : ∀ {b : Bool} {w' : World}, decide (takes me lan frm every dead dr bdr) = b → Below w.heap.size w w' → (Ending.returned (.bool b) = .returned (.bool (decide (takes me lan frm every dead dr bdr))) ∧ Below w.heap.size w w') := fun h1 h2 => ⟨by rw [h1], h2⟩
  have HB := fun (o : Obj) (d : Nat) => hide (below_drewN (below_new w o) d)
  rcases hcut with h1 | ⟨h1, h2⟩ | ⟨h1, h2, h3⟩ | ⟨h1, h2, h3, h4⟩ | ⟨h1, h2, h3, h4, h5⟩ | ⟨h1, h2, h3, h4, h5⟩
  · have HD := hide (show decide (takes me lan frm every dead dr bdr) = false from decide_eq_false (fun h => by have := h.2.1; omega))
    have q1 : decide (1 ≤ frm) = false := by simpa using h1
    clear h1
    go_enter Try.func29, Try.ntmps29
    go_wp2_with fail
    go_quiet (fail)
    go_wp2_with fail
    go_ret
    exact fin HD.out (HB _ _).out
  · have HD := hide (show decide (takes me lan frm every dead dr bdr) = false from decide_eq_false (fun h => by have := h.2.2.1; omega))
    have q1 : decide (1 ≤ frm) = true := by simpa using h1
    have q2 : decide (frm ≤ 15) = false := by simpa using h2
    clear h1 h2
    go_enter Try.func29, Try.ntmps29
    go_wp2_with fail
    go_quiet (fail)
    go_wp2_with fail
    go_ret
    exact fin HD.out (HB _ _).out
  · have HD := hide (show decide (takes me lan frm every dead dr bdr) = false from decide_eq_false (fun h => h.1 h3))
    have q1 : decide (1 ≤ frm) = true := by simpa using h1
    have q2 : decide (frm ≤ 15) = true := by simpa using h2
    have q3 : (frm != me) = false := by simpa using h3
    clear h1 h2 h3
    go_enter Try.func29, Try.ntmps29
    go_wp2_with fail
    go_quiet (fail)
    go_wp2_with fail
    go_ret
    exact fin HD.out (HB _ _).out
  · have HD := hide (show decide (takes me lan frm every dead dr bdr) = false from decide_eq_false (fun h => h4 h.2.2.2.1))
    have q1 : decide (1 ≤ frm) = true := by simpa using h1
    have q2 : decide (frm ≤ 15) = true := by simpa using h2
    have q3 : (frm != me) = true := by simpa using h3
    have q4 : (every == 2) = false := by simpa using h4
    clear h1 h2 h3 h4
    go_enter Try.func29, Try.ntmps29
    go_wp2_with fail
    go_quiet (fail)
    go_wp2_with fail
    go_ret
    exact fin HD.out (HB _ _).out
  · have HD := hide (show decide (takes me lan frm every dead dr bdr) = false from decide_eq_false (fun h => h5 h.2.2.2.2.1))
    have q1 : decide (1 ≤ frm) = true := by simpa using h1
    have q2 : decide (frm ≤ 15) = true := by simpa using h2
    have q3 : (frm != me) = true := by simpa using h3
    have q4 : (every == 2) = true := by simpa using h4
    have q5 : (dead == 8) = false := by simpa using h5
    clear h1 h2 h3 h4 h5
    go_enter Try.func29, Try.ntmps29
    go_wp2_with fail
    go_quiet (fail)
    go_wp2_with fail
    go_ret
    exact fin HD.out (HB _ _).out
  · have q1 : decide (1 ≤ frm) = true := by simpa using h1
    have q2 : decide (frm ≤ 15) = true := by simpa using h2
    have q3 : (frm != me) = true := by simpa using h3
    have q4 : (every == 2) = true := by simpa using h4
    have q5 : (dead == 8) = true := by simpa using h5
    by_cases hdr : okA lan dr
    · have HDR := hide (decide_eq_true hdr)
      by_cases hbdr : okA lan bdr
      · have HBD := hide (decide_eq_true hbdr)
        have HD := hide (show decide (takes me lan frm every dead dr bdr) = true from decide_eq_true ⟨h3, h1, h2, h4, h5, hdr, hbdr⟩)
        clear h1 h2 h3 h4 h5 hdr hbdr
        go_enter Try.func29, Try.ntmps29
        go_wp2_with fail
        go_quiet ((go_at_call 38; exact Calls.quiet_of_same (on_at _ _ _ (by first | exact HDR.out | exact HBD.out) hl0 hl1 _)))
        go_wp2_with fail
        go_ret
        exact fin HD.out (HB _ _).out
      · have HBD := hide (decide_eq_false hbdr)
        have HD := hide (show decide (takes me lan frm every dead dr bdr) = false from decide_eq_false (fun h => hbdr h.2.2.2.2.2.2))
        clear h1 h2 h3 h4 h5 hdr hbdr
        go_enter Try.func29, Try.ntmps29
        go_wp2_with fail
        go_quiet ((go_at_call 38; exact Calls.quiet_of_same (on_at _ _ _ (by first | exact HDR.out | exact HBD.out) hl0 hl1 _)))
        go_wp2_with fail
        go_ret
        exact fin HD.out (HB _ _).out
    · have HDR := hide (decide_eq_false hdr)
      have HD := hide (show decide (takes me lan frm every dead dr bdr) = false from decide_eq_false (fun h => hdr h.2.2.2.2.2.1))
      clear h1 h2 h3 h4 h5 hdr
      go_enter Try.func29, Try.ntmps29
      go_wp2_with fail
      go_quiet ((go_at_call 38; exact Calls.quiet_of_same (on_at lan dr false HDR.out hl0 hl1 _)))
      go_wp2_with fail
      go_ret
      exact fin HD.out (HB _ _).out
end Go.Proofs.Ytmehglliajefaaa
