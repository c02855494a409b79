/-
  Heads as seven integers; slices.Index and slices.Contains over heads.
-/
import Derived.Test.YtlclifhpmnfopaaDoorMap
import Derived.Test.YtlclifhpmnfopaaDoorData
namespace Go.Proofs.YtlclifhpmnfopaaDoor
open Go.RowKit

abbrev Hd : Type := Int × Int × Int × Int × Int × Int × Int
def Hd.vals (h : Hd) : List Value := [.int .i64 h.1, .int .i64 h.2.1, .int .i64 h.2.2.1, .int .i64 h.2.2.2.1, .int .i64 h.2.2.2.2.1, .int .i64 h.2.2.2.2.2.1, .int .i64 h.2.2.2.2.2.2]
abbrev Hd.agg (h : Hd) : Value := .agg #[.int .i64 h.1, .int .i64 h.2.1, .int .i64 h.2.2.1, .int .i64 h.2.2.2.1, .int .i64 h.2.2.2.2.1, .int .i64 h.2.2.2.2.2.1, .int .i64 h.2.2.2.2.2.2]
def heads (l : List Hd) : List Value := l.flatMap Hd.vals
theorem heads_append (a b : List Hd) : heads (a ++ b) = heads a ++ heads b := by simp [heads]
theorem heads_length (l : List Hd) : (heads l).length = l.length * 7 := by
  induction l with
  | nil => rfl
  | cons h l ih => simp only [heads, List.flatMap_cons, List.length_append] at ih ⊢; rw [ih]; simp [Hd.vals]; omega
theorem heads_at (l : List Hd) (k j : Nat) (h : Hd) (hk : l[k]? = some h) (hj : j < 7) : (heads l)[k * 7 + j]? = h.vals[j]? := by
  induction l generalizing k with
  | nil => simp at hk
  | cons x l ih =>
    cases k with
    | zero =>
      simp only [List.getElem?_cons_zero, Option.some.injEq] at hk
      subst hk
      simp only [heads, List.flatMap_cons, Nat.zero_mul, Nat.zero_add]
      rw [List.getElem?_append_left (by simpa [Hd.vals] using hj)]
    | succ k =>
      simp only [List.getElem?_cons_succ] at hk
      have := ih k hk
      simp only [heads, List.flatMap_cons] at this ⊢
      rw [List.getElem?_append_right (by simp [Hd.vals]; omega), ← this]
      congr 1
      simp [Hd.vals]
      omega

/-- The seven cells of element k. -/
def HdAt (w : World) (b o : Nat) (h : Hd) : Prop :=
  w.cell? ⟨b, o, none⟩ = some (.int .i64 h.1) ∧ w.cell? ⟨b, o + 1, none⟩ = some (.int .i64 h.2.1) ∧ w.cell? ⟨b, o + 2, none⟩ = some (.int .i64 h.2.2.1) ∧ w.cell? ⟨b, o + 3, none⟩ = some (.int .i64 h.2.2.2.1) ∧
  w.cell? ⟨b, o + 4, none⟩ = some (.int .i64 h.2.2.2.2.1) ∧ w.cell? ⟨b, o + 5, none⟩ = some (.int .i64 h.2.2.2.2.2.1) ∧ w.cell? ⟨b, o + 6, none⟩ = some (.int .i64 h.2.2.2.2.2.2)

theorem Reads.head_at {w : World} {B n k : Nat} {A : Option Addr} {hs : List Hd} (h : Reads w B 7 A n (heads hs)) (hk : k < n) :
    ∃ b off x, A = some ⟨b, off, none⟩ ∧ b < B ∧ hs[k]? = some x ∧ HdAt w b (off + k * 7) x := by
  obtain ⟨b, off, e, hb, hc⟩ := h.2 (by omega)
  have hl := h.1
  rw [heads_length] at hl
  have hlen : k < hs.length := by omega
  refine ⟨b, off, hs[k], e, hb, List.getElem?_eq_getElem hlen, ?_⟩
  have at_ : ∀ j (hj : j < 7), w.cell? ⟨b, off + (k * 7 + j), none⟩ = some ((hs[k]).vals[j]'(by simpa [Hd.vals] using hj)) := fun j hj =>
    hc (k * 7 + j) _ ((heads_at hs k j _ (List.getElem?_eq_getElem hlen) hj).trans (List.getElem?_eq_getElem (by simpa [Hd.vals] using hj)))
  exact ⟨at_ 0 (by omega), at_ 1 (by omega), at_ 2 (by omega), at_ 3 (by omega), at_ 4 (by omega), at_ 5 (by omega), at_ 6 (by omega)⟩

theorem HdAt.below {w w' : World} {B b o : Nat} {h : Hd} (hh : HdAt w b o h) (hb : Below B w w') (hB : b < B) : HdAt w' b o h := by
  obtain ⟨h0, h1, h2, h3, h4, h5, h6⟩ := hh
  exact ⟨(hb.cell hB).trans h0, (hb.cell hB).trans h1, (hb.cell hB).trans h2, (hb.cell hB).trans h3, (hb.cell hB).trans h4, (hb.cell hB).trans h5, (hb.cell hB).trans h6⟩

theorem u46 : Tryd.prog.underlying 46 = some (.struct (Tryd.prog.fieldsOf 46)) := by kernel_rfl
theorem s46 : Tryd.prog.stoodInHeld 46 = false := by kernel_rfl
theorem q46 : Tryd.prog.eqGuardType Tryd.prog.depth 46 = false := by kernel_rfl
theorem eq_head (a0 a1 a2 a3 a4 a5 a6 b0 b1 b2 b3 b4 b5 b6 : Int) (W : World) :
    (binOp .eql 46 (.agg #[.int .i64 a0, .int .i64 a1, .int .i64 a2, .int .i64 a3, .int .i64 a4, .int .i64 a5, .int .i64 a6]) (.agg #[.int .i64 b0, .int .i64 b1, .int .i64 b2, .int .i64 b3, .int .i64 b4, .int .i64 b5, .int .i64 b6])).run Tryd.prog W =
      .ok (.bool (decide (((a0, a1, a2, a3, a4, a5, a6) : Hd) = (b0, b1, b2, b3, b4, b5, b6)))) W := by
  rw [run_eql_struct, run_equalIn_struct W 9999 46 _ _ u46 s46]
  have hu := Tryd.underlying3
  simp [go_sem, Op.eqFields, part, hu]
  (repeat' split) <;> simp_all

/-- where h stands first in l from place i on; -1: nowhere -/
def indexF (h : Hd) : List Hd → Nat → Int
  | [], _ => -1
  | x :: l, i => if x = h then (i : Int) else indexF h l (i + 1)
theorem indexF_at (h x : Hd) (l : List Hd) (k : Nat) (hk : l[k]? = some x) : indexF h (l.drop k) k = if x = h then (k : Int) else indexF h (l.drop (k + 1)) (k + 1) := by
  have hlt : k < l.length := by
    rcases Nat.lt_or_ge k l.length with h | h
    · exact h
    · simp [List.getElem?_eq_none h] at hk
  rw [List.drop_eq_getElem_cons hlt]
  have hx : l[k] = x := by simpa [List.getElem?_eq_getElem hlt] using hk
  rw [hx]
  rfl

set_option maxHeartbeats 1000000 in
theorem index_any (A : Option Addr) (n c : Nat) (hs : List Hd) (h : Hd) (w : World) (hn : n ≤ 9223372036854775807) (hr : Reads w w.heap.size 7 A n (heads hs)) :
    Calls Tryd.prog 23 #[.slice A n c, h.agg] w fun r w' => r = .returned (.int .i64 (indexF h hs 0)) ∧ Below w.heap.size w w' := by
  obtain ⟨a0, a1, a2, a3, a4, a5, a6⟩ := h
  have hlen : hs.length = n := by have := hr.1; rw [heads_length] at this; omega
  have Hlen := hide hlen
  clear hlen
  go_enter Tryd.func23, Tryd.ntmps23
  go_wp2_with fail
  have hb0 := (Below.refl w.heap.size w).alloc (Nat.le_refl _) (.cells #[.int .i64 a0, .int .i64 a1, .int .i64 a2, .int .i64 a3, .int .i64 a4, .int .i64 a5, .int .i64 a6] 46)
  have Hb0 := hide hb0
  clear hb0
  go_loopw [8] (fun i wr => ∃ k : Nat, ∃ d : Nat, k ≤ n ∧ i = .int .i64 k ∧ wr = (w.alloc (.cells #[.int .i64 a0, .int .i64 a1, .int .i64 a2, .int .i64 a3, .int .i64 a4, .int .i64 a5, .int .i64 a6] 46)).drewN d ∧ Hid (indexF (a0, a1, a2, a3, a4, a5, a6) (hs.drop k) k = indexF (a0, a1, a2, a3, a4, a5, a6) hs 0)) (fun i _ => n - (intOf i).toNat)
  case atStart => exact ⟨0, 0, Nat.zero_le _, rfl, rfl, rfl⟩
  case round =>
    obtain ⟨k, d, hk, rfl, rfl, hst⟩ := hrel
    by_cases hlt : k < n
    · obtain ⟨b, off, x, rfl, hbb, hx, hat⟩ := hr.head_at hlt
      have hat' := hat.below Hb0.out hbb
      obtain ⟨h0, h1, h2, h3, h4, h5, h6⟩ := hat'
      have HI := hide (indexF_at (a0, a1, a2, a3, a4, a5, a6) x hs k hx)
      obtain ⟨x0, x1, x2, x3, x4, x5, x6⟩ := x
      clear hat hx
      have he := eq_head a0 a1 a2 a3 a4 a5 a6 x0 x1 x2 x3 x4 x5 x6
      have hq := q46
      cases hd : decide (((a0, a1, a2, a3, a4, a5, a6) : Hd) = (x0, x1, x2, x3, x4, x5, x6))
      · have HN := hide (show indexF (a0, a1, a2, a3, a4, a5, a6) (hs.drop (k + 1)) (k + 1) = indexF (a0, a1, a2, a3, a4, a5, a6) hs 0 by
          rw [← hst.out, HI.out, if_neg (fun e => by rw [e] at hd; simp at hd)])
        rw [hd] at he
        clear hd
        go_wp2_with fail
        go_quiet (fail)
        go_wp2
        go_roundw
        case rel => exact ⟨k + 1, d + nq, by omega, by go_num, rfl, HN.out⟩
        case measure => simp [intOf]; omega
      · have HN := hide (show (k : Int) = indexF (a0, a1, a2, a3, a4, a5, a6) hs 0 by
          rw [← hst.out, HI.out, if_pos (of_decide_eq_true hd).symm])
        rw [hd] at he
        clear hd
        go_wp2_with fail
        go_quiet (fail)
        go_wp2
        go_ret
        exact ⟨ret_int HN.out, below_drewN (below_drewN Hb0.out _) _⟩
    · have HN := hide (show (-1 : Int) = indexF (a0, a1, a2, a3, a4, a5, a6) hs 0 by
        rw [← hst.out, List.drop_eq_nil_of_le (by rw [Hlen.out]; omega)]; rfl)
      go_wp2
      go_ret
      exact ⟨ret_int HN.out, below_drewN Hb0.out _⟩
end Go.Proofs.YtlclifhpmnfopaaDoor
