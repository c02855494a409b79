/-
  (*syndicref17.Acks).Later: a row that is not there yet is laid behind the others.
-/
import Derived.Test.YtlclifhpmnfopaaDoorD
import Derived.Deep.RegionLaw
namespace Go.Proofs.YtlclifhpmnfopaaDoor
open Go.RowKit

instance decRw : DecidableEq Rw := fun a b => if h : a.1 = b.1 ∧ a.2.1 = b.2.1 ∧ a.2.2.1 = b.2.2.1 ∧ a.2.2.2.1 = b.2.2.2.1 ∧ a.2.2.2.2.1 = b.2.2.2.2.1 ∧ a.2.2.2.2.2.1 = b.2.2.2.2.2.1 ∧ a.2.2.2.2.2.2.1 = b.2.2.2.2.2.2.1 ∧ a.2.2.2.2.2.2.2 = b.2.2.2.2.2.2.2 then .isTrue (by obtain ⟨h0, h1, h2, h3, h4, h5, h6, h7⟩ := h; obtain ⟨a0, a1, a2, a3, a4, a5, a6, a7⟩ := a; obtain ⟨b0, b1, b2, b3, b4, b5, b6, b7⟩ := b; simp_all) else .isFalse (by rintro rfl; simp at h)
theorem u56 : Tryd.prog.underlying 56 = some (.struct (Tryd.prog.fieldsOf 56)) := by kernel_rfl
theorem s56 : Tryd.prog.stoodInHeld 56 = false := by kernel_rfl
theorem q56 : Tryd.prog.eqGuardType Tryd.prog.depth 56 = false := by kernel_rfl
theorem eq_row (a b : Rw) (W : World) :
    (binOp .eql 56 a.agg b.agg).run Tryd.prog W = .ok (.bool (decide (a = b))) W := by
  obtain ⟨a0, a1, a2, a3, a4, a5, a6, a7⟩ := a
  obtain ⟨b0, b1, b2, b3, b4, b5, b6, b7⟩ := b
  rw [run_eql_struct, run_equalIn_struct W 9999 56 _ _ u56 s56]
  have hu := Tryd.underlying3
  have hs := s46
  simp [go_sem, Op.eqFields, part, hu, hs]
  (repeat' split) <;> simp_all

def addR (rs : List Rw) (r : Rw) : List Rw := if r ∈ rs then rs else rs ++ [r]
def laterR (l : Int) (rs : List Rw) (hs : List Hd) : List Rw := hs.foldl (fun rs h => addR rs (l, h)) rs
theorem laterR_snoc (l : Int) (rs : List Rw) (hs : List Hd) (h : Hd) : laterR l rs (hs ++ [h]) = addR (laterR l rs hs) (l, h) := by simp [laterR]
theorem addR_le (rs : List Rw) (r : Rw) : (addR rs r).length ≤ rs.length + 1 := by unfold addR; split <;> simp
theorem laterR_le (l : Int) (hs : List Hd) : ∀ rs : List Rw, (laterR l rs hs).length ≤ rs.length + hs.length := by
  induction hs with
  | nil => intro rs; simp [laterR]
  | cons h hs ih =>
    intro rs
    have h1 := ih (addR rs (l, h))
    have h2 := addR_le rs (l, h)
    simp only [laterR, List.foldl_cons, List.length_cons] at *
    omega

def RefInv (w : World) (F : Nat → Prop) (px base : Nat) (l : Int) (rs : List Rw) (hs : List Hd) (k : Nat) (wr : World) : Prop :=
  ∃ (F' : Nat → Prop) (A : Option Addr) (c : Nat), RefRep wr F' px base (laterR l rs (hs.take k)) A c ∧ (∀ g, F' g → F g ∨ w.heap.size ≤ g) ∧ Keeps F w wr

theorem RefRep.put {w w3 : World} {F : Nat → Prop} {px base : Nat} {rs : List Rw} {A A3 : Option Addr} {c c3 : Nat} {r : Rw} (h : RefRep w F px base rs A c)
    (hK : Keeps (fun g => (Value.slice A rs.length c).ownBlock = some g) w w3) (hown : w3.ownsRow base 56 8 (.slice A3 (rs.length + 1) c3) (rs.length + 1) (rowsC (rs ++ [r]))) :
    RefRep (w3.setCell ⟨px, 0, none⟩ (.slice A3 (rs.length + 1) c3)) (fun g => F g ∨ (Value.slice A3 (rs.length + 1) c3).ownBlock = some g) px base (rs ++ [r]) A3 c3 where
  box := by
    have h1 := hK.blk h.box (fun e => by have := (own_base h.own e).1; have := h.pxb; omega)
    have h2 := h1.set_ 0 (.slice A3 (rs.length + 1) c3)
    simpa using h2
  own := by
    have := ownsRow_setCell_below hown (a := ⟨px, 0, none⟩) h.pxb (.slice A3 (rs.length + 1) c3)
    simpa using this
  hpx := .inl h.hpx
  hrow := fun g hg => .inr (by simpa using hg)
  pxb := h.pxb
  lt := fun g hg => by
    have hsz : (w3.setCell ⟨px, 0, none⟩ (.slice A3 (rs.length + 1) c3)).heap.size = w3.heap.size := by simp [World.setCell]
    rw [hsz]
    rcases hg with hg | hg
    · exact Nat.lt_of_lt_of_le (h.lt g hg) hK.size
    · exact (own_base hown hg).2
  bz := by
    have hsz : (w3.setCell ⟨px, 0, none⟩ (.slice A3 (rs.length + 1) c3)).heap.size = w3.heap.size := by simp [World.setCell]
    rw [hsz]
    exact Nat.le_trans h.bz hK.size

theorem RefPut.blk {wo w3 : World} {o : Obj} {F : Nat → Prop} {px base : Nat} {rs : List Rw} {A : Option Addr} {c : Nat} (h : RefRep wo F px base rs A c) (hg : (wo.alloc o).drew.grownBy w3 (Value.slice A rs.length c).ownBlock) : Blk w3 px 32 #[.slice A rs.length c] := by
  have h1 : Blk (wo.alloc o).drew px 32 #[.slice A rs.length c] := Blk.alloc (w := wo) h.box o
  exact h1.grown hg (fun e => by have := (own_base h.own e.symm).1; have := h.pxb; omega)
theorem RefPut.frozen {wo w3 : World} {o : Obj} {F : Nat → Prop} {px base : Nat} {rs : List Rw} {A : Option Addr} {c : Nat} (h : RefRep wo F px base rs A c) (hg : (wo.alloc o).drew.grownBy w3 (Value.slice A rs.length c).ownBlock) : w3.frozen? ⟨px, 0, none⟩ = false := (RefPut.blk h hg).frozen 0
theorem RefPut.cell {wo w3 : World} {o : Obj} {F : Nat → Prop} {px base : Nat} {rs : List Rw} {A : Option Addr} {c : Nat} (h : RefRep wo F px base rs A c) (hg : (wo.alloc o).drew.grownBy w3 (Value.slice A rs.length c).ownBlock) : w3.cell? ⟨px, 0, none⟩ = some (.slice A rs.length c) := by
  have := (RefPut.blk h hg).cell 0; simpa using this

theorem row_info : (Tryd.prog.info? 56).map (fun i => (i.zero, i.size, i.bytes)) = some (some (.agg #[.int .i64 0, .int .i64 0, .int .i64 0, .int .i64 0, .int .i64 0, .int .i64 0, .int .i64 0, .int .i64 0]), 8, 64) := by kernel_rfl

set_option maxHeartbeats 4000000 in
theorem refLater_any (F : Nat → Prop) (px base : Nat) (l : Int) (rs : List Rw) (A0 : Option Addr) (c0 : Nat) (A : Option Addr) (n c : Nat) (hs : List Hd) (w : World) (h : RefRep w F px base rs A0 c0)
    (hr : Reads w w.heap.size 7 A n (heads hs)) (hA : ∀ b off, A = some ⟨b, off, none⟩ → ¬ F b) (hn : n ≤ 100000) (hN : rs.length ≤ 100000) :
    Calls Tryd.prog 13 #[.pointer (some ⟨px, 0, none⟩), .int .i64 l, .slice A n c] w fun r w' => r = .returned (.int .i64 ((ofF l (laterR l rs hs)).length : Int)) ∧ RefInv w F px base l rs hs n w' := by
  have hlen : hs.length = n := by have := hr.1; rw [heads_length] at this; omega
  have Hlen := hide hlen
  clear hlen
  have Hh := hide h
  have HA := hide hA
  clear h hA
  go_enter Tryd.func13, Tryd.ntmps13
  go_wp2_with fail
  go_loopw [7] (fun i wr => ∃ k : Nat, k ≤ n ∧ i = .int .i64 k ∧ RefInv w F px base l rs hs k wr) (fun i _ => n - (intOf i).toNat)
  case atStart => exact ⟨0, Nat.zero_le _, rfl, F, A0, c0, by simpa [laterR] using Hh.out, fun g hg => .inl hg, Keeps.refl _ _⟩
  case round =>
    obtain ⟨k, hk, rfl, hinv⟩ := hrel
    obtain ⟨Fk, Ak, ck, hR, hF, hK⟩ := hinv
    have HF := hide hF
    clear hF
    by_cases hlt : k < n
    · obtain ⟨b, off, x, hA', hbb, hx, hat⟩ := hr.head_at hlt
      have hnF : ¬ F b := HA.out b off hA'
      subst hA'
      have hat' : HdAt wr b (off + k * 7) x := by
        obtain ⟨h0, h1, h2, h3, h4, h5, h6⟩ := hat
        exact ⟨(hK.cell hbb hnF).trans h0, (hK.cell hbb hnF).trans h1, (hK.cell hbb hnF).trans h2, (hK.cell hbb hnF).trans h3, (hK.cell hbb hnF).trans h4, (hK.cell hbb hnF).trans h5, (hK.cell hbb hnF).trans h6⟩
      obtain ⟨h0, h1, h2, h3, h4, h5, h6⟩ := hat'
      clear hat
      have Hx := hide hx
      clear hx
      obtain ⟨x0, x1, x2, x3, x4, x5, x6⟩ := x
      have hle2 : (laterR l rs (hs.take k)).length ≤ 200000 := by
        have h1 := laterR_le l (hs.take k) rs
        have h2 : (hs.take k).length ≤ k := List.length_take_le _ _
        omega
      have hbox := hR.cell
      have HR0 := hide hR
      have HW := hide (show b < wr.heap.size from Nat.lt_of_lt_of_le hbb hK.size)
      have hrd := Reads.of_own hR.own
      obtain ⟨wo, rfl⟩ : ∃ wo : World, wo = wr := ⟨_, rfl⟩
      have HS := hide (show laterR l rs (hs.take (k + 1)) = addR (laterR l rs (hs.take k)) (l, x0, x1, x2, x3, x4, x5, x6) by rw [take_snoc _ _ _ Hx.out]; exact laterR_snoc _ _ _ _)
      obtain ⟨rk, hrk⟩ : ∃ rk, laterR l rs (hs.take k) = rk := ⟨_, rfl⟩
      rw [hrk] at hR hle2 hbox hrd HS
      have Hrk := hide hrk
      clear hrk
      go_wp2_with fail
      go_loopw [8, 9] (fun is j wr => ∃ m d : Nat, m ≤ rk.length ∧ is = .bool (decide ((l, x0, x1, x2, x3, x4, x5, x6) ∈ rk.take m)) ∧ j = .int .i64 m ∧ wr = wo.drewN d) (fun _ j _ => rk.length - (intOf j).toNat)
      case atStart => exact ⟨0, 0, Nat.zero_le _, by simp, rfl, rfl⟩
      case round =>
        obtain ⟨m, d, hm, rfl, rfl, rfl⟩ := hrel
        by_cases hmlt : m < rk.length
        · obtain ⟨b2, off2, y, rfl, hbb2, hy, hat2⟩ := hrd.row_at hmlt
          obtain ⟨y0, y1, y2, y3, y4, y5, y6, y7⟩ := y
          obtain ⟨g0, g1, g2, g3, g4, g5, g6, g7⟩ := hat2
          have he := eq_row (y0, y1, y2, y3, y4, y5, y6, y7) (l, x0, x1, x2, x3, x4, x5, x6)
          have hq := q56
          have HM := hide (take_snoc _ _ _ hy)
          clear hy
          cases hd : decide (((y0, y1, y2, y3, y4, y5, y6, y7) : Rw) = (l, x0, x1, x2, x3, x4, x5, x6))
          · have HN := hide (show decide ((l, x0, x1, x2, x3, x4, x5, x6) ∈ rk.take (m + 1)) = decide ((l, x0, x1, x2, x3, x4, x5, x6) ∈ rk.take m) by
              rw [HM.out]
              have hne : ¬ ((l, x0, x1, x2, x3, x4, x5, x6) : Rw) = (y0, y1, y2, y3, y4, y5, y6, y7) := fun e => by rw [e] at hd; simp at hd
              simp only [List.mem_append, List.mem_singleton, hne, or_false])
            rw [hd] at he
            clear hd
            go_wp2_with fail
            go_quiet (fail)
            go_wp2
            go_roundw
            case rel => exact ⟨m + 1, d + nq, by omega, by rw [HN.out], by go_num, rfl⟩
            case measure => simp [intOf]; omega
          · have HN := hide (show decide ((l, x0, x1, x2, x3, x4, x5, x6) ∈ rk.take (m + 1)) = true by
              rw [HM.out]
              have he' : ((y0, y1, y2, y3, y4, y5, y6, y7) : Rw) = (l, x0, x1, x2, x3, x4, x5, x6) := of_decide_eq_true hd
              rw [he']
              simp)
            rw [hd] at he
            clear hd
            go_wp2_with fail
            go_quiet (fail)
            go_wp2
            go_roundw
            case rel => exact ⟨m + 1, d + nq, by omega, by rw [HN.out], by go_num, rfl⟩
            case measure => simp [intOf]; omega
        · have hml : rk.length ≤ m := by omega
          have HE := hide (show decide ((l, x0, x1, x2, x3, x4, x5, x6) ∈ rk.take m) = decide ((l, x0, x1, x2, x3, x4, x5, x6) ∈ rk) by rw [List.take_of_length_le hml])
          clear hml
          by_cases hmem : (l, x0, x1, x2, x3, x4, x5, x6) ∈ rk
          · have HN := hide (show laterR l rs (hs.take (k + 1)) = rk by rw [HS.out, addR, if_pos hmem])
            have hmd : decide ((l, x0, x1, x2, x3, x4, x5, x6) ∈ rk.take m) = true := by rw [HE.out]; simpa using hmem
            clear hmem
            rw [hmd]
            clear hmd
            go_wp2_with fail
            go_roundw
            case rel => exact ⟨k + 1, by omega, by go_num, Fk, Ak, ck, by rw [HN.out, ← Hrk.out]; exact { HR0.out with }, HF.out, hK.drewN _⟩
            case measure => simp [intOf]; omega
          · have HN := hide (show laterR l rs (hs.take (k + 1)) = rk ++ [(l, x0, x1, x2, x3, x4, x5, x6)] by rw [HS.out, addR, if_neg hmem])
            have hmd : decide ((l, x0, x1, x2, x3, x4, x5, x6) ∈ rk.take m) = false := by rw [HE.out]; simpa using hmem
            clear hmem
            rw [hmd]
            clear hmd
            go_wp2_with fail
            obtain ⟨i0, hi, hz0, hz1, hz2⟩ := info_parts row_info
            have HK := hide (hK.drewN d)
            have hRd : RefRep (wo.drewN d) Fk px base rk Ak ck := by rw [← Hrk.out]; exact { HR0.out with }
            have hbox1 : (wo.drewN d).cell? ⟨px, 0, none⟩ = some (.slice Ak rk.length ck) := hbox
            have p0 : (wo.drewN d).cell? ⟨b, off + k * 7, none⟩ = some (.int .i64 x0) := h0
            have p1 : (wo.drewN d).cell? ⟨b, off + k * 7 + 1, none⟩ = some (.int .i64 x1) := h1
            have p2 : (wo.drewN d).cell? ⟨b, off + k * 7 + 2, none⟩ = some (.int .i64 x2) := h2
            have p3 : (wo.drewN d).cell? ⟨b, off + k * 7 + 3, none⟩ = some (.int .i64 x3) := h3
            have p4 : (wo.drewN d).cell? ⟨b, off + k * 7 + 4, none⟩ = some (.int .i64 x4) := h4
            have p5 : (wo.drewN d).cell? ⟨b, off + k * 7 + 5, none⟩ = some (.int .i64 x5) := h5
            have p6 : (wo.drewN d).cell? ⟨b, off + k * 7 + 6, none⟩ = some (.int .i64 x6) := h6
            have HWd : b < (wo.drewN d).heap.size := HW.out
            clear hK h0 h1 h2 h3 h4 h5 h6 hbox hrd
            generalize wo.drewN d = W1 at hRd HK hbox1 p0 p1 p2 p3 p4 p5 p6 HWd ⊢
            have hne1 : ¬ px = W1.heap.size := fun e => by have := hRd.box.lt; omega
            have hne2 : ¬ b = W1.heap.size := by omega
            have hAc : (W1.alloc (.cells #[.int .i64 l, .int .i64 x0, .int .i64 x1, .int .i64 x2, .int .i64 x3, .int .i64 x4, .int .i64 x5, .int .i64 x6] 56)).cell? ⟨px, 0, none⟩ = some (.slice Ak rk.length ck) := (World.cell?_alloc_lt W1 _ ⟨px, 0, none⟩ hRd.box.lt).trans hbox1
            go_region_law
              (first | (refine step_append_any _ (by rfl) _ _ 30 (by rfl) base 56 i0 _ 8 64 Tryd.underlying30 hi hz0 hz1 hz2 rfl (by omega) (.slice Ak rk.length ck) rk.length (rowsC rk) (by rfl) ((World.ownsRow.alloc (w := W1) hRd.own _).drew) (W1.heap.size + 1) (some ⟨W1.heap.size, 0, none⟩) 1 1 (Rw.vals (l, x0, x1, x2, x3, x4, x5, x6)) (by rfl) (Reads.new W1 #[.int .i64 l, .int .i64 x0, .int .i64 x1, .int .i64 x2, .int .i64 x3, .int .i64 x4, .int .i64 x5, .int .i64 x6] 56 1 8 rfl) (by simp [Rw.vals, Hd.vals, Value.oneCell']) (by simp only [maxLen]; omega) (by omega) (by simp; have := hRd.bz; omega) ?_; intro A3 c3 w3 hown3 hg3 hloc3; have hfz3 : w3.frozen? ⟨px, 0, none⟩ = false := RefPut.frozen hRd hg3; have hc3 := RefPut.cell hRd hg3))
            all_goals
              have hKa : Keeps (fun g => (Value.slice Ak rk.length ck).ownBlock = some g) W1 w3 := (((Keeps.refl _ W1).alloc _).drew).grown hg3 (fun g hg => .inl hg)
              have hput := hRd.put hKa (A3 := A3) (c3 := c3) (r := (l, x0, x1, x2, x3, x4, x5, x6)) (by rw [rowsC_append]; simpa [rowsC] using hown3)
              rw [← HN.out] at hput
              have hF4 : ∀ g, (Fk g ∨ (Value.slice A3 (rk.length + 1) c3).ownBlock = some g) → F g ∨ w.heap.size ≤ g := by
                intro g hg
                rcases hg with hg | hg
                · exact HF.out g hg
                · rcases hloc3 with h | h
                  · rw [h] at hg
                    exact HF.out g (hRd.hrow g hg)
                  · rw [h] at hg
                    have := HK.out.size
                    simp at hg
                    omega
              have hK4 : Keeps F w (w3.setCell ⟨px, 0, none⟩ (.slice A3 (rk.length + 1) c3)) := by
                have h1 : Keeps F w w3 := ((HK.out.alloc _).drew).grown hg3 (fun g hg => HF.out g (hRd.hrow g hg))
                exact h1.setCell (HF.out px hRd.hpx) _
              have HP := hide hput
              have HF4 := hide hF4
              have HK4 := hide hK4
              clear hput hF4 hK4 hKa hown3 hg3 hloc3 hfz3 hc3
              go_wp2
              go_roundw
              case rel => exact ⟨k + 1, by omega, by go_num, _, _, _, HP.out, HF4.out, HK4.out⟩
              case measure => simp [intOf]; omega
    · have hke : List.take k hs = hs := List.take_of_length_le (by rw [Hlen.out]; omega)
      rw [hke] at hR
      have hle := laterR_le l hs rs
      have HR := hide hR
      have HK := hide hK
      clear hR hK
      go_wp2_with fail
      refine (of_any _ _ _ _ _ _ l _ HR.out (by rw [Hlen.out] at hle; omega)).mono ?_
      rintro r w1 ⟨v, rfl, A1, c1, rfl, _, hB1⟩
      have HI : Hid (RefInv w F px base l rs hs n w1) := by
        refine ⟨Fk, Ak, ck, ?_, HF.out, HK.out.below hB1⟩
        have h1 := HR.out.below hB1
        rw [List.take_of_length_le (by rw [Hlen.out]; omega)]
        exact h1
      go_wp2
      go_ret
      exact ⟨rfl, HI.out⟩
end Go.Proofs.YtlclifhpmnfopaaDoor
