/-
  (*acks.Acks).Later: heads that are not there yet are laid behind the network's others.
-/
import Derived.Test.YtlclifhpmnfopaaDoorB
import Derived.Deep.RegionHeld3
import Derived.Deep.RegionLaw
namespace Go.Proofs.YtlclifhpmnfopaaDoor
open Go.RowKit

def addH (m : List Hd) (h : Hd) : List Hd := if h ∈ m then m else m ++ [h]
def laterF (m : List Hd) (hs : List Hd) : List Hd := hs.foldl addH m
theorem laterF_snoc (m hs : List Hd) (h : Hd) : laterF m (hs ++ [h]) = addH (laterF m hs) h := by simp [laterF]
theorem addH_le (m : List Hd) (h : Hd) : (addH m h).length ≤ m.length + 1 := by unfold addH; split <;> simp
theorem laterF_le (hs : List Hd) : ∀ m : List Hd, (laterF m hs).length ≤ m.length + hs.length := by
  induction hs with
  | nil => intro m; simp [laterF]
  | cons h hs ih =>
    intro m
    have := ih (addH m h)
    have := addH_le m h
    simp only [laterF, List.foldl_cons, List.length_cons] at *
    omega
def LaterInv (w : World) (F : Nat → Prop) (pa bm base N : Nat) (M : Int → List Hd) (l : Int) (hs : List Hd) (k : Nat) (wr : World) : Prop :=
  ∃ (F' : Nat → Prop) (f' : Int → Value), AckRep wr F' pa bm base (N + k) (upd M l (laterF (M l) (hs.take k))) f' ∧ (∀ g, F' g → F g ∨ w.heap.size ≤ g) ∧ Keeps F w wr

theorem head_info : (Tryd.prog.info? 46).map (fun i => (i.zero, i.size, i.bytes)) = some (some (.agg #[.int .i64 0, .int .i64 0, .int .i64 0, .int .i64 0, .int .i64 0, .int .i64 0, .int .i64 0]), 7, 56) := by kernel_rfl

abbrev LatS (pa bm wb : Nat) (l : Int) (v : Value) (h : Hd) (w' : World) : Prop :=
  w'.cell? ⟨pa, 0, none⟩ = some (.map (some bm)) ∧ w'.cell? ⟨wb, 0, none⟩ = some (.int .i64 h.1) ∧ w'.cell? ⟨wb, 1, none⟩ = some (.int .i64 h.2.1) ∧ w'.cell? ⟨wb, 2, none⟩ = some (.int .i64 h.2.2.1) ∧ w'.cell? ⟨wb, 3, none⟩ = some (.int .i64 h.2.2.2.1) ∧ w'.cell? ⟨wb, 4, none⟩ = some (.int .i64 h.2.2.2.2.1) ∧ w'.cell? ⟨wb, 5, none⟩ = some (.int .i64 h.2.2.2.2.2.1) ∧ w'.cell? ⟨wb, 6, none⟩ = some (.int .i64 h.2.2.2.2.2.2) ∧
    (Instr.lookup 51 (.map (some bm)) (.int .i64 l) false).run Tryd.prog w' = .ok v w'
theorem LatS.grown {pa bm wb : Nat} {l : Int} {v : Value} {h : Hd} {w w' : World} {row : Option Nat} (hs : LatS pa bm wb l v h w) (hg : w.grownBy w' row) (h1 : some pa ≠ row) (h2 : some wb ≠ row) (hp : pa < w.heap.size) (hw : wb < w.heap.size)
    (hl : (Instr.lookup 51 (.map (some bm)) (.int .i64 l) false).run Tryd.prog w' = .ok v w') : LatS pa bm wb l v h w' := by
  obtain ⟨a, b0, b1, b2, b3, b4, b5, b6, _⟩ := hs
  have hc : ∀ b o, b < w.heap.size → some b ≠ row → w'.cell? ⟨b, o, none⟩ = w.cell? ⟨b, o, none⟩ := fun b o hb hn => World.cell?_of_block (hg.block b hb hn)
  exact ⟨(hc _ _ hp h1).trans a, (hc _ _ hw h2).trans b0, (hc _ _ hw h2).trans b1, (hc _ _ hw h2).trans b2, (hc _ _ hw h2).trans b3, (hc _ _ hw h2).trans b4, (hc _ _ hw h2).trans b5, (hc _ _ hw h2).trans b6, hl⟩

set_option maxHeartbeats 8000000 in
theorem later_any (pa bm base N : Nat) (M : Int → List Hd) (f : Int → Value) (F : Nat → Prop) (l : Int) (A : Option Addr) (n c : Nat) (hs : List Hd) (w : World) (hl : Wf l) (h : AckRep w F pa bm base N M f)
    (hr : Reads w w.heap.size 7 A n (heads hs)) (hA : ∀ b off, A = some ⟨b, off, none⟩ → ¬ F b) (hn : n ≤ 1000000) (hN : N ≤ 1000000) (hM : (M l).length ≤ 1000000) :
    Calls Tryd.prog 12 #[.pointer (some ⟨pa, 0, none⟩), .int .i64 l, .slice A n c] w fun r w' => r = .returned (.int .i64 ((laterF (M l) hs).length : Int)) ∧ LaterInv w F pa bm base N M l hs n w' := by
  have hlen : hs.length = n := by have := hr.1; rw [heads_length] at this; omega
  have Hlen := hide hlen
  clear hlen
  have Hh := hide h
  have HA := hide hA
  clear h hA
  go_enter Tryd.func12, Tryd.ntmps12
  go_wp2_with fail
  go_loopw [13] (fun i wr => ∃ k : Nat, k ≤ n ∧ i = .int .i64 k ∧ LaterInv w F pa bm base N M l hs k wr) (fun i _ => n - (intOf i).toNat)
  case atStart => exact ⟨0, Nat.zero_le _, rfl, F, f, by simpa [laterF, upd_self] using Hh.out, fun g hg => .inl hg, Keeps.refl _ _⟩
  case round =>
    obtain ⟨k, hk, rfl, hinv⟩ := hrel
    obtain ⟨Fk, fk, hR, hF, hK⟩ := hinv
    have HF := hide hF
    clear hF
    have Hl := hide (upd_same M l (laterF (M l) (hs.take k)))
    by_cases hlt : k < n
    · obtain ⟨b, off, x, hA', hbb, hx, hat⟩ := hr.head_at hlt
      have hnF : ¬ F b := HA.out b off hA'
      subst hA'
      have hat' : HdAt wr b (off + k * 7) x := by
        obtain ⟨h0, h1, h2, h3, h4, h5, h6⟩ := hat
        exact ⟨(hK.cell hbb hnF).trans h0, (hK.cell hbb hnF).trans h1, (hK.cell hbb hnF).trans h2, (hK.cell hbb hnF).trans h3, (hK.cell hbb hnF).trans h4, (hK.cell hbb hnF).trans h5, (hK.cell hbb hnF).trans h6⟩
      obtain ⟨h0, h1, h2, h3, h4, h5, h6⟩ := hat'
      clear hat
      have Hx := hide hx
      clear hx
      obtain ⟨x0, x1, x2, x3, x4, x5, x6⟩ := x
      -- the box of the head
      go_wp2_with fail
      have hbl := Blk.new wr 46 #[.int .i64 x0, .int .i64 x1, .int .i64 x2, .int .i64 x3, .int .i64 x4, .int .i64 x5, .int .i64 x6]
      have hB1 := (Below.refl wr.heap.size wr).alloc (Nat.le_refl _) (.cells #[.int .i64 x0, .int .i64 x1, .int .i64 x2, .int .i64 x3, .int .i64 x4, .int .i64 x5, .int .i64 x6] 46)
      generalize wr.alloc (.cells #[.int .i64 x0, .int .i64 x1, .int .i64 x2, .int .i64 x3, .int .i64 x4, .int .i64 x5, .int .i64 x6] 46) = W1 at hbl hB1 ⊢
      have hR1 := hR.below hB1
      obtain ⟨A1, c1, hf1, hrun1, hown1⟩ := hR1.look hl
      rw [Hl.out] at hf1 hrun1 hown1
      have hbox0 : W1.cell? ⟨pa, 0, none⟩ = some (.map (some bm)) := by have := hR1.box.cell 0; simpa using this
      have e0 : W1.cell? ⟨wr.heap.size, 0, none⟩ = some (.int .i64 x0) := by have := hbl.cell 0; simpa using this
      have e1 : W1.cell? ⟨wr.heap.size, 1, none⟩ = some (.int .i64 x1) := by have := hbl.cell 1; simpa using this
      have e2 : W1.cell? ⟨wr.heap.size, 2, none⟩ = some (.int .i64 x2) := by have := hbl.cell 2; simpa using this
      have e3 : W1.cell? ⟨wr.heap.size, 3, none⟩ = some (.int .i64 x3) := by have := hbl.cell 3; simpa using this
      have e4 : W1.cell? ⟨wr.heap.size, 4, none⟩ = some (.int .i64 x4) := by have := hbl.cell 4; simpa using this
      have e5 : W1.cell? ⟨wr.heap.size, 5, none⟩ = some (.int .i64 x5) := by have := hbl.cell 5; simpa using this
      have e6 : W1.cell? ⟨wr.heap.size, 6, none⟩ = some (.int .i64 x6) := by have := hbl.cell 6; simpa using this
      clear h0 h1 h2 h3 h4 h5 h6
      have hrunD : (Instr.lookup 51 (.map (some bm)) (.int .i64 l) false).run Tryd.prog W1.drew = .ok (.slice A1 (laterF (M l) (hs.take k)).length c1) W1.drew := by
        obtain ⟨A2, c2, hf2, hrun2, _⟩ := hR1.drew.look hl
        rw [Hl.out] at hf2 hrun2
        rw [hf1] at hf2
        cases hf2
        exact hrun2
      go_still_tail 7, (by kernel_rfl)
      change wpList _ _ _ _ _ W1.drew
      go_wp2_with fail
      have hle2 : (laterF (M l) (hs.take k)).length ≤ 2000000 := by
        have h1 := laterF_le (hs.take k) (M l)
        have h2 : (hs.take k).length ≤ k := List.length_take_le _ _
        omega
      have HRc := hide ((Reads.of_own hown1).drew)
      refine (contains_any _ _ _ (laterF (M l) (hs.take k)) (x0, x1, x2, x3, x4, x5, x6) _ (by omega) HRc.out).mono ?_
      rintro r W2 ⟨rfl, hB2⟩
      have hB2' : Below W1.heap.size W1 W2 := ⟨hB2.os, hB2.tape, hB2.output, hB2.size, hB2.block⟩
      clear hB2
      have hKr : Keeps F w W2 := (hK.below hB1).below hB2'
      have HKr := hide hKr
      clear hKr
      have hR2 := hR1.below hB2'
      have HS := hide (show laterF (M l) (hs.take (k + 1)) = addH (laterF (M l) (hs.take k)) (x0, x1, x2, x3, x4, x5, x6) by rw [List.take_add_one, Hx.out]; exact laterF_snoc _ _ _)
      by_cases hm : (x0, x1, x2, x3, x4, x5, x6) ∈ laterF (M l) (hs.take k)
      · have hmd : decide (((x0, x1, x2, x3, x4, x5, x6) : Hd) ∈ laterF (M l) (hs.take k)) = true := by simpa using hm
        have HS' := hide (show laterF (M l) (hs.take (k + 1)) = laterF (M l) (hs.take k) by rw [HS.out, addH, if_pos hm])
        clear hm
        rw [hmd]
        go_wp2_with fail
        go_roundw
        case rel => exact ⟨k + 1, by omega, by go_num, Fk, fk, by rw [HS'.out]; exact { hR2 with map := hR2.map.mono (by omega) }, HF.out, HKr.out⟩
        case measure => simp [intOf]; omega
      · have hmd : decide (((x0, x1, x2, x3, x4, x5, x6) : Hd) ∈ laterF (M l) (hs.take k)) = false := by simpa using hm
        have HS' := hide (show laterF (M l) (hs.take (k + 1)) = laterF (M l) (hs.take k) ++ [(x0, x1, x2, x3, x4, x5, x6)] by rw [HS.out, addH, if_neg hm])
        clear hm
        rw [hmd]
        obtain ⟨hc2, hf2⟩ := bcell hB2'
        have hwlt : wr.heap.size < W1.heap.size := hbl.lt
        have hpal : pa < W1.heap.size := hR1.box.lt
        have g0 : W2.cell? ⟨pa, 0, none⟩ = some (.map (some bm)) := (hc2 _ _ hpal).trans hbox0
        have q0 := (hc2 _ _ hwlt).trans e0
        have q1 := (hc2 _ _ hwlt).trans e1
        have q2 := (hc2 _ _ hwlt).trans e2
        have q3 := (hc2 _ _ hwlt).trans e3
        have q4 := (hc2 _ _ hwlt).trans e4
        have q5 := (hc2 _ _ hwlt).trans e5
        have q6 := (hc2 _ _ hwlt).trans e6
        clear e0 e1 e2 e3 e4 e5 e6 hbox0 hrun1 hrunD hc2 hf2
        obtain ⟨A2, c2, hfk2, hrun2, hown2⟩ := hR2.drew.look hl
        rw [Hl.out] at hfk2 hrun2 hown2
        obtain ⟨i0, hi, hz0, hz1, hz2⟩ := info_parts head_info
        have hbW2 : base ≤ W2.heap.size := hR2.bz
        have hrunA := ((hR2.below ((Below.refl W2.heap.size W2).alloc (Nat.le_refl _) (.cells #[.int .i64 x0, .int .i64 x1, .int .i64 x2, .int .i64 x3, .int .i64 x4, .int .i64 x5, .int .i64 x6] 46))).drew).map.look Tryd.underlying3 Tryd.underlying51 (zero33 _) hl
        rw [hfk2] at hrunA
        have hp2 : pa < W2.heap.size := Nat.lt_of_lt_of_le hpal hB2'.size
        have hw2 : wr.heap.size < W2.heap.size := Nat.lt_of_lt_of_le hwlt hB2'.size
        have hvne : (Value.slice A2 (laterF (M l) (hs.take k)).length c2).ownBlock ≠ some bm := fun e => by
          have := (own_base hown2 e).1
          have := hR2.bmb
          omega
        have hvpa : (Value.slice A2 (laterF (M l) (hs.take k)).length c2).ownBlock ≠ some pa := fun e => by
          have := (own_base hown2 e).1
          have := hR2.pab
          omega
        have hvwr : (Value.slice A2 (laterF (M l) (hs.take k)).length c2).ownBlock ≠ some wr.heap.size := fun e => absurd (hR.lt _ (hR.hrow l _ hl (by rw [hfk2]; exact e))) (Nat.lt_irrefl _)
        go_wp2_with fail
        have hS2 : LatS pa bm wr.heap.size l (.slice A2 (laterF (M l) (hs.take k)).length c2) (x0, x1, x2, x3, x4, x5, x6) W2.drew := ⟨g0, q0, q1, q2, q3, q4, q5, q6, hrun2⟩
        have hW : W2.drew.grownBy (W2.alloc (.cells #[.int .i64 x0, .int .i64 x1, .int .i64 x2, .int .i64 x3, .int .i64 x4, .int .i64 x5, .int .i64 x6] 46)).drew none := by
          have h0 := World.grownBy_alloc W2 (.cells #[.int .i64 x0, .int .i64 x1, .int .i64 x2, .int .i64 x3, .int .i64 x4, .int .i64 x5, .int .i64 x6] 46) none
          exact ⟨h0.os, h0.tape, h0.output, h0.size, h0.block⟩
        have hSA : LatS pa bm wr.heap.size l (.slice A2 (laterF (M l) (hs.take k)).length c2) (x0, x1, x2, x3, x4, x5, x6) (W2.alloc (.cells #[.int .i64 x0, .int .i64 x1, .int .i64 x2, .int .i64 x3, .int .i64 x4, .int .i64 x5, .int .i64 x6] 46)).drew :=
          hS2.grown hW (by simp) (by simp) hp2 hw2 hrunA
        have hne1 : ¬ pa = W2.heap.size := by omega
        have hne2 : ¬ wr.heap.size = W2.heap.size := by omega
        go_region_law
          (first | (refine step_append_any _ (by rfl) _ _ 33 (by rfl) base 46 i0 _ 7 56 Tryd.underlying33 hi hz0 hz1 hz2 rfl (by omega) (.slice A2 (laterF (M l) (hs.take k)).length c2) (laterF (M l) (hs.take k)).length (heads (laterF (M l) (hs.take k))) (by rfl) ((World.ownsRow.alloc (w := W2) hown2 _).drew) (W2.heap.size + 1) (some ⟨W2.heap.size, 0, none⟩) 1 1 (Hd.vals (x0, x1, x2, x3, x4, x5, x6)) (by rfl) (Reads.new W2 #[.int .i64 x0, .int .i64 x1, .int .i64 x2, .int .i64 x3, .int .i64 x4, .int .i64 x5, .int .i64 x6] 46 1 7 rfl) (by simp [Hd.vals, Value.oneCell']) (by simp only [maxLen]; omega) (by omega) (by simp; omega) ?_; intro A3 c3 w3 hown3 hg3 hloc3; have hmap3 : IntMap Tryd.prog 3 w3 bm (N + k) (.slice none 0 0) fk := (IntMap.drew (hR2.map.alloc _)).kept hg3 (fun e => hvne e.symm); have hrun3 := hmap3.look Tryd.underlying3 Tryd.underlying51 (zero33 _) hl; rw [hfk2] at hrun3; have hS3 := hSA.grown hg3 (fun e => hvpa e.symm) (fun e => hvwr e.symm) (by simp; omega) (by simp; omega) hrun3; obtain ⟨w4, hrunS, hmap4, hg4⟩ := hmap3.store Tryd.underlying3 Tryd.underlying51 (by simp only [maxLen]; omega) hl (.slice A3 ((laterF (M l) (hs.take k)).length + 1) c3)))
        all_goals
          have hKa : Keeps (fun g => (fk l).ownBlock = some g) W2 w3 := by
            refine (((Keeps.refl _ W2).alloc _).drew).grown hg3 (fun g hg => .inl ?_)
            rw [hfk2]
            exact hg
          have hput := hR2.put hl hKa (v' := .slice A3 ((laterF (M l) (hs.take k)).length + 1) c3) (hs' := laterF (M l) (hs.take k) ++ [(x0, x1, x2, x3, x4, x5, x6)])
            (by rw [heads_append]; simpa [heads] using hown3) (by
              rcases hloc3 with h | h
              · exact .inr (.inl (by rw [hfk2]; exact h))
              · exact .inr (.inr ⟨_, h, by simp⟩)) hmap4 hg4
          rw [upd_upd, ← HS'.out] at hput
          have hF4 : ∀ g, (Fk g ∨ (Value.slice A3 ((laterF (M l) (hs.take k)).length + 1) c3).ownBlock = some g) → F g ∨ w.heap.size ≤ g := by
            intro g hg
            rcases hg with hg | hg
            · exact HF.out g hg
            · rcases hloc3 with h | h
              · rw [h] at hg
                exact HF.out g (hR2.hrow l g hl (by rw [hfk2]; exact hg))
              · rw [h] at hg
                have := HKr.out.size
                simp at hg
                omega
          have hK4 : Keeps F w w4 := by
            have h1 : Keeps F w w3 := ((HKr.out.alloc _).drew).grown hg3 (fun g hg => HF.out g (hR2.hrow l g hl (by rw [hfk2]; exact hg)))
            exact h1.grown hg4 (fun g hg => by injection hg with hg; subst hg; exact .inl Hh.out.hbm)
          clear hown3 hg3 hloc3 hmap3 hmap4 hg4 hown2 hrun2 hrun3 hS3 hrunS hS2 hSA
          have HP := hide hput
          have HF4 := hide hF4
          have HK4 := hide hK4
          clear hput hF4 hK4
          go_wp2
          go_roundw
          case rel => exact ⟨k + 1, by omega, by go_num, _, _, HP.out, HF4.out, HK4.out⟩
          case measure => simp [intOf]; omega
    · have hke : List.take k hs = hs := List.take_of_length_le (by rw [Hlen.out]; omega)
      obtain ⟨A1, c1, hf1, hrun1, hown1⟩ := hR.look hl
      rw [Hl.out, hke] at hf1 hrun1 hown1
      have hpa1 : wr.cell? ⟨pa, 0, none⟩ = some (.map (some bm)) := by have := hR.box.cell 0; simpa using this
      have HI : Hid (LaterInv w F pa bm base N M l hs n wr) := by
        refine ⟨Fk, fk, ?_, HF.out, hK⟩
        have hkn : k = n := by omega
        rw [← hkn]
        exact hR
      clear hke hf1 hown1
      go_wp2
      go_ret
      exact ⟨rfl, HI.out⟩
end Go.Proofs.YtlclifhpmnfopaaDoor
