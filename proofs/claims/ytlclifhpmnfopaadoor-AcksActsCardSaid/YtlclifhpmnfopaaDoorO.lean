/-
  The walk of AcksOnce.
-/
import Derived.Test.YtlclifhpmnfopaaDoorN
namespace Go.Proofs.YtlclifhpmnfopaaDoor
open Go.RowKit

def G0 (k : Nat) : Nat → Prop := fun g => g = k
theorem ref_new (w : World) : RefRep (w.alloc (.cells #[.slice none 0 0] 32)) (G0 w.heap.size) w.heap.size (w.heap.size + 1) [] none 0 where
  box := Blk.new w 32 #[.slice none 0 0]
  own := World.ownsRow_nil _ _ _ _
  hpx := rfl
  hrow := fun g h => by simp [Value.ownBlock] at h
  pxb := by omega
  lt := fun g hg => by subst hg; simp
  bz := by simp

theorem both_new {w0 w1 w2 : World} (hb : Below w0.heap.size w0 w1) (hA : AckRep w2 (F0 w1.heap.size) (w1.heap.size + 1) w1.heap.size (w1.heap.size + 2) 0 (fun _ => []) (fun _ => .slice none 0 0)) (hb2 : Below w1.heap.size w1 w2) :
    Both w0 (w2.alloc (.cells #[.slice none 0 0] 32)) (w1.heap.size + 1) w1.heap.size (w1.heap.size + 2) 0 (fun _ => []) w2.heap.size (w2.heap.size + 1) [] := by
  have h1 := hb.size
  have h2 := hA.bz
  refine ⟨_, _, _, _, _, hA.below ((Below.refl _ _).alloc (Nat.le_refl _) _), ref_new w2, fun g hg hG => ?_, fun g hg => ?_, fun g hg => ?_, (below0 hb hb2).alloc (by omega) _⟩
  · rcases hg with rfl | rfl <;> (have hG' : _ = w2.heap.size := hG; omega)
  · rcases hg with rfl | rfl <;> omega
  · have hG' : g = w2.heap.size := hg
    omega

set_option maxHeartbeats 4000000 in
theorem acksOnce_walk (l : Int) (A : Option Addr) (n c : Nat) (hs : List Hd) (ag : Int) (w : World) (h : HasTable w) (hp : 0 < w.heap.size) (hl : Wf l) (hr : Reads w w.heap.size 7 A n (heads hs)) (ha0 : 0 ≤ ag) (ha1 : ag < 256) :
    Calls Tryd.prog 6 #[.int .i64 l, .slice A n c, .int .u8 ag] w fun r w' => r = .returned (.bool true) ∧ Below w.heap.size w w' := by
  have hlen : hs.length = n := by have := hr.1; rw [heads_length] at this; omega
  have Hlen := hide hlen
  clear hlen
  have HT := hide h
  have HP := hide hp
  have HR := hide hr
  clear h hp hr
  go_enter Tryd.func6, Tryd.ntmps6
  go_wp2_with fail
  refine (wakes_any _ HT.out HP.out).mono ?_
  rintro r w1 ⟨rfl, hb1⟩
  have HB1 := hide hb1
  clear hb1
  by_cases hn : 60 < n
  · go_wp2
    go_ret
    exact ⟨rfl, HB1.out⟩
  · go_wp2_with fail
    refine (new_any _).mono ?_
    rintro r w2 ⟨rfl, hA, hb2⟩
    have HB := hide (both_new HB1.out hA hb2)
    clear hA hb2 
    go_wp2_with fail
    refine (both_refLater HB.out HR.out (by omega) (by simp)).mono ?_
    rintro r w3 ⟨rfl, hB3⟩
    have HB3 := hide hB3
    clear hB3 HB
    have HO := hide (ofF_laterR l hs [])
    obtain ⟨z, hz⟩ : ∃ z, z = (ofF l (laterR l [] hs)).length := ⟨_, rfl⟩
    have hzle : z ≤ n := by
      have h1 := ofF_le l (laterR l [] hs)
      have h2 := laterR_le l hs []
      have h3 := Hlen.out
      simp at h2
      omega
    rw [← hz]
    have Hz := hide hz
    clear hz
    go_wp2_with fail
    go_loopw [26] (fun i wr => ∃ k N : Nat, ∃ M, (k : Int) ≤ 1 + ag % 5 ∧ i = .int .i64 k ∧ N ≤ k * 60 ∧ (∃ hd : (k = 0 ∧ M = (fun _ => [])) ∨ (0 < k ∧ M = upd (fun _ => []) l (laterF [] hs)), Both w wr (w1.heap.size + 1) w1.heap.size (w1.heap.size + 2) N M w2.heap.size (w2.heap.size + 1) (laterR l [] hs))) (fun i _ => 6 - (intOf i).toNat)
    case atStart => exact ⟨0, 0, _, by omega, rfl, by omega, .inl ⟨rfl, rfl⟩, HB3.out⟩
    case round =>
      obtain ⟨k, N, M, hk, rfl, hN, hM, hB⟩ := hrel
      have HB := hide hB
      clear hB
      have HM := hide hM
      clear hM
      have hk6 : k ≤ 6 := by omega
      by_cases hlt : (k : Int) < 1 + ag % 5
      · have hMl : laterF (M l) hs = laterF [] hs := by
          rcases HM.out with ⟨_, rfl⟩ | ⟨_, rfl⟩
          · rfl
          · rw [upd_same, laterF_again]
        have hMl2 : (M l).length ≤ 100000 := by
          rcases HM.out with ⟨_, rfl⟩ | ⟨_, rfl⟩
          · simp
          · rw [upd_same]
            have := laterF_le hs []
            have h3 := Hlen.out
            simp at this
            omega
        have hMu : upd M l (laterF [] hs) = upd (fun _ => []) l (laterF [] hs) := by
          rcases HM.out with ⟨_, rfl⟩ | ⟨_, rfl⟩
          · rfl
          · rw [upd_upd]
        have HMl := hide hMl
        have HMu := hide hMu
        clear hMl hMu
        go_wp2_with fail
        refine (both_later HB.out hl HR.out (by omega) (by omega) hMl2).mono ?_
        rintro r w4 ⟨rfl, hB4⟩
        rw [HMl.out, HMu.out] at hB4
        have hz1 : (laterF (M l) hs).length = z := by rw [Hz.out, HMl.out, HO.out]; rfl
        rw [hz1]
        clear hz1
        have HB4 := hide hB4
        clear hB4
        go_wp2
        go_roundw
        case rel => exact ⟨k + 1, N + n, _, by omega, by go_num, by omega, .inr ⟨by omega, rfl⟩, HB4.out⟩
        case measure => simp [intOf]; omega
      · have hMe : M = upd (fun _ => []) l (laterF [] hs) := by
          rcases HM.out with ⟨h0, _⟩ | ⟨_, rfl⟩
          · omega
          · rfl
        subst hMe
        have hMl : (upd (fun _ => []) l (laterF [] hs) l) = laterF [] hs := upd_same _ _ _
        have hzl : (laterF [] hs).length = z := by rw [Hz.out, HO.out]; rfl
        have HMl := hide hMl
        have HZL := hide hzl
        clear hMl hzl
        go_wp2_with fail
        refine (both_take HB.out hl (by rw [HMl.out, HZL.out]; omega)).mono ?_
        rintro r w4 ⟨⟨A4, c4, vs, rfl, ho4, hP4⟩, hB4⟩
        rw [upd_upd] at hB4
        rw [HMl.out, HZL.out] at ho4 hP4 ⊢
        have HB4 := hide hB4
        clear hB4
        go_wp2_with fail
        have hrl : (laterR l [] hs).length ≤ 100000 := by
          have h2 := laterR_le l hs []
          have h3 := Hlen.out
          simp at h2
          omega
        refine (both_of HB4.out l hrl).mono ?_
        rintro r w5 ⟨⟨A5, c5, rfl, ho5, hb5⟩, hB5⟩
        have ho4' := (Keeps.of_below (F := fun _ => False) hb5).own ho4 (fun _ _ h => h)
        have hP4' := hP4.below hb5
        have hcap := own_cap ho5
        have hrd5 := Reads.of_own ho5
        rw [HO.out, show ofF l [] = [] from rfl, HZL.out] at hcap hrd5 ⊢
        have HB5 := hide hB5
        have HQ := hide (⟨ho4', hP4', hrd5⟩ : w5.ownsRow wr.heap.size 33 1 (.slice A4 ((z + 2) / 3) c4) ((z + 2) / 3) vs ∧ PiecesAt w5 wr.heap.size vs (laterF [] hs) ((z + 2) / 3) ∧ Reads w5 w5.heap.size 7 A5 z (heads (laterF [] hs)))
        clear hB5 ho4 hP4 ho4' hP4' hrd5 ho5 hb5
        go_wp2_with fail
        refine (lawPieces_any A5 A4 z c5 c4 _ (laterF [] hs) vs _ (by omega) hcap.1 hcap.2 HQ.out.2.2 HQ.out.1 HQ.out.2.1).mono ?_
        rintro r w6 ⟨rfl, hb6⟩
        have HB6 := hide (HB5.out.below hb6)
        clear hb6 hcap
        have e0 : (upd (fun _ => ([] : List Hd)) l [] l).length = 0 := by rw [upd_same]; rfl
        go_wp2_with fail
        refine (both_len HB6.out hl).mono ?_
        rintro r w7 ⟨rfl, hB7⟩
        have HB7 := hide hB7
        clear hB7
        rw [e0]
        go_wp2_with fail
        refine (both_take HB7.out hl (by rw [e0]; omega)).mono ?_
        rintro r w8 ⟨⟨A8, c8, vs8, rfl, _, _⟩, hB8⟩
        rw [e0]
        rw [upd_upd] at hB8
        have HB8 := hide hB8
        clear hB8
        go_wp2_with fail
        refine (both_drop HB8.out hl).mono ?_
        rintro r w9 ⟨rfl, hB9⟩
        rw [e0]
        have HB9 := hide hB9.frame
        clear hB9
        go_wp2
        go_ret
        exact ⟨ret_bool rfl, HB9.out⟩
end Go.Proofs.YtlclifhpmnfopaaDoor
