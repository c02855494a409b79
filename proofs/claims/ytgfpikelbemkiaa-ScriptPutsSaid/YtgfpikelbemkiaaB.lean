/-
  The reference's Get.
-/
import Derived.Test.YtgfpikelbemkiaaA
import Derived.IntWalk
namespace Go.Proofs.Ytgfpikelbemkiaa
open Go.RowKit

def entryAt (bs : List Int) (j : Nat) : EV := ⟨bs.getD (4 * j) 0 % 11, bs.getD (4 * j + 1) 0, bs.getD (4 * j + 2) 0, bs.getD (4 * j + 3) 0⟩
def getN (bs : List Int) (k : Nat) : List EV := (List.range k).map (entryAt bs)
theorem getN_succ (bs : List Int) (k : Nat) : getN bs (k + 1) = getN bs k ++ [entryAt bs k] := by simp [getN, List.range_succ]
theorem getN_length (bs : List Int) (k : Nat) : (getN bs k).length = k := by simp [getN]
theorem ev_info : (Try.prog.info? 27).map (fun i => (i.zero, i.size, i.bytes)) = some (some (.agg #[.int .i64 0, .int .i64 0, .int .i64 0, .int .i64 0]), 4, 32) := by kernel_rfl

abbrev GetS (b o0 o1 o2 o3 : Nat) (z0 z1 z2 z3 : Int) (w : World) : Prop := w.cell? ⟨b, o0, none⟩ = some (.int .u8 z0) ∧ w.cell? ⟨b, o1, none⟩ = some (.int .u8 z1) ∧ w.cell? ⟨b, o2, none⟩ = some (.int .u8 z2) ∧ w.cell? ⟨b, o3, none⟩ = some (.int .u8 z3)

set_option maxRecDepth 20000 in
set_option maxHeartbeats 4000000 in
theorem refGet_any (A : Option Addr) (n c : Nat) (bs : List Int) (w : World) (hn : n ≤ 100000) (hr : Reads w w.heap.size 1 A n (u8s bs)) (hby : ∀ z ∈ bs, 0 ≤ z ∧ z < 256) :
    Calls Try.prog 9 #[.slice A n c] w fun r w' => ∃ A' c', r = .returned (.slice A' (n / 4) c') ∧ w'.ownsRow w.heap.size 27 4 (.slice A' (n / 4) c') (n / 4) (rowC EV.cells (getN bs (n / 4))) ∧ Below w.heap.size w w' := by
  obtain ⟨i0, hi, hz0, hz1, hz2⟩ := info_parts ev_info
  have HR := hide hr
  have HBY := hide hby
  clear hr hby
  go_enter Try.func9, Try.ntmps9
  go_wp2_with fail
  go_loopw [3, 4] (fun v i wr => ∃ (k m : Nat) (A1 : Option Addr) (cc : Nat), Hid (m = 4 * k) ∧ m ≤ n ∧ i = .int .i64 m ∧ v = .slice A1 k cc ∧ Hid (wr.ownsRow w.heap.size 27 4 (.slice A1 k cc) k (rowC EV.cells (getN bs k))) ∧ Hid (Below w.heap.size w wr)) (fun _ i _ => n - (intOf i).toNat)
  case atStart => exact ⟨0, 0, none, 0, rfl, Nat.zero_le _, rfl, rfl, World.ownsRow_nil _ _ _ _, Below.refl _ _⟩
  case round =>
    obtain ⟨k, m, A1, cc, hkm, hk, rfl, rfl, hown, hb⟩ := hrel
    by_cases hlt : m + 4 ≤ n
    · obtain ⟨b, off, z0, rfl, hbb, hz0', h0⟩ := HR.out.byte_at (k := m) (by omega)
      obtain ⟨_, _, z1, hA, _, hz1', h1⟩ := HR.out.byte_at (k := m + 1) (by omega)
      cases hA
      obtain ⟨_, _, z2, hA, _, hz2', h2⟩ := HR.out.byte_at (k := m + 2) (by omega)
      cases hA
      obtain ⟨_, _, z3, hA, _, hz3', h3⟩ := HR.out.byte_at (k := m + 3) (by omega)
      cases hA
      obtain ⟨l0, g0⟩ := HBY.out z0 (List.mem_of_getElem? hz0')
      obtain ⟨l1, g1⟩ := HBY.out z1 (List.mem_of_getElem? hz1')
      obtain ⟨l2, g2⟩ := HBY.out z2 (List.mem_of_getElem? hz2')
      obtain ⟨l3, g3⟩ := HBY.out z3 (List.mem_of_getElem? hz3')
      have HE := hide (show entryAt bs k = ⟨z0 % 11, z1, z2, z3⟩ by
        have e := hkm.out
        simp only [entryAt, ← e, List.getD_eq_getElem?_getD, hz0', hz1', hz2', hz3', Option.getD_some])
      have d0 : wr.cell? ⟨b, off + m, none⟩ = some (.int .u8 z0) := cell_keep h0 hb.out
      have d1 : wr.cell? ⟨b, off + (m + 1), none⟩ = some (.int .u8 z1) := cell_keep h1 hb.out
      have d2 : wr.cell? ⟨b, off + (m + 2), none⟩ = some (.int .u8 z2) := cell_keep h2 hb.out
      have d3 : wr.cell? ⟨b, off + (m + 3), none⟩ = some (.int .u8 z3) := cell_keep h3 hb.out
      have hkk : k ≤ 100000 := by have := hkm.out; omega
      have hbs := hb.out.size
      have hone := EV.cells_one ⟨z0 % 11, z1, z2, z3⟩
      clear hz0' hz1' hz2' hz3'
      go_wp2_with fail
      have hk1 : IntKind.i64.wrap (↑m + 1) = ↑m + 1 := IntWalk.i64_in _ (by omega)
      have hk2 : IntKind.i64.wrap (↑m + 2) = ↑m + 2 := IntWalk.i64_in _ (by omega)
      have hk3 : IntKind.i64.wrap (↑m + 3) = ↑m + 3 := IntWalk.i64_in _ (by omega)
      have p1 : (0 : Int) ≤ ↑m + 1 := by omega
      have p2 : (0 : Int) ≤ ↑m + 2 := by omega
      have p3 : (0 : Int) ≤ ↑m + 3 := by omega
      have u0 : (m : Int) < (n : Int) := by omega
      have u1 : (m : Int) + 1 < (n : Int) := by omega
      have u2 : (m : Int) + 2 < (n : Int) := by omega
      have u3 : (m : Int) + 3 < (n : Int) := by omega
      have p0 : (0 : Int) ≤ (m : Int) := by omega
      have t1 : ((m : Int) + 1).toNat = m + 1 := by omega
      have t2 : ((m : Int) + 2).toNat = m + 2 := by omega
      have t3 : ((m : Int) + 3).toNat = m + 3 := by omega
      have v0 : IntKind.i64.wrap z0 = z0 := IntWalk.i64_in _ (by omega)
      have v1 : IntKind.i64.wrap z1 = z1 := IntWalk.i64_in _ (by omega)
      have v2 : IntKind.i64.wrap z2 = z2 := IntWalk.i64_in _ (by omega)
      have v3 : IntKind.i64.wrap z3 = z3 := IntWalk.i64_in _ (by omega)
      have v4 : z0.tmod 11 = z0 % 11 := Int.tmod_eq_emod_of_nonneg l0
      have hS0 : GetS b (off + m) (off + (m + 1)) (off + (m + 2)) (off + (m + 3)) z0 z1 z2 z3 wr.drew := ⟨d0, d1, d2, d3⟩
      have hba := (below_new wr (.cells #[.int .i64 (z0 % 11), .int .i64 z1, .int .i64 z2, .int .i64 z3] 27)).drew
      have hSA : GetS b (off + m) (off + (m + 1)) (off + (m + 2)) (off + (m + 3)) z0 z1 z2 z3 (wr.alloc (.cells #[.int .i64 (z0 % 11), .int .i64 z1, .int .i64 z2, .int .i64 z3] 27)).drew := ⟨cell_keep d0 hba, cell_keep d1 hba, cell_keep d2 hba, cell_keep d3 hba⟩
      clear d0 d1 d2 d3
      go_region_held3 (fun w' => GetS b (off + m) (off + (m + 1)) (off + (m + 2)) (off + (m + 3)) z0 z1 z2 z3 w') (first | assumption | ((repeat' apply And.intro) <;> first | assumption | go_keep))
        ((refine step_append_any _ (by rfl) _ _ 24 (by rfl) w.heap.size 27 i0 _ 4 32 Try.underlying24 hi hz0 hz1 hz2 rfl (by omega) (.slice A1 k cc) k (rowC EV.cells (getN bs k)) (by rfl) ((World.ownsRow.alloc (w := wr) hown.out _).drew) (wr.heap.size + 1) (some ⟨wr.heap.size, 0, none⟩) 1 1 (EV.cells ⟨z0 % 11, z1, z2, z3⟩) (by rfl)
            (Reads.new wr #[.int .i64 (z0 % 11), .int .i64 z1, .int .i64 z2, .int .i64 z3] 27 1 4 rfl) hone (by simp only [maxLen]; omega) (by omega) (by simp; omega) ?_
          intro A3 c3 w3 hown3 hg3 hloc3
          have hB3 := ((hb.out.alloc hb.out.size (.cells #[.int .i64 (z0 % 11), .int .i64 z1, .int .i64 z2, .int .i64 z3] 27)).drew).grown hg3 (by simp; omega) (fun g hg => (own_base hown.out hg).1)
          have hS3 : GetS b (off + m) (off + (m + 1)) (off + (m + 2)) (off + (m + 3)) z0 z1 z2 z3 w3 := ⟨cell_keep h0 hB3, cell_keep h1 hB3, cell_keep h2 hB3, cell_keep h3 hB3⟩))
      have HO3 := hide hown3
      have HB3 := hide hB3
      clear hown3 hB3 hS3 hSA hS0 hg3 hloc3 hba h0 h1 h2 h3 hk1 hk2 hk3 t1 t2 t3 v0 v1 v2 v3 v4
      go_wp2_with fail
      go_roundw
      case rel => exact ⟨k + 1, m + 4, A3, c3, (by have := hkm.out; exact hide (by omega)), by omega, by go_num, rfl, by rw [getN_succ, rowC_append, HE.out]; apply hide; simpa [rowC] using HO3.out, HB3⟩
      case measure => simp [intOf]; omega
    · have hkn : n / 4 = k := by have := hkm.out; omega
      have HKN := hide hkn
      clear hkn
      go_wp2
      go_ret
      rw [HKN.out]
      exact ⟨A1, cc, rfl, hown.out, hb.out⟩
end Go.Proofs.Ytgfpikelbemkiaa
