/-
  Put.
-/
import Derived.Test.YtgfpikelbemkiaaB
namespace Go.Proofs.Ytgfpikelbemkiaa
open Go.RowKit

def EV.bytes (x : EV) : List Int := [x.kind, x.a, x.b, x.c]
def putL (l : List EV) : List Int := l.flatMap EV.bytes
theorem putL_length (l : List EV) : (putL l).length = 4 * l.length := by
  induction l with
  | nil => rfl
  | cons x l ih => simp only [putL, List.flatMap_cons, List.length_append] at ih ⊢; rw [ih]; simp [EV.bytes]; omega
theorem u8_info : (Try.prog.info? 5).map (fun i => (i.zero, i.size, i.bytes)) = some (some (.int .u8 0), 1, 1) := by kernel_rfl
def PutPost (w : World) (l : List EV) (n : Nat) (r : Ending) (w' : World) : Prop :=
  ((∀ x ∈ l, okE x) ∧ ∃ A' c', r = .returned (.tuple #[.slice A' (4 * n) c', .int .i64 0]) ∧ w'.ownsRow w.heap.size 5 1 (.slice A' (4 * n) c') (4 * n) (u8s (putL l)) ∧ Below w.heap.size w w') ∨
  ((∃ x ∈ l, ¬ okE x) ∧ r = .returned (.tuple #[.slice none 0 0, .int .i64 1]) ∧ Below w.heap.size w w')

set_option maxRecDepth 20000 in
set_option maxHeartbeats 4000000 in
theorem put_any (A : Option Addr) (n c : Nat) (l : List EV) (w : World) (hn : n ≤ 100000) (hr : Reads w w.heap.size 4 A n (rowC EV.cells l)) :
    Calls Try.prog 11 #[.slice A n c] w (PutPost w l n) := by
  obtain ⟨i0, hi, hz0, hz1, hz2⟩ := info_parts u8_info
  have hl1 : l.length = n := by have := hr.1; rw [rowC_length EV.cells 4 EV.cells_len] at this; omega
  have HL := hide hl1
  have HR := hide hr
  clear hr hl1
  go_enter Try.func11, Try.ntmps11
  go_wp2_with fail
  go_loopw [4, 9] (fun v i wr => ∃ (k m : Nat) (A1 : Option Addr) (cc : Nat), Hid (m = 4 * k) ∧ k ≤ n ∧ i = .int .i64 k ∧ v = .slice A1 m cc ∧ Hid (∀ x ∈ l.take k, okE x) ∧ Hid (wr.ownsRow w.heap.size 5 1 (.slice A1 m cc) m (u8s (putL (l.take k)))) ∧ Hid (Below w.heap.size w wr)) (fun _ i _ => n - (intOf i).toNat)
  case atStart => exact ⟨0, 0, none, 0, rfl, Nat.zero_le _, rfl, rfl, hide (fun x hx => by cases hx), World.ownsRow_nil _ _ _ _, Below.refl _ _⟩
  case round =>
    obtain ⟨k, m, A1, cc, hkm, hk, rfl, rfl, hok, hown, hb⟩ := hrel
    have hm : m ≤ 400000 := by have := hkm.out; omega
    by_cases hlt : k < n
    · obtain ⟨b, off, x, rfl, hbb, hx, hat⟩ := HR.out.row_at EV.cells 4 EV.cells_len (by omega) hlt
      have HX := hide hx
      have HT := hide (take_snoc _ _ _ hx)
      obtain ⟨kind, xa, xb, xc⟩ := x
      have d0 : wr.cell? ⟨b, off + k * 4, none⟩ = some (.int .i64 kind) := cell_keep (hat 0 _ rfl) hb.out
      have d1 : wr.cell? ⟨b, off + k * 4 + 1, none⟩ = some (.int .i64 xa) := cell_keep (hat 1 _ rfl) hb.out
      have d2 : wr.cell? ⟨b, off + k * 4 + 2, none⟩ = some (.int .i64 xb) := cell_keep (hat 2 _ rfl) hb.out
      have d3 : wr.cell? ⟨b, off + k * 4 + 3, none⟩ = some (.int .i64 xc) := cell_keep (hat 3 _ rfl) hb.out
      have hba := hide (below_new wr (.cells #[.int .i64 kind, .int .i64 xa, .int .i64 xb, .int .i64 xc] 27))
      have hbx := hide (Blk.new wr 27 #[.int .i64 kind, .int .i64 xa, .int .i64 xb, .int .i64 xc])
      clear hat hx
      go_wp2_with fail
      refine (right_any ⟨kind, xa, xb, xc⟩ _).mono ?_
      rintro r w2 ⟨rfl, hb2⟩
      have HB2 := hide (below0 (below0 hb.out hba.out) hb2)
      have HO2 := hide (own_below (own_below hown.out hba.out) hb2)
      have hx2 := hbx.out.below hb2 hbx.out.lt
      obtain ⟨e0, e1, e2, e3⟩ := (⟨hx2.cell 0, hx2.cell 1, hx2.cell 2, hx2.cell 3⟩ : w2.cell? ⟨wr.heap.size, 0, none⟩ = some (.int .i64 kind) ∧ w2.cell? ⟨wr.heap.size, 1, none⟩ = some (.int .i64 xa) ∧ w2.cell? ⟨wr.heap.size, 2, none⟩ = some (.int .i64 xb) ∧ w2.cell? ⟨wr.heap.size, 3, none⟩ = some (.int .i64 xc))
      have hbs := HB2.out.size
      clear hx2 hb2 hba hbx d0 d1 d2 d3
      by_cases hkx : okE ⟨kind, xa, xb, xc⟩
      · have HD := hide (decide_eq_true hkx)
        rw [HD.out]
        have HN := hide (show ∀ x ∈ l.take (k + 1), okE x by
          rw [HT.out]
          intro y hy
          rcases List.mem_append.1 hy with hy | hy
          · exact hok.out y hy
          · obtain rfl := List.mem_singleton.1 hy
            exact hkx)
        obtain ⟨g1, g2, g3, g4, g5, g6, g7, g8⟩ := hkx
        dsimp only at g1 g2 g3 g4 g5 g6 g7 g8
        clear HD
        go_wp2_with (first
          | (at_builtin
             refine wpList_append_any _ rfl (.tmp 16) (.tmp 29) 22 rfl w.heap.size 5 i0 _ 1 1 Try.underlying22 hi hz0 hz1 hz2 rfl (by omega) (.slice A1 m cc) m (u8s (putL (l.take k))) rfl
               (HO2.out.alloc _) (w2.heap.size + 1) (some ⟨w2.heap.size, 0, none⟩) 4 4 (u8s [kind, xa, xb, xc]) rfl (Reads.new w2 #[.int .u8 kind, .int .u8 xa, .int .u8 xb, .int .u8 xc] 5 4 1 rfl) (u8s_one _) (by simp only [maxLen]; omega) (by omega) (by simp; omega) ?_
             intro A3 c3 w3 hown3 hg3 hloc3
             have HB3 := hide ((HB2.out.alloc HB2.out.size (.cells #[.int .u8 kind, .int .u8 xa, .int .u8 xb, .int .u8 xc] 5)).grown hg3 (by simp; omega) (fun g hg => (own_base hown.out hg).1))
             have HO3 := hide hown3
             clear hown3 hg3 hloc3))
        go_roundw
        case rel => exact ⟨k + 1, m + 4, A3, c3, (by have := hkm.out; exact hide (by omega)), by omega, by go_num, rfl, HN, by rw [HT.out]; apply hide; simpa [putL, u8s, EV.bytes] using HO3.out, HB3⟩
        case measure => simp [intOf]; omega
      · have HD := hide (decide_eq_false hkx)
        rw [HD.out]
        have HK := hide hkx
        clear hkx HD
        go_wp2_with fail
        go_ret2
        exact .inr ⟨⟨_, List.mem_of_getElem? HX.out, HK.out⟩, rfl, HB2.out⟩
    · have hkn : k = n := by omega
      have HKN := hide hkn
      have HT := hide (show l.take k = l from List.take_of_length_le (by rw [HL.out]; omega))
      clear hkn
      go_wp2
      go_ret2
      rw [HT.out] at hown hok
      have e : m = 4 * n := by have := hkm.out; have := HKN.out; omega
      subst e
      exact .inl ⟨hok.out, A1, cc, rfl, hown.out, hb.out⟩
end Go.Proofs.Ytgfpikelbemkiaa
