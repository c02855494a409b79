/-
  quad: Read, copied, Bytes, Num.
-/
import Derived.Test.YtdenfgnkbfbpmaaQuad
import Derived.Laws.CopyOwn
import Derived.Laws.OwnMore
import Derived.BigQuiet
import Derived.WalkMore
import Derived.StillTailTactics
namespace Go.Proofs.Ytdenfgnkbfbpmaa
open Go.RowKit

/-- a reader in memory -/
def RdRep (w : World) (base g : Nat) (bs : List Int) (at_ e : Int) : Prop :=
  base ≤ g ∧ ∃ A c, Blk w g 124 #[.slice A bs.length c, .int .i64 at_, .int .i64 e] ∧ w.ownsRow base 5 1 (.slice A bs.length c) bs.length (u8s bs)

set_option maxHeartbeats 2000000 in
theorem read_any (A : Option Addr) (n c : Nat) (bs : List Int) (w : World) (hn : n ≤ 100000) (hr : Reads w w.heap.size 1 A n (u8s bs)) :
    Calls Try.prog 36 #[.slice A n c] w fun r w' => ∃ g, r = .returned (.pointer (some ⟨g, 0, none⟩)) ∧ RdRep w' w.heap.size g bs 0 0 ∧ Below w.heap.size w w' := by
  obtain ⟨i0, hi, hz0, hz1, hz2⟩ := info_parts u8_info
  have HR := hide hr
  have HL := hide (show bs.length = n by have := hr.1; simpa [u8s] using this)
  clear hr
  go_enter Try.func36, Try.ntmps36
  go_wp2_with (first
    | (at_builtin
       refine wpList_append_any _ rfl (.const (.slice none 0 0)) (.tmp 3) 42 rfl w.heap.size 5 i0 _ 1 1 Try.underlying42 hi hz0 hz1 hz2 rfl (by omega) (.slice none 0 0) 0 [] rfl
         (World.ownsRow_nil _ _ _ _) w.heap.size A n c (u8s bs) rfl HR.out (u8s_one _) (by simp only [maxLen]; omega) (by omega) (by omega) ?_
       intro A3 c3 w3 hown3 hg3 hloc3
       have HB3 := hide ((Below.refl w.heap.size w).grown hg3 (Nat.le_refl _) (fun g hg => by simp [Value.ownBlock] at hg))
       have HO3 : Hid (w3.ownsRow w.heap.size 5 1 (.slice A3 n c3) n (u8s bs)) := hide (by simpa using hown3)
       clear hown3 hg3 hloc3))
  go_ret
  refine ⟨w3.heap.size, rfl, ⟨HB3.out.size, A3, c3, ?_, ?_⟩, HB3.out.alloc HB3.out.size _⟩
  · rw [HL.out]; exact Blk.new w3 _ _
  · rw [HL.out]; exact HO3.out.alloc _

set_option maxRecDepth 100000 in
set_option maxHeartbeats 2000000 in
theorem copied_any (A : Option Addr) (n c : Nat) (bs : List Int) (w : World) (hn : n ≤ 100000) (hr : Reads w w.heap.size 1 A n (u8s bs)) :
    Calls Try.prog 88 #[.slice A n c] w fun r w' => ∃ A' c', r = .returned (.slice A' n c') ∧ w'.ownsRow w.heap.size 5 1 (.slice A' n c') n (u8s bs) ∧ Below w.heap.size w w' := by
  have HR := hide hr
  have HL := hide (show bs.length = n by have := hr.1; simpa [u8s] using this)
  clear hr
  obtain ⟨i0, hi, hz0, hz1, hz2⟩ := info_parts u8_info
  have hsz : (Try.prog.info? 5).map (·.size) = some 1 := by rw [hi]; simp [hz1]
  obtain ⟨w1, hmk, hown1, hg1⟩ := run_makeSlice_full (P := Try.prog) w w.heap.size 42 5 i0 (.int .u8 0) 1 Try.underlying42 hi hz0 hz1 .i64 .i64 n (by omega) (by rw [hz2]; omega) (by simp only [maxLen]; omega) (Nat.le_refl _)
  have HB1 := hide ((Below.refl w.heap.size w).grown hg1 (Nat.le_refl _) (fun g hg => by cases hg))
  have HR1 := hide (HR.out.below HB1.out)
  obtain ⟨cur, hcur, hcz, hct⟩ : ∃ cur : List Value, w1.heap[w.heap.size]? = some (.cells cur.toArray 5 (0, 0)) ∧ cur.length = n ∧ True := by
    rcases hown1.2 with ⟨h0, _⟩ | ⟨g, cap, cur, h0, _, hh, _, _, hsz2, _⟩
    · cases h0
    · simp only [Value.slice.injEq, Option.some.injEq, Addr.mk.injEq, and_true, true_and] at h0
      obtain ⟨h0, h1⟩ := h0
      subst h0 h1
      exact ⟨cur.toList, by simpa using hh, by simpa using hsz2, trivial⟩
  have HC := hide hcur
  clear hown1 hg1 hcur hct
  go_enter Try.func88, Try.ntmps88
  go_wp2_with (with_reducible refine wpList_copy_splice rfl (.tmp 7) (.tmp 8) 42 42 rfl 5 Try.underlying42 hsz (some ⟨w.heap.size, 0, none⟩) A n n n c rfl rfl w.heap.size 0 cur 5 HC.out (u8s bs) (by rw [u8s_length, HL.out]; exact (Nat.min_self n).symm) ?c1 (by rw [u8s_length, HL.out]; omega) (u8s_one _) w.heap.size w HB1.out (Nat.le_refl _) ?c2)
  case c1 =>
    intro hp
    rw [u8s_length, HL.out] at hp
    obtain ⟨b, off, hA, _, hat⟩ := HR1.out.2 hp
    exact ⟨⟨b, off, none⟩, hA, fun j v hv => by rw [cell_add]; exact hat j v hv⟩
  case c2 =>
    intro w2 hh hb2
    have HB2 := hide hb2
    clear hb2
    go_wp2_with fail
    go_ret
    refine ⟨_, _, rfl, ⟨by rw [u8s_length, HL.out]; omega, .inr ⟨w.heap.size, n, _, rfl, Nat.le_refl _, hh.out, Nat.le_refl _, by simp only [maxLen]; omega, ?_, ?_⟩⟩, HB2.out⟩
    · simp [splice, u8s_length, HL.out]
      omega
    · rw [splice]
      simp [u8s_length, HL.out, List.drop_of_length_le, hcz]
      exact List.take_of_length_le (by rw [u8s_length, HL.out]; omega)

theorem u8s_drop (l : List Int) (k : Nat) : u8s (l.drop k) = (u8s l).drop k := by simp [u8s]
theorem u8s_take (l : List Int) (k : Nat) : u8s (l.take k) = (u8s l).take k := by simp [u8s]
theorem Reads.sub {w : World} {B n i m : Nat} {b off : Nat} {xs : List Value} (h : Reads w B 1 (some ⟨b, off, none⟩) n xs) (him : i + m ≤ n) (hm : 0 < m) : Reads w B 1 (some ⟨b, off + i, none⟩) m ((xs.drop i).take m) := by
  have hl := h.1
  refine ⟨by rw [List.length_take, List.length_drop]; omega, fun _ => ?_⟩
  obtain ⟨b', off', e, hb, hc⟩ := h.2 (by omega)
  simp only [Option.some.injEq, Addr.mk.injEq, and_true] at e
  obtain ⟨rfl, rfl⟩ := e
  refine ⟨b, off + i, rfl, hb, fun j u hu => ?_⟩
  have hj : j < m := by have := (List.getElem?_eq_some_iff.1 hu).1; simp at this; omega
  rw [List.getElem?_take_of_lt hj, List.getElem?_drop] at hu
  rw [Nat.add_assoc]
  exact hc _ _ hu

set_option maxRecDepth 100000 in
set_option maxHeartbeats 4000000 in
theorem rdBytes_ok (base g : Nat) (bs : List Int) (a m : Nat) (w : World) (h : RdRep w base g bs a 0) (hl : bs.length ≤ 100000) (hm : 0 < m) (ham : a + m ≤ bs.length) :
    Calls Try.prog 67 #[.pointer (some ⟨g, 0, none⟩), .int .i64 m] w fun r w' => ∃ A' c', r = .returned (.slice A' m c') ∧ w'.ownsRow w.heap.size 5 1 (.slice A' m c') m (u8s ((bs.drop a).take m)) ∧ RdRep w' base g bs ((a + m : Nat) : Int) 0 ∧ Keeps (fun x => x = g) w w' := by
  obtain ⟨hg, A, c, hb, hown⟩ := h
  obtain ⟨A', rfl⟩ : ∃ b, A = some ⟨b, 0, none⟩ := by
    obtain ⟨g', e, _⟩ := own_spare hown (by omega)
    exact ⟨g', e⟩
  have hne : A' ≠ g := fun e => own_blk_ne hown hb (by decide) (by rw [e]; rfl)
  have HOWN := hide hown
  have HB := hide hb
  have hcap : bs.length ≤ c := by
    rcases hown.2 with ⟨h0, _⟩ | ⟨g', cap, cur, h0, _, _, h1, _⟩
    · cases h0
    · cases h0; exact h1
  have c0 : w.cell? ⟨g, 0, none⟩ = some (.slice (some ⟨A', 0, none⟩) bs.length c) := hb.cell 0
  have c1 : w.cell? ⟨g, 1, none⟩ = some (.int .i64 a) := hb.cell 1
  have c2 : w.cell? ⟨g, 2, none⟩ = some (.int .i64 0) := hb.cell 2
  have f1 : w.frozen? ⟨g, 1, none⟩ = false := hb.frozen 1
  clear hb hown
  go_enter Try.func67, Try.ntmps67
  go_wp2_with fail
  go_step3
  go_wp2_with fail
  go_quiet (fail)
  have HQ := hide (below_drewN (Below.refl w.heap.size w) nq)
  have e0 : (w.drewN nq).cell? ⟨g, 0, none⟩ = some (.slice (some ⟨A', 0, none⟩) bs.length c) := c0
  have e1 : (w.drewN nq).cell? ⟨g, 1, none⟩ = some (.int .i64 a) := c1
  have e2 : (w.drewN nq).cell? ⟨g, 2, none⟩ = some (.int .i64 0) := c2
  have e3 : (w.drewN nq).frozen? ⟨g, 1, none⟩ = false := f1
  have HB1 := hide (HB.out.drewN nq)
  have HO1 : Hid ((w.drewN nq).ownsRow base 5 1 (.slice (some ⟨A', 0, none⟩) bs.length c) bs.length (u8s bs)) := hide (own_below HOWN.out (below_drewN (Below.refl _ _) nq))
  have HK1 : Hid (Keeps (fun x => x = g) w (w.drewN nq)) := hide ((Keeps.refl _ w).drewN nq)
  have hsz : (w.drewN nq).heap.size = w.heap.size := rfl
  have HSZ := hide hsz
  clear c0 c1 c2 f1 hsz
  generalize w.drewN nq = W at e0 e1 e2 e3 HB1 HO1 HK1 HSZ ⊢
  go_upto_region 6 with (fail)
  obtain ⟨q, hq⟩ : ∃ q : Nat, a + m = q := ⟨_, rfl⟩
  have hqi : (a : Int) + (m : Int) = (q : Int) := by omega
  have HQM := hide hq
  rw [hqi]
  clear hqi
  have HB2 := hide (HB1.out.set_ 1 (.int .i64 (q : Int)))
  have HK2 := hide (HK1.out.setCell (p := ⟨g, 1, none⟩) (.inl rfl) (.int .i64 (q : Int)))
  have HK3 := hide ((Keeps.refl (fun x => x = g) W).setCell (p := ⟨g, 1, none⟩) (.inl rfl) (.int .i64 (q : Int)))
  have HO2 := hide (HK3.out.own HO1.out (fun x hx e => by subst e; simp [Value.ownBlock] at hx; exact hne hx))
  have HB2' : Hid (Blk (W.setCell ⟨g, 1, none⟩ (.int .i64 (q : Int))) g 124 #[.slice (some ⟨A', 0, none⟩) bs.length c, .int .i64 (q : Int), .int .i64 0]) := HB2
  have hsz : (W.setCell ⟨g, 1, none⟩ (.int .i64 (q : Int))).heap.size = w.heap.size := by have := HSZ.out; simpa [World.setCell] using this
  have HSZ2 := hide hsz
  clear HB2 HK3 HB1 HO1 HK1 HSZ e0 e1 e2 e3 hsz
  generalize W.setCell ⟨g, 1, none⟩ (.int .i64 (q : Int)) = W2 at HB2' HK2 HO2 HSZ2 ⊢
  have e0 : W2.cell? ⟨g, 0, none⟩ = some (.slice (some ⟨A', 0, none⟩) bs.length c) := HB2'.out.cell 0
  have e1 : W2.cell? ⟨g, 1, none⟩ = some (.int .i64 (q : Int)) := HB2'.out.cell 1
  have hR := (Reads.of_own HO2.out).sub (i := a) (m := m) ham hm
  have HR2 := hide hR
  clear hR
  have v1 : IntKind.i64.wrap ((q : Int) - (m : Int)) = (a : Int) := by rw [IntWalk.i64_in _ (by omega)]; omega
  have u0 : (0 : Int) ≤ (a : Int) := by omega
  have u1 : (a : Int) ≤ (q : Int) := by omega
  have u2 : (q : Int) ≤ (c : Int) := by omega
  have u3 : (0 : Int) ≤ (q : Int) := by omega
  have u4 : ¬ c = a := by omega
  have u5 : q - a = m := by omega
  have u6 : a ≤ q := by omega
  have u7 : q ≤ c := by omega
  have u8 : a < c := by omega
  clear hq
  go_still_tail 15, (by kernel_rfl)
  clear v1 u0 u1 u2 u3 u4 u5 u6 u7 u8 e0 e1
  change wpList _ _ _ _ _ (World.drew W2)
  have hR3 : Reads W2.drew W2.drew.heap.size 1 (some ⟨A', 0 + a, none⟩) m (u8s ((bs.drop a).take m)) := by
    have := HR2.out.drew
    rwa [← u8s_drop, ← u8s_take] at this
  rw [Nat.zero_add] at hR3
  have HR3 := hide hR3
  have HBd := hide (HB2'.out.drew)
  have HOd : Hid (W2.drew.ownsRow base 5 1 (.slice (some ⟨A', 0, none⟩) bs.length c) bs.length (u8s bs)) := hide (own_below HO2.out (below_drew W2))
  have HKd := hide HK2.out.drew
  have HSd : Hid (W2.drew.heap.size = w.heap.size) := HSZ2
  clear hR3 HB2' HO2 HK2 HSZ2 HR2
  generalize W2.drew = W3 at HR3 HBd HOd HKd HSd ⊢
  go_wp2_with fail

  refine (copied_any _ m _ ((bs.drop a).take m) _ (by omega) HR3.out).mono ?_
  rintro r w5 ⟨A5, c5, rfl, ho5, hb5⟩

  have HO5 := hide ho5
  have HB5 := hide hb5
  clear ho5 hb5
  go_wp2_with fail

  try rw [Exit.noGoto_ret]
  go_ret
  refine ⟨A5, c5, rfl, ?_, ⟨hg, _, c, ?_, own_below HOd.out HB5.out⟩, HKd.out.below HB5.out⟩
  · rw [← HSd.out]
    exact HO5.out
  · rw [HQM.out]
    exact HBd.out.below HB5.out HBd.out.lt

/-- the number of some bytes -/
def numOf (l : List Int) : Int := l.foldl (fun n c => n * 256 + c) 0
theorem numOf_snoc (l : List Int) (c : Int) : numOf (l ++ [c]) = numOf l * 256 + c := by simp [numOf]
theorem numOf_go : ∀ (l : List Int) (n p : Int), (∀ z ∈ l, 0 ≤ z ∧ z < 256) → 0 ≤ n → n < p → 0 ≤ l.foldl (fun n c => n * 256 + c) n ∧ l.foldl (fun n c => n * 256 + c) n < p * 256 ^ l.length
  | [], n, p, _, h0, h1 => by simp; omega
  | c :: l, n, p, h, h0, h1 => by
    obtain ⟨c0, c1⟩ := h c (by simp)
    have := numOf_go l (n * 256 + c) (p * 256) (fun z hz => h z (by simp [hz])) (by omega) (by omega)
    rw [List.foldl_cons, List.length_cons, Int.pow_succ]
    rwa [Int.mul_assoc, Int.mul_comm 256] at this
theorem numOf_lt (l : List Int) (h : ∀ z ∈ l, 0 ≤ z ∧ z < 256) : 0 ≤ numOf l ∧ numOf l < 256 ^ l.length := by
  have := numOf_go l 0 1 h (by omega) (by omega)
  rwa [Int.one_mul] at this
theorem wraps_i64 (n : Int) (h₀ : 0 ≤ n) (h₁ : n < 2 ^ 62) : IntKind.i64.wrap n = n := by rw [IntKind.wrap_i64]; omega
theorem or256 (n z : Int) (h0 : 0 ≤ n) (h1 : n < 16777216) (h2 : 0 ≤ z) (h3 : z < 256) : bits .or .i64 (n * 256) z = n * 256 + z :=
  bits_join .i64 62 (by decide) wraps_i64 8 (n * 256) z (by omega) (by omega) (by omega) h2 (by omega) (by omega)

set_option maxRecDepth 100000 in
set_option maxHeartbeats 4000000 in
theorem rdNum_ok (base g : Nat) (bs : List Int) (a : Nat) (v : Int) (w : World) (l : List Int) (hll : (bs.drop a).take (wideF v) = l) (h : RdRep w base g bs a 0) (hl : bs.length ≤ 100000) (hby : ∀ z ∈ bs, 0 ≤ z ∧ z < 256) (ham : a + wideF v ≤ bs.length) :
    Calls Try.prog 37 #[.pointer (some ⟨g, 0, none⟩), .int .i64 v] w fun r w' => r = .returned (.int .i64 (numOf l)) ∧ RdRep w' base g bs ((a + wideF v : Nat) : Int) 0 ∧ Keeps (fun x => x = g) w w' := by
  have hW1 := wideF_pos v
  have hW2 := wideF_le v
  obtain ⟨W, hW⟩ : ∃ W, wideF v = W := ⟨_, rfl⟩
  have HW := hide hW
  rw [hW] at hW1 hW2 ham hll ⊢
  have Hh := hide h
  have HLL := hide hll
  clear hW h hll
  go_enter Try.func37, Try.ntmps37
  go_wp2_with fail
  refine (wide_any v _).mono ?_
  rintro r w1 ⟨rfl, rfl⟩
  rw [HW.out]
  go_wp2_with fail
  refine (rdBytes_ok base g bs a W _ Hh.out hl (by omega) ham).mono ?_
  rintro r w2 ⟨A2, c2, rfl, ho, hR, hK⟩
  rw [HLL.out] at ho
  have HO := hide (Reads.of_own ho)
  have HR := hide hR
  have HK := hide hK
  have HBY := hide (show ∀ z ∈ l, 0 ≤ z ∧ z < 256 from fun z hz => by rw [← HLL.out] at hz; exact hby z (List.mem_of_mem_drop (List.mem_of_mem_take hz)))
  have HLN := hide (show l.length = W by rw [← HLL.out, List.length_take, List.length_drop]; omega)
  clear ho hR hK hby
  go_wp2_with fail
  go_loop [5, 13] (fun n i => ∃ k : Nat, k ≤ W ∧ i = .int .i64 k ∧ n = .int .i64 (numOf (l.take k))) (fun _ i => W - (intOf i).toNat)
  case atStart => exact ⟨0, Nat.zero_le _, rfl, rfl⟩
  case round =>
    obtain ⟨k, hk, rfl, rfl⟩ := hrel
    by_cases hlt : k < W
    · obtain ⟨b, off, z, rfl, hbb, hz, hat⟩ := HO.out.byte_at hlt
      obtain ⟨z0, z1⟩ := HBY.out z (List.mem_of_getElem? hz)
      obtain ⟨n0, n1⟩ := numOf_lt (l.take k) (fun z hz => HBY.out z (List.mem_of_mem_take hz))
      have HS := hide (show numOf (l.take (k + 1)) = numOf (l.take k) * 256 + z by rw [take_snoc _ _ _ hz, numOf_snoc])
      have n2 : numOf (l.take k) < 16777216 := by
        have hk3 : (l.take k).length ≤ 3 := by rw [List.length_take]; omega
        have : (256 : Int) ^ (l.take k).length ≤ 256 ^ 3 := by
          have h := Nat.pow_le_pow_right (n := 256) (by omega) hk3
          exact_mod_cast h
        omega
      generalize numOf (l.take k) = N at n0 n1 n2 HS ⊢
      clear n1 hz
      have HO2 := hide (or256 N z n0 n2 z0 z1)
      go_wp2_with fail
      go_round
      case rel => exact ⟨k + 1, by omega, by go_num, by rw [HO2.out, HS.out]⟩
      case measure => (simp [intOf] <;> omega)
    · have hkl : l.take k = l := List.take_of_length_le (by rw [HLN.out]; omega)
      rw [hkl]
      go_wp2
      go_ret
      exact ⟨rfl, HR.out, HK.out⟩
end Go.Proofs.Ytdenfgnkbfbpmaa
