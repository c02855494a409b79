/-
  The walk of LanOwn.
-/
import Derived.Test.YtldanafbaadgoaaH
namespace Go.Proofs.Ytldanafbaadgoaa
open Go.RowKit

theorem tmod256 (b : Int) : b.tmod 256 = 0 ↔ b % 256 = 0 := by
  rw [← Int.dvd_iff_tmod_eq_zero, Int.dvd_iff_emod_eq_zero]
theorem spoilB_ne (a b : Int) (bs : List Int) (h0 : 0 < bs.length) (hb : ∀ z ∈ bs, 0 ≤ z ∧ z < 256) (h : b % 256 ≠ 0) : ¬ spoilB a b bs = bs := by
  intro e
  have h1 := Int.emod_nonneg a (b := (bs.length : Int)) (by omega)
  have h2 := Int.emod_lt_of_pos a (b := (bs.length : Int)) (by omega)
  obtain ⟨q, hq⟩ : ∃ q : Nat, a % (bs.length : Int) = q := ⟨(a % (bs.length : Int)).toNat, by omega⟩
  have hql : q < bs.length := by omega
  have e1 : (spoilB a b bs)[q]? = bs[q]? := by rw [e]
  unfold spoilB at e1
  rw [hq, Int.toNat_natCast, List.getElem?_set_self hql, List.getD_eq_getElem?_getD, List.getElem?_eq_getElem hql] at e1
  have hz := hb _ (List.getElem_mem hql)
  simp only [Option.getD_some, Option.some.injEq] at e1
  omega
theorem own_spare {w : World} {base : Nat} {e : TypeId} {size n c : Nat} {A : Option Addr} {xs : List Value} (h : w.ownsRow base e size (.slice A n c) n xs) (hn : 0 < n) : ∃ g, A = some ⟨g, 0, none⟩ ∧ base ≤ g ∧ g < w.heap.size := by
  obtain ⟨g, cap, e, h1, h2⟩ := h.form hn
  injection e with e
  exact ⟨g, e, h1, h2⟩

set_option maxHeartbeats 4000000 in
theorem lanOwn_walk (A : Option Addr) (n c : Nat) (bs : List Int) (a b : Int) (w : World) (hr : Reads w w.heap.size 1 A n (u8s bs)) (hb : ∀ z ∈ bs, 0 ≤ z ∧ z < 256) :
    Calls Try.prog 3 #[.slice A n c, .int .i64 a, .int .i64 b] w fun r w' => r = .returned (.bool true) ∧ Below w.heap.size w w' := by
  obtain ⟨i0, hi, hz0, hz1, hz2⟩ := info_parts byte_info
  have HR := hide hr
  have HBS := hide hb
  clear hr hb
  go_enter Try.func3, Try.ntmps3
  go_wp2_with fail
  refine (wakes_any _).mono ?_
  rintro r w1 ⟨rfl, hb1⟩
  have HB1 := hide hb1
  clear hb1
  have hnil : n = 0 ∨ 0 < n := by omega
  rcases hnil with rfl | hn
  · go_wp2_with fail
    go_ret
    exact ⟨rfl, HB1.out⟩
  · have b0 : ((n : Int) == 0) = false := by simp; omega
    by_cases hbig : 300 < n
    · go_wp2_with fail
      go_ret
      exact ⟨rfl, HB1.out⟩
    · by_cases hby : b.tmod 256 = 0
      · have b1 : (b.tmod 256 == 0) = true := by simpa using hby
        clear hby
        go_wp2_with fail
        go_ret
        exact ⟨rfl, HB1.out⟩
      · have b1 : (b.tmod 256 == 0) = false := by simpa using hby
        have HBY := hide (show b % 256 ≠ 0 from fun e => hby ((tmod256 b).2 e))
        clear hby
        have hown := World.ownsRow_made (e := 5) (size := 1) w1 #[] 0 (Nat.le_refl _) (Nat.zero_le _) rfl
        have HRA := hide (((HR.out.below HB1.out).more HB1.out.size).alloc (Nat.le_refl _) (.cells #[] 5))
        go_wp2_with (first
          | (at_builtin
             refine wpList_append_any _ rfl (.tmp 31) (.tmp 32) 22 rfl w1.heap.size 5 i0 _ 1 1 Try.underlying22 hi hz0 hz1 hz2 rfl (by omega) (.slice (some ⟨w1.heap.size, 0, none⟩) 0 0) 0 [] rfl
               hown w1.heap.size A n c (u8s bs) rfl HRA.out (u8s_one bs) (by simp only [maxLen]; omega) (by omega) (by simp) ?_
             intro A2 c2 w2 hown2 hg2 hloc2))
        simp only [Nat.zero_add, List.nil_append] at hown2 hg2
        obtain ⟨g2, rfl, hg2a, hg2b⟩ := own_spare hown2 hn
        have HB2 := hide ((HB1.out.alloc HB1.out.size (.cells #[] 5)).grown hg2 (by have := HB1.out.size; simp; omega) (fun g hg => by have := (own_base hown hg).1; have := HB1.out.size; omega))
        have HO2 := hide hown2
        clear hown hown2 hg2 hloc2
        refine (new123 _).mono ?_
        rintro r w3 ⟨rfl, hR3, hB3⟩
        have HO3 := hide ((Keeps.of_below (F := fun _ => False) hB3).own HO2.out (fun _ _ h => h))
        have HB3 := hide (below0 HB2.out hB3)
        have HR3 := hide hR3
        have hz3 : w2.heap.size + 1 < w3.heap.size := hR3.box.lt
        clear hB3 hR3
        go_wp2_with fail
        refine (send_any _ _ _ _ _ [] none 0 0 3 0 (some ⟨g2, 0, none⟩) n c2 bs _ HR3.out (Reads.of_own HO3.out) (fun _ b off e => by cases e; show ¬ g2 = _; omega) (fun e => by cases e) (by omega) (by simp)).mono ?_
        rintro r w4 ⟨rfl, F4, l4, A4, c4, hR4, hl4, hF4, hK4⟩
        rw [onL123] at hl4
        have hl4' : l4.map (·.cp) = [⟨0, 3, 0, bs, 1, false⟩, ⟨0, 3, 0, bs, 2, false⟩] := by rw [hl4]; simp [sendF, sendStep]
        obtain ⟨A40, c40, h40⟩ := map_at (k := 0) hl4' rfl
        obtain ⟨A41, c41, h41⟩ := map_at (k := 1) hl4' rfl
        have hF4g : ¬ F4 g2 := fun hf => (hF4 _ hf).elim (fun e => by omega) (fun e => by omega)
        have HO4 := hide (hK4.own HO3.out (fun g hg => by cases hg; show ¬ g2 = _; omega))
        have HB4 := hide (below_keeps HB3.out hK4 (fun g hg => by have := HB2.out.size; cases hg; omega))
        have hF4b : Hid (∀ g, F4 g → w.heap.size ≤ g) := fun g hg => by have := HB2.out.size; rcases hF4 g hg with e | e <;> omega
        have HR4 := hide hR4
        have HL4 := hide hl4'
        have H40 := hide h40
        have H41 := hide h41
        obtain ⟨z, hz⟩ : ∃ z, bs[0]? = some z := ⟨_, List.getElem?_eq_getElem (by have := HO2.out.1; rw [u8s_length] at this; omega)⟩
        have cz : w4.cell? ⟨g2, 0, none⟩ = some (.int .u8 z) := by rw [HO4.out.cellAt 0 (by omega), u8s, List.getElem?_map, hz]; rfl
        have fz : w4.frozen? ⟨g2, 0, none⟩ = false := HO4.out.frozenAt 0
        have hS5 : Hid (∀ u, LanRep (w4.setCell ⟨g2, 0, none⟩ u) F4 (w2.heap.size + 1) (w2.heap.size + 2) 9 (onF [1, 2, 3]) l4 A4 c4 ∧ Below w.heap.size w (w4.setCell ⟨g2, 0, none⟩ u)) := fun u =>
          ⟨HR4.out.keep ((Keeps.refl (fun x => x = g2) w4).setCell (p := ⟨g2, 0, none⟩) (.inl rfl) u) (fun x hx e => hF4g (e ▸ hx)), HB4.out.setCell (p := ⟨g2, 0, none⟩) (by have := HB1.out.size; show _ ≤ g2; omega) u⟩
        clear hR4 hl4 hl4' h40 h41 hF4 hK4 hz
        go_wp2_with fail
        refine (at_in F4 _ _ _ _ l4 A4 c4 0 _ _ (hS5.out _).1 H40.out (by dsimp only; have := HO2.out.1; rw [u8s_length] at this; omega)).mono ?_
        rintro r w6 ⟨A6, c6, rfl, ho6, hb6⟩
        dsimp only at ho6 ⊢
        have hlen : bs.length = n := by have := HO2.out.1; rw [u8s_length] at this; omega
        rw [hlen] at ho6 ⊢
        obtain ⟨g6, rfl, hg6a, hg6b⟩ := own_spare ho6 hn
        have HR6 := hide ((hS5.out _).1.below hb6)
        have HB6 := hide (below0 (hS5.out _).2 hb6)
        have HO6 := hide ho6
        have Hlen := hide hlen
        have hg6F : ¬ F4 g6 := fun hf => absurd (HR4.out.lt _ hf) (by simp [World.setCell] at hg6a; omega)
        have hg6w : w.heap.size ≤ g6 := by have := HB4.out.size; simp [World.setCell] at hg6a; omega
        clear ho6 hb6 hlen hg6a cz fz
        go_wp2_with fail
        have HN := hide (Blk.new w6 30 #[.int .i64 0, .int .i64 3, .int .i64 0, .slice (some ⟨g6, 0, none⟩) n c6, .int .i64 1, .bool false])
        have HA := hide ((Below.refl w6.heap.size w6).alloc (Nat.le_refl _) (.cells #[.int .i64 0, .int .i64 3, .int .i64 0, .slice (some ⟨g6, 0, none⟩) n c6, .int .i64 1, .bool false] 30))
        generalize w6.alloc (.cells #[.int .i64 0, .int .i64 3, .int .i64 0, .slice (some ⟨g6, 0, none⟩) n c6, .int .i64 1, .bool false] 30) = W7 at HN HA ⊢
        have HR7 := hide (HR6.out.below HA.out)
        have HB7 := hide (below0 HB6.out HA.out)
        have HO7 := hide ((Keeps.of_below (F := fun _ => False) HA.out).own HO6.out (fun _ _ h => h))
        refine (same_any (some ⟨g6, 0, none⟩) n c6 bs A n c bs _ (by omega) (Reads.of_own HO7.out) ((HR.out.below HB7.out).more HB7.out.size)).mono ?_
        rintro r w8 ⟨rfl, hb8⟩
        have hdd : decide (bs = bs) = true := by simp
        rw [hdd]
        have HR8 := hide (HR7.out.below hb8)
        have HB8 := hide (below0 HB7.out hb8)
        have HO8 := hide ((Keeps.of_below (F := fun _ => False) hb8).own HO7.out (fun _ _ h => h))
        have HN8 := hide (HN.out.below hb8 HN.out.lt)
        obtain ⟨z, hz⟩ : ∃ z, bs[0]? = some z := ⟨_, List.getElem?_eq_getElem (by have := Hlen.out; omega)⟩
        have cz : w8.cell? ⟨g6, 0, none⟩ = some (.int .u8 z) := by rw [HO8.out.cellAt 0 (by omega), u8s, List.getElem?_map, hz]; rfl
        have fz : w8.frozen? ⟨g6, 0, none⟩ = false := HO8.out.frozenAt 0
        have k3 : w8.cell? ⟨w6.heap.size, 3, none⟩ = some (.slice (some ⟨g6, 0, none⟩) n c6) := HN8.out.cell 3
        have hS9 : Hid (∀ u, LanRep (w8.setCell ⟨g6, 0, none⟩ u) F4 (w2.heap.size + 1) (w2.heap.size + 2) 9 (onF [1, 2, 3]) l4 A4 c4 ∧ Below w.heap.size w (w8.setCell ⟨g6, 0, none⟩ u)) := fun u =>
          ⟨HR8.out.keep ((Keeps.refl (fun x => x = g6) w8).setCell (p := ⟨g6, 0, none⟩) (.inl rfl) u) (fun x hx e => hg6F (e ▸ hx)), HB8.out.setCell (p := ⟨g6, 0, none⟩) hg6w u⟩
        clear hb8 hz hdd
        go_wp2_with fail
        refine (spoil_yes F4 _ _ _ _ l4 A4 c4 0 _ a b _ (hS9.out _).1 H40.out (by dsimp only; have := Hlen.out; omega) (by have := congrArg List.length HL4.out; simp at this; omega) rfl (by dsimp only; have := Hlen.out; omega) HBY.out).mono ?_
        rintro r w10 ⟨rfl, F10, l10, A10, c10, hR10, hl10, hF10, hK10⟩
        rw [HL4.out] at hl10
        have hl10' : l10.map (·.cp) = [⟨0, 3, 0, spoilB a b bs, 1, true⟩, ⟨0, 3, 0, bs, 2, false⟩] := hl10
        obtain ⟨A50, c50, h50⟩ := map_at (k := 0) hl10' rfl
        obtain ⟨A51, c51, h51⟩ := map_at (k := 1) hl10' rfl
        have HB10 := hide (below_keeps (hS9.out _).2 hK10 hF4b.out)
        have HR10 := hide hR10
        have H50 := hide h50
        have H51 := hide h51
        have hsl := spoilB_length a b bs
        have Hsl := hide hsl
        clear hR10 hl10 hl10' hF10 hK10 h50 h51 cz fz k3 hsl
        go_wp2_with fail
        refine (at_in F10 _ _ _ _ l10 A10 c10 0 _ _ HR10.out H50.out (by dsimp only; rw [Hsl.out, Hlen.out]; omega)).mono ?_
        rintro r w11 ⟨A11, c11, rfl, ho11, hb11⟩
        dsimp only at ho11 ⊢
        rw [Hsl.out, Hlen.out] at ho11 ⊢
        have HR11 := hide (HR10.out.below hb11)
        have HB11 := hide (below0 HB10.out hb11)
        have HO11 := hide ho11
        clear ho11 hb11
        go_wp2_with fail
        have HN12 := hide (Blk.new w11 30 #[.int .i64 0, .int .i64 3, .int .i64 0, .slice A11 n c11, .int .i64 1, .bool true])
        have HA12 := hide ((Below.refl w11.heap.size w11).alloc (Nat.le_refl _) (.cells #[.int .i64 0, .int .i64 3, .int .i64 0, .slice A11 n c11, .int .i64 1, .bool true] 30))
        generalize w11.alloc (.cells #[.int .i64 0, .int .i64 3, .int .i64 0, .slice A11 n c11, .int .i64 1, .bool true] 30) = W12 at HN12 HA12 ⊢
        have HR12 := hide (HR11.out.below HA12.out)
        have HB12 := hide (below0 HB11.out HA12.out)
        have HO12 := hide ((Keeps.of_below (F := fun _ => False) HA12.out).own HO11.out (fun _ _ h => h))
        refine (at_in F10 _ _ _ _ l10 A10 c10 1 _ _ HR12.out H51.out (by dsimp only; rw [Hlen.out]; omega)).mono ?_
        rintro r w13 ⟨A13, c13, rfl, ho13, hb13⟩
        dsimp only at ho13 ⊢
        rw [Hlen.out] at ho13 ⊢
        have HR13 := hide (HR12.out.below hb13)
        have HB13 := hide (below0 HB12.out hb13)
        have HO13 := hide ho13
        have HN13 := hide (HN12.out.below hb13 HN12.out.lt)
        have HO13b := hide ((Keeps.of_below (F := fun _ => False) hb13).own HO12.out (fun _ _ h => h))
        clear ho13 hb13
        have q3 : w13.cell? ⟨w11.heap.size, 3, none⟩ = some (.slice A11 n c11) := HN13.out.cell 3
        have q5 : w13.cell? ⟨w11.heap.size, 5, none⟩ = some (.bool true) := HN13.out.cell 5
        have hq := HN13.out.lt
        go_wp2_with fail
        have HN14 := hide (Blk.new w13 30 #[.int .i64 0, .int .i64 3, .int .i64 0, .slice A13 n c13, .int .i64 2, .bool false])
        have HA14 := hide ((Below.refl w13.heap.size w13).alloc (Nat.le_refl _) (.cells #[.int .i64 0, .int .i64 3, .int .i64 0, .slice A13 n c13, .int .i64 2, .bool false] 30))
        generalize w13.alloc (.cells #[.int .i64 0, .int .i64 3, .int .i64 0, .slice A13 n c13, .int .i64 2, .bool false] 30) = W14 at HN14 HA14 ⊢
        have HR14 := hide (HR13.out.below HA14.out)
        have HB14 := hide (below0 HB13.out HA14.out)
        have HO14 := hide ((Keeps.of_below (F := fun _ => False) HA14.out).own HO13.out (fun _ _ h => h))
        have HO14b := hide ((Keeps.of_below (F := fun _ => False) HA14.out).own HO13b.out (fun _ _ h => h))
        rw [← Hsl.out] at Hlen
        refine (same_any A11 n c11 (spoilB a b bs) A n c bs _ (by omega) (Reads.of_own HO14b.out) ((HR.out.below HB14.out).more HB14.out.size)).mono ?_
        rintro r w15 ⟨rfl, hb15⟩
        have hdd : decide (spoilB a b bs = bs) = false := decide_eq_false (spoilB_ne a b bs (by rw [← Hsl.out, Hlen.out]; exact hn) HBS.out HBY.out)
        rw [hdd]
        have HR15 := hide (HR14.out.below hb15)
        have HB15 := hide (below0 HB14.out hb15)
        have HO15 := hide ((Keeps.of_below (F := fun _ => False) hb15).own HO14.out (fun _ _ h => h))
        have HN15 := hide (HN14.out.below hb15 HN14.out.lt)
        have p3 : w15.cell? ⟨w13.heap.size, 3, none⟩ = some (.slice A13 n c13) := HN15.out.cell 3
        clear hb15 hdd q3 q5
        go_wp2_with fail
        refine (same_any A13 n c13 bs A n c bs _ (by omega) (Reads.of_own HO15.out) ((HR.out.below HB15.out).more HB15.out.size)).mono ?_
        rintro r w16 ⟨rfl, hb16⟩
        have hdd : decide (bs = bs) = true := by simp
        rw [hdd]
        have HR16 := hide (HR15.out.below hb16)
        have HB16 := hide (below0 HB15.out hb16)
        have HN16 := hide (HN15.out.below hb16 HN15.out.lt)
        have p5 : w16.cell? ⟨w13.heap.size, 5, none⟩ = some (.bool false) := HN16.out.cell 5
        clear hb16 hdd p3
        go_wp2_with fail
        refine (spoil_no F10 _ _ _ _ l10 A10 c10 0 _ a b _ HR16.out H50.out (by dsimp only; rw [Hlen.out]; omega) (.inl rfl)).mono ?_
        rintro r w17 ⟨rfl, hb17⟩
        have HB17 := hide (below0 HB16.out hb17)
        clear hb17
        go_wp2_with fail
        go_ret
        exact ⟨rfl, HB17.out⟩
theorem u8_wf {n : Int} (h : (Lit.int .u8 n).wf = true) : 0 ≤ n ∧ n < 256 := by
  have hm : IntKind.u8.min = 0 := rfl
  have hM : IntKind.u8.max = 255 := rfl
  have : 0 ≤ n ∧ n ≤ 255 := by simpa [Lit.wf, hm, hM] using h
  omega
theorem bytes_of_leaves : ∀ (xs : List Value) (n : Nat), xs.length = n → (∀ i, i < n → AllLeaf [some .u8] ((xs.drop i).take 1)) → ∃ zs, xs = u8s zs ∧ ∀ z ∈ zs, 0 ≤ z ∧ z < 256
  | [], _, _, _ => ⟨[], rfl, fun _ h => by cases h⟩
  | v :: r, n, hn, h => by
    simp only [List.length_cons] at hn
    obtain ⟨z, r0, e, hw, h0⟩ := AllLeaf.int_ (h 0 (by omega))
    obtain ⟨zs, hz, hb⟩ := bytes_of_leaves r (n - 1) (by omega) (fun i hi => by have := h (i + 1) (by omega); simpa using this)
    simp at e
    refine ⟨z :: zs, by rw [hz, e.1]; rfl, fun y hy => ?_⟩
    rcases List.mem_cons.1 hy with rfl | hy
    · exact u8_wf hw
    · exact hb y hy
end Go.Proofs.Ytldanafbaadgoaa
