/-
  OrigRuns: the walk of the law.
-/
import Derived.Test.YtmklebkldailnaaTickS
import Derived.Test.YtmklebkldailnaaTickM
namespace Go.Proofs.Ytmklebkldailnaa
open Go.RowKit
set_option linter.unusedSimpArgs false
set_option linter.unusedVariables false

theorem bp1 {a : Act} {i : Nat} {x : Operand} {u : Value} (hx : a.eval x = u) : ((#[(i, x)] : Array (Nat × Operand)).map fun (i, x) => (i, a.eval x)) = #[(i, u)] := by simp [hx]
theorem bp2 {a : Act} {i j : Nat} {x y : Operand} {u v : Value} (hx : a.eval x = u) (hy : a.eval y = v) : ((#[(i, x), (j, y)] : Array (Nat × Operand)).map fun (i, x) => (i, a.eval x)) = #[(i, u), (j, v)] := by simp [hx, hy]
def boolsV (l : List Bool) : List Value := l.map Value.bool
theorem Reads.bool_at {w : World} {B n k : Nat} {A : Option Addr} {zs : List Bool} (h : Reads w B 1 A n (boolsV zs)) (hk : k < n) : ∃ b off z, A = some ⟨b, off, none⟩ ∧ b < B ∧ zs[k]? = some z ∧ w.cell? ⟨b, off + k, none⟩ = some (.bool z) := by
  obtain ⟨b, off, u, e, hb, hu, hc⟩ := h.at_ hk
  unfold boolsV at hu
  rw [List.getElem?_map] at hu
  cases hz : zs[k]? with
  | none => rw [hz] at hu; cases hu
  | some z =>
    rw [hz] at hu
    simp only [Option.map_some, Option.some.injEq] at hu
    subst hu
    exact ⟨b, off, z, e, hb, rfl, hc⟩
theorem bools_of_leaves : ∀ (xs : List Value) (n : Nat), xs.length = n → (∀ i, i < n → AllLeaf [none] ((xs.drop i).take 1)) → ∃ zs, xs = boolsV zs
  | [], _, _, _ => ⟨[], rfl⟩
  | v :: r, n, hn, h => by
    simp only [List.length_cons] at hn
    obtain ⟨z, r0, e, h0⟩ := AllLeaf.bool_ (h 0 (by omega))
    obtain ⟨zs, hz⟩ := bools_of_leaves r (n - 1) (by omega) (fun i hi => by have := h (i + 1) (by omega); simpa using this)
    simp at e
    exact ⟨z :: zs, by rw [hz, e.1]; rfl⟩
/-- how the law's loop stands: k ticks done -/
structure RunsAt (W : World) (B g n m : Nat) (A Ad : Option Addr) (c cd : Nat) (k : Nat) (a : Act) (w : World) : Prop where
  size : a.tmps.size = 43
  defers : a.defers = []
  s1 : a.tmps.getD 1 undef = .slice Ad m cd
  s7 : a.tmps.getD 7 undef = .pointer (some ⟨g, 0, none⟩)
  s21 : a.tmps.getD 21 undef = .slice A n c
  s22 : a.tmps.getD 22 undef = .int .i64 n
  s23 : a.tmps.getD 23 undef = .int .i64 k
  le : k ≤ n
  since : Below B W w
  life : ∃ s p q At ct, Life B w g s p q At ct ∧ Inv s ∧ s.now = k
set_option maxRecDepth 100000 in
set_option maxHeartbeats 8000000 in
theorem runsR_any (W : World) (g n m : Nat) (A Ad : Option Addr) (c cd : Nat) (bs : List Int) (ds : List Bool) (hR : Reads W W.heap.size 1 A n (u8s bs)) (hb8 : ∀ z ∈ bs, 0 ≤ z ∧ z < 256) (hD : Reads W W.heap.size 1 Ad m (boolsV ds)) (hn : n ≤ 200) (hm : m ≤ 9223372036854775807) (k : Nat) (a : Act) (w : World) (h : RunsAt W W.heap.size g n m A Ad c cd k a w)
    (Q : Exit → Act → World → Prop) (hex : ∀ a' w', RunsAt W W.heap.size g n m A Ad c cd k a' w' → Q (.exit 0) a' w') (hnx : ∀ a' w', RunsAt W W.heap.size g n m A Ad c cd (k + 1) a' w' → Q .normal a' w') (cde : Code) (hcd : loopOf Try.f6 = cde) : Code.wp Try.prog cde Q a w := by
  subst hcd
  conv => arg 2; whnf
  obtain ⟨hz, hd, s1, s7, s21, s22, s23, hk, hBW, s, p, q, At, ct, hL, hI, hnow⟩ := h
  have hBs := hBW.size
  rcases Nat.lt_or_ge k n with hlt | hge
  · rcases Nat.lt_or_ge k m with hlt2 | hge2
    · refine wp_seq ?_
      refine slots_by [fun v _ => v = .bool true]
        (by kernel_rfl) (by kernel_rfl) (by kernel_rfl) hz (by kernel_rfl) rfl
        ⟨fun _ _ _ _ h => h, trivial⟩
        ⟨fun a w1 hb hat => step_ok (on_none rfl) (run_cmp rfl ((hat.base 23 (by kernel_rfl)).trans s23) ((hat.base 22 (by kernel_rfl)).trans s22) rfl (by simp; omega)) ⟨_, rfl, Below.refl _ _, rfl⟩, trivial⟩ ?_
      rintro vs a2 w2 hb2 ⟨e0, -⟩ hput
      replace s1 : a2.tmps.getD 1 undef = .slice Ad m cd := (hput.old 1 (by kernel_rfl)).trans s1
      replace s7 : a2.tmps.getD 7 undef = .pointer (some ⟨g, 0, none⟩) := (hput.old 7 (by kernel_rfl)).trans s7
      replace s21 : a2.tmps.getD 21 undef = .slice A n c := (hput.old 21 (by kernel_rfl)).trans s21
      replace s22 : a2.tmps.getD 22 undef = .int .i64 n := (hput.old 22 (by kernel_rfl)).trans s22
      replace s23 : a2.tmps.getD 23 undef = .int .i64 k := (hput.old 23 (by kernel_rfl)).trans s23
      have s24 : a2.tmps.getD 24 undef = .bool true := (hput.new 0 24 rfl).trans e0
      replace hz := hput.size.trans hz
      replace hd := hput.defers.trans hd
      clear hput e0
      change Code.wp _ _ _ _ _
      replace hBW := hBW.trans (hb2.mono hBs)
      replace hBs := hBW.size
      replace hL := hL.below hb2
      refine wp_seq (wp_cond_true s24 (wp_skip ?_))
      change Code.wp _ _ _ _ _
      refine wp_seq (wp_block (wp_seq ?_))
      obtain ⟨bA, oA, z, rfl, hbA, hzk, hcA⟩ := Reads.byte_at hR hlt
      have hz8 := hb8 z (List.mem_of_getElem? hzk)
      have hc8 : ∀ w', Below W.heap.size W w' → w'.cell? ⟨bA, oA + k, none⟩ = some (.int .u8 z) := fun w' h => (h.cell (p := ⟨bA, oA + k, none⟩) hbA).trans hcA
      refine slots_by [fun v _ => v = .int .i64 k, fun v _ => v = .pointer (some ⟨bA, oA + k, none⟩), fun v _ => v = .int .u8 z, fun v _ => v = .int .i64 k, fun v _ => v = .int .u8 z]
        (by kernel_rfl) (by kernel_rfl) (by kernel_rfl) hz (by kernel_rfl) rfl
        ⟨fun _ _ _ _ h => h, fun _ _ _ _ h => h, fun _ _ _ _ h => h, fun _ _ _ _ h => h, fun _ _ _ _ h => h, trivial⟩
        ⟨fun a w1 hb hat => step_ok (on_none rfl) (run_move rfl ((hat.base 23 (by kernel_rfl)).trans s23)) ⟨_, rfl, Below.refl _ _, rfl⟩,
         fun a w1 hb hat => step_ok (on_none rfl) (run_indexS (size := 1) rfl ((hat.base 21 (by kernel_rfl)).trans s21) ((hat.base 23 (by kernel_rfl)).trans s23) (by kernel_rfl) ⟨by omega, by omega⟩ (by simp)) ⟨_, rfl, Below.refl _ _, rfl⟩,
         fun a w1 hb hat => step_ok (on_none rfl) (run_load rfl (hat.dep 1 26 (by kernel_rfl) (by kernel_rfl)) (by kernel_rfl) (show w1.cell? ⟨bA, oA + k, none⟩ = some (.int .u8 z) from hc8 w1 (hBW.trans (hb.mono hBs)))) ⟨_, rfl, Below.refl _ _, rfl⟩,
         fun a w1 hb hat => step_ok (on_none rfl) (run_assign rfl (hat.dep 0 25 (by kernel_rfl) (by kernel_rfl))) ⟨_, rfl, Below.refl _ _, rfl⟩,
         fun a w1 hb hat => step_ok (on_none rfl) (run_assign rfl (hat.dep 2 27 (by kernel_rfl) (by kernel_rfl))) ⟨_, rfl, Below.refl _ _, rfl⟩, trivial⟩ ?_
      rintro vs a3 w3 hb3 ⟨e0, e1, e2, e3, e4, -⟩ hput
      replace s1 : a3.tmps.getD 1 undef = .slice Ad m cd := (hput.old 1 (by kernel_rfl)).trans s1
      replace s7 : a3.tmps.getD 7 undef = .pointer (some ⟨g, 0, none⟩) := (hput.old 7 (by kernel_rfl)).trans s7
      have s8 : a3.tmps.getD 8 undef = .int .i64 k := (hput.new 3 8 rfl).trans e3
      have s9 : a3.tmps.getD 9 undef = .int .u8 z := (hput.new 4 9 rfl).trans e4
      replace s21 : a3.tmps.getD 21 undef = .slice (some ⟨bA, oA, none⟩) n c := (hput.old 21 (by kernel_rfl)).trans s21
      replace s22 : a3.tmps.getD 22 undef = .int .i64 n := (hput.old 22 (by kernel_rfl)).trans s22
      replace s23 : a3.tmps.getD 23 undef = .int .i64 k := (hput.old 23 (by kernel_rfl)).trans s23
      replace hz := hput.size.trans hz
      replace hd := hput.defers.trans hd
      clear hput e0 e1 e2 e3 e4 s24
      change Code.wp _ _ _ _ _
      replace hBW := hBW.trans (hb3.mono hBs)
      replace hBs := hBW.size
      replace hL := hL.below hb3
      refine wp_seq ?_
      obtain ⟨bD, oD, dv, rfl, hbD, hdk, hcD⟩ := Reads.bool_at hD hlt2
      have hc9 : ∀ w', Below W.heap.size W w' → w'.cell? ⟨bD, oD + k, none⟩ = some (.bool dv) := fun w' h => (h.cell (p := ⟨bD, oD + k, none⟩) hbD).trans hcD
      refine slots_flat [12] [0, 0, 0, 0, 0, 0, 0, 0, 0, 0, 0, 0, 0, 1] [0, 0, 1, 1, 1, 1, 0, 1, 1, 1, 1, 0, 1, 1] [fun v _ => v = .pointer (some ⟨g, 0, none⟩), fun v _ => v = .int .u8 z, fun v _ => v = .int .i64 k, fun v _ => v = .slice (some ⟨bD, oD, none⟩) m cd, fun v _ => v = .int .i64 m, fun v _ => v = .bool true, fun v _ => v = .bool true, fun v _ => v = .slice (some ⟨bD, oD, none⟩) m cd, fun v _ => v = .int .i64 k, fun v _ => v = .pointer (some ⟨bD, oD + k, none⟩), fun v _ => v = .bool dv, fun v _ => v = .bool dv, fun v _ => v = .bool true, fun v _ => v = .bool false] (fun k => match k with | 0 => fun w' => Hid (Life W.heap.size w' g s p q At ct) ∧ Hid (Below W.heap.size W w') | 1 => fun w' => ∃ p' q' A' c', Hid (Life W.heap.size w' g (tickF s z dv) p' q' A' c') ∧ Hid (Below W.heap.size W w') | _ => fun _ => False)
        (by kernel_rfl) (by kernel_rfl) (by kernel_rfl) hz (by kernel_rfl) rfl (by kernel_rfl)
        ⟨fun _ _ _ h => h, fun _ _ _ h => h, fun _ _ _ h => h, fun _ _ _ h => h, fun _ _ _ h => h, fun _ _ _ h => h, fun _ _ _ h => h, fun _ _ _ h => h, fun _ _ _ h => h, fun _ _ _ h => h, fun _ _ _ h => h, fun _ _ _ h => h, fun _ _ _ h => h, fun _ _ _ h => h, trivial⟩
        (fun k w1 w2 hb h => match k, h with | 0, h => ⟨hide (h.1.out.below hb), hide (h.2.out.trans (hb.mono h.2.out.size))⟩ | 1, ⟨p', q', A', c', h⟩ => ⟨p', q', A', c', hide (h.1.out.below hb), hide (h.2.out.trans (hb.mono h.2.out.size))⟩ | _ + 2, h => h) (⟨hide hL, hide hBW⟩)
        ⟨fun kk a w1 hlo hhi hE hat => step_ok (on_none rfl) (run_move rfl ((hat.base 7 (by kernel_rfl)).trans s7)) ⟨_, rfl, Below.refl _ _, rfl⟩,
         fun kk a w1 hlo hhi hE hat => step_ok (on_none rfl) (run_move rfl ((hat.base 9 (by kernel_rfl)).trans s9)) ⟨_, rfl, Below.refl _ _, rfl⟩,
         fun kk a w1 hlo hhi hE hat => step_ok (on_none rfl) (run_move rfl ((hat.base 8 (by kernel_rfl)).trans s8)) ⟨_, rfl, Below.refl _ _, rfl⟩,
         fun kk a w1 hlo hhi hE hat => step_ok (on_none rfl) (run_move rfl ((hat.base 1 (by kernel_rfl)).trans s1)) ⟨_, rfl, Below.refl _ _, rfl⟩,
         fun kk a w1 hlo hhi hE hat => step_ok (on_none rfl) (run_lenS rfl (hat.dep 3 31 (by kernel_rfl) (by kernel_rfl)) (by kernel_rfl)) ⟨_, rfl, Below.refl _ _, rfl⟩,
         fun kk a w1 hlo hhi hE hat => step_ok (on_none rfl) (run_cmp rfl (hat.dep 2 30 (by kernel_rfl) (by kernel_rfl)) (hat.dep 4 32 (by kernel_rfl) (by kernel_rfl)) rfl (by simp; omega)) ⟨_, rfl, Below.refl _ _, rfl⟩,
         fun kk a w1 hlo hhi hE hat => step_ok (on_none rfl) (run_move rfl (hat.dep 5 33 (by kernel_rfl) (by kernel_rfl))) ⟨_, rfl, Below.refl _ _, rfl⟩,
         fun kk a w1 hlo hhi hE hat => step_ok (on_dep (b := true) (d := 34) rfl (by kernel_rfl) (hat.dep 6 34 (by kernel_rfl) (by kernel_rfl))) (run_move rfl ((hat.base 1 (by kernel_rfl)).trans s1)) ⟨_, rfl, Below.refl _ _, rfl⟩,
         fun kk a w1 hlo hhi hE hat => step_ok (on_dep (b := true) (d := 34) rfl (by kernel_rfl) (hat.dep 6 34 (by kernel_rfl) (by kernel_rfl))) (run_move rfl ((hat.base 8 (by kernel_rfl)).trans s8)) ⟨_, rfl, Below.refl _ _, rfl⟩,
         fun kk a w1 hlo hhi hE hat => step_ok (on_dep (b := true) (d := 34) rfl (by kernel_rfl) (hat.dep 6 34 (by kernel_rfl) (by kernel_rfl))) (run_indexS (size := 1) rfl (hat.dep 7 35 (by kernel_rfl) (by kernel_rfl)) (hat.dep 8 36 (by kernel_rfl) (by kernel_rfl)) (by kernel_rfl) ⟨by omega, by omega⟩ (by simp)) ⟨_, rfl, Below.refl _ _, rfl⟩,
         (fun kk a w1 hlo hhi hE hat => match kk, hlo, hhi, hE with
           | 0, _, _, hE => step_ok (on_dep (b := true) (d := 34) rfl (by kernel_rfl) (hat.dep 6 34 (by kernel_rfl) (by kernel_rfl))) (run_load rfl (hat.dep 9 37 (by kernel_rfl) (by kernel_rfl)) (by kernel_rfl) (show w1.cell? ⟨bD, oD + k, none⟩ = some (.bool dv) from hc9 w1 hE.2.out)) ⟨_, rfl, Below.refl _ _, rfl⟩
           | 1, _, _, hE => step_ok (on_dep (b := true) (d := 34) rfl (by kernel_rfl) (hat.dep 6 34 (by kernel_rfl) (by kernel_rfl))) (run_load rfl (hat.dep 9 37 (by kernel_rfl) (by kernel_rfl)) (by kernel_rfl) (show w1.cell? ⟨bD, oD + k, none⟩ = some (.bool dv) from hc9 w1 (by obtain ⟨_, _, _, _, _, h⟩ := hE; exact h.out))) ⟨_, rfl, Below.refl _ _, rfl⟩
           | kk + 2, _, h, _ => absurd h (by show ¬ (kk + 2 ≤ 1); omega)),
         fun kk a w1 hlo hhi hE hat => step_ok (on_none rfl) (run_pick_t rfl (hat.dep 6 34 (by kernel_rfl) (by kernel_rfl)) (hat.dep 10 38 (by kernel_rfl) (by kernel_rfl))) ⟨_, rfl, Below.refl _ _, rfl⟩,
         fun a w1 hE hat => step_call (on_none rfl) (run_call rfl (map3 (hat.dep 0 28 (by kernel_rfl) (by kernel_rfl)) (hat.dep 1 29 (by kernel_rfl) (by kernel_rfl)) (hat.dep 11 39 (by kernel_rfl) (by kernel_rfl))) rfl) (tick_any W.heap.size g s p q At ct z dv w1 hE.2.out.size hE.1.out hz8 hI.age (by have := hI.ok.now; omega) (hI.next (by omega) dv z)) (fun e w' ⟨he, p', q', A', c', hl, hw⟩ => ⟨_, he, _, rfl, rfl, p', q', A', c', hide hl, hide (hE.2.out.trans hw.below)⟩),
         fun kk a w1 hlo hhi hE hat => step_ok (on_none rfl) (run_not rfl (hat.dep 12 40 (by kernel_rfl) (by kernel_rfl)) rfl) ⟨_, rfl, Below.refl _ _, rfl⟩, trivial⟩ ?_
      rintro vs a4 w4 ⟨e0, e1, e2, e3, e4, e5, e6, e7, e8, e9, e10, e11, e12, e13, -⟩ ⟨p', q', A', c', hE1, hE2⟩ hput
      replace s1 : a4.tmps.getD 1 undef = .slice (some ⟨bD, oD, none⟩) m cd := (hput.old 1 (by kernel_rfl)).trans s1
      replace s7 : a4.tmps.getD 7 undef = .pointer (some ⟨g, 0, none⟩) := (hput.old 7 (by kernel_rfl)).trans s7
      replace s21 : a4.tmps.getD 21 undef = .slice (some ⟨bA, oA, none⟩) n c := (hput.old 21 (by kernel_rfl)).trans s21
      replace s22 : a4.tmps.getD 22 undef = .int .i64 n := (hput.old 22 (by kernel_rfl)).trans s22
      replace s23 : a4.tmps.getD 23 undef = .int .i64 k := (hput.old 23 (by kernel_rfl)).trans s23
      have s41 : a4.tmps.getD 41 undef = .bool false := (hput.new 13 41 rfl).trans e13
      replace hz := hput.size.trans hz
      replace hd := hput.defers.trans hd
      clear hput e0 e1 e2 e3 e4 e5 e6 e7 e8 e9 e10 e11 e12 e13 s8 s9
      change Code.wp _ _ _ _ _
      refine wp_cond_false s41 (wp_skip ?_)
      change Code.wp _ _ _ _ _
      refine slots_by [fun v _ => v = .int .i64 (k + 1), fun v _ => v = .int .i64 (k + 1)]
        (by kernel_rfl) (by kernel_rfl) (by kernel_rfl) hz (by kernel_rfl) rfl
        ⟨fun _ _ _ _ h => h, fun _ _ _ _ h => h, trivial⟩
        ⟨fun a w1 hb hat => step_ok (on_none rfl) (run_addI rfl ((hat.base 23 (by kernel_rfl)).trans s23) rfl (by omega) rfl) ⟨_, rfl, Below.refl _ _, rfl⟩,
         fun a w1 hb hat => step_ok (on_none rfl) (run_move rfl (hat.dep 0 42 (by kernel_rfl) (by kernel_rfl))) ⟨_, rfl, Below.refl _ _, rfl⟩, trivial⟩ ?_
      rintro vs a5 w5 hb5 ⟨e0, e1, -⟩ hput
      replace s1 : a5.tmps.getD 1 undef = .slice (some ⟨bD, oD, none⟩) m cd := (hput.old 1 (by kernel_rfl)).trans s1
      replace s7 : a5.tmps.getD 7 undef = .pointer (some ⟨g, 0, none⟩) := (hput.old 7 (by kernel_rfl)).trans s7
      replace s21 : a5.tmps.getD 21 undef = .slice (some ⟨bA, oA, none⟩) n c := (hput.old 21 (by kernel_rfl)).trans s21
      replace s22 : a5.tmps.getD 22 undef = .int .i64 n := (hput.old 22 (by kernel_rfl)).trans s22
      have s23 : a5.tmps.getD 23 undef = .int .i64 (k + 1) := (hput.new 1 23 rfl).trans e1
      replace hz := hput.size.trans hz
      replace hd := hput.defers.trans hd
      clear hput e0 e1 s41
      have hi := hI.tick (by omega) z dv
      exact hnx a5 w5 ⟨hz, hd, s1, s7, s21, s22, s23, hlt, hE2.out.trans (hb5.mono hE2.out.size), _, p', q', A', c', hE1.out.below hb5, hi.1, by rw [hi.2, hnow]; rfl⟩
    · refine wp_seq ?_
      refine slots_by [fun v _ => v = .bool true]
        (by kernel_rfl) (by kernel_rfl) (by kernel_rfl) hz (by kernel_rfl) rfl
        ⟨fun _ _ _ _ h => h, trivial⟩
        ⟨fun a w1 hb hat => step_ok (on_none rfl) (run_cmp rfl ((hat.base 23 (by kernel_rfl)).trans s23) ((hat.base 22 (by kernel_rfl)).trans s22) rfl (by simp; omega)) ⟨_, rfl, Below.refl _ _, rfl⟩, trivial⟩ ?_
      rintro vs a2 w2 hb2 ⟨e0, -⟩ hput
      replace s1 : a2.tmps.getD 1 undef = .slice Ad m cd := (hput.old 1 (by kernel_rfl)).trans s1
      replace s7 : a2.tmps.getD 7 undef = .pointer (some ⟨g, 0, none⟩) := (hput.old 7 (by kernel_rfl)).trans s7
      replace s21 : a2.tmps.getD 21 undef = .slice A n c := (hput.old 21 (by kernel_rfl)).trans s21
      replace s22 : a2.tmps.getD 22 undef = .int .i64 n := (hput.old 22 (by kernel_rfl)).trans s22
      replace s23 : a2.tmps.getD 23 undef = .int .i64 k := (hput.old 23 (by kernel_rfl)).trans s23
      have s24 : a2.tmps.getD 24 undef = .bool true := (hput.new 0 24 rfl).trans e0
      replace hz := hput.size.trans hz
      replace hd := hput.defers.trans hd
      clear hput e0
      change Code.wp _ _ _ _ _
      replace hBW := hBW.trans (hb2.mono hBs)
      replace hBs := hBW.size
      replace hL := hL.below hb2
      refine wp_seq (wp_cond_true s24 (wp_skip ?_))
      change Code.wp _ _ _ _ _
      refine wp_seq (wp_block (wp_seq ?_))
      obtain ⟨bA, oA, z, rfl, hbA, hzk, hcA⟩ := Reads.byte_at hR hlt
      have hz8 := hb8 z (List.mem_of_getElem? hzk)
      have hc8 : ∀ w', Below W.heap.size W w' → w'.cell? ⟨bA, oA + k, none⟩ = some (.int .u8 z) := fun w' h => (h.cell (p := ⟨bA, oA + k, none⟩) hbA).trans hcA
      refine slots_by [fun v _ => v = .int .i64 k, fun v _ => v = .pointer (some ⟨bA, oA + k, none⟩), fun v _ => v = .int .u8 z, fun v _ => v = .int .i64 k, fun v _ => v = .int .u8 z]
        (by kernel_rfl) (by kernel_rfl) (by kernel_rfl) hz (by kernel_rfl) rfl
        ⟨fun _ _ _ _ h => h, fun _ _ _ _ h => h, fun _ _ _ _ h => h, fun _ _ _ _ h => h, fun _ _ _ _ h => h, trivial⟩
        ⟨fun a w1 hb hat => step_ok (on_none rfl) (run_move rfl ((hat.base 23 (by kernel_rfl)).trans s23)) ⟨_, rfl, Below.refl _ _, rfl⟩,
         fun a w1 hb hat => step_ok (on_none rfl) (run_indexS (size := 1) rfl ((hat.base 21 (by kernel_rfl)).trans s21) ((hat.base 23 (by kernel_rfl)).trans s23) (by kernel_rfl) ⟨by omega, by omega⟩ (by simp)) ⟨_, rfl, Below.refl _ _, rfl⟩,
         fun a w1 hb hat => step_ok (on_none rfl) (run_load rfl (hat.dep 1 26 (by kernel_rfl) (by kernel_rfl)) (by kernel_rfl) (show w1.cell? ⟨bA, oA + k, none⟩ = some (.int .u8 z) from hc8 w1 (hBW.trans (hb.mono hBs)))) ⟨_, rfl, Below.refl _ _, rfl⟩,
         fun a w1 hb hat => step_ok (on_none rfl) (run_assign rfl (hat.dep 0 25 (by kernel_rfl) (by kernel_rfl))) ⟨_, rfl, Below.refl _ _, rfl⟩,
         fun a w1 hb hat => step_ok (on_none rfl) (run_assign rfl (hat.dep 2 27 (by kernel_rfl) (by kernel_rfl))) ⟨_, rfl, Below.refl _ _, rfl⟩, trivial⟩ ?_
      rintro vs a3 w3 hb3 ⟨e0, e1, e2, e3, e4, -⟩ hput
      replace s1 : a3.tmps.getD 1 undef = .slice Ad m cd := (hput.old 1 (by kernel_rfl)).trans s1
      replace s7 : a3.tmps.getD 7 undef = .pointer (some ⟨g, 0, none⟩) := (hput.old 7 (by kernel_rfl)).trans s7
      have s8 : a3.tmps.getD 8 undef = .int .i64 k := (hput.new 3 8 rfl).trans e3
      have s9 : a3.tmps.getD 9 undef = .int .u8 z := (hput.new 4 9 rfl).trans e4
      replace s21 : a3.tmps.getD 21 undef = .slice (some ⟨bA, oA, none⟩) n c := (hput.old 21 (by kernel_rfl)).trans s21
      replace s22 : a3.tmps.getD 22 undef = .int .i64 n := (hput.old 22 (by kernel_rfl)).trans s22
      replace s23 : a3.tmps.getD 23 undef = .int .i64 k := (hput.old 23 (by kernel_rfl)).trans s23
      replace hz := hput.size.trans hz
      replace hd := hput.defers.trans hd
      clear hput e0 e1 e2 e3 e4 s24
      change Code.wp _ _ _ _ _
      replace hBW := hBW.trans (hb3.mono hBs)
      replace hBs := hBW.size
      replace hL := hL.below hb3
      refine wp_seq ?_
      refine slots_flat [12] [0, 0, 0, 0, 0, 0, 0, 0, 0, 0, 0, 0, 0, 1] [0, 0, 1, 1, 1, 1, 0, 1, 1, 1, 1, 0, 1, 1] [fun v _ => v = .pointer (some ⟨g, 0, none⟩), fun v _ => v = .int .u8 z, fun v _ => v = .int .i64 k, fun v _ => v = .slice Ad m cd, fun v _ => v = .int .i64 m, fun v _ => v = .bool false, fun v _ => v = .bool false, fun v _ => v = undef, fun v _ => v = undef, fun v _ => v = undef, fun v _ => v = undef, fun v _ => v = .bool false, fun v _ => v = .bool true, fun v _ => v = .bool false] (fun k => match k with | 0 => fun w' => Hid (Life W.heap.size w' g s p q At ct) ∧ Hid (Below W.heap.size W w') | 1 => fun w' => ∃ p' q' A' c', Hid (Life W.heap.size w' g (tickF s z false) p' q' A' c') ∧ Hid (Below W.heap.size W w') | _ => fun _ => False)
        (by kernel_rfl) (by kernel_rfl) (by kernel_rfl) hz (by kernel_rfl) rfl (by kernel_rfl)
        ⟨fun _ _ _ h => h, fun _ _ _ h => h, fun _ _ _ h => h, fun _ _ _ h => h, fun _ _ _ h => h, fun _ _ _ h => h, fun _ _ _ h => h, fun _ _ _ h => h, fun _ _ _ h => h, fun _ _ _ h => h, fun _ _ _ h => h, fun _ _ _ h => h, fun _ _ _ h => h, fun _ _ _ h => h, trivial⟩
        (fun k w1 w2 hb h => match k, h with | 0, h => ⟨hide (h.1.out.below hb), hide (h.2.out.trans (hb.mono h.2.out.size))⟩ | 1, ⟨p', q', A', c', h⟩ => ⟨p', q', A', c', hide (h.1.out.below hb), hide (h.2.out.trans (hb.mono h.2.out.size))⟩ | _ + 2, h => h) (⟨hide hL, hide hBW⟩)
        ⟨fun kk a w1 hlo hhi hE hat => step_ok (on_none rfl) (run_move rfl ((hat.base 7 (by kernel_rfl)).trans s7)) ⟨_, rfl, Below.refl _ _, rfl⟩,
         fun kk a w1 hlo hhi hE hat => step_ok (on_none rfl) (run_move rfl ((hat.base 9 (by kernel_rfl)).trans s9)) ⟨_, rfl, Below.refl _ _, rfl⟩,
         fun kk a w1 hlo hhi hE hat => step_ok (on_none rfl) (run_move rfl ((hat.base 8 (by kernel_rfl)).trans s8)) ⟨_, rfl, Below.refl _ _, rfl⟩,
         fun kk a w1 hlo hhi hE hat => step_ok (on_none rfl) (run_move rfl ((hat.base 1 (by kernel_rfl)).trans s1)) ⟨_, rfl, Below.refl _ _, rfl⟩,
         fun kk a w1 hlo hhi hE hat => step_ok (on_none rfl) (run_lenS rfl (hat.dep 3 31 (by kernel_rfl) (by kernel_rfl)) (by kernel_rfl)) ⟨_, rfl, Below.refl _ _, rfl⟩,
         fun kk a w1 hlo hhi hE hat => step_ok (on_none rfl) (run_cmp rfl (hat.dep 2 30 (by kernel_rfl) (by kernel_rfl)) (hat.dep 4 32 (by kernel_rfl) (by kernel_rfl)) rfl (by simp; omega)) ⟨_, rfl, Below.refl _ _, rfl⟩,
         fun kk a w1 hlo hhi hE hat => step_ok (on_none rfl) (run_move rfl (hat.dep 5 33 (by kernel_rfl) (by kernel_rfl))) ⟨_, rfl, Below.refl _ _, rfl⟩,
         fun kk a w1 hlo hhi hE hat => step_off (off_dep (b := true) (d := 34) rfl (by kernel_rfl) (hat.dep 6 34 (by kernel_rfl) (by kernel_rfl))) rfl,
         fun kk a w1 hlo hhi hE hat => step_off (off_dep (b := true) (d := 34) rfl (by kernel_rfl) (hat.dep 6 34 (by kernel_rfl) (by kernel_rfl))) rfl,
         fun kk a w1 hlo hhi hE hat => step_off (off_dep (b := true) (d := 34) rfl (by kernel_rfl) (hat.dep 6 34 (by kernel_rfl) (by kernel_rfl))) rfl,
         fun kk a w1 hlo hhi hE hat => step_off (off_dep (b := true) (d := 34) rfl (by kernel_rfl) (hat.dep 6 34 (by kernel_rfl) (by kernel_rfl))) rfl,
         fun kk a w1 hlo hhi hE hat => step_ok (on_none rfl) (run_pick_f rfl (hat.dep 6 34 (by kernel_rfl) (by kernel_rfl)) rfl) ⟨_, rfl, Below.refl _ _, rfl⟩,
         fun a w1 hE hat => step_call (on_none rfl) (run_call rfl (map3 (hat.dep 0 28 (by kernel_rfl) (by kernel_rfl)) (hat.dep 1 29 (by kernel_rfl) (by kernel_rfl)) (hat.dep 11 39 (by kernel_rfl) (by kernel_rfl))) rfl) (tick_any W.heap.size g s p q At ct z false w1 hE.2.out.size hE.1.out hz8 hI.age (by have := hI.ok.now; omega) (hI.next (by omega) false z)) (fun e w' ⟨he, p', q', A', c', hl, hw⟩ => ⟨_, he, _, rfl, rfl, p', q', A', c', hide hl, hide (hE.2.out.trans hw.below)⟩),
         fun kk a w1 hlo hhi hE hat => step_ok (on_none rfl) (run_not rfl (hat.dep 12 40 (by kernel_rfl) (by kernel_rfl)) rfl) ⟨_, rfl, Below.refl _ _, rfl⟩, trivial⟩ ?_
      rintro vs a4 w4 ⟨e0, e1, e2, e3, e4, e5, e6, e7, e8, e9, e10, e11, e12, e13, -⟩ ⟨p', q', A', c', hE1, hE2⟩ hput
      replace s1 : a4.tmps.getD 1 undef = .slice Ad m cd := (hput.old 1 (by kernel_rfl)).trans s1
      replace s7 : a4.tmps.getD 7 undef = .pointer (some ⟨g, 0, none⟩) := (hput.old 7 (by kernel_rfl)).trans s7
      replace s21 : a4.tmps.getD 21 undef = .slice (some ⟨bA, oA, none⟩) n c := (hput.old 21 (by kernel_rfl)).trans s21
      replace s22 : a4.tmps.getD 22 undef = .int .i64 n := (hput.old 22 (by kernel_rfl)).trans s22
      replace s23 : a4.tmps.getD 23 undef = .int .i64 k := (hput.old 23 (by kernel_rfl)).trans s23
      have s41 : a4.tmps.getD 41 undef = .bool false := (hput.new 13 41 rfl).trans e13
      replace hz := hput.size.trans hz
      replace hd := hput.defers.trans hd
      clear hput e0 e1 e2 e3 e4 e5 e6 e7 e8 e9 e10 e11 e12 e13 s8 s9
      change Code.wp _ _ _ _ _
      refine wp_cond_false s41 (wp_skip ?_)
      change Code.wp _ _ _ _ _
      refine slots_by [fun v _ => v = .int .i64 (k + 1), fun v _ => v = .int .i64 (k + 1)]
        (by kernel_rfl) (by kernel_rfl) (by kernel_rfl) hz (by kernel_rfl) rfl
        ⟨fun _ _ _ _ h => h, fun _ _ _ _ h => h, trivial⟩
        ⟨fun a w1 hb hat => step_ok (on_none rfl) (run_addI rfl ((hat.base 23 (by kernel_rfl)).trans s23) rfl (by omega) rfl) ⟨_, rfl, Below.refl _ _, rfl⟩,
         fun a w1 hb hat => step_ok (on_none rfl) (run_move rfl (hat.dep 0 42 (by kernel_rfl) (by kernel_rfl))) ⟨_, rfl, Below.refl _ _, rfl⟩, trivial⟩ ?_
      rintro vs a5 w5 hb5 ⟨e0, e1, -⟩ hput
      replace s1 : a5.tmps.getD 1 undef = .slice Ad m cd := (hput.old 1 (by kernel_rfl)).trans s1
      replace s7 : a5.tmps.getD 7 undef = .pointer (some ⟨g, 0, none⟩) := (hput.old 7 (by kernel_rfl)).trans s7
      replace s21 : a5.tmps.getD 21 undef = .slice (some ⟨bA, oA, none⟩) n c := (hput.old 21 (by kernel_rfl)).trans s21
      replace s22 : a5.tmps.getD 22 undef = .int .i64 n := (hput.old 22 (by kernel_rfl)).trans s22
      have s23 : a5.tmps.getD 23 undef = .int .i64 (k + 1) := (hput.new 1 23 rfl).trans e1
      replace hz := hput.size.trans hz
      replace hd := hput.defers.trans hd
      clear hput e0 e1 s41
      have hi := hI.tick (by omega) z false
      exact hnx a5 w5 ⟨hz, hd, s1, s7, s21, s22, s23, hlt, hE2.out.trans (hb5.mono hE2.out.size), _, p', q', A', c', hE1.out.below hb5, hi.1, by rw [hi.2, hnow]; rfl⟩
  · refine wp_seq ?_
    refine slots_by [fun v _ => v = .bool false]
      (by kernel_rfl) (by kernel_rfl) (by kernel_rfl) hz (by kernel_rfl) rfl
      ⟨fun _ _ _ _ h => h, trivial⟩
      ⟨fun a w1 hb hat => step_ok (on_none rfl) (run_cmp rfl ((hat.base 23 (by kernel_rfl)).trans s23) ((hat.base 22 (by kernel_rfl)).trans s22) rfl (by simp; omega)) ⟨_, rfl, Below.refl _ _, rfl⟩, trivial⟩ ?_
    rintro vs a2 w2 hb2 ⟨e0, -⟩ hput
    replace s1 : a2.tmps.getD 1 undef = .slice Ad m cd := (hput.old 1 (by kernel_rfl)).trans s1
    replace s7 : a2.tmps.getD 7 undef = .pointer (some ⟨g, 0, none⟩) := (hput.old 7 (by kernel_rfl)).trans s7
    replace s21 : a2.tmps.getD 21 undef = .slice A n c := (hput.old 21 (by kernel_rfl)).trans s21
    replace s22 : a2.tmps.getD 22 undef = .int .i64 n := (hput.old 22 (by kernel_rfl)).trans s22
    replace s23 : a2.tmps.getD 23 undef = .int .i64 k := (hput.old 23 (by kernel_rfl)).trans s23
    have s24 : a2.tmps.getD 24 undef = .bool false := (hput.new 0 24 rfl).trans e0
    replace hz := hput.size.trans hz
    replace hd := hput.defers.trans hd
    clear hput e0
    change Code.wp _ _ _ _ _
    replace hBW := hBW.trans (hb2.mono hBs)
    replace hBs := hBW.size
    replace hL := hL.below hb2
    refine wp_seq (wp_cond_false s24 (wp_exit ?_))
    exact hex a2 w2 ⟨hz, hd, s1, s7, s21, s22, s23, hk, hBW, s, p, q, At, ct, hL, hI, hnow⟩
set_option maxRecDepth 100000 in
set_option maxHeartbeats 8000000 in
theorem runs0_any (W : World) (n m : Nat) (A Ad : Option Addr) (c cd : Nat) (bs : List Int) (ds : List Bool) (near : Int) (hR : Reads W W.heap.size 1 A n (u8s bs)) (hb8 : ∀ z ∈ bs, 0 ≤ z ∧ z < 256) (hD : Reads W W.heap.size 1 Ad m (boolsV ds)) (hnm : n ≤ 9223372036854775807) (hm : m ≤ 9223372036854775807) (hnear : 0 ≤ near ∧ near < 256)
    (w : World) (a : Act) (hBW : Below W.heap.size W w) (hz : a.tmps.size = 43) (hd : a.defers = []) (s0 : a.tmps.getD 0 undef = .slice A n c) (s1 : a.tmps.getD 1 undef = .slice Ad m cd) (s2 : a.tmps.getD 2 undef = .int .u8 near) (cde : Code) (hcd : tailOf Try.f6 0 = cde) : Code.wp Try.prog cde (bodyPost Try.prog Try.f6 (fun r w' => r = .returned (.bool true) ∧ Below W.heap.size W w')) a w := by
  subst hcd
  conv => arg 2; whnf
  have hBs := hBW.size
  refine wp_seq ?_
  refine slots_by [fun v _ => v = .bool false]
    (by kernel_rfl) (by kernel_rfl) (by kernel_rfl) hz (by kernel_rfl) rfl
    ⟨fun _ _ _ _ h => h, trivial⟩
    ⟨fun a w1 hb hat => step_ok (on_none rfl) (run_assign rfl rfl) ⟨_, rfl, Below.refl _ _, rfl⟩, trivial⟩ ?_
  rintro vs a2 w2 hb2 ⟨e0, -⟩ hput
  replace s0 : a2.tmps.getD 0 undef = .slice A n c := (hput.old 0 (by kernel_rfl)).trans s0
  replace s1 : a2.tmps.getD 1 undef = .slice Ad m cd := (hput.old 1 (by kernel_rfl)).trans s1
  replace s2 : a2.tmps.getD 2 undef = .int .u8 near := (hput.old 2 (by kernel_rfl)).trans s2
  replace hz := hput.size.trans hz
  replace hd := hput.defers.trans hd
  clear hput e0
  change Code.wp _ _ _ _ _
  replace hBW := hBW.trans (hb2.mono hBs)
  replace hBs := hBW.size
  refine wp_seq (wp_seq ?_)
  refine slots_by [fun v _ => v = .bool true, fun v _ => v = .bool false]
    (by kernel_rfl) (by kernel_rfl) (by kernel_rfl) hz (by kernel_rfl) rfl
    ⟨fun _ _ _ _ h => h, fun _ _ _ _ h => h, trivial⟩
    ⟨fun a w1 hb hat => step_call (on_none rfl) (run_call rfl (by simp) rfl) (wakes_any w1) (fun e w' he => ⟨_, he.1, _, rfl, he.2, rfl⟩),
     fun a w1 hb hat => step_ok (on_none rfl) (run_not rfl (hat.dep 0 10 (by kernel_rfl) (by kernel_rfl)) rfl) ⟨_, rfl, Below.refl _ _, rfl⟩, trivial⟩ ?_
  rintro vs a3 w3 hb3 ⟨e0, e1, -⟩ hput
  replace s0 : a3.tmps.getD 0 undef = .slice A n c := (hput.old 0 (by kernel_rfl)).trans s0
  replace s1 : a3.tmps.getD 1 undef = .slice Ad m cd := (hput.old 1 (by kernel_rfl)).trans s1
  replace s2 : a3.tmps.getD 2 undef = .int .u8 near := (hput.old 2 (by kernel_rfl)).trans s2
  have s11 : a3.tmps.getD 11 undef = .bool false := (hput.new 1 11 rfl).trans e1
  replace hz := hput.size.trans hz
  replace hd := hput.defers.trans hd
  clear hput e0 e1
  change Code.wp _ _ _ _ _
  replace hBW := hBW.trans (hb3.mono hBs)
  replace hBs := hBW.size
  refine wp_cond_false s11 (wp_skip ?_)
  change Code.wp _ _ _ _ _
  refine wp_seq (wp_seq ?_)
  refine slots_by [fun v _ => v = .slice A n c, fun v _ => v = .int .i64 n, fun v _ => v = .bool (decide ((200 : Int) < n))]
    (by kernel_rfl) (by kernel_rfl) (by kernel_rfl) hz (by kernel_rfl) rfl
    ⟨fun _ _ _ _ h => h, fun _ _ _ _ h => h, fun _ _ _ _ h => h, trivial⟩
    ⟨fun a w1 hb hat => step_ok (on_none rfl) (run_move rfl ((hat.base 0 (by kernel_rfl)).trans s0)) ⟨_, rfl, Below.refl _ _, rfl⟩,
     fun a w1 hb hat => step_ok (on_none rfl) (run_lenS rfl (hat.dep 0 12 (by kernel_rfl) (by kernel_rfl)) (by kernel_rfl)) ⟨_, rfl, Below.refl _ _, rfl⟩,
     fun a w1 hb hat => step_ok (on_none rfl) (run_cmp rfl (hat.dep 1 13 (by kernel_rfl) (by kernel_rfl)) rfl rfl (by first | rfl | simp)) ⟨_, rfl, Below.refl _ _, rfl⟩, trivial⟩ ?_
  rintro vs a4 w4 hb4 ⟨e0, e1, e2, -⟩ hput
  replace s0 : a4.tmps.getD 0 undef = .slice A n c := (hput.old 0 (by kernel_rfl)).trans s0
  replace s1 : a4.tmps.getD 1 undef = .slice Ad m cd := (hput.old 1 (by kernel_rfl)).trans s1
  replace s2 : a4.tmps.getD 2 undef = .int .u8 near := (hput.old 2 (by kernel_rfl)).trans s2
  have s14 : a4.tmps.getD 14 undef = .bool (decide ((200 : Int) < n)) := (hput.new 2 14 rfl).trans e2
  replace hz := hput.size.trans hz
  replace hd := hput.defers.trans hd
  clear hput e0 e1 e2 s11
  change Code.wp _ _ _ _ _
  replace hBW := hBW.trans (hb4.mono hBs)
  replace hBs := hBW.size
  rcases Nat.lt_or_ge 200 n with hlt | hge
  · rw [decide_eq_true (show (200 : Int) < n by omega)] at s14
    refine wp_cond_true s14 (wp_seq ?_)
    refine slots_by [fun v _ => v = .bool true]
      (by kernel_rfl) (by kernel_rfl) (by kernel_rfl) hz (by kernel_rfl) rfl
      ⟨fun _ _ _ _ h => h, trivial⟩
      ⟨fun a w1 hb hat => step_ok (on_none rfl) (run_assign rfl rfl) ⟨_, rfl, Below.refl _ _, rfl⟩, trivial⟩ ?_
    rintro vs a5 w5 hb5 ⟨e0, -⟩ hput
    have s6 : a5.tmps.getD 6 undef = .bool true := (hput.new 0 6 rfl).trans e0
    replace hz := hput.size.trans hz
    replace hd := hput.defers.trans hd
    clear hput e0 s0 s1 s2 s14
    change Code.wp _ _ _ _ _
    replace hBW := hBW.trans (hb5.mono hBs)
    replace hBs := hBW.size
    refine wp_ret ?_
    show (bodyPost Try.prog Try.f6 (fun r w' => r = .returned (.bool true) ∧ Below W.heap.size W w')) Exit.ret _ _
    exact bodyPost_ret (v := .bool true) (by rw [results_tmp (t := 6) (by kernel_rfl), s6]) hd ⟨rfl, hBW⟩
  · rw [decide_eq_false (show ¬ (200 : Int) < n by omega)] at s14
    refine wp_cond_false s14 (wp_skip ?_)
    change Code.wp _ _ _ _ _
    refine wp_seq ?_
    refine slots_by [fun v _ => v = .int .u8 near, fun v _ => v = .int .i64 near, fun v _ => v = .int .i64 (2147483647 - near), fun v _ => v = .agg (List.toArray [.int .i64 0, .int .i64 0, .int .i64 0, .int .i64 0, .int .i64 0, .int .i64 0, .int .i64 0, .slice none 0 0, .slice none 0 0, .bool false, .int .i64 0, .int .i64 0, .int .i64 0, .int .i64 0, .int .i64 0, .int .i64 0, .int .i64 0, .slice none 0 0, .slice none 0 0, .bool false, .int .i64 (2147483647 - near), .int .i64 0, .bool true]), fun v _ => v = .agg (List.toArray [.int .i64 0, .int .i64 0, .int .i64 0, .int .i64 0, .int .i64 0, .int .i64 0, .int .i64 0, .slice none 0 0, .slice none 0 0, .bool false, .int .i64 0, .int .i64 0, .int .i64 0, .int .i64 0, .int .i64 0, .int .i64 0, .int .i64 0, .slice none 0 0, .slice none 0 0, .bool false, .int .i64 (2147483647 - near), .int .i64 0, .bool true, .int .i64 0, .slice none 0 0]), fun v w' => ∃ g, v = .pointer (some ⟨g, 0, none⟩) ∧ W.heap.size ≤ g ∧ Blk w' g 60 (lifeA (life0 near) ⟨none, 0, none, 0⟩ ⟨none, 0, none, 0⟩ none 0), fun v w' => ∃ g, v = .pointer (some ⟨g, 0, none⟩) ∧ W.heap.size ≤ g ∧ Blk w' g 60 (lifeA (life0 near) ⟨none, 0, none, 0⟩ ⟨none, 0, none, 0⟩ none 0)]
      (by kernel_rfl) (by kernel_rfl) (by kernel_rfl) hz (by kernel_rfl) rfl
      ⟨fun _ _ _ _ h => h, fun _ _ _ _ h => h, fun _ _ _ _ h => h, fun _ _ _ _ h => h, fun _ _ _ _ h => h, fun _ _ _ hb ⟨g, e, hg, hk⟩ => ⟨g, e, hg, hk.below hb hk.lt⟩, fun _ _ _ hb ⟨g, e, hg, hk⟩ => ⟨g, e, hg, hk.below hb hk.lt⟩, trivial⟩
      ⟨fun a w1 hb hat => step_ok (on_none rfl) (run_move rfl ((hat.base 2 (by kernel_rfl)).trans s2)) ⟨_, rfl, Below.refl _ _, rfl⟩,
       fun a w1 hb hat => step_ok (on_none rfl) (run_conv rfl (hat.dep 0 15 (by kernel_rfl) (by kernel_rfl)) (by kernel_rfl) (wrap_i64 (by omega)) (by kernel_rfl)) ⟨_, rfl, Below.refl _ _, rfl⟩,
       fun a w1 hb hat => step_ok (on_none rfl) (run_subI rfl rfl (hat.dep 1 16 (by kernel_rfl) (by kernel_rfl)) (by omega) rfl) ⟨_, rfl, Below.refl _ _, rfl⟩,
       fun a w1 hb hat => step_ok (on_none rfl) (run_build (vals := #[(6, .bool true), (4, .int .i64 (2147483647 - near))]) (r := .agg (List.toArray [.int .i64 0, .int .i64 0, .int .i64 0, .int .i64 0, .int .i64 0, .int .i64 0, .int .i64 0, .slice none 0 0, .slice none 0 0, .bool false, .int .i64 0, .int .i64 0, .int .i64 0, .int .i64 0, .int .i64 0, .int .i64 0, .int .i64 0, .slice none 0 0, .slice none 0 0, .bool false, .int .i64 (2147483647 - near), .int .i64 0, .bool true])) rfl (bp2 rfl (hat.dep 2 17 (by kernel_rfl) (by kernel_rfl))) (by kernel_rfl)) ⟨_, rfl, Below.refl _ _, rfl⟩,
       fun a w1 hb hat => step_ok (on_none rfl) (run_build (vals := #[(0, .agg (List.toArray [.int .i64 0, .int .i64 0, .int .i64 0, .int .i64 0, .int .i64 0, .int .i64 0, .int .i64 0, .slice none 0 0, .slice none 0 0, .bool false, .int .i64 0, .int .i64 0, .int .i64 0, .int .i64 0, .int .i64 0, .int .i64 0, .int .i64 0, .slice none 0 0, .slice none 0 0, .bool false, .int .i64 (2147483647 - near), .int .i64 0, .bool true]))]) (r := .agg (List.toArray [.int .i64 0, .int .i64 0, .int .i64 0, .int .i64 0, .int .i64 0, .int .i64 0, .int .i64 0, .slice none 0 0, .slice none 0 0, .bool false, .int .i64 0, .int .i64 0, .int .i64 0, .int .i64 0, .int .i64 0, .int .i64 0, .int .i64 0, .slice none 0 0, .slice none 0 0, .bool false, .int .i64 (2147483647 - near), .int .i64 0, .bool true, .int .i64 0, .slice none 0 0])) rfl (bp1 (hat.dep 3 18 (by kernel_rfl) (by kernel_rfl))) (by kernel_rfl)) ⟨_, rfl, Below.refl _ _, rfl⟩,
       fun a w1 hb hat => step_ok (on_none rfl) (run_box (cells := lifeA (life0 near) ⟨none, 0, none, 0⟩ ⟨none, 0, none, 0⟩ none 0) rfl (hat.dep 4 19 (by kernel_rfl) (by kernel_rfl)) (by kernel_rfl)) ⟨_, rfl, below_new w1 _, w1.heap.size, rfl, Nat.le_trans hBs hb.size, Blk.new w1 _ _⟩,
       fun a w1 hb hat => step_ok (on_none rfl) (run_assign rfl rfl) ⟨_, rfl, Below.refl _ _, (hat.dep 5 20 (by kernel_rfl) (by kernel_rfl))⟩, trivial⟩ ?_
    rintro vs a5 w5 hb5 ⟨e0, e1, e2, e3, e4, e5, e6, -⟩ hput
    obtain ⟨g, e6, hg, hk⟩ := e6
    replace s0 : a5.tmps.getD 0 undef = .slice A n c := (hput.old 0 (by kernel_rfl)).trans s0
    replace s1 : a5.tmps.getD 1 undef = .slice Ad m cd := (hput.old 1 (by kernel_rfl)).trans s1
    have s7 : a5.tmps.getD 7 undef = .pointer (some ⟨g, 0, none⟩) := (hput.new 6 7 rfl).trans e6
    replace hz := hput.size.trans hz
    replace hd := hput.defers.trans hd
    clear hput e0 e1 e2 e3 e4 e5 e6 s2 s14
    change Code.wp _ _ _ _ _
    have hL : Life W.heap.size w5 g (life0 near) ⟨none, 0, none, 0⟩ ⟨none, 0, none, 0⟩ none 0 := ⟨hk, hg, LOwn.none_ _ _, LOwn.none_ _ _, World.ownsRow_nil _ _ _ _⟩
    replace hBW := hBW.trans (hb5.mono hBs)
    replace hBs := hBW.size
    refine wp_seq (wp_seq ?_)
    refine slots_by [fun v _ => v = .slice A n c, fun v _ => v = .int .i64 n, fun v _ => v = .int .i64 0]
      (by kernel_rfl) (by kernel_rfl) (by kernel_rfl) hz (by kernel_rfl) rfl
      ⟨fun _ _ _ _ h => h, fun _ _ _ _ h => h, fun _ _ _ _ h => h, trivial⟩
      ⟨fun a w1 hb hat => step_ok (on_none rfl) (run_move rfl ((hat.base 0 (by kernel_rfl)).trans s0)) ⟨_, rfl, Below.refl _ _, rfl⟩,
       fun a w1 hb hat => step_ok (on_none rfl) (run_lenS rfl (hat.dep 0 21 (by kernel_rfl) (by kernel_rfl)) (by kernel_rfl)) ⟨_, rfl, Below.refl _ _, rfl⟩,
       fun a w1 hb hat => step_ok (on_none rfl) (run_move rfl rfl) ⟨_, rfl, Below.refl _ _, rfl⟩, trivial⟩ ?_
    rintro vs a6 w6 hb6 ⟨e0, e1, e2, -⟩ hput
    replace s1 : a6.tmps.getD 1 undef = .slice Ad m cd := (hput.old 1 (by kernel_rfl)).trans s1
    replace s7 : a6.tmps.getD 7 undef = .pointer (some ⟨g, 0, none⟩) := (hput.old 7 (by kernel_rfl)).trans s7
    have s21 : a6.tmps.getD 21 undef = .slice A n c := (hput.new 0 21 rfl).trans e0
    have s22 : a6.tmps.getD 22 undef = .int .i64 n := (hput.new 1 22 rfl).trans e1
    have s23 : a6.tmps.getD 23 undef = .int .i64 0 := (hput.new 2 23 rfl).trans e2
    replace hz := hput.size.trans hz
    replace hd := hput.defers.trans hd
    clear hput e0 e1 e2 s0
    change Code.wp _ _ _ _ _
    replace hBW := hBW.trans (hb6.mono hBs)
    replace hBs := hBW.size
    replace hL := hL.below hb6
    refine wp_block (wp_loop (fun a' w' => ∃ k, RunsAt W W.heap.size g n m A Ad c cd k a' w') (fun a' _ => n - (intOf (a'.tmps.getD 23 undef)).toNat) ⟨0, hz, hd, s1, s7, s21, s22, s23, Nat.zero_le _, hBW, _, _, _, _, _, hL, inv0 near hnear, rfl⟩ ?_)
    rintro a7 w7 ⟨k, hI⟩
    refine runsR_any W g n m A Ad c cd bs ds hR hb8 hD hge hm k a7 w7 hI _ (fun a8 w8 h => ?_) (fun a8 w8 h => ⟨⟨k + 1, h⟩, ?_⟩) _ (by kernel_rfl)
    · clear hI hz hd s1 s7 s21 s22 s23 hL hBW hBs
      obtain ⟨hz, hd, s1, s7, s21, s22, s23, hk, hBW, s, p, q, At, ct, hL, hI, hnow⟩ := h
      have hBs := hBW.size
      change Code.wp _ _ _ _ _
      refine wp_seq ?_
      refine slots_by [fun v _ => v = .bool true]
        (by kernel_rfl) (by kernel_rfl) (by kernel_rfl) hz (by kernel_rfl) rfl
        ⟨fun _ _ _ _ h => h, trivial⟩
        ⟨fun a w1 hb hat => step_ok (on_none rfl) (run_assign rfl rfl) ⟨_, rfl, Below.refl _ _, rfl⟩, trivial⟩ ?_
      rintro vs a9 w9 hb9 ⟨e0, -⟩ hput
      have s6 : a9.tmps.getD 6 undef = .bool true := (hput.new 0 6 rfl).trans e0
      replace hz := hput.size.trans hz
      replace hd := hput.defers.trans hd
      clear hput e0 s1 s7 s21 s22 s23
      change Code.wp _ _ _ _ _
      replace hBW := hBW.trans (hb9.mono hBs)
      replace hBs := hBW.size
      refine wp_ret ?_
      show (bodyPost Try.prog Try.f6 (fun r w' => r = .returned (.bool true) ∧ Below W.heap.size W w')) Exit.ret _ _
      exact bodyPost_ret (v := .bool true) (by rw [results_tmp (t := 6) (by kernel_rfl), s6]) hd ⟨rfl, hBW⟩
    · show n - (intOf (a8.tmps.getD 23 undef)).toNat < n - (intOf (a7.tmps.getD 23 undef)).toNat
      rw [h.s23, hI.s23]
      have := h.le
      simp [intOf]
      omega
set_option maxRecDepth 100000 in
set_option maxHeartbeats 8000000 in
theorem runs_any (W : World) (n m : Nat) (A Ad : Option Addr) (c cd : Nat) (bs : List Int) (ds : List Bool) (near : Int) (hR : Reads W W.heap.size 1 A n (u8s bs)) (hb8 : ∀ z ∈ bs, 0 ≤ z ∧ z < 256) (hD : Reads W W.heap.size 1 Ad m (boolsV ds)) (hnm : n ≤ 9223372036854775807) (hm : m ≤ 9223372036854775807) (hnear : 0 ≤ near ∧ near < 256) :
    Calls Try.prog 6 #[.slice A n c, .slice Ad m cd, .int .u8 near] W fun r w' => r = .returned (.bool true) ∧ Below W.heap.size W w' := by
  refine calls_of_wp Try.func6 rfl ?_
  exact runs0_any W n m A Ad c cd bs ds near hR hb8 hD hnm hm hnear W _ (Below.refl _ _) (by kernel_rfl) (by kernel_rfl) (by kernel_rfl) (by kernel_rfl) (by kernel_rfl) _ (by kernel_rfl)
end Go.Proofs.Ytmklebkldailnaa
