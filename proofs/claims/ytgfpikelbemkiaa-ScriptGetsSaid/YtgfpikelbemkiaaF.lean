/-
  Get.
-/
import Derived.Test.YtgfpikelbemkiaaE
import Derived.Deep.RegionHeld3
import Derived.IntWalk
namespace Go.Proofs.Ytgfpikelbemkiaa
open Go.RowKit
attribute [local go_sem] Oper.semAt_some

def noDefer (ops : Array Oper) : Bool := ops.all fun o => match o.op with | .defer _ => false | _ => true
theorem noDefer_spec {ops : Array Oper} (h : noDefer ops = true) (i : Nat) (o : Oper) (c : Call) (ho : ops[i]? = some o) : o.op ≠ .defer c := fun e => by
  obtain ⟨hi, rfl⟩ := Array.getElem?_eq_some_iff.1 ho
  have := Array.all_eq_true.1 h i hi
  rw [e] at this
  cases this
theorem round_held {S : World → Prop} {l n id : Nat} {ops : Array Oper} {Q : Exit → Act → World → Prop} {a : Act} {w : World} (hm : Try.prog.follows .mixedOrders = true) (hd : noDefer ops = true) (hQ : ¬ LetsOut Q) (hS : S w.drew)
    (h : S w.drew → wpAnyH Try.prog .any ops Q S ops.size (Array.replicate ops.size false) a w.drew) : (Code.region id ops true).wpIn (Fence.wide.inRound l) n Try.prog Q a w :=
  wpIn_region_any hm (any_round (noDefer_spec hd) hQ _ _ _ _ (wpAny_of_held _ _ _ _ (h hS)))

/-- what Get has made, k rounds being over -/
structure GetI (w W0 : World) (bs : List Int) (k : Nat) (W : World) : Prop where
  box : ∃ A1 c1, Blk W w.heap.size 24 #[.slice A1 k c1] ∧ W.ownsRow w.heap.size 27 4 (.slice A1 k c1) k (rowC EV.cells (getN bs k))
  bel : Below w.heap.size w W
  sz : W0.heap.size ≤ W.heap.size
theorem GetI.turn {w W0 : World} {bs : List Int} {k : Nat} {W W' : World} {F : Nat → Prop} (h : GetI w W0 bs k W) (hk : Keeps F W W') (hF : ∀ g, F g → w.heap.size < g) (hC : ∀ g, F g → ∀ cs, ¬ Blk W g 27 cs) : GetI w W0 bs k W' := by
  obtain ⟨A1, c1, h1, h2⟩ := h.box
  refine ⟨⟨A1, c1, hk.blk h1 (fun hf => by have := hF _ hf; omega), hk.own h2 (fun g hg hf => ?_)⟩, below_keeps h.bel hk (fun g hg => by have := hF g hg; omega), Nat.le_trans h.sz hk.size⟩
  rcases h2.2 with ⟨h0, _⟩ | ⟨g', cap, cur, h0, _, hh, _⟩
  · rw [h0] at hg; simp [Value.ownBlock] at hg
  · rw [h0] at hg
    have : g' = g := by simpa [Value.ownBlock] using hg
    subst this
    exact hC _ hf _ hh

theorem get_fin {w W0 W w3 : World} {bs : List Int} {k : Nat} {A1 A3 : Option Addr} {c1 c3 : Nat} {e : EV} {cs : Array Value} {a : Act} (hI : GetI w W0 bs k W) (hbx : Blk W w.heap.size 24 #[.slice A1 k c1]) (hown : W.ownsRow w.heap.size 27 4 (.slice A1 k c1) k (rowC EV.cells (getN bs k))) (hE : entryAt bs k = e)
    (hbb : ∃ v, Blk W (w.heap.size + 1) 22 v) (hbn : Blk W (w.heap.size + 1 + 1) 3 #[.int .i64 4]) (hown3 : w3.ownsRow w.heap.size 27 4 (.slice A3 (k + 1) c3) (k + 1) (rowC EV.cells (getN bs k) ++ EV.cells e)) (hg3 : (W.alloc (.cells cs 27)).drew.grownBy w3 (Value.slice A1 k c1).ownBlock) :
    cutsPost (w.heap.size + 1) (w.heap.size + 1 + 1) (GetI w W0 bs (k + 1)) W .normal a (w3.setCell ⟨w.heap.size, 0, none⟩ (.slice A3 (k + 1) c3)) := by
  obtain ⟨v, hbb⟩ := hbb
  have hK3 : Keeps (fun g => (Value.slice A1 k c1).ownBlock = some g) W w3 := (((Keeps.refl _ W).alloc _).drew).grown hg3 (fun g hg => .inl hg)
  have hb3 := hK3.blk hbx (own_blk_ne hown hbx (by decide))
  have hK : Keeps (fun g => (Value.slice A1 k c1).ownBlock = some g ∨ g = w.heap.size) W (w3.setCell ⟨w.heap.size, 0, none⟩ (.slice A3 (k + 1) c3)) := (hK3.mono (fun g hg _ => .inl hg)).setCell (p := ⟨w.heap.size, 0, none⟩) (.inl (.inr rfl)) _
  refine ⟨?_, ?_, ?_, ?_⟩
  · refine ((KeepsOthers.alloc W _).trans (KeepsOthers.drew _)).trans ((KeepsOthers.of_grownBy hg3 fun j o hj ho => ?_).trans (KeepsOthers.setCell _ _ _))
    rcases hown.2 with ⟨h0, _⟩ | ⟨g, cap, cur, h0, _, hh, _⟩
    · rw [h0] at hj; simp [Value.ownBlock] at hj
    · rw [h0] at hj
      have : g = j := by simpa [Value.ownBlock] using hj
      subst this
      have h1 : (W.alloc (.cells cs 27)).drew.heap[g]? = W.heap[g]? := Below.heap_alloc W _ g (Array.getElem?_eq_some_iff.1 hh).1
      rw [h1, hh] at ho
      cases ho
      rfl
  · exact hK.block _ hbb.lt (fun h => h.elim (own_blk_ne hown hbb (by decide)) (fun h => by omega))
  · exact hK.block _ hbn.lt (fun h => h.elim (own_blk_ne hown hbn (by decide)) (fun h => by omega))
  · refine ⟨⟨A3, c3, hb3.set_ 0 _, ?_⟩, below_keeps hI.bel hK (fun g hg => hg.elim (fun h => (own_base hown h).1) (fun h => by omega)), Nat.le_trans hI.sz hK.size⟩
    have h1 : w3.ownsRow w.heap.size 27 4 (.slice A3 (k + 1) c3) (k + 1) (rowC EV.cells (getN bs (k + 1))) := by
      rw [getN_succ, rowC_append, hE]; simpa [rowC] using hown3
    exact ((Keeps.refl (fun g => g = w.heap.size) w3).setCell (p := ⟨w.heap.size, 0, none⟩) (.inl rfl) _).own h1 (fun g hg e => by subst e; exact own_blk_ne h1 hb3 (by decide) hg)

set_option maxRecDepth 100000 in
set_option maxHeartbeats 8000000 in
theorem get_any (A : Option Addr) (n c : Nat) (bs : List Int) (w : World) (hn : n ≤ 100000) (hnc : n ≤ c) (hc : c ≤ 9223372036854775807) (hr : Reads w w.heap.size 1 A n (u8s bs)) (hby : ∀ z ∈ bs, 0 ≤ z ∧ z < 256) :
    Calls Try.prog 6 #[.slice A n c] w fun r w' => ∃ A' c', r = .returned (.slice A' (n / 4) c') ∧ w'.ownsRow w.heap.size 27 4 (.slice A' (n / 4) c') (n / 4) (rowC EV.cells (getN bs (n / 4))) ∧ Below w.heap.size w w' := by
  obtain ⟨i0, hi, hz0, hz1, hz2⟩ := info_parts ev_info
  have HR := hide hr
  have HBY := hide hby
  obtain ⟨b, off, hAb⟩ : ∃ b off, 0 < n → A = some ⟨b, off, none⟩ ∧ b < w.heap.size := by
    rcases Nat.eq_zero_or_pos n with h0 | h0
    · exact ⟨0, 0, fun h => absurd h (by omega)⟩
    · obtain ⟨b, off, h1, h2, _⟩ := hr.2 h0
      exact ⟨b, off, fun _ => ⟨h1, h2⟩⟩
  clear hr hby
  refine (callsIn_wide (n := 9)).1 ?_
  refine callsIn_of_wp_marks Try.func6 rfl trivial ?_ rfl
  simp only [Try.ntmps6, List.size_toArray, List.length_cons, List.length_nil, Nat.reduceAdd, Nat.reduceSub, Array.replicate_succ, Array.replicate_zero, List.push_toArray, List.append_toArray, List.nil_append, List.cons_append]
  gi_wp2
  refine ⟨trivial, (callsIn_wide.2 (cuts_any A n c 4 _)).mono ?_⟩
  rintro e w' ⟨rfl, rfl⟩
  gi_wp2
  have hb0 := Blk.new w 24 #[.slice none 0 0]
  have hB0 := hide (below_new w (.cells #[.slice none 0 0] 24))
  have hs0 : (w.alloc (.cells #[.slice none 0 0] 24)).heap.size = w.heap.size + 1 := by simp
  generalize w.alloc (.cells #[.slice none 0 0] 24) = W at hb0 hB0 hs0 ⊢
  have hb1 := Blk.new W 22 #[.slice A n c]
  have hb2 := Blk.new (W.alloc (.cells #[.slice A n c] 22)) 3 #[.int .i64 4]
  have hs1 : (W.alloc (.cells #[.slice A n c] 22)).heap.size = W.heap.size + 1 := by simp
  have hB1 := hide (((Below.refl W.heap.size W).alloc (Nat.le_refl _) (.cells #[.slice A n c] 22)).alloc (by simp) (.cells #[.int .i64 4] 3))
  have hb1' := hb1.alloc (.cells #[.int .i64 4] 3)
  have hb0' := (hb0.alloc (.cells #[.slice A n c] 22)).alloc (.cells #[.int .i64 4] 3)
  rw [hs1] at hb2
  have hs2 : ((W.alloc (.cells #[.slice A n c] 22)).alloc (.cells #[.int .i64 4] 3)).heap.size = W.heap.size + 2 := by simp
  generalize (W.alloc (.cells #[.slice A n c] 22)).alloc (.cells #[.int .i64 4] 3) = W2 at hb1' hb2 hb0' hB1 hs2 ⊢
  have hI0 : GetI w W2 bs 0 W2 := ⟨⟨none, 0, hb0', World.ownsRow_nil _ _ _ _⟩, below0 hB0.out hB1.out, Nat.le_refl _⟩
  have HI0 := hide hI0
  rw [hs0] at hb1' hb2 hs2
  have HB1 := hide hb1'
  have HB2 := hide hb2
  clear hb0 hB0 hs0 hb1 hb2 hs1 hB1 hb1' hb0' hI0
  refine wpIn_cuts 9 (w.heap.size + 1) (w.heap.size + 1 + 1) b off n c 4 A (by omega) (by omega) hnc hc (fun h => (hAb h).1) (by omega) rfl rfl HB1.out HB2.out (fun k W => GetI w W2 bs k W) HI0.out ?iset ?iput ?ialloc
    (fun k => { tmps := #[.slice A n c, undef, .slice none 0 0, .pointer (some ⟨w.heap.size, 0, none⟩), .slice (some ⟨b, off + k * 4, none⟩) 4 (c - k * 4), .slice A n c, .func (.func 14) #[] #[.pointer (some ⟨w.heap.size + 1, 0, none⟩), .pointer (some ⟨w.heap.size + 1 + 1, 0, none⟩)], .slice (some ⟨b, off + k * 4, none⟩) 4 (c - k * 4),
      undef, undef, undef, undef, undef, undef, undef, undef, undef, undef, undef, undef, undef, undef, undef, undef, undef, undef, undef, undef, undef, undef], defers := [] }) ?assign ?body ?done
  case iset =>
    intro k W v hv u hI
    exact hI.turn (F := fun g => g = w.heap.size + 1) ((Keeps.refl (fun g => g = w.heap.size + 1) W).setCell (p := ⟨w.heap.size + 1, 0, none⟩) (.inl rfl) u) (fun g hg => by omega) (fun g hg cs hb => by cases hg; exact Blk.ne_ hb hv (by decide) rfl)
  case iput =>
    intro k W l o o' hI hl ho hoc
    refine hI.turn (F := fun g => g = l) ((Keeps.refl _ W).grown (grownBy_putObj' W l o') (fun g hg => .inl (by cases hg; rfl))) (fun g hg => by omega) (fun g hg cs hb => ?_)
    subst hg
    rw [Blk, ho] at hb
    cases hb
    cases hoc
  case ialloc =>
    intro k W o hI
    exact hI.turn (F := fun _ => False) ((Keeps.refl _ W).alloc o) (fun _ h => h.elim) (fun _ h => h.elim)
  case assign =>
    intro l k W K hK
    gi_wp2
    exact hK
  case done =>
    intro D k W hD hk1 hk2 hI hK
    obtain ⟨A1, c1, hbx, hown⟩ := hI.box
    have hc0 : W.cell? ⟨w.heap.size, 0, none⟩ = some (.slice A1 k c1) := hbx.cell 0
    have hkn : n / 4 = k := by omega
    have HKN := hide hkn
    have HOWN := hide hown
    have HBEL := hide hI.bel
    have hDl : w.heap.size ≤ D := by omega
    clear hkn hown hI hbx
    gi_wp2
    refine ⟨by simp, .inl ⟨_, _, rfl, run_takeDeferred hK, ?_⟩⟩
    refine ⟨_, results_tmp rfl _ _ _, ?_⟩
    rw [HKN.out]
    have hP := grownBy_putObj' W D (.deferred none)
    have hKp : Keeps (fun g => g = D) W (W.putObj D (.deferred none)) := (Keeps.refl _ W).grown hP (fun g hg => .inl (by cases hg; rfl))
    refine ⟨A1, c1, rfl, hKp.own HOWN.out (fun g hg e => ?_), below_keeps HBEL.out hKp (fun g hg => by subst hg; exact hDl)⟩
    subst e
    rcases HOWN.out.2 with ⟨h0, _⟩ | ⟨g', cap, cur, h0, _, hh, _⟩
    · rw [h0] at hg; simp [Value.ownBlock] at hg
    · rw [h0] at hg
      have : g' = g := by simpa [Value.ownBlock] using hg
      subst this
      rw [hh] at hK
      cases hK
  case body =>
    intro l k W hI hlen hbb hbn
    have HBB := hide hbb
    have HBN := hide hbn
    clear hbb hbn
    obtain ⟨A1, c1, hbx, hown⟩ := hI.box
    have hbel := hide hI.bel
    have HI := hide hI
    have hk4 : k * 4 + 4 ≤ n := by omega
    obtain ⟨_, hbw⟩ := hAb (by omega)
    obtain ⟨b1, o1, z0, hA1, _, hz0', h0⟩ := HR.out.byte_at (k := k * 4) (by omega)
    obtain ⟨b2, o2, z1, hA2, _, hz1', h1⟩ := HR.out.byte_at (k := k * 4 + 1) (by omega)
    obtain ⟨b3, o3, z2, hA3, _, hz2', h2⟩ := HR.out.byte_at (k := k * 4 + 2) (by omega)
    obtain ⟨b4, o4, z3, hA4, _, hz3', h3⟩ := HR.out.byte_at (k := k * 4 + 3) (by omega)
    have hA0 := (hAb (by omega)).1
    rw [hA0] at hA1 hA2 hA3 hA4
    cases hA1
    cases hA2
    cases hA3
    cases hA4
    obtain ⟨l0, g0⟩ := HBY.out z0 (List.mem_of_getElem? hz0')
    obtain ⟨l1, g1⟩ := HBY.out z1 (List.mem_of_getElem? hz1')
    obtain ⟨l2, g2⟩ := HBY.out z2 (List.mem_of_getElem? hz2')
    obtain ⟨l3, g3⟩ := HBY.out z3 (List.mem_of_getElem? hz3')
    have HE := hide (show entryAt bs k = ⟨z0 % 11, z1, z2, z3⟩ by
      simp only [entryAt, Nat.mul_comm 4 k, List.getD_eq_getElem?_getD, hz0', hz1', hz2', hz3', Option.getD_some])
    have d0 : W.cell? ⟨b, off + k * 4, none⟩ = some (.int .u8 z0) := cell_keep h0 hbel.out
    have d1 : W.cell? ⟨b, off + k * 4 + 1, none⟩ = some (.int .u8 z1) := cell_keep h1 hbel.out
    have d2 : W.cell? ⟨b, off + k * 4 + 2, none⟩ = some (.int .u8 z2) := cell_keep h2 hbel.out
    have d3 : W.cell? ⟨b, off + k * 4 + 3, none⟩ = some (.int .u8 z3) := cell_keep h3 hbel.out
    have HBX := hide hbx
    have HOWN := hide hown
    have hone := EV.cells_one ⟨z0 % 11, z1, z2, z3⟩
    have v0 : IntKind.i64.wrap z0 = z0 := IntWalk.i64_in _ (by omega)
    have v1 : IntKind.i64.wrap z1 = z1 := IntWalk.i64_in _ (by omega)
    have v2 : IntKind.i64.wrap z2 = z2 := IntWalk.i64_in _ (by omega)
    have v3 : IntKind.i64.wrap z3 = z3 := IntWalk.i64_in _ (by omega)
    have v4 : z0.tmod 11 = z0 % 11 := Int.tmod_eq_emod_of_nonneg l0
    have hba := (below_new W (.cells #[.int .i64 (z0 % 11), .int .i64 z1, .int .i64 z2, .int .i64 z3] 27)).drew
    have hS0 : GetS b (off + k * 4) (off + k * 4 + 1) (off + k * 4 + 2) (off + k * 4 + 3) z0 z1 z2 z3 W.drew := ⟨d0, d1, d2, d3⟩
    have hSA : GetS b (off + k * 4) (off + k * 4 + 1) (off + k * 4 + 2) (off + k * 4 + 3) z0 z1 z2 z3 (W.alloc (.cells #[.int .i64 (z0 % 11), .int .i64 z1, .int .i64 z2, .int .i64 z3] 27)).drew := ⟨cell_keep d0 hba, cell_keep d1 hba, cell_keep d2 hba, cell_keep d3 hba⟩
    clear hz0' hz1' hz2' hz3' hbx hown d0 d1 d2 d3 hba
    gi_wp2
    refine round_held (S := fun w' => GetS b (off + k * 4) (off + k * 4 + 1) (off + k * 4 + 2) (off + k * 4 + 3) z0 z1 z2 z3 w') (by kernel_rfl) (by kernel_rfl) ?_ hS0 (fun hHeld => ?_)
    · rintro ⟨a, w, h⟩
      exact h
    refine wpAnyH_take (i := 1) (oi := { dst := some 9, op := Op.move (Operand.tmp 4), type := 22, pos := "script.go:76", after := #[], guard := none }) (v := ?_) rfl (by kernel_rfl) (by kernel_rfl) (by kernel_rfl) (fun _ _ _ h => h) (Or.inl ⟨by rfl, ?_⟩) (by assumption) ?_
    rotate_left
    · (intro w hSw; (try dsimp only at hSw); go_simp; try with_reducible rfl)
    try simp only [Act.put, List.setIfInBounds_toArray, List.set_cons_zero, List.set_cons_succ]
    refine wpAnyH_take (i := 2) (oi := { dst := some 10, op := Op.indexAddr 22 (Operand.tmp 9) (Operand.const (Value.int IntKind.i64 0)), type := 0, pos := "script.go:76", after := #[{ on := 1, ground := Ground.data }], guard := none }) (v := ?_) rfl (by kernel_rfl) (by kernel_rfl) (by kernel_rfl) (fun _ _ _ h => h) (Or.inl ⟨by rfl, ?_⟩) (by assumption) ?_
    rotate_left
    · (intro w hSw; (try dsimp only at hSw); go_simp; try with_reducible rfl)
    try simp only [Act.put, List.setIfInBounds_toArray, List.set_cons_zero, List.set_cons_succ]
    refine wpAnyH_take (i := 3) (oi := { dst := some 11, op := Op.load 5 (Operand.tmp 10), type := 5, pos := "script.go:76", after := #[{ on := 2, ground := Ground.data }], guard := none }) (v := ?_) rfl (by kernel_rfl) (by kernel_rfl) (by kernel_rfl) (fun _ _ _ h => h) (Or.inl ⟨by rfl, ?_⟩) (by assumption) ?_
    rotate_left
    · (intro w hSw; (try dsimp only at hSw); go_simp; try with_reducible rfl)
    try simp only [Act.put, List.setIfInBounds_toArray, List.set_cons_zero, List.set_cons_succ]
    refine wpAnyH_take (i := 4) (oi := { dst := some 12, op := Op.convert 5 3 (Operand.tmp 11), type := 3, pos := "script.go:76", after := #[{ on := 3, ground := Ground.data }], guard := none }) (v := ?_) rfl (by kernel_rfl) (by kernel_rfl) (by kernel_rfl) (fun _ _ _ h => h) (Or.inl ⟨by rfl, ?_⟩) (by assumption) ?_
    rotate_left
    · (intro w hSw; (try dsimp only at hSw); go_simp; try with_reducible rfl)
    try simp only [Act.put, List.setIfInBounds_toArray, List.set_cons_zero, List.set_cons_succ]
    refine wpAnyH_take (i := 5) (oi := { dst := some 13, op := Op.binOp BinOp.rem 3 (Operand.tmp 12) (Operand.const (Value.int IntKind.i64 11)) 3, type := 3, pos := "script.go:76", after := #[{ on := 4, ground := Ground.data }], guard := none }) (v := ?_) rfl (by kernel_rfl) (by kernel_rfl) (by kernel_rfl) (fun _ _ _ h => h) (Or.inl ⟨by rfl, ?_⟩) (by assumption) ?_
    rotate_left
    · (intro w hSw; (try dsimp only at hSw); go_simp; try with_reducible rfl)
    try simp only [Act.put, List.setIfInBounds_toArray, List.set_cons_zero, List.set_cons_succ]
    refine wpAnyH_take (i := 6) (oi := { dst := some 14, op := Op.move (Operand.tmp 4), type := 22, pos := "script.go:76", after := #[], guard := none }) (v := ?_) rfl (by kernel_rfl) (by kernel_rfl) (by kernel_rfl) (fun _ _ _ h => h) (Or.inl ⟨by rfl, ?_⟩) (by assumption) ?_
    rotate_left
    · (intro w hSw; (try dsimp only at hSw); go_simp; try with_reducible rfl)
    try simp only [Act.put, List.setIfInBounds_toArray, List.set_cons_zero, List.set_cons_succ]
    refine wpAnyH_take (i := 7) (oi := { dst := some 15, op := Op.indexAddr 22 (Operand.tmp 14) (Operand.const (Value.int IntKind.i64 1)), type := 0, pos := "script.go:76", after := #[{ on := 6, ground := Ground.data }], guard := none }) (v := ?_) rfl (by kernel_rfl) (by kernel_rfl) (by kernel_rfl) (fun _ _ _ h => h) (Or.inl ⟨by rfl, ?_⟩) (by assumption) ?_
    rotate_left
    · (intro w hSw; (try dsimp only at hSw); go_simp; try with_reducible rfl)
    try simp only [Act.put, List.setIfInBounds_toArray, List.set_cons_zero, List.set_cons_succ]
    refine wpAnyH_take (i := 8) (oi := { dst := some 16, op := Op.load 5 (Operand.tmp 15), type := 5, pos := "script.go:76", after := #[{ on := 7, ground := Ground.data }], guard := none }) (v := ?_) rfl (by kernel_rfl) (by kernel_rfl) (by kernel_rfl) (fun _ _ _ h => h) (Or.inl ⟨by rfl, ?_⟩) (by assumption) ?_
    rotate_left
    · (intro w hSw; (try dsimp only at hSw); go_simp; try with_reducible rfl)
    try simp only [Act.put, List.setIfInBounds_toArray, List.set_cons_zero, List.set_cons_succ]
    refine wpAnyH_take (i := 9) (oi := { dst := some 17, op := Op.convert 5 3 (Operand.tmp 16), type := 3, pos := "script.go:76", after := #[{ on := 8, ground := Ground.data }], guard := none }) (v := ?_) rfl (by kernel_rfl) (by kernel_rfl) (by kernel_rfl) (fun _ _ _ h => h) (Or.inl ⟨by rfl, ?_⟩) (by assumption) ?_
    rotate_left
    · (intro w hSw; (try dsimp only at hSw); go_simp; try with_reducible rfl)
    try simp only [Act.put, List.setIfInBounds_toArray, List.set_cons_zero, List.set_cons_succ]
    refine wpAnyH_take (i := 10) (oi := { dst := some 18, op := Op.move (Operand.tmp 4), type := 22, pos := "script.go:76", after := #[], guard := none }) (v := ?_) rfl (by kernel_rfl) (by kernel_rfl) (by kernel_rfl) (fun _ _ _ h => h) (Or.inl ⟨by rfl, ?_⟩) (by assumption) ?_
    rotate_left
    · (intro w hSw; (try dsimp only at hSw); go_simp; try with_reducible rfl)
    try simp only [Act.put, List.setIfInBounds_toArray, List.set_cons_zero, List.set_cons_succ]
    refine wpAnyH_take (i := 11) (oi := { dst := some 19, op := Op.indexAddr 22 (Operand.tmp 18) (Operand.const (Value.int IntKind.i64 2)), type := 0, pos := "script.go:76", after := #[{ on := 10, ground := Ground.data }], guard := none }) (v := ?_) rfl (by kernel_rfl) (by kernel_rfl) (by kernel_rfl) (fun _ _ _ h => h) (Or.inl ⟨by rfl, ?_⟩) (by assumption) ?_
    rotate_left
    · (intro w hSw; (try dsimp only at hSw); go_simp; try with_reducible rfl)
    try simp only [Act.put, List.setIfInBounds_toArray, List.set_cons_zero, List.set_cons_succ]
    refine wpAnyH_take (i := 12) (oi := { dst := some 20, op := Op.load 5 (Operand.tmp 19), type := 5, pos := "script.go:76", after := #[{ on := 11, ground := Ground.data }], guard := none }) (v := ?_) rfl (by kernel_rfl) (by kernel_rfl) (by kernel_rfl) (fun _ _ _ h => h) (Or.inl ⟨by rfl, ?_⟩) (by assumption) ?_
    rotate_left
    · (intro w hSw; (try dsimp only at hSw); go_simp; try with_reducible rfl)
    try simp only [Act.put, List.setIfInBounds_toArray, List.set_cons_zero, List.set_cons_succ]
    refine wpAnyH_take (i := 13) (oi := { dst := some 21, op := Op.convert 5 3 (Operand.tmp 20), type := 3, pos := "script.go:76", after := #[{ on := 12, ground := Ground.data }], guard := none }) (v := ?_) rfl (by kernel_rfl) (by kernel_rfl) (by kernel_rfl) (fun _ _ _ h => h) (Or.inl ⟨by rfl, ?_⟩) (by assumption) ?_
    rotate_left
    · (intro w hSw; (try dsimp only at hSw); go_simp; try with_reducible rfl)
    try simp only [Act.put, List.setIfInBounds_toArray, List.set_cons_zero, List.set_cons_succ]
    refine wpAnyH_take (i := 14) (oi := { dst := some 22, op := Op.move (Operand.tmp 4), type := 22, pos := "script.go:76", after := #[], guard := none }) (v := ?_) rfl (by kernel_rfl) (by kernel_rfl) (by kernel_rfl) (fun _ _ _ h => h) (Or.inl ⟨by rfl, ?_⟩) (by assumption) ?_
    rotate_left
    · (intro w hSw; (try dsimp only at hSw); go_simp; try with_reducible rfl)
    try simp only [Act.put, List.setIfInBounds_toArray, List.set_cons_zero, List.set_cons_succ]
    refine wpAnyH_take (i := 15) (oi := { dst := some 23, op := Op.indexAddr 22 (Operand.tmp 22) (Operand.const (Value.int IntKind.i64 3)), type := 0, pos := "script.go:76", after := #[{ on := 14, ground := Ground.data }], guard := none }) (v := ?_) rfl (by kernel_rfl) (by kernel_rfl) (by kernel_rfl) (fun _ _ _ h => h) (Or.inl ⟨by rfl, ?_⟩) (by assumption) ?_
    rotate_left
    · (intro w hSw; (try dsimp only at hSw); go_simp; try with_reducible rfl)
    try simp only [Act.put, List.setIfInBounds_toArray, List.set_cons_zero, List.set_cons_succ]
    refine wpAnyH_take (i := 16) (oi := { dst := some 24, op := Op.load 5 (Operand.tmp 23), type := 5, pos := "script.go:76", after := #[{ on := 15, ground := Ground.data }], guard := none }) (v := ?_) rfl (by kernel_rfl) (by kernel_rfl) (by kernel_rfl) (fun _ _ _ h => h) (Or.inl ⟨by rfl, ?_⟩) (by assumption) ?_
    rotate_left
    · (intro w hSw; (try dsimp only at hSw); go_simp; try with_reducible rfl)
    try simp only [Act.put, List.setIfInBounds_toArray, List.set_cons_zero, List.set_cons_succ]
    refine wpAnyH_take (i := 17) (oi := { dst := some 25, op := Op.convert 5 3 (Operand.tmp 24), type := 3, pos := "script.go:76", after := #[{ on := 16, ground := Ground.data }], guard := none }) (v := ?_) rfl (by kernel_rfl) (by kernel_rfl) (by kernel_rfl) (fun _ _ _ h => h) (Or.inl ⟨by rfl, ?_⟩) (by assumption) ?_
    rotate_left
    · (intro w hSw; (try dsimp only at hSw); go_simp; try with_reducible rfl)
    try simp only [Act.put, List.setIfInBounds_toArray, List.set_cons_zero, List.set_cons_succ]
    refine wpAnyH_take (i := 18) (oi := { dst := some 26, op := Op.build 27 #[(0, Operand.tmp 13), (1, Operand.tmp 17), (2, Operand.tmp 21), (3, Operand.tmp 25)], type := 27, pos := "script.go:76", after := #[{ on := 5, ground := Ground.data }, { on := 9, ground := Ground.data }, { on := 13, ground := Ground.data }, { on := 17, ground := Ground.data }], guard := none }) (v := ?_) rfl (by kernel_rfl) (by kernel_rfl) (by kernel_rfl) (fun _ _ _ h => h) (Or.inl ⟨by rfl, ?_⟩) (by assumption) ?_
    rotate_left
    · (intro w hSw; (try dsimp only at hSw); go_simp; try with_reducible rfl)
    try simp only [Act.put, List.setIfInBounds_toArray, List.set_cons_zero, List.set_cons_succ]
    have e0 : W.drew.cell? ⟨w.heap.size, 0, none⟩ = some (.slice A1 k c1) := HBX.out.cell 0
    have e1 : (W.alloc (.cells #[.int .i64 (z0 % 11), .int .i64 z1, .int .i64 z2, .int .i64 z3] 27)).drew.cell? ⟨w.heap.size, 0, none⟩ = some (.slice A1 k c1) := (HBX.out.alloc _).cell 0
    have hz : w.heap.size ≤ W.heap.size := hbel.out.size
    refine wpAnyH_ready (rs := [0, 19]) (by kernel_rfl) (by simp) ?_
    refine AllReadyH.cons (o := { dst := some 8, op := Op.load 24 (Operand.tmp 3), type := 24, pos := "script.go:76", after := #[], guard := none }) rfl (fun K hK => ?_) (AllReadyH.cons (o := { dst := some 27, op := Op.buildSlice 24 1 #[(0, Operand.tmp 26)], type := 24, pos := "script.go:76", after := #[{ on := 18, ground := Ground.data }], guard := none }) rfl (fun K hK => ?_) AllReadyH.nil)
    · go_simp
      refine hK.out _ _ hS0 (fun hHeld => ?_)
      clear hK K
      refine wpAnyH_ready (rs := [19]) (by kernel_rfl) (by simp) ?_
      refine AllReadyH.cons (o := { dst := some 27, op := Op.buildSlice 24 1 #[(0, Operand.tmp 26)], type := 24, pos := "script.go:76", after := #[{ on := 18, ground := Ground.data }], guard := none }) rfl (fun K hK => ?_) AllReadyH.nil
      go_simp
      refine hK.out _ _ hSA (fun hHeld => ?_)
      clear hK K
      refine wpAnyH_ready (rs := [20]) (by kernel_rfl) (by simp) ?_
      refine AllReadyH.cons (o := { dst := some 28, op := Op.call { callee := Callee.builtin Builtin.append, args := #[Operand.tmp 8, Operand.tmp 27], argTypes := #[24, 24] }, type := 24, pos := "script.go:76", after := #[{ on := 0, ground := Ground.data }, { on := 19, ground := Ground.data }], guard := none }) rfl (fun K hK => ?_) AllReadyH.nil
      refine step_append_any _ (by rfl) (.tmp 8) (.tmp 27) 24 (by rfl) w.heap.size 27 i0 _ 4 32 Try.underlying24 hi hz0 hz1 hz2 rfl (by omega) (.slice A1 k c1) k (rowC EV.cells (getN bs k)) (by rfl) ((World.ownsRow.alloc (w := W) HOWN.out _).drew) (W.heap.size + 1) (some ⟨W.heap.size, 0, none⟩) 1 1 (EV.cells ⟨z0 % 11, z1, z2, z3⟩) (by rfl)
        (Reads.new W #[.int .i64 (z0 % 11), .int .i64 z1, .int .i64 z2, .int .i64 z3] 27 1 4 rfl) hone (by simp only [maxLen]; omega) (by omega) (by simp; omega) ?_
      intro A3 c3 w3 hown3 hg3 hloc3
      have HF := hide (get_fin (a := { tmps := #[], defers := [] }) HI.out HBX.out HOWN.out HE.out HBB.out HBN.out hown3 hg3)
      have hb3 : Blk w3 w.heap.size 24 #[.slice A1 k c1] := ((((Keeps.refl _ W).alloc _).drew).grown hg3 (fun g hg => .inl hg)).blk HBX.out (own_blk_ne HOWN.out HBX.out (by decide))
      have hB3 := ((hbel.out.alloc hbel.out.size (.cells #[.int .i64 (z0 % 11), .int .i64 z1, .int .i64 z2, .int .i64 z3] 27)).drew).grown hg3 (by simp; omega) (fun g hg => (own_base HOWN.out hg).1)
      have hS3 : GetS b (off + k * 4) (off + k * 4 + 1) (off + k * 4 + 2) (off + k * 4 + 3) z0 z1 z2 z3 w3 := ⟨cell_keep h0 hB3, cell_keep h1 hB3, cell_keep h2 hB3, cell_keep h3 hB3⟩
      have q0 : w3.cell? ⟨w.heap.size, 0, none⟩ = some (.slice A1 k c1) := hb3.cell 0
      have q1 : w3.frozen? ⟨w.heap.size, 0, none⟩ = false := hb3.frozen 0
      refine hK.out _ _ hS3 (fun hHeld => ?_)
      clear hK K hown3 hg3 hloc3
      refine wpAnyH_ready (rs := [21]) (by kernel_rfl) (by simp) ?_
      refine AllReadyH.cons (o := { dst := none, op := Op.store 24 (Operand.tmp 3) (Operand.tmp 28), type := 0, pos := "script.go:76", after := #[{ on := 20, ground := Ground.data }, { on := 20, ground := Ground.chain }, { on := 0, ground := Ground.phase }, { on := 1, ground := Ground.phase }, { on := 2, ground := Ground.phase }, { on := 3, ground := Ground.phase }, { on := 4, ground := Ground.phase }, { on := 5, ground := Ground.phase }, { on := 6, ground := Ground.phase }, { on := 7, ground := Ground.phase }, { on := 8, ground := Ground.phase }, { on := 9, ground := Ground.phase }, { on := 10, ground := Ground.phase }, { on := 11, ground := Ground.phase }, { on := 12, ground := Ground.phase }, { on := 13, ground := Ground.phase }, { on := 14, ground := Ground.phase }, { on := 15, ground := Ground.phase }, { on := 16, ground := Ground.phase }, { on := 17, ground := Ground.phase }, { on := 18, ground := Ground.phase }, { on := 19, ground := Ground.phase }, { on := 20, ground := Ground.phase }], guard := none }) rfl (fun K hK => ?_) AllReadyH.nil
      go_simp
      refine hK.out _ _ ?_ (fun hHeld => ?_)
      · obtain ⟨s0, s1, s2, s3⟩ := hS3
        have hne : (⟨w.heap.size, 0, none⟩ : Addr).block ≠ b := by show ¬ w.heap.size = b; omega
        exact ⟨(World.cell?_setCell_far _ _ _ _ hne).trans s0, (World.cell?_setCell_far _ _ _ _ hne).trans s1, (World.cell?_setCell_far _ _ _ _ hne).trans s2, (World.cell?_setCell_far _ _ _ _ hne).trans s3⟩
      refine wpAnyH_done (by kernel_rfl) ?_ _
      exact HF.out
    · go_simp
      refine hK.out _ _ hSA (fun hHeld => ?_)
      clear hK K
      refine wpAnyH_ready (rs := [0]) (by kernel_rfl) (by simp) ?_
      refine AllReadyH.cons (o := { dst := some 8, op := Op.load 24 (Operand.tmp 3), type := 24, pos := "script.go:76", after := #[], guard := none }) rfl (fun K hK => ?_) AllReadyH.nil
      go_simp
      refine hK.out _ _ hSA (fun hHeld => ?_)
      clear hK K
      refine wpAnyH_ready (rs := [20]) (by kernel_rfl) (by simp) ?_
      refine AllReadyH.cons (o := { dst := some 28, op := Op.call { callee := Callee.builtin Builtin.append, args := #[Operand.tmp 8, Operand.tmp 27], argTypes := #[24, 24] }, type := 24, pos := "script.go:76", after := #[{ on := 0, ground := Ground.data }, { on := 19, ground := Ground.data }], guard := none }) rfl (fun K hK => ?_) AllReadyH.nil
      refine step_append_any _ (by rfl) (.tmp 8) (.tmp 27) 24 (by rfl) w.heap.size 27 i0 _ 4 32 Try.underlying24 hi hz0 hz1 hz2 rfl (by omega) (.slice A1 k c1) k (rowC EV.cells (getN bs k)) (by rfl) ((World.ownsRow.alloc (w := W) HOWN.out _).drew) (W.heap.size + 1) (some ⟨W.heap.size, 0, none⟩) 1 1 (EV.cells ⟨z0 % 11, z1, z2, z3⟩) (by rfl)
        (Reads.new W #[.int .i64 (z0 % 11), .int .i64 z1, .int .i64 z2, .int .i64 z3] 27 1 4 rfl) hone (by simp only [maxLen]; omega) (by omega) (by simp; omega) ?_
      intro A3 c3 w3 hown3 hg3 hloc3
      have HF := hide (get_fin (a := { tmps := #[], defers := [] }) HI.out HBX.out HOWN.out HE.out HBB.out HBN.out hown3 hg3)
      have hb3 : Blk w3 w.heap.size 24 #[.slice A1 k c1] := ((((Keeps.refl _ W).alloc _).drew).grown hg3 (fun g hg => .inl hg)).blk HBX.out (own_blk_ne HOWN.out HBX.out (by decide))
      have hB3 := ((hbel.out.alloc hbel.out.size (.cells #[.int .i64 (z0 % 11), .int .i64 z1, .int .i64 z2, .int .i64 z3] 27)).drew).grown hg3 (by simp; omega) (fun g hg => (own_base HOWN.out hg).1)
      have hS3 : GetS b (off + k * 4) (off + k * 4 + 1) (off + k * 4 + 2) (off + k * 4 + 3) z0 z1 z2 z3 w3 := ⟨cell_keep h0 hB3, cell_keep h1 hB3, cell_keep h2 hB3, cell_keep h3 hB3⟩
      have q0 : w3.cell? ⟨w.heap.size, 0, none⟩ = some (.slice A1 k c1) := hb3.cell 0
      have q1 : w3.frozen? ⟨w.heap.size, 0, none⟩ = false := hb3.frozen 0
      refine hK.out _ _ hS3 (fun hHeld => ?_)
      clear hK K hown3 hg3 hloc3
      refine wpAnyH_ready (rs := [21]) (by kernel_rfl) (by simp) ?_
      refine AllReadyH.cons (o := { dst := none, op := Op.store 24 (Operand.tmp 3) (Operand.tmp 28), type := 0, pos := "script.go:76", after := #[{ on := 20, ground := Ground.data }, { on := 20, ground := Ground.chain }, { on := 0, ground := Ground.phase }, { on := 1, ground := Ground.phase }, { on := 2, ground := Ground.phase }, { on := 3, ground := Ground.phase }, { on := 4, ground := Ground.phase }, { on := 5, ground := Ground.phase }, { on := 6, ground := Ground.phase }, { on := 7, ground := Ground.phase }, { on := 8, ground := Ground.phase }, { on := 9, ground := Ground.phase }, { on := 10, ground := Ground.phase }, { on := 11, ground := Ground.phase }, { on := 12, ground := Ground.phase }, { on := 13, ground := Ground.phase }, { on := 14, ground := Ground.phase }, { on := 15, ground := Ground.phase }, { on := 16, ground := Ground.phase }, { on := 17, ground := Ground.phase }, { on := 18, ground := Ground.phase }, { on := 19, ground := Ground.phase }, { on := 20, ground := Ground.phase }], guard := none }) rfl (fun K hK => ?_) AllReadyH.nil
      go_simp
      refine hK.out _ _ ?_ (fun hHeld => ?_)
      · obtain ⟨s0, s1, s2, s3⟩ := hS3
        have hne : (⟨w.heap.size, 0, none⟩ : Addr).block ≠ b := by show ¬ w.heap.size = b; omega
        exact ⟨(World.cell?_setCell_far _ _ _ _ hne).trans s0, (World.cell?_setCell_far _ _ _ _ hne).trans s1, (World.cell?_setCell_far _ _ _ _ hne).trans s2, (World.cell?_setCell_far _ _ _ _ hne).trans s3⟩
      refine wpAnyH_done (by kernel_rfl) ?_ _
      exact HF.out
end Go.Proofs.Ytgfpikelbemkiaa
