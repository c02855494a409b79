/-
  A range over cuts: the law of the statement.
-/
import Derived.Test.YtgfpikelbemkiaaD
namespace Go.Proofs.Ytgfpikelbemkiaa
open Go.RowKit

/-- what is asked at a round's end -/
def cutsPost (Bb Bn : Nat) (I : World → Prop) (W : World) : Exit → Act → World → Prop
  | .normal, _, W' => KeepsOthers W W' ∧ W'.heap[Bb]? = W.heap[Bb]? ∧ W'.heap[Bn]? = W.heap[Bn]? ∧ I W'
  | _, _, _ => False
theorem cutsPost_in {Bb Bn : Nat} {I : World → Prop} {W : World} : ¬ LetsOut (cutsPost Bb Bn I W) := fun ⟨_, _, h⟩ => h

theorem wpIn_cuts {g : Operand} {ps : Array Tmp} {assign body : Code} {Q : Exit → Act → World → Prop} {a : Act} {w : World} (n Bb Bn b off len cap N : Nat) (A : Option Addr) (hN : 1 ≤ N) (hN2 : N ≤ 100) (hlen : len ≤ cap) (hcap : cap ≤ 9223372036854775807) (hA : 0 < len → A = some ⟨b, off, none⟩) (hne : Bb ≠ Bn)
    (hg : a.eval g = .func (.func 14) #[] #[.pointer (some ⟨Bb, 0, none⟩), .pointer (some ⟨Bn, 0, none⟩)]) (hps : ps.size = 1) (hBb : Blk w Bb 22 #[.slice A len cap]) (hBn : Blk w Bn 3 #[.int .i64 N])
    (I : Nat → World → Prop) (h0 : I 0 w) (hIset : ∀ k W v, Blk W Bb 22 v → ∀ u, I k W → I k (W.setCell ⟨Bb, 0, none⟩ u))
    (hIput : ∀ k W l o o', I k W → w.heap.size ≤ l → W.heap[l]? = some o → o.isCells = false → I k (W.putObj l o')) (hIalloc : ∀ k W o, I k W → I k (W.alloc o)) (a₁ : Nat → Act)
    (hassign : ∀ (l k : Nat) (W : World) (K : Act → World → Prop), K (a₁ k) W →
      assign.wpIn (Fence.wide.inRound l) (n - 1 - 1) Try.prog (Exit.then K (fun _ _ _ => False)) { tmps := (ps.zip #[Value.slice (some ⟨b, off + k * N, none⟩) N (cap - k * N)]).foldl (fun t (p, v) => t.setIfInBounds p v) a.tmps, defers := [] } W)
    (hbody : ∀ (l k : Nat) (W : World), I k W → (k + 1) * N ≤ len → (∃ v, Blk W Bb 22 v) → Blk W Bn 3 #[.int .i64 N] → body.wpIn (Fence.wide.inRound l) (n - 1 - 1) Try.prog (cutsPost Bb Bn (I (k + 1)) W) (a₁ k) W)
    (hdone : ∀ (D k : Nat) (W : World), w.heap.size ≤ D → k * N ≤ len → len < k * N + N → I k W → W.heap[D]? = some (.deferred (some [])) → Q .normal { a with defers := { target := .collected D, args := #[] } :: a.defers } W) :
    (Code.rangeFunc g ps assign body).wpIn Fence.wide n Try.prog Q a w := by
  have hBb1 := hBb.lt
  have hBn1 := hBn.lt
  refine wpIn_rangeFunc ?_
  intro fn hfn
  have hro : Fence.wide.round = none := rfl
  rw [hro]
  obtain ⟨rec, hrec⟩ : ∃ rec : LoopState → Option Code → Loop, rec = fun st pe => { state := st, pending := pe, fn, tmps := a.tmps, params := ps, assign, body, defers := w.heap.size } := ⟨_, rfl⟩
  obtain ⟨W1, hW1⟩ : ∃ W1, (w.alloc (.deferred (some []))).alloc (.loop (rec .ready none)) = W1 := ⟨_, rfl⟩
  have hL1 : W1.heap[w.heap.size + 1]? = some (.loop (rec .ready none)) := by
    rw [← hW1]; have := World.alloc_heap_new (w.alloc (.deferred (some []))) (.loop (rec .ready none)); rwa [World.size_alloc] at this
  have hK1 : W1.heap[w.heap.size]? = some (.deferred (some [])) := by
    rw [← hW1]; exact (Below.heap_alloc _ _ _ (by simp)).trans (World.alloc_heap_new w _)
  have hI1 : I 0 W1 := by rw [← hW1]; exact hIalloc _ _ _ (hIalloc _ _ _ h0)
  have hb1 : Below w.heap.size w W1 := by
    rw [← hW1]; exact ((Below.refl _ w).alloc (Nat.le_refl _) _).alloc (by simp) _
  refine ⟨w.heap.size + 1, [{ target := .collected w.heap.size, args := #[] }], W1, { target := .fn (.func 14) #[.pointer (some ⟨Bb, 0, none⟩), .pointer (some ⟨Bn, 0, none⟩)], args := #[.func (.yield (w.heap.size + 1)) #[] #[]] }, W1, 14,
    #[.func (.yield (w.heap.size + 1)) #[] #[]] ++ #[.pointer (some ⟨Bb, 0, none⟩), .pointer (some ⟨Bn, 0, none⟩)], W1, ?_, ?_, ?_, ?_, fun h => by simp [Fence.wide] at h, ?_⟩
  · rw [← hW1, hrec]; exact run_enterLoop_outer _ _ _ _ _
  · simp only [resolve, hg]
    simp [go_sem]
  · intro f' hf'; trivial
  · have eg : ∀ args w, (callFunc 14 args).run Try.prog w = .ok (.enter 14 args) w := fun _ _ => rfl
    simp [invoke, go_sem, eg]
  · refine (cuts1_in (n - 1) (w.heap.size + 1) Bb Bn b off len cap N A
      (fun k W => I k W ∧ W.heap[w.heap.size + 1]? = some (.loop (rec .ready none)) ∧ W.heap[w.heap.size]? = some (.deferred (some [])) ∧ (∃ v, Blk W Bb 22 v) ∧ Blk W Bn 3 #[.int .i64 N])
      hN hN2 hlen hcap hA hne ?_ ?_ W1 (hBb.below hb1 hBb1) (hBn.below hb1 hBn1) ⟨hI1, hL1, hK1, ⟨_, hBb.below hb1 hBb1⟩, hBn.below hb1 hBn1⟩).mono ?_
    · rintro k W v ⟨h1, h2, h3, ⟨u, h4⟩, h5⟩
      exact ⟨hIset k W u h4 v h1, (Below.heap_setCell W ⟨Bb, 0, none⟩ v _ (by show ¬ w.heap.size + 1 = Bb; omega)).trans h2, (Below.heap_setCell W ⟨Bb, 0, none⟩ v _ (by show ¬ w.heap.size = Bb; omega)).trans h3, ⟨_, h4.set_ 0 v⟩, h5.far (p := ⟨Bb, 0, none⟩) (Ne.symm hne) v⟩
    · rintro k W ⟨hi, hl, hk, ⟨u, hu⟩, hun⟩ hlen'
      have hlt : w.heap.size + 1 < W.heap.size := (Array.getElem?_eq_some_iff.1 hl).1
      have hy := run_yield (P := Try.prog) (args := #[Value.slice (some ⟨b, off + k * N, none⟩) N (cap - k * N)]) hl (by rw [hrec]; simp [hps])
      rw [hrec] at hy
      refine ⟨fn, _, assign, body, hy, roundIn_of_wpIn hfn (hassign _ k W _ ⟨_, run_beginRound hl (by rw [hrec]), ?_⟩)⟩
      have hl2 : (W.putObj (w.heap.size + 1) (.loop { rec .ready none with state := .busy })).heap[w.heap.size + 1]? = some (.loop { rec .ready none with state := .busy }) := World.putObj_heap_same hlt
      have hk2 : (W.putObj (w.heap.size + 1) (.loop { rec .ready none with state := .busy })).heap[w.heap.size]? = some (.deferred (some [])) := (World.putObj_heap_other (by omega)).trans hk
      have hB2 : (W.putObj (w.heap.size + 1) (.loop { rec .ready none with state := .busy })).heap[Bb]? = W.heap[Bb]? := World.putObj_heap_other (by omega)
      have hN2' : (W.putObj (w.heap.size + 1) (.loop { rec .ready none with state := .busy })).heap[Bn]? = W.heap[Bn]? := World.putObj_heap_other (by omega)
      refine wpIn_mono (hbody _ k _ (hIput _ _ _ _ _ hi (by omega) hl rfl) hlen' ⟨u, hB2.trans hu⟩ (hN2'.trans hun)) ?_
      rintro e a3 W3 hp
      cases e with
      | normal =>
        obtain ⟨hk3, hb3, hn3, hi3⟩ := hp
        have hl3 := hk3.same _ _ hl2 rfl
        have hr := run_endRound (P := Try.prog) none hl3
        rw [hrec] at hr hl3
        refine ⟨_, _, hr, rfl, ⟨hIput _ _ _ _ _ hi3 (by omega) hl3 rfl, ?_, (World.putObj_heap_other (by omega)).trans (hk3.same _ _ hk2 rfl), ⟨u, ?_⟩, ?_⟩, ?_, ?_⟩
        · rw [hrec]; exact World.putObj_heap_same (Array.getElem?_eq_some_iff.1 hl3).1
        · exact ((World.putObj_heap_other (by omega)).trans (hb3.trans hB2)).trans hu
        · exact ((World.putObj_heap_other (by omega)).trans (hn3.trans hN2')).trans hun
        · exact (World.putObj_heap_other (by omega)).trans (hb3.trans hB2)
        · exact (World.putObj_heap_other (by omega)).trans (hn3.trans hN2')
      | ret => exact hp.elim
      | exit id => exact hp.elim
      | goto t => exact hp.elim
      | panic ch => exact hp.elim
      | outgrown => exact hp.elim
    · rintro e W2 ⟨⟨v, rfl⟩, k, hk1, hk2, hi, hl, hk, _⟩
      exact ⟨none, _, by have := run_endLoop (P := Try.prog) hl (by rw [hrec]; simp); rw [hrec] at this; exact this, hdone _ k _ (Nat.le_refl _) hk1 hk2 (hIput _ _ _ _ _ hi (by omega) hl rfl) ((World.putObj_heap_other (by omega)).trans hk)⟩
end Go.Proofs.Ytgfpikelbemkiaa
