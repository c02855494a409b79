/-
  A range over cuts, over memory told by pieces; regions within its rounds. No statement is proved here.
-/
import Derived.Test.YtdenfgnkbfbpmaaIdx
import Derived.RangeFuncNested
import Derived.RangeFuncBound
import Derived.RangeFuncCalls
import Derived.RangeFuncLeaves
import Derived.RangeFuncIn
import Derived.OrdersIn
import Derived.StillTail
import Derived.Shelf.Abstract
import Derived.Shelf.RegionOpen
import Derived.OwnWalkIn
import Derived.TacticsInMore
import Derived.LoopNIn
import Derived.LoopIn
namespace Go.Proofs.Ytdenfgnkbfbpmaa
open Go.RowKit
section
variable {P : Program} {l n : Nat} {ops : Array Oper} {md : Region.Mode} {Q : Exit → Act → World → Prop}
theorem rowsIn_wide {n : Nat} {row : String} {args : Array Value} {w : World} {R : Value → World → Prop} (h : Rows P row args w R) : RowsIn (Fence.wide.inRound l) n P row args w R :=
  fun c cs _ => let ⟨v, w', r, s⟩ := h c cs; ⟨v, w', r, stepsIn_wide.2 s⟩
theorem oper_round {o : Oper} {a : Act} {w : World} {K : Act → World → Prop} (hd : ∀ c, o.op ≠ .defer c) (h : o.wp P a w K Q) : o.wpIn (Fence.wide.inRound l) n P a w K Q := by
  refine ⟨fun _ _ => trivial, ?_⟩
  rw [Fence.inRound_round, Oper.semAt_some l _ o hd]
  unfold Oper.wp at h
  revert h
  generalize (execOp a.eval o).run P w = r
  intro h
  cases r with
  | ok x w' =>
    cases x with
    | value v => exact h
    | skip => exact h
    | defer d => exact h
    | enter f args => exact ⟨fun h => by simp [Fence.wide] at h, CallsIn.inRound l (callsIn_wide.2 h)⟩
    | row r args => exact ⟨fun h => by simp [Fence.wide] at h, rowsIn_wide h⟩
    | _ => exact h.elim
  | halt x w' => cases x <;> exact h
theorem any_round (hd : ∀ (i : Nat) (o : Oper) (c : Call), ops[i]? = some o → o.op ≠ .defer c) (hQ : ¬ LetsOut Q) : ∀ (fuel : Nat) (listed : Array Bool) (a : Act) (w : World), wpAny P md ops Q fuel listed a w → wpAnyIn (Fence.wide.inRound l) n P md ops Q fuel listed a w
  | 0, _, _, _, h => h
  | fuel + 1, listed, a, w, h => by
    refine ⟨h.1, fun i hi => ?_⟩
    have h2 := h.2 i hi
    unfold wpOp at h2
    unfold wpOpIn
    split
    · rename_i ho
      simp only [ho] at h2
      exact any_round hd hQ fuel _ _ _ h2
    · rename_i o ho
      simp only [ho] at h2
      split
      · rename_i hw
        simp only [hw, if_true] at h2
        rcases h2 with h2 | h2
        · exact Oper.wpIn_mono (fun a w => any_round hd hQ fuel _ a w) (oper_round (fun c => hd i o c ho) h2)
        · exact absurd h2.2 hQ
      · rename_i hw
        simp only [hw] at h2
        exact ⟨fun _ _ => trivial, any_round hd hQ fuel _ _ _ h2⟩
/-- reads in any order, then a forced tail: within a round -/
theorem round_still_tail {id : Nat} {a : Act} {w : World} {l' : List Oper} (m : Nat) (hm : P.follows .mixedOrders = true) (hB : Region.lexTailB .any l'.toArray m = true) (hd : ∀ o ∈ l', ∀ c, o.op ≠ .defer c) (hQ : ¬ LetsOut Q)
    (h : wpStill P l'.toArray { w with drawn := w.drawn + 1 } (fun a' => wpList P l'.toArray Q (l'.drop m) a' { w with drawn := w.drawn + 1 }) (l'.take m) a) : (Code.region id l'.toArray true).wpIn (Fence.wide.inRound l) n P Q a w := by
  simp only [Region.lexTailB, Bool.and_eq_true, decide_eq_true_eq] at hB
  obtain ⟨⟨⟨⟨hsel, hn⟩, hs⟩, hc⟩, hlex⟩ := hB
  have hn' : m < l'.length := by simpa using hn
  have htl : (l'.take m).length = m := by simp; omega
  have hdl : (l'.drop m).length = l'.toArray.size - m := by simp
  have inv0 : HeadInv .any l'.toArray m (Array.replicate l'.toArray.size false) :=
    ⟨by simp, fun j oj _ hl => (by rw [getD_replicate_false] at hl; cases hl), fun t _ ht => getD_in (by simpa using ht) (getD_replicate_false _ _)⟩
  have H := wpAnyL_lex (md := .any) (g := l'.toArray.size - m) hsel hs hc hn (l'.take m) 0 _ a (fun j hj => by
    have hj' : j < m := by rw [htl] at hj; exact hj
    simp [hj']) (by simpa using htl) inv0 (by rw [htl]; exact hlex) h
  refine wpIn_region_any hm (any_round (fun i o c ho => hd o (by simpa using List.mem_of_getElem? (l := l') (by simpa using ho)) c) hQ _ _ _ _ ?_)
  have := wpAny_of_head (Q' := Q) (g := l'.toArray.size - m) (fun listed a' hL => by
    have := wpAny_of_seq (md := .any) (Q' := Q) (l'.drop m) m listed a' { w with drawn := w.drawn + 1 } (fun j => by simp [List.getElem?_drop]) (by rw [hdl]; exact hL.1) hL.2
    rwa [hdl] at this) _ _ _ H
  rw [htl, show m + (l'.toArray.size - m) = l'.toArray.size by omega] at this
  exact this
end
attribute [local go_sem] Oper.semAt_some

theorem cuts_any (A : Option Addr) (n c : Nat) (N : Int) (w : World) : Calls Try.prog 48 #[.slice A n c, .int .i64 N] w fun r w' =>
    r = .returned (.func (.func 78) #[] #[.pointer (some ⟨w.heap.size, 0, none⟩), .pointer (some ⟨w.heap.size + 1, 0, none⟩)]) ∧ w' = (w.alloc (.cells #[.slice A n c] 42)).alloc (.cells #[.int .i64 N] 3) := by
  go_enter Try.func48, Try.ntmps48
  go_wp2
  go_ret
  exact ⟨by simp, rfl⟩

def sliceLen (w : World) (B : Nat) : Nat := match w.cell? ⟨B, 0, none⟩ with | some (.slice _ n _) => n | _ => 0
theorem sliceLen_eq {w : World} {B n c : Nat} {A : Option Addr} (h : Blk w B 42 #[.slice A n c]) : sliceLen w B = n := by
  have := h.cell 0
  simp [sliceLen, this]

set_option maxRecDepth 100000 in
set_option maxHeartbeats 4000000 in
theorem cuts1_in (n l Bb Bn b off len cap N : Nat) (A : Option Addr) (J : Nat → World → Prop) (hN : 1 ≤ N) (hN2 : N ≤ 100) (hlen : len ≤ cap) (hcap : cap ≤ 9223372036854775807) (hA : 0 < len → A = some ⟨b, off, none⟩) (hne : Bb ≠ Bn)
    (hJ : ∀ k W v, J k W → J k (W.setCell ⟨Bb, 0, none⟩ v))
    (hY : ∀ k W, J k W → (k + 1) * N ≤ len → YieldAt Fence.wide (n - 1) Try.prog l #[.slice (some ⟨b, off + k * N, none⟩) N (cap - k * N)] W fun e W' => e = .returned (.bool true) ∧ J (k + 1) W' ∧ W'.heap[Bb]? = W.heap[Bb]? ∧ W'.heap[Bn]? = W.heap[Bn]?)
    (W : World) (hBb : Blk W Bb 42 #[.slice A len cap]) (hBn : Blk W Bn 3 #[.int .i64 N]) (h0 : J 0 W) :
    CallsIn Fence.wide n Try.prog 78 #[.func (.yield l) #[] #[], .pointer (some ⟨Bb, 0, none⟩), .pointer (some ⟨Bn, 0, none⟩)] W fun e W' => (∃ v, e = .returned v) ∧ ∃ k, k * N ≤ len ∧ len < k * N + N ∧ J k W' := by
  refine callsIn_of_wp Try.func78 rfl trivial ?_ rfl
  simp only [Try.ntmps78, List.size_toArray, List.length_cons, List.length_nil, Nat.reduceAdd, Nat.reduceSub, Array.replicate_succ, Array.replicate_zero, List.push_toArray, List.append_toArray, List.nil_append, List.cons_append]
  gi_wp2
  gi_loopw [7] (fun _ wr => ∃ (k L C o : Nat) (Ak : Option Addr), Hid (L + k * N = len ∧ C + k * N = cap ∧ o = off + k * N) ∧ L ≤ C ∧ C ≤ 9223372036854775807 ∧ Hid (Blk wr Bb 42 #[.slice Ak L C]) ∧ (0 < L → Ak = some ⟨b, o, none⟩) ∧ Hid (Blk wr Bn 3 #[.int .i64 N]) ∧ Hid (J k wr))
    (fun _ wr => sliceLen wr Bb)
  case atStart => exact ⟨0, len, cap, off, A, by apply hide; omega, hlen, hcap, hBb, hA, hBn, h0⟩
  case round =>
    obtain ⟨k, L, C, o, Ak, hk, hLC, hC, hb1, hAk, hb2, hj⟩ := hrel
    have c1 : wr.cell? ⟨Bb, 0, none⟩ = some (.slice Ak L C) := hb1.out.cell 0
    have c2 : wr.cell? ⟨Bn, 0, none⟩ = some (.int .i64 N) := hb2.out.cell 0
    by_cases hlt : N ≤ L
    · obtain rfl := hAk (by omega)
      obtain ⟨e1, e2, e3⟩ := hk.out
      have hy := hY k wr hj.out (by rw [Nat.add_mul, Nat.one_mul]; omega)
      rw [← e3, show cap - k * N = C by omega] at hy
      obtain ⟨fn, tmps, assign, body, hy, hR⟩ := hy
      clear e1 e2 e3 hAk
      gi_wp2
      refine ⟨fun h => (by simp [Fence.wide] at h), hR.mono ?_⟩
      rintro e W3 ⟨rfl, hj3, hh1, hh2⟩
      have hb3 : Blk W3 Bb 42 #[.slice (some ⟨b, o, none⟩) L C] := hh1.trans hb1.out
      have hb4 : Blk W3 Bn 3 #[.int .i64 N] := hh2.trans hb2.out
      have q1 : W3.cell? ⟨Bb, 0, none⟩ = some (.slice (some ⟨b, o, none⟩) L C) := hb3.cell 0
      have q2 : W3.cell? ⟨Bn, 0, none⟩ = some (.int .i64 N) := hb4.cell 0
      have q3 : W3.frozen? ⟨Bb, 0, none⟩ = false := hb3.frozen 0
      have HB3 := hide hb3
      have HB4 := hide hb4
      have HJ3 := hide hj3
      clear hb3 hb4 hj3 hh1 hh2 c1 c2 hR hy
      by_cases hCN : C = N
      · subst hCN
        have hL : L = C := by omega
        subst hL
        have hn3 : Hid (Blk (W3.setCell ⟨Bb, 0, none⟩ (.slice (some ⟨b, o, none⟩) 0 0)) Bb 42 #[.slice (some ⟨b, o, none⟩) 0 0]) := hide (by have := HB3.out.set_ 0 (.slice (some ⟨b, o, none⟩) 0 0); simpa using this)
        gi_wp2
        go_roundw
        case rel => exact ⟨k + 1, 0, 0, o + L, _, (by have := hk.out; apply hide; rw [Nat.add_mul, Nat.one_mul]; omega), Nat.le_refl _, by omega, hn3, fun h => absurd h (by omega), hide (HB4.out.far (p := ⟨Bb, 0, none⟩) (Ne.symm hne) _), hide (hJ _ _ _ HJ3.out)⟩
        case measure => rw [sliceLen_eq hn3.out, sliceLen_eq hb1.out]; omega
      · have hn3 : Hid (Blk (W3.setCell ⟨Bb, 0, none⟩ (.slice (some ⟨b, o + N, none⟩) (L - N) (C - N))) Bb 42 #[.slice (some ⟨b, o + N, none⟩) (L - N) (C - N)]) := hide (by have := HB3.out.set_ 0 (.slice (some ⟨b, o + N, none⟩) (L - N) (C - N)); simpa using this)
        gi_wp2
        go_roundw
        case rel => exact ⟨k + 1, L - N, C - N, o + N, _, (by have := hk.out; apply hide; rw [Nat.add_mul, Nat.one_mul]; omega), by omega, by omega, hn3, fun _ => rfl, hide (HB4.out.far (p := ⟨Bb, 0, none⟩) (Ne.symm hne) _), hide (hJ _ _ _ HJ3.out)⟩
        case measure => rw [sliceLen_eq hn3.out, sliceLen_eq hb1.out]; omega
    · clear hAk
      gi_wp2
      go_end0
      exact ⟨⟨_, rfl⟩, k, by have := hk.out; omega, by have := hk.out; omega, hj.out⟩

/-- whatever is no memory: what a loop keeps -/
def objA (l : Nat) (o : Obj) : Atom where
  holds w fp := fp = [l] ∧ w.heap[l]? = some o
  loc := fun ⟨h1, h2⟩ hb => ⟨h1, (hb _ (by rw [h1]; simp)).trans h2⟩
  dom := fun ⟨h1, h2⟩ b hb => by rw [h1] at hb; simp at hb; subst hb; exact (Array.getElem?_eq_some_iff.1 h2).1
theorem list_round {P : Program} {lp n : Nat} {ops : Array Oper} {Q : Exit → Act → World → Prop} (hQ : ¬ LetsOut Q) : ∀ (l : List Oper) (a : Act) (w : World), (∀ o ∈ l, ∀ c, o.op ≠ .defer c) → wpList P ops Q l a w → wpListIn (Fence.wide.inRound lp) n P ops Q l a w
  | [], _, _, _, h => h
  | o :: l, a, w, hd, h => by
    unfold wpList at h
    unfold wpListIn
    split
    · rename_i hw
      rw [if_pos hw] at h
      rcases h with h | h
      · exact Oper.wpIn_mono (fun a w => list_round hQ l a w (fun o' ho => hd o' (List.mem_cons_of_mem _ ho))) (oper_round (hd o List.mem_cons_self) h)
      · exact absurd h.2 hQ
    · rename_i hw
      rw [if_neg hw] at h
      exact ⟨fun _ _ => trivial, list_round hQ l _ _ (fun o' ho => hd o' (List.mem_cons_of_mem _ ho)) h⟩
def noDefer (ops : Array Oper) : Bool := ops.all fun o => match o.op with | .defer _ => false | _ => true
theorem noDefer_mem {l : List Oper} (h : noDefer l.toArray = true) (o : Oper) (ho : o ∈ l) (c : Call) : o.op ≠ .defer c := fun e => by
  have h2 := Array.all_eq_true_iff_forall_mem.1 h o (by simpa using ho)
  rw [e] at h2; cases h2
section
variable {P : Program} {lp m n : Nat} {Q : Exit → Act → World → Prop} {a0 : Act} {id : Nat} {l : List Oper} {w0 : World}
theorem seq_lIn (efs : List Nat) (hn : a0.tmps.size = n) (hseq : SeqP P l.toArray (bsL l.toArray) dpL a0 Q (Fin Q l a0) (planL efs l.length 0) (fun _ => undef) w0)
    (hQ : ¬ LetsOut Q := by rintro ⟨_, _, h⟩; exact nomatch (show Exit.outgrown = Exit.normal from And.left h)) (hd : noDefer l.toArray = true := by kernel_rfl) (hdst : dstB l.toArray = true := by kernel_rfl) (hroom : roomB l.toArray n = true := by kernel_rfl) (hok : okL l.length (planL efs l.length 0) 0 = true := by kernel_rfl) : (Code.region id l.toArray false).wpIn (Fence.wide.inRound lp) m P Q a0 w0 := by
  subst hn
  exact wpIn_region_lit (list_round hQ l a0 w0 (noDefer_mem hd) (seq_list hdst hroom _ 0 _ a0 w0 ⟨rfl, rfl, fun _ _ => rfl, fun j d hj => by omega⟩ hok hseq))
theorem seq_rIn (tab : List (List Nat)) (ef : List Nat) (pl : Plan) (hn : a0.tmps.size = n)
    (hseq : ∀ w1, Below w0.heap.size w0 w1 → SeqP P l.toArray (firstB .any l.toArray) (Region.waitsFor .any l.toArray) a0 Q (Fin Q l a0) pl (fun _ => undef) w1)
    (hQ : ¬ LetsOut Q := by rintro ⟨_, _, h⟩; exact nomatch (show Exit.outgrown = Exit.normal from And.left h)) (hd : noDefer l.toArray = true := by kernel_rfl)
    (hm : P.follows .mixedOrders = true := by kernel_rfl) (hback : backM .any l.toArray = true := by kernel_rfl) (hdst : dstB l.toArray = true := by kernel_rfl) (hroom : roomB l.toArray n = true := by kernel_rfl)
    (htab : tabOk l.toArray tab = true := by kernel_rfl) (hok : okP l.toArray tab ef pl false [] [] [] [] = true := by kernel_rfl) : (Code.region id l.toArray true).wpIn (Fence.wide.inRound lp) m P Q a0 w0 := by
  subst hn
  have hb0 : Below w0.heap.size w0 w0.drew := ⟨rfl, rfl, rfl, Nat.le_refl _, fun _ _ => rfl⟩
  exact wpIn_region_any hm (any_round (fun i o c ho => noDefer_mem hd o (by simpa using List.mem_of_getElem? (l := l) (by simpa using ho)) c) hQ _ _ _ _ (seq_any tab ef pl hback hdst hroom htab hok (hseq _ hb0) fun vs w h => h _ (put_of hdst hroom)))
end
section
variable {F : Fence} {n : Nat} {P : Program} {Q : Exit → Act → World → Prop} {a : Act} {w : World} {c : Operand} {b : Bool} {x y : Code}
theorem wpIn_cond_b (h : a.eval c = .bool b) (h1 : b = true → x.wpIn F n P Q a w) (h2 : b = false → y.wpIn F n P Q a w) : (Code.cond c x y).wpIn F n P Q a w := by
  cases b
  · exact wpIn_cond_false h (h2 rfl)
  · exact wpIn_cond_true h (h1 rfl)
theorem wpIn_cond_d {p : Prop} [Decidable p] (h : a.eval c = .bool (decide p)) (h1 : p → x.wpIn F n P Q a w) (h2 : ¬ p → y.wpIn F n P Q a w) : (Code.cond c x y).wpIn F n P Q a w :=
  wpIn_cond_b h (fun e => h1 (of_decide_eq_true e)) (fun e => h2 (of_decide_eq_false e))
end
section
variable {κ : Kap} {L I : List Atom} {w : World}
theorem S.setCell {g T k : Nat} {cs : Array Value} (i : Nat) (v : Value) (hS : S κ L I w) (hi : L[i]? = some (blkA g T cs)) : S κ (L.set i (blkA g T (cs.setIfInBounds k v))) I (w.setCell ⟨g, k, none⟩ v) := by
  refine S.back ?_ hi
  obtain ⟨f, ⟨hf, hb⟩, h⟩ := (hS.front hi).turn
  refine h _ _ [g] ⟨rfl, hb.set_ k v⟩ rfl (by simp [World.setCell]) (fun b hb => .inl (by rw [hf]; exact hb)) (fun b hlt hn => ?_)
  exact Below.heap_setCell w ⟨g, k, none⟩ v b (fun e => hn (by rw [hf, e]; simp))
theorem S.putObj {l : Nat} {o : Obj} (i : Nat) (o' : Obj) (hS : S κ L I w) (hi : L[i]? = some (objA l o)) : S κ (L.set i (objA l o')) I (w.putObj l o') := by
  refine S.back ?_ hi
  obtain ⟨f, ⟨hf, hb⟩, h⟩ := (hS.front hi).turn
  refine h _ _ [l] ⟨rfl, World.putObj_heap_same (Array.getElem?_eq_some_iff.1 hb).1⟩ rfl (by simp [World.putObj]) (fun b hb => .inl (by rw [hf]; exact hb)) (fun b hlt hn => ?_)
  exact World.putObj_heap_other (fun e => hn (by rw [hf, e]; simp))
theorem S.obj {i l : Nat} {o : Obj} (h : S κ L I w) (hi : L[i]? = some (objA l o)) : w.heap[l]? = some o := (h.own hi).elim fun _ h => h.2
end
set_option maxRecDepth 20000 in
theorem wp_cuts {κ : Kap} {L I : List Atom} {g : Operand} {p0 : Tmp} {assign body : Code} {Q : Exit → Act → World → Prop} {a : Act} {w : World} (n Bb Bn b off len cap N : Nat) (A : Option Addr) (hN : 1 ≤ N) (hN2 : N ≤ 100) (hlen : len ≤ cap) (hcap : cap ≤ 9223372036854775807) (hA : 0 < len → A = some ⟨b, off, none⟩)
    (hg : a.eval g = .func (.func 78) #[] #[.pointer (some ⟨Bb, 0, none⟩), .pointer (some ⟨Bn, 0, none⟩)]) (hp : p0 < a.tmps.size)
    (Inv : Nat → Atom) (hS : S κ (Inv 0 :: blkA Bb 42 #[.slice A len cap] :: blkA Bn 3 #[.int .i64 N] :: L) I w) (A2 : Nat → Act → Prop)
    (hassign : ∀ (lp k : Nat) (W : World) (K : Act → World → Prop) (a' : Act), a'.tmps.size = a.tmps.size → a'.defers = [] → a'.tmps.getD p0 undef = .slice (some ⟨b, off + k * N, none⟩) N (cap - k * N) → (∀ t, t ≠ p0 → a'.tmps.getD t undef = a.tmps.getD t undef) → (∀ a2, A2 k a2 → K a2 W) →
      assign.wpIn (Fence.wide.inRound lp) (n - 1 - 1) Try.prog (Exit.then K (fun _ _ _ => False)) a' W)
    (hbody : ∀ (lp k : Nat) (W : World) (M : List Atom) (a2 : Act), A2 k a2 → (k + 1) * N ≤ len → S κ (Inv k :: M) I W → body.wpIn (Fence.wide.inRound lp) (n - 1 - 1) Try.prog (fun e _ W' => e = .normal ∧ S κ (Inv (k + 1) :: M) I W') a2 W)
    (hdone : ∀ (D k : Nat) (W : World), k * N ≤ len → len < k * N + N → S κ (Inv k :: objA D (.deferred (some [])) :: L) I W → Q .normal { a with defers := { target := .collected D, args := #[] } :: a.defers } W) :
    (Code.rangeFunc g #[p0] assign body).wp Try.prog Q a w := by
  refine (wpIn_wide (n := n)).1 ?_
  have hne : Bb ≠ Bn := by
    obtain ⟨_, fp, ⟨f1, f2, _, _, _, f3, f4, e3, hd3, h3, f5, f6, e5, hd5, h5, _⟩, _⟩ := hS
    have h3 : f3 = [Bb] ∧ _ := h3
    have h5 : f5 = [Bn] ∧ _ := h5
    intro e
    refine hd3 Bb (by rw [h3.1]; simp) ?_
    rw [e5, h5.1, e]; simp
  have hBb1 := (hS.blk (i := 1) rfl).lt
  have hBn1 := (hS.blk (i := 2) rfl).lt
  refine wpIn_rangeFunc ?_
  intro fn hfn
  have hro : Fence.wide.round = none := rfl
  rw [hro]
  obtain ⟨rec, hrec⟩ : ∃ rec : LoopState → Option Code → Loop, rec = fun st pe => { state := st, pending := pe, fn, tmps := a.tmps, params := #[p0], assign, body, defers := w.heap.size } := ⟨_, rfl⟩
  obtain ⟨W1, hW1⟩ : ∃ W1, (w.alloc (.deferred (some []))).alloc (.loop (rec .ready none)) = W1 := ⟨_, rfl⟩
  have hS1 : S κ (objA (w.heap.size + 1) (.loop (rec .ready none)) :: objA w.heap.size (.deferred (some [])) :: Inv 0 :: blkA Bb 42 #[.slice A len cap] :: blkA Bn 3 #[.int .i64 N] :: L) I W1 := by
    have h1 := hS.push (a := objA w.heap.size (.deferred (some []))) (below_new w (.deferred (some []))) (f := [w.heap.size]) ⟨rfl, (MapKept.heap_alloc w _).1⟩ (by simp)
    have h2 := h1.push (a := objA (w.heap.size + 1) (.loop (rec .ready none))) (below_new _ (.loop (rec .ready none))) (f := [w.heap.size + 1]) ⟨rfl, by have := (MapKept.heap_alloc (w.alloc (.deferred (some []))) (.loop (rec .ready none))).1; rwa [World.size_alloc] at this⟩ (by simp)
    rwa [hW1] at h2
  have hb1 : Below w.heap.size w W1 := by
    rw [← hW1]; exact ((Below.refl _ w).alloc (Nat.le_refl _) _).alloc (by simp) _
  let J : Nat → World → Prop := fun k W => ∃ v, S κ (Inv k :: blkA Bb 42 v :: blkA Bn 3 #[.int .i64 N] :: objA (w.heap.size + 1) (.loop (rec .ready none)) :: objA w.heap.size (.deferred (some [])) :: L) I W
  have hJ0 : J 0 W1 := ⟨_, ((hS1.front (i := 4) rfl).front (i := 4) rfl).front (i := 4) rfl⟩
  refine ⟨w.heap.size + 1, [{ target := .collected w.heap.size, args := #[] }], W1, { target := .fn (.func 78) #[.pointer (some ⟨Bb, 0, none⟩), .pointer (some ⟨Bn, 0, none⟩)], args := #[.func (.yield (w.heap.size + 1)) #[] #[]] }, W1, 78,
    #[.func (.yield (w.heap.size + 1)) #[] #[]] ++ #[.pointer (some ⟨Bb, 0, none⟩), .pointer (some ⟨Bn, 0, none⟩)], W1, ?_, ?_, ?_, ?_, fun h => by simp [Fence.wide] at h, ?_⟩
  · rw [← hW1, hrec]; exact run_enterLoop_outer _ _ _ _ _
  · simp only [resolve, hg]
    simp [go_sem]
  · intro f' hf'; trivial
  · have eg : ∀ args w, (callFunc 78 args).run Try.prog w = .ok (.enter 78 args) w := fun _ _ => rfl
    simp [invoke, go_sem, eg]
  · refine (cuts1_in (n - 1) (w.heap.size + 1) Bb Bn b off len cap N A J hN hN2 hlen hcap hA hne ?_ ?_ W1 ((hS.blk (i := 1) rfl).below hb1 hBb1) ((hS.blk (i := 2) rfl).below hb1 hBn1) hJ0).mono ?_
    · rintro k W v ⟨u, h⟩
      exact ⟨_, h.setCell (k := 0) 1 v rfl⟩
    · rintro k W ⟨u, hu⟩ hlen'
      have hl := hu.obj (i := 3) rfl
      have hy := run_yield (P := Try.prog) (args := #[Value.slice (some ⟨b, off + k * N, none⟩) N (cap - k * N)]) hl (by rw [hrec]; simp)
      rw [hrec] at hy
      refine ⟨fn, _, assign, body, hy, roundIn_of_wpIn hfn (hassign _ k W _ _ (by simp) rfl (by simp [hp]) (fun t ht => by simp [Ne.symm ht]) (fun a2 h2 => ⟨_, run_beginRound hl (by rw [hrec]), ?_⟩))⟩
      have hu2 := hu.putObj 3 (.loop { rec .ready none with state := .busy }) rfl
      refine wpIn_mono (hbody _ k _ _ a2 h2 hlen' hu2) ?_
      rintro e a3 W3 ⟨rfl, h3⟩
      have hl3 := h3.obj (i := 3) rfl
      have hr := run_endRound (P := Try.prog) none hl3
      rw [hrec] at hr hl3
      have h4 := h3.putObj 3 (.loop (rec .ready none)) rfl
      rw [hrec] at h4
      refine ⟨_, _, hr, rfl, ⟨u, by rw [hrec]; exact h4⟩, ?_, ?_⟩
      · have e1 := h4.blk (i := 1) rfl
        have e2 := hu.blk (i := 1) rfl
        exact e1.trans e2.symm
      · have e1 := h4.blk (i := 2) rfl
        have e2 := hu.blk (i := 2) rfl
        exact e1.trans e2.symm
    · rintro e W2 ⟨⟨v, rfl⟩, k, hk1, hk2, u, h⟩
      have hl := h.obj (i := 3) rfl
      have he := run_endLoop (P := Try.prog) hl (by rw [hrec]; simp)
      rw [hrec] at he
      refine ⟨none, _, he, hdone _ k _ hk1 hk2 ?_⟩
      have h2 := h.putObj 3 (.loop { rec .ready none with state := .exhausted }) rfl
      rw [hrec] at h2
      exact (((h2.front (i := 3) rfl).drop.front (i := 2) rfl).drop.front (i := 1) rfl).drop
end Go.Proofs.Ytdenfgnkbfbpmaa
