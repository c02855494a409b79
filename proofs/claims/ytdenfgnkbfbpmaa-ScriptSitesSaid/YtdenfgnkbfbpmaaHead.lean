/-
  lsa.PutHead.
-/
import Derived.Test.YtdenfgnkbfbpmaaLsa
import Derived.Test.YtdenfgnkbfbpmaaQuad
import Derived.Test.YtdenfgnkbfbpmaaFact
namespace Go.Proofs.Ytdenfgnkbfbpmaa
open Go.RowKit
set_option linter.unusedSimpArgs false

theorem reads1 {w : World} {g : Nat} {a : Int} (h : w.cell? ⟨g, 0, none⟩ = some (.int .i64 a)) : Reads w w.heap.size 1 (some ⟨g, 0, none⟩) 1 (ints [a]) := by
  have hlt := World.block_lt_of_cell? w _ h
  refine ⟨rfl, fun _ => ⟨g, 0, rfl, hlt, fun j u hu => ?_⟩⟩
  match j with
  | 0 => simp only [ints, List.map_cons, List.map_nil, List.getElem?_cons_zero, Option.some.injEq] at hu; subst hu; exact h
  | j + 1 => simp [ints] at hu
theorem reads2 {w : World} {g : Nat} {a b : Int} (h : w.cell? ⟨g, 0, none⟩ = some (.int .i64 a)) (h' : w.cell? ⟨g, 1, none⟩ = some (.int .i64 b)) : Reads w w.heap.size 1 (some ⟨g, 0, none⟩) 2 (ints [a, b]) := by
  have hlt := World.block_lt_of_cell? w _ h
  refine ⟨rfl, fun _ => ⟨g, 0, rfl, hlt, fun j u hu => ?_⟩⟩
  match j with
  | 0 => simp only [ints, List.map_cons, List.map_nil, List.getElem?_cons_zero, Option.some.injEq] at hu; subst hu; exact h
  | 1 => simp only [ints, List.map_cons, List.map_nil, List.getElem?_cons_succ, List.getElem?_cons_zero, Option.some.injEq] at hu; subst hu; exact h'
  | j + 2 => simp [ints] at hu
theorem reads3 {w : World} {g : Nat} {a b c : Int} (h : w.cell? ⟨g, 0, none⟩ = some (.int .i64 a)) (h' : w.cell? ⟨g, 1, none⟩ = some (.int .i64 b)) (h'' : w.cell? ⟨g, 2, none⟩ = some (.int .i64 c)) : Reads w w.heap.size 1 (some ⟨g, 0, none⟩) 3 (ints [a, b, c]) := by
  have hlt := World.block_lt_of_cell? w _ h
  refine ⟨rfl, fun _ => ⟨g, 0, rfl, hlt, fun j u hu => ?_⟩⟩
  match j with
  | 0 => simp only [ints, List.map_cons, List.map_nil, List.getElem?_cons_zero, Option.some.injEq] at hu; subst hu; exact h
  | 1 => simp only [ints, List.map_cons, List.map_nil, List.getElem?_cons_succ, List.getElem?_cons_zero, Option.some.injEq] at hu; subst hu; exact h'
  | 2 => simp only [ints, List.map_cons, List.map_nil, List.getElem?_cons_succ, List.getElem?_cons_zero, Option.some.injEq] at hu; subst hu; exact h''
  | j + 3 => simp [ints] at hu
theorem reads0 {w : World} : Reads w w.heap.size 1 none 0 (u8s []) := Reads.none_

/-- a slice of numbers that lie in w -/
def Nums (zs : List Int) (v : Value) (w : World) : Prop := ∃ A c, v = .slice A zs.length c ∧ Reads w w.heap.size 1 A zs.length (ints zs)
/-- bytes of our own, past B -/
def Byts (B : Nat) (bs : List Int) (v : Value) (w : World) : Prop := ∃ A c, v = .slice A bs.length c ∧ w.ownsRow B 5 1 (.slice A bs.length c) bs.length (u8s bs)
theorem Nums.keep {zs : List Int} {v : Value} {w w' : World} (h : Nums zs v w) (hb : Below w.heap.size w w') : Nums zs v w' := by
  obtain ⟨A, c, e, hr⟩ := h
  exact ⟨A, c, e, (hr.below hb).more hb.size⟩
theorem Byts.keep {B : Nat} {bs : List Int} {v : Value} {w w' : World} (h : Byts B bs v w) (hb : Below w.heap.size w w') : Byts B bs v w' := by
  obtain ⟨A, c, e, hr⟩ := h
  exact ⟨A, c, e, own_below hr hb⟩
theorem Byts.mono {B B' : Nat} {bs : List Int} {v : Value} {w : World} (h : Byts B bs v w) (hb : B' ≤ B) : Byts B' bs v w := by
  obtain ⟨A, c, e, hr⟩ := h
  exact ⟨A, c, e, own_mono hr hb⟩

theorem Nums.new1 (w : World) (a : Int) (t : TypeId) : Nums [a] (.slice (some ⟨w.heap.size, 0, none⟩) 1 1) (w.alloc (.cells #[.int .i64 a] t)) :=
  ⟨_, _, rfl, (Reads.new w #[.int .i64 a] t 1 1 rfl).more (by simp)⟩
theorem Nums.new2 (w : World) (a b : Int) (t : TypeId) : Nums [a, b] (.slice (some ⟨w.heap.size, 0, none⟩) 2 2) (w.alloc (.cells #[.int .i64 a, .int .i64 b] t)) :=
  ⟨_, _, rfl, (Reads.new w #[.int .i64 a, .int .i64 b] t 2 1 rfl).more (by simp)⟩
theorem Nums.new3 (w : World) (a b c : Int) (t : TypeId) : Nums [a, b, c] (.slice (some ⟨w.heap.size, 0, none⟩) 3 3) (w.alloc (.cells #[.int .i64 a, .int .i64 b, .int .i64 c] t)) :=
  ⟨_, _, rfl, (Reads.new w #[.int .i64 a, .int .i64 b, .int .i64 c] t 3 1 rfl).more (by simp)⟩
/-- bytes that lie in w -/
def Rd (bs : List Int) (v : Value) (w : World) : Prop := ∃ A c, v = .slice A bs.length c ∧ Reads w w.heap.size 1 A bs.length (u8s bs)
theorem Rd.nil (w : World) (c : Nat) : Rd [] (.slice none 0 c) w := ⟨none, c, rfl, Reads.none_⟩
theorem Rd.keep {bs : List Int} {v : Value} {w w' : World} (h : Rd bs v w) (hb : Below w.heap.size w w') : Rd bs v w' := by
  obtain ⟨A, c, e, hr⟩ := h
  exact ⟨A, c, e, (hr.below hb).more hb.size⟩
theorem Byts.rd {B : Nat} {bs : List Int} {v : Value} {w : World} (h : Byts B bs v w) : Rd bs v w := by
  obtain ⟨A, c, e, hr⟩ := h
  exact ⟨A, c, e, Reads.of_own hr⟩
/-- quad.Put by facts -/
theorem put_byts (B k : Nat) (v : Int) (bs zs : List Int) (x y : Value) (w : World) (hk : wideF v = k) (hB : B ≤ w.heap.size) (hx : Rd bs x w) (hy : Nums zs y w) (hn : bs.length ≤ 100000) (hn2 : zs.length ≤ 10000) :
    Calls Try.prog 125 #[x, .int .i64 v, y] w fun r w' => ∃ u, r = .returned u ∧ Byts B (bs ++ putB k zs) u w' ∧ Below w.heap.size w w' := by
  obtain ⟨A, c, rfl, hr⟩ := hx
  obtain ⟨A2, c2, rfl, hr2⟩ := hy
  refine (put_any v A bs.length c bs A2 zs.length c2 zs w hn hn2 hr hr2).mono ?_
  rintro r w' ⟨A', c', rfl, ho, hb⟩
  have hl : bs.length + zs.length * wideF v = (bs ++ putB k zs).length := by rw [List.length_append, putB_length, hk]
  rw [hl, hk] at ho
  exact ⟨_, rfl, ⟨A', c', by rw [hl], own_mono ho hB⟩, hb⟩

/-- a head's bytes -/
def headB (h : HD) : List Int := putB 2 [h.age] ++ putB 1 [0, h.kind] ++ putB 4 [h.id, h.adv, h.seq] ++ putB 2 [h.sum, h.long]


set_option maxRecDepth 20000 in
set_option maxHeartbeats 4000000 in
theorem putHead_any (h : HD) (w : World) : Calls Try.prog 95 #[.agg h.arr] w fun r w' => ∃ v, r = .returned v ∧ Byts w.heap.size (headB h) v w' ∧ Below w.heap.size w w' := by
  obtain ⟨age, kind, id, adv, seq, sum, long⟩ := h
  go_enter Try.func95, Try.ntmps95
  go_upto_region 1 with (fail)
  have hb0 := Blk.new w 34 #[.int .i64 age, .int .i64 kind, .int .i64 id, .int .i64 adv, .int .i64 seq, .int .i64 sum, .int .i64 long]
  have hB0 := below_new w (.cells #[.int .i64 age, .int .i64 kind, .int .i64 id, .int .i64 adv, .int .i64 seq, .int .i64 sum, .int .i64 long] 34)
  generalize w.alloc (.cells #[.int .i64 age, .int .i64 kind, .int .i64 id, .int .i64 adv, .int .i64 seq, .int .i64 sum, .int .i64 long] 34) = W at hb0 hB0 ⊢
  refine region_by (fun i v w' => match i with
    | 0 => v = .pointer (some ⟨w.heap.size, 0, none⟩)
    | 1 => v = .int .i64 age
    | 2 => Nums [age] v w'
    | 3 => Byts W.heap.size (putB 2 [age]) v w'
    | 4 => v = .pointer (some ⟨w.heap.size, 1, none⟩)
    | 5 => v = .int .i64 kind
    | 6 => Nums [0, kind] v w'
    | 7 => Byts W.heap.size (putB 2 [age] ++ putB 1 [0, kind]) v w'
    | _ => Byts (W.heap.size) (putB 2 [age] ++ putB 1 [0, kind]) v w')
    (by kernel_rfl) (by kernel_rfl) (by kernel_rfl) (by kernel_rfl) ?_ ⟨?_, ?_, ?_, ?_, ?_, ?_, ?_, ?_, ?_, trivial⟩ ?_
  · intro i v w1 w2 hb hF
    match i, hF with
    | 0, h => exact h
    | 1, h => exact h
    | 2, h => exact Nums.keep h hb
    | 3, h => exact Byts.keep h hb
    | 4, h => exact h
    | 5, h => exact h
    | 6, h => exact Nums.keep h hb
    | 7, h => exact Byts.keep h hb
    | _ + 8, h => exact Byts.keep h hb
  · intro a w1 hat
    have h1 : a.tmps.getD 1 undef = .pointer (some ⟨w.heap.size, 0, none⟩) := hat.base 1 (by kernel_rfl)
    (rw [if_pos (by rfl)]; go_simp; exact Below.refl _ _)
  · intro a w1 hat
    have h1 : a.tmps.getD 4 undef = .pointer (some ⟨w.heap.size, 0, none⟩) := hat.dep 0 4 (by kernel_rfl) (by kernel_rfl)
    have hc := cell_keep (hb0.cell 0) hat.since
    (rw [if_pos (by rfl)]; go_simp; exact Below.refl _ _)
  · intro a w1 hat
    have h00 : a.tmps.getD 5 undef = .int .i64 age := hat.dep 1 5 (by kernel_rfl) (by kernel_rfl)
    (have h01 := h00; rw [Array.getD_eq_getD_getElem?] at h01)
    rw [if_pos (by rfl)]
    go_simp
    exact ⟨_, rfl, below_new _ _, Nums.new1 _ _ _⟩
  · intro a w1 hat
    have hy : Nums [age] (a.tmps.getD 6 undef) w1 := hat.dep 2 6 (by kernel_rfl) (by kernel_rfl)
    generalize h20 : a.tmps.getD 6 undef = y at hy
    (have h21 := h20; rw [Array.getD_eq_getD_getElem?] at h21)
    rw [if_pos (by rfl)]
    go_simp
    refine (put_byts W.heap.size 2 2 ([]) [age] _ _ w1 (by rfl) hat.since.size (Rd.nil _ _) hy (by ((try simp only [List.length_append, putB_length, List.length_cons, List.length_nil]); omega)) (by simp)).mono ?_
    rintro r w3 ⟨u, rfl, hu, hb⟩
    exact ⟨u, rfl, hb, hu⟩
  · intro a w1 hat
    have h1 : a.tmps.getD 1 undef = .pointer (some ⟨w.heap.size, 0, none⟩) := hat.base 1 (by kernel_rfl)
    (rw [if_pos (by rfl)]; go_simp; exact Below.refl _ _)
  · intro a w1 hat
    have h1 : a.tmps.getD 8 undef = .pointer (some ⟨w.heap.size, 1, none⟩) := hat.dep 4 8 (by kernel_rfl) (by kernel_rfl)
    have hc := cell_keep (hb0.cell 1) hat.since
    (rw [if_pos (by rfl)]; go_simp; exact Below.refl _ _)
  · intro a w1 hat
    have h10 : a.tmps.getD 9 undef = .int .i64 kind := hat.dep 5 9 (by kernel_rfl) (by kernel_rfl)
    (have h11 := h10; rw [Array.getD_eq_getD_getElem?] at h11)
    rw [if_pos (by rfl)]
    go_simp
    exact ⟨_, rfl, below_new _ _, Nums.new2 _ _ _ _⟩
  · intro a w1 hat
    have hx : Byts (W.heap.size) (putB 2 [age]) (a.tmps.getD 7 undef) w1 := hat.dep 3 7 (by kernel_rfl) (by kernel_rfl)
    have hy : Nums [0, kind] (a.tmps.getD 10 undef) w1 := hat.dep 6 10 (by kernel_rfl) (by kernel_rfl)
    generalize h10 : a.tmps.getD 7 undef = x at hx
    (have h11 := h10; rw [Array.getD_eq_getD_getElem?] at h11)
    generalize h20 : a.tmps.getD 10 undef = y at hy
    (have h21 := h20; rw [Array.getD_eq_getD_getElem?] at h21)
    rw [if_pos (by rfl)]
    go_simp
    refine (put_byts W.heap.size 1 1 (putB 2 [age]) [0, kind] _ _ w1 (by rfl) hat.since.size hx.rd hy (by ((try simp only [List.length_append, putB_length, List.length_cons, List.length_nil]); omega)) (by simp)).mono ?_
    rintro r w3 ⟨u, rfl, hu, hb⟩
    exact ⟨u, rfl, hb, hu⟩
  · intro a w1 hat
    have h1 : Byts (W.heap.size) (putB 2 [age] ++ putB 1 [0, kind]) (a.tmps.getD 11 undef) w1 := hat.dep 7 11 (by kernel_rfl) (by kernel_rfl)
    generalize h10 : a.tmps.getD 11 undef = x at h1
    (have h11 := h10; rw [Array.getD_eq_getD_getElem?] at h11)
    rw [if_pos (by rfl)]
    go_simp
    exact ⟨_, rfl, Below.refl _ _, h1⟩
  intro vs W1 hW1 hF
  have hv0 : vs 0 = .pointer (some ⟨w.heap.size, 0, none⟩) := hF 0 (by decide)
  have hv1 : vs 1 = .int .i64 age := hF 1 (by decide)
  have hv2 : Nums [age] (vs 2) W1 := hF 2 (by decide)
  have hv3 : Byts W.heap.size (putB 2 [age]) (vs 3) W1 := hF 3 (by decide)
  have hv4 : vs 4 = .pointer (some ⟨w.heap.size, 1, none⟩) := hF 4 (by decide)
  have hv5 : vs 5 = .int .i64 kind := hF 5 (by decide)
  have hv6 : Nums [0, kind] (vs 6) W1 := hF 6 (by decide)
  have hv7 : Byts W.heap.size (putB 2 [age] ++ putB 1 [0, kind]) (vs 7) W1 := hF 7 (by decide)
  have hv8 : Byts (W.heap.size) (putB 2 [age] ++ putB 1 [0, kind]) (vs 8) W1 := hF 8 (by decide)
  simp only [putAll, Act.put, List.setIfInBounds_toArray, List.set_cons_zero, List.set_cons_succ, Nat.zero_add, Nat.reduceAdd]
  generalize vs 0 = v0 at hv0 ⊢
  generalize vs 1 = v1 at hv1 ⊢
  generalize vs 2 = v2 at hv2 ⊢
  generalize vs 3 = v3 at hv3 ⊢
  generalize vs 4 = v4 at hv4 ⊢
  generalize vs 5 = v5 at hv5 ⊢
  generalize vs 6 = v6 at hv6 ⊢
  generalize vs 7 = v7 at hv7 ⊢
  generalize vs 8 = v8 at hv8 ⊢
  subst hv0
  subst hv1
  subst hv4
  subst hv5
  clear hF
  have hb1 := hb0.below hW1 hb0.lt
  go_upto_region 2 with (fail)
  refine region_by (fun i v w' => match i with
    | 0 => Byts (W.heap.size) (putB 2 [age] ++ putB 1 [0, kind]) v w'
    | 1 => v = .pointer (some ⟨w.heap.size, 2, none⟩)
    | 2 => v = .int .i64 id
    | 3 => v = .pointer (some ⟨w.heap.size, 3, none⟩)
    | 4 => v = .int .i64 adv
    | 5 => v = .pointer (some ⟨w.heap.size, 4, none⟩)
    | 6 => v = .int .i64 seq
    | 7 => Nums [id, adv, seq] v w'
    | 8 => Byts W1.heap.size (putB 2 [age] ++ putB 1 [0, kind] ++ putB 4 [id, adv, seq]) v w'
    | 9 => v = .pointer (some ⟨w.heap.size, 5, none⟩)
    | 10 => v = .int .i64 sum
    | 11 => v = .pointer (some ⟨w.heap.size, 6, none⟩)
    | 12 => v = .int .i64 long
    | 13 => Nums [sum, long] v w'
    | 14 => Byts W1.heap.size (putB 2 [age] ++ putB 1 [0, kind] ++ putB 4 [id, adv, seq] ++ putB 2 [sum, long]) v w'
    | _ => Byts (W1.heap.size) (putB 2 [age] ++ putB 1 [0, kind] ++ putB 4 [id, adv, seq] ++ putB 2 [sum, long]) v w')
    (by kernel_rfl) (by kernel_rfl) (by kernel_rfl) (by kernel_rfl) ?_ ⟨?_, ?_, ?_, ?_, ?_, ?_, ?_, ?_, ?_, ?_, ?_, ?_, ?_, ?_, ?_, ?_, trivial⟩ ?_
  · intro i v w1 w2 hb hF
    match i, hF with
    | 0, h => exact Byts.keep h hb
    | 1, h => exact h
    | 2, h => exact h
    | 3, h => exact h
    | 4, h => exact h
    | 5, h => exact h
    | 6, h => exact h
    | 7, h => exact Nums.keep h hb
    | 8, h => exact Byts.keep h hb
    | 9, h => exact h
    | 10, h => exact h
    | 11, h => exact h
    | 12, h => exact h
    | 13, h => exact Nums.keep h hb
    | 14, h => exact Byts.keep h hb
    | _ + 15, h => exact Byts.keep h hb
  · intro a w1 hat
    have h1 : a.tmps.getD 3 undef = v8 := hat.base 3 (by kernel_rfl)
    (have h11 := h1; rw [Array.getD_eq_getD_getElem?] at h11)
    rw [if_pos (by rfl)]
    go_simp
    exact ⟨_, rfl, Below.refl _ _, hv8.keep hat.since⟩
  · intro a w1 hat
    have h1 : a.tmps.getD 1 undef = .pointer (some ⟨w.heap.size, 0, none⟩) := hat.base 1 (by kernel_rfl)
    (rw [if_pos (by rfl)]; go_simp; exact Below.refl _ _)
  · intro a w1 hat
    have h1 : a.tmps.getD 13 undef = .pointer (some ⟨w.heap.size, 2, none⟩) := hat.dep 1 13 (by kernel_rfl) (by kernel_rfl)
    have hc := cell_keep (hb1.cell 2) hat.since
    (rw [if_pos (by rfl)]; go_simp; exact Below.refl _ _)
  · intro a w1 hat
    have h1 : a.tmps.getD 1 undef = .pointer (some ⟨w.heap.size, 0, none⟩) := hat.base 1 (by kernel_rfl)
    (rw [if_pos (by rfl)]; go_simp; exact Below.refl _ _)
  · intro a w1 hat
    have h1 : a.tmps.getD 15 undef = .pointer (some ⟨w.heap.size, 3, none⟩) := hat.dep 3 15 (by kernel_rfl) (by kernel_rfl)
    have hc := cell_keep (hb1.cell 3) hat.since
    (rw [if_pos (by rfl)]; go_simp; exact Below.refl _ _)
  · intro a w1 hat
    have h1 : a.tmps.getD 1 undef = .pointer (some ⟨w.heap.size, 0, none⟩) := hat.base 1 (by kernel_rfl)
    (rw [if_pos (by rfl)]; go_simp; exact Below.refl _ _)
  · intro a w1 hat
    have h1 : a.tmps.getD 17 undef = .pointer (some ⟨w.heap.size, 4, none⟩) := hat.dep 5 17 (by kernel_rfl) (by kernel_rfl)
    have hc := cell_keep (hb1.cell 4) hat.since
    (rw [if_pos (by rfl)]; go_simp; exact Below.refl _ _)
  · intro a w1 hat
    have h00 : a.tmps.getD 14 undef = .int .i64 id := hat.dep 2 14 (by kernel_rfl) (by kernel_rfl)
    (have h01 := h00; rw [Array.getD_eq_getD_getElem?] at h01)
    have h10 : a.tmps.getD 16 undef = .int .i64 adv := hat.dep 4 16 (by kernel_rfl) (by kernel_rfl)
    (have h11 := h10; rw [Array.getD_eq_getD_getElem?] at h11)
    have h20 : a.tmps.getD 18 undef = .int .i64 seq := hat.dep 6 18 (by kernel_rfl) (by kernel_rfl)
    (have h21 := h20; rw [Array.getD_eq_getD_getElem?] at h21)
    rw [if_pos (by rfl)]
    go_simp
    exact ⟨_, rfl, below_new _ _, Nums.new3 _ _ _ _ _⟩
  · intro a w1 hat
    have hx : Byts (W.heap.size) (putB 2 [age] ++ putB 1 [0, kind]) (a.tmps.getD 12 undef) w1 := hat.dep 0 12 (by kernel_rfl) (by kernel_rfl)
    have hy : Nums [id, adv, seq] (a.tmps.getD 19 undef) w1 := hat.dep 7 19 (by kernel_rfl) (by kernel_rfl)
    generalize h10 : a.tmps.getD 12 undef = x at hx
    (have h11 := h10; rw [Array.getD_eq_getD_getElem?] at h11)
    generalize h20 : a.tmps.getD 19 undef = y at hy
    (have h21 := h20; rw [Array.getD_eq_getD_getElem?] at h21)
    rw [if_pos (by rfl)]
    go_simp
    refine (put_byts W1.heap.size 4 4 (putB 2 [age] ++ putB 1 [0, kind]) [id, adv, seq] _ _ w1 (by rfl) hat.since.size hx.rd hy (by ((try simp only [List.length_append, putB_length, List.length_cons, List.length_nil]); omega)) (by simp)).mono ?_
    rintro r w3 ⟨u, rfl, hu, hb⟩
    exact ⟨u, rfl, hb, hu⟩
  · intro a w1 hat
    have h1 : a.tmps.getD 1 undef = .pointer (some ⟨w.heap.size, 0, none⟩) := hat.base 1 (by kernel_rfl)
    (rw [if_pos (by rfl)]; go_simp; exact Below.refl _ _)
  · intro a w1 hat
    have h1 : a.tmps.getD 21 undef = .pointer (some ⟨w.heap.size, 5, none⟩) := hat.dep 9 21 (by kernel_rfl) (by kernel_rfl)
    have hc := cell_keep (hb1.cell 5) hat.since
    (rw [if_pos (by rfl)]; go_simp; exact Below.refl _ _)
  · intro a w1 hat
    have h1 : a.tmps.getD 1 undef = .pointer (some ⟨w.heap.size, 0, none⟩) := hat.base 1 (by kernel_rfl)
    (rw [if_pos (by rfl)]; go_simp; exact Below.refl _ _)
  · intro a w1 hat
    have h1 : a.tmps.getD 23 undef = .pointer (some ⟨w.heap.size, 6, none⟩) := hat.dep 11 23 (by kernel_rfl) (by kernel_rfl)
    have hc := cell_keep (hb1.cell 6) hat.since
    (rw [if_pos (by rfl)]; go_simp; exact Below.refl _ _)
  · intro a w1 hat
    have h00 : a.tmps.getD 22 undef = .int .i64 sum := hat.dep 10 22 (by kernel_rfl) (by kernel_rfl)
    (have h01 := h00; rw [Array.getD_eq_getD_getElem?] at h01)
    have h10 : a.tmps.getD 24 undef = .int .i64 long := hat.dep 12 24 (by kernel_rfl) (by kernel_rfl)
    (have h11 := h10; rw [Array.getD_eq_getD_getElem?] at h11)
    rw [if_pos (by rfl)]
    go_simp
    exact ⟨_, rfl, below_new _ _, Nums.new2 _ _ _ _⟩
  · intro a w1 hat
    have hx : Byts (W1.heap.size) (putB 2 [age] ++ putB 1 [0, kind] ++ putB 4 [id, adv, seq]) (a.tmps.getD 20 undef) w1 := hat.dep 8 20 (by kernel_rfl) (by kernel_rfl)
    have hy : Nums [sum, long] (a.tmps.getD 25 undef) w1 := hat.dep 13 25 (by kernel_rfl) (by kernel_rfl)
    generalize h10 : a.tmps.getD 20 undef = x at hx
    (have h11 := h10; rw [Array.getD_eq_getD_getElem?] at h11)
    generalize h20 : a.tmps.getD 25 undef = y at hy
    (have h21 := h20; rw [Array.getD_eq_getD_getElem?] at h21)
    rw [if_pos (by rfl)]
    go_simp
    refine (put_byts W1.heap.size 2 2 (putB 2 [age] ++ putB 1 [0, kind] ++ putB 4 [id, adv, seq]) [sum, long] _ _ w1 (by rfl) hat.since.size hx.rd hy (by ((try simp only [List.length_append, putB_length, List.length_cons, List.length_nil]); omega)) (by simp)).mono ?_
    rintro r w3 ⟨u, rfl, hu, hb⟩
    exact ⟨u, rfl, hb, hu⟩
  · intro a w1 hat
    have h1 : Byts (W1.heap.size) (putB 2 [age] ++ putB 1 [0, kind] ++ putB 4 [id, adv, seq] ++ putB 2 [sum, long]) (a.tmps.getD 26 undef) w1 := hat.dep 14 26 (by kernel_rfl) (by kernel_rfl)
    generalize h10 : a.tmps.getD 26 undef = x at h1
    (have h11 := h10; rw [Array.getD_eq_getD_getElem?] at h11)
    rw [if_pos (by rfl)]
    go_simp
    exact ⟨_, rfl, Below.refl _ _, h1⟩
  intro vs W2 hW2 hF
  have hv0 : Byts (W.heap.size) (putB 2 [age] ++ putB 1 [0, kind]) (vs 0) W2 := hF 0 (by decide)
  have hv1 : vs 1 = .pointer (some ⟨w.heap.size, 2, none⟩) := hF 1 (by decide)
  have hv2 : vs 2 = .int .i64 id := hF 2 (by decide)
  have hv3 : vs 3 = .pointer (some ⟨w.heap.size, 3, none⟩) := hF 3 (by decide)
  have hv4 : vs 4 = .int .i64 adv := hF 4 (by decide)
  have hv5 : vs 5 = .pointer (some ⟨w.heap.size, 4, none⟩) := hF 5 (by decide)
  have hv6 : vs 6 = .int .i64 seq := hF 6 (by decide)
  have hv7 : Nums [id, adv, seq] (vs 7) W2 := hF 7 (by decide)
  have hv8 : Byts W1.heap.size (putB 2 [age] ++ putB 1 [0, kind] ++ putB 4 [id, adv, seq]) (vs 8) W2 := hF 8 (by decide)
  have hv9 : vs 9 = .pointer (some ⟨w.heap.size, 5, none⟩) := hF 9 (by decide)
  have hv10 : vs 10 = .int .i64 sum := hF 10 (by decide)
  have hv11 : vs 11 = .pointer (some ⟨w.heap.size, 6, none⟩) := hF 11 (by decide)
  have hv12 : vs 12 = .int .i64 long := hF 12 (by decide)
  have hv13 : Nums [sum, long] (vs 13) W2 := hF 13 (by decide)
  have hv14 : Byts W1.heap.size (putB 2 [age] ++ putB 1 [0, kind] ++ putB 4 [id, adv, seq] ++ putB 2 [sum, long]) (vs 14) W2 := hF 14 (by decide)
  have hv15 : Byts (W1.heap.size) (putB 2 [age] ++ putB 1 [0, kind] ++ putB 4 [id, adv, seq] ++ putB 2 [sum, long]) (vs 15) W2 := hF 15 (by decide)
  simp only [putAll, Act.put, List.setIfInBounds_toArray, List.set_cons_zero, List.set_cons_succ, Nat.zero_add, Nat.reduceAdd]
  generalize vs 0 = v0 at hv0 ⊢
  generalize vs 1 = v1 at hv1 ⊢
  generalize vs 2 = v2 at hv2 ⊢
  generalize vs 3 = v3 at hv3 ⊢
  generalize vs 4 = v4 at hv4 ⊢
  generalize vs 5 = v5 at hv5 ⊢
  generalize vs 6 = v6 at hv6 ⊢
  generalize vs 7 = v7 at hv7 ⊢
  generalize vs 8 = v8 at hv8 ⊢
  generalize vs 9 = v9 at hv9 ⊢
  generalize vs 10 = v10 at hv10 ⊢
  generalize vs 11 = v11 at hv11 ⊢
  generalize vs 12 = v12 at hv12 ⊢
  generalize vs 13 = v13 at hv13 ⊢
  generalize vs 14 = v14 at hv14 ⊢
  generalize vs 15 = v15 at hv15 ⊢
  subst hv1
  subst hv2
  subst hv3
  subst hv4
  subst hv5
  subst hv6
  subst hv9
  subst hv10
  subst hv11
  subst hv12
  clear hF
  go_wp2
  go_ret
  have hz : w.heap.size ≤ W1.heap.size := Nat.le_trans hB0.size hW1.size
  exact ⟨_, rfl, hv15.mono hz, (hB0.trans (hW1.mono hB0.size)).trans (hW2.mono hz)⟩
end Go.Proofs.Ytdenfgnkbfbpmaa
