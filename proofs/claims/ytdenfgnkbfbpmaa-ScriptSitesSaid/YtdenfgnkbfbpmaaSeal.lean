/-
  lsa.Seal: a description with its sum and length.
-/
import Derived.Test.YtdenfgnkbfbpmaaBytes
import Derived.Test.YtdenfgnkbfbpmaaClone
import Derived.Laws.CopyOwn
namespace Go.Proofs.Ytdenfgnkbfbpmaa
open Go.RowKit
set_option linter.unusedSimpArgs false

/-- rows of our own: links, numbers -/
def OwnL (B : Nat) (l : List Lk) (v : Value) (w : World) : Prop := ∃ A c, v = .slice A l.length c ∧ w.ownsRow B 117 4 (.slice A l.length c) l.length (rowC Lk.cells l)
def OwnI (B : Nat) (l : List Int) (v : Value) (w : World) : Prop := ∃ A c, v = .slice A l.length c ∧ w.ownsRow B 3 1 (.slice A l.length c) l.length (ints l)
theorem OwnL.keep {B : Nat} {l : List Lk} {v : Value} {w w' : World} (h : OwnL B l v w) (hb : Below w.heap.size w w') : OwnL B l v w' := by
  obtain ⟨A, c, e, hr⟩ := h
  exact ⟨A, c, e, own_below hr hb⟩
theorem OwnI.keep {B : Nat} {l : List Int} {v : Value} {w w' : World} (h : OwnI B l v w) (hb : Below w.heap.size w w') : OwnI B l v w' := by
  obtain ⟨A, c, e, hr⟩ := h
  exact ⟨A, c, e, own_below hr hb⟩
/-- the whole description, its rows of our own -/
def OwnD (B : Nat) (l : LV) (v : Value) (w : World) : Prop := ∃ x y, v = .agg (l.hd.arr ++ #[x, y]) ∧ OwnL B l.links x w ∧ OwnI B l.mem y w
theorem OwnD.keep {B : Nat} {l : LV} {v : Value} {w w' : World} (h : OwnD B l v w) (hb : Below w.heap.size w w') : OwnD B l v w' := by
  obtain ⟨x, y, e, hx, hy⟩ := h
  exact ⟨x, y, e, hx.keep hb, hy.keep hb⟩
/-- a block of our own -/
def OwnB (B : Nat) (t : TypeId) (cs : Array Value) (v : Value) (w : World) : Prop := ∃ g, v = .pointer (some ⟨g, 0, none⟩) ∧ B ≤ g ∧ Blk w g t cs
theorem OwnB.keep {B : Nat} {t : TypeId} {cs : Array Value} {v : Value} {w w' : World} (h : OwnB B t cs v w) (hb : Below w.heap.size w w') : OwnB B t cs v w' := by
  obtain ⟨g, e, hg, hk⟩ := h
  exact ⟨g, e, hg, hk.below hb hk.lt⟩

abbrev lsa0 : Array Value := #[.int .i64 0, .int .i64 0, .int .i64 0, .int .i64 0, .int .i64 0, .int .i64 0, .int .i64 0, .slice none 0 0, .slice none 0 0]
/-- a struct laid into a block of the same size -/
theorem wpList_store_at {P : Program} {ops : Array Oper} {rest : List Oper} {o : Oper} {a : Act} {w : World} {Q : Exit → Act → World → Prop} (hgd : o.guard = none) (ty : TypeId) (x y : Operand) (ho : o.op = .store ty x y)
    (g : Nat) (cells : Array Value) (n : Nat) (hx : a.eval x = .pointer (some ⟨g, 0, none⟩)) (hy : a.eval y = .agg cells)
    (t : TypeId) (old : Array Value) (hg : Blk w g t old) (hi : (P.info? ty).map (·.size) = some n)
    (hs : old.size = n ∧ cells.size = n ∧ cells.all (·.oneCell') = true)
    (h : wpList P ops Q rest (a.put o.dst undef) (w.setRow g cells)) : wpList P ops Q (o :: rest) a w :=
  wpList_store_row hgd ty x y ho g cells hx hy t old hg (by rw [hs.2.1]; exact hi) (by rw [hs.1, hs.2.1]) hs.2.2 h
/-- a struct type of so many cells -/
def StructOf (P : Program) (ty n : Nat) : Prop := ∃ fs, P.underlying ty = some (.struct fs) ∧ (P.info? ty).map (·.size) = some n
/-- a whole struct out of its block -/
theorem wpList_load_at {P : Program} {ops : Array Oper} {rest : List Oper} {o : Oper} {a : Act} {w : World} {Q : Exit → Act → World → Prop} (hgd : o.guard = none) (ty : TypeId) (x : Operand) (ho : o.op = .load ty x)
    (g : Nat) (hx : a.eval x = .pointer (some ⟨g, 0, none⟩)) (t : TypeId) (cs : Array Value) (n : Nat) (hg : Blk w g t cs) (hT : StructOf P ty n) (hn : cs.size = n)
    (h : wpList P ops Q rest (a.put o.dst (.agg cs)) w) : wpList P ops Q (o :: rest) a w := by
  obtain ⟨fs, hu, hi⟩ := hT
  exact wpList_load_row hgd ty x ho g hx t cs (0, 0) _ hg hu rfl (by rw [hi, hn]) h
theorem headB_length (h : HD) : (headB h).length = 20 := by simp [headB, putB_length]
theorem allB_length (l : LV) : (allB l).length = 20 + (bodyB l).length := by rw [allB, List.length_append, headB_length]
theorem fillF_length (bs : List Int) (a : Nat) : (fillF bs a).length = bs.length := two_length _ _ _ _
theorem fillF_byte (bs : List Int) (a : Nat) (h : ∀ z ∈ bs, 0 ≤ z ∧ z < 256) : ∀ z ∈ fillF bs a, 0 ≤ z ∧ z < 256 := by
  unfold fillF
  exact two_byte _ _ _ _ h (by omega) (by omega)
theorem lsaB_length (l : LV) : (lsaB l).length = 20 + (bodyB l).length := by
  rw [lsaB, List.length_append, fillF_length, List.length_take, List.length_drop, allB_length]; omega
theorem lsaB_byte (l : LV) : ∀ z ∈ lsaB l, 0 ≤ z ∧ z < 256 :=
  bytes_byte (fun z hz => allB_byte l z (List.mem_of_mem_take hz)) (fillF_byte _ _ (fun z hz => allB_byte l z (List.mem_of_mem_drop hz)))
theorem own_cap {w : World} {base : Nat} {e : TypeId} {size n c g o : Nat} {xs : List Value} (h : w.ownsRow base e size (.slice (some ⟨g, o, none⟩) n c) n xs) : ∃ k, c = k + n ∧ o = 0 := by
  rcases h.2 with ⟨h0, _⟩ | ⟨g', cap, cur, h0, _, _, h1, _⟩
  · cases h0
  · cases h0
    exact ⟨c - n, by omega, rfl⟩
/-- the sum and the length that the bytes tell -/
def sealF (l : LV) : LV := if rightB l then { l with hd := { l.hd with sum := numOf (((lsaB l).drop 16).take 2), long := numOf (((lsaB l).drop 18).take 2) } } else l
theorem Blk.setRow_ {w : World} {g : Nat} {t : TypeId} {cs : Array Value} (h : Blk w g t cs) (cs' : Array Value) : Blk (w.setRow g cs') g t cs' := setRow_heap w g cs cs' t (0, 0) h
theorem below_row {w0 w : World} {B g : Nat} (h : Below B w0 w) (hg : B ≤ g) (cs : Array Value) : Below B w0 (w.setRow g cs) := below_setRow h hg cs
theorem Keeps.row {F : Nat → Prop} {a w : World} (h : Keeps F a w) {g : Nat} (hg : F g ∨ a.heap.size ≤ g) (cs : Array Value) : Keeps F a (w.setRow g cs) :=
  ⟨h.os, h.tape, h.output, by have := h.size; simpa [World.setRow] using this, fun i hi hF => by
    rw [setRow_other w g i cs (fun e => by subst e; rcases hg with hg | hg; exact hF hg; omega)]
    exact h.block i hi hF⟩

/-- a description whose links and members lie in rows of our own, past B -/
structure LOwn (w : World) (B : Nat) (l : LV) (p : LP) : Prop where
  links : w.ownsRow B 117 4 (.slice p.A l.links.length p.c) l.links.length (rowC Lk.cells l.links)
  mem : w.ownsRow B 3 1 (.slice p.B l.mem.length p.d) l.mem.length (ints l.mem)
theorem LOwn.ok {w : World} {B : Nat} {l : LV} {p : LP} (h : LOwn w B l p) : LOK w l p := ⟨Reads.of_own h.links, Reads.of_own h.mem⟩
theorem LOwn.below {w w' : World} {B : Nat} {l : LV} {p : LP} (h : LOwn w B l p) (hb : Below w.heap.size w w') : LOwn w' B l p := ⟨own_below h.links hb, own_below h.mem hb⟩
theorem LOwn.mono {w : World} {B B' : Nat} {l : LV} {p : LP} (h : LOwn w B l p) (hb : B' ≤ B) : LOwn w B' l p := ⟨own_mono h.links hb, own_mono h.mem hb⟩
theorem own_far {w : World} {base : Nat} {e : TypeId} {size n c : Nat} {A : Option Addr} {xs : List Value} {g : Nat} (h : w.ownsRow base e size (.slice A n c) n xs) (hg : g < base) : ∀ x, Value.ownBlock (.slice A n c) = some x → ¬ x = g :=
  fun x hx e => by have := own_base h hx; omega
theorem LOwn.keeps {w w' : World} {F : Nat → Prop} {B : Nat} {l : LV} {p : LP} (h : LOwn w B l p) (hk : Keeps F w w') (hF : ∀ g, F g → g < B) : LOwn w' B l p :=
  ⟨hk.own h.links (fun x hx hg => own_far h.links (hF x hg) x hx rfl), hk.own h.mem (fun x hx hg => own_far h.mem (hF x hg) x hx rfl)⟩
theorem LOwn.head {w : World} {B : Nat} {l : LV} {p : LP} (h : LOwn w B l p) (h' : HD) : LOwn w B { l with hd := h' } p := ⟨h.links, h.mem⟩

set_option maxRecDepth 20000 in
set_option maxHeartbeats 4000000 in
theorem seal_any (l : LV) (p : LP) (w : World) (h1 : l.links.length ≤ 5000) (h2 : l.mem.length ≤ 5000) (hok : LOK w l p) :
    Calls Try.prog 97 #[.agg (lsaA l p)] w fun r w' => ∃ p' : LP, r = .returned (.agg (lsaA (sealF l) p')) ∧ LOwn w' w.heap.size (sealF l) p' ∧ Below w.heap.size w w' := by
  have HL := hide hok.links
  have HM := hide hok.mem
  clear hok
  obtain ⟨⟨age, kind, id, adv, seq, sum, long⟩, links, mem⟩ := l
  obtain ⟨A, c, B, d⟩ := p
  dsimp only at HL HM h1 h2
  go_enter Try.func97, Try.ntmps97
  go_upto_region 1 with (fail)
  have hb0 := (Blk.new w 37 (lsaA ⟨⟨age, kind, id, adv, seq, sum, long⟩, links, mem⟩ ⟨A, c, B, d⟩)).alloc (.cells lsa0 37)
  have HWS := hide (show ((w.alloc (.cells (lsaA ⟨⟨age, kind, id, adv, seq, sum, long⟩, links, mem⟩ ⟨A, c, B, d⟩) 37)).alloc (.cells lsa0 37)).heap.size = w.heap.size + 2 by simp)
  have hr0 := Blk.new (w.alloc (.cells (lsaA ⟨⟨age, kind, id, adv, seq, sum, long⟩, links, mem⟩ ⟨A, c, B, d⟩) 37)) 37 lsa0
  rw [show (w.alloc (.cells (lsaA ⟨⟨age, kind, id, adv, seq, sum, long⟩, links, mem⟩ ⟨A, c, B, d⟩) 37)).heap.size = w.heap.size + 1 by simp] at hr0
  have hB0 := below0 (below_new w (.cells (lsaA ⟨⟨age, kind, id, adv, seq, sum, long⟩, links, mem⟩ ⟨A, c, B, d⟩) 37)) (below_new _ (.cells lsa0 37))
  generalize (w.alloc (.cells (lsaA ⟨⟨age, kind, id, adv, seq, sum, long⟩, links, mem⟩ ⟨A, c, B, d⟩) 37)).alloc (.cells lsa0 37) = W at hb0 hB0 HWS hr0 ⊢
  refine region_by_last (l := [_, _, _, _, _, _, _, _, _, _]) (o := _) (fun i v w' => match i with
    | 0 => v = .pointer (some ⟨w.heap.size, 0, none⟩)
    | 1 => v = .agg (HD.arr ⟨age, kind, id, adv, seq, sum, long⟩)
    | 2 => v = .pointer (some ⟨w.heap.size, 7, none⟩)
    | 3 => v = .slice A links.length c
    | 4 => OwnL W.heap.size links v w'
    | 5 => v = .pointer (some ⟨w.heap.size, 8, none⟩)
    | 6 => v = .slice B mem.length d
    | 7 => OwnI W.heap.size mem v w'
    | 8 => OwnD W.heap.size ⟨⟨age, kind, id, adv, seq, sum, long⟩, links, mem⟩ v w'
    | _ => OwnB W.heap.size 37 lsa0 v w')
    (by kernel_rfl) (by kernel_rfl) (by kernel_rfl) (by kernel_rfl) (by kernel_rfl) ?_ ⟨?_, ?_, ?_, ?_, ?_, ?_, ?_, ?_, ?_, ?_, trivial⟩ ?_
  · intro i v w1 w2 hb hF
    match i, hF with
    | 0, h => exact h
    | 1, h => exact h
    | 2, h => exact h
    | 3, h => exact h
    | 4, h => exact OwnL.keep h hb
    | 5, h => exact h
    | 6, h => exact h
    | 7, h => exact OwnI.keep h hb
    | 8, h => exact OwnD.keep h hb
    | _ + 9, h => exact OwnB.keep h hb
  · intro a w1 hat
    have h1 : a.tmps.getD 1 undef = .pointer (some ⟨w.heap.size, 0, none⟩) := hat.base 1 (by kernel_rfl)
    (rw [if_pos (by rfl)]; go_simp; exact Below.refl _ _)
  · intro a w1 hat
    have h1 : a.tmps.getD 5 undef = .pointer (some ⟨w.heap.size, 0, none⟩) := hat.dep 0 5 (by kernel_rfl) (by kernel_rfl)
    have c0 := cell_keep (hb0.cell 0) hat.since
    have c1 := cell_keep (hb0.cell 1) hat.since
    have c2 := cell_keep (hb0.cell 2) hat.since
    have c3 := cell_keep (hb0.cell 3) hat.since
    have c4 := cell_keep (hb0.cell 4) hat.since
    have c5 := cell_keep (hb0.cell 5) hat.since
    have c6 := cell_keep (hb0.cell 6) hat.since
    (rw [if_pos (by rfl)]; go_simp; exact Below.refl _ _)
  · intro a w1 hat
    have h1 : a.tmps.getD 1 undef = .pointer (some ⟨w.heap.size, 0, none⟩) := hat.base 1 (by kernel_rfl)
    (rw [if_pos (by rfl)]; go_simp; exact Below.refl _ _)
  · intro a w1 hat
    have h1 : a.tmps.getD 7 undef = .pointer (some ⟨w.heap.size, 7, none⟩) := hat.dep 2 7 (by kernel_rfl) (by kernel_rfl)
    have hc := cell_keep (hb0.cell 7) hat.since
    (rw [if_pos (by rfl)]; go_simp; exact Below.refl _ _)
  · intro a w1 hat
    have h1 : a.tmps.getD 8 undef = .slice A links.length c := hat.dep 3 8 (by kernel_rfl) (by kernel_rfl)
    (have h11 := h1; rw [Array.getD_eq_getD_getElem?] at h11)
    have hbw := below0 hB0 hat.since
    rw [if_pos (by rfl)]
    go_simp
    refine (cloneL_any _ _ _ _ w1 (by omega) ((HL.out.below hbw).more hbw.size)).mono ?_
    rintro r w3 ⟨A3, c3, rfl, ho, hb⟩
    exact ⟨_, rfl, hb, A3, c3, rfl, own_mono ho hat.since.size⟩
  · intro a w1 hat
    have h1 : a.tmps.getD 1 undef = .pointer (some ⟨w.heap.size, 0, none⟩) := hat.base 1 (by kernel_rfl)
    (rw [if_pos (by rfl)]; go_simp; exact Below.refl _ _)
  · intro a w1 hat
    have h1 : a.tmps.getD 10 undef = .pointer (some ⟨w.heap.size, 8, none⟩) := hat.dep 5 10 (by kernel_rfl) (by kernel_rfl)
    have hc := cell_keep (hb0.cell 8) hat.since
    (rw [if_pos (by rfl)]; go_simp; exact Below.refl _ _)
  · intro a w1 hat
    have h1 : a.tmps.getD 11 undef = .slice B mem.length d := hat.dep 6 11 (by kernel_rfl) (by kernel_rfl)
    (have h11 := h1; rw [Array.getD_eq_getD_getElem?] at h11)
    have hbw := below0 hB0 hat.since
    rw [if_pos (by rfl)]
    go_simp
    refine (cloneI_any _ _ _ _ w1 (by omega) ((HM.out.below hbw).more hbw.size)).mono ?_
    rintro r w3 ⟨A3, c3, rfl, ho, hb⟩
    exact ⟨_, rfl, hb, A3, c3, rfl, own_mono ho hat.since.size⟩
  · intro a w1 hat
    have h1 : a.tmps.getD 6 undef = .agg (HD.arr ⟨age, kind, id, adv, seq, sum, long⟩) := hat.dep 1 6 (by kernel_rfl) (by kernel_rfl)
    have h2 : OwnL W.heap.size links (a.tmps.getD 9 undef) w1 := hat.dep 4 9 (by kernel_rfl) (by kernel_rfl)
    have h3 : OwnI W.heap.size mem (a.tmps.getD 12 undef) w1 := hat.dep 7 12 (by kernel_rfl) (by kernel_rfl)
    obtain ⟨A2, c2, e2, ho2⟩ := h2
    obtain ⟨A3, c3, e3, ho3⟩ := h3
    (have h11 := h1; rw [Array.getD_eq_getD_getElem?] at h11)
    (have e21 := e2; rw [Array.getD_eq_getD_getElem?] at e21)
    (have e31 := e3; rw [Array.getD_eq_getD_getElem?] at e31)
    rw [if_pos (by rfl)]
    go_simp
    exact ⟨_, rfl, Below.refl _ _, _, _, rfl, ⟨A2, c2, rfl, ho2⟩, ⟨A3, c3, rfl, ho3⟩⟩
  · intro a w1 hat
    rw [if_pos (by rfl)]
    go_simp
    exact ⟨_, rfl, below_new _ _, w1.heap.size, rfl, hat.since.size, Blk.new _ _ _⟩
  intro vs W1 hW1 hF
  have hv8 : OwnD W.heap.size ⟨⟨age, kind, id, adv, seq, sum, long⟩, links, mem⟩ (vs 8) W1 := hF 8 (by decide)
  have hv9 : OwnB W.heap.size 37 lsa0 (vs 9) W1 := hF 9 (by decide)
  rw [if_pos (by rfl)]
  simp only [putAll, Act.put, List.setIfInBounds_toArray, List.set_cons_zero, List.set_cons_succ, Nat.zero_add, Nat.reduceAdd]
  have hv0 : vs 0 = .pointer (some ⟨w.heap.size, 0, none⟩) := hF 0 (by decide)
  clear hF
  obtain ⟨x, y, e8, hx, hy⟩ := hv8
  obtain ⟨g, e9, hg, hk⟩ := hv9
  obtain ⟨A2, c2, ex, hoL⟩ := hx
  obtain ⟨A3, c3, ey, hoM⟩ := hy
  subst ex ey
  have HL1 := hide hoL
  have HM1 := hide hoM
  clear hoL hoM
  dsimp only at HL1 HM1 e8
  have hi : (Try.prog.info? 37).map (·.size) = some 9 := by kernel_rfl
  refine wp_store_row 37 (.tmp 3) (.tmp 13) rfl g #[.int .i64 age, .int .i64 kind, .int .i64 id, .int .i64 adv, .int .i64 seq, .int .i64 sum, .int .i64 long, .slice A2 links.length c2, .slice A3 mem.length c3] e9 e8 37 lsa0 hk hi rfl (by simp [Value.oneCell']) ?_
  have hB1 := below0 hB0 hW1
  have hgw : w.heap.size + 2 ≤ g := by
    have := HWS.out
    omega
  have HB2 := hide (below_row hB1 (by omega : w.heap.size ≤ g) #[.int .i64 age, .int .i64 kind, .int .i64 id, .int .i64 adv, .int .i64 seq, .int .i64 sum, .int .i64 long, .slice A2 links.length c2, .slice A3 mem.length c3])
  have hk2 := hk.setRow_ #[.int .i64 age, .int .i64 kind, .int .i64 id, .int .i64 adv, .int .i64 seq, .int .i64 sum, .int .i64 long, .slice A2 links.length c2, .slice A3 mem.length c3]
  have hKr := (Keeps.refl (fun x => x = g) W1).row (.inl rfl) #[.int .i64 age, .int .i64 kind, .int .i64 id, .int .i64 adv, .int .i64 seq, .int .i64 sum, .int .i64 long, .slice A2 links.length c2, .slice A3 mem.length c3]
  have HK2 := hide hk2
  have HL2 := hide (hKr.own HL1.out (fun x hx e => own_blk_ne HL1.out hk (by decide) (by rw [hx, e])))
  have HM2 := hide (hKr.own HM1.out (fun x hx e => own_blk_ne HM1.out hk (by decide) (by rw [hx, e])))
  have HA2 := hide (hKr.blk (hb0.below hW1 hb0.lt) (by omega))
  have HR2 := hide (hKr.blk (hr0.below hW1 hr0.lt) (by omega))
  clear hk2 hKr hk hi e8 HL1 HM1
  generalize W1.setRow g #[.int .i64 age, .int .i64 kind, .int .i64 id, .int .i64 adv, .int .i64 seq, .int .i64 sum, .int .i64 long, .slice A2 links.length c2, .slice A3 mem.length c3] = W2 at HB2 HK2 HL2 HM2 HA2 HR2 ⊢
  generalize vs 1 = v1
  generalize vs 2 = v2
  generalize vs 3 = v3
  generalize vs 4 = v4
  generalize vs 5 = v5
  generalize vs 6 = v6
  generalize vs 7 = v7
  generalize vs 8 = v8
  rw [e9, hv0]
  have HZ := hide (show sealF ⟨⟨age, kind, id, adv, seq, sum, long⟩, links, mem⟩ = if rightB ⟨⟨age, kind, id, adv, seq, sum, long⟩, links, mem⟩ then ⟨⟨age, kind, id, adv, seq, numOf (((lsaB ⟨⟨age, kind, id, adv, seq, sum, long⟩, links, mem⟩).drop 16).take 2), numOf (((lsaB ⟨⟨age, kind, id, adv, seq, sum, long⟩, links, mem⟩).drop 18).take 2)⟩, links, mem⟩ else ⟨⟨age, kind, id, adv, seq, sum, long⟩, links, mem⟩ by rfl)
  have HOK2 := hide (show LOK W2 ⟨⟨age, kind, id, adv, seq, sum, long⟩, links, mem⟩ ⟨A, c, B, d⟩ from ⟨(HL.out.below HB2.out).more HB2.out.size, (HM.out.below HB2.out).more HB2.out.size⟩)
  have HGW := hide hgw
  have HWW := hide hg
  clear hB0 hb0 hW1 hv0 e9 hg hB1 hr0
  have c0 := HA2.out.cell 0
  have c1 := HA2.out.cell 1
  have c2' := HA2.out.cell 2
  have c3' := HA2.out.cell 3
  have c4 := HA2.out.cell 4
  have c5 := HA2.out.cell 5
  have c6 := HA2.out.cell 6
  have c7 := HA2.out.cell 7
  have c8 := HA2.out.cell 8
  have hright := right_any ⟨⟨age, kind, id, adv, seq, sum, long⟩, links, mem⟩ ⟨A, c, B, d⟩ W2 (by omega : links.length ≤ 100000) (by omega : mem.length ≤ 100000) HOK2.out
  dsimp only [lsaA] at hright
  generalize rightB ⟨⟨age, kind, id, adv, seq, sum, long⟩, links, mem⟩ = rb at HZ hright
  have HRC := hide hright
  clear hright
  go_upto_if 15 with (go_at_call 93; refine HRC.out.mono ?_; rintro r W3 ⟨rfl, hb3⟩)
  have HB3 := hide hb3
  clear hb3 c0 c1 c2' c3' c4 c5 c6 c7 c8
  have HOK3 := hide (HOK2.out.below HB3.out)
  have HBW3 := hide (below0 HB2.out HB3.out)
  have HK3 := hide (HK2.out.below HB3.out HK2.out.lt)
  have HR3 := hide (HR2.out.below HB3.out HR2.out.lt)
  have HL3 := hide (own_below HL2.out HB3.out)
  have HM3 := hide (own_below HM2.out HB3.out)
  have HA3 := hide (HA2.out.below HB3.out HA2.out.lt)
  clear HOK2 HB2 HK2 HR2 HL2 HM2 HA2 HB3 HRC
  go_cut [] (fun wc => ∃ h' : HD, Hid (sealF ⟨⟨age, kind, id, adv, seq, sum, long⟩, links, mem⟩ = ⟨h', links, mem⟩) ∧ Hid (Below w.heap.size w wc) ∧ Hid (Blk wc g 37 (h'.arr ++ #[.slice A2 links.length c2, .slice A3 mem.length c3])) ∧ Hid (Blk wc (w.heap.size + 1) 37 lsa0) ∧ Hid (wc.ownsRow W.heap.size 117 4 (.slice A2 links.length c2) links.length (rowC Lk.cells links)) ∧ Hid (wc.ownsRow W.heap.size 3 1 (.slice A3 mem.length c3) mem.length (ints mem)))
  case first =>
    cases rb with
    | false =>
      go_wp2_with fail
      go_meet
      exact ⟨⟨age, kind, id, adv, seq, sum, long⟩, HZ, HBW3, HK3, HR3, HL3, HM3⟩
    | true =>
      have c0 := HA3.out.cell 0
      have c1 := HA3.out.cell 1
      have c2' := HA3.out.cell 2
      have c3' := HA3.out.cell 3
      have c4 := HA3.out.cell 4
      have c5 := HA3.out.cell 5
      have c6 := HA3.out.cell 6
      have c7 := HA3.out.cell 7
      have c8 := HA3.out.cell 8
      have hbytes := bytes_any ⟨⟨age, kind, id, adv, seq, sum, long⟩, links, mem⟩ ⟨A, c, B, d⟩ W3 h1 h2 HOK3.out
      dsimp only [lsaA] at hbytes
      have hlen := lsaB_length ⟨⟨age, kind, id, adv, seq, sum, long⟩, links, mem⟩
      have hcap := bodyB_length ⟨⟨age, kind, id, adv, seq, sum, long⟩, links, mem⟩ h1 h2
      have hbyte := lsaB_byte ⟨⟨age, kind, id, adv, seq, sum, long⟩, links, mem⟩
      generalize lsaB ⟨⟨age, kind, id, adv, seq, sum, long⟩, links, mem⟩ = bs at hbytes hlen hbyte HZ
      generalize (bodyB ⟨⟨age, kind, id, adv, seq, sum, long⟩, links, mem⟩).length = bl at hlen hcap
      have HBY := hide hbytes
      have HBB := hide hbyte
      clear hbytes hbyte
      obtain ⟨n, hn⟩ : ∃ n, bs.length = n := ⟨_, rfl⟩
      have hn1 : 20 ≤ n := by omega
      have hn2 : n ≤ 100000 := by omega
      have HN := hide hn
      clear hlen hcap hn
      go_wp2_with fail
      refine HBY.out.mono ?_
      rintro r W4 ⟨v4', rfl, ⟨A4, c4', rfl, ho4⟩, hb4⟩
      rw [HN.out] at ho4 ⊢
      obtain ⟨g4, hA4, hgb, hgl⟩ := own_spare ho4 (by omega)
      subst hA4
      obtain ⟨k4, hk4, hk5⟩ := own_cap ho4
      subst hk4
      clear c0 c1 c2' c3' c4 c5 c6 c7 c8
      have HB4 := hide hb4
      have hr4 := (Reads.of_own ho4).sub (i := 16) (m := n - 16) (by omega) (by omega)
      rw [← u8s_drop, ← u8s_take, List.take_of_length_le (by rw [List.length_drop, HN.out]; omega), Nat.zero_add] at hr4
      have HR4 := hide hr4
      have HW4 := hide (below0 HBW3.out hb4)
      have z1 : (16 : Int) ≤ (n : Int) := by omega
      have z2 : (n : Int) ≤ ((k4 + n : Nat) : Int) := by omega
      have z3 : ¬ k4 + n = 16 := by omega
      clear ho4 hb4 hr4 hk5
      go_wp2_with fail
      refine (read_any (some ⟨g4, 16, none⟩) (n - 16) (k4 + n - 16) (bs.drop 16) W4 (by omega) HR4.out).mono ?_
      rintro r W5 ⟨g5, rfl, hR5, hb5⟩
      have HR5 := hide hR5
      have HB5 := hide hb5
      have hg5 : W4.heap.size ≤ g5 := hR5.1
      have hl16 : (bs.drop 16).length = n - 16 := by rw [List.length_drop, HN.out]
      have HL16 := hide hl16
      have HBD := hide (show ∀ z ∈ bs.drop 16, 0 ≤ z ∧ z < 256 from fun z hz => HBB.out z (List.mem_of_mem_drop hz))
      have HG5 := hide hg5
      clear hR5 hb5 hg5 hl16 z1 z2 z3
      go_wp2_with fail
      refine (rdNum_ok W4.heap.size g5 (bs.drop 16) 0 2 W5 ((bs.drop 16).take 2) rfl HR5.out (by rw [HL16.out]; omega) HBD.out (by rw [HL16.out]; have := wideF_le 2; omega)).mono ?_
      rintro r W6 ⟨rfl, hR6, hK6⟩
      have HR6 : Hid (RdRep W6 W4.heap.size g5 (bs.drop 16) ((2 : Nat) : Int) 0) := hide hR6
      have HB6 := hide (below_keeps HB5.out hK6 (fun x hx => by cases hx; exact HG5.out))
      clear hR6 hK6
      go_wp2_with fail
      refine (rdNum_ok W4.heap.size g5 (bs.drop 16) 2 2 W6 ((bs.drop 18).take 2) (by rw [List.drop_drop]; rfl) HR6.out (by rw [HL16.out]; omega) HBD.out (by rw [HL16.out]; have h2 : wideF 2 = 2 := rfl; omega)).mono ?_
      rintro r W7 ⟨rfl, hR7, hK7⟩
      have HB7 := hide (below0 (show Below W3.heap.size W3 W4 from HB4.out) (below_keeps HB6.out hK7 (fun x hx => by cases hx; exact HG5.out)))
      clear hR7 hK7
      have HK7 := hide (HK3.out.below HB7.out HK3.out.lt)
      have HR7 := hide (HR3.out.below HB7.out HR3.out.lt)
      have HL7 := hide (own_below HL3.out HB7.out)
      have HM7 := hide (own_below HM3.out HB7.out)
      have HW7 := hide (below0 HBW3.out HB7.out)
      generalize numOf ((bs.drop 16).take 2) = s1 at HZ ⊢
      generalize numOf ((bs.drop 18).take 2) = s2 at HZ ⊢
      have e5 : W7.cell? ⟨g, 5, none⟩ = some (.int .i64 sum) := HK7.out.cell 5
      have e6 : W7.cell? ⟨g, 6, none⟩ = some (.int .i64 long) := HK7.out.cell 6
      have f5 : W7.frozen? ⟨g, 5, none⟩ = false := HK7.out.frozen 5
      have f6 : W7.frozen? ⟨g, 6, none⟩ = false := HK7.out.frozen 6
      go_wp2_with fail
      go_meet
      have hkx := (HK7.out.set_ 5 (.int .i64 s1)).set_ 6 (.int .i64 s2)
      have hKx := ((Keeps.refl (fun x => x = g) W7).setCell (p := ⟨g, 5, none⟩) (.inl rfl) (.int .i64 s1)).setCell (p := ⟨g, 6, none⟩) (.inl rfl) (.int .i64 s2)
      refine ⟨⟨age, kind, id, adv, seq, s1, s2⟩, HZ, hide ?_, hide hkx, hide (hKx.blk HR7.out (by have := HGW.out; omega)), hide (hKx.own HL7.out ?_), hide (hKx.own HM7.out ?_)⟩
      · exact below_keeps HW7.out hKx (fun x hx => by cases hx; have := HGW.out; omega)
      · exact fun x hx e => own_blk_ne HL7.out HK7.out (by decide) (by rw [hx, e])
      · exact fun x hx e => own_blk_ne HM7.out HK7.out (by decide) (by rw [hx, e])
  obtain ⟨⟨age', kind', id', adv', seq', sum', long'⟩, hz, hbw, hkc, hrc, hlc, hmc⟩ := hcut
  have q0 : wc.cell? ⟨g, 0, none⟩ = some (.int .i64 age') := hkc.out.cell 0
  have q1 : wc.cell? ⟨g, 1, none⟩ = some (.int .i64 kind') := hkc.out.cell 1
  have q2 : wc.cell? ⟨g, 2, none⟩ = some (.int .i64 id') := hkc.out.cell 2
  have q3 : wc.cell? ⟨g, 3, none⟩ = some (.int .i64 adv') := hkc.out.cell 3
  have q4 : wc.cell? ⟨g, 4, none⟩ = some (.int .i64 seq') := hkc.out.cell 4
  have q5 : wc.cell? ⟨g, 5, none⟩ = some (.int .i64 sum') := hkc.out.cell 5
  have q6 : wc.cell? ⟨g, 6, none⟩ = some (.int .i64 long') := hkc.out.cell 6
  have q7 : wc.cell? ⟨g, 7, none⟩ = some (.slice A2 links.length c2) := hkc.out.cell 7
  have q8 : wc.cell? ⟨g, 8, none⟩ = some (.slice A3 mem.length c3) := hkc.out.cell 8
  have hi : (Try.prog.info? 37).map (·.size) = some 9 := by kernel_rfl
  clear HZ HOK3 HBW3 HK3 HR3 HL3 HM3 HA3
  have hs : lsa0.size = 9 ∧ (#[.int .i64 age', .int .i64 kind', .int .i64 id', .int .i64 adv', .int .i64 seq', .int .i64 sum', .int .i64 long', .slice A2 links.length c2, .slice A3 mem.length c3] : Array Value).size = 9 ∧ (#[.int .i64 age', .int .i64 kind', .int .i64 id', .int .i64 adv', .int .i64 seq', .int .i64 sum', .int .i64 long', .slice A2 links.length c2, .slice A3 mem.length c3] : Array Value).all (·.oneCell') = true := ⟨rfl, rfl, by simp [Value.oneCell']⟩
  go_wp2_with (with_reducible refine wpList_store_at rfl 37 (.tmp 2) (.tmp 28) rfl (w.heap.size + 1) #[.int .i64 age', .int .i64 kind', .int .i64 id', .int .i64 adv', .int .i64 seq', .int .i64 sum', .int .i64 long', .slice A2 links.length c2, .slice A3 mem.length c3] 9 rfl rfl 37 lsa0 hrc.out hi hs ?_)
  have hkr := hrc.out.setRow_ #[.int .i64 age', .int .i64 kind', .int .i64 id', .int .i64 adv', .int .i64 seq', .int .i64 sum', .int .i64 long', .slice A2 links.length c2, .slice A3 mem.length c3]
  refine bodyPost_ret (results_cell_row (fn := Try.f97) rfl _ _ (w.heap.size + 1) 37 _ (0, 0) _ rfl hkr Try.underlying37 rfl hi) rfl ?_
  have hKx := (Keeps.refl (fun x => x = w.heap.size + 1) wc).row (.inl rfl) #[.int .i64 age', .int .i64 kind', .int .i64 id', .int .i64 adv', .int .i64 seq', .int .i64 sum', .int .i64 long', .slice A2 links.length c2, .slice A3 mem.length c3]
  rw [hz.out]
  have hzw : w.heap.size ≤ W.heap.size := by have := HWS.out; omega
  refine ⟨⟨A2, c2, A3, c3⟩, rfl, ⟨own_mono (hKx.own hlc.out ?_) hzw, own_mono (hKx.own hmc.out ?_) hzw⟩, below_keeps hbw.out hKx (fun x hx => by cases hx; omega)⟩
  · exact fun x hx e => own_blk_ne hlc.out hrc.out (by decide) (by rw [hx, e])
  · exact fun x hx e => own_blk_ne hmc.out hrc.out (by decide) (by rw [hx, e])
end Go.Proofs.Ytdenfgnkbfbpmaa
