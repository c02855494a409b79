/-
  A network and the reference's network side by side: what each call does to both.
-/
import Derived.Test.YtldanafbaadgoaaP
namespace Go.Proofs.Ytldanafbaadgoaa
open Go.RowKit

set_option maxHeartbeats 2000000 in
theorem take_out (F : Nat → Prop) (pl base : Nat) (room : Int) (on : Nat → Bool) (l : List Raw) (A : Option Addr) (c : Nat) (i : Int) (w : World) (h : LanRep w F pl base room on l A c) (hi : i < 0 ∨ (l.length : Int) ≤ i) :
    Calls Try.prog 15 #[.pointer (some ⟨pl, 0, none⟩), .int .i64 i] w fun r w' => r = .returned (.tuple #[zeroCopy, .bool false]) ∧ Below w.heap.size w w' := by
  have Hh := hide h
  have HI := hide hi
  clear h hi
  go_enter Try.func15, Try.ntmps15
  go_wp2_with fail
  have hb1 := Blk.new w 30 #[.int .i64 0, .int .i64 0, .int .i64 0, .slice none 0 0, .int .i64 0, .bool false]
  have hB1 := (Below.refl w.heap.size w).alloc (Nat.le_refl _) (.cells #[.int .i64 0, .int .i64 0, .int .i64 0, .slice none 0 0, .int .i64 0, .bool false] 30)
  generalize w.alloc (.cells #[.int .i64 0, .int .i64 0, .int .i64 0, .slice none 0 0, .int .i64 0, .bool false] 30) = W1 at hb1 hB1 ⊢
  have hlt := hb1.lt
  refine (at_out F pl base room on l A c i _ (Hh.out.below hB1) HI.out).mono ?_
  rintro e w2 ⟨rfl, hb2⟩
  have hbb2 := hb1.below hb2 hlt
  have hlt2 := hbb2.lt
  obtain ⟨k0, k1, k2, k3, k4, k5, f0⟩ := hbb2.cells6
  have HB := hide (below0 hB1 hb2)
  have HBB := hide hbb2
  clear hbb2 hb2 hb1 hB1
  go_wp2_with fail
  have hb := (HBB.out.six (.int .i64 0) (.int .i64 0) (.int .i64 0) (.slice none 0 0) (.int .i64 0) (.bool false)).alloc (.cells #[.int .i64 0, .int .i64 0, .int .i64 0, .slice none 0 0, .int .i64 0, .bool false] 30)
  refine bodyPost_ret (results_row_tmp (fn := Try.f15) rfl _ _ _ 30 _ _ rfl hb Try.underlying30 rfl (by kernel_rfl)) rfl ?_
  exact ⟨rfl, (below_six HB.out (Nat.le_refl _) _ _ _ _ _ _).alloc (by simp [World.setCell]; omega) _⟩

def Good (l : List Cp) : Prop := ∀ c ∈ l, c.bs.length ≤ 300 ∧ ∀ z ∈ c.bs, 0 ≤ z ∧ z < 256
theorem Good.nil : Good [] := fun _ h => by cases h
theorem Good.send {l : List Cp} (h : Good l) (room lan frm to : Int) (bs : List Int) (ids : List Int) (h1 : bs.length ≤ 300) (h2 : ∀ z ∈ bs, 0 ≤ z ∧ z < 256) : Good (sendF room lan frm to bs ids l) := fun c hc => by
  rcases sendF_mem room lan frm to bs ids l c hc with h3 | h3
  · exact h c h3
  · rw [h3]; exact ⟨h1, h2⟩
theorem Good.erase {l : List Cp} (h : Good l) (k : Nat) : Good (l.eraseIdx k) := fun c hc => h c (List.mem_of_mem_eraseIdx hc)
theorem Good.spoil {l : List Cp} (h : Good l) (a b : Int) (k : Nat) (c : Cp) (hk : l[k]? = some c) : Good (l.set k (spoilC a b c)) := fun x hx => by
  rcases List.mem_or_eq_of_mem_set hx with hx | rfl
  · exact h x hx
  · obtain ⟨h1, h2⟩ := h c (List.mem_of_getElem? hk)
    refine ⟨by simpa [spoilC, spoilB_length] using h1, fun z hz => ?_⟩
    simp only [spoilC, spoilB] at hz
    rcases List.mem_or_eq_of_mem_set hz with hz | rfl
    · exact h2 z hz
    · omega

/-- may a copy be spoilt? -/
def mayB (b : Int) (c : Cp) : Prop := c.sp = false ∧ 0 < c.bs.length ∧ b % 256 ≠ 0
instance (b : Int) (c : Cp) : Decidable (mayB b c) := inferInstanceAs (Decidable (_ ∧ _))
def spoilF (i a b : Int) (l : List Cp) : Bool × List Cp :=
  if 0 ≤ i then match l[i.toNat]? with
    | some c => if mayB b c then (true, l.set i.toNat (spoilC a b c)) else (false, l)
    | none => (false, l)
  else (false, l)
theorem spoilF_out (i a b : Int) (l : List Cp) (h : i < 0 ∨ (l.length : Int) ≤ i) : spoilF i a b l = (false, l) := by
  unfold spoilF
  split
  · rw [List.getElem?_eq_none (by omega)]
  · rfl
theorem spoilF_in (k : Nat) (a b : Int) (l : List Cp) (c : Cp) (hk : l[k]? = some c) : spoilF (k : Int) a b l = if mayB b c then (true, l.set k (spoilC a b c)) else (false, l) := by
  unfold spoilF
  rw [if_pos (by omega), Int.toNat_natCast, hk]
theorem Good.spoilF {l : List Cp} (h : Good l) (i a b : Int) : Good (spoilF i a b l).2 := by
  unfold Go.Proofs.Ytldanafbaadgoaa.spoilF
  split
  · split
    · rename_i c hc
      split
      · exact h.spoil a b _ c hc
      · exact h
    · exact h
  · exact h
theorem spoilF_length (i a b : Int) (l : List Cp) : (spoilF i a b l).2.length = l.length := by
  unfold spoilF
  split
  · split
    · split <;> simp
    · rfl
  · rfl

structure BothAt (w wr : World) (p1 b1 p2 b2 : Nat) (room : Int) (zs : List Int) (c1 c2 : List Cp) (K : Nat → Prop) (F1 : Nat → Prop) (l1 : List Raw) (A1 : Option Addr) (k1 : Nat) (F2 : Nat → Prop) (Ao : Option Addr) (co : Nat) (l2 : List Raw) (A2 : Option Addr) (k2 : Nat) : Prop where
  rep : LanRep wr F1 p1 b1 room (onF zs) l1 A1 k1
  e1 : l1.map (·.cp) = c1
  ref : RefRep wr F2 p2 b2 room (onL (onF zs) 16) Ao co l2 A2 k2
  e2 : l2.map (·.cp) = c2
  d : ∀ g, F1 g → ¬ F2 g
  lo1 : ∀ g, F1 g → w.heap.size ≤ g
  lo2 : ∀ g, F2 g → w.heap.size ≤ g
  no1 : ∀ g, F1 g → ¬ K g
  no2 : ∀ g, F2 g → ¬ K g
  klt : ∀ g, K g → g < wr.heap.size
  bel : Below w.heap.size w wr
def Both (w wr : World) (p1 b1 p2 b2 : Nat) (room : Int) (zs : List Int) (c1 c2 : List Cp) (K : Nat → Prop) : Prop :=
  ∃ F1 l1 A1 k1 F2 Ao co l2 A2 k2, BothAt w wr p1 b1 p2 b2 room zs c1 c2 K F1 l1 A1 k1 F2 Ao co l2 A2 k2
/-- the blocks that K names are as they were -/
def SameK (K : Nat → Prop) (wr w2 : World) : Prop := ∀ g, K g → g < wr.heap.size → w2.heap[g]? = wr.heap[g]?
theorem SameK.below {K : Nat → Prop} {wr w2 : World} (hb : Below wr.heap.size wr w2) : SameK K wr w2 := fun g _ hg => hb.block g hg
theorem SameK.blk {K : Nat → Prop} {wr w2 : World} (h : SameK K wr w2) {g : Nat} {t : TypeId} {cs : Array Value} (hb : Blk wr g t cs) (hg : K g) : Blk w2 g t cs := (h g hg hb.lt).trans hb

section
variable {w wr w2 : World} {p1 b1 p2 b2 : Nat} {room : Int} {zs : List Int} {c1 c2 : List Cp} {K : Nat → Prop}
theorem Both.below (h : Both w wr p1 b1 p2 b2 room zs c1 c2 K) (hb : Below wr.heap.size wr w2) : Both w w2 p1 b1 p2 b2 room zs c1 c2 K := by
  obtain ⟨F1, l1, A1, k1, F2, Ao, co, l2, A2, k2, h⟩ := h
  exact ⟨F1, l1, A1, k1, F2, Ao, co, l2, A2, k2, h.rep.below hb, h.e1, h.ref.below hb, h.e2, h.d, h.lo1, h.lo2, h.no1, h.no2, fun g hg => Nat.lt_of_lt_of_le (h.klt g hg) hb.size, below0 h.bel hb⟩
theorem Both.drew (h : Both w wr p1 b1 p2 b2 room zs c1 c2 K) : Both w wr.drew p1 b1 p2 b2 room zs c1 c2 K := h.below (Below.refl _ _).drew
theorem Both.frame (h : Both w wr p1 b1 p2 b2 room zs c1 c2 K) : Below w.heap.size w wr := by
  obtain ⟨F1, l1, A1, k1, F2, Ao, co, l2, A2, k2, h⟩ := h
  exact h.bel
/-- a new block that the calls leave -/
theorem Both.withNew (h : Both w wr p1 b1 p2 b2 room zs c1 c2 K) (o : Obj) : Both w (wr.alloc o) p1 b1 p2 b2 room zs c1 c2 (fun g => g = wr.heap.size) := by
  have hb := (Below.refl wr.heap.size wr).alloc (Nat.le_refl _) o
  obtain ⟨F1, l1, A1, k1, F2, Ao, co, l2, A2, k2, h⟩ := h
  refine ⟨F1, l1, A1, k1, F2, Ao, co, l2, A2, k2, h.rep.below hb, h.e1, h.ref.below hb, h.e2, h.d, h.lo1, h.lo2, fun g hg e => ?_, fun g hg e => ?_, fun g hg => by cases hg; simp, below0 h.bel hb⟩
  · subst e; exact absurd (h.rep.lt _ hg) (Nat.lt_irrefl _)
  · subst e; exact absurd (h.ref.lt _ hg) (Nat.lt_irrefl _)
theorem Both.forget (h : Both w wr p1 b1 p2 b2 room zs c1 c2 K) : Both w wr p1 b1 p2 b2 room zs c1 c2 (fun _ => False) := by
  obtain ⟨F1, l1, A1, k1, F2, Ao, co, l2, A2, k2, h⟩ := h
  exact ⟨F1, l1, A1, k1, F2, Ao, co, l2, A2, k2, h.rep, h.e1, h.ref, h.e2, h.d, h.lo1, h.lo2, fun _ _ h => h, fun _ _ h => h, fun _ h => h.elim, h.bel⟩

/-- the first one has turned -/
theorem BothAt.turn1 {F1 : Nat → Prop} {l1 : List Raw} {A1 : Option Addr} {k1 : Nat} {F2 : Nat → Prop} {Ao : Option Addr} {co : Nat} {l2 : List Raw} {A2 : Option Addr} {k2 : Nat} (h : BothAt w wr p1 b1 p2 b2 room zs c1 c2 K F1 l1 A1 k1 F2 Ao co l2 A2 k2) {c : List Cp}
    (hL : LanAt wr F1 p1 b1 room (onF zs) c w2) : Both w w2 p1 b1 p2 b2 room zs c c2 K ∧ SameK K wr w2 := by
  obtain ⟨F', l', A', c', hR, hl, hF, hK⟩ := hL
  refine ⟨⟨F', l', A', c', F2, Ao, co, l2, A2, k2, hR, hl, h.ref.keep hK (fun g h2 h1 => h.d g h1 h2), h.e2, fun g h1 h2 => ?_, fun g hg => ?_, h.lo2, fun g hg hk => ?_, h.no2, fun g hg => Nat.lt_of_lt_of_le (h.klt g hg) hK.size, below_keeps h.bel hK h.lo1⟩, fun g hg hlt => hK.block g hlt (fun hf => h.no1 g hf hg)⟩
  · rcases hF g h1 with h3 | h3
    · exact h.d g h3 h2
    · have := h.ref.lt g h2; omega
  · rcases hF g hg with h3 | h3
    · exact h.lo1 g h3
    · have := h.bel.size; omega
  · rcases hF g hg with h3 | h3
    · exact h.no1 g h3 hk
    · have := h.klt g hk; omega
theorem BothAt.turn2 {F1 : Nat → Prop} {l1 : List Raw} {A1 : Option Addr} {k1 : Nat} {F2 : Nat → Prop} {Ao : Option Addr} {co : Nat} {l2 : List Raw} {A2 : Option Addr} {k2 : Nat} (h : BothAt w wr p1 b1 p2 b2 room zs c1 c2 K F1 l1 A1 k1 F2 Ao co l2 A2 k2) {c : List Cp}
    (hL : RefAt wr F2 p2 b2 room (onL (onF zs) 16) c w2) : Both w w2 p1 b1 p2 b2 room zs c1 c K ∧ SameK K wr w2 := by
  obtain ⟨F', Ao', co', l', A', c', hR, hl, hF, hK⟩ := hL
  refine ⟨⟨F1, l1, A1, k1, F', Ao', co', l', A', c', h.rep.keep hK (fun g h1 h2 => h.d g h1 h2), h.e1, hR, hl, fun g h1 h2 => ?_, h.lo1, fun g hg => ?_, h.no1, fun g hg hk => ?_, fun g hg => Nat.lt_of_lt_of_le (h.klt g hg) hK.size, below_keeps h.bel hK h.lo2⟩, fun g hg hlt => hK.block g hlt (fun hf => h.no2 g hf hg)⟩
  · rcases hF g h2 with h3 | h3
    · exact h.d g h1 h3
    · have := h.rep.lt g h1; omega
  · rcases hF g hg with h3 | h3
    · exact h.lo2 g h3
    · have := h.bel.size; omega
  · rcases hF g hg with h3 | h3
    · exact h.no2 g h3 hk
    · have := h.klt g hk; omega
end

section
variable {w wr : World} {p1 b1 p2 b2 : Nat} {room : Int} {zs : List Int} {c1 c2 : List Cp} {K : Nat → Prop}

theorem fr_apart {w : World} {F : Nat → Prop} {f : Fr} (hf : FrOK w f) (hlo : ∀ g, F g → w.heap.size ≤ g) : 0 < f.bs.length → ∀ b off, f.A = some ⟨b, off, none⟩ → ¬ F b := fun h0 b off e hg => by
  obtain ⟨b', off', e', hlt', _⟩ := hf.1.2 h0
  have e2 := e'.symm.trans e
  simp only [Option.some.injEq, Addr.mk.injEq, and_true] at e2
  obtain ⟨rfl, rfl⟩ := e2
  have := hlo _ hg
  omega

theorem two_send1 (h : Both w wr p1 b1 p2 b2 room zs c1 c2 K) (f : Fr) (hf : FrOK w f) (hn : f.bs.length ≤ 300) (hl : c1.length ≤ 100000) :
    Calls Try.prog 9 #[.pointer (some ⟨p1, 0, none⟩), .agg #[.int .i64 f.lan, .int .i64 f.frm, .int .i64 f.to, .slice f.A f.bs.length f.c]] wr fun r w' =>
      r = .returned (.int .i64 (((sendF room f.lan f.frm f.to f.bs (onL (onF zs) 16) c1).length : Int) - (c1.length : Int))) ∧ Both w w' p1 b1 p2 b2 room zs (sendF room f.lan f.frm f.to f.bs (onL (onF zs) 16) c1) c2 K ∧ SameK K wr w' := by
  obtain ⟨F1, l1, A1, k1, F2, Ao, co, l2, A2, k2, h⟩ := h
  have hll : l1.length = c1.length := by rw [← h.e1, List.length_map]
  refine (send_any F1 p1 b1 room (onF zs) l1 A1 k1 f.lan f.frm f.to f.A f.bs.length f.c f.bs wr h.rep ((hf.1.below h.bel).more h.bel.size) (fr_apart hf h.lo1) (Reads.nil_none hf.1) (by omega) (by omega)).mono ?_
  rintro r w' ⟨rfl, hL⟩
  rw [h.e1, hll]
  rw [h.e1] at hL
  exact ⟨rfl, h.turn1 hL⟩
theorem two_send2 (h : Both w wr p1 b1 p2 b2 room zs c1 c2 K) (f : Fr) (hf : FrOK w f) (hn : f.bs.length ≤ 300) (hl : c2.length ≤ 100000) :
    Calls Try.prog 18 #[.pointer (some ⟨p2, 0, none⟩), .agg #[.int .i64 f.lan, .int .i64 f.frm, .int .i64 f.to, .slice f.A f.bs.length f.c]] wr fun r w' =>
      r = .returned (.int .i64 (((sendF room f.lan f.frm f.to f.bs (onL (onF zs) 16) c2).length : Int) - (c2.length : Int))) ∧ Both w w' p1 b1 p2 b2 room zs c1 (sendF room f.lan f.frm f.to f.bs (onL (onF zs) 16) c2) K ∧ SameK K wr w' := by
  obtain ⟨F1, l1, A1, k1, F2, Ao, co, l2, A2, k2, h⟩ := h
  have hll : l2.length = c2.length := by rw [← h.e2, List.length_map]
  refine (refSend_any F2 p2 b2 room (onL (onF zs) 16) Ao co l2 A2 k2 f.lan f.frm f.to f.A f.bs.length f.c f.bs wr h.ref (onL_le _ _) ((hf.1.below h.bel).more h.bel.size) (fr_apart hf h.lo2) (by omega) (by omega)).mono ?_
  rintro r w' ⟨rfl, hL⟩
  rw [h.e2, hll]
  rw [h.e2] at hL
  exact ⟨rfl, h.turn2 hL⟩
theorem two_len (h : Both w wr p1 b1 p2 b2 room zs c1 c2 K) :
    Calls Try.prog 14 #[.pointer (some ⟨p1, 0, none⟩)] wr fun r w' => r = .returned (.int .i64 (c1.length : Int)) ∧ Both w w' p1 b1 p2 b2 room zs c1 c2 K ∧ Below wr.heap.size wr w' := by
  have hB := h
  obtain ⟨F1, l1, A1, k1, F2, Ao, co, l2, A2, k2, h⟩ := h
  have hll : l1.length = c1.length := by rw [← h.e1, List.length_map]
  refine (len_any p1 room (onF zs) A1 l1.length k1 wr h.rep.box).mono ?_
  rintro r w' ⟨rfl, hb⟩
  rw [hll]
  exact ⟨rfl, hB.below hb, hb⟩
theorem two_at (h : Both w wr p1 b1 p2 b2 room zs c1 c2 K) (hg : Good c1) (k : Nat) (c : Cp) (hk : c1[k]? = some c) :
    Calls Try.prog 10 #[.pointer (some ⟨p1, 0, none⟩), .int .i64 (k : Int)] wr fun e w' => ∃ A' c', e = .returned (.tuple #[c.val A' c', .bool true]) ∧ w'.ownsRow wr.heap.size 5 1 (.slice A' c.bs.length c') c.bs.length (u8s c.bs) ∧ Both w w' p1 b1 p2 b2 room zs c1 c2 K ∧ Below wr.heap.size wr w' := by
  have hB := h
  obtain ⟨F1, l1, A1, k1, F2, Ao, co, l2, A2, k2, h⟩ := h
  obtain ⟨A', c', hr⟩ := map_at h.e1 hk
  refine (at_in F1 p1 b1 room (onF zs) l1 A1 k1 k _ wr h.rep hr (by have := (hg c (List.mem_of_getElem? hk)).1; dsimp only; omega)).mono ?_
  rintro e w' ⟨A3, c3, rfl, ho, hb⟩
  exact ⟨A3, c3, rfl, ho, hB.below hb, hb⟩
theorem two_take1 (h : Both w wr p1 b1 p2 b2 room zs c1 c2 K) (hg : Good c1) (hl : c1.length ≤ 200000) (k : Nat) (c : Cp) (hk : c1[k]? = some c) :
    Calls Try.prog 15 #[.pointer (some ⟨p1, 0, none⟩), .int .i64 (k : Int)] wr fun e w' => ∃ A' c', e = .returned (.tuple #[c.val A' c', .bool true]) ∧ w'.ownsRow wr.heap.size 5 1 (.slice A' c.bs.length c') c.bs.length (u8s c.bs) ∧ Both w w' p1 b1 p2 b2 room zs (c1.eraseIdx k) c2 K ∧ SameK K wr w' := by
  obtain ⟨F1, l1, A1, k1, F2, Ao, co, l2, A2, k2, h⟩ := h
  obtain ⟨A', c', hr⟩ := map_at h.e1 hk
  have hll : l1.length = c1.length := by rw [← h.e1, List.length_map]
  refine (take_in F1 p1 b1 room (onF zs) l1 A1 k1 k _ wr h.rep hr (by have := (hg c (List.mem_of_getElem? hk)).1; dsimp only; omega) (by omega)).mono ?_
  rintro e w' ⟨A3, c3, A4, c4, rfl, ho, hR, hK⟩
  have := h.turn1 (w2 := w') (c := c1.eraseIdx k) ⟨F1, _, A4, c4, hR, by rw [← h.e1]; simp only [List.eraseIdx_eq_take_drop_succ, List.map_append, List.map_take, List.map_drop], fun g hg => .inl hg, hK⟩
  exact ⟨A3, c3, rfl, ho, this.1, this.2⟩
theorem two_take0 (h : Both w wr p1 b1 p2 b2 room zs c1 c2 K) (i : Int) (hi : i < 0 ∨ (c1.length : Int) ≤ i) :
    Calls Try.prog 15 #[.pointer (some ⟨p1, 0, none⟩), .int .i64 i] wr fun e w' => e = .returned (.tuple #[zeroCopy, .bool false]) ∧ Both w w' p1 b1 p2 b2 room zs c1 c2 K ∧ Below wr.heap.size wr w' := by
  have hB := h
  obtain ⟨F1, l1, A1, k1, F2, Ao, co, l2, A2, k2, h⟩ := h
  have hll : l1.length = c1.length := by rw [← h.e1, List.length_map]
  refine (take_out F1 p1 b1 room (onF zs) l1 A1 k1 i wr h.rep (by rw [hll]; exact hi)).mono ?_
  rintro e w' ⟨rfl, hb⟩
  exact ⟨rfl, hB.below hb, hb⟩
theorem two_take2 (h : Both w wr p1 b1 p2 b2 room zs c1 c2 K) (hl : c2.length ≤ 200000) (k : Nat) :
    Calls Try.prog 19 #[.pointer (some ⟨p2, 0, none⟩), .int .i64 (k : Int)] wr fun e w' => e = .returned (.tuple #[]) ∧ Both w w' p1 b1 p2 b2 room zs c1 (c2.eraseIdx k) K ∧ SameK K wr w' := by
  obtain ⟨F1, l1, A1, k1, F2, Ao, co, l2, A2, k2, h⟩ := h
  have hll : l2.length = c2.length := by rw [← h.e2, List.length_map]
  refine (refTake_any F2 p2 b2 room (onL (onF zs) 16) Ao co l2 A2 k2 k wr h.ref (by omega)).mono ?_
  rintro e w' ⟨rfl, hL⟩
  rw [h.e2] at hL
  exact ⟨rfl, h.turn2 hL⟩
theorem two_spoil1 (h : Both w wr p1 b1 p2 b2 room zs c1 c2 K) (hg : Good c1) (hl : c1.length ≤ 200000) (i a b : Int) :
    Calls Try.prog 12 #[.pointer (some ⟨p1, 0, none⟩), .int .i64 i, .int .i64 a, .int .i64 b] wr fun e w' => e = .returned (.bool (spoilF i a b c1).1) ∧ Both w w' p1 b1 p2 b2 room zs (spoilF i a b c1).2 c2 K ∧ SameK K wr w' := by
  have hB := h
  obtain ⟨F1, l1, A1, k1, F2, Ao, co, l2, A2, k2, h⟩ := h
  have hll : l1.length = c1.length := by rw [← h.e1, List.length_map]
  by_cases hi : i < 0 ∨ (c1.length : Int) ≤ i
  · rw [spoilF_out i a b c1 hi]
    refine (spoil_out F1 p1 b1 room (onF zs) l1 A1 k1 i a b wr h.rep (by rw [hll]; exact hi)).mono ?_
    rintro e w' ⟨rfl, hb⟩
    exact ⟨rfl, hB.below hb, SameK.below hb⟩
  · obtain ⟨k, rfl⟩ : ∃ k : Nat, i = k := ⟨i.toNat, by omega⟩
    obtain ⟨c, hk⟩ : ∃ c, c1[k]? = some c := ⟨_, List.getElem?_eq_getElem (by omega)⟩
    obtain ⟨A', c', hr⟩ := map_at h.e1 hk
    have hbl := (hg c (List.mem_of_getElem? hk)).1
    rw [spoilF_in k a b c1 c hk]
    by_cases hm : mayB b c
    · rw [if_pos hm]
      refine (spoil_yes F1 p1 b1 room (onF zs) l1 A1 k1 k _ a b wr h.rep hr (by dsimp only; omega) (by omega) hm.1 hm.2.1 hm.2.2).mono ?_
      rintro e w' ⟨rfl, hL⟩
      rw [h.e1] at hL
      exact ⟨rfl, h.turn1 hL⟩
    · rw [if_neg hm]
      refine (spoil_no F1 p1 b1 room (onF zs) l1 A1 k1 k _ a b wr h.rep hr (by dsimp only; omega) ?_).mono ?_
      · dsimp only
        unfold mayB at hm
        cases hs : c.sp
        · refine .inr ?_
          rw [hs] at hm
          by_cases h0 : c.bs.length = 0
          · exact .inl ⟨rfl, h0⟩
          · refine .inr ⟨rfl, by omega, ?_⟩
            exact Decidable.byContradiction (fun h => hm ⟨rfl, by omega, h⟩)
        · exact .inl rfl
      · rintro e w' ⟨rfl, hb⟩
        exact ⟨rfl, hB.below hb, SameK.below hb⟩
theorem two_spoil2 (h : Both w wr p1 b1 p2 b2 room zs c1 c2 K) (hg : Good c2) (hl : c2.length ≤ 200000) (i a b : Int) :
    Calls Try.prog 20 #[.pointer (some ⟨p2, 0, none⟩), .int .i64 i, .int .i64 a, .int .i64 b] wr fun e w' => e = .returned (.bool (spoilF i a b c2).1) ∧ Both w w' p1 b1 p2 b2 room zs c1 (spoilF i a b c2).2 K ∧ SameK K wr w' := by
  have hB := h
  obtain ⟨F1, l1, A1, k1, F2, Ao, co, l2, A2, k2, h⟩ := h
  have hll : l2.length = c2.length := by rw [← h.e2, List.length_map]
  by_cases hi : i < 0 ∨ (c2.length : Int) ≤ i
  · rw [spoilF_out i a b c2 hi]
    refine (refSpoil_out F2 p2 b2 room (onL (onF zs) 16) Ao co l2 A2 k2 i a b wr h.ref (by rw [hll]; exact hi)).mono ?_
    rintro e w' ⟨rfl, hb⟩
    exact ⟨rfl, hB.below hb, SameK.below hb⟩
  · obtain ⟨k, rfl⟩ : ∃ k : Nat, i = k := ⟨i.toNat, by omega⟩
    obtain ⟨c, hk⟩ : ∃ c, c2[k]? = some c := ⟨_, List.getElem?_eq_getElem (by omega)⟩
    obtain ⟨A', c', hr⟩ := map_at h.e2 hk
    obtain ⟨hbl, hbb⟩ := hg c (List.mem_of_getElem? hk)
    rw [spoilF_in k a b c2 c hk]
    by_cases hm : mayB b c
    · rw [if_pos hm]
      refine (refSpoil_yes F2 p2 b2 room (onL (onF zs) 16) Ao co l2 A2 k2 k _ a b wr h.ref hr (by dsimp only; omega) (by omega) hbb hm.1 hm.2.1 hm.2.2).mono ?_
      rintro e w' ⟨rfl, hL⟩
      rw [h.e2] at hL
      exact ⟨rfl, h.turn2 hL⟩
    · rw [if_neg hm]
      refine (refSpoil_no F2 p2 b2 room (onL (onF zs) 16) Ao co l2 A2 k2 k _ a b wr h.ref hr (by dsimp only; omega) ?_).mono ?_
      · dsimp only
        unfold mayB at hm
        by_cases hb0 : b % 256 = 0
        · exact .inl hb0
        · cases hs : c.sp
          · rw [hs] at hm
            exact .inr (.inr ⟨hb0, rfl, by
              rcases Nat.eq_zero_or_pos c.bs.length with h0 | h0
              · exact h0
              · exact absurd ⟨rfl, h0, hb0⟩ hm⟩)
          · exact .inr (.inl ⟨hb0, rfl⟩)
      · rintro e w' ⟨rfl, hb⟩
        exact ⟨rfl, hB.below hb, SameK.below hb⟩
end
end Go.Proofs.Ytldanafbaadgoaa
