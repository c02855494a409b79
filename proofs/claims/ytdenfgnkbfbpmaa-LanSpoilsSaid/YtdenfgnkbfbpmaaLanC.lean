/-
  A network's copies in memory; (*lan.Lan).Send.
-/
import Derived.Test.YtdenfgnkbfbpmaaLanB
import Derived.Deep.RegionLaw
namespace Go.Proofs.Ytdenfgnkbfbpmaa
open Go.RowKit

/-- a copy, as the document has it -/
structure CpO where
  lan : Int
  frm : Int
  to : Int
  bs : List Int
  for_ : Int
  sp : Bool
deriving DecidableEq
structure Raw where
  cp : CpO
  A : Option Addr
  c : Nat
abbrev Raw.sl (r : Raw) : Value := .slice r.A r.cp.bs.length r.c
def Raw.cells (r : Raw) : List Value := [.int .i64 r.cp.lan, .int .i64 r.cp.frm, .int .i64 r.cp.to, .slice r.A r.cp.bs.length r.c, .int .i64 r.cp.for_, .bool r.cp.sp]
def rawsC (l : List Raw) : List Value := l.flatMap Raw.cells
theorem rawsC_append (a b : List Raw) : rawsC (a ++ b) = rawsC a ++ rawsC b := by simp [rawsC]
theorem rawsC_length (l : List Raw) : (rawsC l).length = l.length * 6 := by
  induction l with
  | nil => rfl
  | cons h l ih => simp only [rawsC, List.flatMap_cons, List.length_append] at ih ⊢; rw [ih]; simp [Raw.cells]; omega
theorem rawsC_at (l : List Raw) (k j : Nat) (h : Raw) (hk : l[k]? = some h) (hj : j < 6) : (rawsC l)[k * 6 + j]? = h.cells[j]? := by
  induction l generalizing k with
  | nil => simp at hk
  | cons x l ih =>
    cases k with
    | zero =>
      simp only [List.getElem?_cons_zero, Option.some.injEq] at hk
      subst hk
      simp only [rawsC, List.flatMap_cons, Nat.zero_mul, Nat.zero_add]
      rw [List.getElem?_append_left (by simpa [Raw.cells] using hj)]
    | succ k =>
      simp only [List.getElem?_cons_succ] at hk
      have := ih k hk
      simp only [rawsC, List.flatMap_cons] at this ⊢
      rw [List.getElem?_append_right (by simp [Raw.cells]; omega), ← this]
      congr 1
      simp [Raw.cells]
      omega
def RawAt (w : World) (b o : Nat) (h : Raw) : Prop :=
  w.cell? ⟨b, o, none⟩ = some (.int .i64 h.cp.lan) ∧ w.cell? ⟨b, o + 1, none⟩ = some (.int .i64 h.cp.frm) ∧ w.cell? ⟨b, o + 2, none⟩ = some (.int .i64 h.cp.to) ∧ w.cell? ⟨b, o + 3, none⟩ = some (.slice h.A h.cp.bs.length h.c) ∧
  w.cell? ⟨b, o + 4, none⟩ = some (.int .i64 h.cp.for_) ∧ w.cell? ⟨b, o + 5, none⟩ = some (.bool h.cp.sp)
theorem Reads.raw_at {w : World} {B n k : Nat} {A : Option Addr} {rs : List Raw} (h : Reads w B 6 A n (rawsC rs)) (hk : k < n) :
    ∃ b off x, A = some ⟨b, off, none⟩ ∧ b < B ∧ rs[k]? = some x ∧ RawAt w b (off + k * 6) x := by
  obtain ⟨b, off, e, hb, hc⟩ := h.2 (by omega)
  have hl := h.1
  rw [rawsC_length] at hl
  have hlen : k < rs.length := by omega
  have at_ : ∀ j (hj : j < 6), w.cell? ⟨b, off + (k * 6 + j), none⟩ = some ((rs[k]).cells[j]'(by simpa [Raw.cells] using hj)) := fun j hj =>
    hc (k * 6 + j) _ ((rawsC_at rs k j _ (List.getElem?_eq_getElem hlen) hj).trans (List.getElem?_eq_getElem (by simpa [Raw.cells] using hj)))
  exact ⟨b, off, rs[k], e, hb, List.getElem?_eq_getElem hlen, at_ 0 (by omega), at_ 1 (by omega), at_ 2 (by omega), at_ 3 (by omega), at_ 4 (by omega), at_ 5 (by omega)⟩
theorem RawAt.below {w w' : World} {B b o : Nat} {h : Raw} (hh : RawAt w b o h) (hb : Below B w w') (hB : b < B) : RawAt w' b o h := by
  obtain ⟨h0, h1, h2, h3, h4, h5⟩ := hh
  exact ⟨(hb.cell hB).trans h0, (hb.cell hB).trans h1, (hb.cell hB).trans h2, (hb.cell hB).trans h3, (hb.cell hB).trans h4, (hb.cell hB).trans h5⟩

structure LanRep (w : World) (F : Nat → Prop) (pl base : Nat) (room : Int) (on : Nat → Bool) (l : List Raw) (A : Option Addr) (c : Nat) : Prop where
  box : Blk w pl 73 (lanCells room on (.slice A l.length c))
  own : w.ownsRow base 48 6 (.slice A l.length c) l.length (rawsC l)
  byt : ∀ r ∈ l, w.ownsRow base 5 1 r.sl r.cp.bs.length (u8sO r.cp.bs)
  hpl : F pl
  hrow : ∀ g, (Value.slice A l.length c).ownBlock = some g → F g
  hbyt : ∀ r ∈ l, ∀ g, r.sl.ownBlock = some g → F g
  plb : pl < base
  lt : ∀ g, F g → g < w.heap.size
  bz : base ≤ w.heap.size

theorem LanRep.keep {w w' : World} {F G : Nat → Prop} {pl base : Nat} {room : Int} {on : Nat → Bool} {l : List Raw} {A : Option Addr} {c : Nat} (h : LanRep w F pl base room on l A c) (hk : Keeps G w w') (hd : ∀ g, F g → ¬ G g) : LanRep w' F pl base room on l A c where
  box := hk.blk h.box (hd _ h.hpl)
  own := hk.own h.own (fun g hg => hd _ (h.hrow g hg))
  byt := fun r hr => hk.own (h.byt r hr) (fun g hg => hd _ (h.hbyt r hr g hg))
  hpl := h.hpl
  hrow := h.hrow
  hbyt := h.hbyt
  plb := h.plb
  lt := fun g hg => Nat.lt_of_lt_of_le (h.lt g hg) hk.size
  bz := Nat.le_trans h.bz hk.size
theorem LanRep.below {w w' : World} {F : Nat → Prop} {pl base : Nat} {room : Int} {on : Nat → Bool} {l : List Raw} {A : Option Addr} {c : Nat} (h : LanRep w F pl base room on l A c) (hb : Below w.heap.size w w') : LanRep w' F pl base room on l A c :=
  h.keep (Keeps.of_below (F := fun _ => False) hb) (fun _ _ h => h)

theorem LanRep.drewN {w : World} {F : Nat → Prop} {pl base : Nat} {room : Int} {on : Nat → Bool} {l : List Raw} {A : Option Addr} {c : Nat} (h : LanRep w F pl base room on l A c) (d : Nat) : LanRep (w.drewN d) F pl base room on l A c := h.below (below_drewN (Below.refl _ _) d)

/-- the object behind pl after a step: its copies, within the old footprint and new blocks -/
def LanAt (w : World) (F : Nat → Prop) (pl base : Nat) (room : Int) (on : Nat → Bool) (cps : List CpO) (wr : World) : Prop :=
  ∃ (F' : Nat → Prop) (l : List Raw) (A : Option Addr) (c : Nat), LanRep wr F' pl base room on l A c ∧ l.map (·.cp) = cps ∧ (∀ g, F' g → F g ∨ w.heap.size ≤ g) ∧ Keeps F w wr

theorem own_typesO {w : World} {base base' : Nat} {e e' : TypeId} {size size' n n' : Nat} {v v' : Value} {xs xs' : List Value} (h : w.ownsRow base e size v n xs) (h' : w.ownsRow base' e' size' v' n' xs') (hne : e ≠ e') : v.ownBlock = none ∨ v.ownBlock ≠ v'.ownBlock := by
  rcases h.2 with ⟨rfl, _⟩ | ⟨g, cap, cur, rfl, _, hh, _⟩
  · exact .inl rfl
  · rcases h'.2 with ⟨rfl, _⟩ | ⟨g', cap', cur', rfl, _, hh', _⟩
    · exact .inr (by simp [Value.ownBlock])
    · refine .inr (fun e0 => ?_)
      have : g = g' := by simpa [Value.ownBlock] using e0
      subst this
      rw [hh] at hh'
      injection hh' with hh'
      injection hh' with _ ht
      exact hne ht

section
variable {w3 w4 : World} {F : Nat → Prop} {pl base : Nat} {room : Int} {on : Nat → Bool} {l : List Raw} {A A4 : Option Addr} {c c4 : Nat} {r : Raw} {o : Obj}
theorem LanPut.blk (h : LanRep w3 F pl base room on l A c) (hg : (w3.alloc o).grownBy w4 (Value.slice A l.length c).ownBlock) : Blk w4 pl 73 (lanCells room on (.slice A l.length c)) :=
  (h.box.alloc o).grown hg (fun e => by have := (own_baseO h.own e.symm).1; have := h.plb; omega)
theorem LanPut.cell (h : LanRep w3 F pl base room on l A c) (hg : (w3.alloc o).grownBy w4 (Value.slice A l.length c).ownBlock) : w4.cell? ⟨pl, 17, none⟩ = some (.slice A l.length c) := (LanPut.blk h hg).cell 17
theorem LanPut.frozen (h : LanRep w3 F pl base room on l A c) (hg : (w3.alloc o).grownBy w4 (Value.slice A l.length c).ownBlock) : w4.frozen? ⟨pl, 17, none⟩ = false := (LanPut.blk h hg).frozen 17
theorem LanRep.put (h : LanRep w3 F pl base room on l A c) (hg : (w3.alloc o).grownBy w4 (Value.slice A l.length c).ownBlock) (hown : w4.ownsRow base 48 6 (.slice A4 (l.length + 1) c4) (l.length + 1) (rawsC (l ++ [r])))
    (hr : w3.ownsRow base 5 1 r.sl r.cp.bs.length (u8sO r.cp.bs)) :
    LanRep (w4.setCell ⟨pl, 17, none⟩ (.slice A4 (l.length + 1) c4)) (fun g => F g ∨ (Value.slice A4 (l.length + 1) c4).ownBlock = some g ∨ r.sl.ownBlock = some g) pl base room on (l ++ [r]) A4 c4 := by
  have hsz : (w4.setCell ⟨pl, 17, none⟩ (.slice A4 (l.length + 1) c4)).heap.size = w4.heap.size := by simp [World.setCell]
  have hz34 : w3.heap.size ≤ w4.heap.size := by have := hg.size; simp at this; omega
  have hk : ∀ {v : Value} {m : Nat} {xs : List Value}, w3.ownsRow base 5 1 v m xs → (w4.setCell ⟨pl, 17, none⟩ (.slice A4 (l.length + 1) c4)).ownsRow base 5 1 v m xs := fun {v m xs} hv =>
    ownsRow_setCell_below ((hv.alloc o).kept hg (own_typesO (hv.alloc o) (h.own.alloc o) (by decide))) (a := ⟨pl, 17, none⟩) h.plb _
  refine ⟨?_, ?_, ?_, .inl h.hpl, ?_, ?_, h.plb, ?_, ?_⟩
  · have h2 := (LanPut.blk h hg).set_ 17 (.slice A4 (l.length + 1) c4)
    have e : (lanCells room on (.slice A l.length c)).setIfInBounds 17 (.slice A4 (l.length + 1) c4) = lanCells room on (.slice A4 (l ++ [r]).length c4) := by simp [lanCells]
    rw [← e]
    exact h2
  · have := ownsRow_setCell_below hown (a := ⟨pl, 17, none⟩) h.plb (.slice A4 (l.length + 1) c4)
    simpa using this
  · intro r' hr'
    rcases List.mem_append.1 hr' with hr' | hr'
    · exact hk (h.byt r' hr')
    · obtain rfl := List.mem_singleton.1 hr'
      exact hk hr
  · intro g hg'
    exact .inr (.inl (by simpa using hg'))
  · intro r' hr' g hg'
    rcases List.mem_append.1 hr' with hr' | hr'
    · exact .inl (h.hbyt r' hr' g hg')
    · obtain rfl := List.mem_singleton.1 hr'
      exact .inr (.inr hg')
  · intro g hg'
    rw [hsz]
    rcases hg' with h1 | h1 | h1
    · exact Nat.lt_of_lt_of_le (h.lt g h1) hz34
    · exact (own_baseO hown h1).2
    · exact Nat.lt_of_lt_of_le (own_baseO hr h1).2 hz34
  · rw [hsz]
    exact Nat.le_trans h.bz hz34
end

abbrev SendS (g : Nat) (lan frm to : Int) (A : Option Addr) (n c : Nat) (w' : World) : Prop :=
  w'.cell? ⟨g, 0, none⟩ = some (.int .i64 lan) ∧ w'.cell? ⟨g, 1, none⟩ = some (.int .i64 frm) ∧ w'.cell? ⟨g, 2, none⟩ = some (.int .i64 to) ∧ w'.cell? ⟨g, 3, none⟩ = some (.slice A n c)
theorem SendS.keep {g : Nat} {lan frm to : Int} {A : Option Addr} {n c : Nat} {w w' : World} (h : SendS g lan frm to A n c w) (hb : Below w.heap.size w w') (hg : g < w.heap.size) : SendS g lan frm to A n c w' := by
  obtain ⟨h0, h1, h2, h3⟩ := h
  obtain ⟨hc, _⟩ := bcell hb
  exact ⟨(hc _ _ hg).trans h0, (hc _ _ hg).trans h1, (hc _ _ hg).trans h2, (hc _ _ hg).trans h3⟩
theorem SendS.grown {g : Nat} {lan frm to : Int} {A : Option Addr} {n c : Nat} {w w' : World} {row : Option Nat} (h : SendS g lan frm to A n c w) (hb : w.grownBy w' row) (hg : g < w.heap.size) (hne : some g ≠ row) : SendS g lan frm to A n c w' := by
  obtain ⟨h0, h1, h2, h3⟩ := h
  have hc : ∀ o, w'.cell? ⟨g, o, none⟩ = w.cell? ⟨g, o, none⟩ := fun o => World.cell?_of_block (hb.block g hg hne)
  exact ⟨(hc _).trans h0, (hc _).trans h1, (hc _).trans h2, (hc _).trans h3⟩

def sendStep (room lan frm to : Int) (bs : List Int) (acc : List CpO) (id : Int) : List CpO :=
  if id = frm ∨ (to ≠ 0 ∧ to ≠ 16 ∧ to ≠ id) ∨ room ≤ acc.length then acc else acc ++ [⟨lan, frm, to, bs, id, false⟩]
def sendF (room lan frm to : Int) (bs : List Int) (ids : List Int) (acc : List CpO) : List CpO := ids.foldl (sendStep room lan frm to bs) acc
theorem sendF_snoc (room lan frm to : Int) (bs : List Int) (ids : List Int) (acc : List CpO) (id : Int) : sendF room lan frm to bs (ids ++ [id]) acc = sendStep room lan frm to bs (sendF room lan frm to bs ids acc) id := by simp [sendF]
theorem sendStep_ge (room lan frm to : Int) (bs : List Int) (acc : List CpO) (id : Int) : acc.length ≤ (sendStep room lan frm to bs acc id).length ∧ (sendStep room lan frm to bs acc id).length ≤ acc.length + 1 := by
  unfold sendStep; split <;> simp
theorem sendF_ge (room lan frm to : Int) (bs : List Int) (ids : List Int) : ∀ acc : List CpO, acc.length ≤ (sendF room lan frm to bs ids acc).length ∧ (sendF room lan frm to bs ids acc).length ≤ acc.length + ids.length := by
  induction ids with
  | nil => intro acc; simp [sendF]
  | cons id ids ih =>
    intro acc
    have h1 := ih (sendStep room lan frm to bs acc id)
    have h2 := sendStep_ge room lan frm to bs acc id
    simp only [sendF, List.foldl_cons, List.length_cons] at *
    omega

theorem raw_info : (Try.prog.info? 48).map (fun i => (i.zero, i.size, i.bytes)) = some (some (.agg #[.int .i64 0, .int .i64 0, .int .i64 0, .slice none 0 0, .int .i64 0, .bool false]), 6, 64) := by kernel_rfl

set_option maxRecDepth 20000 in
set_option maxHeartbeats 4000000 in
theorem send_any (F : Nat → Prop) (pl base : Nat) (room : Int) (on : Nat → Bool) (l0 : List Raw) (A0 : Option Addr) (c0 : Nat) (lan frm to : Int) (A : Option Addr) (n c : Nat) (bs : List Int) (w : World)
    (h : LanRep w F pl base room on l0 A0 c0) (hr : Reads w w.heap.size 1 A n (u8sO bs)) (hA : 0 < n → ∀ b off, A = some ⟨b, off, none⟩ → ¬ F b) (hnc : A = none → n = 0) (hn : n ≤ 100000) (hl0 : l0.length ≤ 100000) :
    Calls Try.prog 8 #[.pointer (some ⟨pl, 0, none⟩), .agg #[.int .i64 lan, .int .i64 frm, .int .i64 to, .slice A n c]] w fun r w' =>
      r = .returned (.int .i64 (((sendF room lan frm to bs (onL on 16) (l0.map (·.cp))).length : Int) - (l0.length : Int))) ∧ LanAt w F pl base room on (sendF room lan frm to bs (onL on 16) (l0.map (·.cp))) w' := by
  have hlen : bs.length = n := by have := hr.1; simpa [u8sO] using this
  subst hlen
  have Hh := hide h
  have HA := hide hA
  clear h hA
  go_enter Try.func8, Try.ntmps8
  go_wp2_with fail
  have hbl := Blk.new w 45 #[.int .i64 lan, .int .i64 frm, .int .i64 to, .slice A bs.length c]
  have hB1 := (Below.refl w.heap.size w).alloc (Nat.le_refl _) (.cells #[.int .i64 lan, .int .i64 frm, .int .i64 to, .slice A bs.length c] 45)
  generalize w.alloc (.cells #[.int .i64 lan, .int .i64 frm, .int .i64 to, .slice A bs.length c] 45) = W1 at hbl hB1 ⊢
  have HBL := hide hbl
  have HB1 := hide hB1
  clear hbl hB1
  refine (on_any pl room on _ _ (Hh.out.below HB1.out).box).mono ?_
  rintro r w2 ⟨A2, c2, rfl, hown2, hb2⟩
  have HO2 := hide hown2
  have HB2 := hide hb2
  clear hown2 hb2
  have hle16 := onL_le on 16
  obtain ⟨i0, hi, hz0, hz1, hz2⟩ := info_parts raw_info
  go_wp2_with fail
  have hwlt : w.heap.size < W1.heap.size := HBL.out.lt
  have HFw := hide (show ¬ F w.heap.size from fun hg => absurd (Hh.out.lt _ hg) (Nat.lt_irrefl _))
  have HR2 := hide ((Hh.out.below HB1.out).below HB2.out)
  have HB12 := hide (below_call HB1.out HB1.out.size HB2.out)
  obtain ⟨ids, hids⟩ : ∃ ids, ids = onL on 16 := ⟨_, rfl⟩
  rw [← hids] at HO2 hle16 ⊢
  have Hids := hide hids
  clear hids
  go_loopw [5, 11] (fun v i wr => ∃ (k m : Nat) (lk : List Raw) (Ak : Option Addr) (ck : Nat) (Fk : Nat → Prop), k ≤ ids.length ∧ i = .int .i64 k ∧ v = .int .i64 m ∧ Hid (lk.length = l0.length + m) ∧ m ≤ k ∧
    LanRep wr Fk pl base room on lk Ak ck ∧ Hid (lk.map (·.cp) = sendF room lan frm to bs (ids.take k) (l0.map (·.cp))) ∧ Hid (∀ g, Fk g → F g ∨ w2.heap.size ≤ g) ∧ Keeps F w2 wr) (fun _ i _ => ids.length - (intOf i).toNat)
  case atStart => exact ⟨0, 0, l0, A0, c0, F, Nat.zero_le _, rfl, rfl, rfl, Nat.le_refl _, HR2.out, rfl, fun g hg => .inl hg, Keeps.refl _ _⟩
  case round =>
    obtain ⟨k, m, lk, Ak, ck, Fk, hk, rfl, rfl, hlk, hmk, hR, hcp, hF, hK⟩ := hrel
    by_cases hlt : k < ids.length
    · have hlt2 : w.heap.size < w2.heap.size := Nat.lt_of_lt_of_le hwlt HB2.out.size
      have hbx : Blk wr w.heap.size 45 #[.int .i64 lan, .int .i64 frm, .int .i64 to, .slice A bs.length c] := hK.blk (HBL.out.below HB2.out hwlt) HFw.out
      have hoi := hK.own HO2.out (fun g hg hFg => by have := (own_baseO HO2.out hg).1; have := Hh.out.lt _ hFg; have := HB1.out.size; omega)
      obtain ⟨b, off, id, hA2, hbb, hid, hcell⟩ := (Reads.of_own hoi).int_atO hlt
      subst hA2
      have HT := hide (take_snocO _ _ _ hid)
      have e0 : wr.cell? ⟨w.heap.size, 0, none⟩ = some (.int .i64 lan) := by have := hbx.cell 0; simpa using this
      have e1 : wr.cell? ⟨w.heap.size, 1, none⟩ = some (.int .i64 frm) := by have := hbx.cell 1; simpa using this
      have e2 : wr.cell? ⟨w.heap.size, 2, none⟩ = some (.int .i64 to) := by have := hbx.cell 2; simpa using this
      have e3 : wr.cell? ⟨w.heap.size, 3, none⟩ = some (.slice A bs.length c) := by have := hbx.cell 3; simpa using this
      have hroom : wr.cell? ⟨pl, 0, none⟩ = some (.int .i64 room) := hR.box.cell 0
      have hsl : wr.cell? ⟨pl, 17, none⟩ = some (.slice Ak lk.length ck) := hR.box.cell 17
      have HR := hide hR
      have HK := hide hK
      clear hR hK hoi hid hbx
      have hll : lk.length ≤ 200000 := by rw [hlk.out]; omega
      have HS := hide (show sendF room lan frm to bs (ids.take (k + 1)) (l0.map (·.cp)) = sendStep room lan frm to bs (lk.map (·.cp)) id by rw [HT.out, sendF_snoc, hcp.out])
      have hcut : id = frm ∨ (id ≠ frm ∧ to ≠ 0 ∧ to ≠ 16 ∧ to ≠ id) ∨ (id ≠ frm ∧ (to = 0 ∨ to ≠ 0 ∧ to = 16 ∨ to ≠ 0 ∧ to ≠ 16 ∧ to = id)) := by omega
      rcases hcut with h1 | ⟨h1, h2, h3, h4⟩ | ⟨h1, hto⟩
      · have HN := hide (show sendF room lan frm to bs (ids.take (k + 1)) (l0.map (·.cp)) = lk.map (·.cp) by rw [HS.out, sendStep, if_pos (.inl h1)])
        have b1 : (id == frm) = true := by simpa using h1
        clear h1
        go_wp2_with fail
        go_quiet (fail)
        go_wp2
        go_roundw
        case rel => exact ⟨k + 1, m, lk, Ak, ck, Fk, by omega, by go_num, rfl, hlk, by omega, HR.out.drewN _, HN.out.symm, hF, HK.out.drewN _⟩
        case measure => simp [intOf]; omega
      · have HN := hide (show sendF room lan frm to bs (ids.take (k + 1)) (l0.map (·.cp)) = lk.map (·.cp) by rw [HS.out, sendStep, if_pos (.inr (.inl ⟨h2, h3, h4⟩))])
        have b1 : (id == frm) = false := by simpa using h1
        have b2 : (to != 0) = true := by simpa using h2
        have b3 : (to != 16) = true := by simpa using h3
        have b4 : (to != id) = true := by simpa using h4
        clear h1 h2 h3 h4
        go_wp2_with fail
        go_quiet (fail)
        go_wp2
        go_roundw
        case rel => exact ⟨k + 1, m, lk, Ak, ck, Fk, by omega, by go_num, rfl, hlk, by omega, HR.out.drewN _, HN.out.symm, hF, HK.out.drewN _⟩
        case measure => simp [intOf]; omega
      · have b1 : (id == frm) = false := by simpa using h1
        have hnot : ¬ (to ≠ 0 ∧ to ≠ 16 ∧ to ≠ id) := by omega
        by_cases hfull : room ≤ (lk.length : Int)
        · have HN := hide (show sendF room lan frm to bs (ids.take (k + 1)) (l0.map (·.cp)) = lk.map (·.cp) by rw [HS.out, sendStep, if_pos (.inr (.inr (by simpa using hfull)))])
          have b5 : decide (room ≤ (lk.length : Int)) = true := decide_eq_true hfull
          clear hfull hnot h1
          rcases hto with h2 | ⟨h2, h3⟩ | ⟨h2, h3, h4⟩
          · have b2 : (to != 0) = false := by simpa using h2
            clear h2
            go_wp2_with fail
            go_quiet (fail)
            go_wp2
            go_roundw
            case rel => exact ⟨k + 1, m, lk, Ak, ck, Fk, by omega, by go_num, rfl, hlk, by omega, HR.out.drewN _, HN.out.symm, hF, HK.out.drewN _⟩
            case measure => simp [intOf]; omega
          · have b2 : (to != 0) = true := by simpa using h2
            have b3 : (to != 16) = false := by simpa using h3
            clear h2 h3
            go_wp2_with fail
            go_quiet (fail)
            go_wp2
            go_roundw
            case rel => exact ⟨k + 1, m, lk, Ak, ck, Fk, by omega, by go_num, rfl, hlk, by omega, HR.out.drewN _, HN.out.symm, hF, HK.out.drewN _⟩
            case measure => simp [intOf]; omega
          · have b2 : (to != 0) = true := by simpa using h2
            have b3 : (to != 16) = true := by simpa using h3
            have b4 : (to != id) = false := by simpa using h4
            clear h2 h3 h4
            go_wp2_with fail
            go_quiet (fail)
            go_wp2
            go_roundw
            case rel => exact ⟨k + 1, m, lk, Ak, ck, Fk, by omega, by go_num, rfl, hlk, by omega, HR.out.drewN _, HN.out.symm, hF, HK.out.drewN _⟩
            case measure => simp [intOf]; omega
        · have HN := hide (show sendF room lan frm to bs (ids.take (k + 1)) (l0.map (·.cp)) = lk.map (·.cp) ++ [⟨lan, frm, to, bs, id, false⟩] by rw [HS.out, sendStep, if_neg (by simp only [List.length_map]; omega)])
          have b5 : decide (room ≤ (lk.length : Int)) = false := decide_eq_false hfull
          clear hnot h1
          rcases hto with h2 | ⟨h2, h3⟩ | ⟨h2, h3, h4⟩
          · have b2 : (to != 0) = false := by simpa using h2
            clear h2
            go_wp2_with fail
            go_quiet (fail)
            go_wp2_with fail
            have hRd : LanRep (wr.drewN nq) Fk pl base room on lk Ak ck := HR.out.drewN _
            have hKd : Keeps F w2 (wr.drewN nq) := HK.out.drewN _
            have hSd : SendS w.heap.size lan frm to A bs.length c (wr.drewN nq) := ⟨e0, e1, e2, e3⟩
            have hwd : w.heap.size < (wr.drewN nq).heap.size := Nat.lt_of_lt_of_le hlt2 hKd.size
            have hsd : (wr.drewN nq).cell? ⟨pl, 17, none⟩ = some (.slice Ak lk.length ck) := hsl
            clear e0 e1 e2 e3 hroom hsl
            generalize wr.drewN nq = W3 at hRd hKd hSd hwd hsd ⊢
            have hRdd : LanRep W3.drew Fk pl base room on lk Ak ck := hRd.below (Below.refl _ _).drew
            have hrd : Reads W3.drew W3.drew.heap.size 1 A bs.length (u8sO bs) := by
              refine Reads.drew ?_
              rcases Nat.eq_zero_or_pos bs.length with h0 | h0
              · exact ⟨by rw [u8s_lengthO]; omega, fun h => absurd h (by omega)⟩
              · exact ((hKd.reads (hr.below HB12.out) HB12.out.size (HA.out h0)).more (Nat.le_trans HB12.out.size hKd.size))
            have hpw : ¬ pl = w.heap.size := fun e => HFw.out (e ▸ Hh.out.hpl)
            obtain ⟨e0, e1, e2, e3⟩ := hSd
            go_region_law
              (first
                | (refine step_append_any _ (by rfl) _ _ 71 (by rfl) base 48 i0 _ 6 64 Try.underlying71 hi hz0 hz1 hz2 rfl (by omega) (.slice Ak lk.length ck) lk.length (rawsC lk) (by rfl) (hR5.own.alloc _) (w5.heap.size + 1) (some ⟨w5.heap.size, 0, none⟩) 1 1 (Raw.cells ⟨⟨lan, frm, to, bs, id, false⟩, A5, c5⟩) (by rfl) hnew5 (by simp [Raw.cells, Value.oneCell']) (by simp only [maxLen]; omega) (by omega) (by simp; have := hR5.bz; omega) ?_; intro A6 c6 w6 hown6 hg6 hloc6; have hf6 := LanPut.frozen hR5 hg6; have hc6 := LanPut.cell hR5 hg6)
                | (go_simp; go_at_call 29; refine (copied_anyO lan frm to id false A bs.length c bs _ hn hnc hrd).mono ?_; rintro r w5 ⟨A5, c5, rfl, ho5, hb5⟩; have hR5 := hRdd.below hb5; have hc5 : w5.cell? ⟨pl, 17, none⟩ = some (.slice Ak lk.length ck) := hR5.box.cell 17; have hc5a : (w5.alloc (.cells #[.int .i64 lan, .int .i64 frm, .int .i64 to, .slice A5 bs.length c5, .int .i64 id, .bool false] 48)).cell? ⟨pl, 17, none⟩ = some (.slice Ak lk.length ck) := (World.cell?_alloc_lt w5 _ ⟨pl, 17, none⟩ hR5.box.lt).trans hc5; have hnew5 : Reads (w5.alloc (.cells #[.int .i64 lan, .int .i64 frm, .int .i64 to, .slice A5 bs.length c5, .int .i64 id, .bool false] 48)) (w5.heap.size + 1) 6 (some ⟨w5.heap.size, 0, none⟩) 1 (Raw.cells ⟨⟨lan, frm, to, bs, id, false⟩, A5, c5⟩) := Reads.new w5 #[.int .i64 lan, .int .i64 frm, .int .i64 to, .slice A5 bs.length c5, .int .i64 id, .bool false] 48 1 6 rfl))
            all_goals
              have hput := hR5.put (r := ⟨⟨lan, frm, to, bs, id, false⟩, A5, c5⟩) hg6 (by rw [rawsC_append]; simpa [rawsC] using hown6) (own_monoO ho5 hRd.bz)
              have HF6 := hide (show ∀ g, (Fk g ∨ (Value.slice A6 (lk.length + 1) c6).ownBlock = some g ∨ (Value.slice A5 bs.length c5).ownBlock = some g) → F g ∨ w2.heap.size ≤ g by
                intro g hg
                rcases hg with hg | hg | hg
                · exact hF.out g hg
                · rcases hloc6 with h | h
                  · rw [h] at hg
                    exact hF.out g (hR5.hrow g hg)
                  · rw [h] at hg
                    have := hKd.size
                    have := hb5.size
                    simp at hg this
                    exact .inr (by omega)
                · have := (own_baseO ho5 hg).1
                  have := hKd.size
                  exact .inr (by simp at *; omega))
              have HK6 := hide ((((hKd.drew).below hb5).alloc (.cells #[.int .i64 lan, .int .i64 frm, .int .i64 to, .slice A5 bs.length c5, .int .i64 id, .bool false] 48)).grown hg6 (fun g hg => hF.out g (hR5.hrow g hg)) |>.setCell (p := ⟨pl, 17, none⟩) (.inl Hh.out.hpl) (.slice A6 (lk.length + 1) c6))
              have HP := hide hput
              clear hput hown6 hg6 hloc6 hf6 hc6 ho5 hb5 hR5 hc5 hc5a hnew5
              go_wp2
              go_roundw
              case rel => exact ⟨k + 1, m + 1, _, _, _, _, by omega, by go_num, by go_num, by (show _ = _; simp [hlk.out]; omega), by omega, HP.out, by (show _ = _; rw [HN.out]; simp), HF6.out, HK6.out⟩
              case measure => simp [intOf]; omega
          · have b2 : (to != 0) = true := by simpa using h2
            have b3 : (to != 16) = false := by simpa using h3
            clear h2 h3
            go_wp2_with fail
            go_quiet (fail)
            go_wp2_with fail
            have hRd : LanRep (wr.drewN nq) Fk pl base room on lk Ak ck := HR.out.drewN _
            have hKd : Keeps F w2 (wr.drewN nq) := HK.out.drewN _
            have hSd : SendS w.heap.size lan frm to A bs.length c (wr.drewN nq) := ⟨e0, e1, e2, e3⟩
            have hwd : w.heap.size < (wr.drewN nq).heap.size := Nat.lt_of_lt_of_le hlt2 hKd.size
            have hsd : (wr.drewN nq).cell? ⟨pl, 17, none⟩ = some (.slice Ak lk.length ck) := hsl
            clear e0 e1 e2 e3 hroom hsl
            generalize wr.drewN nq = W3 at hRd hKd hSd hwd hsd ⊢
            have hRdd : LanRep W3.drew Fk pl base room on lk Ak ck := hRd.below (Below.refl _ _).drew
            have hrd : Reads W3.drew W3.drew.heap.size 1 A bs.length (u8sO bs) := by
              refine Reads.drew ?_
              rcases Nat.eq_zero_or_pos bs.length with h0 | h0
              · exact ⟨by rw [u8s_lengthO]; omega, fun h => absurd h (by omega)⟩
              · exact ((hKd.reads (hr.below HB12.out) HB12.out.size (HA.out h0)).more (Nat.le_trans HB12.out.size hKd.size))
            have hpw : ¬ pl = w.heap.size := fun e => HFw.out (e ▸ Hh.out.hpl)
            obtain ⟨e0, e1, e2, e3⟩ := hSd
            go_region_law
              (first
                | (refine step_append_any _ (by rfl) _ _ 71 (by rfl) base 48 i0 _ 6 64 Try.underlying71 hi hz0 hz1 hz2 rfl (by omega) (.slice Ak lk.length ck) lk.length (rawsC lk) (by rfl) (hR5.own.alloc _) (w5.heap.size + 1) (some ⟨w5.heap.size, 0, none⟩) 1 1 (Raw.cells ⟨⟨lan, frm, to, bs, id, false⟩, A5, c5⟩) (by rfl) hnew5 (by simp [Raw.cells, Value.oneCell']) (by simp only [maxLen]; omega) (by omega) (by simp; have := hR5.bz; omega) ?_; intro A6 c6 w6 hown6 hg6 hloc6; have hf6 := LanPut.frozen hR5 hg6; have hc6 := LanPut.cell hR5 hg6)
                | (go_simp; go_at_call 29; refine (copied_anyO lan frm to id false A bs.length c bs _ hn hnc hrd).mono ?_; rintro r w5 ⟨A5, c5, rfl, ho5, hb5⟩; have hR5 := hRdd.below hb5; have hc5 : w5.cell? ⟨pl, 17, none⟩ = some (.slice Ak lk.length ck) := hR5.box.cell 17; have hc5a : (w5.alloc (.cells #[.int .i64 lan, .int .i64 frm, .int .i64 to, .slice A5 bs.length c5, .int .i64 id, .bool false] 48)).cell? ⟨pl, 17, none⟩ = some (.slice Ak lk.length ck) := (World.cell?_alloc_lt w5 _ ⟨pl, 17, none⟩ hR5.box.lt).trans hc5; have hnew5 : Reads (w5.alloc (.cells #[.int .i64 lan, .int .i64 frm, .int .i64 to, .slice A5 bs.length c5, .int .i64 id, .bool false] 48)) (w5.heap.size + 1) 6 (some ⟨w5.heap.size, 0, none⟩) 1 (Raw.cells ⟨⟨lan, frm, to, bs, id, false⟩, A5, c5⟩) := Reads.new w5 #[.int .i64 lan, .int .i64 frm, .int .i64 to, .slice A5 bs.length c5, .int .i64 id, .bool false] 48 1 6 rfl))
            all_goals
              have hput := hR5.put (r := ⟨⟨lan, frm, to, bs, id, false⟩, A5, c5⟩) hg6 (by rw [rawsC_append]; simpa [rawsC] using hown6) (own_monoO ho5 hRd.bz)
              have HF6 := hide (show ∀ g, (Fk g ∨ (Value.slice A6 (lk.length + 1) c6).ownBlock = some g ∨ (Value.slice A5 bs.length c5).ownBlock = some g) → F g ∨ w2.heap.size ≤ g by
                intro g hg
                rcases hg with hg | hg | hg
                · exact hF.out g hg
                · rcases hloc6 with h | h
                  · rw [h] at hg
                    exact hF.out g (hR5.hrow g hg)
                  · rw [h] at hg
                    have := hKd.size
                    have := hb5.size
                    simp at hg this
                    exact .inr (by omega)
                · have := (own_baseO ho5 hg).1
                  have := hKd.size
                  exact .inr (by simp at *; omega))
              have HK6 := hide ((((hKd.drew).below hb5).alloc (.cells #[.int .i64 lan, .int .i64 frm, .int .i64 to, .slice A5 bs.length c5, .int .i64 id, .bool false] 48)).grown hg6 (fun g hg => hF.out g (hR5.hrow g hg)) |>.setCell (p := ⟨pl, 17, none⟩) (.inl Hh.out.hpl) (.slice A6 (lk.length + 1) c6))
              have HP := hide hput
              clear hput hown6 hg6 hloc6 hf6 hc6 ho5 hb5 hR5 hc5 hc5a hnew5
              go_wp2
              go_roundw
              case rel => exact ⟨k + 1, m + 1, _, _, _, _, by omega, by go_num, by go_num, by (show _ = _; simp [hlk.out]; omega), by omega, HP.out, by (show _ = _; rw [HN.out]; simp), HF6.out, HK6.out⟩
              case measure => simp [intOf]; omega
          · have b2 : (to != 0) = true := by simpa using h2
            have b3 : (to != 16) = true := by simpa using h3
            have b4 : (to != id) = false := by simpa using h4
            clear h2 h3 h4
            go_wp2_with fail
            go_quiet (fail)
            go_wp2_with fail
            have hRd : LanRep (wr.drewN nq) Fk pl base room on lk Ak ck := HR.out.drewN _
            have hKd : Keeps F w2 (wr.drewN nq) := HK.out.drewN _
            have hSd : SendS w.heap.size lan frm to A bs.length c (wr.drewN nq) := ⟨e0, e1, e2, e3⟩
            have hwd : w.heap.size < (wr.drewN nq).heap.size := Nat.lt_of_lt_of_le hlt2 hKd.size
            have hsd : (wr.drewN nq).cell? ⟨pl, 17, none⟩ = some (.slice Ak lk.length ck) := hsl
            clear e0 e1 e2 e3 hroom hsl
            generalize wr.drewN nq = W3 at hRd hKd hSd hwd hsd ⊢
            have hRdd : LanRep W3.drew Fk pl base room on lk Ak ck := hRd.below (Below.refl _ _).drew
            have hrd : Reads W3.drew W3.drew.heap.size 1 A bs.length (u8sO bs) := by
              refine Reads.drew ?_
              rcases Nat.eq_zero_or_pos bs.length with h0 | h0
              · exact ⟨by rw [u8s_lengthO]; omega, fun h => absurd h (by omega)⟩
              · exact ((hKd.reads (hr.below HB12.out) HB12.out.size (HA.out h0)).more (Nat.le_trans HB12.out.size hKd.size))
            have hpw : ¬ pl = w.heap.size := fun e => HFw.out (e ▸ Hh.out.hpl)
            obtain ⟨e0, e1, e2, e3⟩ := hSd
            go_region_law
              (first
                | (refine step_append_any _ (by rfl) _ _ 71 (by rfl) base 48 i0 _ 6 64 Try.underlying71 hi hz0 hz1 hz2 rfl (by omega) (.slice Ak lk.length ck) lk.length (rawsC lk) (by rfl) (hR5.own.alloc _) (w5.heap.size + 1) (some ⟨w5.heap.size, 0, none⟩) 1 1 (Raw.cells ⟨⟨lan, frm, to, bs, id, false⟩, A5, c5⟩) (by rfl) hnew5 (by simp [Raw.cells, Value.oneCell']) (by simp only [maxLen]; omega) (by omega) (by simp; have := hR5.bz; omega) ?_; intro A6 c6 w6 hown6 hg6 hloc6; have hf6 := LanPut.frozen hR5 hg6; have hc6 := LanPut.cell hR5 hg6)
                | (go_simp; go_at_call 29; refine (copied_anyO lan frm to id false A bs.length c bs _ hn hnc hrd).mono ?_; rintro r w5 ⟨A5, c5, rfl, ho5, hb5⟩; have hR5 := hRdd.below hb5; have hc5 : w5.cell? ⟨pl, 17, none⟩ = some (.slice Ak lk.length ck) := hR5.box.cell 17; have hc5a : (w5.alloc (.cells #[.int .i64 lan, .int .i64 frm, .int .i64 to, .slice A5 bs.length c5, .int .i64 id, .bool false] 48)).cell? ⟨pl, 17, none⟩ = some (.slice Ak lk.length ck) := (World.cell?_alloc_lt w5 _ ⟨pl, 17, none⟩ hR5.box.lt).trans hc5; have hnew5 : Reads (w5.alloc (.cells #[.int .i64 lan, .int .i64 frm, .int .i64 to, .slice A5 bs.length c5, .int .i64 id, .bool false] 48)) (w5.heap.size + 1) 6 (some ⟨w5.heap.size, 0, none⟩) 1 (Raw.cells ⟨⟨lan, frm, to, bs, id, false⟩, A5, c5⟩) := Reads.new w5 #[.int .i64 lan, .int .i64 frm, .int .i64 to, .slice A5 bs.length c5, .int .i64 id, .bool false] 48 1 6 rfl))
            all_goals
              have hput := hR5.put (r := ⟨⟨lan, frm, to, bs, id, false⟩, A5, c5⟩) hg6 (by rw [rawsC_append]; simpa [rawsC] using hown6) (own_monoO ho5 hRd.bz)
              have HF6 := hide (show ∀ g, (Fk g ∨ (Value.slice A6 (lk.length + 1) c6).ownBlock = some g ∨ (Value.slice A5 bs.length c5).ownBlock = some g) → F g ∨ w2.heap.size ≤ g by
                intro g hg
                rcases hg with hg | hg | hg
                · exact hF.out g hg
                · rcases hloc6 with h | h
                  · rw [h] at hg
                    exact hF.out g (hR5.hrow g hg)
                  · rw [h] at hg
                    have := hKd.size
                    have := hb5.size
                    simp at hg this
                    exact .inr (by omega)
                · have := (own_baseO ho5 hg).1
                  have := hKd.size
                  exact .inr (by simp at *; omega))
              have HK6 := hide ((((hKd.drew).below hb5).alloc (.cells #[.int .i64 lan, .int .i64 frm, .int .i64 to, .slice A5 bs.length c5, .int .i64 id, .bool false] 48)).grown hg6 (fun g hg => hF.out g (hR5.hrow g hg)) |>.setCell (p := ⟨pl, 17, none⟩) (.inl Hh.out.hpl) (.slice A6 (lk.length + 1) c6))
              have HP := hide hput
              clear hput hown6 hg6 hloc6 hf6 hc6 ho5 hb5 hR5 hc5 hc5a hnew5
              go_wp2
              go_roundw
              case rel => exact ⟨k + 1, m + 1, _, _, _, _, by omega, by go_num, by go_num, by (show _ = _; simp [hlk.out]; omega), by omega, HP.out, by (show _ = _; rw [HN.out]; simp), HF6.out, HK6.out⟩
              case measure => simp [intOf]; omega
    · have hke : ids.take k = ids := List.take_of_length_le (by omega)
      have hcp2 := hcp.out
      rw [hke] at hcp2
      have HC := hide hcp2
      clear hcp2 hke
      have HL : Hid (LanAt w F pl base room on (sendF room lan frm to bs ids (l0.map (·.cp))) wr) := by
        refine ⟨Fk, lk, Ak, ck, hR, HC.out, fun g hg => ?_, (Keeps.of_below (F := F) HB12.out).trans hK (fun g hg => .inl hg)⟩
        rcases hF.out g hg with h | h
        · exact .inl h
        · exact .inr (by have := HB12.out.size; omega)
      have HM := hide (show (m : Int) = ((sendF room lan frm to bs ids (l0.map (·.cp))).length : Int) - (l0.length : Int) by rw [← HC.out, List.length_map, hlk.out]; omega)
      go_wp2
      go_ret
      rw [← Hids.out]
      exact ⟨ret_int HM.out, HL.out⟩
end Go.Proofs.Ytdenfgnkbfbpmaa
