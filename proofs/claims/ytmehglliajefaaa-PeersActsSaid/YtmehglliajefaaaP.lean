/-
  The reference's Hear, taken: the insertion, then what both ways share.
-/
import Derived.Test.YtmehglliajefaaaO
import Derived.Deep.DeepCutAuto
namespace Go.Proofs.Ytmehglliajefaaa
open Go.RowKit

theorem okA_pos {l a : Int} (h0 : 0 ≤ l) (h : okA l a) : 0 ≤ a := by
  unfold okA at h
  omega

theorem two_new (w : World) (t1 t2 : TypeId) (a1 a2 : Array Value) : Blk ((w.alloc (.cells a1 t1)).alloc (.cells a2 t2)) w.heap.size t1 a1 ∧
    Blk ((w.alloc (.cells a1 t1)).alloc (.cells a2 t2)) (w.heap.size + 1) t2 a2 ∧ Below w.heap.size w ((w.alloc (.cells a1 t1)).alloc (.cells a2 t2)) := by
  have z1 : (w.alloc (.cells a1 t1)).heap.size = w.heap.size + 1 := by simp
  exact ⟨(Blk.new w t1 a1).alloc _, z1 ▸ Blk.new (w.alloc (.cells a1 t1)) t2 a2, ((Below.refl _ _).alloc (Nat.le_refl _) _).alloc (by simp) _⟩

theorem keeps_or {w : World} (o r : Nat) (v2 v3 v4 u0 u1 u2 u3 u4 : Value) : Keeps (fun g => g = o ∨ g = r) w (set5 (((w.setCell ⟨o, 2, none⟩ v2).setCell ⟨o, 3, none⟩ v3).setCell ⟨o, 4, none⟩ v4) r u0 u1 u2 u3 u4) :=
  keeps_five ((((Keeps.refl _ w).setCell (p := ⟨o, 2, none⟩) (.inl (.inl rfl)) _).setCell (p := ⟨o, 3, none⟩) (.inl (.inl rfl)) _).setCell (p := ⟨o, 4, none⟩) (.inl (.inl rfl)) _) (.inl (.inr rfl)) _ _ _ _ _
theorem heard_close {F F' : Nat → Prop} {pl base : Nat} {me lan : Int} {l l' : List PV} {A : Option Addr} {c : Nat} {w W3 : World} {o r : Nat} {v2 v3 v4 u0 u1 u2 u3 u4 : Value} (hF : ∀ g, F' g → F g ∨ w.heap.size ≤ g) (hne : ∀ g, F' g → ¬ (g = o ∨ g = r)) (hP : RefP W3 F' pl base me lan l A c) (hl : l = l') (hK : Keeps F w W3) (ho : w.heap.size ≤ o) (hr : w.heap.size ≤ r) :
    RefPAt w F pl base me lan l' (set5 (((W3.setCell ⟨o, 2, none⟩ v2).setCell ⟨o, 3, none⟩ v3).setCell ⟨o, 4, none⟩ v4) r u0 u1 u2 u3 u4) := by
  subst hl
  exact ⟨F', A, c, hP.keep (keeps_or o r v2 v3 v4 u0 u1 u2 u3 u4) hne, hF, hK.trans (G := fun g => g = o ∨ g = r) (keeps_or o r v2 v3 v4 u0 u1 u2 u3 u4) (fun g hg => .inr (by omega))⟩
theorem blk_far3 {w : World} {o r : Nat} {t : TypeId} {cs : Array Value} (h : Blk w r t cs) (hne : r ≠ o) (v2 v3 v4 : Value) : Blk (((w.setCell ⟨o, 2, none⟩ v2).setCell ⟨o, 3, none⟩ v3).setCell ⟨o, 4, none⟩ v4) r t cs :=
  ((h.far (p := ⟨o, 2, none⟩) hne v2).far (p := ⟨o, 3, none⟩) hne v3).far (p := ⟨o, 4, none⟩) hne v4

def HeardPost (F : Nat → Prop) (pl base : Nat) (me lan : Int) (l : List PV) (fr : Bool) (prio dr bdr now : Int) (k : Nat) (x : PV) (seen : List Int) (w : World) (r : Ending) (w' : World) : Prop :=
  r = .returned (heardV true fr (heardF me prio dr bdr now seen x).two (x.two && !(heardF me prio dr bdr now seen x).two) (decide (claimsF x ≠ claimsF (heardF me prio dr bdr now seen x)))) ∧
      RefPAt w F pl base me lan (l.set k (heardF me prio dr bdr now seen x)) w'
def newP (frm : Int) : PV := ⟨frm, 0, 0, 0, 1, false, 0⟩
/-- the insertion, after k of the list -/
def insS (frm : Int) (l : List PV) : List PV × Bool :=
  l.foldl (fun s y => if (!s.2 && decide (frm < y.id)) = true then (s.1 ++ [newP frm, y], true) else (s.1 ++ [y], s.2)) ([], false)
theorem insS_snoc (frm : Int) (l : List PV) (y : PV) : insS frm (l ++ [y]) = if (!(insS frm l).2 && decide (frm < y.id)) = true then ((insS frm l).1 ++ [newP frm] ++ [y], true) else ((insS frm l).1 ++ [y], (insS frm l).2) := by
  simp only [insS, List.foldl_append, List.foldl_cons, List.foldl_nil, List.append_assoc, List.cons_append, List.nil_append]
theorem insS_le (frm : Int) (l : List PV) : (insS frm l).1.length ≤ 2 * l.length := by
  unfold insS
  suffices ∀ (l : List PV) (s : List PV × Bool), (l.foldl (fun s y => if (!s.2 && decide (frm < y.id)) = true then (s.1 ++ [newP frm, y], true) else (s.1 ++ [y], s.2)) s).1.length ≤ s.1.length + 2 * l.length by simpa using this l ([], false)
  intro l
  induction l with
  | nil => intro s; simp
  | cons y l ih =>
    intro s
    rw [List.foldl_cons]
    refine Nat.le_trans (ih _) ?_
    split <;> simp <;> omega
def insF (frm : Int) (l : List PV) : List PV := if (insS frm l).2 = true then (insS frm l).1 else (insS frm l).1 ++ [newP frm]

theorem findI_id (l : List PV) (id : Int) (k : Nat) (x : PV) (hk : findI l id = k) (hx : l[k]? = some x) : x.id = id := by
  unfold findI at hk
  split at hk
  · rename_i j hj
    obtain rfl : j = k := by omega
    obtain ⟨hlt, h1, _⟩ := List.findIdx?_eq_some_iff_getElem.1 hj
    have := (List.getElem?_eq_some_iff.1 hx).2
    rw [← this]
    simpa using h1
  · omega
theorem bears_ff (id p d b p' d' b' : Int) (s s' a a' : Int) : decide (claimsF ⟨id, p, d, b, s, false, a⟩ ≠ claimsF ⟨id, p', d', b', s', false, a'⟩) = false := by simp [claimsF]
theorem bears_tf (id p d b p' d' b' : Int) (s s' a a' : Int) : decide (claimsF ⟨id, p, d, b, s, true, a⟩ ≠ claimsF ⟨id, p', d', b', s', false, a'⟩) = true := by simp [claimsF]
theorem bears_ft (id p d b p' d' b' : Int) (s s' a a' : Int) : decide (claimsF ⟨id, p, d, b, s, false, a⟩ ≠ claimsF ⟨id, p', d', b', s', true, a'⟩) = true := by simp [claimsF]
theorem bears_tt (id p d b p' d' b' : Int) (s s' a a' : Int) : decide (claimsF ⟨id, p, d, b, s, true, a⟩ ≠ claimsF ⟨id, p', d', b', s', true, a'⟩) = ((p != p') || (((d == id) != (d' == id)) || ((b == id) != (b' == id)))) := by
  rw [Bool.eq_iff_iff]
  simp only [claimsF, if_true, decide_eq_true_eq, ne_eq, Prod.mk.injEq, true_and, Bool.or_eq_true, bne_iff_ne]
  by_cases h1 : p = p' <;> by_cases h2 : (d == id) = (d' == id) <;> by_cases h3 : (b == id) = (b' == id) <;> simp [h1, h2, h3]

theorem fresh_meet {F : Nat → Prop} {pl base : Nat} {me lan : Int} {l l' : List PV} {A0 A' : Option Addr} {c0 c' : Nat} {w2 W5 wr : World} {o : Nat} {cs : Array Value} (hP5 : RefP W5 F pl base me lan l A0 c0) (hR : RefP wr F pl base me lan l A0 c0) (hb : Below W5.heap.size W5 wr)
    (hown : wr.ownsRow W5.heap.size 47 7 (.slice A' l'.length c') l'.length (rowC PV.cells l')) (hK5 : Keeps (fun g => g = o) w2 W5) (hO : Blk W5 o 29 cs) (_ho : o < W5.heap.size) (hof : ¬ F o) :
    ∃ (F' : Nat → Prop) (A9 : Option Addr) (c1 : Nat), Hid (RefP (wr.setCell ⟨pl, 2, none⟩ (.slice A' l'.length c')) F' pl base me lan l' A9 c1) ∧ Hid (∀ g, F' g → F g ∨ w2.heap.size ≤ g) ∧ Hid (Keeps (fun g => F g ∨ g = o) w2 (wr.setCell ⟨pl, 2, none⟩ (.slice A' l'.length c'))) ∧ Hid (Blk (wr.setCell ⟨pl, 2, none⟩ (.slice A' l'.length c')) o 29 cs) := by
  refine ⟨_, A', c', hR.setL (own_mono hown hP5.bz), fun g hg => ?_, ?_, (hO.below hb hO.lt).far (p := ⟨pl, 2, none⟩) (fun e => hof (by have := hP5.hpl; rw [show o = pl from e]; exact this)) _⟩
  · rcases hg with hg | hg
    · exact .inl hg
    · exact .inr (Nat.le_trans hK5.size (own_base hown hg).1)
  · exact ((hK5.mono (G := fun g => F g ∨ g = o) (fun g hg _ => .inr hg)).below hb).setCell (p := ⟨pl, 2, none⟩) (.inl (.inl hP5.hpl)) _

set_option maxRecDepth 20000 in
set_option maxHeartbeats 8000000 in
theorem refHear_yes (F : Nat → Prop) (pl base : Nat) (me lan : Int) (l : List PV) (A0 : Option Addr) (c0 : Nat) (frm prio dr bdr now : Int) (A : Option Addr) (n c k : Nat) (fr : Bool) (l' : List PV) (x : PV) (seen : List Int) (w : World) (h : RefP w F pl base me lan l A0 c0) (hl : l.length ≤ 40000) (hl0 : 0 ≤ lan) (hl1 : lan ≤ 3)
    (ht : takes me lan frm 2 8 dr bdr) (hcase : (fr = false ∧ 0 ≤ findI l frm ∧ l' = l) ∨ (fr = true ∧ findI l frm < 0 ∧ l' = insF frm l)) (hk : findI l' frm = k) (hx : l'[k]? = some x) (hr : Reads w w.heap.size 1 A n (ints seen)) (hA : 0 < n → ∀ b off, A = some ⟨b, off, none⟩ → ¬ F b) (hn : n ≤ 100000) :
    Calls Try.prog 11 #[.pointer (some ⟨pl, 0, none⟩), .int .i64 frm, .agg #[.int .i64 2, .int .i64 8, .int .i64 prio, .int .i64 dr, .int .i64 bdr, .slice A n c], .int .i64 now] w (HeardPost F pl base me lan l' fr prio dr bdr now k x seen w) := by
  have hl'2 : l'.length ≤ 100000 := by
    rcases hcase with ⟨_, _, rfl⟩ | ⟨_, _, rfl⟩
    · omega
    · have := insS_le frm l
      unfold insF
      split
      · omega
      · simp; omega
  have HD := hide (decide_eq_true ht)
  have Hh := hide h
  have HK := hide hk
  have HX := hide hx
  have HRd := hide hr
  have hdr0 : 0 ≤ dr := okA_pos hl0 ht.2.2.2.2.2.1
  have hbdr0 : 0 ≤ bdr := okA_pos hl0 ht.2.2.2.2.2.2
  clear h ht hk hx hr
  go_enter Try.func11, Try.ntmps11
  have HB2 := fun (o1 o2 : Obj) => hide (((Below.refl w.heap.size w).alloc (Nat.le_refl _) o1).alloc (by simp) o2)
  have hz : ∀ o1, (w.alloc o1).heap.size = w.heap.size + 1 := fun o1 => by simp
  have HBL := fun o1 cs => hide ((hz o1) ▸ Blk.new (w.alloc o1) 29 cs)
  have HBH := fun o2 cs => hide ((Blk.new w 24 cs).alloc o2)
  clear hz
  go_wp2_with fail
  refine (takes_any F pl base me lan l A0 c0 frm 2 8 prio dr bdr A n c _ (Hh.out.below (HB2 _ _).out) hl0 hl1).mono ?_
  rintro r w1 ⟨rfl, hb1⟩
  have HB := hide (below_call (HB2 _ _).out (HB2 _ _).out.size hb1)
  have HR := hide ((HBL (.cells #[.int .i64 2, .int .i64 8, .int .i64 prio, .int .i64 dr, .int .i64 bdr, .slice A n c] 24) #[.bool false, .bool false, .bool false, .bool false, .bool false]).out.below hb1 (by simp))
  have HI := hide ((HBH (.cells #[.bool false, .bool false, .bool false, .bool false, .bool false] 29) #[.int .i64 2, .int .i64 8, .int .i64 prio, .int .i64 dr, .int .i64 bdr, .slice A n c]).out.below hb1 (by simp; omega))
  clear hb1
  rw [HD.out]
  go_wp2_with fail
  have hA0 := below_new w1 (.cells #[.bool true, .bool false, .bool false, .bool false, .bool false] 29)
  have HO := hide (Blk.new w1 29 #[.bool true, .bool false, .bool false, .bool false, .bool false])
  have hos : w.heap.size + 2 ≤ w1.heap.size := by have := HR.out.lt; omega
  have HR0 := hide (HR.out.below hA0 HR.out.lt)
  have HI0 := hide (HI.out.below hA0 HI.out.lt)
  have HB0 := hide (below_call HB.out HB.out.size hA0)
  have HP0 := hide (Hh.out.below HB0.out)
  clear HR HI HB hA0 HB2 HBL HBH
  generalize ho : w1.heap.size = o at hos HO ⊢
  generalize w1.alloc (.cells #[.bool true, .bool false, .bool false, .bool false, .bool false] 29) = W0 at HO HR0 HI0 HB0 HP0 ⊢
  clear ho
  refine (find_any F pl base me lan l A0 c0 frm _ HP0.out (by omega)).mono ?_
  rintro r w2 ⟨rfl, rfl⟩
  have HLT := hide Hh.out.lt
  have HAF := hide hA
  clear hA
  go_upto_if 26 with (fail)
  generalize hfb : decide (findI l frm < 0) = fb
  have HFB := hide hfb
  clear hfb
  go_cut [] (fun wc => ∃ (F' : Nat → Prop) (A' : Option Addr) (c' : Nat), Hid (RefP wc F' pl base me lan l' A' c') ∧ Hid (∀ g, F' g → F g ∨ w2.heap.size ≤ g) ∧ Hid (Keeps (fun g => F g ∨ g = o) w2 wc) ∧ Hid (Blk wc o 29 #[.bool true, .bool fr, .bool false, .bool false, .bool false]))
  case first =>
    rcases hcase with ⟨h1, hf, h3⟩ | ⟨h1, hf, h3⟩
    · subst h1 h3
      obtain rfl : fb = false := by rw [← HFB.out]; simpa using hf
      clear hf
      have HF0 := hide (Keeps.refl (fun g => F g ∨ g = o) w2)
      go_wp2_with fail
      go_meet
      case rel => exact ⟨F, A0, c0, HP0, fun g hg => .inl hg, HF0, HO⟩
    · obtain rfl : fb = true := by rw [← HFB.out]; simpa using hf
      clear hf
      have H3 := hide h3
      obtain ⟨i0, hi, hz0, hz1, hz2⟩ := info_parts peer_info
      have hof : ¬ F o := fun h => by have := HLT.out o h; omega
      subst h1
      clear h3
      obtain ⟨t0, t1, t2, t3, t4, tf⟩ := HO.out.cells5
      go_wp2_with fail
      have HO5 := hide (HO.out.set_ 1 (.bool true))
      have HK5 := hide ((Keeps.refl (fun g => g = o) w2).setCell (p := ⟨o, 1, none⟩) (.inl rfl) (.bool true))
      have HP5 := hide (HP0.out.keep HK5.out (fun g hg e => by subst e; exact hof hg))
      have HO5' : Hid (Blk (w2.setCell ⟨o, 1, none⟩ (.bool true)) o 29 #[.bool true, .bool true, .bool false, .bool false, .bool false]) := HO5
      clear HO5 t0 t1 t2 t3 t4 tf
      generalize w2.setCell ⟨o, 1, none⟩ (.bool true) = W5 at HO5' HK5 HP5 ⊢
      go_loopw [10, 11, 12] (fun v d i wr => ∃ (q : Nat) (A1 : Option Addr) (cc : Nat), q ≤ l.length ∧ i = .int .i64 q ∧ v = .slice A1 (insS frm (l.take q)).1.length cc ∧ d = .bool (insS frm (l.take q)).2 ∧ Hid (wr.ownsRow W5.heap.size 47 7 (.slice A1 (insS frm (l.take q)).1.length cc) (insS frm (l.take q)).1.length (rowC PV.cells (insS frm (l.take q)).1)) ∧ Hid (Below W5.heap.size W5 wr)) (fun _ _ i _ => l.length - (intOf i).toNat)
      case atStart => exact ⟨0, none, 0, Nat.zero_le _, rfl, rfl, rfl, World.ownsRow_nil _ _ _ _, Below.refl _ _⟩
      case round =>
        obtain ⟨q, A1, cc, hq, rfl, rfl, rfl, hown, hb⟩ := hrel
        have HR := hide (HP5.out.below hb.out)
        obtain ⟨_, _, hsl⟩ := HR.out.cells
        have hle := insS_le frm (l.take q)
        have hlt2 := List.length_take_le q l
        have hbs := hb.out.size
        by_cases hlt : q < l.length
        · obtain ⟨bb, y, hA, hy, hat⟩ := HR.out.at_ hlt
          have HE := hide (show insS frm (l.take (q + 1)) = _ by rw [take_snoc _ _ _ hy, insS_snoc])
          obtain ⟨id1, prio1, dr1, bdr1, state1, two1, at1⟩ := y
          have d0 : wr.cell? ⟨bb, q * 7, none⟩ = some (.int .i64 id1) := hat 0 _ rfl
          subst hA
          dsimp only at HE
          have HAT := hide hat
          have HY := hide hy
          generalize insS frm (l.take q) = md at hown HE hle ⊢
          obtain ⟨m, d⟩ := md
          dsimp only at hown HE hle ⊢
          have hone := PV.cells_one (newP frm)
          have hone2 := PV.cells_one ⟨id1, prio1, dr1, bdr1, state1, two1, at1⟩
          clear hat hy
          have hcut3 : (d = true ∨ d = false ∧ ¬ frm < id1) ∨ d = false ∧ frm < id1 := by
            cases d
            · by_cases h : frm < id1
              · exact .inr ⟨rfl, h⟩
              · exact .inl (.inr ⟨rfl, h⟩)
            · exact .inl (.inl rfl)
          obtain ⟨e0, e1, e2, e3, e4, e5, e6⟩ := (⟨HAT.out 0 _ rfl, HAT.out 1 _ rfl, HAT.out 2 _ rfl, HAT.out 3 _ rfl, HAT.out 4 _ rfl, HAT.out 5 _ rfl, HAT.out 6 _ rfl⟩ : wr.cell? ⟨bb, q * 7, none⟩ = some (.int .i64 id1) ∧ wr.cell? ⟨bb, q * 7 + 1, none⟩ = some (.int .i64 prio1) ∧ wr.cell? ⟨bb, q * 7 + 2, none⟩ = some (.int .i64 dr1) ∧ wr.cell? ⟨bb, q * 7 + 3, none⟩ = some (.int .i64 bdr1) ∧ wr.cell? ⟨bb, q * 7 + 4, none⟩ = some (.int .i64 state1) ∧ wr.cell? ⟨bb, q * 7 + 5, none⟩ = some (.bool two1) ∧ wr.cell? ⟨bb, q * 7 + 6, none⟩ = some (.int .i64 at1))
          rcases hcut3 with hc | ⟨hd, hc⟩
          · have HE2 := hide (show insS frm (l.take (q + 1)) = (m ++ [⟨id1, prio1, dr1, bdr1, state1, two1, at1⟩], d) by
              rw [HE.out, if_neg]
              rcases hc with rfl | ⟨rfl, h⟩
              · simp
              · simpa using h)
            clear HE
            rcases hc with rfl | ⟨rfl, hc⟩
            all_goals
              go_wp2_with (first
                | (at_builtin
                   refine wpList_append_any _ rfl (.tmp 56) (.tmp 64) 31 rfl W5.heap.size 47 i0 _ 7 56 Try.underlying31 hi hz0 hz1 hz2 rfl (by omega) (.slice A1 m.length cc) m.length (rowC PV.cells m) rfl
                     (hown.out.alloc _) (wr.heap.size + 1) (some ⟨wr.heap.size, 0, none⟩) 1 1 (PV.cells ⟨id1, prio1, dr1, bdr1, state1, two1, at1⟩) rfl (Reads.new wr (PV.arr ⟨id1, prio1, dr1, bdr1, state1, two1, at1⟩) 47 1 7 rfl) hone2 (by simp only [maxLen]; omega) (by omega) (by simp; omega) ?_
                   intro A3 c3 w3 hown3 hg3 hloc3
                   have HB3 := hide ((hb.out.alloc hb.out.size (.cells (PV.arr ⟨id1, prio1, dr1, bdr1, state1, two1, at1⟩) 47)).grown hg3 (by simp; omega) (fun g hg => (own_base hown.out hg).1))
                   have HO3 := hide hown3
                   clear hown3 hg3 hloc3))
              go_roundw
              case rel => exact ⟨q + 1, A3, c3, by omega, by go_num, by rw [HE2.out]; simp, by rw [HE2.out], by rw [HE2.out, rowC_append, List.length_append]; apply hide; simpa [rowC] using HO3.out, HB3⟩
              case measure => simp [intOf]; omega
          · subst hd
            have HE2 := hide (show insS frm (l.take (q + 1)) = (m ++ [newP frm] ++ [⟨id1, prio1, dr1, bdr1, state1, two1, at1⟩], true) by
              rw [HE.out, if_pos (by simpa using hc)])
            clear HE
            go_upto_region 14 with (first
                | (at_builtin
                   refine wpList_append_any _ rfl (.tmp 51) (.tmp 54) 31 rfl W5.heap.size 47 i0 _ 7 56 Try.underlying31 hi hz0 hz1 hz2 rfl (by omega) (.slice A1 m.length cc) m.length (rowC PV.cells m) rfl
                     (hown.out.alloc _) (wr.heap.size + 1) (some ⟨wr.heap.size, 0, none⟩) 1 1 (PV.cells (newP frm)) rfl (Reads.new wr (PV.arr (newP frm)) 47 1 7 rfl) hone (by simp only [maxLen]; omega) (by omega) (by simp; omega) ?_
                   intro A3 c3 w3 hown3 hg3 hloc3
                   have HB3 := hide ((hb.out.alloc hb.out.size (.cells (PV.arr (newP frm)) 47)).grown hg3 (by simp; omega) (fun g hg => (own_base hown.out hg).1))
                   have HO3 := hide hown3
                   clear hown3 hg3 hloc3))
            have HR3 := hide (HP5.out.below HB3.out)
            obtain ⟨_, _, hsl3⟩ := HR3.out.cells
            obtain ⟨bb', y', hA', hy', hat'⟩ := HR3.out.at_ hlt
            simp only [Option.some.injEq, Addr.mk.injEq, and_true] at hA'
            subst hA'
            have hyy := Option.some.inj (hy'.symm.trans HY.out)
            subst hyy
            obtain ⟨f0, f1, f2, f3, f4, f5, f6⟩ := (⟨hat' 0 _ rfl, hat' 1 _ rfl, hat' 2 _ rfl, hat' 3 _ rfl, hat' 4 _ rfl, hat' 5 _ rfl, hat' 6 _ rfl⟩ : w3.cell? ⟨bb, q * 7, none⟩ = some (.int .i64 id1) ∧ w3.cell? ⟨bb, q * 7 + 1, none⟩ = some (.int .i64 prio1) ∧ w3.cell? ⟨bb, q * 7 + 2, none⟩ = some (.int .i64 dr1) ∧ w3.cell? ⟨bb, q * 7 + 3, none⟩ = some (.int .i64 bdr1) ∧ w3.cell? ⟨bb, q * 7 + 4, none⟩ = some (.int .i64 state1) ∧ w3.cell? ⟨bb, q * 7 + 5, none⟩ = some (.bool two1) ∧ w3.cell? ⟨bb, q * 7 + 6, none⟩ = some (.int .i64 at1))
            have hbs3 := HB3.out.size
            clear hat' hy' hsl e0 e1 e2 e3 e4 e5 e6 d0 HR
            go_wp2_with (first
                | (at_builtin
                   refine wpList_append_any _ rfl (.tmp 56) (.tmp 64) 31 rfl W5.heap.size 47 i0 _ 7 56 Try.underlying31 hi hz0 hz1 hz2 rfl (by omega) (.slice A3 (m.length + 1) c3) (m.length + 1) (rowC PV.cells m ++ PV.cells (newP frm)) rfl
                     (HO3.out.alloc _) (w3.heap.size + 1) (some ⟨w3.heap.size, 0, none⟩) 1 1 (PV.cells ⟨id1, prio1, dr1, bdr1, state1, two1, at1⟩) rfl (Reads.new w3 (PV.arr ⟨id1, prio1, dr1, bdr1, state1, two1, at1⟩) 47 1 7 rfl) hone2 (by simp only [maxLen]; omega) (by omega) (by simp; omega) ?_
                   intro A4 c4 w4 hown4 hg4 hloc4
                   have HB4 := hide ((HB3.out.alloc HB3.out.size (.cells (PV.arr ⟨id1, prio1, dr1, bdr1, state1, two1, at1⟩) 47)).grown hg4 (by simp; omega) (fun g hg => (own_base HO3.out hg).1))
                   have HO4 := hide hown4
                   clear hown4 hg4 hloc4))
            go_roundw
            case rel => exact ⟨q + 1, A4, c4, by omega, by go_num, by rw [HE2.out]; simp, by rw [HE2.out], by rw [HE2.out, rowC_append, rowC_append, List.length_append, List.length_append]; apply hide; simpa [rowC] using HO4.out, HB4⟩
            case measure => simp [intOf]; omega
        · have hkl : l.take q = l := List.take_of_length_le (by omega)
          rw [hkl] at hown hle ⊢
          clear hkl
          have HI := hide (show insF frm l = if (insS frm l).2 = true then (insS frm l).1 else (insS frm l).1 ++ [newP frm] from rfl)
          generalize insS frm l = md at hown hle HI ⊢
          obtain ⟨m, d⟩ := md
          dsimp only at hown hle HI ⊢
          have hf2 : wr.frozen? ⟨pl, 2, none⟩ = false := HR.out.box.frozen 2
          have hone := PV.cells_one (newP frm)
          have hpo : ¬ F o := hof
          cases d
          · have HI2 := hide (show l' = m ++ [newP frm] by rw [H3.out, HI.out]; simp)
            go_wp2_with (first
                | (at_builtin
                   refine wpList_append_any _ rfl (.tmp 68) (.tmp 71) 31 rfl W5.heap.size 47 i0 _ 7 56 Try.underlying31 hi hz0 hz1 hz2 rfl (by omega) (.slice A1 m.length cc) m.length (rowC PV.cells m) rfl
                     (hown.out.alloc _) (wr.heap.size + 1) (some ⟨wr.heap.size, 0, none⟩) 1 1 (PV.cells (newP frm)) rfl (Reads.new wr (PV.arr (newP frm)) 47 1 7 rfl) hone (by simp only [maxLen]; omega) (by omega) (by simp; omega) ?_
                   intro A3 c3 w3 hown3 hg3 hloc3
                   have HB3 := hide ((hb.out.alloc hb.out.size (.cells (PV.arr (newP frm)) 47)).grown hg3 (by simp; omega) (fun g hg => (own_base hown.out hg).1))
                   have HO3 := hide hown3
                   have HR3 := hide (HP5.out.below HB3.out)
                   have hsl3 : w3.cell? ⟨pl, 2, none⟩ = _ := HR3.out.cells.2.2
                   have hf3 : w3.frozen? ⟨pl, 2, none⟩ = false := HR3.out.box.frozen 2
                   clear hown3 hg3 hloc3))
            go_meet
            case rel =>
              have e : l'.length = m.length + 1 := by rw [HI2.out]; simp
              have ho : w3.ownsRow W5.heap.size 47 7 (.slice A3 l'.length c3) l'.length (rowC PV.cells l') := by rw [e, HI2.out, rowC_append]; simpa [rowC] using HO3.out
              rw [← e]
              exact fresh_meet HP5.out HR3.out HB3.out ho HK5.out HO5'.out (by have := HO5'.out.lt; omega) hof
          · have HI2 := hide (show l' = m by rw [H3.out, HI.out]; simp)
            go_wp2_with fail
            go_meet
            case rel =>
              rw [← HI2.out] at hown ⊢
              exact fresh_meet HP5.out HR.out hb.out hown.out HK5.out HO5'.out (by have := HO5'.out.lt; omega) hof
  case rest =>
  obtain ⟨F', A', c', HPc, HFc, HKc, HOc⟩ := hcut
  have HFw := hide (show ∀ g, F' g → F g ∨ w.heap.size ≤ g from fun g hg => (HFc.out g hg).imp id (fun h => by have := HB0.out.size; omega))
  have hwo : o < w2.heap.size := HO.out.lt
  have HNE := hide (show ∀ g, F' g → ¬ g = o ∧ ¬ g = w.heap.size + 1 ∧ ¬ g = w.heap.size from fun g hg => by
    rcases HFc.out g hg with h | h
    · have := HLT.out g h; omega
    · omega)
  have HRc := hide (HKc.out.blk HR0.out (fun h => h.elim (fun h => by have := HLT.out _ h; omega) (fun h => by omega)))
  have HIc := hide (HKc.out.blk HI0.out (fun h => h.elim (fun h => by have := HLT.out _ h; omega) (fun h => by omega)))
  have HBc : Hid (Keeps F w wc) := hide ((Keeps.of_below (F := F) HB0.out).trans HKc.out (fun g hg => hg.imp id (fun h => by omega)))
  clear HP0 HFc HKc HO HR0 HI0 HB0
  go_wp2_with fail
  refine (find_any F' pl base me lan l' A' c' frm _ HPc.out hl'2).mono ?_
  rintro r w3 ⟨rfl, rfl⟩
  rw [HK.out]
  have hkl : k < l'.length := (List.getElem?_eq_some_iff.1 HX.out).1
  obtain ⟨_, _, p2⟩ := HPc.out.cells
  obtain ⟨b, x', hA, hx', hat⟩ := HPc.out.at_ hkl
  obtain rfl : x' = x := Option.some.inj (hx'.symm.trans HX.out)
  subst hA
  obtain ⟨id, wprio, wdr, wbdr, state, two, at_⟩ := x'
  have d0 : w3.cell? ⟨b, k * 7, none⟩ = some (.int .i64 id) := hat 0 _ rfl
  have d1 : w3.cell? ⟨b, k * 7 + 1, none⟩ = some (.int .i64 wprio) := hat 1 _ rfl
  have d2 : w3.cell? ⟨b, k * 7 + 2, none⟩ = some (.int .i64 wdr) := hat 2 _ rfl
  have d3 : w3.cell? ⟨b, k * 7 + 3, none⟩ = some (.int .i64 wbdr) := hat 3 _ rfl
  have d4 : w3.cell? ⟨b, k * 7 + 4, none⟩ = some (.int .i64 state) := hat 4 _ rfl
  have d5 : w3.cell? ⟨b, k * 7 + 5, none⟩ = some (.bool two) := hat 5 _ rfl
  have d6 : w3.cell? ⟨b, k * 7 + 6, none⟩ = some (.int .i64 at_) := hat 6 _ rfl
  have i2 : w3.cell? ⟨w.heap.size, 2, none⟩ = some (.int .i64 prio) := HIc.out.cell 2
  have i3 : w3.cell? ⟨w.heap.size, 3, none⟩ = some (.int .i64 dr) := HIc.out.cell 3
  have i4 : w3.cell? ⟨w.heap.size, 4, none⟩ = some (.int .i64 bdr) := HIc.out.cell 4
  have ilt := HIc.out.lt
  clear hat hx'
  go_wp2_with fail
  refine (refWho_any dr hdr0 _).mono ?_
  rintro r w4 ⟨rfl, rfl⟩
  go_wp2_with fail
  refine (refWho_any bdr hbdr0 _).mono ?_
  rintro r w4 ⟨rfl, rfl⟩
  go_wp2_with fail
  obtain ⟨n3, n4, hbW⟩ := two_new w3 47 47 #[.int .i64 id, .int .i64 wprio, .int .i64 wdr, .int .i64 wbdr, .int .i64 state, .bool two, .int .i64 at_] #[.int .i64 id, .int .i64 prio, .int .i64 (dr % 16), .int .i64 (bdr % 16), .int .i64 state, .bool two, .int .i64 now]
  have hos2 : w.heap.size ≤ w3.heap.size := HBc.out.size
  have hoo : o < w3.heap.size := HOc.out.lt
  have HO1 := hide (HOc.out.below hbW HOc.out.lt)
  have HR1 := hide (HRc.out.below hbW HRc.out.lt)
  have HI1 := hide (HIc.out.below hbW HIc.out.lt)
  have HB1 := hide (HBc.out.below hbW)
  have HP1 := hide (HPc.out.below hbW)
  have HLF := hide HPc.out.lt
  generalize ho2 : w3.heap.size = o2 at hos2 hoo n3 n4 ⊢
  have HZ2 := hide ho2
  generalize (w3.alloc (.cells #[.int .i64 id, .int .i64 wprio, .int .i64 wdr, .int .i64 wbdr, .int .i64 state, .bool two, .int .i64 at_] 47)).alloc (.cells #[.int .i64 id, .int .i64 prio, .int .i64 (dr % 16), .int .i64 (bdr % 16), .int .i64 state, .bool two, .int .i64 now] 47) = W at n3 n4 HO1 HR1 HI1 HB1 HP1 ⊢
  clear hbW ho2 d0 d1 d2 d3 d4 d5 d6 i2 i3 i4 ilt p2 HOc HRc HIc HBc HPc
  have HN3 := hide n3
  have HN4 := hide n4
  have i5 : W.cell? ⟨w.heap.size, 5, none⟩ = some (.slice A n c) := HI1.out.cell 5
  obtain ⟨p0, _, _⟩ := HP1.out.cells
  have x5 : W.cell? ⟨o2 + 1, 5, none⟩ = some (.bool two) := n4.cell 5
  have f5 : W.frozen? ⟨o2 + 1, 5, none⟩ = false := n4.frozen 5
  obtain ⟨m, hm⟩ : ∃ m, decide (me ∈ seen) = m := ⟨_, rfl⟩
  have HM := hide hm
  have b3 : Hid (Reads W W.heap.size 1 A n (ints seen)) := hide (by
    rcases Nat.eq_zero_or_pos n with h0 | h0
    · exact ⟨HRd.out.1, fun h => absurd h (by omega)⟩
    · exact (HB1.out.reads HRd.out (Nat.le_refl _) (fun b off e hbg => HAF.out h0 b off e hbg)).more HB1.out.size)
  clear n3 n4 hm
  refine wp_region_still_tail 7 (by kernel_rfl) (by kernel_rfl) ?_
  simp only [List.take_succ_cons, List.take_zero, List.drop_succ_cons, List.drop_zero]
  repeat still_step
  still_call (has_any A n c seen me _ (by omega) b3.out.drew)
  rw [HM.out]
  repeat still_step
  refine wpStill_nil ?_
  go_wp2_with fail
  have hKx : Keeps (fun g => g = o2 + 1) W (W.setCell ⟨o2 + 1, 5, none⟩ (.bool m)).drew := ((Keeps.refl (fun g => g = o2 + 1) W).setCell (p := ⟨o2 + 1, 5, none⟩) (.inl rfl) _).drew
  have hP2 := HP1.out.keep hKx (fun g hg e => by have := HLF.out g hg; have := HZ2.out; omega)
  have hx2 := (HN4.out.set_ 5 (.bool m)).drew
  have hx2' : Blk (W.setCell ⟨o2 + 1, 5, none⟩ (.bool m)).drew (o2 + 1) 47 #[.int .i64 id, .int .i64 prio, .int .i64 (dr % 16), .int .i64 (bdr % 16), .int .i64 state, .bool m, .int .i64 now] := hx2
  have hw2 := (HN3.out.far (p := ⟨o2 + 1, 5, none⟩) (by simp) (.bool m)).drew
  have ho2 := (HO1.out.far (p := ⟨o2 + 1, 5, none⟩) (by show ¬ o = o2 + 1; omega) (.bool m)).drew
  have hr2 := (HR1.out.far (p := ⟨o2 + 1, 5, none⟩) (by show ¬ w.heap.size + 1 = o2 + 1; omega) (.bool m)).drew
  have hB2 := (HB1.out.setCell (p := ⟨o2 + 1, 5, none⟩) (.inr (by show w.heap.size ≤ o2 + 1; omega)) (.bool m)).drew
  clear hx2 hKx i5 p0 x5 f5
  generalize (W.setCell ⟨o2 + 1, 5, none⟩ (.bool m)).drew = W2 at hP2 hx2' hw2 ho2 hr2 hB2 ⊢
  have HP2 := hide hP2
  have HX2 := hide hx2'
  have HW2 := hide hw2
  have HO2 := hide ho2
  have HR2 := hide hr2
  have HB2 := hide hB2
  obtain ⟨_, _, p2⟩ := hP2.cells
  have fr : ∀ i, W2.frozen? ⟨b, i, none⟩ = false := hP2.own.frozenAt
  have hat2 := hP2.at_ hkl
  obtain ⟨b', x', hA', hx', hat⟩ := hat2
  simp only [Option.some.injEq, Addr.mk.injEq, and_true] at hA'
  subst hA'
  have e0 : W2.cell? ⟨b, k * 7, none⟩ = some _ := hat 0 _ rfl
  have e1 : W2.cell? ⟨b, k * 7 + 1, none⟩ = some _ := hat 1 _ rfl
  have e2 : W2.cell? ⟨b, k * 7 + 2, none⟩ = some _ := hat 2 _ rfl
  have e3 : W2.cell? ⟨b, k * 7 + 3, none⟩ = some _ := hat 3 _ rfl
  have e4 : W2.cell? ⟨b, k * 7 + 4, none⟩ = some _ := hat 4 _ rfl
  have e5 : W2.cell? ⟨b, k * 7 + 5, none⟩ = some _ := hat 5 _ rfl
  have e6 : W2.cell? ⟨b, k * 7 + 6, none⟩ = some _ := hat 6 _ rfl
  have n0 : W2.cell? ⟨o2 + 1, 0, none⟩ = some (.int .i64 id) := hx2'.cell 0
  have n1 : W2.cell? ⟨o2 + 1, 1, none⟩ = some (.int .i64 prio) := hx2'.cell 1
  have n2 : W2.cell? ⟨o2 + 1, 2, none⟩ = some (.int .i64 (dr % 16)) := hx2'.cell 2
  have n3 : W2.cell? ⟨o2 + 1, 3, none⟩ = some (.int .i64 (bdr % 16)) := hx2'.cell 3
  have n4 : W2.cell? ⟨o2 + 1, 4, none⟩ = some (.int .i64 state) := hx2'.cell 4
  have n5 : W2.cell? ⟨o2 + 1, 5, none⟩ = some (.bool m) := hx2'.cell 5
  have n6 : W2.cell? ⟨o2 + 1, 6, none⟩ = some (.int .i64 now) := hx2'.cell 6
  clear hat hx' hP2 hx2' hw2 ho2 hr2 hB2
  go_still_tail 7, (by kernel_rfl)
  have hblt : b < o2 := by have := HLF.out b (HP2.out.hrow b rfl); have := HZ2.out; omega
  obtain ⟨hbo, hbr, _⟩ := HNE.out b (HP2.out.hrow b rfl)
  go_upto_region 27 with (fail)
  have HPS := hide ((HP2.out.setAt hkl ⟨id, prio, dr % 16, bdr % 16, state, m, now⟩).below (below_drew _))
  have hKs : Keeps (fun g => g = b) W2 (W2.setCells b (k * 7) (PV.cells ⟨id, prio, dr % 16, bdr % 16, state, m, now⟩)).drew := (Keeps.setCells (F := fun g => g = b) rfl _ _ _ (Keeps.refl (fun g => g = b) W2)).drew
  have hX3 := hKs.blk HX2.out (show ¬ o2 + 1 = b by omega)
  have hW3 := hKs.blk HW2.out (show ¬ o2 = b by omega)
  have hO3 := hKs.blk HO2.out (show ¬ o = b by omega)
  have hR3 := hKs.blk HR2.out (show ¬ w.heap.size + 1 = b by omega)
  have hbF := HFw.out b (HP2.out.hrow b rfl)
  have hK3 : Keeps F w (W2.setCells b (k * 7) (PV.cells ⟨id, prio, dr % 16, bdr % 16, state, m, now⟩)).drew := HB2.out.trans hKs (fun g hg => by cases hg; exact hbF)
  clear hKs HX2 HW2 HO2 HR2 HB2 HP2 p2 fr e0 e1 e2 e3 e4 e5 e6 n0 n1 n2 n3 n4 n5 n6
  have hid := findI_id l' frm k _ HK.out HX.out
  dsimp only at hid
  subst hid
  have HPS' : Hid (RefP (W2.setCells b (k * 7) (PV.cells ⟨id, prio, dr % 16, bdr % 16, state, m, now⟩)).drew F' pl base me lan (l'.set k ⟨id, prio, dr % 16, bdr % 16, state, m, now⟩) (some ⟨b, 0, none⟩) c') := HPS
  clear HPS
  show Code.wp _ _ _ _ (W2.setCells b (k * 7) (PV.cells ⟨id, prio, dr % 16, bdr % 16, state, m, now⟩)).drew
  generalize (W2.setCells b (k * 7) (PV.cells ⟨id, prio, dr % 16, bdr % 16, state, m, now⟩)).drew = W3 at hX3 hW3 hO3 hR3 hK3 HPS' ⊢
  have x1 : W3.cell? ⟨o2 + 1, 1, none⟩ = some (.int .i64 prio) := hX3.cell 1
  have x2 : W3.cell? ⟨o2 + 1, 2, none⟩ = some (.int .i64 (dr % 16)) := hX3.cell 2
  have x3 : W3.cell? ⟨o2 + 1, 3, none⟩ = some (.int .i64 (bdr % 16)) := hX3.cell 3
  have x5 : W3.cell? ⟨o2 + 1, 5, none⟩ = some (.bool m) := hX3.cell 5
  have y1 : W3.cell? ⟨o2, 1, none⟩ = some (.int .i64 wprio) := hW3.cell 1
  have y2 : W3.cell? ⟨o2, 2, none⟩ = some (.int .i64 wdr) := hW3.cell 2
  have y3 : W3.cell? ⟨o2, 3, none⟩ = some (.int .i64 wbdr) := hW3.cell 3
  have y5 : W3.cell? ⟨o2, 5, none⟩ = some (.bool two) := hW3.cell 5
  obtain ⟨o0, o1, o2c, o3, o4, of_⟩ := hO3.cells5
  have q1 : ¬ o = o2 + 1 := by omega
  have q2 : ¬ o = o2 := by omega
  have HO3 := hide hO3
  have HR3 := hide hR3
  have HK3 := hide hK3
  clear hX3 hW3 hO3 hR3 hK3
  obtain ⟨s0, s1, s2, s3, s4, sf⟩ := HR3.out.cells5
  have q3 : ¬ o = w.heap.size + 1 := by omega
  have HQ := hide (show w.heap.size + 1 ≠ o by omega)
  have hosz := hide hos
  have fin : ∀ {b3 b4 : Bool}, (two && !m) = b3 → decide (claimsF ⟨id, wprio, wdr, wbdr, state, two, at_⟩ ≠ claimsF ⟨id, prio, dr % 16, bdr % 16, state, m, now⟩) = b4 →
      HeardPost F pl base me lan l' fr prio dr bdr now k ⟨id, wprio, wdr, wbdr, state, two, at_⟩ seen w (.returned (heardV true fr m b3 b4)) (set5 (((W3.setCell ⟨o, 2, none⟩ (.bool m)).setCell ⟨o, 3, none⟩ (.bool b3)).setCell ⟨o, 4, none⟩ (.bool b4)) (w.heap.size + 1) (.bool true) (.bool fr) (.bool m) (.bool b3) (.bool b4)) := by
    intro b3 b4 h3 h4
    have e : heardF me prio dr bdr now seen ⟨id, wprio, wdr, wbdr, state, two, at_⟩ = ⟨id, prio, dr % 16, bdr % 16, state, m, now⟩ := by simp only [heardF, HM.out]
    unfold HeardPost
    rw [e]
    refine ⟨by rw [← h3, ← h4], heard_close HFw.out (fun g hg h => by have := HNE.out g hg; omega) HPS'.out rfl HK3.out (by have := hosz.out; omega) (by omega)⟩
  have HF := fun (b3 b4 : Bool) => hide (@fin b3 b4)
  have HBE := hide (bears_tt id wprio wdr wbdr prio (dr % 16) (bdr % 16) state state at_ now)
  have HRT := fun (b3 b4 : Bool) => hide ((blk_far3 HR3.out HQ.out (.bool m) (.bool b3) (.bool b4)).five (.bool true) (.bool fr) (.bool m) (.bool b3) (.bool b4))
  clear fin
  cases two <;> cases m
  · go_wp2_with fail
    refine bodyPost_ret (results_cell_row (fn := Try.f11) rfl _ _ _ 29 _ (0, 0) _ rfl (HRT _ _).out Try.underlying29 rfl (by kernel_rfl)) rfl ?_
    exact (HF false false).out rfl (bears_ff ..)
  · go_wp2_with fail
    refine bodyPost_ret (results_cell_row (fn := Try.f11) rfl _ _ _ 29 _ (0, 0) _ rfl (HRT _ _).out Try.underlying29 rfl (by kernel_rfl)) rfl ?_
    exact (HF false true).out rfl (bears_ft ..)
  · go_wp2_with fail
    refine bodyPost_ret (results_cell_row (fn := Try.f11) rfl _ _ _ 29 _ (0, 0) _ rfl (HRT _ _).out Try.underlying29 rfl (by kernel_rfl)) rfl ?_
    exact (HF true true).out rfl (bears_tf ..)
  · go_wp2_with fail
    · refine bodyPost_ret (results_cell_row (fn := Try.f11) rfl _ _ _ 29 _ (0, 0) _ rfl (HRT _ _).out Try.underlying29 rfl (by kernel_rfl)) rfl ?_
      have h1 : wprio = prio := by assumption
      have h2 : (wdr == id) = (dr % 16 == id) := by assumption
      exact (HF false (!((wbdr == id) == (bdr % 16 == id)))).out rfl (HBE.out.trans (by simp [h1, h2, bne]))
    · refine bodyPost_ret (results_cell_row (fn := Try.f11) rfl _ _ _ 29 _ (0, 0) _ rfl (HRT _ _).out Try.underlying29 rfl (by kernel_rfl)) rfl ?_
      have h1 : wprio = prio := by assumption
      have h2 : ¬ (wdr == id) = (dr % 16 == id) := by assumption
      exact (HF false true).out rfl (HBE.out.trans (by simp [h1, h2, bne]))
    · refine bodyPost_ret (results_cell_row (fn := Try.f11) rfl _ _ _ 29 _ (0, 0) _ rfl (HRT _ _).out Try.underlying29 rfl (by kernel_rfl)) rfl ?_
      have h1 : ¬ wprio = prio := by assumption
      exact (HF false true).out rfl (HBE.out.trans (by simp [h1, bne]))
end Go.Proofs.Ytmehglliajefaaa
