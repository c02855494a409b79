/-
  The walk of LanOrder.
-/
import Derived.Test.YtldanafbaadgoaaL
namespace Go.Proofs.Ytldanafbaadgoaa
open Go.RowKit

def frsC (l : List Fr) : List Value := l.flatMap Fr.cells
theorem frsC_append (a b : List Fr) : frsC (a ++ b) = frsC a ++ frsC b := by simp [frsC]
theorem frsC_at : ∀ (l : List Fr) (k j : Nat) (h : Fr), l[k]? = some h → j < 4 → (frsC l)[k * 4 + j]? = h.cells[j]?
  | [], k, _, _, hk, _ => by simp at hk
  | x :: l, 0, j, h, hk, hj => by
    simp only [List.getElem?_cons_zero, Option.some.injEq] at hk
    subst hk
    simp only [frsC, List.flatMap_cons, Nat.zero_mul, Nat.zero_add]
    rw [List.getElem?_append_left (by simpa [Fr.cells] using hj)]
  | x :: l, k + 1, j, h, hk, hj => by
    simp only [List.getElem?_cons_succ] at hk
    have := frsC_at l k j h hk hj
    simp only [frsC, List.flatMap_cons] at this ⊢
    rw [List.getElem?_append_right (by simp [Fr.cells]; omega), ← this]
    congr 1
    simp [Fr.cells]
    omega
theorem fr_one (f : Fr) : ∀ u ∈ f.cells, u.oneCell' = true := by
  intro u hu
  simp [Fr.cells] at hu
  rcases hu with rfl | rfl | rfl | rfl <;> rfl
theorem frame_info : (Try.prog.info? 28).map (fun i => (i.zero, i.size, i.bytes)) = some (some (.agg #[.int .i64 0, .int .i64 0, .int .i64 0, .slice none 0 0]), 4, 48) := by kernel_rfl
theorem Reads.nil_none {w : World} {B n : Nat} {A : Option Addr} {xs : List Value} (h : Reads w B 1 A n xs) (hA : A = none) : n = 0 := by
  rcases Nat.eq_zero_or_pos n with h0 | h0
  · exact h0
  · obtain ⟨_, _, e', _⟩ := h.2 h0
    rw [hA] at e'
    cases e'
theorem Blk.cells4 {w : World} {g : Nat} {t : TypeId} {a0 a1 a2 a3 : Value} (h : Blk w g t #[a0, a1, a2, a3]) :
    w.cell? ⟨g, 0, none⟩ = some a0 ∧ w.cell? ⟨g, 1, none⟩ = some a1 ∧ w.cell? ⟨g, 2, none⟩ = some a2 ∧ w.cell? ⟨g, 3, none⟩ = some a3 :=
  ⟨h.cell 0, h.cell 1, h.cell 2, h.cell 3⟩

/-- behind k frames: the network, and what is wanted of it -/
structure Ord1 (w wr : World) (pl base : Nat) (zs : List Int) (me : Int) (k : Nat) (F : Nat → Prop) (l : List Raw) (A1 : Option Addr) (c1 : Nat) (fs ws : List Fr) (Aw : Option Addr) (cw : Nat) : Prop where
  own : wr.ownsRow w.heap.size 28 4 (.slice Aw ws.length cw) ws.length (frsC ws)
  apart : ∀ g, (Value.slice Aw ws.length cw).ownBlock = some g → ¬ F g
  rep : LanRep wr F pl base 1024 (onF zs) l A1 c1
  len : l.length ≤ k * 16
  wlen : ws.length ≤ k
  eq : forMe me (l.map (·.cp)) = ws.map (fun f => f.cp me)
  mem : ∀ f ∈ ws, f ∈ fs
  lo : ∀ g, F g → w.heap.size ≤ g
  bel : Below w.heap.size w wr
  few : ∀ c ∈ l.map (·.cp), c.bs.length ≤ 300

theorem sendF_mem (room lan frm to : Int) (bs : List Int) : ∀ (ids : List Int) (acc : List Cp), ∀ c ∈ sendF room lan frm to bs ids acc, c ∈ acc ∨ c.bs = bs
  | [], acc, c, h => .inl h
  | id :: r, acc, c, h => by
    rcases sendF_mem room lan frm to bs r (sendStep room lan frm to bs acc id) c h with h1 | h1
    · unfold sendStep at h1
      split at h1
      · exact .inl h1
      · rcases List.mem_append.1 h1 with h2 | h2
        · exact .inl h2
        · obtain rfl := List.mem_singleton.1 h2
          exact .inr rfl
    · exact .inr h1
theorem Ord1.below {w wr w2 : World} {pl base : Nat} {zs : List Int} {me : Int} {k : Nat} {F : Nat → Prop} {l : List Raw} {A1 : Option Addr} {c1 : Nat} {fs ws : List Fr} {Aw : Option Addr} {cw : Nat} (h : Ord1 w wr pl base zs me k F l A1 c1 fs ws Aw cw) (hb : Below wr.heap.size wr w2) :
    Ord1 w w2 pl base zs me k F l A1 c1 fs ws Aw cw :=
  ⟨(Keeps.of_below (F := fun _ => False) hb).own h.own (fun _ _ h => h), h.apart, h.rep.below hb, h.len, h.wlen, h.eq, h.mem, h.lo, below0 h.bel hb, h.few⟩
theorem Ord1.send {w wr w2 : World} {pl base : Nat} {zs : List Int} {me : Int} {k : Nat} {F : Nat → Prop} {l : List Raw} {A1 : Option Addr} {c1 : Nat} {fs ws : List Fr} {Aw : Option Addr} {cw : Nat} (h : Ord1 w wr pl base zs me k F l A1 c1 fs ws Aw cw)
    (hm1 : 1 ≤ me) (hm2 : me ≤ 15) (hk : k ≤ 40) (f : Fr) (hfl : f.bs.length ≤ 300) (hLA : LanAt wr F pl base 1024 (onF zs) (sendF 1024 f.lan f.frm f.to f.bs (onL (onF zs) 16) (l.map (·.cp))) w2) :
    ∃ F' l' A' c', LanRep w2 F' pl base 1024 (onF zs) l' A' c' ∧ l'.length ≤ (k + 1) * 16 ∧ forMe me (l'.map (·.cp)) = (if me ∈ zs ∧ isFor f.frm f.to me then ws ++ [f] else ws).map (fun f => f.cp me) ∧
      (∀ g, F' g → w.heap.size ≤ g) ∧ w2.ownsRow w.heap.size 28 4 (.slice Aw ws.length cw) ws.length (frsC ws) ∧ (∀ g, (Value.slice Aw ws.length cw).ownBlock = some g → ¬ F' g) ∧ Below w.heap.size w w2 ∧ Keeps F wr w2 ∧ (∀ c ∈ l'.map (·.cp), c.bs.length ≤ 300) := by
  obtain ⟨F', l', A', c', hR, hl, hF, hK⟩ := hLA
  have h1 := sendAll_le 1024 zs (l.map (·.cp)) f
  have hlen : (l.map (·.cp)).length = l.length := List.length_map ..
  refine ⟨F', l', A', c', hR, ?_, ?_, ?_, ?_, ?_, below_keeps h.bel hK h.lo, hK, ?_⟩
  · have : l'.length = (l'.map (·.cp)).length := (List.length_map ..).symm
    rw [this, hl]
    have := h.len
    unfold sendAll at h1
    omega
  · rw [hl]
    exact forMe_all 1024 me zs _ f ws hm1 hm2 (by have := h.len; omega) h.eq
  · intro g hg
    rcases hF g hg with h2 | h2
    · exact h.lo g h2
    · have := h.bel.size; omega
  · exact hK.own h.own h.apart
  · intro g hg hf
    rcases hF g hf with h2 | h2
    · exact h.apart g hg h2
    · have := (own_base h.own hg).2; omega
  · intro c hc
    rw [hl] at hc
    rcases sendF_mem _ _ _ _ _ _ _ c hc with h1 | h1
    · exact h.few c h1
    · rw [h1]; exact hfl

theorem Ord1.put {w wr w3 w6 : World} {pl base : Nat} {zs : List Int} {me : Int} {k : Nat} {F F' : Nat → Prop} {l l' : List Raw} {A1 A' : Option Addr} {c1 c' : Nat} {fs ws : List Fr} {Aw A6 : Option Addr} {cw c6 : Nat} {f : Fr} {o : Obj} (h : Ord1 w wr pl base zs me k F l A1 c1 fs ws Aw cw)
    (hl3 : l'.length ≤ (k + 1) * 16) (heq : forMe me (l'.map (·.cp)) = (ws ++ [f]).map (fun f => f.cp me)) (hfm : f ∈ fs) (hlo : ∀ g, F' g → w.heap.size ≤ g) (hap0 : w3.ownsRow w.heap.size 28 4 (.slice Aw ws.length cw) ws.length (frsC ws))
    (hap : ∀ g, (Value.slice Aw ws.length cw).ownBlock = some g → ¬ F' g) (hR : LanRep w3 F' pl base 1024 (onF zs) l' A' c') (hb : Below w.heap.size w w3) (hfew : ∀ c ∈ l'.map (·.cp), c.bs.length ≤ 300)
    (hown : w6.ownsRow w.heap.size 28 4 (.slice A6 (ws.length + 1) c6) (ws.length + 1) (frsC ws ++ f.cells)) (hg : (w3.alloc o).grownBy w6 (Value.slice Aw ws.length cw).ownBlock)
    (hloc : (Value.slice A6 (ws.length + 1) c6).ownBlock = (Value.slice Aw ws.length cw).ownBlock ∨ (Value.slice A6 (ws.length + 1) c6).ownBlock = some (w3.alloc o).heap.size) :
    Ord1 w w6 pl base zs me (k + 1) F' l' A' c' fs (ws ++ [f]) A6 c6 := by
  have hK : Keeps (fun x => (Value.slice Aw ws.length cw).ownBlock = some x) w3 w6 := ((Keeps.refl _ _).alloc o).grown hg (fun g hg => .inl hg)
  have hlen : (ws ++ [f]).length = ws.length + 1 := by simp
  refine ⟨?_, ?_, hR.keep hK (fun g hF hx => hap g hx hF), hl3, ?_, heq, ?_, hlo, below_keeps hb hK (fun g hx => (own_base hap0 hx).1), hfew⟩
  · rw [hlen, frsC_append]
    simpa [frsC] using hown
  · rw [hlen]
    intro g hx hF
    rcases hloc with e | e
    · exact hap g (e ▸ hx) hF
    · rw [e] at hx
      have := hR.lt g hF
      simp at hx
      omega
  · have := h.wlen; omega
  · intro g hgm
    rcases List.mem_append.1 hgm with h1 | h1
    · exact h.mem g h1
    · obtain rfl := List.mem_singleton.1 h1
      exact hfm

/-- behind j takes: what is still there, and is still wanted -/
structure Ord2 (w wr : World) (pl base : Nat) (zs : List Int) (me : Int) (q : Nat) (F : Nat → Prop) (l : List Raw) (A1 : Option Addr) (c1 : Nat) (ws : List Fr) (Aw : Option Addr) (cw : Nat) : Prop where
  own : wr.ownsRow w.heap.size 28 4 (.slice Aw ws.length cw) ws.length (frsC ws)
  rep : LanRep wr F pl base 1024 (onF zs) l A1 c1
  eq : forMe me (l.map (·.cp)) = (ws.drop q).map (fun f => f.cp me)
  bel : Below w.heap.size w wr
  few : ∀ c ∈ l.map (·.cp), c.bs.length ≤ 300
theorem Ord2.below {w wr w2 : World} {pl base : Nat} {zs : List Int} {me : Int} {q : Nat} {F : Nat → Prop} {l : List Raw} {A1 : Option Addr} {c1 : Nat} {ws : List Fr} {Aw : Option Addr} {cw : Nat} (h : Ord2 w wr pl base zs me q F l A1 c1 ws Aw cw) (hb : Below wr.heap.size wr w2) :
    Ord2 w w2 pl base zs me q F l A1 c1 ws Aw cw :=
  ⟨(Keeps.of_below (F := fun _ => False) hb).own h.own (fun _ _ h => h), h.rep.below hb, h.eq, below0 h.bel hb, h.few⟩
/-- one is taken: it is for another one, or is what is wanted next -/
theorem Ord2.step {w wr w2 : World} {pl base : Nat} {zs : List Int} {me : Int} {q : Nat} {F : Nat → Prop} {r : Raw} {tl : List Raw} {A1 A6 : Option Addr} {c1 c6 : Nat} {ws : List Fr} {Aw : Option Addr} {cw : Nat} (h : Ord2 w wr pl base zs me q F (r :: tl) A1 c1 ws Aw cw)
    (hap : ∀ g, (Value.slice Aw ws.length cw).ownBlock = some g → ¬ F g) (hlo : ∀ g, F g → w.heap.size ≤ g) (hR : LanRep w2 F pl base 1024 (onF zs) ((r :: tl).eraseIdx 0) A6 c6) (hK : Keeps F wr w2) :
    (r.cp.for_ ≠ me → Ord2 w w2 pl base zs me q F tl A6 c6 ws Aw cw) ∧ (r.cp.for_ = me → q < ws.length ∧ (∀ f, ws[q]? = some f → r.cp = f.cp me) ∧ Ord2 w w2 pl base zs me (q + 1) F tl A6 c6 ws Aw cw) ∧ Below w.heap.size w w2 := by
  have ho := hK.own h.own hap
  have hb := below_keeps h.bel hK hlo
  have hf : ∀ c ∈ tl.map (·.cp), c.bs.length ≤ 300 := fun c hc => h.few c (by simp only [List.map_cons]; exact List.mem_cons_of_mem _ hc)
  have he := h.eq
  refine ⟨fun hne => ⟨ho, hR, ?_, hb, hf⟩, fun heq => ?_, hb⟩
  · rw [← he]
    simp [forMe, hne]
  · have h1 : forMe me ((r :: tl).map (·.cp)) = r.cp :: forMe me (tl.map (·.cp)) := by simp [forMe, heq]
    rw [h1] at he
    have hq : q < ws.length := by
      rcases Nat.lt_or_ge q ws.length with h2 | h2
      · exact h2
      · rw [List.drop_of_length_le h2] at he
        cases he
    have hd : ws.drop q = ws[q] :: ws.drop (q + 1) := List.drop_eq_getElem_cons hq
    rw [hd, List.map_cons] at he
    injection he with he1 he2
    refine ⟨hq, fun f hf => ?_, ⟨ho, hR, he2, hb, hf⟩⟩
    rw [List.getElem?_eq_getElem hq] at hf
    injection hf with hf
    rw [he1, hf]

set_option maxRecDepth 20000 in
set_option maxHeartbeats 4000000 in
theorem lanOrder_walk (A : Option Addr) (n c : Nat) (zs : List Int) (Af : Option Addr) (nf cf : Nat) (fs : List Fr) (x : Int) (w : World) (hr : Reads w w.heap.size 1 A n (ints zs)) (hf : RowAt Fr.cells 4 w Af nf fs) (hok : ∀ f ∈ fs, FrOK w f) (hx0 : 0 ≤ x) (hx1 : x < 256) :
    Calls Try.prog 4 #[.slice A n c, .slice Af nf cf, .int .u8 x] w fun r w' => r = .returned (.bool true) ∧ Below w.heap.size w w' := by
  obtain ⟨i0, hi, hz0, hz1, hz2⟩ := info_parts frame_info
  have HR := hide hr
  have HF := hide hf
  have HOK := hide hok
  clear hr hf hok
  go_enter Try.func4, Try.ntmps4
  go_wp2_with fail
  refine (wakes_any _).mono ?_
  rintro r w1 ⟨rfl, hb1⟩
  have HB1 := hide hb1
  clear hb1
  by_cases hn : 15 < n
  · go_wp2_with fail
    go_ret
    exact ⟨rfl, HB1.out⟩
  · by_cases hnf : 40 < nf
    · go_wp2_with fail
      go_ret
      exact ⟨rfl, HB1.out⟩
    · go_wp2_with fail
      refine (new_any 1024 A n c zs _ ((HR.out.below HB1.out).more HB1.out.size) (by omega)).mono ?_
      rintro r w2 ⟨rfl, hb2, hB2⟩
      have hroom : roomF 1024 = 1024 := rfl
      rw [hroom] at hb2
      have HI0 := hide (show Ord1 w w2 w1.heap.size (w1.heap.size + 1) zs (1 + x % 15) 0 (fun x => x = w1.heap.size) [] none 0 fs [] none 0 from
        ⟨World.ownsRow_nil _ _ _ _, (fun g hg => by cases hg), LanRep.new hb2, by simp, by simp, rfl, (fun f hf => by cases hf), (fun g hg => by have := HB1.out.size; cases hg; omega), below0 HB1.out hB2, (fun c hc => by cases hc)⟩)
      have hm1 : 1 ≤ 1 + x % 15 := by omega
      have hm2 : 1 + x % 15 ≤ 15 := by omega
      clear hb2 hB2 hroom
      go_wp2_with fail
      generalize 1 + x % 15 = me at HI0 hm1 hm2 ⊢
      go_loopw [9, 33] (fun v i wr => ∃ (k : Nat) (F : Nat → Prop) (l : List Raw) (A1 : Option Addr) (c1 : Nat) (ws : List Fr) (Aw : Option Addr) (cw : Nat), k ≤ nf ∧ i = .int .i64 k ∧ v = .slice Aw ws.length cw ∧ Hid (Ord1 w wr w1.heap.size (w1.heap.size + 1) zs me k F l A1 c1 fs ws Aw cw)) (fun _ i _ => nf - (intOf i).toNat)
      case atStart => exact ⟨0, _, [], none, 0, [], none, 0, by omega, rfl, rfl, HI0⟩
      case round =>
        obtain ⟨k, F, l, A1, c1, ws, Aw, cw, hk, rfl, rfl, hO⟩ := hrel
        by_cases hlt : k < nf
        · obtain ⟨b, off, f, rfl, hbb, hfk, hcell⟩ := HF.out.at_ hO.out.bel hlt
          have hfm := List.mem_of_getElem? hfk
          have hok := HOK.out f hfm
          obtain ⟨lan, frm, to, bs, Ab, cb⟩ := f
          have e0 : wr.cell? ⟨b, off + k * 4, none⟩ = some (.int .i64 lan) := hcell 0 _ rfl
          have e1 : wr.cell? ⟨b, off + k * 4 + 1, none⟩ = some (.int .i64 frm) := hcell 1 _ rfl
          have e2 : wr.cell? ⟨b, off + k * 4 + 2, none⟩ = some (.int .i64 to) := hcell 2 _ rfl
          have e3 : wr.cell? ⟨b, off + k * 4 + 3, none⟩ = some (.slice Ab bs.length cb) := hcell 3 _ rfl
          have HFM := hide hfm
          have HOF := hide hok
          clear hcell hfk hfm hok
          by_cases hbig : 300 < bs.length
          · go_wp2_with fail
            go_ret
            exact ⟨rfl, hO.out.bel.alloc hO.out.bel.size _⟩
          · go_wp2_with fail
            have HN := hide (Blk.new wr 28 #[.int .i64 lan, .int .i64 frm, .int .i64 to, .slice Ab bs.length cb])
            have hA := (Below.refl wr.heap.size wr).alloc (Nat.le_refl _) (.cells #[.int .i64 lan, .int .i64 frm, .int .i64 to, .slice Ab bs.length cb] 28)
            have HO2 := hide (hO.out.below hA)
            generalize wr.alloc (.cells #[.int .i64 lan, .int .i64 frm, .int .i64 to, .slice Ab bs.length cb] 28) = W2 at HN HO2 hA ⊢
            have HA2 := hide hA
            clear e0 e1 e2 e3 hA
            refine (send_any F w1.heap.size (w1.heap.size + 1) 1024 (onF zs) l A1 c1 lan frm to Ab bs.length cb bs _ HO2.out.rep ((HOF.out.1.below HO2.out.bel).more HO2.out.bel.size) (fun h0 b off e hg => ?_) (Reads.nil_none HOF.out.1) (by omega) (by have := HO2.out.len; omega)).mono ?_
            · obtain ⟨b', off', e', hlt', _⟩ := HOF.out.1.2 h0
              have e2 := e'.symm.trans e
              simp only [Option.some.injEq, Addr.mk.injEq, and_true] at e2
              obtain ⟨rfl, rfl⟩ := e2
              have := HO2.out.lo _ hg
              omega
            rintro r w3 ⟨rfl, hLA⟩
            obtain ⟨F', l', A', c', hR3, hl3, heq3, hlo3, how3, hap3, hb3, hK3, hfw3⟩ := HO2.out.send hm1 hm2 (by omega) ⟨lan, frm, to, bs, Ab, cb⟩ (by show bs.length ≤ 300; omega) hLA
            have HFW := hide hfw3
            have hn3 := hK3.blk HN.out (fun hg => absurd (hO.out.rep.lt _ hg) (Nat.lt_irrefl _))
            obtain ⟨k0, k1, k2, k3⟩ := hn3.cells4
            have hlt3 := hn3.lt
            have HR3 := hide hR3
            have HEQ := hide heq3
            have HLO := hide hlo3
            have HOW := hide how3
            have HAP := hide hap3
            have HB3 := hide hb3
            clear hfw3 hLA hR3 heq3 hlo3 how3 hap3 hb3 hK3 hn3
            go_wp2_with fail
            refine (has_any A n c zs me _ (by omega) ((HR.out.below HB3.out).more HB3.out.size)).mono ?_
            rintro r w3 ⟨rfl, rfl⟩
            have hcut : (¬ me ∈ zs) ∨ (me ∈ zs ∧ frm = me) ∨ (me ∈ zs ∧ frm ≠ me ∧ to ≠ 0 ∧ to ≠ 16 ∧ to ≠ me) ∨ (me ∈ zs ∧ frm ≠ me ∧ (to = 0 ∨ to ≠ 0 ∧ to = 16 ∨ to ≠ 0 ∧ to ≠ 16 ∧ to = me)) := by
              by_cases h1 : me ∈ zs
              · refine .inr ?_
                simp only [h1, true_and]
                omega
              · exact .inl h1
            rcases hcut with h1 | ⟨h1, h2⟩ | ⟨h1, h2, h3, h4, h5⟩ | ⟨h1, h2, hto⟩
            · rw [decide_eq_false h1]
              have HQ := hide (show Ord1 w w3 w1.heap.size (w1.heap.size + 1) zs me (k + 1) F' l' A' c' fs ws Aw cw from ⟨HOW.out, HAP.out, HR3.out, hl3, by have := hO.out.wlen; omega, by rw [HEQ.out, if_neg (fun h => h1 h.1)], hO.out.mem, HLO.out, HB3.out, HFW.out⟩)
              clear h1
              go_wp2
              go_roundw
              case rel => exact ⟨k + 1, F', l', A', c', ws, Aw, cw, by omega, by go_num, rfl, HQ⟩
              case measure => simp [intOf]; omega
            · rw [decide_eq_true h1]
              have HQ := hide (show Ord1 w w3 w1.heap.size (w1.heap.size + 1) zs me (k + 1) F' l' A' c' fs ws Aw cw from ⟨HOW.out, HAP.out, HR3.out, hl3, by have := hO.out.wlen; omega, by rw [HEQ.out, if_neg (fun h => h.2.1 h2)], hO.out.mem, HLO.out, HB3.out, HFW.out⟩)
              have b2 : (frm != me) = false := by simpa using h2
              clear h1 h2
              go_wp2
              go_roundw
              case rel => exact ⟨k + 1, F', l', A', c', ws, Aw, cw, by omega, by go_num, rfl, HQ⟩
              case measure => simp [intOf]; omega
            · rw [decide_eq_true h1]
              have HQ := hide (show Ord1 w w3 w1.heap.size (w1.heap.size + 1) zs me (k + 1) F' l' A' c' fs ws Aw cw from ⟨HOW.out, HAP.out, HR3.out, hl3, by have := hO.out.wlen; omega, by rw [HEQ.out, if_neg (fun h => by have := h.2.2; omega)], hO.out.mem, HLO.out, HB3.out, HFW.out⟩)
              have b2 : (frm != me) = true := by simpa using h2
              have b3 : (to == 0) = false := by simpa using h3
              have b4 : (to == 16) = false := by simpa using h4
              have b5 : (to == me) = false := by simpa using h5
              clear h1 h2 h3 h4 h5
              go_wp2
              go_roundw
              case rel => exact ⟨k + 1, F', l', A', c', ws, Aw, cw, by omega, by go_num, rfl, HQ⟩
              case measure => simp [intOf]; omega
            · rw [decide_eq_true h1]
              have HEQ2 := hide (show forMe me (l'.map (·.cp)) = (ws ++ [(⟨lan, frm, to, bs, Ab, cb⟩ : Fr)]).map (fun f => f.cp me) by rw [HEQ.out, if_pos ⟨h1, h2, by omega⟩])
              have hone := fr_one ⟨lan, frm, to, bs, Ab, cb⟩
              have b2 : (frm != me) = true := by simpa using h2
              clear h1 h2
              rcases hto with h3 | ⟨h3, h4⟩ | ⟨h3, h4, h5⟩
              · have b3 : (to == 0) = true := by simpa using h3
                clear h3
                go_wp2_with (first
                  | (at_builtin
                     refine wpList_append_any _ rfl (.tmp 69) (.tmp 71) 37 rfl w.heap.size 28 i0 _ 4 48 Try.underlying37 hi hz0 hz1 hz2 rfl (by omega) (.slice Aw ws.length cw) ws.length (frsC ws) rfl
                       (HOW.out.alloc _) (w3.heap.size + 1) (some ⟨w3.heap.size, 0, none⟩) 1 1 (Fr.cells ⟨lan, frm, to, bs, Ab, cb⟩) rfl (Reads.new w3 #[.int .i64 lan, .int .i64 frm, .int .i64 to, .slice Ab bs.length cb] 28 1 4 rfl) hone (by have := hO.out.wlen; simp only [maxLen]; omega) (by have := hO.out.wlen; omega) (by simp; have := HB3.out.size; omega) ?_
                     intro A6 c6 w6 hown6 hg6 hloc6))
                have HQ := hide (hO.out.put hl3 HEQ2.out HFM.out HLO.out HOW.out HAP.out HR3.out HB3.out HFW.out hown6 hg6 hloc6)
                clear hown6 hg6 hloc6
                go_roundw
                case rel => exact ⟨k + 1, F', l', A', c', ws ++ [⟨lan, frm, to, bs, Ab, cb⟩], A6, c6, by omega, by go_num, by simp, HQ⟩
                case measure => simp [intOf]; omega
              · have b3 : (to == 0) = false := by simpa using h3
                have b4 : (to == 16) = true := by simpa using h4
                clear h3 h4
                go_wp2_with (first
                  | (at_builtin
                     refine wpList_append_any _ rfl (.tmp 69) (.tmp 71) 37 rfl w.heap.size 28 i0 _ 4 48 Try.underlying37 hi hz0 hz1 hz2 rfl (by omega) (.slice Aw ws.length cw) ws.length (frsC ws) rfl
                       (HOW.out.alloc _) (w3.heap.size + 1) (some ⟨w3.heap.size, 0, none⟩) 1 1 (Fr.cells ⟨lan, frm, to, bs, Ab, cb⟩) rfl (Reads.new w3 #[.int .i64 lan, .int .i64 frm, .int .i64 to, .slice Ab bs.length cb] 28 1 4 rfl) hone (by have := hO.out.wlen; simp only [maxLen]; omega) (by have := hO.out.wlen; omega) (by simp; have := HB3.out.size; omega) ?_
                     intro A6 c6 w6 hown6 hg6 hloc6))
                have HQ := hide (hO.out.put hl3 HEQ2.out HFM.out HLO.out HOW.out HAP.out HR3.out HB3.out HFW.out hown6 hg6 hloc6)
                clear hown6 hg6 hloc6
                go_roundw
                case rel => exact ⟨k + 1, F', l', A', c', ws ++ [⟨lan, frm, to, bs, Ab, cb⟩], A6, c6, by omega, by go_num, by simp, HQ⟩
                case measure => simp [intOf]; omega
              · have b3 : (to == 0) = false := by simpa using h3
                have b4 : (to == 16) = false := by simpa using h4
                have b5 : (to == me) = true := by simpa using h5
                clear h3 h4 h5
                go_wp2_with (first
                  | (at_builtin
                     refine wpList_append_any _ rfl (.tmp 69) (.tmp 71) 37 rfl w.heap.size 28 i0 _ 4 48 Try.underlying37 hi hz0 hz1 hz2 rfl (by omega) (.slice Aw ws.length cw) ws.length (frsC ws) rfl
                       (HOW.out.alloc _) (w3.heap.size + 1) (some ⟨w3.heap.size, 0, none⟩) 1 1 (Fr.cells ⟨lan, frm, to, bs, Ab, cb⟩) rfl (Reads.new w3 #[.int .i64 lan, .int .i64 frm, .int .i64 to, .slice Ab bs.length cb] 28 1 4 rfl) hone (by have := hO.out.wlen; simp only [maxLen]; omega) (by have := hO.out.wlen; omega) (by simp; have := HB3.out.size; omega) ?_
                     intro A6 c6 w6 hown6 hg6 hloc6))
                have HQ := hide (hO.out.put hl3 HEQ2.out HFM.out HLO.out HOW.out HAP.out HR3.out HB3.out HFW.out hown6 hg6 hloc6)
                clear hown6 hg6 hloc6
                go_roundw
                case rel => exact ⟨k + 1, F', l', A', c', ws ++ [⟨lan, frm, to, bs, Ab, cb⟩], A6, c6, by omega, by go_num, by simp, HQ⟩
                case measure => simp [intOf]; omega
        · have hkn : k = nf := by omega
          subst hkn
          go_wp2_with fail
          refine (len_any w1.heap.size 1024 (onF zs) A1 l.length c1 _ hO.out.rep.box).mono ?_
          rintro r w2' ⟨rfl, hb2⟩
          have HO2 := hide (hO.out.below hb2)
          clear hb2
          go_wp2_with fail
          have hN : l.length ≤ 640 := by have := hO.out.len; omega
          have hwl : ws.length ≤ 40 := by have := hO.out.wlen; omega
          have HLO := hide hO.out.lo
          have HAP := hide hO.out.apart
          have HMEM := hide hO.out.mem
          have HQ0 := hide (show Ord2 w w2' w1.heap.size (w1.heap.size + 1) zs me 0 F l A1 c1 ws Aw cw from ⟨HO2.out.own, HO2.out.rep, by rw [HO2.out.eq, List.drop_zero], HO2.out.bel, HO2.out.few⟩)
          clear HO2 hO
          go_loopw [12, 76] (fun q i wq => ∃ (j qn : Nat) (l2 : List Raw) (A2 : Option Addr) (c2 : Nat), j ≤ l.length ∧ i = .int .i64 j ∧ q = .int .i64 qn ∧ Hid (l2.length + j = l.length) ∧ qn ≤ ws.length ∧ Hid (Ord2 w wq w1.heap.size (w1.heap.size + 1) zs me qn F l2 A2 c2 ws Aw cw)) (fun _ i _ => l.length - (intOf i).toNat)
          case atStart => exact ⟨0, 0, l, A1, c1, Nat.zero_le _, rfl, rfl, rfl, Nat.zero_le _, HQ0⟩
          case round =>
            obtain ⟨j, qn, l2, A2, c2, hj, rfl, rfl, hlj, hqn, hQ⟩ := hrel
            by_cases hjl : j < l.length
            · obtain ⟨r, tl, rfl⟩ : ∃ r tl, l2 = r :: tl := by
                cases l2 with
                | nil => have := hlj.out; simp at this; omega
                | cons r tl => exact ⟨r, tl, rfl⟩
              have hlj2 : Hid (tl.length + (j + 1) = l.length) := by have := hlj.out; simp only [List.length_cons] at this; show _ = _; omega
              have hrl : r.cp.bs.length ≤ 300 := hQ.out.few _ (by simp)
              go_wp2_with fail
              refine (take_in F w1.heap.size (w1.heap.size + 1) 1024 (onF zs) (r :: tl) A2 c2 0 r _ hQ.out.rep rfl (by omega) (by have := hlj.out; omega)).mono ?_
              rintro e w3 ⟨A5, c5, A6, c6, rfl, ho5, hR3, hK3⟩
              have HS := hide (hQ.out.step HAP.out HLO.out hR3 hK3)
              have HO5 := hide ho5
              clear ho5 hR3 hK3
              obtain ⟨⟨lan, frm, to, bs, for_, sp⟩, Ar, cr⟩ := r
              dsimp only at HS HO5 hrl ⊢
              have HNb := fun (o : Obj) => hide ((Below.refl w3.heap.size w3).alloc (Nat.le_refl _) o)
              by_cases hfm : for_ = me
              · obtain ⟨hqlt, hqe, hQn⟩ := HS.out.2.1 hfm
                have b1 : (for_ != me) = false := by simpa using hfm
                obtain ⟨f, hf⟩ : ∃ f, ws[qn]? = some f := ⟨_, List.getElem?_eq_getElem hqlt⟩
                have hcf := hqe f hf
                have hok := HOK.out f (HMEM.out f (List.mem_of_getElem? hf))
                have b2 : decide ((ws.length : Int) ≤ (qn : Int)) = false := by simpa using hqlt
                obtain ⟨gw, rfl, hgw1, hgw2⟩ := own_spare hQn.own (by omega)
                have hfw : ∀ i u, f.cells[i]? = some u → w3.cell? ⟨gw, qn * 4 + i, none⟩ = some u := fun i u hu => by
                  have hi4 : i < 4 := by have := (List.getElem?_eq_some_iff.1 hu).1; simpa [Fr.cells] using this
                  rw [hQn.own.cellAt (qn * 4 + i) (by omega), frsC_at ws qn i f hf hi4, hu]
                obtain ⟨flan, ffrm, fto, fbs, fA, fc⟩ := f
                have g0 : w3.cell? ⟨gw, qn * 4, none⟩ = some (.int .i64 flan) := hfw 0 _ rfl
                have g1 : w3.cell? ⟨gw, qn * 4 + 1, none⟩ = some (.int .i64 ffrm) := hfw 1 _ rfl
                have g2 : w3.cell? ⟨gw, qn * 4 + 2, none⟩ = some (.int .i64 fto) := hfw 2 _ rfl
                have g3 : w3.cell? ⟨gw, qn * 4 + 3, none⟩ = some (.slice fA fbs.length fc) := hfw 3 _ rfl
                have HQN := hide hQn
                have HCF := hide hcf
                have HOF := hide hok
                clear hQn hcf hok hqe hf hfm hfw
                go_wp2_with fail
                have hN4 := Blk.new w3 30 #[.int .i64 lan, .int .i64 frm, .int .i64 to, .slice A5 bs.length c5, .int .i64 for_, .bool sp]
                have HN4 := HNb (.cells #[.int .i64 lan, .int .i64 frm, .int .i64 to, .slice A5 bs.length c5, .int .i64 for_, .bool sp] 30)
                generalize w3.alloc (.cells #[.int .i64 lan, .int .i64 frm, .int .i64 to, .slice A5 bs.length c5, .int .i64 for_, .bool sp] 30) = W4 at hN4 HN4 ⊢
                have hc4 := (bcell HN4.out).1
                have y0 := (hc4 gw (qn * 4) hgw2).trans g0
                have y1 := (hc4 gw (qn * 4 + 1) hgw2).trans g1
                have y2 := (hc4 gw (qn * 4 + 2) hgw2).trans g2
                have y3 := (hc4 gw (qn * 4 + 3) hgw2).trans g3
                obtain ⟨z0, z1, z2, z3, z4, z5, _⟩ := hN4.cells6
                have HQ4 := hide (HQN.out.below HN4.out)
                have HO4 := hide ((Keeps.of_below (F := fun _ => False) HN4.out).own HO5.out (fun _ _ h => h))
                clear hc4 g0 g1 g2 g3 hN4 HQN
                go_still_tail 12, (by kernel_rfl)
                go_wp2_with fail
                refine (refSame_any ⟨lan, frm, to, bs, for_, sp⟩ ⟨flan, ffrm, fto, fbs, me, false⟩ A5 fA c5 fc _ (by show bs.length ≤ _; omega) (Reads.of_own HO4.out).drew (((HOF.out.1.below HQ4.out.bel).more HQ4.out.bel.size).drew)).mono ?_
                rintro e w6 ⟨rfl, hb6⟩
                have hdd : decide ((⟨lan, frm, to, bs, for_, sp⟩ : Cp) = ⟨flan, ffrm, fto, fbs, me, false⟩) = true := decide_eq_true HCF.out
                rw [hdd]
                have HQ6 := hide ((HQ4.out.below (Below.refl _ _).drew).below hb6)
                clear hb6 hdd y0 y1 y2 y3 z0 z1 z2 z3 z4 z5
                go_wp2_with fail
                go_roundw
                case rel => exact ⟨j + 1, qn + 1, tl, A6, c6, by omega, by go_num, by go_num, hlj2, by omega, HQ6⟩
                case measure => simp [intOf]; omega
              · have hQn := HS.out.1 hfm
                have b1 : (for_ != me) = true := by simpa using hfm
                have HQN := hide hQn
                clear hQn hfm
                go_wp2_with fail
                go_roundw
                case rel => exact ⟨j + 1, qn, tl, A6, c6, by omega, by go_num, rfl, hlj2, hqn, HQN.out.below (HNb _).out⟩
                case measure => simp [intOf]; omega
            · have hl0 : l2 = [] := List.eq_nil_of_length_eq_zero (by have := hlj.out; omega)
              subst hl0
              have hqe : qn = ws.length := by
                have h1 := congrArg List.length hQ.out.eq
                simp [forMe] at h1
                omega
              have b1 : ((qn : Int) == (ws.length : Int)) = true := by simp [hqe]
              clear hqe
              go_wp2_with fail
              refine (len_any w1.heap.size 1024 (onF zs) A2 0 c2 _ hQ.out.rep.box).mono ?_
              rintro e w3 ⟨rfl, hb3⟩
              have HB3 := hide (below0 hQ.out.bel hb3)
              clear hb3
              go_wp2_with fail
              go_ret
              exact ⟨rfl, HB3.out⟩
end Go.Proofs.Ytldanafbaadgoaa
