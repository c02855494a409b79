/-
  (*syndicref24.Lan).Send.
-/
import Derived.Test.YtldanafbaadgoaaN
namespace Go.Proofs.Ytldanafbaadgoaa
open Go.RowKit

section
variable {w3 w4 : World} {F : Nat → Prop} {pl base : Nat} {room : Int} {ids : List Int} {Ao : Option Addr} {co : Nat} {l : List Raw} {A A4 : Option Addr} {c c4 : Nat} {r : Raw} {o : Obj}
theorem RefPut.blk (h : RefRep w3 F pl base room ids Ao co l A c) (hg : (w3.alloc o).grownBy w4 (Value.slice A l.length c).ownBlock) : Blk w4 pl 49 (refCells room (.slice Ao ids.length co) (.slice A l.length c)) :=
  (h.box.alloc o).grown hg (fun e => by have := (own_base h.own e.symm).1; have := h.plb; omega)
theorem RefPut.cell (h : RefRep w3 F pl base room ids Ao co l A c) (hg : (w3.alloc o).grownBy w4 (Value.slice A l.length c).ownBlock) : w4.cell? ⟨pl, 2, none⟩ = some (.slice A l.length c) := (RefPut.blk h hg).cell 2
theorem RefPut.frozen (h : RefRep w3 F pl base room ids Ao co l A c) (hg : (w3.alloc o).grownBy w4 (Value.slice A l.length c).ownBlock) : w4.frozen? ⟨pl, 2, none⟩ = false := (RefPut.blk h hg).frozen 2
theorem RefRep.put (h : RefRep w3 F pl base room ids Ao co l A c) (hg : (w3.alloc o).grownBy w4 (Value.slice A l.length c).ownBlock) (hown : w4.ownsRow base 30 6 (.slice A4 (l.length + 1) c4) (l.length + 1) (rawsC (l ++ [r])))
    (hr : w3.ownsRow base 5 1 r.sl r.cp.bs.length (u8s r.cp.bs)) :
    RefRep (w4.setCell ⟨pl, 2, none⟩ (.slice A4 (l.length + 1) c4)) (fun g => F g ∨ (Value.slice A4 (l.length + 1) c4).ownBlock = some g ∨ r.sl.ownBlock = some g) pl base room ids Ao co (l ++ [r]) A4 c4 := by
  have hsz : (w4.setCell ⟨pl, 2, none⟩ (.slice A4 (l.length + 1) c4)).heap.size = w4.heap.size := by simp [World.setCell]
  have hz34 : w3.heap.size ≤ w4.heap.size := by have := hg.size; simp at this; omega
  have hk : ∀ {e : TypeId} {v : Value} {m : Nat} {xs : List Value}, e ≠ 30 → w3.ownsRow base e 1 v m xs → (w4.setCell ⟨pl, 2, none⟩ (.slice A4 (l.length + 1) c4)).ownsRow base e 1 v m xs := fun {e v m xs} he hv =>
    ownsRow_setCell_below ((hv.alloc o).kept hg (own_types (hv.alloc o) (h.own.alloc o) he)) (a := ⟨pl, 2, none⟩) h.plb _
  refine ⟨?_, hk (by decide) h.on, ?_, ?_, .inl h.hpl, (fun g hg' => .inl (h.hon g hg')), ?_, ?_, h.plb, ?_, ?_⟩
  · have h2 := (RefPut.blk h hg).set_ 2 (.slice A4 (l.length + 1) c4)
    have e : (refCells room (.slice Ao ids.length co) (.slice A l.length c)).setIfInBounds 2 (.slice A4 (l.length + 1) c4) = refCells room (.slice Ao ids.length co) (.slice A4 (l ++ [r]).length c4) := by simp [refCells]
    rw [← e]
    exact h2
  · have := ownsRow_setCell_below hown (a := ⟨pl, 2, none⟩) h.plb (.slice A4 (l.length + 1) c4)
    simpa using this
  · intro r' hr'
    rcases List.mem_append.1 hr' with hr' | hr'
    · exact hk (by decide) (h.byt r' hr')
    · obtain rfl := List.mem_singleton.1 hr'
      exact hk (by decide) hr
  · intro g hg'
    exact .inr (.inl (by simpa using hg'))
  · intro r' hr' g hg'
    rcases List.mem_append.1 hr' with hr' | hr'
    · exact .inl (h.hbyt r' hr' g hg')
    · obtain rfl := List.mem_singleton.1 hr'
      exact .inr (.inr hg')
  · intro g hg'
    rw [hsz]
    rcases hg' with h1 | h1 | h1
    · exact Nat.lt_of_lt_of_le (h.lt g h1) hz34
    · exact (own_base hown h1).2
    · exact Nat.lt_of_lt_of_le (own_base hr h1).2 hz34
  · rw [hsz]
    exact Nat.le_trans h.bz hz34
end

set_option maxHeartbeats 4000000 in
theorem refSend_any (F : Nat → Prop) (pl base : Nat) (room : Int) (ids : List Int) (Ao : Option Addr) (co : Nat) (l0 : List Raw) (A0 : Option Addr) (c0 : Nat) (lan frm to : Int) (A : Option Addr) (n c : Nat) (bs : List Int) (w : World)
    (h : RefRep w F pl base room ids Ao co l0 A0 c0) (hids : ids.length ≤ 16) (hr : Reads w w.heap.size 1 A n (u8s bs)) (hA : 0 < n → ∀ b off, A = some ⟨b, off, none⟩ → ¬ F b) (hn : n ≤ 100000) (hl0 : l0.length ≤ 100000) :
    Calls Try.prog 18 #[.pointer (some ⟨pl, 0, none⟩), .agg #[.int .i64 lan, .int .i64 frm, .int .i64 to, .slice A n c]] w fun r w' =>
      r = .returned (.int .i64 (((sendF room lan frm to bs ids (l0.map (·.cp))).length : Int) - (l0.length : Int))) ∧ RefAt w F pl base room ids (sendF room lan frm to bs ids (l0.map (·.cp))) w' := by
  have hlen : bs.length = n := by have := hr.1; simpa [u8s] using this
  subst hlen
  have Hh := hide h
  have HA := hide hA
  obtain ⟨i0, hi, hz0, hz1, hz2⟩ := info_parts raw_info
  clear h hA
  go_enter Try.func18, Try.ntmps18
  go_wp2_with fail
  have hbl := Blk.new w 28 #[.int .i64 lan, .int .i64 frm, .int .i64 to, .slice A bs.length c]
  have hB1 := (Below.refl w.heap.size w).alloc (Nat.le_refl _) (.cells #[.int .i64 lan, .int .i64 frm, .int .i64 to, .slice A bs.length c] 28)
  generalize w.alloc (.cells #[.int .i64 lan, .int .i64 frm, .int .i64 to, .slice A bs.length c] 28) = w2 at hbl hB1 ⊢
  have HBL := hide hbl
  have HB12 := hide hB1
  clear hbl hB1
  have hlt2 : w.heap.size < w2.heap.size := HBL.out.lt
  have HFw := hide (show ¬ F w.heap.size from fun hg => absurd (Hh.out.lt _ hg) (Nat.lt_irrefl _))
  have HR2 := hide (Hh.out.below HB12.out)
  go_loopw [5, 6] (fun v i wr => ∃ (k m : Nat) (lk : List Raw) (Ak : Option Addr) (ck : Nat) (Fk : Nat → Prop), k ≤ ids.length ∧ i = .int .i64 k ∧ v = .int .i64 m ∧ Hid (lk.length = l0.length + m) ∧ m ≤ k ∧
    RefRep wr Fk pl base room ids Ao co lk Ak ck ∧ Hid (lk.map (·.cp) = sendF room lan frm to bs (ids.take k) (l0.map (·.cp))) ∧ Hid (∀ g, Fk g → F g ∨ w2.heap.size ≤ g) ∧ Keeps F w2 wr) (fun _ i _ => ids.length - (intOf i).toNat)
  case atStart => exact ⟨0, 0, l0, A0, c0, F, Nat.zero_le _, rfl, rfl, rfl, Nat.le_refl _, HR2.out, rfl, fun g hg => .inl hg, Keeps.refl _ _⟩
  case round =>
    obtain ⟨k, m, lk, Ak, ck, Fk, hk, rfl, rfl, hlk, hmk, hR, hcp, hF, hK⟩ := hrel
    obtain ⟨hroom, hon, hsl⟩ := hR.cells
    by_cases hlt : k < ids.length
    · have hbx : Blk wr w.heap.size 28 #[.int .i64 lan, .int .i64 frm, .int .i64 to, .slice A bs.length c] := hK.blk HBL.out HFw.out
      obtain ⟨b, off, id, hA2, hbb, hid, hcell⟩ := (Reads.of_own hR.on).int_at hlt
      subst hA2
      have HT := hide (take_snoc _ _ _ hid)
      have e0 : wr.cell? ⟨w.heap.size, 0, none⟩ = some (.int .i64 lan) := by have := hbx.cell 0; simpa using this
      have e1 : wr.cell? ⟨w.heap.size, 1, none⟩ = some (.int .i64 frm) := by have := hbx.cell 1; simpa using this
      have e2 : wr.cell? ⟨w.heap.size, 2, none⟩ = some (.int .i64 to) := by have := hbx.cell 2; simpa using this
      have e3 : wr.cell? ⟨w.heap.size, 3, none⟩ = some (.slice A bs.length c) := by have := hbx.cell 3; simpa using this
      have HR := hide hR
      have HK := hide hK
      clear hR hK hid hbx
      have hll : lk.length ≤ 200000 := by rw [hlk.out]; omega
      have HS := hide (show sendF room lan frm to bs (ids.take (k + 1)) (l0.map (·.cp)) = sendStep room lan frm to bs (lk.map (·.cp)) id by rw [HT.out, sendF_snoc, hcp.out])
      have hcut : (to ≠ 0 ∧ to ≠ 16 ∧ to ≠ id) ∨ ((to = 0 ∨ to ≠ 0 ∧ to = 16 ∨ to ≠ 0 ∧ to ≠ 16 ∧ to = id)) := by omega
      rcases hcut with ⟨h2, h3, h4⟩ | hto
      · have HN := hide (show sendF room lan frm to bs (ids.take (k + 1)) (l0.map (·.cp)) = lk.map (·.cp) by rw [HS.out, sendStep, if_pos (.inr (.inl ⟨h2, h3, h4⟩))])
        have b2 : (to == 0) = false := by simpa using h2
        have b3 : (to == 16) = false := by simpa using h3
        have b4 : (to == id) = false := by simpa using h4
        clear h2 h3 h4
        go_wp2_with fail
        go_quiet (fail)
        go_wp2
        go_roundw
        case rel => exact ⟨k + 1, m, lk, Ak, ck, Fk, by omega, by go_num, rfl, hlk, by omega, HR.out.drewN _, HN.out.symm, hF, HK.out.drewN _⟩
        case measure => simp [intOf]; omega
      · have hnot : ¬ (to ≠ 0 ∧ to ≠ 16 ∧ to ≠ id) := by omega
        by_cases h1 : id = frm
        · have HN := hide (show sendF room lan frm to bs (ids.take (k + 1)) (l0.map (·.cp)) = lk.map (·.cp) by rw [HS.out, sendStep, if_pos (.inl h1)])
          have b1 : (id != frm) = false := by simpa using h1
          clear h1 hnot
          rcases hto with h2 | ⟨h2, h3⟩ | ⟨h2, h3, h4⟩
          · have b2 : (to == 0) = true := by simpa using h2
            clear h2
            go_wp2_with fail
            go_quiet (fail)
            go_wp2
            go_roundw
            case rel => exact ⟨k + 1, m, lk, Ak, ck, Fk, by omega, by go_num, rfl, hlk, by omega, HR.out.drewN _, HN.out.symm, hF, HK.out.drewN _⟩
            case measure => simp [intOf]; omega
          · have b2 : (to == 0) = false := by simpa using h2
            have b3 : (to == 16) = true := by simpa using h3
            clear h2 h3
            go_wp2_with fail
            go_quiet (fail)
            go_wp2
            go_roundw
            case rel => exact ⟨k + 1, m, lk, Ak, ck, Fk, by omega, by go_num, rfl, hlk, by omega, HR.out.drewN _, HN.out.symm, hF, HK.out.drewN _⟩
            case measure => simp [intOf]; omega
          · have b2 : (to == 0) = false := by simpa using h2
            have b3 : (to == 16) = false := by simpa using h3
            have b4 : (to == id) = true := by simpa using h4
            clear h2 h3 h4
            go_wp2_with fail
            go_quiet (fail)
            go_wp2
            go_roundw
            case rel => exact ⟨k + 1, m, lk, Ak, ck, Fk, by omega, by go_num, rfl, hlk, by omega, HR.out.drewN _, HN.out.symm, hF, HK.out.drewN _⟩
            case measure => simp [intOf]; omega
        · have b1 : (id != frm) = true := by simpa using h1
          by_cases hfull : room ≤ (lk.length : Int)
          · have HN := hide (show sendF room lan frm to bs (ids.take (k + 1)) (l0.map (·.cp)) = lk.map (·.cp) by rw [HS.out, sendStep, if_pos (.inr (.inr (by simpa using hfull)))])
            have b5 : decide ((lk.length : Int) < room) = false := decide_eq_false (by omega)
            clear hfull hnot h1
            rcases hto with h2 | ⟨h2, h3⟩ | ⟨h2, h3, h4⟩
            · have b2 : (to == 0) = true := by simpa using h2
              clear h2
              go_wp2_with fail
              go_quiet (fail)
              go_wp2
              go_roundw
              case rel => exact ⟨k + 1, m, lk, Ak, ck, Fk, by omega, by go_num, rfl, hlk, by omega, HR.out.drewN _, HN.out.symm, hF, HK.out.drewN _⟩
              case measure => simp [intOf]; omega
            · have b2 : (to == 0) = false := by simpa using h2
              have b3 : (to == 16) = true := by simpa using h3
              clear h2 h3
              go_wp2_with fail
              go_quiet (fail)
              go_wp2
              go_roundw
              case rel => exact ⟨k + 1, m, lk, Ak, ck, Fk, by omega, by go_num, rfl, hlk, by omega, HR.out.drewN _, HN.out.symm, hF, HK.out.drewN _⟩
              case measure => simp [intOf]; omega
            · have b2 : (to == 0) = false := by simpa using h2
              have b3 : (to == 16) = false := by simpa using h3
              have b4 : (to == id) = true := by simpa using h4
              clear h2 h3 h4
              go_wp2_with fail
              go_quiet (fail)
              go_wp2
              go_roundw
              case rel => exact ⟨k + 1, m, lk, Ak, ck, Fk, by omega, by go_num, rfl, hlk, by omega, HR.out.drewN _, HN.out.symm, hF, HK.out.drewN _⟩
              case measure => simp [intOf]; omega
          · have HN := hide (show sendF room lan frm to bs (ids.take (k + 1)) (l0.map (·.cp)) = lk.map (·.cp) ++ [⟨lan, frm, to, bs, id, false⟩] by rw [HS.out, sendStep, if_neg (by simp only [List.length_map]; omega)])
            have b5 : decide ((lk.length : Int) < room) = true := decide_eq_true (by omega)
            clear hnot h1
            rcases hto with h2 | ⟨h2, h3⟩ | ⟨h2, h3, h4⟩
            · have b2 : (to == 0) = true := by simpa using h2
              clear h2
              go_wp2_with fail
              go_quiet (fail)
              go_wp2_with fail
              have hRd : RefRep (wr.drewN nq) Fk pl base room ids (some ⟨b, off, none⟩) co lk Ak ck := HR.out.drewN _
              have hKd : Keeps F w2 (wr.drewN nq) := HK.out.drewN _
              have hSd : SendS w.heap.size lan frm to A bs.length c (wr.drewN nq) := ⟨e0, e1, e2, e3⟩
              have hwd : w.heap.size < (wr.drewN nq).heap.size := Nat.lt_of_lt_of_le hlt2 hKd.size
              have hsd : (wr.drewN nq).cell? ⟨pl, 2, none⟩ = some (.slice Ak lk.length ck) := hsl
              clear e0 e1 e2 e3 hroom hsl hon
              generalize wr.drewN nq = W3 at hRd hKd hSd hwd hsd ⊢
              have hRdd : RefRep W3.drew Fk pl base room ids (some ⟨b, off, none⟩) co lk Ak ck := hRd.below (Below.refl _ _).drew
              have hrd : Reads W3.drew W3.drew.heap.size 1 A bs.length (u8s bs) := by
                refine Reads.drew ?_
                rcases Nat.eq_zero_or_pos bs.length with h0 | h0
                · exact ⟨by rw [u8s_length]; omega, fun h => absurd h (by omega)⟩
                · exact ((hKd.reads (hr.below HB12.out) HB12.out.size (HA.out h0)).more (Nat.le_trans HB12.out.size hKd.size))
              have hpw : ¬ pl = w.heap.size := fun e => HFw.out (e ▸ Hh.out.hpl)
              obtain ⟨e0, e1, e2, e3⟩ := hSd
              go_region_law
                (first
                  | (refine step_append_any _ (by rfl) _ _ 47 (by rfl) base 30 i0 _ 6 64 Try.underlying47 hi hz0 hz1 hz2 rfl (by omega) (.slice Ak lk.length ck) lk.length (rawsC lk) (by rfl) (hR5.own.alloc _) (w5.heap.size + 1) (some ⟨w5.heap.size, 0, none⟩) 1 1 (Raw.cells ⟨⟨lan, frm, to, bs, id, false⟩, A5, c5⟩) (by rfl) hnew5 (by simp [Raw.cells, Value.oneCell']) (by simp only [maxLen]; omega) (by omega) (by simp; have := hR5.bz; omega) ?_; intro A6 c6 w6 hown6 hg6 hloc6; have hf6 := RefPut.frozen hR5 hg6; have hc6 := RefPut.cell hR5 hg6)
                  | (go_simp; go_at_call 26; refine (refCopied_any ⟨lan, frm, to, bs, id, false⟩ A c _ hn hrd).mono ?_; rintro r w5 ⟨A5, c5, rfl, ho5, hb5⟩; have hR5 := hRdd.below hb5; have hc5 : w5.cell? ⟨pl, 2, none⟩ = some (.slice Ak lk.length ck) := hR5.box.cell 2; have hc5a : (w5.alloc (.cells #[.int .i64 lan, .int .i64 frm, .int .i64 to, .slice A5 bs.length c5, .int .i64 id, .bool false] 30)).cell? ⟨pl, 2, none⟩ = some (.slice Ak lk.length ck) := (World.cell?_alloc_lt w5 _ ⟨pl, 2, none⟩ hR5.box.lt).trans hc5; have hnew5 : Reads (w5.alloc (.cells #[.int .i64 lan, .int .i64 frm, .int .i64 to, .slice A5 bs.length c5, .int .i64 id, .bool false] 30)) (w5.heap.size + 1) 6 (some ⟨w5.heap.size, 0, none⟩) 1 (Raw.cells ⟨⟨lan, frm, to, bs, id, false⟩, A5, c5⟩) := Reads.new w5 #[.int .i64 lan, .int .i64 frm, .int .i64 to, .slice A5 bs.length c5, .int .i64 id, .bool false] 30 1 6 rfl))
              all_goals
                have hput := hR5.put (r := ⟨⟨lan, frm, to, bs, id, false⟩, A5, c5⟩) hg6 (by rw [rawsC_append]; simpa [rawsC] using hown6) (own_mono ho5 hRd.bz)
                have HF6 := hide (show ∀ g, (Fk g ∨ (Value.slice A6 (lk.length + 1) c6).ownBlock = some g ∨ (Value.slice A5 bs.length c5).ownBlock = some g) → F g ∨ w2.heap.size ≤ g by
                  intro g hg
                  rcases hg with hg | hg | hg
                  · exact hF.out g hg
                  · rcases hloc6 with h | h
                    · rw [h] at hg
                      exact hF.out g (hR5.hrow g hg)
                    · rw [h] at hg
                      have := hKd.size
                      have := hb5.size
                      simp at hg this
                      exact .inr (by omega)
                  · have := (own_base ho5 hg).1
                    have := hKd.size
                    exact .inr (by simp at *; omega))
                have HK6 := hide ((((hKd.drew).below hb5).alloc (.cells #[.int .i64 lan, .int .i64 frm, .int .i64 to, .slice A5 bs.length c5, .int .i64 id, .bool false] 30)).grown hg6 (fun g hg => hF.out g (hR5.hrow g hg)) |>.setCell (p := ⟨pl, 2, none⟩) (.inl Hh.out.hpl) (.slice A6 (lk.length + 1) c6))
                have HP := hide hput
                clear hput hown6 hg6 hloc6 hf6 hc6 ho5 hb5 hR5 hc5 hc5a hnew5
                go_wp2
                go_roundw
                case rel => exact ⟨k + 1, m + 1, _, _, _, _, by omega, by go_num, by go_num, by (show _ = _; simp [hlk.out]; omega), by omega, HP.out, by (show _ = _; rw [HN.out]; simp), HF6.out, HK6.out⟩
                case measure => simp [intOf]; omega
            · have b2 : (to == 0) = false := by simpa using h2
              have b3 : (to == 16) = true := by simpa using h3
              clear h2 h3
              go_wp2_with fail
              go_quiet (fail)
              go_wp2_with fail
              have hRd : RefRep (wr.drewN nq) Fk pl base room ids (some ⟨b, off, none⟩) co lk Ak ck := HR.out.drewN _
              have hKd : Keeps F w2 (wr.drewN nq) := HK.out.drewN _
              have hSd : SendS w.heap.size lan frm to A bs.length c (wr.drewN nq) := ⟨e0, e1, e2, e3⟩
              have hwd : w.heap.size < (wr.drewN nq).heap.size := Nat.lt_of_lt_of_le hlt2 hKd.size
              have hsd : (wr.drewN nq).cell? ⟨pl, 2, none⟩ = some (.slice Ak lk.length ck) := hsl
              clear e0 e1 e2 e3 hroom hsl hon
              generalize wr.drewN nq = W3 at hRd hKd hSd hwd hsd ⊢
              have hRdd : RefRep W3.drew Fk pl base room ids (some ⟨b, off, none⟩) co lk Ak ck := hRd.below (Below.refl _ _).drew
              have hrd : Reads W3.drew W3.drew.heap.size 1 A bs.length (u8s bs) := by
                refine Reads.drew ?_
                rcases Nat.eq_zero_or_pos bs.length with h0 | h0
                · exact ⟨by rw [u8s_length]; omega, fun h => absurd h (by omega)⟩
                · exact ((hKd.reads (hr.below HB12.out) HB12.out.size (HA.out h0)).more (Nat.le_trans HB12.out.size hKd.size))
              have hpw : ¬ pl = w.heap.size := fun e => HFw.out (e ▸ Hh.out.hpl)
              obtain ⟨e0, e1, e2, e3⟩ := hSd
              go_region_law
                (first
                  | (refine step_append_any _ (by rfl) _ _ 47 (by rfl) base 30 i0 _ 6 64 Try.underlying47 hi hz0 hz1 hz2 rfl (by omega) (.slice Ak lk.length ck) lk.length (rawsC lk) (by rfl) (hR5.own.alloc _) (w5.heap.size + 1) (some ⟨w5.heap.size, 0, none⟩) 1 1 (Raw.cells ⟨⟨lan, frm, to, bs, id, false⟩, A5, c5⟩) (by rfl) hnew5 (by simp [Raw.cells, Value.oneCell']) (by simp only [maxLen]; omega) (by omega) (by simp; have := hR5.bz; omega) ?_; intro A6 c6 w6 hown6 hg6 hloc6; have hf6 := RefPut.frozen hR5 hg6; have hc6 := RefPut.cell hR5 hg6)
                  | (go_simp; go_at_call 26; refine (refCopied_any ⟨lan, frm, to, bs, id, false⟩ A c _ hn hrd).mono ?_; rintro r w5 ⟨A5, c5, rfl, ho5, hb5⟩; have hR5 := hRdd.below hb5; have hc5 : w5.cell? ⟨pl, 2, none⟩ = some (.slice Ak lk.length ck) := hR5.box.cell 2; have hc5a : (w5.alloc (.cells #[.int .i64 lan, .int .i64 frm, .int .i64 to, .slice A5 bs.length c5, .int .i64 id, .bool false] 30)).cell? ⟨pl, 2, none⟩ = some (.slice Ak lk.length ck) := (World.cell?_alloc_lt w5 _ ⟨pl, 2, none⟩ hR5.box.lt).trans hc5; have hnew5 : Reads (w5.alloc (.cells #[.int .i64 lan, .int .i64 frm, .int .i64 to, .slice A5 bs.length c5, .int .i64 id, .bool false] 30)) (w5.heap.size + 1) 6 (some ⟨w5.heap.size, 0, none⟩) 1 (Raw.cells ⟨⟨lan, frm, to, bs, id, false⟩, A5, c5⟩) := Reads.new w5 #[.int .i64 lan, .int .i64 frm, .int .i64 to, .slice A5 bs.length c5, .int .i64 id, .bool false] 30 1 6 rfl))
              all_goals
                have hput := hR5.put (r := ⟨⟨lan, frm, to, bs, id, false⟩, A5, c5⟩) hg6 (by rw [rawsC_append]; simpa [rawsC] using hown6) (own_mono ho5 hRd.bz)
                have HF6 := hide (show ∀ g, (Fk g ∨ (Value.slice A6 (lk.length + 1) c6).ownBlock = some g ∨ (Value.slice A5 bs.length c5).ownBlock = some g) → F g ∨ w2.heap.size ≤ g by
                  intro g hg
                  rcases hg with hg | hg | hg
                  · exact hF.out g hg
                  · rcases hloc6 with h | h
                    · rw [h] at hg
                      exact hF.out g (hR5.hrow g hg)
                    · rw [h] at hg
                      have := hKd.size
                      have := hb5.size
                      simp at hg this
                      exact .inr (by omega)
                  · have := (own_base ho5 hg).1
                    have := hKd.size
                    exact .inr (by simp at *; omega))
                have HK6 := hide ((((hKd.drew).below hb5).alloc (.cells #[.int .i64 lan, .int .i64 frm, .int .i64 to, .slice A5 bs.length c5, .int .i64 id, .bool false] 30)).grown hg6 (fun g hg => hF.out g (hR5.hrow g hg)) |>.setCell (p := ⟨pl, 2, none⟩) (.inl Hh.out.hpl) (.slice A6 (lk.length + 1) c6))
                have HP := hide hput
                clear hput hown6 hg6 hloc6 hf6 hc6 ho5 hb5 hR5 hc5 hc5a hnew5
                go_wp2
                go_roundw
                case rel => exact ⟨k + 1, m + 1, _, _, _, _, by omega, by go_num, by go_num, by (show _ = _; simp [hlk.out]; omega), by omega, HP.out, by (show _ = _; rw [HN.out]; simp), HF6.out, HK6.out⟩
                case measure => simp [intOf]; omega
            · have b2 : (to == 0) = false := by simpa using h2
              have b3 : (to == 16) = false := by simpa using h3
              have b4 : (to == id) = true := by simpa using h4
              clear h2 h3 h4
              go_wp2_with fail
              go_quiet (fail)
              go_wp2_with fail
              have hRd : RefRep (wr.drewN nq) Fk pl base room ids (some ⟨b, off, none⟩) co lk Ak ck := HR.out.drewN _
              have hKd : Keeps F w2 (wr.drewN nq) := HK.out.drewN _
              have hSd : SendS w.heap.size lan frm to A bs.length c (wr.drewN nq) := ⟨e0, e1, e2, e3⟩
              have hwd : w.heap.size < (wr.drewN nq).heap.size := Nat.lt_of_lt_of_le hlt2 hKd.size
              have hsd : (wr.drewN nq).cell? ⟨pl, 2, none⟩ = some (.slice Ak lk.length ck) := hsl
              clear e0 e1 e2 e3 hroom hsl hon
              generalize wr.drewN nq = W3 at hRd hKd hSd hwd hsd ⊢
              have hRdd : RefRep W3.drew Fk pl base room ids (some ⟨b, off, none⟩) co lk Ak ck := hRd.below (Below.refl _ _).drew
              have hrd : Reads W3.drew W3.drew.heap.size 1 A bs.length (u8s bs) := by
                refine Reads.drew ?_
                rcases Nat.eq_zero_or_pos bs.length with h0 | h0
                · exact ⟨by rw [u8s_length]; omega, fun h => absurd h (by omega)⟩
                · exact ((hKd.reads (hr.below HB12.out) HB12.out.size (HA.out h0)).more (Nat.le_trans HB12.out.size hKd.size))
              have hpw : ¬ pl = w.heap.size := fun e => HFw.out (e ▸ Hh.out.hpl)
              obtain ⟨e0, e1, e2, e3⟩ := hSd
              go_region_law
                (first
                  | (refine step_append_any _ (by rfl) _ _ 47 (by rfl) base 30 i0 _ 6 64 Try.underlying47 hi hz0 hz1 hz2 rfl (by omega) (.slice Ak lk.length ck) lk.length (rawsC lk) (by rfl) (hR5.own.alloc _) (w5.heap.size + 1) (some ⟨w5.heap.size, 0, none⟩) 1 1 (Raw.cells ⟨⟨lan, frm, to, bs, id, false⟩, A5, c5⟩) (by rfl) hnew5 (by simp [Raw.cells, Value.oneCell']) (by simp only [maxLen]; omega) (by omega) (by simp; have := hR5.bz; omega) ?_; intro A6 c6 w6 hown6 hg6 hloc6; have hf6 := RefPut.frozen hR5 hg6; have hc6 := RefPut.cell hR5 hg6)
                  | (go_simp; go_at_call 26; refine (refCopied_any ⟨lan, frm, to, bs, id, false⟩ A c _ hn hrd).mono ?_; rintro r w5 ⟨A5, c5, rfl, ho5, hb5⟩; have hR5 := hRdd.below hb5; have hc5 : w5.cell? ⟨pl, 2, none⟩ = some (.slice Ak lk.length ck) := hR5.box.cell 2; have hc5a : (w5.alloc (.cells #[.int .i64 lan, .int .i64 frm, .int .i64 to, .slice A5 bs.length c5, .int .i64 id, .bool false] 30)).cell? ⟨pl, 2, none⟩ = some (.slice Ak lk.length ck) := (World.cell?_alloc_lt w5 _ ⟨pl, 2, none⟩ hR5.box.lt).trans hc5; have hnew5 : Reads (w5.alloc (.cells #[.int .i64 lan, .int .i64 frm, .int .i64 to, .slice A5 bs.length c5, .int .i64 id, .bool false] 30)) (w5.heap.size + 1) 6 (some ⟨w5.heap.size, 0, none⟩) 1 (Raw.cells ⟨⟨lan, frm, to, bs, id, false⟩, A5, c5⟩) := Reads.new w5 #[.int .i64 lan, .int .i64 frm, .int .i64 to, .slice A5 bs.length c5, .int .i64 id, .bool false] 30 1 6 rfl))
              all_goals
                have hput := hR5.put (r := ⟨⟨lan, frm, to, bs, id, false⟩, A5, c5⟩) hg6 (by rw [rawsC_append]; simpa [rawsC] using hown6) (own_mono ho5 hRd.bz)
                have HF6 := hide (show ∀ g, (Fk g ∨ (Value.slice A6 (lk.length + 1) c6).ownBlock = some g ∨ (Value.slice A5 bs.length c5).ownBlock = some g) → F g ∨ w2.heap.size ≤ g by
                  intro g hg
                  rcases hg with hg | hg | hg
                  · exact hF.out g hg
                  · rcases hloc6 with h | h
                    · rw [h] at hg
                      exact hF.out g (hR5.hrow g hg)
                    · rw [h] at hg
                      have := hKd.size
                      have := hb5.size
                      simp at hg this
                      exact .inr (by omega)
                  · have := (own_base ho5 hg).1
                    have := hKd.size
                    exact .inr (by simp at *; omega))
                have HK6 := hide ((((hKd.drew).below hb5).alloc (.cells #[.int .i64 lan, .int .i64 frm, .int .i64 to, .slice A5 bs.length c5, .int .i64 id, .bool false] 30)).grown hg6 (fun g hg => hF.out g (hR5.hrow g hg)) |>.setCell (p := ⟨pl, 2, none⟩) (.inl Hh.out.hpl) (.slice A6 (lk.length + 1) c6))
                have HP := hide hput
                clear hput hown6 hg6 hloc6 hf6 hc6 ho5 hb5 hR5 hc5 hc5a hnew5
                go_wp2
                go_roundw
                case rel => exact ⟨k + 1, m + 1, _, _, _, _, by omega, by go_num, by go_num, by (show _ = _; simp [hlk.out]; omega), by omega, HP.out, by (show _ = _; rw [HN.out]; simp), HF6.out, HK6.out⟩
                case measure => simp [intOf]; omega
    · have hke : ids.take k = ids := List.take_of_length_le (by omega)
      have hcp2 := hcp.out
      rw [hke] at hcp2
      have HC := hide hcp2
      clear hcp2 hke
      have HL : Hid (RefAt w F pl base room ids (sendF room lan frm to bs ids (l0.map (·.cp))) wr) := by
        refine ⟨Fk, Ao, co, lk, Ak, ck, hR, HC.out, fun g hg => ?_, (Keeps.of_below (F := F) HB12.out).trans hK (fun g hg => .inl hg)⟩
        rcases hF.out g hg with h | h
        · exact .inl h
        · exact .inr (by have := HB12.out.size; omega)
      have HM := hide (show (m : Int) = ((sendF room lan frm to bs ids (l0.map (·.cp))).length : Int) - (l0.length : Int) by rw [← HC.out, List.length_map, hlk.out]; omega)
      go_wp2
      go_ret
      exact ⟨ret_int HM.out, HL.out⟩
end Go.Proofs.Ytldanafbaadgoaa
