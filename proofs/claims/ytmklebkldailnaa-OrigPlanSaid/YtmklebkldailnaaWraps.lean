/-
  The walk of OrigWraps.
-/
import Derived.Test.YtmklebkldailnaaWakes
import Derived.Test.YtmklebkldailnaaRow
import Derived.Deep.CutBlock
namespace Go.Proofs.Ytmklebkldailnaa
open Go.RowKit
set_option linter.unusedSimpArgs false
set_option linter.unusedVariables false

theorem wraps1 (m : MV) (now : Int) (h1 : m.wanted = true) (h2 : m.is_ = true) (h3 : m.ever = false) (h4 : m.held.hd.seq = 2147483647) (h5 : m.held.hd.age < 60) (h6 : m.held.links ≠ m.want.links) : planF m now = (flushF m, 2) := by
  have h5' : m.held.hd.age ≠ 60 := by omega
  simp [planF, restF, numberF, livesF, h1, h2, h3, h4, h5', h6]
theorem wraps2 (m : MV) (now : Int) (h1 : m.wanted = true) (h2 : m.is_ = true) (h3 : m.ever = false) (h4 : m.held.hd.seq = 2147483647) (h5 : m.held.hd.age = 60) : planF m now = (default, 3) := by
  simp [planF, restF, numberF, livesF, h1, h2, h3, h4, h5]
theorem wraps3 (m : MV) (now : Int) (h1 : m.wanted = true) (h2 : m.is_ = false) (h3 : m.ever = true) (h4 : m.last = 2147483647) (h5 : 2 ≤ now - m.at_) : planF m now = (tellF m (-2147483647), 1) := by
  have h5' : ¬ (now - m.at_ < 2) := by omega
  simp [planF, restF, numberF, livesF, h1, h2, h3, h4, h5']

/-- the code from a region on -/
def startsAt (n : Nat) : Code → Bool
  | .region k _ _ => k == n
  | .seq a _ => startsAt n a
  | _ => false
def tailAt (n : Nat) : Code → Option Code
  | .seq a b => if startsAt n a then some (.seq a b) else match tailAt n b with
    | some c => some c
    | none => tailAt n a
  | _ => none
noncomputable def tailOf (f : Func) (n : Nat) : Code := (f.body.bind (tailAt n)).getD .skip
theorem sealF_seq (l : LV) : (sealF l).hd.seq = l.hd.seq := by unfold sealF; split <;> rfl
theorem mod_nat (a b : Int) (h : 0 < b) : ∃ n : Nat, a % b = (n : Int) ∧ (n : Int) < b := by
  have h1 := Int.emod_nonneg a (show b ≠ 0 by omega)
  have h2 := Int.emod_lt_of_pos a h
  exact ⟨(a % b).toNat, by omega, by omega⟩
theorem near10 {k nn : Nat} (h : k < nn) (h2 : (nn : Int) < 20) : -1099511627776 ≤ 10 + (k : Int) ∧ 10 + (k : Int) ≤ 1099511627776 := by omega
set_option maxRecDepth 100000 in
set_option maxHeartbeats 4000000 in
theorem wraps3_any (w wr : World) (b : Int) (A B Al Bl : Option Addr) (c d cl dl g11 g12 : Nat) (hv : LV) (cs12 : Array Value) {u0 u1 u2 u3 u4 u5 u6 u7 u8 u9 u10 u13 u14 u15 u16 u17 u18 u19 u20 u21 u22 u23 u24 u25 u26 u27 u28 u29 u30 u31 u32 u33 u34 u35 u36 u37 u38 u39 u40 u41 u42 u43 u44 u45 u46 u47 u48 u49 u50 u51 u52 u53 u54 u55 u56 u57 u58 u59 u60 u61 u62 u63 u64 u65 u66 u67 u68 u69 u70 u71 u72 u73 u74 u75 u76 u77 u78 u79 u80 u81 u82 u83 u84 u85 u86 u87 u88 u89 u90 u91 u92 u93 u94 u95 u96 u97 u98 u99 u100 u101 u102 u103 u104 u105 u106 u107 u108 u109 : Value}
    (HKr : Hid (Blk wr g11 29 #[.int .i64 0, .int .i64 1, .int .i64 3, .int .i64 3, .int .i64 0, .int .i64 0, .int .i64 0, .slice A 1 c, .slice B 0 d, .bool true, .int .i64 hv.hd.age, .int .i64 hv.hd.kind, .int .i64 hv.hd.id, .int .i64 hv.hd.adv, .int .i64 hv.hd.seq, .int .i64 hv.hd.sum, .int .i64 hv.hd.long, .slice Al hv.links.length cl, .slice Bl hv.mem.length dl, .bool true, .int .i64 0, .int .i64 0, .bool false])) (HOW : Hid (LOwn wr w.heap.size (wantF b) ⟨A, c, B, d⟩)) (HK12 : Hid (Blk wr g12 27 cs12)) (HS12 : Hid (cs12.size = 9)) (HB : Hid (Below w.heap.size w wr)) (HG11 : Hid (w.heap.size ≤ g11)) (HG12 : Hid (w.heap.size ≤ g12))
    (cde : Code) (hcd : tailOf Try.f4 22 = cde) : Code.wp Try.prog cde (bodyPost Try.prog Try.f4 fun r w' => r = .returned (.bool true) ∧ Below w.heap.size w w') ⟨#[u0, u1, u2, u3, u4, u5, u6, u7, u8, u9, u10, .pointer (some ⟨g11, 0, none⟩), .pointer (some ⟨g12, 0, none⟩), u13, u14, u15, u16, u17, u18, u19, u20, u21, u22, u23, u24, u25, u26, u27, u28, u29, u30, u31, u32, u33, u34, u35, u36, u37, u38, u39, u40, u41, u42, u43, u44, u45, u46, u47, u48, u49, u50, u51, u52, u53, u54, u55, u56, u57, u58, u59, u60, u61, u62, u63, u64, u65, u66, u67, u68, u69, u70, u71, u72, u73, u74, u75, u76, u77, u78, u79, u80, u81, u82, u83, u84, u85, u86, u87, u88, u89, u90, u91, u92, u93, u94, u95, u96, u97, u98, u99, u100, u101, u102, u103, u104, u105, u106, u107, u108, u109], []⟩ wr := by
  subst hcd
  conv => arg 2; whnf
  have hi : (Try.prog.info? 27).map (·.size) = some 9 := by kernel_rfl
  have HT := hide (show StructOf Try.prog 29 23 from ⟨_, Try.underlying29, by kernel_rfl⟩)
  have HTN := hide (show (#[.int .i64 0, .int .i64 1, .int .i64 3, .int .i64 3, .int .i64 0, .int .i64 0, .int .i64 0, .slice A 1 c, .slice B 0 d, .bool true, .int .i64 0, .int .i64 0, .int .i64 0, .int .i64 0, .int .i64 0, .int .i64 0, .int .i64 0, .slice none 0 0, .slice none 0 0, .bool false, .int .i64 2147483647, .int .i64 0, .bool true] : Array Value).size = 23 from rfl)
  have e19 : wr.cell? ⟨g11, 19, none⟩ = some (.bool true) := HKr.out.cell 19
  have f19 : wr.frozen? ⟨g11, 19, none⟩ = false := HKr.out.frozen 19
  have HX1 := hide (show Blk (wr.setCell ⟨g11, 19, none⟩ (.bool false)) g11 29 #[.int .i64 0, .int .i64 1, .int .i64 3, .int .i64 3, .int .i64 0, .int .i64 0, .int .i64 0, .slice A 1 c, .slice B 0 d, .bool true, .int .i64 hv.hd.age, .int .i64 hv.hd.kind, .int .i64 hv.hd.id, .int .i64 hv.hd.adv, .int .i64 hv.hd.seq, .int .i64 hv.hd.sum, .int .i64 hv.hd.long, .slice Al hv.links.length cl, .slice Bl hv.mem.length dl, .bool false, .int .i64 0, .int .i64 0, .bool false] from HKr.out.set_ 19 (.bool false))
  have hsz : 10 + 9 ≤ (#[.int .i64 0, .int .i64 1, .int .i64 3, .int .i64 3, .int .i64 0, .int .i64 0, .int .i64 0, .slice A 1 c, .slice B 0 d, .bool true, .int .i64 hv.hd.age, .int .i64 hv.hd.kind, .int .i64 hv.hd.id, .int .i64 hv.hd.adv, .int .i64 hv.hd.seq, .int .i64 hv.hd.sum, .int .i64 hv.hd.long, .slice Al hv.links.length cl, .slice Bl hv.mem.length dl, .bool false, .int .i64 0, .int .i64 0, .bool false] : Array Value).size ∧ (#[.int .i64 0, .int .i64 0, .int .i64 0, .int .i64 0, .int .i64 0, .int .i64 0, .int .i64 0, .slice none 0 0, .slice none 0 0] : Array Value).size = 9 ∧ (#[.int .i64 0, .int .i64 0, .int .i64 0, .int .i64 0, .int .i64 0, .int .i64 0, .int .i64 0, .slice none 0 0, .slice none 0 0] : Array Value).all (·.oneCell') = true := ⟨by simp, rfl, by simp [Value.oneCell']⟩
  have hK := (((Keeps.refl (fun x => x = g11) wr).setCell (p := ⟨g11, 19, none⟩) (.inl rfl) (.bool false)).row (.inl rfl) (layL (#[.int .i64 0, .int .i64 1, .int .i64 3, .int .i64 3, .int .i64 0, .int .i64 0, .int .i64 0, .slice A 1 c, .slice B 0 d, .bool true, .int .i64 hv.hd.age, .int .i64 hv.hd.kind, .int .i64 hv.hd.id, .int .i64 hv.hd.adv, .int .i64 hv.hd.seq, .int .i64 hv.hd.sum, .int .i64 hv.hd.long, .slice Al hv.links.length cl, .slice Bl hv.mem.length dl, .bool false, .int .i64 0, .int .i64 0, .bool false] : Array Value).toList 10 (#[.int .i64 0, .int .i64 0, .int .i64 0, .int .i64 0, .int .i64 0, .int .i64 0, .int .i64 0, .slice none 0 0, .slice none 0 0] : Array Value).toList).toArray)
  have HKP := hide hK
  clear hK
  have HKY := hide (show Blk _ g11 29 #[.int .i64 0, .int .i64 1, .int .i64 3, .int .i64 3, .int .i64 0, .int .i64 0, .int .i64 0, .slice A 1 c, .slice B 0 d, .bool true, .int .i64 0, .int .i64 0, .int .i64 0, .int .i64 0, .int .i64 0, .int .i64 0, .int .i64 0, .slice none 0 0, .slice none 0 0, .bool false, .int .i64 0, .int .i64 0, .bool false] from HX1.out.setRow_ (layL (#[.int .i64 0, .int .i64 1, .int .i64 3, .int .i64 3, .int .i64 0, .int .i64 0, .int .i64 0, .slice A 1 c, .slice B 0 d, .bool true, .int .i64 hv.hd.age, .int .i64 hv.hd.kind, .int .i64 hv.hd.id, .int .i64 hv.hd.adv, .int .i64 hv.hd.seq, .int .i64 hv.hd.sum, .int .i64 hv.hd.long, .slice Al hv.links.length cl, .slice Bl hv.mem.length dl, .bool false, .int .i64 0, .int .i64 0, .bool false] : Array Value).toList 10 (#[.int .i64 0, .int .i64 0, .int .i64 0, .int .i64 0, .int .i64 0, .int .i64 0, .int .i64 0, .slice none 0 0, .slice none 0 0] : Array Value).toList).toArray)
  have e22 := hide (show _ = some (Value.bool false) from HKY.out.cell 22)
  have f22 := hide (HKY.out.frozen 22)
  have e20 := hide (show _ = some (Value.int .i64 0) from HKY.out.cell 20)
  have f20 := hide (HKY.out.frozen 20)
  go_upto_region 23 with ((with_reducible refine wpList_store_part rfl 27 (.tmp 94) (.tmp 92) rfl g11 10 #[.int .i64 0, .int .i64 0, .int .i64 0, .int .i64 0, .int .i64 0, .int .i64 0, .int .i64 0, .slice none 0 0, .slice none 0 0] 9 rfl rfl 29 #[.int .i64 0, .int .i64 1, .int .i64 3, .int .i64 3, .int .i64 0, .int .i64 0, .int .i64 0, .slice A 1 c, .slice B 0 d, .bool true, .int .i64 hv.hd.age, .int .i64 hv.hd.kind, .int .i64 hv.hd.id, .int .i64 hv.hd.adv, .int .i64 hv.hd.seq, .int .i64 hv.hd.sum, .int .i64 hv.hd.long, .slice Al hv.links.length cl, .slice Bl hv.mem.length dl, .bool false, .int .i64 0, .int .i64 0, .bool false] HX1.out hi hsz ?_); generalize (wr.setCell ⟨g11, 19, none⟩ (.bool false)).setRow g11 (layL (#[.int .i64 0, .int .i64 1, .int .i64 3, .int .i64 3, .int .i64 0, .int .i64 0, .int .i64 0, .slice A 1 c, .slice B 0 d, .bool true, .int .i64 hv.hd.age, .int .i64 hv.hd.kind, .int .i64 hv.hd.id, .int .i64 hv.hd.adv, .int .i64 hv.hd.seq, .int .i64 hv.hd.sum, .int .i64 hv.hd.long, .slice Al hv.links.length cl, .slice Bl hv.mem.length dl, .bool false, .int .i64 0, .int .i64 0, .bool false] : Array Value).toList 10 (#[.int .i64 0, .int .i64 0, .int .i64 0, .int .i64 0, .int .i64 0, .int .i64 0, .int .i64 0, .slice none 0 0, .slice none 0 0] : Array Value).toList).toArray = WY at HKY HKP e22 f22 e20 f20 ⊢; have e22' := e22.out; have f22' := f22.out; have e20' := e20.out; have f20' := f20.out)
  have HKZ := hide (show Blk _ g11 29 #[.int .i64 0, .int .i64 1, .int .i64 3, .int .i64 3, .int .i64 0, .int .i64 0, .int .i64 0, .slice A 1 c, .slice B 0 d, .bool true, .int .i64 0, .int .i64 0, .int .i64 0, .int .i64 0, .int .i64 0, .int .i64 0, .int .i64 0, .slice none 0 0, .slice none 0 0, .bool false, .int .i64 2147483647, .int .i64 0, .bool true] from (HKY.out.set_ 22 (.bool true)).set_ 20 (.int .i64 2147483647))
  have hKz := (HKP.out.setCell (p := ⟨g11, 22, none⟩) (.inl rfl) (.bool true)).setCell (p := ⟨g11, 20, none⟩) (.inl rfl) (.int .i64 2147483647)
  have HBZ := hide (below_keeps HB.out hKz (fun x hx => by cases hx; exact HG11.out))
  have HOZ := hide (show LOwn _ w.heap.size (wantF b) ⟨A, c, B, d⟩ from ⟨hKz.own HOW.out.links (fun x hx e => own_blk_ne HOW.out.links HKr.out (by decide) (e ▸ hx)), hKz.own HOW.out.mem (fun x hx e => own_blk_ne HOW.out.mem HKr.out (by decide) (e ▸ hx))⟩)
  have HZ12 := hide (hKz.blk HK12.out (Blk.ne_ HK12.out HKr.out (by decide)))
  clear hKz HKY HKP e22' f22' e20' f20' e22 f22 e20 f20 e19 f19 hsz HX1 HKr HOW HK12 HB
  generalize (WY.setCell ⟨g11, 22, none⟩ (.bool true)).setCell ⟨g11, 20, none⟩ (.int .i64 2147483647) = WZ at HKZ HBZ HOZ HZ12 ⊢
  have hp := plan_any ⟨⟨⟨0, 1, 3, 3, 0, 0, 0⟩, [⟨3, 16, 19, 1 + b % 3⟩], []⟩, true, ⟨⟨0, 0, 0, 0, 0, 0, 0⟩, [], []⟩, false, 2147483647, 0, true⟩ ⟨A, c, B, d⟩ ⟨none, 0, none, 0⟩ 40 WZ ⟨by simp, by simp, by simp, by simp⟩ ⟨HOZ.out.ok, ⟨Reads.none_, Reads.none_⟩⟩ (by omega) ⟨by simp, by simp⟩ (by simp) (by simp)
  rw [wraps3 ⟨⟨⟨0, 1, 3, 3, 0, 0, 0⟩, [⟨3, 16, 19, 1 + b % 3⟩], []⟩, true, ⟨⟨0, 0, 0, 0, 0, 0, 0⟩, [], []⟩, false, 2147483647, 0, true⟩ 40 rfl rfl rfl rfl (by simp)] at hp
  obtain ⟨h2, hz2⟩ := sealF_form ⟨⟨0, 1, 3, 3, -2147483647, 0, 0⟩, [⟨3, 16, 19, 1 + b % 3⟩], []⟩
  have hsq := sealF_seq ⟨⟨0, 1, 3, 3, -2147483647, 0, 0⟩, [⟨3, 16, 19, 1 + b % 3⟩], []⟩
  unfold tellF at hp
  dsimp only at hp
  rw [hz2] at hp hsq
  obtain ⟨age2, kind2, id2, adv2, seq2, sum2, long2⟩ := h2
  dsimp only at hsq
  subst hsq
  dsimp only [mineA, List.length_cons, List.length_nil, Nat.reduceAdd] at hp
  have HP := hide hp
  clear hp hz2
  go_wp2_with (with_reducible refine wpList_load_at rfl 29 (.tmp 11) rfl g11 rfl 29 _ 23 HKZ.out HT.out HTN.out ?_)
  refine HP.out.mono ?_
  rintro r w11 ⟨⟨A11, k11, B11, d11⟩, rfl, ho11, hb11⟩
  dsimp only [lsaA, List.length_cons, List.length_nil, Nat.reduceAdd]
  have HK12' := hide (HZ12.out.below hb11 HZ12.out.lt)
  have HB11 := hide (below0 HBZ.out hb11)
  clear ho11 hb11 HP HZ12 HBZ HOZ HKZ
  have hs : cs12.size = 9 ∧ (#[.int .i64 age2, .int .i64 kind2, .int .i64 id2, .int .i64 adv2, .int .i64 (-2147483647), .int .i64 sum2, .int .i64 long2, .slice A11 1 k11, .slice B11 0 d11] : Array Value).size = 9 ∧ (#[.int .i64 age2, .int .i64 kind2, .int .i64 id2, .int .i64 adv2, .int .i64 (-2147483647), .int .i64 sum2, .int .i64 long2, .slice A11 1 k11, .slice B11 0 d11] : Array Value).all (·.oneCell') = true := ⟨HS12.out, rfl, by simp [Value.oneCell']⟩
  have HKF := hide (HK12'.out.setRow_ #[.int .i64 age2, .int .i64 kind2, .int .i64 id2, .int .i64 adv2, .int .i64 (-2147483647), .int .i64 sum2, .int .i64 long2, .slice A11 1 k11, .slice B11 0 d11])
  have HBF := hide (below_row HB11.out HG12.out #[.int .i64 age2, .int .i64 kind2, .int .i64 id2, .int .i64 adv2, .int .i64 (-2147483647), .int .i64 sum2, .int .i64 long2, .slice A11 1 k11, .slice B11 0 d11])
  go_wp2_with ((with_reducible refine wpList_store_at rfl 27 (.tmp 12) (.tmp 100) rfl g12 #[.int .i64 age2, .int .i64 kind2, .int .i64 id2, .int .i64 adv2, .int .i64 (-2147483647), .int .i64 sum2, .int .i64 long2, .slice A11 1 k11, .slice B11 0 d11] 9 rfl rfl 27 cs12 HK12'.out hi hs ?_); generalize w11.setRow g12 #[.int .i64 age2, .int .i64 kind2, .int .i64 id2, .int .i64 adv2, .int .i64 (-2147483647), .int .i64 sum2, .int .i64 long2, .slice A11 1 k11, .slice B11 0 d11] = WF at HKF HBF ⊢; have z4 : WF.cell? ⟨g12, 4, none⟩ = some (.int .i64 (-2147483647)) := HKF.out.cell 4)
  go_ret
  exact ⟨rfl, HBF.out⟩
set_option maxRecDepth 100000 in
set_option maxHeartbeats 4000000 in
theorem wraps2b_any (w W8 : World) (b waits : Int) (A B Al Bl : Option Addr) (c d cl dl g11 g12 : Nat) (hv : LV) (cs12 : Array Value) {u0 u1 u3 u4 u5 u6 u7 u8 u9 u10 u13 u14 u15 u16 u17 u18 u19 u20 u21 u22 u23 u24 u25 u26 u27 u28 u29 u30 u31 u32 u33 u34 u35 u36 u37 u38 u39 u40 u41 u42 u43 u44 u45 u46 u47 u48 u49 u50 u51 u52 u53 u54 u55 u56 u57 u58 u59 u60 u61 u62 u63 u64 u65 u66 u67 u68 u69 u70 u71 u72 u73 u74 u75 u76 u77 u78 u79 u80 u81 u82 u83 u84 u85 u86 u87 u88 u89 u90 u91 u92 u93 u94 u95 u96 u97 u98 u99 u100 u101 u102 u103 u104 u105 u106 u107 u108 u109 : Value}
    (hw0 : 0 ≤ waits) (hw1 : waits < 256) (HA60 : Hid (hv.hd.age = 60 ∧ hv.hd.seq = 2147483647)) (HSM : Hid (hv.links.length ≤ 5000 ∧ hv.mem.length ≤ 5000)) (HO8 : Hid (LOwn W8 w.heap.size hv ⟨Al, cl, Bl, dl⟩))
    (HK8 : Hid (Blk W8 g11 29 #[.int .i64 0, .int .i64 1, .int .i64 3, .int .i64 3, .int .i64 0, .int .i64 0, .int .i64 0, .slice A 1 c, .slice B 0 d, .bool true, .int .i64 hv.hd.age, .int .i64 hv.hd.kind, .int .i64 hv.hd.id, .int .i64 hv.hd.adv, .int .i64 hv.hd.seq, .int .i64 hv.hd.sum, .int .i64 hv.hd.long, .slice Al hv.links.length cl, .slice Bl hv.mem.length dl, .bool true, .int .i64 0, .int .i64 0, .bool false])) (HOW : Hid (LOwn W8 w.heap.size (wantF b) ⟨A, c, B, d⟩)) (HK12 : Hid (Blk W8 g12 27 cs12)) (HS12 : Hid (cs12.size = 9)) (HB : Hid (Below w.heap.size w W8)) (HG11 : Hid (w.heap.size ≤ g11)) (HG12 : Hid (w.heap.size ≤ g12))
    (cde : Code) (hcd : tailOf Try.f4 15 = cde) : Code.wp Try.prog cde (bodyPost Try.prog Try.f4 fun r w' => r = .returned (.bool true) ∧ Below w.heap.size w w') ⟨#[u0, u1, .int .u8 waits, u3, u4, u5, u6, u7, u8, u9, u10, .pointer (some ⟨g11, 0, none⟩), .pointer (some ⟨g12, 0, none⟩), u13, u14, u15, u16, u17, u18, u19, u20, u21, u22, u23, u24, u25, u26, u27, u28, u29, u30, u31, u32, u33, u34, u35, u36, u37, u38, u39, u40, u41, u42, u43, u44, u45, u46, u47, u48, u49, u50, u51, u52, u53, u54, u55, u56, u57, u58, u59, u60, u61, u62, u63, u64, u65, u66, u67, u68, u69, u70, u71, u72, u73, u74, u75, u76, u77, u78, u79, u80, u81, u82, u83, u84, u85, u86, u87, u88, u89, u90, u91, u92, u93, u94, u95, u96, u97, u98, u99, u100, u101, u102, u103, u104, u105, u106, u107, u108, u109], []⟩ W8 := by
  subst hcd
  conv => arg 2; whnf
  obtain ⟨nn, hnn, hnl⟩ := mod_nat waits 20 (by decide)
  have HNN := hide hnl
  clear hnl
  have HT := hide (show StructOf Try.prog 29 23 from ⟨_, Try.underlying29, by kernel_rfl⟩)
  have HTN := hide (show (#[.int .i64 0, .int .i64 1, .int .i64 3, .int .i64 3, .int .i64 0, .int .i64 0, .int .i64 0, .slice A 1 c, .slice B 0 d, .bool true, .int .i64 hv.hd.age, .int .i64 hv.hd.kind, .int .i64 hv.hd.id, .int .i64 hv.hd.adv, .int .i64 hv.hd.seq, .int .i64 hv.hd.sum, .int .i64 hv.hd.long, .slice Al hv.links.length cl, .slice Bl hv.mem.length dl, .bool true, .int .i64 0, .int .i64 0, .bool false] : Array Value).size = 23 from rfl)
  go_upto_block 0 with (fail)
  rw [hnn]
  go_cut [] (fun wc => Hid (Below W8.heap.size W8 wc))
  case first =>
    go_wp2_with fail
    clear hnn
    go_loopw [79] (fun i wr => ∃ k : Nat, k ≤ nn ∧ i = .int .i64 k ∧ Hid (Below W8.heap.size W8 wr)) (fun i _ => nn - (intOf i).toNat)
    case atStart => exact ⟨0, Nat.zero_le _, rfl, hide (Below.refl _ _)⟩
    case round =>
      obtain ⟨k, hk, rfl, hbr⟩ := hrel
      by_cases hlt : k < nn
      · have HKr := hide (HK8.out.below hbr.out HK8.out.lt)
        have hp := plan_any ⟨⟨⟨0, 1, 3, 3, 0, 0, 0⟩, [⟨3, 16, 19, 1 + b % 3⟩], []⟩, true, hv, true, 0, 0, false⟩ ⟨A, c, B, d⟩ ⟨Al, cl, Bl, dl⟩ (10 + (k : Int)) wr ⟨by simp, by simp, HSM.out.1, HSM.out.2⟩ (MOK.below ⟨HOW.out.ok, HO8.out.ok⟩ hbr.out) (near10 hlt HNN.out) ⟨by simp, by simp⟩ (by simp) (by dsimp only; rw [HA60.out.2]; decide)
        rw [wraps2 ⟨⟨⟨0, 1, 3, 3, 0, 0, 0⟩, [⟨3, 16, 19, 1 + b % 3⟩], []⟩, true, hv, true, 0, 0, false⟩ _ rfl rfl rfl HA60.out.2 HA60.out.1] at hp
        dsimp only [mineA, List.length_cons, List.length_nil, Nat.reduceAdd] at hp
        have HP := hide hp
        clear hp
        have hk20 := HNN.out
        go_wp2_with (with_reducible refine wpList_load_at rfl 29 (.tmp 11) rfl g11 rfl 29 _ 23 HKr.out HT.out HTN.out ?_)
        refine HP.out.mono ?_
        rintro r w9 ⟨⟨A9, k9, B9, d9⟩, rfl, ho9, hb9⟩
        have HB9 := hide (below0 hbr.out hb9)
        clear ho9 hb9 HP
        go_wp2_with fail
        go_roundw
        case rel => exact ⟨k + 1, by omega, by go_num, hide (HB9.out.alloc HB9.out.size _)⟩
        case measure => (simp [intOf] <;> omega)
      · go_wp2_with fail
        go_meet
        exact hbr
  case rest =>
    rename_i hK
    refine hK _ _ ?_
    exact wraps3_any w wc b A B Al Bl c d cl dl g11 g12 hv cs12 (hide (HK8.out.below hcut.out HK8.out.lt)) (hide (HOW.out.below hcut.out)) (hide (HK12.out.below hcut.out HK12.out.lt)) HS12 (hide (below0 HB.out hcut.out)) HG11 HG12 _ (by kernel_rfl)
end Go.Proofs.Ytmklebkldailnaa
