/-
  The walk of OrigWraps, its first half.
-/
import Derived.Test.YtmklebkldailnaaWraps
namespace Go.Proofs.Ytmklebkldailnaa
open Go.RowKit
set_option linter.unusedSimpArgs false
set_option linter.unusedVariables false

theorem setRow_alloc (w : World) (a b : Array Value) (t : TypeId) : (w.alloc (.cells a t)).setRow w.heap.size b = w.alloc (.cells b t) := by
  unfold World.setRow World.alloc
  congr 1
  apply Array.ext_getElem?
  intro i
  simp [Array.getElem?_modify, Array.getElem?_push]
  split <;> split <;> simp_all
set_option maxRecDepth 100000 in
set_option maxHeartbeats 4000000 in
theorem wraps2a_any (w W6 : World) (b age waits : Int) (A B Al Bl : Option Addr) (c d cl dl g7 g9 : Nat) (l : List Lk) {u0 u1 u3 u4 u5 u6 u8 u10 u11 u12 u13 u14 u15 u16 u17 u18 u19 u20 u21 u22 u23 u24 u25 u26 u27 u28 u29 u30 u31 u32 u33 u34 u35 u36 u37 u38 u39 u40 u41 u42 u43 u44 u45 u46 u47 u48 u49 u50 u51 u52 u53 u54 u55 u56 u57 u58 u59 u60 u61 u62 u63 u64 u65 u66 u67 u68 u69 u70 u71 u72 u73 u74 u75 u76 u77 u78 u79 u80 u81 u82 u83 u84 u85 u86 u87 u88 u89 u90 u91 u92 u93 u94 u95 u96 u97 u98 u99 u100 u101 u102 u103 u104 u105 u106 u107 u108 u109 : Value}
    (ha0 : 0 ≤ age) (ha1 : age < 256) (hw0 : 0 ≤ waits) (hw1 : waits < 256) (HSM : Hid (l.length ≤ 5000)) (HL : Hid (l ≠ [⟨3, 16, 19, 1 + b % 3⟩]))
    (HK7 : Hid (Blk W6 g7 27 #[.int .i64 0, .int .i64 1, .int .i64 3, .int .i64 3, .int .i64 0, .int .i64 0, .int .i64 0, .slice A 1 c, .slice B 0 d])) (HK9 : Hid (Blk W6 g9 27 #[.int .i64 (age % 60), .int .i64 1, .int .i64 3, .int .i64 3, .int .i64 2147483647, .int .i64 0, .int .i64 0, .slice Al l.length cl, .slice Bl 0 dl])) (HOL : Hid (LOwn W6 w.heap.size ⟨⟨age % 60, 1, 3, 3, 2147483647, 0, 0⟩, l, []⟩ ⟨Al, cl, Bl, dl⟩)) (HOW : Hid (LOwn W6 w.heap.size (wantF b) ⟨A, c, B, d⟩)) (HB6 : Hid (Below w.heap.size w W6))
    (cde : Code) (hcd : tailOf Try.f4 10 = cde) : Code.wp Try.prog cde (bodyPost Try.prog Try.f4 fun r w' => r = .returned (.bool true) ∧ Below w.heap.size w w') ⟨#[u0, u1, .int .u8 waits, u3, u4, u5, u6, .pointer (some ⟨g7, 0, none⟩), u8, .pointer (some ⟨g9, 0, none⟩), u10, u11, u12, u13, u14, u15, u16, u17, u18, u19, u20, u21, u22, u23, u24, u25, u26, u27, u28, u29, u30, u31, u32, u33, u34, u35, u36, u37, u38, u39, u40, u41, u42, u43, u44, u45, u46, u47, u48, u49, u50, u51, u52, u53, u54, u55, u56, u57, u58, u59, u60, u61, u62, u63, u64, u65, u66, u67, u68, u69, u70, u71, u72, u73, u74, u75, u76, u77, u78, u79, u80, u81, u82, u83, u84, u85, u86, u87, u88, u89, u90, u91, u92, u93, u94, u95, u96, u97, u98, u99, u100, u101, u102, u103, u104, u105, u106, u107, u108, u109], []⟩ W6 := by
  subst hcd
  conv => arg 2; whnf
  have c0 : W6.cell? ⟨g7, 0, none⟩ = some (.int .i64 0) := HK7.out.cell 0
  have c1 : W6.cell? ⟨g7, 1, none⟩ = some (.int .i64 1) := HK7.out.cell 1
  have c2 : W6.cell? ⟨g7, 2, none⟩ = some (.int .i64 3) := HK7.out.cell 2
  have c3 : W6.cell? ⟨g7, 3, none⟩ = some (.int .i64 3) := HK7.out.cell 3
  have c4 : W6.cell? ⟨g7, 4, none⟩ = some (.int .i64 0) := HK7.out.cell 4
  have c5 : W6.cell? ⟨g7, 5, none⟩ = some (.int .i64 0) := HK7.out.cell 5
  have c6 : W6.cell? ⟨g7, 6, none⟩ = some (.int .i64 0) := HK7.out.cell 6
  have c7 : W6.cell? ⟨g7, 7, none⟩ = some (.slice A 1 c) := HK7.out.cell 7
  have c8 : W6.cell? ⟨g7, 8, none⟩ = some (.slice B 0 d) := HK7.out.cell 8
  have d0 : W6.cell? ⟨g9, 0, none⟩ = some (.int .i64 (age % 60)) := HK9.out.cell 0
  have d1 : W6.cell? ⟨g9, 1, none⟩ = some (.int .i64 1) := HK9.out.cell 1
  have d2 : W6.cell? ⟨g9, 2, none⟩ = some (.int .i64 3) := HK9.out.cell 2
  have d3 : W6.cell? ⟨g9, 3, none⟩ = some (.int .i64 3) := HK9.out.cell 3
  have d4 : W6.cell? ⟨g9, 4, none⟩ = some (.int .i64 2147483647) := HK9.out.cell 4
  have d5 : W6.cell? ⟨g9, 5, none⟩ = some (.int .i64 0) := HK9.out.cell 5
  have d6 : W6.cell? ⟨g9, 6, none⟩ = some (.int .i64 0) := HK9.out.cell 6
  have d7 : W6.cell? ⟨g9, 7, none⟩ = some (.slice Al l.length cl) := HK9.out.cell 7
  have d8 : W6.cell? ⟨g9, 8, none⟩ = some (.slice Bl 0 dl) := HK9.out.cell 8
  have HT := hide (show StructOf Try.prog 29 23 from ⟨_, Try.underlying29, by kernel_rfl⟩)
  have HTN := hide (show (#[.int .i64 0, .int .i64 1, .int .i64 3, .int .i64 3, .int .i64 0, .int .i64 0, .int .i64 0, .slice A 1 c, .slice B 0 d, .bool true, .int .i64 (age % 60), .int .i64 1, .int .i64 3, .int .i64 3, .int .i64 2147483647, .int .i64 0, .int .i64 0, .slice Al l.length cl, .slice Bl 0 dl, .bool true, .int .i64 0, .int .i64 0, .bool false] : Array Value).size = 23 from rfl)
  have HK11 := hide (Blk.new W6 29 #[.int .i64 0, .int .i64 1, .int .i64 3, .int .i64 3, .int .i64 0, .int .i64 0, .int .i64 0, .slice A 1 c, .slice B 0 d, .bool true, .int .i64 (age % 60), .int .i64 1, .int .i64 3, .int .i64 3, .int .i64 2147483647, .int .i64 0, .int .i64 0, .slice Al l.length cl, .slice Bl 0 dl, .bool true, .int .i64 0, .int .i64 0, .bool false])
  have HKZ := hide (Blk.new W6 29 #[.int .i64 0, .int .i64 0, .int .i64 0, .int .i64 0, .int .i64 0, .int .i64 0, .int .i64 0, .slice none 0 0, .slice none 0 0, .bool false, .int .i64 0, .int .i64 0, .int .i64 0, .int .i64 0, .int .i64 0, .int .i64 0, .int .i64 0, .slice none 0 0, .slice none 0 0, .bool false, .int .i64 0, .int .i64 0, .bool false])
  have hi23 : (Try.prog.info? 29).map (·.size) = some 23 := by kernel_rfl
  have hs23 : (#[.int .i64 0, .int .i64 0, .int .i64 0, .int .i64 0, .int .i64 0, .int .i64 0, .int .i64 0, .slice none 0 0, .slice none 0 0, .bool false, .int .i64 0, .int .i64 0, .int .i64 0, .int .i64 0, .int .i64 0, .int .i64 0, .int .i64 0, .slice none 0 0, .slice none 0 0, .bool false, .int .i64 0, .int .i64 0, .bool false] : Array Value).size = 23 ∧ (#[.int .i64 0, .int .i64 1, .int .i64 3, .int .i64 3, .int .i64 0, .int .i64 0, .int .i64 0, .slice A 1 c, .slice B 0 d, .bool true, .int .i64 (age % 60), .int .i64 1, .int .i64 3, .int .i64 3, .int .i64 2147483647, .int .i64 0, .int .i64 0, .slice Al l.length cl, .slice Bl 0 dl, .bool true, .int .i64 0, .int .i64 0, .bool false] : Array Value).size = 23 ∧ (#[.int .i64 0, .int .i64 1, .int .i64 3, .int .i64 3, .int .i64 0, .int .i64 0, .int .i64 0, .slice A 1 c, .slice B 0 d, .bool true, .int .i64 (age % 60), .int .i64 1, .int .i64 3, .int .i64 3, .int .i64 2147483647, .int .i64 0, .int .i64 0, .slice Al l.length cl, .slice Bl 0 dl, .bool true, .int .i64 0, .int .i64 0, .bool false] : Array Value).all (·.oneCell') = true := ⟨rfl, rfl, by simp [Value.oneCell']⟩
  go_wp2_with (first
    | ((with_reducible refine wpList_store_at rfl 29 (.tmp 11) (.tmp 54) rfl W6.heap.size #[.int .i64 0, .int .i64 1, .int .i64 3, .int .i64 3, .int .i64 0, .int .i64 0, .int .i64 0, .slice A 1 c, .slice B 0 d, .bool true, .int .i64 (age % 60), .int .i64 1, .int .i64 3, .int .i64 3, .int .i64 2147483647, .int .i64 0, .int .i64 0, .slice Al l.length cl, .slice Bl 0 dl, .bool true, .int .i64 0, .int .i64 0, .bool false] 23 rfl rfl 29 #[.int .i64 0, .int .i64 0, .int .i64 0, .int .i64 0, .int .i64 0, .int .i64 0, .int .i64 0, .slice none 0 0, .slice none 0 0, .bool false, .int .i64 0, .int .i64 0, .int .i64 0, .int .i64 0, .int .i64 0, .int .i64 0, .int .i64 0, .slice none 0 0, .slice none 0 0, .bool false, .int .i64 0, .int .i64 0, .bool false] HKZ.out hi23 hs23 ?_); rw [setRow_alloc])
    | (with_reducible refine wpList_load_at rfl 29 (.tmp 11) rfl W6.heap.size rfl 29 #[.int .i64 0, .int .i64 1, .int .i64 3, .int .i64 3, .int .i64 0, .int .i64 0, .int .i64 0, .slice A 1 c, .slice B 0 d, .bool true, .int .i64 (age % 60), .int .i64 1, .int .i64 3, .int .i64 3, .int .i64 2147483647, .int .i64 0, .int .i64 0, .slice Al l.length cl, .slice Bl 0 dl, .bool true, .int .i64 0, .int .i64 0, .bool false] 23 HK11.out HT.out HTN.out ?_))
  clear hi23 hs23
  have hp := plan_any ⟨⟨⟨0, 1, 3, 3, 0, 0, 0⟩, [⟨3, 16, 19, 1 + b % 3⟩], []⟩, true, ⟨⟨age % 60, 1, 3, 3, 2147483647, 0, 0⟩, l, []⟩, true, 0, 0, false⟩ ⟨A, c, B, d⟩ ⟨Al, cl, Bl, dl⟩ 9 (W6.alloc (.cells #[.int .i64 0, .int .i64 1, .int .i64 3, .int .i64 3, .int .i64 0, .int .i64 0, .int .i64 0, .slice A 1 c, .slice B 0 d, .bool true, .int .i64 (age % 60), .int .i64 1, .int .i64 3, .int .i64 3, .int .i64 2147483647, .int .i64 0, .int .i64 0, .slice Al l.length cl, .slice Bl 0 dl, .bool true, .int .i64 0, .int .i64 0, .bool false] 29)) ⟨by simp, by simp, HSM.out, by simp⟩ (MOK.below ⟨HOW.out.ok, HOL.out.ok⟩ (below_new _ _)) (by omega) ⟨by simp, by simp⟩ (by simp) (by simp)
  rw [wraps1 ⟨⟨⟨0, 1, 3, 3, 0, 0, 0⟩, [⟨3, 16, 19, 1 + b % 3⟩], []⟩, true, ⟨⟨age % 60, 1, 3, 3, 2147483647, 0, 0⟩, l, []⟩, true, 0, 0, false⟩ 9 rfl rfl rfl rfl (by dsimp only; omega) HL.out] at hp
  dsimp only [mineA, flushF, List.length_cons, List.length_nil, Nat.reduceAdd] at hp
  have HP := hide hp
  have HBA := hide (below_new W6 (.cells #[.int .i64 0, .int .i64 1, .int .i64 3, .int .i64 3, .int .i64 0, .int .i64 0, .int .i64 0, .slice A 1 c, .slice B 0 d, .bool true, .int .i64 (age % 60), .int .i64 1, .int .i64 3, .int .i64 3, .int .i64 2147483647, .int .i64 0, .int .i64 0, .slice Al l.length cl, .slice Bl 0 dl, .bool true, .int .i64 0, .int .i64 0, .bool false] 29))
  clear hp c0 c1 c2 c3 c4 c5 c6 c7 c8 d0 d1 d2 d3 d4 d5 d6 d7 d8
  refine HP.out.mono ?_
  rintro r w7 ⟨⟨A7, k7, B7, d7⟩, rfl, ho7, hb7⟩
  dsimp only [lsaA, List.length_nil]
  have HB7 := hide (below0 (below0 HB6.out HBA.out) hb7)
  have HO7 := hide (ho7.mono (show w.heap.size ≤ _ from (below0 HB6.out HBA.out).size))
  have HOW7 := hide (HOW.out.below (below0 HBA.out hb7))
  have HR7 := hide (fun (o : Obj) => (HK11.out.below hb7 HK11.out.lt).alloc o)
  have HG11 := hide (show w.heap.size ≤ W6.heap.size from HB6.out.size)
  have hi : (Try.prog.info? 27).map (·.size) = some 9 := by kernel_rfl
  have hs : 10 + 9 ≤ (#[.int .i64 0, .int .i64 1, .int .i64 3, .int .i64 3, .int .i64 0, .int .i64 0, .int .i64 0, .slice A 1 c, .slice B 0 d, .bool true, .int .i64 (age % 60), .int .i64 1, .int .i64 3, .int .i64 3, .int .i64 2147483647, .int .i64 0, .int .i64 0, .slice Al l.length cl, .slice Bl 0 dl, .bool true, .int .i64 0, .int .i64 0, .bool false] : Array Value).size ∧ (#[.int .i64 60, .int .i64 1, .int .i64 3, .int .i64 3, .int .i64 2147483647, .int .i64 0, .int .i64 0, .slice A7 l.length k7, .slice B7 0 d7] : Array Value).size = 9 ∧ (#[.int .i64 60, .int .i64 1, .int .i64 3, .int .i64 3, .int .i64 2147483647, .int .i64 0, .int .i64 0, .slice A7 l.length k7, .slice B7 0 d7] : Array Value).all (·.oneCell') = true := ⟨by simp, rfl, by simp [Value.oneCell']⟩
  have HN12 := hide (show w7.heap.size ≠ W6.heap.size by have h1 := (HK11.out.below hb7 HK11.out.lt).lt; omega)
  clear hb7 ho7 HP HBA HK11 HOW HOL HB6 HK7 HK9
  go_upto_region 14 with (fail)
  go_cut [] (fun wc => Hid (Blk wc W6.heap.size 29 #[.int .i64 0, .int .i64 1, .int .i64 3, .int .i64 3, .int .i64 0, .int .i64 0, .int .i64 0, .slice A 1 c, .slice B 0 d, .bool true, .int .i64 60, .int .i64 1, .int .i64 3, .int .i64 3, .int .i64 2147483647, .int .i64 0, .int .i64 0, .slice A7 l.length k7, .slice B7 0 d7, .bool true, .int .i64 0, .int .i64 0, .bool false]) ∧ Hid (LOwn wc w.heap.size ⟨⟨60, 1, 3, 3, 2147483647, 0, 0⟩, l, []⟩ ⟨A7, k7, B7, d7⟩) ∧ Hid (LOwn wc w.heap.size (wantF b) ⟨A, c, B, d⟩) ∧ Hid (Blk wc w7.heap.size 27 #[.int .i64 60, .int .i64 1, .int .i64 3, .int .i64 3, .int .i64 2147483647, .int .i64 0, .int .i64 0, .slice A7 l.length k7, .slice B7 0 d7]) ∧ Hid (Below w.heap.size w wc))
  case first =>
    have hbx := (HB7.out.alloc HB7.out.size (.cells #[.int .i64 60, .int .i64 1, .int .i64 3, .int .i64 3, .int .i64 2147483647, .int .i64 0, .int .i64 0, .slice A7 l.length k7, .slice B7 0 d7] 27))
    have hKx := (Keeps.refl (fun x => x = W6.heap.size) (w7.alloc (.cells #[.int .i64 60, .int .i64 1, .int .i64 3, .int .i64 3, .int .i64 2147483647, .int .i64 0, .int .i64 0, .slice A7 l.length k7, .slice B7 0 d7] 27))).row (.inl rfl) (layL (#[.int .i64 0, .int .i64 1, .int .i64 3, .int .i64 3, .int .i64 0, .int .i64 0, .int .i64 0, .slice A 1 c, .slice B 0 d, .bool true, .int .i64 (age % 60), .int .i64 1, .int .i64 3, .int .i64 3, .int .i64 2147483647, .int .i64 0, .int .i64 0, .slice Al l.length cl, .slice Bl 0 dl, .bool true, .int .i64 0, .int .i64 0, .bool false] : Array Value).toList 10 (#[.int .i64 60, .int .i64 1, .int .i64 3, .int .i64 3, .int .i64 2147483647, .int .i64 0, .int .i64 0, .slice A7 l.length k7, .slice B7 0 d7] : Array Value).toList).toArray
    have hR := HR7.out (.cells #[.int .i64 60, .int .i64 1, .int .i64 3, .int .i64 3, .int .i64 2147483647, .int .i64 0, .int .i64 0, .slice A7 l.length k7, .slice B7 0 d7] 27)
    have ho7 := HO7.out.below (below_new w7 (.cells #[.int .i64 60, .int .i64 1, .int .i64 3, .int .i64 3, .int .i64 2147483647, .int .i64 0, .int .i64 0, .slice A7 l.length k7, .slice B7 0 d7] 27))
    have how := HOW7.out.below (below_new w7 (.cells #[.int .i64 60, .int .i64 1, .int .i64 3, .int .i64 3, .int .i64 2147483647, .int .i64 0, .int .i64 0, .slice A7 l.length k7, .slice B7 0 d7] 27))
    have X1 := hide (show Blk _ W6.heap.size 29 #[.int .i64 0, .int .i64 1, .int .i64 3, .int .i64 3, .int .i64 0, .int .i64 0, .int .i64 0, .slice A 1 c, .slice B 0 d, .bool true, .int .i64 60, .int .i64 1, .int .i64 3, .int .i64 3, .int .i64 2147483647, .int .i64 0, .int .i64 0, .slice A7 l.length k7, .slice B7 0 d7, .bool true, .int .i64 0, .int .i64 0, .bool false] from hR.setRow_ (layL (#[.int .i64 0, .int .i64 1, .int .i64 3, .int .i64 3, .int .i64 0, .int .i64 0, .int .i64 0, .slice A 1 c, .slice B 0 d, .bool true, .int .i64 (age % 60), .int .i64 1, .int .i64 3, .int .i64 3, .int .i64 2147483647, .int .i64 0, .int .i64 0, .slice Al l.length cl, .slice Bl 0 dl, .bool true, .int .i64 0, .int .i64 0, .bool false] : Array Value).toList 10 (#[.int .i64 60, .int .i64 1, .int .i64 3, .int .i64 3, .int .i64 2147483647, .int .i64 0, .int .i64 0, .slice A7 l.length k7, .slice B7 0 d7] : Array Value).toList).toArray)
    have X2 := hide (show LOwn _ w.heap.size ⟨⟨60, 1, 3, 3, 2147483647, 0, 0⟩, l, []⟩ ⟨A7, k7, B7, d7⟩ from ⟨hKx.own ho7.links (fun x hx e => own_blk_ne ho7.links hR (by decide) (e ▸ hx)), hKx.own ho7.mem (fun x hx e => own_blk_ne ho7.mem hR (by decide) (e ▸ hx))⟩)
    have X3 := hide (show LOwn _ w.heap.size (wantF b) ⟨A, c, B, d⟩ from ⟨hKx.own how.links (fun x hx e => own_blk_ne how.links hR (by decide) (e ▸ hx)), hKx.own how.mem (fun x hx e => own_blk_ne how.mem hR (by decide) (e ▸ hx))⟩)
    have X4 := hide (hKx.blk (Blk.new w7 27 #[.int .i64 60, .int .i64 1, .int .i64 3, .int .i64 3, .int .i64 2147483647, .int .i64 0, .int .i64 0, .slice A7 l.length k7, .slice B7 0 d7]) HN12.out)
    have X5 := hide (below_keeps hbx hKx (fun x hx => by cases hx; exact HG11.out))
    have HRX := hide hR
    clear hbx hKx hR ho7 how
    go_wp2_with ((with_reducible refine wpList_store_part rfl 27 (.tmp 75) (.tmp 74) rfl W6.heap.size 10 #[.int .i64 60, .int .i64 1, .int .i64 3, .int .i64 3, .int .i64 2147483647, .int .i64 0, .int .i64 0, .slice A7 l.length k7, .slice B7 0 d7] 9 rfl rfl 29 #[.int .i64 0, .int .i64 1, .int .i64 3, .int .i64 3, .int .i64 0, .int .i64 0, .int .i64 0, .slice A 1 c, .slice B 0 d, .bool true, .int .i64 (age % 60), .int .i64 1, .int .i64 3, .int .i64 3, .int .i64 2147483647, .int .i64 0, .int .i64 0, .slice Al l.length cl, .slice Bl 0 dl, .bool true, .int .i64 0, .int .i64 0, .bool false] HRX.out hi hs ?_); generalize (w7.alloc (.cells #[.int .i64 60, .int .i64 1, .int .i64 3, .int .i64 3, .int .i64 2147483647, .int .i64 0, .int .i64 0, .slice A7 l.length k7, .slice B7 0 d7] 27)).setRow W6.heap.size (layL (#[.int .i64 0, .int .i64 1, .int .i64 3, .int .i64 3, .int .i64 0, .int .i64 0, .int .i64 0, .slice A 1 c, .slice B 0 d, .bool true, .int .i64 (age % 60), .int .i64 1, .int .i64 3, .int .i64 3, .int .i64 2147483647, .int .i64 0, .int .i64 0, .slice Al l.length cl, .slice Bl 0 dl, .bool true, .int .i64 0, .int .i64 0, .bool false] : Array Value).toList 10 (#[.int .i64 60, .int .i64 1, .int .i64 3, .int .i64 3, .int .i64 2147483647, .int .i64 0, .int .i64 0, .slice A7 l.length k7, .slice B7 0 d7] : Array Value).toList).toArray = WY at X1 X2 X3 X4 X5 ⊢)
    go_meet
    exact ⟨X1, X2, X3, X4, X5⟩
  case rest =>
    rename_i hK
    refine hK _ _ ?_
    obtain ⟨x1, x2, x3, x4, x5⟩ := hcut
    exact wraps2b_any w wc b waits A B A7 B7 c d k7 d7 W6.heap.size w7.heap.size ⟨⟨60, 1, 3, 3, 2147483647, 0, 0⟩, l, []⟩ #[.int .i64 60, .int .i64 1, .int .i64 3, .int .i64 3, .int .i64 2147483647, .int .i64 0, .int .i64 0, .slice A7 l.length k7, .slice B7 0 d7] hw0 hw1 (hide ⟨rfl, rfl⟩) (hide ⟨HSM.out, by simp⟩) x2 x1 x3 x4 (hide rfl) x5 HG11 (hide HB7.out.size) _ (by kernel_rfl)
end Go.Proofs.Ytmklebkldailnaa
