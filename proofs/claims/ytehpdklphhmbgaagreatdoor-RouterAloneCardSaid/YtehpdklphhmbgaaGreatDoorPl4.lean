/-
  Part 4 of what lies behind the statement: the model of the program in words of its own, and its walks. No conditions of its own.
-/
import Derived.Test.YtehpdklphhmbgaaGreatDoorPl3
namespace Go.Proofs.YtehpdklphhmbgaaGreatDoor
open Go.RowKit
set_option linter.unusedVariables false
set_option linter.unusedSimpArgs false
section
set_option maxRecDepth 100000
set_option maxHeartbeats 8000000
structure HlV where
  every:Int
  dead:Int
  prio:Int
  dr:Int
  bdr:Int
  seen:List Int
structure PkV where
  kind:Int
  frm:Int
  every:Int
  dead:Int
  prio:Int
  dr:Int
  bdr:Int
  seen:List Int
  init:Bool
  more:Bool
  master:Bool
  seq:Int
  heads:List HD
  wants:List KeyV
  lsas:List LV
  acks:List HD
theorem wy (x y:Lk) (w:World):(Op.equal 230 (.agg (Lk.cells x).toArray) (.agg (Lk.cells y).toArray)).run Tryz.prog w = .ok (decide (x = y)) w:=by
  obtain ⟨a0,a1,a2,a3⟩:=x
  obtain ⟨b0,b1,b2,b3⟩:=y
  dsimp only [Lk.cells]
  unfold Op.equal Op.maxDepth
  go_simp
  repeat' split
  all_goals simp_all
theorem zK (x y:Lk) (w:World):(binOp .neq 230 (.agg #[i6 x.kind,i6 x.id,i6 x.data,i6 x.cost]) (.agg #[i6 y.kind,i6 y.id,i6 y.data,i6 y.cost])).run Tryz.prog w = .ok (.bool (decide (x ≠ y))) w:=by
  have h:(Op.equal 230 (.agg #[i6 x.kind,i6 x.id,i6 x.data,i6 x.cost]) (.agg #[i6 y.kind,i6 y.id,i6 y.data,i6 y.cost])).run Tryz.prog w = .ok (decide (x = y)) w:=wy x y w
  show (Sem.bind (Op.equal 230 _ _) fun b=>pure (Value.bool !b)).run _ _ = _
  exact (Sem.run_bind _ _ _ _).trans (by rw [h];simp)
def bJ (n:Int) (lo:Int) (hi:Int):Bool:=if (lo:Int) ≤ n then decide ((n:Int) ≤ hi) else false
theorem gH {κ:Kap} {L I:List Atom} (n:Int) (lo:Int) (hi:Int) (W:World) (hS:S κ (L) (I) W):
    Calls Tryz.prog 148 #[i6 n,i6 lo,i6 hi] W (fun r w'=>r = .returned (.bool (bJ n lo hi))∧S κ (L) (I) w'):=by
 generalize ht:(bJ n lo hi) = t_
 refine wK 15 Tryz.func148 (fun R_ hR_ a hk=>?_)
 refine sg [] hk ?_
 refine T ?_
 refine rE [0,1,2] hk fun a hk=>?_
 refine sg [] hk ?_
 iterate 4 refine T ?_
 rcases dt ((lo:Int) ≤ n) with ⟨he,hg3⟩ | ⟨he,hg3⟩
 ·rw [he]
  replace ht:=(if_pos hg3).symm.trans ht
  iterate 5 refine T ?_
  refine rE [6] hk fun a hk=>?_
  refine wp_ret ?_
  subst ht
  exact rt1 hk (hR_ _ _ ⟨rfl,hS⟩)
 rw [he]
 replace ht:=(if_neg hg3).symm.trans ht
 refine oF 3 10 true [4,5,6] ?_
 iterate 2 refine T ?_
 refine rE [6] hk fun a hk=>?_
 refine wp_ret ?_
 subst ht
 exact rt1 hk (hR_ _ _ ⟨rfl,hS⟩)
def lr:List Int → Int → Option (Except (Bool) (Int))
  | [],v2x0=>some (.ok v2x0)
  | z2::xs2,v2x0=>if -4611686018427387904 ≤ v2x0 + 1∧v2x0 + 1 ≤ 4611686018427387904 then cond (bJ z2 (v2x0 + 1) 15) (lr xs2 z2) (some (.error false)) else none
def uv (l:List Int):Option (Bool):=aJ (lr l 0) fun x2=>exE x2 (fun e=>some e) fun r2=>some true
theorem tu {κ:Kap} {L I:List Atom} (l:List Int) (lA:Option Addr) (lc:Nat) (W:World) {r_:Bool} (ht:(uv l) = some r_) (hS:S κ (L) (aa (.slice lA l.length lc) 3 1 l.length (aw l)::I) W):
    Calls Tryz.prog 303 #[.slice lA l.length lc] W (fun r w'=>r = .returned (.bool r_)∧S κ (L) (aa (.slice lA l.length lc) 3 1 l.length (aw l)::I) w'):=by
 refine wK 19 Tryz.func303 (fun R_ hR_ a hk=>?_)
 refine sg [] hk ?_
 refine T ?_
 refine rE [0] hk fun a hk=>?_
 refine sg [] hk ?_
 refine T ?_
 refine rE [0,3] hk fun a hk=>?_
 refine wp_seq ?_
 refine sg [] hk ?_
 iterate 3 refine T ?_
 refine rE [3,6,7,8] hk fun a hk=>?_
 obtain ⟨x2,hr2,ht⟩:=ao ht
 refine aB (fun a_ w_=>∃ r2,x2 = .ok r2∧Fr a_ 19 []∧S κ (L) (aa (.slice lA l.length lc) 3 1 l.length (aw l)::I) w_) ?_ ?_
 ·refine wp_block ?_
  refine wp_loop (fun a_ w_=>∃ k2:Nat,∃ v2x0:Int,(k2 ≤ (l).length)∧lr ((l).drop k2) v2x0 = some x2∧Fr a_ 19 [(3,i6 v2x0),(6,.slice lA l.length lc),(7,i6 ((l.length:Nat):Int)),(8,i6 k2)]∧S κ (L) (aa (.slice lA l.length lc) 3 1 l.length (aw l)::I) w_) (fun a_ _=>(l).length - (intOf (sl a_ 8)).toNat) ?_ ?_
  ·exact ⟨0,0,Nat.zero_le _,hr2,hk.to,hS⟩
  clear hk hS
  rintro aL2 w ⟨k2,v2x0,hkl2,hI2,hk,hS⟩
  have hmu2:=hk.g (s:=8)
  have hlb2:=hS.rowBI (i:=0) rfl
  refine sg [] hk ?_
  refine T ?_
  refine rE [3,6,7,8,9] hk fun a hk=>?_
  refine wp_seq ?_
  refine cD hk (fun hc9=>?_) (fun hc9=>?_)
  ·obtain ⟨z2,hz2⟩:=cq (show k2 < (l).length by omega)
   rw [aF hz2] at hI2
   refine wp_skip ?_
   refine wp_seq ?_
   refine wp_block ?_
   refine sg [] hk ?_
   refine dN hk (hS.rdI (i:=0) rfl) (fun b3 o3 z3 hz3 hq3=>?_)
   obtain rfl:z2 = z3:=Option.some.inj (hz2.symm.trans hz3)
   refine dF0 hq3 hk ?_
   refine T ?_
   refine rE [3,5,6,7,8] hk fun a hk=>?_
   refine wp_seq ?_
   refine sg [3] hk ?_
   iterate 2 refine T ?_
   obtain ⟨hgd4,hI2⟩:=gdE hI2
   refine dA hk ?_
   refine eC hk (h:=gH z2 (v2x0 + 1) 15 _ hS) (k:=?_)
   rintro _ w ⟨rfl,hS⟩
   refine ⟨_,rfl,?_⟩
   replace hS:=hS.nz 0
   refine T ?_
   refine rE [5,6,7,8,16] hk fun a hk=>?_
   refine cB hk (fun hc16=>?_) (fun hc16=>?_)
   ·replace hc16:=nbt hc16
    replace hI2:=(bF hc16).symm.trans hI2
    refine sg [] hk ?_
    refine T ?_
    refine rE [2] hk fun a hk=>?_
    refine wp_ret ?_
    obtain rfl:=Option.some.inj hI2
    obtain rfl:=Option.some.inj ht
    exact rt1 hk (hR_ _ _ ⟨rfl,hS⟩)
   replace hc16:=nbf hc16
   replace hI2:=(bT hc16).symm.trans hI2
   refine wp_skip ?_
   refine rgL [] hk ?_
   iterate 2 refine T ?_
   refine rE [3,6,7,8] hk fun a hk=>?_
   refine rgL [] hk ?_
   refine dA hk ?_
   refine T ?_
   refine rE [3,6,7,8] hk fun a hk=>?_
   exact ⟨⟨k2 + 1,z2,by omega,hI2,hk.to,hS⟩,aP hk.g hmu2 (by omega)⟩
  obtain rfl:k2 = (l).length:=by omega
  rw [ax (Nat.le_refl _)] at hI2
  refine wp_exit ?_
  obtain rfl:=Option.some.inj hI2
  exact ⟨_,rfl,hk.to,hS⟩
 rintro a w ⟨r2,hx,hk,hS⟩
 replace ht:=(fC hx).symm.trans ht
 refine sg [] hk ?_
 refine T ?_
 refine rE [2] hk fun a hk=>?_
 refine wp_ret ?_
 obtain rfl:=Option.some.inj ht
 exact rt1 hk (hR_ _ _ ⟨rfl,hS⟩)
def kd (h:HlV):Option (Bool):=cond (bJ h.every 1 65535) (cond (bJ h.dead 1 65535) (cond (bJ h.prio 0 255) (cond (bJ h.dr 0 63) (cond (bJ h.bdr 0 63) (aJ (uv h.seen) fun q8=>some q8) (some false)) (some false)) (some false)) (some false)) (some false)
theorem sQ {κ:Kap} {L I:List Atom} (h:HlV) (hp:SlP) (W:World) {r_:Bool} (ht:(kd h) = some r_) (hS:S κ (L) (aa (.slice hp.A h.seen.length hp.c) 3 1 h.seen.length (aw h.seen)::I) W):
    Calls Tryz.prog 226 #[.agg #[i6 h.every,i6 h.dead,i6 h.prio,i6 h.dr,i6 h.bdr,.slice hp.A h.seen.length hp.c]] W (fun r w'=>r = .returned (.bool r_)∧S κ (L) (aa (.slice hp.A h.seen.length hp.c) 3 1 h.seen.length (aw h.seen)::I) w'):=by
 refine wK 31 Tryz.func226 (fun R_ hR_ a hk=>?_)
 refine sg [0] hk ?_
 refine eB hk hS (fun g2 w hS _=>?_)
 refine T ?_
 refine rE [1] hk fun a hk=>?_
 refine sg [2,6,11,16,21,26] hk ?_
 refine T ?_
 refine LD 0 hk hS ?_
 refine eC hk (h:=gH h.every 1 65535 _ hS) (k:=?_)
 rintro _ w ⟨rfl,hS⟩
 refine ⟨_,rfl,?_⟩
 replace hS:=hS.nz 1
 refine T ?_
 rcases bt (bJ h.every 1 65535) with hg3 | hg3
 ·refine rwV 2 (.bool (bJ h.every 1 65535)) (.bool true) (by rw [hg3]) ?_
  refine rwV 3 (.bool (bJ h.every 1 65535)) (.bool true) (by rw [hg3]) ?_
  replace ht:=(bT hg3).symm.trans ht
  refine T ?_
  refine LD 0 hk hS ?_
  refine eC hk (h:=gH h.dead 1 65535 _ hS) (k:=?_)
  rintro _ w ⟨rfl,hS⟩
  refine ⟨_,rfl,?_⟩
  replace hS:=hS.nz 1
  iterate 2 refine T ?_
  rcases bt (bJ h.dead 1 65535) with hg8 | hg8
  ·refine rwV 6 (.bool (bJ h.dead 1 65535)) (.bool true) (by rw [hg8]) ?_
   refine rwV 7 (.bool (bJ h.dead 1 65535)) (.bool true) (by rw [hg8]) ?_
   refine rwV 8 (.bool (bJ h.dead 1 65535)) (.bool true) (by rw [hg8]) ?_
   replace ht:=(bT hg8).symm.trans ht
   refine T ?_
   refine LD 0 hk hS ?_
   refine eC hk (h:=gH h.prio 0 255 _ hS) (k:=?_)
   rintro _ w ⟨rfl,hS⟩
   refine ⟨_,rfl,?_⟩
   replace hS:=hS.nz 1
   iterate 2 refine T ?_
   rcases bt (bJ h.prio 0 255) with hg13 | hg13
   ·refine rwV 11 (.bool (bJ h.prio 0 255)) (.bool true) (by rw [hg13]) ?_
    refine rwV 12 (.bool (bJ h.prio 0 255)) (.bool true) (by rw [hg13]) ?_
    refine rwV 13 (.bool (bJ h.prio 0 255)) (.bool true) (by rw [hg13]) ?_
    replace ht:=(bT hg13).symm.trans ht
    refine T ?_
    refine LD 0 hk hS ?_
    refine eC hk (h:=gH h.dr 0 63 _ hS) (k:=?_)
    rintro _ w ⟨rfl,hS⟩
    refine ⟨_,rfl,?_⟩
    replace hS:=hS.nz 1
    iterate 2 refine T ?_
    rcases bt (bJ h.dr 0 63) with hg18 | hg18
    ·refine rwV 16 (.bool (bJ h.dr 0 63)) (.bool true) (by rw [hg18]) ?_
     refine rwV 17 (.bool (bJ h.dr 0 63)) (.bool true) (by rw [hg18]) ?_
     refine rwV 18 (.bool (bJ h.dr 0 63)) (.bool true) (by rw [hg18]) ?_
     replace ht:=(bT hg18).symm.trans ht
     refine T ?_
     refine LD 0 hk hS ?_
     refine eC hk (h:=gH h.bdr 0 63 _ hS) (k:=?_)
     rintro _ w ⟨rfl,hS⟩
     refine ⟨_,rfl,?_⟩
     replace hS:=hS.nz 1
     iterate 2 refine T ?_
     rcases bt (bJ h.bdr 0 63) with hg23 | hg23
     ·refine rwV 21 (.bool (bJ h.bdr 0 63)) (.bool true) (by rw [hg23]) ?_
      refine rwV 22 (.bool (bJ h.bdr 0 63)) (.bool true) (by rw [hg23]) ?_
      refine rwV 23 (.bool (bJ h.bdr 0 63)) (.bool true) (by rw [hg23]) ?_
      replace ht:=(bT hg23).symm.trans ht
      refine T ?_
      refine LD 0 hk hS ?_
      obtain ⟨q8,hq8,ht⟩:=ao ht
      refine eC hk (h:=tu h.seen hp.A hp.c _ hq8 hS) (k:=?_)
      rintro _ w ⟨rfl,hS⟩
      refine ⟨_,rfl,?_⟩
      replace hS:=hS.nz 1
      iterate 2 refine T ?_
      refine rE [2] hk fun a hk=>?_
      refine wp_ret ?_
      replace hS:=hS.pk [] 1
      obtain rfl:=Option.some.inj ht
      exact rt1 hk (hR_ _ _ ⟨rfl,hS⟩)
     refine rwV 21 (.bool (bJ h.bdr 0 63)) (.bool false) (by rw [hg23]) ?_
     refine rwV 22 (.bool (bJ h.bdr 0 63)) (.bool false) (by rw [hg23]) ?_
     refine rwV 23 (.bool (bJ h.bdr 0 63)) (.bool false) (by rw [hg23]) ?_
     replace ht:=(bF hg23).symm.trans ht
     refine oF 23 26 true [24,25] ?_
     refine oE 23 26 true ?_
     iterate 2 refine T ?_
     refine rE [2] hk fun a hk=>?_
     refine wp_ret ?_
     replace hS:=hS.pk [] 1
     obtain rfl:=Option.some.inj ht
     exact rt1 hk (hR_ _ _ ⟨rfl,hS⟩)
    refine rwV 16 (.bool (bJ h.dr 0 63)) (.bool false) (by rw [hg18]) ?_
    refine rwV 17 (.bool (bJ h.dr 0 63)) (.bool false) (by rw [hg18]) ?_
    refine rwV 18 (.bool (bJ h.dr 0 63)) (.bool false) (by rw [hg18]) ?_
    replace ht:=(bF hg18).symm.trans ht
    refine oF 18 21 true [19,20] ?_
    refine oE 18 21 true ?_
    iterate 2 refine T ?_
    refine oF 23 26 true [24,25] ?_
    refine oE 23 26 true ?_
    iterate 2 refine T ?_
    refine rE [2] hk fun a hk=>?_
    refine wp_ret ?_
    replace hS:=hS.pk [] 1
    obtain rfl:=Option.some.inj ht
    exact rt1 hk (hR_ _ _ ⟨rfl,hS⟩)
   refine rwV 11 (.bool (bJ h.prio 0 255)) (.bool false) (by rw [hg13]) ?_
   refine rwV 12 (.bool (bJ h.prio 0 255)) (.bool false) (by rw [hg13]) ?_
   refine rwV 13 (.bool (bJ h.prio 0 255)) (.bool false) (by rw [hg13]) ?_
   replace ht:=(bF hg13).symm.trans ht
   refine oF 13 16 true [14,15] ?_
   refine oE 13 16 true ?_
   iterate 2 refine T ?_
   refine oF 18 21 true [19,20] ?_
   refine oE 18 21 true ?_
   iterate 2 refine T ?_
   refine oF 23 26 true [24,25] ?_
   refine oE 23 26 true ?_
   iterate 2 refine T ?_
   refine rE [2] hk fun a hk=>?_
   refine wp_ret ?_
   replace hS:=hS.pk [] 1
   obtain rfl:=Option.some.inj ht
   exact rt1 hk (hR_ _ _ ⟨rfl,hS⟩)
  refine rwV 6 (.bool (bJ h.dead 1 65535)) (.bool false) (by rw [hg8]) ?_
  refine rwV 7 (.bool (bJ h.dead 1 65535)) (.bool false) (by rw [hg8]) ?_
  refine rwV 8 (.bool (bJ h.dead 1 65535)) (.bool false) (by rw [hg8]) ?_
  replace ht:=(bF hg8).symm.trans ht
  refine oF 8 11 true [9,10] ?_
  refine oE 8 11 true ?_
  iterate 2 refine T ?_
  refine oF 13 16 true [14,15] ?_
  refine oE 13 16 true ?_
  iterate 2 refine T ?_
  refine oF 18 21 true [19,20] ?_
  refine oE 18 21 true ?_
  iterate 2 refine T ?_
  refine oF 23 26 true [24,25] ?_
  refine oE 23 26 true ?_
  iterate 2 refine T ?_
  refine rE [2] hk fun a hk=>?_
  refine wp_ret ?_
  replace hS:=hS.pk [] 1
  obtain rfl:=Option.some.inj ht
  exact rt1 hk (hR_ _ _ ⟨rfl,hS⟩)
 refine rwV 2 (.bool (bJ h.every 1 65535)) (.bool false) (by rw [hg3]) ?_
 refine rwV 3 (.bool (bJ h.every 1 65535)) (.bool false) (by rw [hg3]) ?_
 replace ht:=(bF hg3).symm.trans ht
 refine oF 3 6 true [4,5] ?_
 refine oE 3 6 true ?_
 iterate 2 refine T ?_
 refine oF 8 11 true [9,10] ?_
 refine oE 8 11 true ?_
 iterate 2 refine T ?_
 refine oF 13 16 true [14,15] ?_
 refine oE 13 16 true ?_
 iterate 2 refine T ?_
 refine oF 18 21 true [19,20] ?_
 refine oE 18 21 true ?_
 iterate 2 refine T ?_
 refine oF 23 26 true [24,25] ?_
 refine oE 23 26 true ?_
 iterate 2 refine T ?_
 refine rE [2] hk fun a hk=>?_
 refine wp_ret ?_
 replace hS:=hS.pk [] 1
 obtain rfl:=Option.some.inj ht
 exact rt1 hk (hR_ _ _ ⟨rfl,hS⟩)
def iU (m:List Int):List Int → Nat → Except (Bool) (Unit)
  | [],k2=>.ok ()
  | z2::xs2,k2=>bw (m.getD k2 0) fun z4=>if (z2:Int) ≠ z4 then .error false else iU m xs2 (k2 + 1)
def dG (l:List Int) (m:List Int):Bool:=if (((l.length:Nat):Int):Int) ≠ ((m.length:Nat):Int) then false else exE (iU m l 0) (fun e=>e) fun r2=>true
theorem jB {κ:Kap} {L I:List Atom} (l:List Int) (lA:Option Addr) (lc:Nat) (m:List Int) (mA:Option Addr) (mc:Nat) (W:World) (hS:S κ (L) (aa (.slice lA l.length lc) 3 1 l.length (aw l)::aa (.slice mA m.length mc) 3 1 m.length (aw m)::I) W):
    Calls Tryz.prog 306 #[.slice lA l.length lc,.slice mA m.length mc] W (fun r w'=>r = .returned (.bool (dG l m))∧S κ (L) (aa (.slice lA l.length lc) 3 1 l.length (aw l)::aa (.slice mA m.length mc) 3 1 m.length (aw m)::I) w'):=by
 generalize ht:(dG l m) = t_
 refine wK 26 Tryz.func306 (fun R_ hR_ a hk=>?_)
 refine sg [] hk ?_
 refine T ?_
 refine rE [0,1] hk fun a hk=>?_
 refine wp_seq ?_
 refine sg [] hk ?_
 iterate 5 refine T ?_
 refine rE [0,1,10] hk fun a hk=>?_
 refine cD hk (fun hc10=>?_) (fun hc10=>?_)
 ·replace ht:=(if_pos hc10).symm.trans ht
  refine sg [] hk ?_
  refine T ?_
  refine rE [4] hk fun a hk=>?_
  refine wp_ret ?_
  subst ht
  exact rt1 hk (hR_ _ _ ⟨rfl,hS⟩)
 replace ht:=(if_neg hc10).symm.trans ht
 refine wp_skip ?_
 refine wp_seq ?_
 refine sg [] hk ?_
 iterate 3 refine T ?_
 refine rE [0,1,12,13] hk fun a hk=>?_
 obtain ⟨x2,hr2⟩:∃ y_,iU m l 0 = y_:=⟨_,rfl⟩
 refine aB (fun a_ w_=>∃ r2,x2 = .ok r2∧Fr a_ 26 []∧S κ (L) (aa (.slice lA l.length lc) 3 1 l.length (aw l)::aa (.slice mA m.length mc) 3 1 m.length (aw m)::I) w_) ?_ ?_
 ·refine wp_block ?_
  refine wp_loop (fun a_ w_=>∃ k2:Nat,(k2 ≤ (l).length)∧iU m ((l).drop k2) k2 = x2∧Fr a_ 26 [(0,.slice lA l.length lc),(1,.slice mA m.length mc),(12,i6 ((l.length:Nat):Int)),(13,i6 k2)]∧S κ (L) (aa (.slice lA l.length lc) 3 1 l.length (aw l)::aa (.slice mA m.length mc) 3 1 m.length (aw m)::I) w_) (fun a_ _=>(l).length - (intOf (sl a_ 13)).toNat) ?_ ?_
  ·exact ⟨0,Nat.zero_le _,hr2,hk.to,hS⟩
  clear hk hS
  rintro aL2 w ⟨k2,hkl2,hI2,hk,hS⟩
  have hmu2:=hk.g (s:=13)
  have hlb2:=hS.rowBI (i:=0) rfl
  refine sg [] hk ?_
  refine T ?_
  refine rE [0,1,12,13,14] hk fun a hk=>?_
  refine wp_seq ?_
  refine cD hk (fun hc14=>?_) (fun hc14=>?_)
  ·obtain ⟨z2,hz2⟩:=cq (show k2 < (l).length by omega)
   rw [aF hz2] at hI2
   refine wp_skip ?_
   refine wp_seq ?_
   refine wp_block ?_
   refine sg [] hk ?_
   iterate 2 refine T ?_
   refine rE [0,1,5,12,13] hk fun a hk=>?_
   refine wp_seq ?_
   refine rgR [[],[],[0,1],[0,1,2],[],[],[4,5],[4,5,6],[0,1,2,3,4,5,6,7]] [] (.rd 0 (.rd 1 (.rd 2 (.rd 3 (.rd 4 (.rd 5 (.rd 6 (.rd 7 (.rd 8 (.fin)))))))))) hk hS (fun w hS _=>?_)
   iterate 2 refine T ?_
   refine dN hk (hS.rdI (i:=0) rfl) (fun b3 o3 z3 hz3 hq3=>?_)
   obtain rfl:z2 = z3:=Option.some.inj (hz2.symm.trans hz3)
   refine dF0 hq3 hk ?_
   iterate 2 refine T ?_
   refine dN hk (hS.rdI (i:=1) rfl) (fun b4 o4 z4 hz4 hq4=>?_)
   replace hI2:=(am (fV hz4)).symm.trans hI2
   refine dF0 hq4 hk ?_
   refine T ?_
   refine rE [0,1,12,13,24] hk fun a hk=>?_
   refine cD hk (fun hc24=>?_) (fun hc24=>?_)
   ·replace hI2:=(if_pos hc24).symm.trans hI2
    refine sg [] hk ?_
    refine T ?_
    refine rE [4] hk fun a hk=>?_
    refine wp_ret ?_
    replace ht:=(fB hr2).symm.trans ht
    subst hI2
    subst ht
    exact rt1 hk (hR_ _ _ ⟨rfl,hS⟩)
   replace hI2:=(if_neg hc24).symm.trans hI2
   refine wp_skip ?_
   refine rgL [] hk ?_
   refine dA hk ?_
   refine T ?_
   refine rE [0,1,12,13] hk fun a hk=>?_
   exact ⟨⟨k2 + 1,by omega,hI2,hk.to,hS⟩,aP hk.g hmu2 (by omega)⟩
  obtain rfl:k2 = (l).length:=by omega
  rw [ax (Nat.le_refl _)] at hI2
  refine wp_exit ?_
  subst hI2
  exact ⟨_,rfl,hk.to,hS⟩
 rintro a w ⟨r2,hx,hk,hS⟩
 replace ht:=(fC (hr2.trans hx)).symm.trans ht
 refine sg [] hk ?_
 refine T ?_
 refine rE [4] hk fun a hk=>?_
 refine wp_ret ?_
 subst ht
 exact rt1 hk (hR_ _ _ ⟨rfl,hS⟩)
def el (m:List Lk):List Lk → Nat → Except (Bool) (Unit)
  | [],k2=>.ok ()
  | z2::xs2,k2=>bw (m.getD k2 ⟨0,0,0,0⟩) fun z4=>if z2 ≠ z4 then .error false else el m xs2 (k2 + 1)
def bD (l:List Lk) (m:List Lk):Bool:=if (((l.length:Nat):Int):Int) ≠ ((m.length:Nat):Int) then false else exE (el m l 0) (fun e=>e) fun r2=>true
theorem lP {κ:Kap} {L I:List Atom} (l:List Lk) (lA:Option Addr) (lc:Nat) (m:List Lk) (mA:Option Addr) (mc:Nat) (W:World) (hS:S κ (L) (aa (.slice lA l.length lc) 230 4 l.length (ab Lk.cells l)::aa (.slice mA m.length mc) 230 4 m.length (ab Lk.cells m)::I) W):
    Calls Tryz.prog 335 #[.slice lA l.length lc,.slice mA m.length mc] W (fun r w'=>r = .returned (.bool (bD l m))∧S κ (L) (aa (.slice lA l.length lc) 230 4 l.length (ab Lk.cells l)::aa (.slice mA m.length mc) 230 4 m.length (ab Lk.cells m)::I) w'):=by
 generalize ht:(bD l m) = t_
 refine wK 26 Tryz.func335 (fun R_ hR_ a hk=>?_)
 refine sg [] hk ?_
 refine T ?_
 refine rE [0,1] hk fun a hk=>?_
 refine wp_seq ?_
 refine sg [] hk ?_
 iterate 5 refine T ?_
 refine rE [0,1,10] hk fun a hk=>?_
 refine cD hk (fun hc10=>?_) (fun hc10=>?_)
 ·replace ht:=(if_pos hc10).symm.trans ht
  refine sg [] hk ?_
  refine T ?_
  refine rE [4] hk fun a hk=>?_
  refine wp_ret ?_
  subst ht
  exact rt1 hk (hR_ _ _ ⟨rfl,hS⟩)
 replace ht:=(if_neg hc10).symm.trans ht
 refine wp_skip ?_
 refine wp_seq ?_
 refine sg [] hk ?_
 iterate 3 refine T ?_
 refine rE [0,1,12,13] hk fun a hk=>?_
 obtain ⟨x2,hr2⟩:∃ y_,el m l 0 = y_:=⟨_,rfl⟩
 refine aB (fun a_ w_=>∃ r2,x2 = .ok r2∧Fr a_ 26 []∧S κ (L) (aa (.slice lA l.length lc) 230 4 l.length (ab Lk.cells l)::aa (.slice mA m.length mc) 230 4 m.length (ab Lk.cells m)::I) w_) ?_ ?_
 ·refine wp_block ?_
  refine wp_loop (fun a_ w_=>∃ k2:Nat,(k2 ≤ (l).length)∧el m ((l).drop k2) k2 = x2∧Fr a_ 26 [(0,.slice lA l.length lc),(1,.slice mA m.length mc),(12,i6 ((l.length:Nat):Int)),(13,i6 k2)]∧S κ (L) (aa (.slice lA l.length lc) 230 4 l.length (ab Lk.cells l)::aa (.slice mA m.length mc) 230 4 m.length (ab Lk.cells m)::I) w_) (fun a_ _=>(l).length - (intOf (sl a_ 13)).toNat) ?_ ?_
  ·exact ⟨0,Nat.zero_le _,hr2,hk.to,hS⟩
  clear hk hS
  rintro aL2 w ⟨k2,hkl2,hI2,hk,hS⟩
  have hmu2:=hk.g (s:=13)
  have hlb2:=hS.rowBI (i:=0) rfl
  refine sg [] hk ?_
  refine T ?_
  refine rE [0,1,12,13,14] hk fun a hk=>?_
  refine wp_seq ?_
  refine cD hk (fun hc14=>?_) (fun hc14=>?_)
  ·obtain ⟨z2,hz2⟩:=cq (show k2 < (l).length by omega)
   rw [aF hz2] at hI2
   refine wp_skip ?_
   refine wp_seq ?_
   refine wp_block ?_
   refine sg [] hk ?_
   iterate 2 refine T ?_
   refine rE [0,1,5,12,13] hk fun a hk=>?_
   refine wp_seq ?_
   refine rgR [[],[],[0,1],[0,1,2],[],[],[4,5],[4,5,6],[0,1,2,3,4,5,6,7]] [] (.rd 0 (.rd 1 (.rd 2 (.rd 3 (.rd 4 (.rd 5 (.rd 6 (.rd 7 (.rd 8 (.fin)))))))))) hk hS (fun w hS _=>?_)
   iterate 2 refine T ?_
   refine dX Lk.cells_len' hk (hS.rdI (i:=0) rfl) (fun b3 o3 z3 hz3 hq3=>?_)
   obtain rfl:z2 = z3:=Option.some.inj (hz2.symm.trans hz3)
   refine dV 4 hq3 hk ?_
   iterate 2 refine T ?_
   refine dX Lk.cells_len' hk (hS.rdI (i:=1) rfl) (fun b4 o4 z4 hz4 hq4=>?_)
   replace hI2:=(am (fV hz4)).symm.trans hI2
   refine dV 4 hq4 hk ?_
   refine rD (.bool (decide (z2 ≠ z4))) (fun _ h_=>rk (aq rfl (h_.x hk) (h_.x hk) (fun _=>by first | rfl | kernel_rfl) (zK z2 z4))) ?_
   refine rE [0,1,12,13,24] hk fun a hk=>?_
   refine cD hk (fun hc24=>?_) (fun hc24=>?_)
   ·replace hI2:=(if_pos hc24).symm.trans hI2
    refine sg [] hk ?_
    refine T ?_
    refine rE [4] hk fun a hk=>?_
    refine wp_ret ?_
    replace ht:=(fB hr2).symm.trans ht
    subst hI2
    subst ht
    exact rt1 hk (hR_ _ _ ⟨rfl,hS⟩)
   replace hI2:=(if_neg hc24).symm.trans hI2
   refine wp_skip ?_
   refine rgL [] hk ?_
   refine dA hk ?_
   refine T ?_
   refine rE [0,1,12,13] hk fun a hk=>?_
   exact ⟨⟨k2 + 1,by omega,hI2,hk.to,hS⟩,aP hk.g hmu2 (by omega)⟩
  obtain rfl:k2 = (l).length:=by omega
  rw [ax (Nat.le_refl _)] at hI2
  refine wp_exit ?_
  subst hI2
  exact ⟨_,rfl,hk.to,hS⟩
 rintro a w ⟨r2,hx,hk,hS⟩
 replace ht:=(fC (hr2.trans hx)).symm.trans ht
 refine sg [] hk ?_
 refine T ?_
 refine rE [4] hk fun a hk=>?_
 refine wp_ret ?_
 subst ht
 exact rt1 hk (hR_ _ _ ⟨rfl,hS⟩)
def gE (m:List HD):List HD → Nat → Except (Bool) (Unit)
  | [],k2=>.ok ()
  | z2::xs2,k2=>bw (m.getD k2 ⟨0,0,0,0,0,0,0⟩) fun z4=>if z2 ≠ z4 then .error false else gE m xs2 (k2 + 1)
def cW (l:List HD) (m:List HD):Bool:=if (((l.length:Nat):Int):Int) ≠ ((m.length:Nat):Int) then false else exE (gE m l 0) (fun e=>e) fun r2=>true
theorem lO {κ:Kap} {L I:List Atom} (l:List HD) (lA:Option Addr) (lc:Nat) (m:List HD) (mA:Option Addr) (mc:Nat) (W:World) (hS:S κ (L) (aa (.slice lA l.length lc) 63 7 l.length (ab aH l)::aa (.slice mA m.length mc) 63 7 m.length (ab aH m)::I) W):
    Calls Tryz.prog 307 #[.slice lA l.length lc,.slice mA m.length mc] W (fun r w'=>r = .returned (.bool (cW l m))∧S κ (L) (aa (.slice lA l.length lc) 63 7 l.length (ab aH l)::aa (.slice mA m.length mc) 63 7 m.length (ab aH m)::I) w'):=by
 generalize ht:(cW l m) = t_
 refine wK 26 Tryz.func307 (fun R_ hR_ a hk=>?_)
 refine sg [] hk ?_
 refine T ?_
 refine rE [0,1] hk fun a hk=>?_
 refine wp_seq ?_
 refine sg [] hk ?_
 iterate 5 refine T ?_
 refine rE [0,1,10] hk fun a hk=>?_
 refine cD hk (fun hc10=>?_) (fun hc10=>?_)
 ·replace ht:=(if_pos hc10).symm.trans ht
  refine sg [] hk ?_
  refine T ?_
  refine rE [4] hk fun a hk=>?_
  refine wp_ret ?_
  subst ht
  exact rt1 hk (hR_ _ _ ⟨rfl,hS⟩)
 replace ht:=(if_neg hc10).symm.trans ht
 refine wp_skip ?_
 refine wp_seq ?_
 refine sg [] hk ?_
 iterate 3 refine T ?_
 refine rE [0,1,12,13] hk fun a hk=>?_
 obtain ⟨x2,hr2⟩:∃ y_,gE m l 0 = y_:=⟨_,rfl⟩
 refine aB (fun a_ w_=>∃ r2,x2 = .ok r2∧Fr a_ 26 []∧S κ (L) (aa (.slice lA l.length lc) 63 7 l.length (ab aH l)::aa (.slice mA m.length mc) 63 7 m.length (ab aH m)::I) w_) ?_ ?_
 ·refine wp_block ?_
  refine wp_loop (fun a_ w_=>∃ k2:Nat,(k2 ≤ (l).length)∧gE m ((l).drop k2) k2 = x2∧Fr a_ 26 [(0,.slice lA l.length lc),(1,.slice mA m.length mc),(12,i6 ((l.length:Nat):Int)),(13,i6 k2)]∧S κ (L) (aa (.slice lA l.length lc) 63 7 l.length (ab aH l)::aa (.slice mA m.length mc) 63 7 m.length (ab aH m)::I) w_) (fun a_ _=>(l).length - (intOf (sl a_ 13)).toNat) ?_ ?_
  ·exact ⟨0,Nat.zero_le _,hr2,hk.to,hS⟩
  clear hk hS
  rintro aL2 w ⟨k2,hkl2,hI2,hk,hS⟩
  have hmu2:=hk.g (s:=13)
  have hlb2:=hS.rowBI (i:=0) rfl
  refine sg [] hk ?_
  refine T ?_
  refine rE [0,1,12,13,14] hk fun a hk=>?_
  refine wp_seq ?_
  refine cD hk (fun hc14=>?_) (fun hc14=>?_)
  ·obtain ⟨z2,hz2⟩:=cq (show k2 < (l).length by omega)
   rw [aF hz2] at hI2
   refine wp_skip ?_
   refine wp_seq ?_
   refine wp_block ?_
   refine sg [] hk ?_
   iterate 2 refine T ?_
   refine rE [0,1,5,12,13] hk fun a hk=>?_
   refine wp_seq ?_
   refine rgR [[],[],[0,1],[0,1,2],[],[],[4,5],[4,5,6],[0,1,2,3,4,5,6,7]] [] (.rd 0 (.rd 1 (.rd 2 (.rd 3 (.rd 4 (.rd 5 (.rd 6 (.rd 7 (.rd 8 (.fin)))))))))) hk hS (fun w hS _=>?_)
   iterate 2 refine T ?_
   refine dX m3 hk (hS.rdI (i:=0) rfl) (fun b3 o3 z3 hz3 hq3=>?_)
   obtain rfl:z2 = z3:=Option.some.inj (hz2.symm.trans hz3)
   refine dV 7 hq3 hk ?_
   iterate 2 refine T ?_
   refine dX m3 hk (hS.rdI (i:=1) rfl) (fun b4 o4 z4 hz4 hq4=>?_)
   replace hI2:=(am (fV hz4)).symm.trans hI2
   refine dV 7 hq4 hk ?_
   refine rD (.bool (decide (z2 ≠ z4))) (fun _ h_=>rk (aq rfl (h_.x hk) (h_.x hk) (fun _=>by first | rfl | kernel_rfl) (xe z2 z4))) ?_
   refine rE [0,1,12,13,24] hk fun a hk=>?_
   refine cD hk (fun hc24=>?_) (fun hc24=>?_)
   ·replace hI2:=(if_pos hc24).symm.trans hI2
    refine sg [] hk ?_
    refine T ?_
    refine rE [4] hk fun a hk=>?_
    refine wp_ret ?_
    replace ht:=(fB hr2).symm.trans ht
    subst hI2
    subst ht
    exact rt1 hk (hR_ _ _ ⟨rfl,hS⟩)
   replace hI2:=(if_neg hc24).symm.trans hI2
   refine wp_skip ?_
   refine rgL [] hk ?_
   refine dA hk ?_
   refine T ?_
   refine rE [0,1,12,13] hk fun a hk=>?_
   exact ⟨⟨k2 + 1,by omega,hI2,hk.to,hS⟩,aP hk.g hmu2 (by omega)⟩
  obtain rfl:k2 = (l).length:=by omega
  rw [ax (Nat.le_refl _)] at hI2
  refine wp_exit ?_
  subst hI2
  exact ⟨_,rfl,hk.to,hS⟩
 rintro a w ⟨r2,hx,hk,hS⟩
 replace ht:=(fC (hr2.trans hx)).symm.trans ht
 refine sg [] hk ?_
 refine T ?_
 refine rE [4] hk fun a hk=>?_
 refine wp_ret ?_
 subst ht
 exact rt1 hk (hR_ _ _ ⟨rfl,hS⟩)
def iV (m:List KeyV):List KeyV → Nat → Except (Bool) (Unit)
  | [],k2=>.ok ()
  | z2::xs2,k2=>bw (m.getD k2 ⟨0,0,0⟩) fun z4=>if z2 ≠ z4 then .error false else iV m xs2 (k2 + 1)
def eD (l:List KeyV) (m:List KeyV):Bool:=if (((l.length:Nat):Int):Int) ≠ ((m.length:Nat):Int) then false else exE (iV m l 0) (fun e=>e) fun r2=>true
theorem sJ {κ:Kap} {L I:List Atom} (l:List KeyV) (lA:Option Addr) (lc:Nat) (m:List KeyV) (mA:Option Addr) (mc:Nat) (W:World) (hS:S κ (L) (aa (.slice lA l.length lc) 111 3 l.length (ab KeyV.cells l)::aa (.slice mA m.length mc) 111 3 m.length (ab KeyV.cells m)::I) W):
    Calls Tryz.prog 308 #[.slice lA l.length lc,.slice mA m.length mc] W (fun r w'=>r = .returned (.bool (eD l m))∧S κ (L) (aa (.slice lA l.length lc) 111 3 l.length (ab KeyV.cells l)::aa (.slice mA m.length mc) 111 3 m.length (ab KeyV.cells m)::I) w'):=by
 generalize ht:(eD l m) = t_
 refine wK 26 Tryz.func308 (fun R_ hR_ a hk=>?_)
 refine sg [] hk ?_
 refine T ?_
 refine rE [0,1] hk fun a hk=>?_
 refine wp_seq ?_
 refine sg [] hk ?_
 iterate 5 refine T ?_
 refine rE [0,1,10] hk fun a hk=>?_
 refine cD hk (fun hc10=>?_) (fun hc10=>?_)
 ·replace ht:=(if_pos hc10).symm.trans ht
  refine sg [] hk ?_
  refine T ?_
  refine rE [4] hk fun a hk=>?_
  refine wp_ret ?_
  subst ht
  exact rt1 hk (hR_ _ _ ⟨rfl,hS⟩)
 replace ht:=(if_neg hc10).symm.trans ht
 refine wp_skip ?_
 refine wp_seq ?_
 refine sg [] hk ?_
 iterate 3 refine T ?_
 refine rE [0,1,12,13] hk fun a hk=>?_
 obtain ⟨x2,hr2⟩:∃ y_,iV m l 0 = y_:=⟨_,rfl⟩
 refine aB (fun a_ w_=>∃ r2,x2 = .ok r2∧Fr a_ 26 []∧S κ (L) (aa (.slice lA l.length lc) 111 3 l.length (ab KeyV.cells l)::aa (.slice mA m.length mc) 111 3 m.length (ab KeyV.cells m)::I) w_) ?_ ?_
 ·refine wp_block ?_
  refine wp_loop (fun a_ w_=>∃ k2:Nat,(k2 ≤ (l).length)∧iV m ((l).drop k2) k2 = x2∧Fr a_ 26 [(0,.slice lA l.length lc),(1,.slice mA m.length mc),(12,i6 ((l.length:Nat):Int)),(13,i6 k2)]∧S κ (L) (aa (.slice lA l.length lc) 111 3 l.length (ab KeyV.cells l)::aa (.slice mA m.length mc) 111 3 m.length (ab KeyV.cells m)::I) w_) (fun a_ _=>(l).length - (intOf (sl a_ 13)).toNat) ?_ ?_
  ·exact ⟨0,Nat.zero_le _,hr2,hk.to,hS⟩
  clear hk hS
  rintro aL2 w ⟨k2,hkl2,hI2,hk,hS⟩
  have hmu2:=hk.g (s:=13)
  have hlb2:=hS.rowBI (i:=0) rfl
  refine sg [] hk ?_
  refine T ?_
  refine rE [0,1,12,13,14] hk fun a hk=>?_
  refine wp_seq ?_
  refine cD hk (fun hc14=>?_) (fun hc14=>?_)
  ·obtain ⟨z2,hz2⟩:=cq (show k2 < (l).length by omega)
   rw [aF hz2] at hI2
   refine wp_skip ?_
   refine wp_seq ?_
   refine wp_block ?_
   refine sg [] hk ?_
   iterate 2 refine T ?_
   refine rE [0,1,5,12,13] hk fun a hk=>?_
   refine wp_seq ?_
   refine rgR [[],[],[0,1],[0,1,2],[],[],[4,5],[4,5,6],[0,1,2,3,4,5,6,7]] [] (.rd 0 (.rd 1 (.rd 2 (.rd 3 (.rd 4 (.rd 5 (.rd 6 (.rd 7 (.rd 8 (.fin)))))))))) hk hS (fun w hS _=>?_)
   iterate 2 refine T ?_
   refine dX KeyV.cells_len' hk (hS.rdI (i:=0) rfl) (fun b3 o3 z3 hz3 hq3=>?_)
   obtain rfl:z2 = z3:=Option.some.inj (hz2.symm.trans hz3)
   refine dV 3 hq3 hk ?_
   iterate 2 refine T ?_
   refine dX KeyV.cells_len' hk (hS.rdI (i:=1) rfl) (fun b4 o4 z4 hz4 hq4=>?_)
   replace hI2:=(am (fV hz4)).symm.trans hI2
   refine dV 3 hq4 hk ?_
   refine rD (.bool (decide (z2 ≠ z4))) (fun _ h_=>rk (aq rfl (h_.x hk) (h_.x hk) (fun _=>by first | rfl | kernel_rfl) (ww z2 z4))) ?_
   refine rE [0,1,12,13,24] hk fun a hk=>?_
   refine cD hk (fun hc24=>?_) (fun hc24=>?_)
   ·replace hI2:=(if_pos hc24).symm.trans hI2
    refine sg [] hk ?_
    refine T ?_
    refine rE [4] hk fun a hk=>?_
    refine wp_ret ?_
    replace ht:=(fB hr2).symm.trans ht
    subst hI2
    subst ht
    exact rt1 hk (hR_ _ _ ⟨rfl,hS⟩)
   replace hI2:=(if_neg hc24).symm.trans hI2
   refine wp_skip ?_
   refine rgL [] hk ?_
   refine dA hk ?_
   refine T ?_
   refine rE [0,1,12,13] hk fun a hk=>?_
   exact ⟨⟨k2 + 1,by omega,hI2,hk.to,hS⟩,aP hk.g hmu2 (by omega)⟩
  obtain rfl:k2 = (l).length:=by omega
  rw [ax (Nat.le_refl _)] at hI2
  refine wp_exit ?_
  subst hI2
  exact ⟨_,rfl,hk.to,hS⟩
 rintro a w ⟨r2,hx,hk,hS⟩
 replace ht:=(fC (hr2.trans hx)).symm.trans ht
 refine sg [] hk ?_
 refine T ?_
 refine rE [4] hk fun a hk=>?_
 refine wp_ret ?_
 subst ht
 exact rt1 hk (hR_ _ _ ⟨rfl,hS⟩)
def ng (x:LV) (y:LV):Bool:=if x.hd = y.hd then cond (bD x.links y.links) ((dG x.mem y.mem)) (false) else false
theorem qZ {κ:Kap} {L I:List Atom} (x:LV) (xp:LP) (y:LV) (yp:LP) (W:World) (hS:S κ (L) (aa (.slice xp.A x.links.length xp.c) 230 4 x.links.length (ab Lk.cells x.links)::aa (.slice xp.B x.mem.length xp.d) 3 1 x.mem.length (aw x.mem)::aa (.slice yp.A y.links.length yp.c) 230 4 y.links.length (ab Lk.cells y.links)::aa (.slice yp.B y.mem.length yp.d) 3 1 y.mem.length (aw y.mem)::I) W):
    Calls Tryz.prog 305 #[.agg #[i6 x.hd.age,i6 x.hd.kind,i6 x.hd.id,i6 x.hd.adv,i6 x.hd.seq,i6 x.hd.sum,i6 x.hd.long,.slice xp.A x.links.length xp.c,.slice xp.B x.mem.length xp.d],.agg #[i6 y.hd.age,i6 y.hd.kind,i6 y.hd.id,i6 y.hd.adv,i6 y.hd.seq,i6 y.hd.sum,i6 y.hd.long,.slice yp.A y.links.length yp.c,.slice yp.B y.mem.length yp.d]] W (fun r w'=>r = .returned (.bool (ng x y))∧S κ (L) (aa (.slice xp.A x.links.length xp.c) 230 4 x.links.length (ab Lk.cells x.links)::aa (.slice xp.B x.mem.length xp.d) 3 1 x.mem.length (aw x.mem)::aa (.slice yp.A y.links.length yp.c) 230 4 y.links.length (ab Lk.cells y.links)::aa (.slice yp.B y.mem.length yp.d) 3 1 y.mem.length (aw y.mem)::I) w'):=by
 generalize ht:(ng x y) = t_
 refine wK 24 Tryz.func305 (fun R_ hR_ a hk=>?_)
 refine sg [0,1] hk ?_
 refine eB hk hS (fun g2 w hS _=>?_)
 refine eB hk hS (fun g3 w hS _=>?_)
 refine T ?_
 refine rE [2,3] hk fun a hk=>?_
 refine sg [10,17] hk ?_
 refine T ?_
 refine LDS 1 7 hk hS ?_
 refine T ?_
 refine LDS 0 7 hk hS ?_
 refine rD (.bool (decide (x.hd = y.hd))) (fun _ h_=>rk (aq rfl (h_.x hk) (h_.x hk) (fun _=>by first | rfl | kernel_rfl) (xd x.hd y.hd))) ?_
 refine T ?_
 rcases dt (x.hd = y.hd) with ⟨he,hg5⟩ | ⟨he,hg5⟩
 ·rw [he]
  replace ht:=(if_pos hg5).symm.trans ht
  refine T ?_
  refine LD 1 hk hS ?_
  refine T ?_
  refine LD 0 hk hS ?_
  replace hS:=hS.dupI 2
  replace hS:=hS.dupI 1
  refine eC hk (h:=lP x.links xp.A xp.c y.links yp.A yp.c _ hS) (k:=?_)
  rintro _ w ⟨rfl,hS⟩
  refine ⟨_,rfl,?_⟩
  replace hS:=hS.dropI.dropI
  replace hS:=hS.nz 2
  iterate 2 refine T ?_
  rcases bt (bD x.links y.links) with hg12 | hg12
  ·refine rwV 10 (.bool (bD x.links y.links)) (.bool true) (by rw [hg12]) ?_
   refine rwV 11 (.bool (bD x.links y.links)) (.bool true) (by rw [hg12]) ?_
   refine rwV 12 (.bool (bD x.links y.links)) (.bool true) (by rw [hg12]) ?_
   replace ht:=(bT hg12).symm.trans ht
   refine T ?_
   refine LD 1 hk hS ?_
   refine T ?_
   refine LD 0 hk hS ?_
   replace hS:=hS.dupI 3
   replace hS:=hS.dupI 2
   refine eC hk (h:=jB x.mem xp.B xp.d y.mem yp.B yp.d _ hS) (k:=?_)
   rintro _ w ⟨rfl,hS⟩
   refine ⟨_,rfl,?_⟩
   replace hS:=hS.dropI.dropI
   replace hS:=hS.nz 2
   iterate 2 refine T ?_
   refine rE [4] hk fun a hk=>?_
   refine wp_ret ?_
   replace hS:=hS.pk [] 2
   subst ht
   exact rt1 hk (hR_ _ _ ⟨rfl,hS⟩)
  refine rwV 10 (.bool (bD x.links y.links)) (.bool false) (by rw [hg12]) ?_
  refine rwV 11 (.bool (bD x.links y.links)) (.bool false) (by rw [hg12]) ?_
  refine rwV 12 (.bool (bD x.links y.links)) (.bool false) (by rw [hg12]) ?_
  replace ht:=(bF hg12).symm.trans ht
  refine oF 12 17 true [13,14,15,16] ?_
  refine oE 12 17 true ?_
  iterate 2 refine T ?_
  refine rE [4] hk fun a hk=>?_
  refine wp_ret ?_
  replace hS:=hS.pk [] 2
  subst ht
  exact rt1 hk (hR_ _ _ ⟨rfl,hS⟩)
 rw [he]
 replace ht:=(if_neg hg5).symm.trans ht
 refine oF 5 10 true [6,7,8,9] ?_
 refine oE 5 10 true ?_
 iterate 2 refine T ?_
 refine oF 12 17 true [13,14,15,16] ?_
 refine oE 12 17 true ?_
 iterate 2 refine T ?_
 refine rE [4] hk fun a hk=>?_
 refine wp_ret ?_
 replace hS:=hS.pk [] 2
 subst ht
 exact rt1 hk (hR_ _ _ ⟨rfl,hS⟩)
def iW (m:List LV):List LV → Nat → Except (Bool) (Unit)
  | [],k2=>.ok ()
  | z2::xs2,k2=>bw (m.getD k2 ⟨⟨0,0,0,0,0,0,0⟩,[],[]⟩) fun z5=>cond (ng z2 z5) (iW m xs2 (k2 + 1)) (.error false)
def eE (l:List LV) (m:List LV):Bool:=if (((l.length:Nat):Int):Int) ≠ ((m.length:Nat):Int) then false else exE (iW m l 0) (fun e=>e) fun r2=>true
theorem sK {κ:Kap} {L I:List Atom} (l:List LV) (lA:Option Addr) (lc:Nat) (m:List LV) (mA:Option Addr) (mc:Nat) (W:World) (hS:S κ (L) (crA lsFn 66 lA lc l::crA lsFn 66 mA mc m::I) W):
    Calls Tryz.prog 309 #[.slice lA l.length lc,.slice mA m.length mc,.func (.func 305) #[] #[]] W (fun r w'=>r = .returned (.bool (eE l m))∧S κ (L) (crA lsFn 66 lA lc l::crA lsFn 66 mA mc m::I) w'):=by
 generalize ht:(eE l m) = t_
 refine wK 32 Tryz.func309 (fun R_ hR_ a hk=>?_)
 refine sg [] hk ?_
 refine T ?_
 refine rE [0,1,2] hk fun a hk=>?_
 refine wp_seq ?_
 refine sg [] hk ?_
 iterate 5 refine T ?_
 refine rE [0,1,2,14] hk fun a hk=>?_
 refine cD hk (fun hc14=>?_) (fun hc14=>?_)
 ·replace ht:=(if_pos hc14).symm.trans ht
  refine sg [] hk ?_
  refine T ?_
  refine rE [6] hk fun a hk=>?_
  refine wp_ret ?_
  subst ht
  exact rt1 hk (hR_ _ _ ⟨rfl,hS⟩)
 replace ht:=(if_neg hc14).symm.trans ht
 refine wp_skip ?_
 refine wp_seq ?_
 refine sg [] hk ?_
 iterate 3 refine T ?_
 refine rE [1,2,15,16,17] hk fun a hk=>?_
 obtain ⟨x2,hr2⟩:∃ y_,iW m l 0 = y_:=⟨_,rfl⟩
 refine aB (fun a_ w_=>∃ r2,x2 = .ok r2∧Fr a_ 32 []∧S κ (L) (crA lsFn 66 lA lc l::crA lsFn 66 mA mc m::I) w_) ?_ ?_
 ·refine wp_block ?_
  refine wp_loop (fun a_ w_=>∃ k2:Nat,(k2 ≤ (l).length)∧iW m ((l).drop k2) k2 = x2∧Fr a_ 32 [(1,.slice mA m.length mc),(2,.func (.func 305) #[] #[]),(15,.slice lA l.length lc),(16,i6 ((l.length:Nat):Int)),(17,i6 k2)]∧S κ (L) (crA lsFn 66 lA lc l::crA lsFn 66 mA mc m::I) w_) (fun a_ _=>(l).length - (intOf (sl a_ 17)).toNat) ?_ ?_
  ·exact ⟨0,Nat.zero_le _,hr2,hk.to,hS⟩
  clear hk hS
  rintro aL2 w ⟨k2,hkl2,hI2,hk,hS⟩
  have hmu2:=hk.g (s:=17)
  have hlb2:=jl hS (i:=0)
  refine sg [] hk ?_
  refine T ?_
  refine rE [1,2,15,16,17,18] hk fun a hk=>?_
  refine wp_seq ?_
  refine cD hk (fun hc18=>?_) (fun hc18=>?_)
  ·obtain ⟨z2,hz2⟩:=cq (show k2 < (l).length by omega)
   rw [aF hz2] at hI2
   refine wp_skip ?_
   refine wp_seq ?_
   refine wp_block ?_
   refine sg [3,5] hk ?_
   refine T ?_
   refine cX 0 hz2 hk hS (fun b3 o3 e3 hS hq3=>?_)
   replace hS:S κ (L) (aa (.slice e3.A z2.links.length e3.c) 230 4 z2.links.length (ab Lk.cells z2.links)::aa (.slice e3.B z2.mem.length e3.d) 3 1 z2.mem.length (aw z2.mem)::crA lsFn 66 lA lc l::crA lsFn 66 mA mc m::I) w:=hS
   refine dV 9 hq3 hk ?_
   refine eA #[i6 0,i6 0,i6 0,i6 0,i6 0,i6 0,i6 0,.slice none 0 0,.slice none 0 0] hS (fun g4 w hS _=>?_)
   refine T ?_
   refine eS 0 hk hS (fun w hS _=>?_)
   refine rE [1,2,7,8,15,16,17] hk fun a hk=>?_
   refine sg [4,5] hk ?_
   iterate 2 refine T ?_
   obtain ⟨z5,hz5⟩:=cq (show k2 < m.length by omega)
   replace hI2:=(am (fV hz5)).symm.trans hI2
   refine cX 3 hz5 hk hS (fun b6 o6 e6 hS hq6=>?_)
   replace hS:=hS.nz 1
   refine dV 9 hq6 hk ?_
   refine eA #[i6 0,i6 0,i6 0,i6 0,i6 0,i6 0,i6 0,.slice none 0 0,.slice none 0 0] hS (fun g7 w hS _=>?_)
   refine eS 0 hk hS (fun w hS _=>?_)
   refine rE [1,2,8,9,15,16,17] hk fun a hk=>?_
   refine sg [3] hk ?_
   refine T ?_
   refine LDS 1 9 hk hS ?_
   refine LDS 0 9 hk hS ?_
   replace hS:=hS.dupI 1
   replace hS:=hS.dupI 1
   replace hS:=hS.dupI 5
   replace hS:=hS.dupI 5
   refine eV hk (h:=qZ z2 e3 z5 e6 _ hS) (k:=?_)
   rintro _ w ⟨rfl,hS⟩
   refine ⟨_,rfl,?_⟩
   replace hS:=hS.dropI.dropI.dropI.dropI
   replace hS:=hS.nz 2
   refine T ?_
   refine rE [1,2,15,16,17,30] hk fun a hk=>?_
   refine cB hk (fun hc30=>?_) (fun hc30=>?_)
   ·replace hc30:=nbt hc30
    replace hI2:=(bF hc30).symm.trans hI2
    refine sg [] hk ?_
    refine T ?_
    refine rE [6] hk fun a hk=>?_
    refine wp_ret ?_
    replace hS:=hS.pk [] 2
    replace hS:=hS.dropI.dropI.dropI.dropI
    replace ht:=(fB hr2).symm.trans ht
    subst hI2
    subst ht
    exact rt1 hk (hR_ _ _ ⟨rfl,hS⟩)
   replace hc30:=nbf hc30
   replace hI2:=(bT hc30).symm.trans hI2
   refine wp_skip ?_
   refine rgL [] hk ?_
   refine dA hk ?_
   refine T ?_
   refine rE [1,2,15,16,17] hk fun a hk=>?_
   replace hS:=hS.pk [] 2
   replace hS:=hS.dropI.dropI.dropI.dropI
   exact ⟨⟨k2 + 1,by omega,hI2,hk.to,hS⟩,aP hk.g hmu2 (by omega)⟩
  obtain rfl:k2 = (l).length:=by omega
  rw [ax (Nat.le_refl _)] at hI2
  refine wp_exit ?_
  subst hI2
  exact ⟨_,rfl,hk.to,hS⟩
 rintro a w ⟨r2,hx,hk,hS⟩
 replace ht:=(fC (hr2.trans hx)).symm.trans ht
 refine sg [] hk ?_
 refine T ?_
 refine rE [6] hk fun a hk=>?_
 refine wp_ret ?_
 subst ht
 exact rt1 hk (hR_ _ _ ⟨rfl,hS⟩)
def i9 (x:PkV) (y:PkV):Bool:=if (x.kind:Int) = y.kind then if (x.frm:Int) = y.frm then if (x.every:Int) = y.every then if (x.dead:Int) = y.dead then if (x.prio:Int) = y.prio then if (x.dr:Int) = y.dr then if (x.bdr:Int) = y.bdr then cond (dG x.seen y.seen) (if x.init = y.init then if x.more = y.more then if x.master = y.master then if (x.seq:Int) = y.seq then cond (cW x.heads y.heads) (cond (eD x.wants y.wants) (cond (eE x.lsas y.lsas) ((cW x.acks y.acks)) (false)) (false)) (false) else false else false else false else false) (false) else false else false else false else false else false else false else false
theorem tl {κ:Kap} {L I:List Atom} (x:PkV) (xp:SlP × SlP × SlP × SlP × SlP) (y:PkV) (yp:SlP × SlP × SlP × SlP × SlP) (W:World) (hS:S κ (L) (aa (.slice xp.1.A x.seen.length xp.1.c) 3 1 x.seen.length (aw x.seen)::aa (.slice xp.2.1.A x.heads.length xp.2.1.c) 63 7 x.heads.length (ab aH x.heads)::aa (.slice xp.2.2.1.A x.wants.length xp.2.2.1.c) 111 3 x.wants.length (ab KeyV.cells x.wants)::crA lsFn 66 xp.2.2.2.1.A xp.2.2.2.1.c x.lsas::aa (.slice xp.2.2.2.2.A x.acks.length xp.2.2.2.2.c) 63 7 x.acks.length (ab aH x.acks)::aa (.slice yp.1.A y.seen.length yp.1.c) 3 1 y.seen.length (aw y.seen)::aa (.slice yp.2.1.A y.heads.length yp.2.1.c) 63 7 y.heads.length (ab aH y.heads)::aa (.slice yp.2.2.1.A y.wants.length yp.2.2.1.c) 111 3 y.wants.length (ab KeyV.cells y.wants)::crA lsFn 66 yp.2.2.2.1.A yp.2.2.2.1.c y.lsas::aa (.slice yp.2.2.2.2.A y.acks.length yp.2.2.2.2.c) 63 7 y.acks.length (ab aH y.acks)::I) W):
    Calls Tryz.prog 231 #[.agg #[i6 x.kind,i6 x.frm,i6 x.every,i6 x.dead,i6 x.prio,i6 x.dr,i6 x.bdr,.slice xp.1.A x.seen.length xp.1.c,.bool x.init,.bool x.more,.bool x.master,i6 x.seq,.slice xp.2.1.A x.heads.length xp.2.1.c,.slice xp.2.2.1.A x.wants.length xp.2.2.1.c,.slice xp.2.2.2.1.A x.lsas.length xp.2.2.2.1.c,.slice xp.2.2.2.2.A x.acks.length xp.2.2.2.2.c],.agg #[i6 y.kind,i6 y.frm,i6 y.every,i6 y.dead,i6 y.prio,i6 y.dr,i6 y.bdr,.slice yp.1.A y.seen.length yp.1.c,.bool y.init,.bool y.more,.bool y.master,i6 y.seq,.slice yp.2.1.A y.heads.length yp.2.1.c,.slice yp.2.2.1.A y.wants.length yp.2.2.1.c,.slice yp.2.2.2.1.A y.lsas.length yp.2.2.2.1.c,.slice yp.2.2.2.2.A y.acks.length yp.2.2.2.2.c]] W (fun r w'=>r = .returned (.bool (i9 x y))∧S κ (L) (aa (.slice xp.1.A x.seen.length xp.1.c) 3 1 x.seen.length (aw x.seen)::aa (.slice xp.2.1.A x.heads.length xp.2.1.c) 63 7 x.heads.length (ab aH x.heads)::aa (.slice xp.2.2.1.A x.wants.length xp.2.2.1.c) 111 3 x.wants.length (ab KeyV.cells x.wants)::crA lsFn 66 xp.2.2.2.1.A xp.2.2.2.1.c x.lsas::aa (.slice xp.2.2.2.2.A x.acks.length xp.2.2.2.2.c) 63 7 x.acks.length (ab aH x.acks)::aa (.slice yp.1.A y.seen.length yp.1.c) 3 1 y.seen.length (aw y.seen)::aa (.slice yp.2.1.A y.heads.length yp.2.1.c) 63 7 y.heads.length (ab aH y.heads)::aa (.slice yp.2.2.1.A y.wants.length yp.2.2.1.c) 111 3 y.wants.length (ab KeyV.cells y.wants)::crA lsFn 66 yp.2.2.2.1.A yp.2.2.2.1.c y.lsas::aa (.slice yp.2.2.2.2.A y.acks.length yp.2.2.2.2.c) 63 7 y.acks.length (ab aH y.acks)::I) w'):=by
 generalize ht:(i9 x y) = t_
 refine wK 127 Tryz.func231 (fun R_ hR_ a hk=>?_)
 refine sg [0,1] hk ?_
 refine eB hk hS (fun g2 w hS _=>?_)
 refine eB hk hS (fun g3 w hS _=>?_)
 refine T ?_
 refine rE [2,3] hk fun a hk=>?_
 refine wp_seq ?_
 refine aB (fun a_ w_=>∃ g4,∃ g5,Fr a_ 127 [(2,pt g2 0),(3,pt g3 0),(5,pt g4 0),(6,pt g5 0)]∧S κ (ai g5 46 #[i6 y.every,i6 y.dead,i6 y.prio,i6 y.dr,i6 y.bdr,.slice yp.1.A y.seen.length yp.1.c]::ai g4 46 #[i6 x.every,i6 x.dead,i6 x.prio,i6 x.dr,i6 x.bdr,.slice xp.1.A x.seen.length xp.1.c]::ai g3 56 #[i6 y.kind,i6 y.frm,i6 y.every,i6 y.dead,i6 y.prio,i6 y.dr,i6 y.bdr,.slice yp.1.A y.seen.length yp.1.c,.bool y.init,.bool y.more,.bool y.master,i6 y.seq,.slice yp.2.1.A y.heads.length yp.2.1.c,.slice yp.2.2.1.A y.wants.length yp.2.2.1.c,.slice yp.2.2.2.1.A y.lsas.length yp.2.2.2.1.c,.slice yp.2.2.2.2.A y.acks.length yp.2.2.2.2.c]::ai g2 56 #[i6 x.kind,i6 x.frm,i6 x.every,i6 x.dead,i6 x.prio,i6 x.dr,i6 x.bdr,.slice xp.1.A x.seen.length xp.1.c,.bool x.init,.bool x.more,.bool x.master,i6 x.seq,.slice xp.2.1.A x.heads.length xp.2.1.c,.slice xp.2.2.1.A x.wants.length xp.2.2.1.c,.slice xp.2.2.2.1.A x.lsas.length xp.2.2.2.1.c,.slice xp.2.2.2.2.A x.acks.length xp.2.2.2.2.c]::L) (aa (.slice xp.1.A x.seen.length xp.1.c) 3 1 x.seen.length (aw x.seen)::aa (.slice xp.2.1.A x.heads.length xp.2.1.c) 63 7 x.heads.length (ab aH x.heads)::aa (.slice xp.2.2.1.A x.wants.length xp.2.2.1.c) 111 3 x.wants.length (ab KeyV.cells x.wants)::crA lsFn 66 xp.2.2.2.1.A xp.2.2.2.1.c x.lsas::aa (.slice xp.2.2.2.2.A x.acks.length xp.2.2.2.2.c) 63 7 x.acks.length (ab aH x.acks)::aa (.slice yp.1.A y.seen.length yp.1.c) 3 1 y.seen.length (aw y.seen)::aa (.slice yp.2.1.A y.heads.length yp.2.1.c) 63 7 y.heads.length (ab aH y.heads)::aa (.slice yp.2.2.1.A y.wants.length yp.2.2.1.c) 111 3 y.wants.length (ab KeyV.cells y.wants)::crA lsFn 66 yp.2.2.2.1.A yp.2.2.2.1.c y.lsas::aa (.slice yp.2.2.2.2.A y.acks.length yp.2.2.2.2.c) 63 7 y.acks.length (ab aH y.acks)::I) w_) ?_ ?_
 ·refine rgR [[],[0],[],[2],[],[],[0,1,4,5],[0,1,2,3,4,5,6]] [4,5,6,7] (.rd 0 (.rd 1 (.rd 2 (.rd 3 (.ef 4 (.ag 0 (.ag 1 (.ag 2 (.ag 3 (.ef 5 (.ag 0 (.ag 1 (.ag 2 (.ag 3 (.ef 6 (.ag 2 (.ag 3 (.ef 7 (.fin) .non))) .non))))) .non))))) (.ef 5 (.ag 0 (.ag 1 (.ag 2 (.ag 3 (.ef 4 (.ag 0 (.ag 1 (.ag 2 (.ag 3 (.ef 6 (.ag 2 (.ag 3 (.ef 7 (.fin) .non))) .non))))) .non))))) .non)))))) hk hS (fun w hS _=>?_)
  refine T ?_
  refine LDS 1 6 hk hS ?_
  refine T ?_
  refine LDS 0 6 hk hS ?_
  refine efk ?_ ?_
  ·refine eA #[i6 0,i6 0,i6 0,i6 0,i6 0,.slice none 0 0] hS (fun g4 w hS _=>?_)
   refine TA ?_
   refine aG (fun _ h_=>rk (lbS 6 (hS.blk (i:=2) rfl) rfl (h_.x hk))) ?_
   refine TA ?_
   refine aG (fun _ h_=>rk (lbS 6 (hS.blk (i:=1) rfl) rfl (h_.x hk))) ?_
   refine eA #[i6 0,i6 0,i6 0,i6 0,i6 0,.slice none 0 0] hS (fun g5 w hS _=>?_)
   refine TA ?_
   refine aG (fun _ h_=>rk (lbS 6 (hS.blk (i:=3) rfl) rfl (h_.x hk))) ?_
   refine TA ?_
   refine aG (fun _ h_=>rk (lbS 6 (hS.blk (i:=2) rfl) rfl (h_.x hk))) ?_
   refine eS 1 hk hS (fun w hS _=>?_)
   refine TA ?_
   refine aG (fun _ h_=>rk (lbS 6 (hS.blk (i:=2) rfl) rfl (h_.x hk))) ?_
   refine eS 0 hk hS (fun w hS _=>?_)
   refine rE [2,3,5,6] hk fun a hk=>?_
   exact ⟨_,_,hk.to,hS⟩
  refine eA #[i6 0,i6 0,i6 0,i6 0,i6 0,.slice none 0 0] hS (fun g6 w hS _=>?_)
  refine TA ?_
  refine aG (fun _ h_=>rk (lbS 6 (hS.blk (i:=2) rfl) rfl (h_.x hk))) ?_
  refine TA ?_
  refine aG (fun _ h_=>rk (lbS 6 (hS.blk (i:=1) rfl) rfl (h_.x hk))) ?_
  refine eA #[i6 0,i6 0,i6 0,i6 0,i6 0,.slice none 0 0] hS (fun g7 w hS _=>?_)
  refine TA ?_
  refine aG (fun _ h_=>rk (lbS 6 (hS.blk (i:=3) rfl) rfl (h_.x hk))) ?_
  refine TA ?_
  refine aG (fun _ h_=>rk (lbS 6 (hS.blk (i:=2) rfl) rfl (h_.x hk))) ?_
  refine eS 0 hk hS (fun w hS _=>?_)
  refine TA ?_
  refine aG (fun _ h_=>rk (lbS 6 (hS.blk (i:=2) rfl) rfl (h_.x hk))) ?_
  refine eS 1 hk hS (fun w hS _=>?_)
  refine rE [2,3,5,6] hk fun a hk=>?_
  replace hS:=hS.pk [1,0,0,0] 0
  exact ⟨_,_,hk.to,hS⟩
 rintro a w ⟨g4,g5,hk,hS⟩
 refine wp_seq ?_
 refine aB (fun a_ w_=>∃ g8,∃ g9,Fr a_ 127 [(2,pt g2 0),(3,pt g3 0),(5,pt g4 0),(6,pt g5 0),(7,pt g8 0),(8,pt g9 0)]∧S κ (ai g9 52 #[.bool y.init,.bool y.more,.bool y.master,i6 y.seq,.slice yp.2.1.A y.heads.length yp.2.1.c]::ai g8 52 #[.bool x.init,.bool x.more,.bool x.master,i6 x.seq,.slice xp.2.1.A x.heads.length xp.2.1.c]::ai g5 46 #[i6 y.every,i6 y.dead,i6 y.prio,i6 y.dr,i6 y.bdr,.slice yp.1.A y.seen.length yp.1.c]::ai g4 46 #[i6 x.every,i6 x.dead,i6 x.prio,i6 x.dr,i6 x.bdr,.slice xp.1.A x.seen.length xp.1.c]::ai g3 56 #[i6 y.kind,i6 y.frm,i6 y.every,i6 y.dead,i6 y.prio,i6 y.dr,i6 y.bdr,.slice yp.1.A y.seen.length yp.1.c,.bool y.init,.bool y.more,.bool y.master,i6 y.seq,.slice yp.2.1.A y.heads.length yp.2.1.c,.slice yp.2.2.1.A y.wants.length yp.2.2.1.c,.slice yp.2.2.2.1.A y.lsas.length yp.2.2.2.1.c,.slice yp.2.2.2.2.A y.acks.length yp.2.2.2.2.c]::ai g2 56 #[i6 x.kind,i6 x.frm,i6 x.every,i6 x.dead,i6 x.prio,i6 x.dr,i6 x.bdr,.slice xp.1.A x.seen.length xp.1.c,.bool x.init,.bool x.more,.bool x.master,i6 x.seq,.slice xp.2.1.A x.heads.length xp.2.1.c,.slice xp.2.2.1.A x.wants.length xp.2.2.1.c,.slice xp.2.2.2.1.A x.lsas.length xp.2.2.2.1.c,.slice xp.2.2.2.2.A x.acks.length xp.2.2.2.2.c]::L) (aa (.slice xp.1.A x.seen.length xp.1.c) 3 1 x.seen.length (aw x.seen)::aa (.slice xp.2.1.A x.heads.length xp.2.1.c) 63 7 x.heads.length (ab aH x.heads)::aa (.slice xp.2.2.1.A x.wants.length xp.2.2.1.c) 111 3 x.wants.length (ab KeyV.cells x.wants)::crA lsFn 66 xp.2.2.2.1.A xp.2.2.2.1.c x.lsas::aa (.slice xp.2.2.2.2.A x.acks.length xp.2.2.2.2.c) 63 7 x.acks.length (ab aH x.acks)::aa (.slice yp.1.A y.seen.length yp.1.c) 3 1 y.seen.length (aw y.seen)::aa (.slice yp.2.1.A y.heads.length yp.2.1.c) 63 7 y.heads.length (ab aH y.heads)::aa (.slice yp.2.2.1.A y.wants.length yp.2.2.1.c) 111 3 y.wants.length (ab KeyV.cells y.wants)::crA lsFn 66 yp.2.2.2.1.A yp.2.2.2.1.c y.lsas::aa (.slice yp.2.2.2.2.A y.acks.length yp.2.2.2.2.c) 63 7 y.acks.length (ab aH y.acks)::I) w_) ?_ ?_
 ·refine rgR [[],[0],[],[2],[],[],[0,1,4,5],[0,1,2,3,4,5,6]] [4,5,6,7] (.rd 0 (.rd 1 (.rd 2 (.rd 3 (.ef 4 (.ag 0 (.ag 1 (.ag 2 (.ag 3 (.ef 5 (.ag 0 (.ag 1 (.ag 2 (.ag 3 (.ef 6 (.ag 2 (.ag 3 (.ef 7 (.fin) .non))) .non))))) .non))))) (.ef 5 (.ag 0 (.ag 1 (.ag 2 (.ag 3 (.ef 4 (.ag 0 (.ag 1 (.ag 2 (.ag 3 (.ef 6 (.ag 2 (.ag 3 (.ef 7 (.fin) .non))) .non))))) .non))))) .non)))))) hk hS (fun w hS _=>?_)
  refine T ?_
  refine LDS 3 5 hk hS ?_
  refine T ?_
  refine LDS 2 5 hk hS ?_
  refine efk ?_ ?_
  ·refine eA #[.bool false,.bool false,.bool false,i6 0,.slice none 0 0] hS (fun g8 w hS _=>?_)
   refine TA ?_
   refine aG (fun _ h_=>rk (lbS 5 (hS.blk (i:=4) rfl) rfl (h_.x hk))) ?_
   refine TA ?_
   refine aG (fun _ h_=>rk (lbS 5 (hS.blk (i:=3) rfl) rfl (h_.x hk))) ?_
   refine eA #[.bool false,.bool false,.bool false,i6 0,.slice none 0 0] hS (fun g9 w hS _=>?_)
   refine TA ?_
   refine aG (fun _ h_=>rk (lbS 5 (hS.blk (i:=5) rfl) rfl (h_.x hk))) ?_
   refine TA ?_
   refine aG (fun _ h_=>rk (lbS 5 (hS.blk (i:=4) rfl) rfl (h_.x hk))) ?_
   refine eS 1 hk hS (fun w hS _=>?_)
   refine TA ?_
   refine aG (fun _ h_=>rk (lbS 5 (hS.blk (i:=4) rfl) rfl (h_.x hk))) ?_
   refine eS 0 hk hS (fun w hS _=>?_)
   refine rE [2,3,5,6,7,8] hk fun a hk=>?_
   exact ⟨_,_,hk.to,hS⟩
  refine eA #[.bool false,.bool false,.bool false,i6 0,.slice none 0 0] hS (fun g10 w hS _=>?_)
  refine TA ?_
  refine aG (fun _ h_=>rk (lbS 5 (hS.blk (i:=4) rfl) rfl (h_.x hk))) ?_
  refine TA ?_
  refine aG (fun _ h_=>rk (lbS 5 (hS.blk (i:=3) rfl) rfl (h_.x hk))) ?_
  refine eA #[.bool false,.bool false,.bool false,i6 0,.slice none 0 0] hS (fun g11 w hS _=>?_)
  refine TA ?_
  refine aG (fun _ h_=>rk (lbS 5 (hS.blk (i:=5) rfl) rfl (h_.x hk))) ?_
  refine TA ?_
  refine aG (fun _ h_=>rk (lbS 5 (hS.blk (i:=4) rfl) rfl (h_.x hk))) ?_
  refine eS 0 hk hS (fun w hS _=>?_)
  refine TA ?_
  refine aG (fun _ h_=>rk (lbS 5 (hS.blk (i:=4) rfl) rfl (h_.x hk))) ?_
  refine eS 1 hk hS (fun w hS _=>?_)
  refine rE [2,3,5,6,7,8] hk fun a hk=>?_
  replace hS:=hS.pk [1,0,0,0,0,0] 0
  exact ⟨_,_,hk.to,hS⟩
 rintro a w ⟨g8,g9,hk,hS⟩
 refine sg [52,87,94,101,108] hk ?_
 refine T ?_
 refine LD 5 hk hS ?_
 refine T ?_
 refine LD 4 hk hS ?_
 iterate 2 refine T ?_
 rcases dt ((x.kind:Int) = y.kind) with ⟨he,hg5⟩ | ⟨he,hg5⟩
 ·rw [he]
  replace ht:=(if_pos hg5).symm.trans ht
  refine T ?_
  refine LD 5 hk hS ?_
  refine T ?_
  refine LD 4 hk hS ?_
  iterate 3 refine T ?_
  rcases dt ((x.frm:Int) = y.frm) with ⟨he,hg12⟩ | ⟨he,hg12⟩
  ·rw [he]
   replace ht:=(if_pos hg12).symm.trans ht
   refine T ?_
   refine LD 3 hk hS ?_
   refine T ?_
   refine LD 2 hk hS ?_
   iterate 3 refine T ?_
   rcases dt ((x.every:Int) = y.every) with ⟨he,hg19⟩ | ⟨he,hg19⟩
   ·rw [he]
    replace ht:=(if_pos hg19).symm.trans ht
    refine T ?_
    refine LD 3 hk hS ?_
    refine T ?_
    refine LD 2 hk hS ?_
    iterate 3 refine T ?_
    rcases dt ((x.dead:Int) = y.dead) with ⟨he,hg26⟩ | ⟨he,hg26⟩
    ·rw [he]
     replace ht:=(if_pos hg26).symm.trans ht
     refine T ?_
     refine LD 3 hk hS ?_
     refine T ?_
     refine LD 2 hk hS ?_
     iterate 3 refine T ?_
     rcases dt ((x.prio:Int) = y.prio) with ⟨he,hg33⟩ | ⟨he,hg33⟩
     ·rw [he]
      replace ht:=(if_pos hg33).symm.trans ht
      refine T ?_
      refine LD 3 hk hS ?_
      refine T ?_
      refine LD 2 hk hS ?_
      iterate 3 refine T ?_
      rcases dt ((x.dr:Int) = y.dr) with ⟨he,hg40⟩ | ⟨he,hg40⟩
      ·rw [he]
       replace ht:=(if_pos hg40).symm.trans ht
       refine T ?_
       refine LD 3 hk hS ?_
       refine T ?_
       refine LD 2 hk hS ?_
       iterate 3 refine T ?_
       rcases dt ((x.bdr:Int) = y.bdr) with ⟨he,hg47⟩ | ⟨he,hg47⟩
       ·rw [he]
        replace ht:=(if_pos hg47).symm.trans ht
        refine T ?_
        refine LD 3 hk hS ?_
        refine T ?_
        refine LD 2 hk hS ?_
        replace hS:=hS.dupI 5
        replace hS:=hS.dupI 1
        refine eC hk (h:=jB x.seen xp.1.A xp.1.c y.seen yp.1.A yp.1.c _ hS) (k:=?_)
        rintro _ w ⟨rfl,hS⟩
        refine ⟨_,rfl,?_⟩
        replace hS:=hS.dropI.dropI
        replace hS:=hS.nz 6
        iterate 2 refine T ?_
        rcases bt (dG x.seen y.seen) with hg54 | hg54
        ·refine rwV 52 (.bool (dG x.seen y.seen)) (.bool true) (by rw [hg54]) ?_
         refine rwV 53 (.bool (dG x.seen y.seen)) (.bool true) (by rw [hg54]) ?_
         refine rwV 54 (.bool (dG x.seen y.seen)) (.bool true) (by rw [hg54]) ?_
         replace ht:=(bT hg54).symm.trans ht
         refine T ?_
         refine LD 1 hk hS ?_
         refine T ?_
         refine LD 0 hk hS ?_
         refine rD (.bool (decide (x.init = y.init))) (fun _ h_=>bL (h_.on 54 71) (aq rfl (h_.x hk) (h_.x hk) (fun _=>rfl) (mM _ _))) ?_
         iterate 2 refine T ?_
         rcases dt (x.init = y.init) with ⟨he,hg61⟩ | ⟨he,hg61⟩
         ·rw [he]
          replace ht:=(if_pos hg61).symm.trans ht
          refine T ?_
          refine LD 1 hk hS ?_
          refine T ?_
          refine LD 0 hk hS ?_
          refine rD (.bool (decide (x.more = y.more))) (fun _ h_=>bL (h_.on 61 78) (aq rfl (h_.x hk) (h_.x hk) (fun _=>rfl) (mM _ _))) ?_
          iterate 2 refine T ?_
          rcases dt (x.more = y.more) with ⟨he,hg68⟩ | ⟨he,hg68⟩
          ·rw [he]
           replace ht:=(if_pos hg68).symm.trans ht
           refine T ?_
           refine LD 1 hk hS ?_
           refine T ?_
           refine LD 0 hk hS ?_
           refine rD (.bool (decide (x.master = y.master))) (fun _ h_=>bL (h_.on 68 85) (aq rfl (h_.x hk) (h_.x hk) (fun _=>rfl) (mM _ _))) ?_
           iterate 2 refine T ?_
           rcases dt (x.master = y.master) with ⟨he,hg75⟩ | ⟨he,hg75⟩
           ·rw [he]
            replace ht:=(if_pos hg75).symm.trans ht
            refine T ?_
            refine LD 1 hk hS ?_
            refine T ?_
            refine LD 0 hk hS ?_
            iterate 3 refine T ?_
            rcases dt ((x.seq:Int) = y.seq) with ⟨he,hg82⟩ | ⟨he,hg82⟩
            ·rw [he]
             replace ht:=(if_pos hg82).symm.trans ht
             refine T ?_
             refine LD 1 hk hS ?_
             refine T ?_
             refine LD 0 hk hS ?_
             replace hS:=hS.dupI 6
             replace hS:=hS.dupI 2
             refine eC hk (h:=lO x.heads xp.2.1.A xp.2.1.c y.heads yp.2.1.A yp.2.1.c _ hS) (k:=?_)
             rintro _ w ⟨rfl,hS⟩
             refine ⟨_,rfl,?_⟩
             replace hS:=hS.dropI.dropI
             replace hS:=hS.nz 6
             iterate 2 refine T ?_
             rcases bt (cW x.heads y.heads) with hg89 | hg89
             ·refine rwV 87 (.bool (cW x.heads y.heads)) (.bool true) (by rw [hg89]) ?_
              refine rwV 88 (.bool (cW x.heads y.heads)) (.bool true) (by rw [hg89]) ?_
              refine rwV 89 (.bool (cW x.heads y.heads)) (.bool true) (by rw [hg89]) ?_
              replace ht:=(bT hg89).symm.trans ht
              refine T ?_
              refine LD 5 hk hS ?_
              refine T ?_
              refine LD 4 hk hS ?_
              replace hS:=hS.dupI 7
              replace hS:=hS.dupI 3
              refine eC hk (h:=sJ x.wants xp.2.2.1.A xp.2.2.1.c y.wants yp.2.2.1.A yp.2.2.1.c _ hS) (k:=?_)
              rintro _ w ⟨rfl,hS⟩
              refine ⟨_,rfl,?_⟩
              replace hS:=hS.dropI.dropI
              replace hS:=hS.nz 6
              iterate 2 refine T ?_
              rcases bt (eD x.wants y.wants) with hg96 | hg96
              ·refine rwV 94 (.bool (eD x.wants y.wants)) (.bool true) (by rw [hg96]) ?_
               refine rwV 95 (.bool (eD x.wants y.wants)) (.bool true) (by rw [hg96]) ?_
               refine rwV 96 (.bool (eD x.wants y.wants)) (.bool true) (by rw [hg96]) ?_
               replace ht:=(bT hg96).symm.trans ht
               refine T ?_
               refine LD 5 hk hS ?_
               refine T ?_
               refine LD 4 hk hS ?_
               replace hS:=hS.dupI 8
               replace hS:=hS.dupI 4
               refine eC hk (h:=sK x.lsas xp.2.2.2.1.A xp.2.2.2.1.c y.lsas yp.2.2.2.1.A yp.2.2.2.1.c _ hS) (k:=?_)
               rintro _ w ⟨rfl,hS⟩
               refine ⟨_,rfl,?_⟩
               replace hS:=hS.dropI.dropI
               replace hS:=hS.nz 6
               iterate 2 refine T ?_
               rcases bt (eE x.lsas y.lsas) with hg103 | hg103
               ·refine rwV 101 (.bool (eE x.lsas y.lsas)) (.bool true) (by rw [hg103]) ?_
                refine rwV 102 (.bool (eE x.lsas y.lsas)) (.bool true) (by rw [hg103]) ?_
                refine rwV 103 (.bool (eE x.lsas y.lsas)) (.bool true) (by rw [hg103]) ?_
                replace ht:=(bT hg103).symm.trans ht
                refine T ?_
                refine LD 5 hk hS ?_
                refine T ?_
                refine LD 4 hk hS ?_
                replace hS:=hS.dupI 9
                replace hS:=hS.dupI 5
                refine eC hk (h:=lO x.acks xp.2.2.2.2.A xp.2.2.2.2.c y.acks yp.2.2.2.2.A yp.2.2.2.2.c _ hS) (k:=?_)
                rintro _ w ⟨rfl,hS⟩
                refine ⟨_,rfl,?_⟩
                replace hS:=hS.dropI.dropI
                replace hS:=hS.nz 6
                iterate 2 refine T ?_
                refine rE [4] hk fun a hk=>?_
                refine wp_ret ?_
                replace hS:=hS.pk [] 6
                subst ht
                exact rt1 hk (hR_ _ _ ⟨rfl,hS⟩)
               refine rwV 101 (.bool (eE x.lsas y.lsas)) (.bool false) (by rw [hg103]) ?_
               refine rwV 102 (.bool (eE x.lsas y.lsas)) (.bool false) (by rw [hg103]) ?_
               refine rwV 103 (.bool (eE x.lsas y.lsas)) (.bool false) (by rw [hg103]) ?_
               replace ht:=(bF hg103).symm.trans ht
               refine oF 103 120 true [104,105,106,107] ?_
               refine oE 103 120 true ?_
               iterate 2 refine T ?_
               refine rE [4] hk fun a hk=>?_
               refine wp_ret ?_
               replace hS:=hS.pk [] 6
               subst ht
               exact rt1 hk (hR_ _ _ ⟨rfl,hS⟩)
              refine rwV 94 (.bool (eD x.wants y.wants)) (.bool false) (by rw [hg96]) ?_
              refine rwV 95 (.bool (eD x.wants y.wants)) (.bool false) (by rw [hg96]) ?_
              refine rwV 96 (.bool (eD x.wants y.wants)) (.bool false) (by rw [hg96]) ?_
              replace ht:=(bF hg96).symm.trans ht
              refine oF 96 113 true [97,98,99,100] ?_
              refine oE 96 113 true ?_
              iterate 2 refine T ?_
              refine oF 103 120 true [104,105,106,107] ?_
              refine oE 103 120 true ?_
              iterate 2 refine T ?_
              refine rE [4] hk fun a hk=>?_
              refine wp_ret ?_
              replace hS:=hS.pk [] 6
              subst ht
              exact rt1 hk (hR_ _ _ ⟨rfl,hS⟩)
             refine rwV 87 (.bool (cW x.heads y.heads)) (.bool false) (by rw [hg89]) ?_
             refine rwV 88 (.bool (cW x.heads y.heads)) (.bool false) (by rw [hg89]) ?_
             refine rwV 89 (.bool (cW x.heads y.heads)) (.bool false) (by rw [hg89]) ?_
             replace ht:=(bF hg89).symm.trans ht
             refine oF 89 106 true [90,91,92,93] ?_
             refine oE 89 106 true ?_
             iterate 2 refine T ?_
             refine oF 96 113 true [97,98,99,100] ?_
             refine oE 96 113 true ?_
             iterate 2 refine T ?_
             refine oF 103 120 true [104,105,106,107] ?_
             refine oE 103 120 true ?_
             iterate 2 refine T ?_
             refine rE [4] hk fun a hk=>?_
             refine wp_ret ?_
             replace hS:=hS.pk [] 6
             subst ht
             exact rt1 hk (hR_ _ _ ⟨rfl,hS⟩)
            rw [he]
            replace ht:=(if_neg hg82).symm.trans ht
            refine oF 82 99 true [83,84,85,86] ?_
            refine oE 82 99 true ?_
            iterate 2 refine T ?_
            refine oF 89 106 true [90,91,92,93] ?_
            refine oE 89 106 true ?_
            iterate 2 refine T ?_
            refine oF 96 113 true [97,98,99,100] ?_
            refine oE 96 113 true ?_
            iterate 2 refine T ?_
            refine oF 103 120 true [104,105,106,107] ?_
            refine oE 103 120 true ?_
            iterate 2 refine T ?_
            refine rE [4] hk fun a hk=>?_
            refine wp_ret ?_
            replace hS:=hS.pk [] 6
            subst ht
            exact rt1 hk (hR_ _ _ ⟨rfl,hS⟩)
           rw [he]
           replace ht:=(if_neg hg75).symm.trans ht
           refine oF 75 92 true [76,77,78,79,80] ?_
           iterate 2 refine T ?_
           refine oF 82 99 true [83,84,85,86] ?_
           refine oE 82 99 true ?_
           iterate 2 refine T ?_
           refine oF 89 106 true [90,91,92,93] ?_
           refine oE 89 106 true ?_
           iterate 2 refine T ?_
           refine oF 96 113 true [97,98,99,100] ?_
           refine oE 96 113 true ?_
           iterate 2 refine T ?_
           refine oF 103 120 true [104,105,106,107] ?_
           refine oE 103 120 true ?_
           iterate 2 refine T ?_
           refine rE [4] hk fun a hk=>?_
           refine wp_ret ?_
           replace hS:=hS.pk [] 6
           subst ht
           exact rt1 hk (hR_ _ _ ⟨rfl,hS⟩)
          rw [he]
          replace ht:=(if_neg hg68).symm.trans ht
          refine oF 68 85 true [69,70,71,72,73] ?_
          iterate 2 refine T ?_
          refine oF 75 92 true [76,77,78,79,80] ?_
          iterate 2 refine T ?_
          refine oF 82 99 true [83,84,85,86] ?_
          refine oE 82 99 true ?_
          iterate 2 refine T ?_
          refine oF 89 106 true [90,91,92,93] ?_
          refine oE 89 106 true ?_
          iterate 2 refine T ?_
          refine oF 96 113 true [97,98,99,100] ?_
          refine oE 96 113 true ?_
          iterate 2 refine T ?_
          refine oF 103 120 true [104,105,106,107] ?_
          refine oE 103 120 true ?_
          iterate 2 refine T ?_
          refine rE [4] hk fun a hk=>?_
          refine wp_ret ?_
          replace hS:=hS.pk [] 6
          subst ht
          exact rt1 hk (hR_ _ _ ⟨rfl,hS⟩)
         rw [he]
         replace ht:=(if_neg hg61).symm.trans ht
         refine oF 61 78 true [62,63,64,65,66] ?_
         iterate 2 refine T ?_
         refine oF 68 85 true [69,70,71,72,73] ?_
         iterate 2 refine T ?_
         refine oF 75 92 true [76,77,78,79,80] ?_
         iterate 2 refine T ?_
         refine oF 82 99 true [83,84,85,86] ?_
         refine oE 82 99 true ?_
         iterate 2 refine T ?_
         refine oF 89 106 true [90,91,92,93] ?_
         refine oE 89 106 true ?_
         iterate 2 refine T ?_
         refine oF 96 113 true [97,98,99,100] ?_
         refine oE 96 113 true ?_
         iterate 2 refine T ?_
         refine oF 103 120 true [104,105,106,107] ?_
         refine oE 103 120 true ?_
         iterate 2 refine T ?_
         refine rE [4] hk fun a hk=>?_
         refine wp_ret ?_
         replace hS:=hS.pk [] 6
         subst ht
         exact rt1 hk (hR_ _ _ ⟨rfl,hS⟩)
        refine rwV 52 (.bool (dG x.seen y.seen)) (.bool false) (by rw [hg54]) ?_
        refine rwV 53 (.bool (dG x.seen y.seen)) (.bool false) (by rw [hg54]) ?_
        refine rwV 54 (.bool (dG x.seen y.seen)) (.bool false) (by rw [hg54]) ?_
        replace ht:=(bF hg54).symm.trans ht
        refine oF 54 71 true [55,56,57,58,59] ?_
        iterate 2 refine T ?_
        refine oF 61 78 true [62,63,64,65,66] ?_
        iterate 2 refine T ?_
        refine oF 68 85 true [69,70,71,72,73] ?_
        iterate 2 refine T ?_
        refine oF 75 92 true [76,77,78,79,80] ?_
        iterate 2 refine T ?_
        refine oF 82 99 true [83,84,85,86] ?_
        refine oE 82 99 true ?_
        iterate 2 refine T ?_
        refine oF 89 106 true [90,91,92,93] ?_
        refine oE 89 106 true ?_
        iterate 2 refine T ?_
        refine oF 96 113 true [97,98,99,100] ?_
        refine oE 96 113 true ?_
        iterate 2 refine T ?_
        refine oF 103 120 true [104,105,106,107] ?_
        refine oE 103 120 true ?_
        iterate 2 refine T ?_
        refine rE [4] hk fun a hk=>?_
        refine wp_ret ?_
        replace hS:=hS.pk [] 6
        subst ht
        exact rt1 hk (hR_ _ _ ⟨rfl,hS⟩)
       rw [he]
       replace ht:=(if_neg hg47).symm.trans ht
       refine oF 47 64 true [48,49,50,51] ?_
       refine oE 47 64 true ?_
       iterate 2 refine T ?_
       refine oF 54 71 true [55,56,57,58,59] ?_
       iterate 2 refine T ?_
       refine oF 61 78 true [62,63,64,65,66] ?_
       iterate 2 refine T ?_
       refine oF 68 85 true [69,70,71,72,73] ?_
       iterate 2 refine T ?_
       refine oF 75 92 true [76,77,78,79,80] ?_
       iterate 2 refine T ?_
       refine oF 82 99 true [83,84,85,86] ?_
       refine oE 82 99 true ?_
       iterate 2 refine T ?_
       refine oF 89 106 true [90,91,92,93] ?_
       refine oE 89 106 true ?_
       iterate 2 refine T ?_
       refine oF 96 113 true [97,98,99,100] ?_
       refine oE 96 113 true ?_
       iterate 2 refine T ?_
       refine oF 103 120 true [104,105,106,107] ?_
       refine oE 103 120 true ?_
       iterate 2 refine T ?_
       refine rE [4] hk fun a hk=>?_
       refine wp_ret ?_
       replace hS:=hS.pk [] 6
       subst ht
       exact rt1 hk (hR_ _ _ ⟨rfl,hS⟩)
      rw [he]
      replace ht:=(if_neg hg40).symm.trans ht
      refine oF 40 57 true [41,42,43,44,45] ?_
      iterate 2 refine T ?_
      refine oF 47 64 true [48,49,50,51] ?_
      refine oE 47 64 true ?_
      iterate 2 refine T ?_
      refine oF 54 71 true [55,56,57,58,59] ?_
      iterate 2 refine T ?_
      refine oF 61 78 true [62,63,64,65,66] ?_
      iterate 2 refine T ?_
      refine oF 68 85 true [69,70,71,72,73] ?_
      iterate 2 refine T ?_
      refine oF 75 92 true [76,77,78,79,80] ?_
      iterate 2 refine T ?_
      refine oF 82 99 true [83,84,85,86] ?_
      refine oE 82 99 true ?_
      iterate 2 refine T ?_
      refine oF 89 106 true [90,91,92,93] ?_
      refine oE 89 106 true ?_
      iterate 2 refine T ?_
      refine oF 96 113 true [97,98,99,100] ?_
      refine oE 96 113 true ?_
      iterate 2 refine T ?_
      refine oF 103 120 true [104,105,106,107] ?_
      refine oE 103 120 true ?_
      iterate 2 refine T ?_
      refine rE [4] hk fun a hk=>?_
      refine wp_ret ?_
      replace hS:=hS.pk [] 6
      subst ht
      exact rt1 hk (hR_ _ _ ⟨rfl,hS⟩)
     rw [he]
     replace ht:=(if_neg hg33).symm.trans ht
     refine oF 33 50 true [34,35,36,37,38] ?_
     iterate 2 refine T ?_
     refine oF 40 57 true [41,42,43,44,45] ?_
     iterate 2 refine T ?_
     refine oF 47 64 true [48,49,50,51] ?_
     refine oE 47 64 true ?_
     iterate 2 refine T ?_
     refine oF 54 71 true [55,56,57,58,59] ?_
     iterate 2 refine T ?_
     refine oF 61 78 true [62,63,64,65,66] ?_
     iterate 2 refine T ?_
     refine oF 68 85 true [69,70,71,72,73] ?_
     iterate 2 refine T ?_
     refine oF 75 92 true [76,77,78,79,80] ?_
     iterate 2 refine T ?_
     refine oF 82 99 true [83,84,85,86] ?_
     refine oE 82 99 true ?_
     iterate 2 refine T ?_
     refine oF 89 106 true [90,91,92,93] ?_
     refine oE 89 106 true ?_
     iterate 2 refine T ?_
     refine oF 96 113 true [97,98,99,100] ?_
     refine oE 96 113 true ?_
     iterate 2 refine T ?_
     refine oF 103 120 true [104,105,106,107] ?_
     refine oE 103 120 true ?_
     iterate 2 refine T ?_
     refine rE [4] hk fun a hk=>?_
     refine wp_ret ?_
     replace hS:=hS.pk [] 6
     subst ht
     exact rt1 hk (hR_ _ _ ⟨rfl,hS⟩)
    rw [he]
    replace ht:=(if_neg hg26).symm.trans ht
    refine oF 26 43 true [27,28,29,30,31] ?_
    iterate 2 refine T ?_
    refine oF 33 50 true [34,35,36,37,38] ?_
    iterate 2 refine T ?_
    refine oF 40 57 true [41,42,43,44,45] ?_
    iterate 2 refine T ?_
    refine oF 47 64 true [48,49,50,51] ?_
    refine oE 47 64 true ?_
    iterate 2 refine T ?_
    refine oF 54 71 true [55,56,57,58,59] ?_
    iterate 2 refine T ?_
    refine oF 61 78 true [62,63,64,65,66] ?_
    iterate 2 refine T ?_
    refine oF 68 85 true [69,70,71,72,73] ?_
    iterate 2 refine T ?_
    refine oF 75 92 true [76,77,78,79,80] ?_
    iterate 2 refine T ?_
    refine oF 82 99 true [83,84,85,86] ?_
    refine oE 82 99 true ?_
    iterate 2 refine T ?_
    refine oF 89 106 true [90,91,92,93] ?_
    refine oE 89 106 true ?_
    iterate 2 refine T ?_
    refine oF 96 113 true [97,98,99,100] ?_
    refine oE 96 113 true ?_
    iterate 2 refine T ?_
    refine oF 103 120 true [104,105,106,107] ?_
    refine oE 103 120 true ?_
    iterate 2 refine T ?_
    refine rE [4] hk fun a hk=>?_
    refine wp_ret ?_
    replace hS:=hS.pk [] 6
    subst ht
    exact rt1 hk (hR_ _ _ ⟨rfl,hS⟩)
   rw [he]
   replace ht:=(if_neg hg19).symm.trans ht
   refine oF 19 36 true [20,21,22,23,24] ?_
   iterate 2 refine T ?_
   refine oF 26 43 true [27,28,29,30,31] ?_
   iterate 2 refine T ?_
   refine oF 33 50 true [34,35,36,37,38] ?_
   iterate 2 refine T ?_
   refine oF 40 57 true [41,42,43,44,45] ?_
   iterate 2 refine T ?_
   refine oF 47 64 true [48,49,50,51] ?_
   refine oE 47 64 true ?_
   iterate 2 refine T ?_
   refine oF 54 71 true [55,56,57,58,59] ?_
   iterate 2 refine T ?_
   refine oF 61 78 true [62,63,64,65,66] ?_
   iterate 2 refine T ?_
   refine oF 68 85 true [69,70,71,72,73] ?_
   iterate 2 refine T ?_
   refine oF 75 92 true [76,77,78,79,80] ?_
   iterate 2 refine T ?_
   refine oF 82 99 true [83,84,85,86] ?_
   refine oE 82 99 true ?_
   iterate 2 refine T ?_
   refine oF 89 106 true [90,91,92,93] ?_
   refine oE 89 106 true ?_
   iterate 2 refine T ?_
   refine oF 96 113 true [97,98,99,100] ?_
   refine oE 96 113 true ?_
   iterate 2 refine T ?_
   refine oF 103 120 true [104,105,106,107] ?_
   refine oE 103 120 true ?_
   iterate 2 refine T ?_
   refine rE [4] hk fun a hk=>?_
   refine wp_ret ?_
   replace hS:=hS.pk [] 6
   subst ht
   exact rt1 hk (hR_ _ _ ⟨rfl,hS⟩)
  rw [he]
  replace ht:=(if_neg hg12).symm.trans ht
  refine oF 12 29 true [13,14,15,16,17] ?_
  iterate 2 refine T ?_
  refine oF 19 36 true [20,21,22,23,24] ?_
  iterate 2 refine T ?_
  refine oF 26 43 true [27,28,29,30,31] ?_
  iterate 2 refine T ?_
  refine oF 33 50 true [34,35,36,37,38] ?_
  iterate 2 refine T ?_
  refine oF 40 57 true [41,42,43,44,45] ?_
  iterate 2 refine T ?_
  refine oF 47 64 true [48,49,50,51] ?_
  refine oE 47 64 true ?_
  iterate 2 refine T ?_
  refine oF 54 71 true [55,56,57,58,59] ?_
  iterate 2 refine T ?_
  refine oF 61 78 true [62,63,64,65,66] ?_
  iterate 2 refine T ?_
  refine oF 68 85 true [69,70,71,72,73] ?_
  iterate 2 refine T ?_
  refine oF 75 92 true [76,77,78,79,80] ?_
  iterate 2 refine T ?_
  refine oF 82 99 true [83,84,85,86] ?_
  refine oE 82 99 true ?_
  iterate 2 refine T ?_
  refine oF 89 106 true [90,91,92,93] ?_
  refine oE 89 106 true ?_
  iterate 2 refine T ?_
  refine oF 96 113 true [97,98,99,100] ?_
  refine oE 96 113 true ?_
  iterate 2 refine T ?_
  refine oF 103 120 true [104,105,106,107] ?_
  refine oE 103 120 true ?_
  iterate 2 refine T ?_
  refine rE [4] hk fun a hk=>?_
  refine wp_ret ?_
  replace hS:=hS.pk [] 6
  subst ht
  exact rt1 hk (hR_ _ _ ⟨rfl,hS⟩)
 rw [he]
 replace ht:=(if_neg hg5).symm.trans ht
 refine oF 5 22 true [6,7,8,9,10] ?_
 iterate 2 refine T ?_
 refine oF 12 29 true [13,14,15,16,17] ?_
 iterate 2 refine T ?_
 refine oF 19 36 true [20,21,22,23,24] ?_
 iterate 2 refine T ?_
 refine oF 26 43 true [27,28,29,30,31] ?_
 iterate 2 refine T ?_
 refine oF 33 50 true [34,35,36,37,38] ?_
 iterate 2 refine T ?_
 refine oF 40 57 true [41,42,43,44,45] ?_
 iterate 2 refine T ?_
 refine oF 47 64 true [48,49,50,51] ?_
 refine oE 47 64 true ?_
 iterate 2 refine T ?_
 refine oF 54 71 true [55,56,57,58,59] ?_
 iterate 2 refine T ?_
 refine oF 61 78 true [62,63,64,65,66] ?_
 iterate 2 refine T ?_
 refine oF 68 85 true [69,70,71,72,73] ?_
 iterate 2 refine T ?_
 refine oF 75 92 true [76,77,78,79,80] ?_
 iterate 2 refine T ?_
 refine oF 82 99 true [83,84,85,86] ?_
 refine oE 82 99 true ?_
 iterate 2 refine T ?_
 refine oF 89 106 true [90,91,92,93] ?_
 refine oE 89 106 true ?_
 iterate 2 refine T ?_
 refine oF 96 113 true [97,98,99,100] ?_
 refine oE 96 113 true ?_
 iterate 2 refine T ?_
 refine oF 103 120 true [104,105,106,107] ?_
 refine oE 103 120 true ?_
 iterate 2 refine T ?_
 refine rE [4] hk fun a hk=>?_
 refine wp_ret ?_
 replace hS:=hS.pk [] 6
 subst ht
 exact rt1 hk (hR_ _ _ ⟨rfl,hS⟩)
def kq (p:PkV):Option (Bool):=if (p.kind:Int) = 1 then aJ (kd (⟨p.every,p.dead,p.prio,p.dr,p.bdr,p.seen⟩:HlV)) fun q4=>cond q4 (cond (bJ p.frm 1 15) (some (i9 (⟨p.kind,p.frm,p.every,p.dead,p.prio,p.dr,p.bdr,p.seen,false,false,false,0,[],[],[],[]⟩:PkV) p)) (some false)) (some false) else none
theorem rs {κ:Kap} {L I:List Atom} (p:PkV) (pp:SlP × SlP × SlP × SlP × SlP) (W:World) {r_:Bool} (ht:(kq p) = some r_) (hS:S κ (L) (aa (.slice pp.1.A p.seen.length pp.1.c) 3 1 p.seen.length (aw p.seen)::aa (.slice pp.2.1.A p.heads.length pp.2.1.c) 63 7 p.heads.length (ab aH p.heads)::aa (.slice pp.2.2.1.A p.wants.length pp.2.2.1.c) 111 3 p.wants.length (ab KeyV.cells p.wants)::crA lsFn 66 pp.2.2.2.1.A pp.2.2.2.1.c p.lsas::aa (.slice pp.2.2.2.2.A p.acks.length pp.2.2.2.2.c) 63 7 p.acks.length (ab aH p.acks)::I) W):
    Calls Tryz.prog 156 #[.agg #[i6 p.kind,i6 p.frm,i6 p.every,i6 p.dead,i6 p.prio,i6 p.dr,i6 p.bdr,.slice pp.1.A p.seen.length pp.1.c,.bool p.init,.bool p.more,.bool p.master,i6 p.seq,.slice pp.2.1.A p.heads.length pp.2.1.c,.slice pp.2.2.1.A p.wants.length pp.2.2.1.c,.slice pp.2.2.2.1.A p.lsas.length pp.2.2.2.1.c,.slice pp.2.2.2.2.A p.acks.length pp.2.2.2.2.c]] W (fun r w'=>r = .returned (.bool r_)∧S κ (L) (aa (.slice pp.1.A p.seen.length pp.1.c) 3 1 p.seen.length (aw p.seen)::aa (.slice pp.2.1.A p.heads.length pp.2.1.c) 63 7 p.heads.length (ab aH p.heads)::aa (.slice pp.2.2.1.A p.wants.length pp.2.2.1.c) 111 3 p.wants.length (ab KeyV.cells p.wants)::crA lsFn 66 pp.2.2.2.1.A pp.2.2.2.1.c p.lsas::aa (.slice pp.2.2.2.2.A p.acks.length pp.2.2.2.2.c) 63 7 p.acks.length (ab aH p.acks)::I) w'):=by
 refine wK 96 Tryz.func156 (fun R_ hR_ a hk=>?_)
 refine sg [0] hk ?_
 refine eB hk hS (fun g2 w hS _=>?_)
 refine T ?_
 refine rE [1] hk fun a hk=>?_
 refine sg [5,6] hk ?_
 refine T ?_
 refine LD 0 hk hS ?_
 refine T ?_
 refine LD 0 hk hS ?_
 refine rD (.agg #[i6 p.kind,i6 p.frm,i6 0,i6 0,i6 0,i6 0,i6 0,.slice none 0 0,.bool false,.bool false,.bool false,i6 0,.slice none 0 0,.slice none 0 0,.slice none 0 0,.slice none 0 0]) (fun _ h_=>rk (af rfl (h_.prt hk) (by kernel_rfl))) ?_
 refine eA #[i6 0,i6 0,i6 0,i6 0,i6 0,i6 0,i6 0,.slice none 0 0,.bool false,.bool false,.bool false,i6 0,.slice none 0 0,.slice none 0 0,.slice none 0 0,.slice none 0 0] hS (fun g3 w hS _=>?_)
 refine eS 0 hk hS (fun w hS _=>?_)
 refine rE [1,3] hk fun a hk=>?_
 refine sg [] hk ?_
 refine T ?_
 refine rE [1,3,4] hk fun a hk=>?_
 refine wp_seq ?_
 refine sg [] hk ?_
 refine T ?_
 refine LD 1 hk hS ?_
 refine rE [1,3,4,12] hk fun a hk=>?_
 refine wp_block ?_
 refine sg [] hk ?_
 iterate 2 refine T ?_
 refine rE [1,3,4,12,13] hk fun a hk=>?_
 refine cD hk (fun hc13=>?_) (fun hc13=>?_)
 ·replace ht:=(if_pos hc13).symm.trans ht
  refine rgR [[],[0],[],[2],[2,3],[0,1],[0,1,2,3,4,5],[0,1,2,3,4,5,6]] [4,6] (.rd 0 (.rd 1 (.rd 2 (.rd 3 (.rd 5 (.ef 4 (.ag 0 (.ag 1 (.ag 5 (.ef 6 (.rd 7 (.fin)) .non)))) .non)))))) hk hS (fun w hS _=>?_)
  refine T ?_
  refine LDS 1 6 hk hS ?_
  refine T ?_
  refine LDS 1 6 hk hS ?_
  refine T ?_
  obtain ⟨q4,hq4,ht⟩:=ao ht
  refine eC hk (h:=sQ (⟨p.every,p.dead,p.prio,p.dr,p.bdr,p.seen⟩:HlV) pp.1 _ hq4 hS) (k:=?_)
  rintro _ w ⟨rfl,hS⟩
  refine ⟨_,rfl,?_⟩
  replace hS:=hS.nz 2
  refine TA ?_
  refine aG (fun _ h_=>rk (lbS 6 (hS.blk (i:=1) rfl) rfl (h_.x hk))) ?_
  refine TA ?_
  refine eS 0 hk hS (fun w hS _=>?_)
  refine T ?_
  refine rE [1,3,4] hk fun a hk=>?_
  refine sg [4,9] hk ?_
  iterate 2 refine T ?_
  rcases bt q4 with hg1 | hg1
  ·refine rwV 0 (.bool q4) (.bool true) (by rw [hg1]) ?_
   refine rwV 1 (.bool q4) (.bool true) (by rw [hg1]) ?_
   replace ht:=(bT hg1).symm.trans ht
   refine T ?_
   refine LD 1 hk hS ?_
   refine eC hk (h:=gH p.frm 1 15 _ hS) (k:=?_)
   rintro _ w ⟨rfl,hS⟩
   refine ⟨_,rfl,?_⟩
   replace hS:=hS.nz 2
   iterate 2 refine T ?_
   rcases bt (bJ p.frm 1 15) with hg6 | hg6
   ·refine rwV 4 (.bool (bJ p.frm 1 15)) (.bool true) (by rw [hg6]) ?_
    refine rwV 5 (.bool (bJ p.frm 1 15)) (.bool true) (by rw [hg6]) ?_
    refine rwV 6 (.bool (bJ p.frm 1 15)) (.bool true) (by rw [hg6]) ?_
    replace ht:=(bT hg6).symm.trans ht
    refine LDS 0 16 hk hS ?_
    refine LDS 1 16 hk hS ?_
    have hS:=hS.nilrow 63 7
    replace hS:=hS.nz 3
    have hS:=hS.nilrow 111 3
    replace hS:=hS.nz 4
    replace hS:=hS.crNil lsFn 66
    replace hS:=hS.nz 5
    replace hS:=hS.pk [2,1,0] 0
    obtain ⟨J6,hS,hJ6⟩:=S.lend (M:=[_,_,_]) hS
    replace hS:=hS.dupI 8
    replace hS:=hS.dupI 8
    replace hS:=hS.dupI 8
    replace hS:=hS.dupI 8
    replace hS:=hS.dupI 8
    replace hS:=hS.dupI 5
    replace hS:=hS.dupI 8
    replace hS:=hS.dupI 8
    replace hS:=hS.dupI 2
    replace hS:=hS.dupI 4
    refine eC hk (h:=tl (⟨p.kind,p.frm,p.every,p.dead,p.prio,p.dr,p.bdr,p.seen,false,false,false,0,[],[],[],[]⟩:PkV) (⟨⟨pp.1.A,pp.1.c⟩,⟨none,0⟩,⟨none,0⟩,⟨none,0⟩,⟨none,0⟩⟩:SlP × SlP × SlP × SlP × SlP) p pp _ hS) (k:=?_)
    rintro _ w ⟨rfl,hS⟩
    refine ⟨_,rfl,?_⟩
    replace hS:=hS.dropI.dropI.dropI.dropI.dropI.dropI.dropI.dropI.dropI.dropI
    replace hS:=hJ6 _ _ hS
    replace hS:=hS.nz 5
    iterate 2 refine T ?_
    refine rE [2] hk fun a hk=>?_
    refine wp_ret ?_
    replace hS:=hS.pk [] 5
    obtain rfl:=Option.some.inj ht
    exact rt1 hk (hR_ _ _ ⟨rfl,hS⟩)
   refine rwV 4 (.bool (bJ p.frm 1 15)) (.bool false) (by rw [hg6]) ?_
   refine rwV 5 (.bool (bJ p.frm 1 15)) (.bool false) (by rw [hg6]) ?_
   refine rwV 6 (.bool (bJ p.frm 1 15)) (.bool false) (by rw [hg6]) ?_
   replace ht:=(bF hg6).symm.trans ht
   refine oF 6 91 true [7,8] ?_
   refine oE 6 91 true ?_
   iterate 2 refine T ?_
   refine rE [2] hk fun a hk=>?_
   refine wp_ret ?_
   replace hS:=hS.pk [] 2
   obtain rfl:=Option.some.inj ht
   exact rt1 hk (hR_ _ _ ⟨rfl,hS⟩)
  refine rwV 0 (.bool q4) (.bool false) (by rw [hg1]) ?_
  refine rwV 1 (.bool q4) (.bool false) (by rw [hg1]) ?_
  replace ht:=(bF hg1).symm.trans ht
  refine oF 1 86 true [2,3] ?_
  refine oE 1 86 true ?_
  iterate 2 refine T ?_
  refine oF 6 91 true [7,8] ?_
  refine oE 6 91 true ?_
  iterate 2 refine T ?_
  refine rE [2] hk fun a hk=>?_
  refine wp_ret ?_
  replace hS:=hS.pk [] 2
  obtain rfl:=Option.some.inj ht
  exact rt1 hk (hR_ _ _ ⟨rfl,hS⟩)
 replace ht:=(if_neg hc13).symm.trans ht
 refine wp_seq ?_
 cases ht
end
section
def Bys (bs:List Int):Prop:=∀ z ∈ bs,0 ≤ z∧z < 256
def aM (s:Int):Int:=if s = 0 then 0 else (s - 1) % 65535 + 1
theorem sO (u:Int) (h:0 ≤ u) (hz:u / 65536 ≠ 0):aM (u % 65536 + u / 65536) = aM u:=by
  unfold aM
  rw [if_neg (by omega),if_neg (by omega)]
  omega
theorem vj (u:Int) (h:0 ≤ u) (hz:u / 65536 = 0):aM u = u:=by
  unfold aM
  split <;> omega
def aY:List Int → Int
  | a::b::l=>256 * a + b + aY l
  | [a]=>256 * a
  | []=>0
theorem oU:∀ (l:List Int) (z:Int),aY (l ++ [z]) = aY l + (if l.length % 2 = 1 then z else 256 * z)
  | [],z=>by simp [aY]
  | [a],z=>by simp [aY]
  | a::b::l,z=>by
    have ih:=oU l z
    simp only [List.cons_append,aY,ih,List.length_cons]
    by_cases h:l.length % 2 = 1
    · rw [if_pos h,if_pos (by omega)];omega
    · rw [if_neg h,if_neg (by omega)];omega
theorem gS:∀ l:List Int,Bys l → 0 ≤ aY l∧aY l ≤ 65280 * l.length
  | [],_=>by simp [aY]
  | [a],h=>by have:=h a (by simp);simp only [aY,List.length_singleton];omega
  | a::b::l,h=>by
    have:=gS l (fun z hz=>h z (by simp [hz]))
    have:=h a (by simp);have:=h b (by simp)
    simp only [aY,List.length_cons];omega
theorem ll (bs:List Int) (k:Nat) (h:Bys bs) (hn:bs.length ≤ 100000):0 ≤ aY (bs.take k)∧aY (bs.take k) ≤ 6528000000:=by
  have:=gS (bs.take k) (fun z hz=>h z (List.mem_of_mem_take hz))
  have:(bs.take k).length ≤ 100000:=by rw [List.length_take];omega
  omega
theorem ja (bs:List Int) (k:Nat) (z:Int) (hz:bs[k]? = some z):aY (bs.take (k + 1)) = aY (bs.take k) + (if k % 2 = 1 then z else 256 * z):=by
  have hl:k < bs.length:=(List.getElem?_eq_some_iff.1 hz).1
  rw [bp bs k z hz,oU,List.length_take,Nat.min_eq_left (by omega)]
theorem yx (s:Int) (h:0 ≤ s∧s < 4611686018427387904):bits .and .i64 s 65535 = s % 65536:=by
  obtain ⟨n,rfl⟩:∃ n:Nat,s = n:=⟨s.toNat,by omega⟩
  have h1:=(bits_nat .i64 62 (by decide) (fun n h₀ h₁=>by rw [IntKind.wrap_i64];omega) n 65535 (by omega) (by decide)).1
  rw [show (65535:Nat) = 2 ^ 16 - 1 by rfl,Nat.and_two_pow_sub_one_eq_mod] at h1
  simpa using h1
theorem zD (s:Int) (h:0 ≤ s∧s < 4611686018427387904) (w:World):(binOp .shr 3 (.int .i64 s) (.int .u64 16)).run Tryz.prog w = .ok (.int .i64 (s / 65536)) w:=by
  show (pure (Value.int .i64 (s.fdiv (2 ^ 16))):Sem Value).run Tryz.prog w = _
  rw [show s.fdiv (2 ^ 16) = s / 65536 from Int.fdiv_eq_ediv_of_nonneg _ (by decide)]
  rfl
theorem AT (s:Int) (h:0 ≤ s∧s < 256) (w:World):(binOp .shl 3 (.int .i64 s) (.int .u64 8)).run Tryz.prog w = .ok (.int .i64 (256 * s)) w:=by
  show (pure (Value.int .i64 (IntKind.i64.wrap (s * 2 ^ 8))):Sem Value).run Tryz.prog w = _
  rw [show IntKind.i64.wrap (s * 2 ^ 8) = 256 * s by rw [IntKind.wrap_i64];have:s * 2 ^ 8 = s * 256:=rfl;omega]
  rfl
theorem zr (s:Int) (h:0 ≤ s∧s ≤ 65535):bits .xor .i64 s 65535 = 65535 - s:=by
  have key:∀ a:_root_.Fin 65536,a.val ^^^ 65535 = 65535 - a.val:=by
    intro a
    have h1:(BitVec.ofNat 16 a.val ^^^ BitVec.allOnes 16).toNat = 65535 - a.val:=by
      rw [BitVec.xor_allOnes,BitVec.toNat_not,BitVec.toNat_ofNat,Nat.mod_eq_of_lt a.isLt]
    rw [BitVec.toNat_xor,BitVec.toNat_ofNat,Nat.mod_eq_of_lt a.isLt,BitVec.toNat_allOnes] at h1
    exact h1
  obtain ⟨n,rfl⟩:∃ n:Nat,s = n:=⟨s.toNat,by omega⟩
  have hn:=key ⟨n,by omega⟩
  simp only at hn
  have h1:(BitVec.ofInt 64 (n:Int)).toNat = n:=by
    rw [BitVec.ofInt_natCast,BitVec.toNat_ofNat];exact Nat.mod_eq_of_lt (by omega)
  have h2:(BitVec.ofInt 64 (65535:Int)).toNat = 65535:=by decide
  show IntKind.i64.wrap ((BitVec.ofInt 64 (n:Int) ^^^ BitVec.ofInt 64 (65535:Int)).toNat:Int) = _
  rw [BitVec.toNat_xor,h1,h2,hn,IntKind.wrap_i64]
  omega
theorem vS {w:World} {B:Nat} {A:Option Addr} {u:Value} (h:Reads w B 1 A 1 [u]):∃ b o,A = some ⟨b,o,none⟩∧w.cell? ⟨b,o,none⟩ = some u:=by
  obtain ⟨b,o,e,_,hc⟩:=h.2 (by omega)
  exact ⟨b,o,e,hc 0 u rfl⟩
set_option maxRecDepth 100000 in
set_option maxHeartbeats 8000000 in
theorem xq (A B:Option Addr) (n c d:Nat) (bs:List Int) (W:World) (hn:n ≤ 100000) (hev:n % 2 = 0) (ho:Reads W W.heap.size 1 B 1 [.slice A n c]) (hr:Reads W W.heap.size 1 A n (u8s bs)) (hby:Bys bs):
    Calls Tryz.prog 220 #[.slice B 1 d] W (fun r w'=>r = .returned (i6 (65535 - aM (aY bs)))∧Below W.heap.size W w'):=by
 have hbl:bs.length = n:=uL hr
 have hS:=S.start W
 refine wK 45 Tryz.func220 (fun R_ hR_ a hk=>?_)
 refine sg [] hk ?_
 refine T ?_
 refine rE [0,2] hk ?_
 clear hk
 intro a2 hk
 refine sg [] hk ?_
 iterate 2 refine T ?_
 refine rE [0,2,3,4] hk ?_
 clear hk
 intro a3 hk
 refine wp_seq ?_
 refine sg [] hk ?_
 iterate 3 refine T ?_
 refine rE [2,3,4,9,10,11] hk ?_
 clear hk
 intro a4 hk
 refine wp_block ?_
 refine wp_loop (fun a_ w_=>∃ j:Nat,∃ s:Int,(j ≤ 1)∧((j = 0∧s = 0) ∨ (j = 1∧s = aY bs))∧Fr a_ 45 [(2,i6 0),(3,i6 s),(4,.bool false),(9,.slice B 1 d),(10,i6 1),(11,i6 j)]∧S (kap W) ([]) ((cA W W.heap.size)::[]) w_) (fun a_ _=>1 - (intOf (sl a_ 11)).toNat) ?_ ?_
 ·exact ⟨0,0,by omega,.inl ⟨rfl,rfl⟩,hk.to,hS⟩
 clear hk hS
 rintro a5 w5 ⟨j,s,hc0_0,hc0_1,hk,hS5⟩
 have hmu0:=hk.g (s:=11)
 refine sg [] hk ?_
 refine T ?_
 refine rE [2,3,4,9,10,11,12] hk ?_
 clear hk
 intro a6 hk
 refine wp_seq ?_
 refine cD hk (fun hc12=>?_) (fun hc12=>?_)
 ·refine wp_skip ?_
  refine wp_seq ?_
  refine wp_block ?_
  refine wp_seq ?_
  have hj:j = 0∧s = 0:=by omega
  obtain ⟨bO,oO,hAO,hqO⟩:=vS (Reads.old ho (hS5.old (by simp)))
  refine rgL [] hk ?_
  refine rD (pt bO oO) (fun _ h_=>rk (az (size:=1) rfl (h_.x hk) hAO (h_.x hk) (by kernel_rfl) (by omega) (by omega))) ?_
  refine rD (.slice A n c) (fun _ h_=>rk (bB rfl (h_.x hk) (by kernel_rfl) hqO)) ?_
  refine T ?_
  refine rE [2,3,4,6,9,10,11,13,14] hk ?_
  clear hk
  intro a7 hk
  refine sg [] hk ?_
  iterate 3 refine T ?_
  refine rE [2,3,4,6,9,10,11,13,14,15,16,17] hk ?_
  clear hk
  intro a8 hk
  refine wp_block ?_
  refine wp_loop (fun a_ w_=>∃ k:Nat,(k ≤ n)∧Fr a_ 45 [(2,i6 0),(3,i6 (aY (bs.take k))),(4,.bool (decide (k % 2 = 1))),(6,.slice A n c),(9,.slice B 1 d),(10,i6 1),(11,i6 j),(13,pt bO oO),(14,.slice A n c),(15,.slice A n c),(16,i6 n),(17,i6 k)]∧S (kap W) ([]) ((cA W W.heap.size)::[]) w_) (fun a_ _=>n - (intOf (sl a_ 17)).toNat) ?_ ?_
  ·rw [show s = aY (bs.take 0) from hj.2] at hk
   exact ⟨0,Nat.zero_le _,hk.to,hS5⟩
  clear hk hS5
  rintro a9 w9 ⟨k,hc2_0,hk,hS9⟩
  have hmu2:=hk.g (s:=17)
  refine sg [] hk ?_
  refine T ?_
  refine rE [2,3,4,6,9,10,11,13,14,15,16,17,18] hk ?_
  clear hk
  intro a10 hk
  refine wp_seq ?_
  refine cD hk (fun hc18=>?_) (fun hc18=>?_)
  ·refine wp_skip ?_
   refine wp_seq ?_
   refine wp_block ?_
   refine sg [] hk ?_
   obtain ⟨b12,o12,z12,hA12,hb12,hz12,hq12⟩:=Reads.byte_at (k:=k) ((Reads.old hr (hS9.old (by simp)))) (by omega)
   have hzb:=hby _ (List.mem_of_getElem? hz12)
   refine rD (pt b12 (o12 + k)) (fun _ h_=>rk (az (size:=1) rfl (h_.x hk) hA12 (h_.x hk) (by kernel_rfl) (by omega) (by simp))) ?_
   refine rD (.int .u8 z12) (fun _ h_=>rk (bB rfl (h_.x hk) (by kernel_rfl) (show w9.cell? ⟨b12,o12 + k,none⟩ = some (.int .u8 z12) from hq12))) ?_
   refine T ?_
   refine rE [2,3,4,6,8,9,10,11,13,14,15,16,17,19,20] hk ?_
   clear hk
   intro a11 hk
   refine wp_seq ?_
   refine sg [] hk ?_
   refine T ?_
   refine rE [2,3,4,6,8,9,10,11,13,14,15,16,17,19,20,21] hk ?_
   clear hk
   intro a13 hk
   refine cD hk (fun hc21=>?_) (fun hc21=>?_)
   ·have hps:=ll bs k hby (by omega)
    refine rgL [] hk ?_
    iterate 2 refine T ?_
    refine rD (i6 z12) (fun _ h_=>rk (iK rfl (h_.x hk) (by kernel_rfl) (wrap_i64 (by omega)) (by kernel_rfl))) ?_
    refine rD (i6 (aY (bs.take k) + z12)) (fun _ h_=>rk (aD rfl (h_.x hk) (h_.x hk) (by omega) rfl)) ?_
    refine T ?_
    refine rE [2,3,4,6,8,9,10,11,13,14,15,16,17,19,20,22,23,24,25] hk ?_
    clear hk
    intro a14 hk
    refine rgL [] hk ?_
    iterate 3 refine T ?_
    refine rE [2,3,4,6,8,9,10,11,13,14,15,16,17,19,20,22,23,24,25,31,32] hk ?_
    clear hk
    intro a15 hk
    refine rgL [] hk ?_
    refine rD (i6 (k + 1)) (fun _ h_=>rk (aD rfl (h_.x hk) rfl (by omega) rfl)) ?_
    refine T ?_
    refine rE [2,3,4,6,8,9,10,11,13,14,15,16,17,19,20,22,23,24,25,31,32,33] hk ?_
    clear hk
    intro a16 hk
    rw [show (aY (bs.take k) + z12:Int) = aY (bs.take (k + 1)) from by rw [ja bs k _ hz12];split <;> first | omega | simp_all,show (!(decide (k % 2 = 1))) = decide ((k + 1) % 2 = 1) from by rw [Bool.eq_iff_iff];simp;omega] at hk
    refine ⟨⟨k + 1,by omega,hk.to,hS9⟩,?_⟩
    show n - (intOf (sl a16 17)).toNat < n - (intOf (sl a9 17)).toNat
    rw [show sl a16 17 = _ from hk.g,show sl a9 17 = _ from hmu2]
    simp only [intOf]
    omega
   have hps:=ll bs k hby (by omega)
   refine rgL [] hk ?_
   iterate 2 refine T ?_
   refine rD (i6 z12) (fun _ h_=>rk (iK rfl (h_.x hk) (by kernel_rfl) (wrap_i64 (by omega)) (by kernel_rfl))) ?_
   refine rD (i6 (256 * z12)) (fun _ h_=>rk (aq rfl (h_.x hk) rfl (fun _=>rfl) (AT _ (by omega)))) ?_
   refine rD (i6 (aY (bs.take k) + (256 * z12))) (fun _ h_=>rk (aD rfl (h_.x hk) (h_.x hk) (by omega) rfl)) ?_
   refine T ?_
   refine rE [2,3,4,6,8,9,10,11,13,14,15,16,17,19,20,26,27,28,29,30] hk ?_
   clear hk
   intro a17 hk
   refine rgL [] hk ?_
   iterate 3 refine T ?_
   refine rE [2,3,4,6,8,9,10,11,13,14,15,16,17,19,20,26,27,28,29,30,31,32] hk ?_
   clear hk
   intro a18 hk
   refine rgL [] hk ?_
   refine rD (i6 (k + 1)) (fun _ h_=>rk (aD rfl (h_.x hk) rfl (by omega) rfl)) ?_
   refine T ?_
   refine rE [2,3,4,6,8,9,10,11,13,14,15,16,17,19,20,26,27,28,29,30,31,32,33] hk ?_
   clear hk
   intro a19 hk
   rw [show (aY (bs.take k) + (256 * z12):Int) = aY (bs.take (k + 1)) from by rw [ja bs k _ hz12];split <;> first | omega | simp_all,show (!(decide (k % 2 = 1))) = decide ((k + 1) % 2 = 1) from by rw [Bool.eq_iff_iff];simp;omega] at hk
   refine ⟨⟨k + 1,by omega,hk.to,hS9⟩,?_⟩
   show n - (intOf (sl a19 17)).toNat < n - (intOf (sl a9 17)).toNat
   rw [show sl a19 17 = _ from hk.g,show sl a9 17 = _ from hmu2]
   simp only [intOf]
   omega
  refine wp_exit ?_
  refine rgL [] hk ?_
  refine rD (i6 (j + 1)) (fun _ h_=>rk (aD rfl (h_.x hk) rfl (by omega) rfl)) ?_
  refine T ?_
  refine rE [2,3,4,6,9,10,11,13,14,15,16,17,34] hk ?_
  clear hk
  intro a20 hk
  obtain rfl:k = n:=by omega
  rw [List.take_of_length_le (show bs.length ≤ k by omega),show decide (k % 2 = 1) = false from decide_eq_false (by omega)] at hk
  refine ⟨⟨j + 1,aY bs,by omega,.inr ⟨by omega,rfl⟩,hk.to,hS9⟩,?_⟩
  show 1 - (intOf (sl a20 11)).toNat < 1 - (intOf (sl a5 11)).toNat
  rw [show sl a20 11 = _ from hk.g,show sl a5 11 = _ from hmu0]
  simp only [intOf]
  omega
 refine wp_exit ?_
 refine wp_seq ?_
 refine wp_block ?_
 refine wp_loop (fun a_ w_=>∃ u:Int,(0 ≤ u∧u ≤ 6528000000)∧(aM u = aM (aY bs))∧Fr a_ 45 [(2,i6 0),(3,i6 u)]∧S (kap W) ([]) ((cA W W.heap.size)::[]) w_) (fun a_ _=>(intOf (sl a_ 3) + 1).toNat) ?_ ?_
 ·have hs1:s = aY bs:=by omega
  have hs0:(0 ≤ s∧s ≤ 6528000000)∧aM s = aM (aY bs):=by rw [hs1];have:=ll bs n hby (by omega);rw [List.take_of_length_le (by omega)] at this;exact ⟨this,rfl⟩
  exact ⟨s,hs0.1,hs0.2,hk.to,hS5⟩
 clear hk hS5
 rintro a21 w21 ⟨u,hc4_0,hc4_1,hk,hS21⟩
 have hmu4:=hk.g (s:=3)
 refine wp_seq ?_
 refine sg [] hk ?_
 refine T ?_
 refine rD (i6 (u / 65536)) (fun _ h_=>rk (aq rfl (h_.x hk) rfl (fun _=>rfl) (zD u (by omega)))) ?_
 refine T ?_
 refine rE [2,3,35,36,37] hk ?_
 clear hk
 intro a22 hk
 refine cD hk (fun hc37=>?_) (fun hc37=>?_)
 ·refine wp_skip ?_
  refine wp_block ?_
  refine rgL [] hk ?_
  refine T ?_
  refine rD (i6 (u % 65536)) (fun _ h_=>rk (cw rfl (h_.x hk) rfl (by show (pure _:Sem Value) = pure _;exact congrArg _ (congrArg _ (yx u (by omega)))))) ?_
  refine T ?_
  refine rD (i6 (u / 65536)) (fun _ h_=>rk (aq rfl (h_.x hk) rfl (fun _=>rfl) (zD u (by omega)))) ?_
  refine rD (i6 (u % 65536 + (u / 65536))) (fun _ h_=>rk (aD rfl (h_.x hk) (h_.x hk) (by omega) rfl)) ?_
  refine T ?_
  refine rE [2,3,35,36,38,39,40,41,42] hk ?_
  clear hk
  intro a23 hk
  refine ⟨⟨_,by omega,(sO u (by omega) (by simp_all)).trans hc4_1,hk.to,hS21⟩,?_⟩
  show (intOf (sl a23 3) + 1).toNat < (intOf (sl a21 3) + 1).toNat
  rw [show sl a23 3 = _ from hk.g,show sl a21 3 = _ from hmu4]
  simp only [intOf]
  omega
 refine wp_exit ?_
 refine sg [] hk ?_
 refine T ?_
 refine rD (i6 (bits .xor .i64 u 65535)) (fun _ h_=>rk (cw rfl (h_.x hk) rfl (by rfl))) ?_
 refine T ?_
 refine rE [2] hk ?_
 clear hk
 intro a24 hk
 refine wp_ret ?_
 refine rt1 hk (hR_ _ _ ?_)
 have hu0:u / 65536 = 0:=by simp_all
 refine ⟨?_,(hS21.old (by simp))⟩
 rw [zr u (by omega),← hc4_1,vj u (by omega) hu0]
end
theorem S.rowSome {κ:Kap} {L I:List Atom} {w:World} {i e s n c:Nat} {A:Option Addr} {xs:List Value} (hS:S κ L I w) (hi:L[i]? = some (aa (.slice A n c) e s n xs)) (hn:0 < n):∃ g,A = some ⟨g,0,none⟩:=by
  obtain ⟨hlen,hr2⟩:=hS.row hi
  rcases hr2 with ⟨_,h0⟩ | ⟨g',cap',cur,h',_⟩
  · omega
  · cases h';exact ⟨g',rfl⟩
theorem vn {α:Type} {cells:α → List Value} {s:Nat} (hc:∀ a,(cells a).length = s) {l:List α} {k:Nat} (hk:k < l.length) (v:α):f9 (ab cells l) (k * s) (cells v) = ab cells (l.set k v):=by
  have h1:l = l.take k ++ l[k]::l.drop (k + 1):=by rw [List.getElem_cons_drop,List.take_append_drop]
  have h2:l.set k v = l.take k ++ v::l.drop (k + 1):=by rw [List.set_eq_take_append_cons_drop,if_pos hk]
  have h3:(ab cells (l.take k)).length = k * s:=by
    rw [be cells s hc,List.length_take,Nat.min_eq_left (by omega)]
  rw [h2]
  conv=>lhs;rw [h1]
  unfold f9
  unfold ab at *
  rw [List.flatMap_append,List.flatMap_append,List.flatMap_cons,List.flatMap_cons,hc v]
  rw [List.take_left' h3]
  rw [← h3,← hc l[k],← List.length_append,← List.append_assoc (List.flatMap cells (l.take k)) (cells l[k]),List.drop_left]
  simp
section
instance {bs:List Int}:Decidable (Bys bs):=by unfold Bys;infer_instance
theorem Bys.set {bs:List Int} (h:Bys bs) (k:Nat) {v:Int} (hv:0 ≤ v∧v < 256):Bys (bs.set k v):=fun z hz=>by
  rcases List.mem_or_eq_of_mem_set hz with hz | rfl
  · exact h z hz
  · exact hv
def u8C (z:Int):List Value:=[.int .u8 z]
theorem r7 (l:List Int):u8s l = ab u8C l:=by
  induction l with
  | nil=>rfl
  | cons a l ih=>unfold u8s at *;simp only [List.map_cons,ih,ab,List.flatMap_cons];rfl
theorem eO {l:List Int} {k:Nat} {v:Int} (hk:k < l.length):f9 (u8s l) (k * 1) [.int .u8 v] = u8s (l.set k v):=by
  rw [r7,r7];exact vn (cells:=u8C) (s:=1) (fun _=>rfl) hk v
theorem mU (s:Int):0 ≤ aM s∧aM s ≤ 65535:=by unfold aM;split <;> omega
theorem AU (s:Int) (h:0 ≤ s∧s < 4611686018427387904) (w:World):(binOp .shr 3 (.int .i64 s) (.int .u64 8)).run Tryz.prog w = .ok (.int .i64 (s / 256)) w:=by
  show (pure (Value.int .i64 (s.fdiv (2 ^ 8))):Sem Value).run Tryz.prog w = _
  rw [show s.fdiv (2 ^ 8) = s / 256 from Int.fdiv_eq_ediv_of_nonneg _ (by decide)]
  rfl
def bQ (bs:List Int) (v:Int) (zs:List Int):List Int:=bs ++ aj (dq v) zs
theorem ry {κ:Kap} {L I:List Atom} (bs:List Int) (bA:Option Addr) (bc:Nat) (v:Int) (zs:List Int) (zA:Option Addr) (zc:Nat) (W:World) (h1:bs.length ≤ 100000) (h2:zs.length ≤ 10000) (hS:S κ L (aa (.slice bA bs.length bc) 5 1 bs.length (u8s bs)::aa (.slice zA zs.length zc) 3 1 zs.length (aw zs)::I) W):
    Calls Tryz.prog 184 #[.slice bA bs.length bc,i6 v,.slice zA zs.length zc] W (fun r w'=>∃ B0 d0,r = .returned (.slice B0 (bQ bs v zs).length d0)∧S κ (aa (.slice B0 (bQ bs v zs).length d0) 5 1 (bQ bs v zs).length (u8s (bQ bs v zs))::L) (aa (.slice bA bs.length bc) 5 1 bs.length (u8s bs)::aa (.slice zA zs.length zc) 3 1 zs.length (aw zs)::I) w'):=by
  have e:(bQ bs v zs).length = bs.length + zs.length * dq v:=by unfold bQ;rw [List.length_append,aK]
  rw [e]
  refine (ut v bA bs.length bc bs zA zs.length zc zs W h1 h2 (hS.rdI (i:=0) rfl) (hS.rdI (i:=1) rfl)).mono ?_
  rintro r w' ⟨A',c',h1,h2,h3⟩
  exact ⟨A',c',h1,hS.pushRow h3 h2⟩
def eG (b:List Int) (at_:Int):(List Int) × Bool:=if (at_:Int) < 0 then ([],false) else if (at_ % 2:Int) ≠ 0 then ([],false) else if (((b.length:Nat):Int) % 2:Int) ≠ 0 then ([],false) else if (((b.length:Nat):Int) - 2:Int) < at_ then ([],false) else ((((([] ++ b).set at_.toNat 0).set ((at_ + 1).toNat) 0).set at_.toNat ((((65535:Int) - aM (aY ((([] ++ b).set at_.toNat 0).set ((at_ + 1).toNat) 0))) / 256) % 256)).set ((at_ + 1).toNat) (((65535:Int) - aM (aY ((([] ++ b).set at_.toNat 0).set ((at_ + 1).toNat) 0))) % 256),true)
set_option maxRecDepth 100000 in
set_option maxHeartbeats 8000000 in
theorem sT {κ:Kap} {L I:List Atom} (b:List Int) (bA:Option Addr) (bc:Nat) (at_:Int) (W:World) (hby:Bys b) (hn:b.length ≤ 100000) (hS:S κ (L) (aa (.slice bA b.length bc) 5 1 b.length (u8s b)::I) W):
    Calls Tryz.prog 185 #[.slice bA b.length bc,i6 at_] W (fun r w'=>∃ B0 d0,r = .returned (.tuple #[.slice B0 (((eG b at_).1).length) d0,.bool ((eG b at_).2)])∧S κ ((aa (.slice B0 (((eG b at_).1).length) d0) 5 1 (((eG b at_).1).length) (u8s ((eG b at_).1)))::L) (aa (.slice bA b.length bc) 5 1 b.length (u8s b)::I) w'):=by
 generalize ht:(eG b at_) = t_
 refine wK 53 Tryz.func185 (fun R_ hR_ a hk=>?_)
 refine sg [] hk ?_
 iterate 2 refine T ?_
 refine rE [0,1] hk fun a hk=>?_
 refine wp_seq ?_
 refine sg [] hk ?_
 iterate 3 refine T ?_
 rcases dt ((at_:Int) < 0) with ⟨he,hg2⟩ | ⟨he,hg2⟩
 ·rw [he]
  replace ht:=(if_pos hg2).symm.trans ht
  refine oF 2 10 false [3,4,5] ?_
  iterate 2 refine T ?_
  refine oF 7 15 false [8,9,10,11] ?_
  iterate 2 refine T ?_
  refine oF 13 21 false [14,15,16,17,18] ?_
  refine T ?_
  refine rE [0,1,27] hk fun a hk=>?_
  refine cT hk ?_
  refine sg [] hk ?_
  iterate 2 refine T ?_
  refine rE [4,5] hk fun a hk=>?_
  refine wp_ret ?_
  have hS:=hS.nilrow 5 1
  replace hS:S κ (aa (.slice none 0 0) 5 1 0 (u8s [])::L) (aa (.slice bA b.length bc) 5 1 b.length (u8s b)::I) W:=hS
  subst ht
  exact rt2 hk (hR_ _ _ ⟨_,_,rfl,hS⟩)
 rw [he]
 replace ht:=(if_neg hg2).symm.trans ht
 refine T ?_
 refine rD (i6 (at_ % 2)) (fun _ h_=>bL (h_.on 2 10) (cw rfl (h_.x hk) rfl (by show (pure _:Sem Value) = pure _;exact congrArg _ (congrArg _ (Int.tmod_eq_emod_of_nonneg (by omega)))))) ?_
 iterate 3 refine T ?_
 rcases dt ((at_ % 2:Int) ≠ 0) with ⟨he,hg7⟩ | ⟨he,hg7⟩
 ·rw [he]
  replace ht:=(if_pos hg7).symm.trans ht
  refine oF 7 15 false [8,9,10,11] ?_
  iterate 2 refine T ?_
  refine oF 13 21 false [14,15,16,17,18] ?_
  refine T ?_
  refine rE [0,1,27] hk fun a hk=>?_
  refine cT hk ?_
  refine sg [] hk ?_
  iterate 2 refine T ?_
  refine rE [4,5] hk fun a hk=>?_
  refine wp_ret ?_
  have hS:=hS.nilrow 5 1
  replace hS:S κ (aa (.slice none 0 0) 5 1 0 (u8s [])::L) (aa (.slice bA b.length bc) 5 1 b.length (u8s b)::I) W:=hS
  subst ht
  exact rt2 hk (hR_ _ _ ⟨_,_,rfl,hS⟩)
 rw [he]
 replace ht:=(if_neg hg7).symm.trans ht
 iterate 2 refine T ?_
 refine rD (i6 (((b.length:Nat):Int) % 2)) (fun _ h_=>bL (h_.on 7 15) (cw rfl (h_.x hk) rfl (by show (pure _:Sem Value) = pure _;exact congrArg _ (congrArg _ (Int.tmod_eq_emod_of_nonneg (by omega)))))) ?_
 iterate 3 refine T ?_
 rcases dt ((((b.length:Nat):Int) % 2:Int) ≠ 0) with ⟨he,hg13⟩ | ⟨he,hg13⟩
 ·rw [he]
  replace ht:=(if_pos hg13).symm.trans ht
  refine oF 13 21 false [14,15,16,17,18] ?_
  refine T ?_
  refine rE [0,1,27] hk fun a hk=>?_
  refine cT hk ?_
  refine sg [] hk ?_
  iterate 2 refine T ?_
  refine rE [4,5] hk fun a hk=>?_
  refine wp_ret ?_
  have hS:=hS.nilrow 5 1
  replace hS:S κ (aa (.slice none 0 0) 5 1 0 (u8s [])::L) (aa (.slice bA b.length bc) 5 1 b.length (u8s b)::I) W:=hS
  subst ht
  exact rt2 hk (hR_ _ _ ⟨_,_,rfl,hS⟩)
 rw [he]
 replace ht:=(if_neg hg13).symm.trans ht
 iterate 3 refine T ?_
 refine dB hk ?_
 iterate 2 refine T ?_
 refine rE [0,1,27] hk fun a hk=>?_
 refine cD hk (fun hc27=>?_) (fun hc27=>?_)
 ·replace ht:=(if_pos hc27).symm.trans ht
  refine sg [] hk ?_
  iterate 2 refine T ?_
  refine rE [4,5] hk fun a hk=>?_
  refine wp_ret ?_
  have hS:=hS.nilrow 5 1
  replace hS:S κ (aa (.slice none 0 0) 5 1 0 (u8s [])::L) (aa (.slice bA b.length bc) 5 1 b.length (u8s b)::I) W:=hS
  subst ht
  exact rt2 hk (hR_ _ _ ⟨_,_,rfl,hS⟩)
 replace ht:=(if_neg hc27).symm.trans ht
 refine wp_skip ?_
 refine sg [1] hk ?_
 refine T ?_
 have hS:=hS.nilrow 5 1
 replace hS:S κ (aa (.slice none 0 0) 5 1 0 (u8s [])::L) (aa (.slice bA b.length bc) 5 1 b.length (u8s b)::I) W:=hS
 refine eF (fun a_ h_=>ia (xs:=[]) (bytes:=1) (ys:=b) iO hS 0 (ae rfl) rfl (h_.x hk) (h_.x hk) (hS.rdI (i:=0) rfl) (by (try simp only [List.length_append,List.length_cons,List.length_nil,List.length_take,List.length_drop]);omega) fun A2 c2 w hS=>⟨_,rfl,?_⟩)
 replace hS:=hS.nz 1
 refine T ?_
 refine rE [1,6] hk fun a hk=>?_
 refine sg [6,8] hk ?_
 iterate 4 refine T ?_
 refine dA hk ?_
 have hix3:=(show 0 ≤ at_∧(at_).toNat < ([] ++ b).length by simp only [List.length_set,List.length_append,List.length_nil];omega)
 obtain ⟨g3,hgA3⟩:=S.rowSome hS (i:=0) rfl (by first | omega | (simp only [List.length_set,List.length_append,List.length_nil] at *;omega))
 refine rD (pt g3 (at_.toNat * 1)) (fun _ h_=>rk (az (size:=1) rfl (h_.x hk) hgA3 (h_.x hk) (by kernel_rfl) (by first | omega | (simp only [List.length_set,List.length_append,List.length_nil] at *;omega)) (Nat.zero_add _))) ?_
 refine eF (fun a_ h_=>dl (k:=at_.toNat) 0 hS hgA3 rfl (ae rfl) rfl (h_.x hk) rfl (h_.x hk) rfl (by kernel_rfl) (by first | omega | (simp only [List.length_set,List.length_append,List.length_nil] at *;omega)) ⟨by rfl,by first | rfl | simp [Value.cells,Value.oneCell'] | (simp [Value.cells];exact ⟨rfl,rfl,rfl,rfl,rfl,rfl,rfl⟩)⟩ fun w hS=>⟨_,rfl,?_⟩)
 replace hS:=hS.nz 1
 replace hS:S κ ((aa (.slice A2 ((([] ++ b).set at_.toNat 0).length) c2) 5 1 ((([] ++ b).set at_.toNat 0).length) (u8s (([] ++ b).set at_.toNat 0)))::L) (aa (.slice bA b.length bc) 5 1 b.length (u8s b)::I) w:=by have e_:(([] ++ b).set at_.toNat 0).length = ([] ++ b).length:=List.length_set ..;rw [e_,← eO (by first | omega | (simp only [List.length_set,List.length_append,List.length_nil] at *;omega))];exact hS
 have hix4:=(show 0 ≤ at_ + 1∧(at_ + 1).toNat < (([] ++ b).set at_.toNat 0).length by simp only [List.length_set,List.length_append,List.length_nil];omega)
 obtain ⟨g4,hgA4⟩:=S.rowSome hS (i:=0) rfl (by first | omega | (simp only [List.length_set,List.length_append,List.length_nil] at *;omega))
 refine rD (pt g4 ((at_ + 1).toNat * 1)) (fun _ h_=>rk (az (size:=1) rfl (h_.x hk) hgA4 (h_.x hk) (by kernel_rfl) (by first | omega | (simp only [List.length_set,List.length_append,List.length_nil] at *;omega)) (Nat.zero_add _))) ?_
 refine eF (fun a_ h_=>dl (k:=(at_ + 1).toNat) 0 hS hgA4 rfl (ae rfl) rfl (h_.x hk) rfl (h_.x hk) rfl (by kernel_rfl) (by first | omega | (simp only [List.length_set,List.length_append,List.length_nil] at *;omega)) ⟨by rfl,by first | rfl | simp [Value.cells,Value.oneCell'] | (simp [Value.cells];exact ⟨rfl,rfl,rfl,rfl,rfl,rfl,rfl⟩)⟩ fun w hS=>⟨_,rfl,?_⟩)
 replace hS:=hS.nz 1
 replace hS:S κ ((aa (.slice A2 (((([] ++ b).set at_.toNat 0).set ((at_ + 1).toNat) 0).length) c2) 5 1 (((([] ++ b).set at_.toNat 0).set ((at_ + 1).toNat) 0).length) (u8s ((([] ++ b).set at_.toNat 0).set ((at_ + 1).toNat) 0)))::L) (aa (.slice bA b.length bc) 5 1 b.length (u8s b)::I) w:=by have e_:((([] ++ b).set at_.toNat 0).set ((at_ + 1).toNat) 0).length = (([] ++ b).set at_.toNat 0).length:=List.length_set ..;rw [e_,← eO (by first | omega | (simp only [List.length_set,List.length_append,List.length_nil] at *;omega))];exact hS
 refine rE [1,6] hk fun a hk=>?_
 replace hk:Fr a 53 [(1,i6 at_),(6,.slice A2 (((([] ++ b).set at_.toNat 0).set ((at_ + 1).toNat) 0).length) c2)]:=by simpa only [List.length_set] using hk
 refine sg [1,2] hk ?_
 refine T ?_
 refine eF (fun a_ h_=>aZ (e:=48) (cells:=#[.slice A2 (((([] ++ b).set at_.toNat 0).set ((at_ + 1).toNat) 0).length) c2]) hS (ae rfl) rfl (h_.prtL hk) fun g5 w hS _=>⟨_,rfl,?_⟩)
 refine eC hk (h:=xq _ _ _ _ _ ((([] ++ b).set at_.toNat 0).set ((at_ + 1).toNat) 0) _ (by simp only [List.length_set,List.length_append,List.length_nil];omega) (by simp only [List.length_set,List.length_append,List.length_nil];omega) ((ay (size:=1) (n:=1) (hS.blk (i:=0) rfl) rfl).more (hS.blk (i:=0) rfl).lt) (hS.rd (i:=1) rfl) (Bys.set (Bys.set (by simpa using hby) _ (by decide)) _ (by decide))) (k:=?_)
 rintro _ w ⟨rfl,hb_⟩
 replace hS:=hS.below hb_
 clear hb_
 refine ⟨_,rfl,?_⟩
 replace hS:=hS.nz 2
 refine T ?_
 refine rE [1,6,7] hk fun a hk=>?_
 refine sg [11,13] hk ?_
 iterate 4 refine T ?_
 refine dA hk ?_
 refine T ?_
 refine rD (i6 (((65535:Int) - aM (aY ((([] ++ b).set at_.toNat 0).set ((at_ + 1).toNat) 0))) / 256)) (fun _ h_=>rk (aq rfl (h_.x hk) rfl (fun _=>rfl) (AU _ (by have:=mU (aY ((([] ++ b).set at_.toNat 0).set ((at_ + 1).toNat) 0));omega)))) ?_
 refine rD (.int .u8 ((((65535:Int) - aM (aY ((([] ++ b).set at_.toNat 0).set ((at_ + 1).toNat) 0))) / 256) % 256)) (fun _ h_=>rk (dS rfl (h_.x hk) (by kernel_rfl) (gz _) (by kernel_rfl))) ?_
 refine T ?_
 refine rD (.int .u8 (((65535:Int) - aM (aY ((([] ++ b).set at_.toNat 0).set ((at_ + 1).toNat) 0))) % 256)) (fun _ h_=>rk (dS rfl (h_.x hk) (by kernel_rfl) (gz _) (by kernel_rfl))) ?_
 have hix6:=(show 0 ≤ at_∧(at_).toNat < ((([] ++ b).set at_.toNat 0).set ((at_ + 1).toNat) 0).length by simp only [List.length_set,List.length_append,List.length_nil];omega)
 obtain ⟨g6,hgA6⟩:=S.rowSome hS (i:=1) rfl (by first | omega | (simp only [List.length_set,List.length_append,List.length_nil] at *;omega))
 refine rD (pt g6 (at_.toNat * 1)) (fun _ h_=>rk (az (size:=1) rfl (h_.x hk) hgA6 (h_.x hk) (by kernel_rfl) (by first | omega | (simp only [List.length_set,List.length_append,List.length_nil] at *;omega)) (Nat.zero_add _))) ?_
 refine eF (fun a_ h_=>dl (k:=at_.toNat) 1 hS hgA6 rfl (ae rfl) rfl (h_.x hk) rfl (h_.x hk) rfl (by kernel_rfl) (by first | omega | (simp only [List.length_set,List.length_append,List.length_nil] at *;omega)) ⟨by rfl,by first | rfl | simp [Value.cells,Value.oneCell'] | (simp [Value.cells];exact ⟨rfl,rfl,rfl,rfl,rfl,rfl,rfl⟩)⟩ fun w hS=>⟨_,rfl,?_⟩)
 replace hS:=hS.nz 2
 replace hS:S κ ((ai g5 48 #[.slice A2 (((([] ++ b).set at_.toNat 0).set ((at_ + 1).toNat) 0).length) c2])::(aa (.slice A2 ((((([] ++ b).set at_.toNat 0).set ((at_ + 1).toNat) 0).set at_.toNat ((((65535:Int) - aM (aY ((([] ++ b).set at_.toNat 0).set ((at_ + 1).toNat) 0))) / 256) % 256)).length) c2) 5 1 ((((([] ++ b).set at_.toNat 0).set ((at_ + 1).toNat) 0).set at_.toNat ((((65535:Int) - aM (aY ((([] ++ b).set at_.toNat 0).set ((at_ + 1).toNat) 0))) / 256) % 256)).length) (u8s (((([] ++ b).set at_.toNat 0).set ((at_ + 1).toNat) 0).set at_.toNat ((((65535:Int) - aM (aY ((([] ++ b).set at_.toNat 0).set ((at_ + 1).toNat) 0))) / 256) % 256))))::L) (aa (.slice bA b.length bc) 5 1 b.length (u8s b)::I) w:=by have e_:(((([] ++ b).set at_.toNat 0).set ((at_ + 1).toNat) 0).set at_.toNat ((((65535:Int) - aM (aY ((([] ++ b).set at_.toNat 0).set ((at_ + 1).toNat) 0))) / 256) % 256)).length = ((([] ++ b).set at_.toNat 0).set ((at_ + 1).toNat) 0).length:=List.length_set ..;rw [e_,← eO (by first | omega | (simp only [List.length_set,List.length_append,List.length_nil] at *;omega))];exact hS
 have hix7:=(show 0 ≤ at_ + 1∧(at_ + 1).toNat < (((([] ++ b).set at_.toNat 0).set ((at_ + 1).toNat) 0).set at_.toNat ((((65535:Int) - aM (aY ((([] ++ b).set at_.toNat 0).set ((at_ + 1).toNat) 0))) / 256) % 256)).length by simp only [List.length_set,List.length_append,List.length_nil];omega)
 obtain ⟨g7,hgA7⟩:=S.rowSome hS (i:=1) rfl (by first | omega | (simp only [List.length_set,List.length_append,List.length_nil] at *;omega))
 refine rD (pt g7 ((at_ + 1).toNat * 1)) (fun _ h_=>rk (az (size:=1) rfl (h_.x hk) hgA7 (h_.x hk) (by kernel_rfl) (by first | omega | (simp only [List.length_set,List.length_append,List.length_nil] at *;omega)) (Nat.zero_add _))) ?_
 refine eF (fun a_ h_=>dl (k:=(at_ + 1).toNat) 1 hS hgA7 rfl (ae rfl) rfl (h_.x hk) rfl (h_.x hk) rfl (by kernel_rfl) (by first | omega | (simp only [List.length_set,List.length_append,List.length_nil] at *;omega)) ⟨by rfl,by first | rfl | simp [Value.cells,Value.oneCell'] | (simp [Value.cells];exact ⟨rfl,rfl,rfl,rfl,rfl,rfl,rfl⟩)⟩ fun w hS=>⟨_,rfl,?_⟩)
 replace hS:=hS.nz 2
 replace hS:S κ ((ai g5 48 #[.slice A2 (((([] ++ b).set at_.toNat 0).set ((at_ + 1).toNat) 0).length) c2])::(aa (.slice A2 (((((([] ++ b).set at_.toNat 0).set ((at_ + 1).toNat) 0).set at_.toNat ((((65535:Int) - aM (aY ((([] ++ b).set at_.toNat 0).set ((at_ + 1).toNat) 0))) / 256) % 256)).set ((at_ + 1).toNat) (((65535:Int) - aM (aY ((([] ++ b).set at_.toNat 0).set ((at_ + 1).toNat) 0))) % 256)).length) c2) 5 1 (((((([] ++ b).set at_.toNat 0).set ((at_ + 1).toNat) 0).set at_.toNat ((((65535:Int) - aM (aY ((([] ++ b).set at_.toNat 0).set ((at_ + 1).toNat) 0))) / 256) % 256)).set ((at_ + 1).toNat) (((65535:Int) - aM (aY ((([] ++ b).set at_.toNat 0).set ((at_ + 1).toNat) 0))) % 256)).length) (u8s ((((([] ++ b).set at_.toNat 0).set ((at_ + 1).toNat) 0).set at_.toNat ((((65535:Int) - aM (aY ((([] ++ b).set at_.toNat 0).set ((at_ + 1).toNat) 0))) / 256) % 256)).set ((at_ + 1).toNat) (((65535:Int) - aM (aY ((([] ++ b).set at_.toNat 0).set ((at_ + 1).toNat) 0))) % 256))))::L) (aa (.slice bA b.length bc) 5 1 b.length (u8s b)::I) w:=by have e_:((((([] ++ b).set at_.toNat 0).set ((at_ + 1).toNat) 0).set at_.toNat ((((65535:Int) - aM (aY ((([] ++ b).set at_.toNat 0).set ((at_ + 1).toNat) 0))) / 256) % 256)).set ((at_ + 1).toNat) (((65535:Int) - aM (aY ((([] ++ b).set at_.toNat 0).set ((at_ + 1).toNat) 0))) % 256)).length = (((([] ++ b).set at_.toNat 0).set ((at_ + 1).toNat) 0).set at_.toNat ((((65535:Int) - aM (aY ((([] ++ b).set at_.toNat 0).set ((at_ + 1).toNat) 0))) / 256) % 256)).length:=List.length_set ..;rw [e_,← eO (by first | omega | (simp only [List.length_set,List.length_append,List.length_nil] at *;omega))];exact hS
 refine rE [6] hk fun a hk=>?_
 replace hk:Fr a 53 [(6,.slice A2 (((((([] ++ b).set at_.toNat 0).set ((at_ + 1).toNat) 0).set at_.toNat ((((65535:Int) - aM (aY ((([] ++ b).set at_.toNat 0).set ((at_ + 1).toNat) 0))) / 256) % 256)).set ((at_ + 1).toNat) (((65535:Int) - aM (aY ((([] ++ b).set at_.toNat 0).set ((at_ + 1).toNat) 0))) % 256)).length) c2)]:=by simpa only [List.length_set] using hk
 refine sg [] hk ?_
 iterate 3 refine T ?_
 refine rE [4,5] hk fun a hk=>?_
 refine wp_ret ?_
 replace hS:=hS.pk [1] 1
 subst ht
 exact rt2 hk (hR_ _ _ ⟨_,_,rfl,hS⟩)
end
section
def my (p:PkV):Option ((List Int)):=if (p.kind:Int) = 1 then if (aj 2 [p.every] ++ aj 1 [0,p.prio] ++ aj 4 [p.dead,p.dr,p.bdr]).length ≤ 100000 then if p.seen.length ≤ 10000 then bw (bQ (aj 2 [p.every] ++ aj 1 [0,p.prio] ++ aj 4 [p.dead,p.dr,p.bdr]) 4 p.seen) fun q6=>some q6 else none else none else none
set_option maxRecDepth 100000 in
set_option maxHeartbeats 8000000 in
theorem tk {κ:Kap} {L I:List Atom} (p:PkV) (pp:SlP × SlP × SlP × SlP × SlP) (W:World) {r_:(List Int)} (ht:(my p) = some r_) (hS:S κ (L) (aa (.slice pp.1.A p.seen.length pp.1.c) 3 1 p.seen.length (aw p.seen)::aa (.slice pp.2.1.A p.heads.length pp.2.1.c) 63 7 p.heads.length (ab aH p.heads)::aa (.slice pp.2.2.1.A p.wants.length pp.2.2.1.c) 111 3 p.wants.length (ab KeyV.cells p.wants)::crA lsFn 66 pp.2.2.2.1.A pp.2.2.2.1.c p.lsas::aa (.slice pp.2.2.2.2.A p.acks.length pp.2.2.2.2.c) 63 7 p.acks.length (ab aH p.acks)::I) W):
    Calls Tryz.prog 183 #[.agg #[i6 p.kind,i6 p.frm,i6 p.every,i6 p.dead,i6 p.prio,i6 p.dr,i6 p.bdr,.slice pp.1.A p.seen.length pp.1.c,.bool p.init,.bool p.more,.bool p.master,i6 p.seq,.slice pp.2.1.A p.heads.length pp.2.1.c,.slice pp.2.2.1.A p.wants.length pp.2.2.1.c,.slice pp.2.2.2.1.A p.lsas.length pp.2.2.2.1.c,.slice pp.2.2.2.2.A p.acks.length pp.2.2.2.2.c]] W (fun r w'=>∃ B0 d0,r = .returned (.slice B0 r_.length d0)∧S κ (aa (.slice B0 r_.length d0) 5 1 r_.length (u8s r_)::L) (aa (.slice pp.1.A p.seen.length pp.1.c) 3 1 p.seen.length (aw p.seen)::aa (.slice pp.2.1.A p.heads.length pp.2.1.c) 63 7 p.heads.length (ab aH p.heads)::aa (.slice pp.2.2.1.A p.wants.length pp.2.2.1.c) 111 3 p.wants.length (ab KeyV.cells p.wants)::crA lsFn 66 pp.2.2.2.1.A pp.2.2.2.1.c p.lsas::aa (.slice pp.2.2.2.2.A p.acks.length pp.2.2.2.2.c) 63 7 p.acks.length (ab aH p.acks)::I) w'):=by
 refine wK 113 Tryz.func183 (fun R_ hR_ a hk=>?_)
 refine sg [0] hk ?_
 refine eB hk hS (fun g2 w hS _=>?_)
 refine T ?_
 refine rE [1] hk fun a hk=>?_
 refine sg [] hk ?_
 refine T ?_
 refine rE [1,3] hk fun a hk=>?_
 refine wp_seq ?_
 refine sg [] hk ?_
 refine T ?_
 refine LD 0 hk hS ?_
 refine rE [1,3,13] hk fun a hk=>?_
 refine wp_block ?_
 refine sg [] hk ?_
 iterate 2 refine T ?_
 refine rE [1,3,13,14] hk fun a hk=>?_
 refine cD hk (fun hc14=>?_) (fun hc14=>?_)
 ·replace ht:=(if_pos hc14).symm.trans ht
  refine sg [2,3] hk ?_
  refine T ?_
  refine LDS 0 6 hk hS ?_
  refine eA #[i6 0,i6 0,i6 0,i6 0,i6 0,.slice none 0 0] hS (fun g3 w hS _=>?_)
  refine eS 0 hk hS (fun w hS _=>?_)
  refine rE [4] hk fun a hk=>?_
  refine wp_seq ?_
  refine rR [fun v _=>v = pt g3 0,fun v _=>v = i6 p.every,fun v w'=>Nums [p.every] v w',fun v w'=>Byts w.heap.size (aj 2 [p.every]) v w',fun v _=>v = pt g3 2,fun v _=>v = i6 p.prio,fun v w'=>Nums [0,p.prio] v w',fun v w'=>Byts w.heap.size (aj 2 [p.every] ++ aj 1 [0,p.prio]) v w',fun v _=>v = pt g3 1,fun v _=>v = i6 p.dead,fun v _=>v = pt g3 3,fun v _=>v = i6 p.dr,fun v _=>v = pt g3 4,fun v _=>v = i6 p.bdr,fun v w'=>Nums [p.dead,p.dr,p.bdr] v w',fun v w'=>Byts w.heap.size (aj 2 [p.every] ++ aj 1 [0,p.prio] ++ aj 4 [p.dead,p.dr,p.bdr]) v w',fun v w'=>Byts w.heap.size (aj 2 [p.every] ++ aj 1 [0,p.prio] ++ aj 4 [p.dead,p.dr,p.bdr]) v w'] (by kernel_rfl) (by kernel_rfl) (by kernel_rfl) hk.size (by kernel_rfl) rfl ⟨fun _ _ _ _ h=>h,fun _ _ _ _ h=>h,fun _ _ _ hb h=>Nums.keep h hb,fun _ _ _ hb h=>Byts.keep h hb,fun _ _ _ _ h=>h,fun _ _ _ _ h=>h,fun _ _ _ hb h=>Nums.keep h hb,fun _ _ _ hb h=>Byts.keep h hb,fun _ _ _ _ h=>h,fun _ _ _ _ h=>h,fun _ _ _ _ h=>h,fun _ _ _ _ h=>h,fun _ _ _ _ h=>h,fun _ _ _ _ h=>h,fun _ _ _ hb h=>Nums.keep h hb,fun _ _ _ hb h=>Byts.keep h hb,fun _ _ _ hb h=>Byts.keep h hb,trivial⟩ ⟨?_,?_,?_,?_,?_,?_,?_,?_,?_,?_,?_,?_,?_,?_,?_,?_,?_,trivial⟩ ?_
  ·exact fun a w1 hb hat=>aT (ae rfl) (fa 0 rfl ((hat.base 4 (by kernel_rfl)).trans (hk.g (s:=4)))) ⟨_,rfl,Below.refl _ _,rfl⟩
  ·exact fun a w1 hb hat=>aT (ae rfl) (bB rfl (hat.dep 0 18 (by kernel_rfl) (by kernel_rfl)) (by kernel_rfl) (aA ((hS.blk (i:=0) rfl).cell 0) hb)) ⟨_,rfl,Below.refl _ _,rfl⟩
  ·exact fun a w1 hb hat=>aZ (e:=3) (cells:=#[i6 p.every]) (S.start w1) (ae rfl) rfl (congrArg Array.toList (bp1 (hat.dep 1 19 (by kernel_rfl) (by kernel_rfl)))) fun g w2 hS2 hb2=>⟨_,rfl,hb2,_,_,rfl,(ay (size:=1) (n:=1) (hS2.blk (i:=0) rfl) rfl).more (hS2.blk (i:=0) rfl).lt⟩
  ·exact fun a w1 hb hat=>dW (ae rfl) (ec rfl (sY rfl rfl rfl) rfl) (bP w.heap.size 2 2 ([]) [p.every] _ _ w1 rfl hb.size (Rd.nil _ _) (hat.dep 2 20 (by kernel_rfl) (by kernel_rfl)) (by (try simp only [List.length_append,aK,List.length_cons,List.length_nil]);omega) (by simp)) fun e w2 he=>(by obtain ⟨u,rfl,hu,hb2⟩:=he;exact ⟨u,rfl,u,rfl,hb2,hu⟩)
  ·exact fun a w1 hb hat=>aT (ae rfl) (fa 2 rfl ((hat.base 4 (by kernel_rfl)).trans (hk.g (s:=4)))) ⟨_,rfl,Below.refl _ _,rfl⟩
  ·exact fun a w1 hb hat=>aT (ae rfl) (bB rfl (hat.dep 4 22 (by kernel_rfl) (by kernel_rfl)) (by kernel_rfl) (aA ((hS.blk (i:=0) rfl).cell 2) hb)) ⟨_,rfl,Below.refl _ _,rfl⟩
  ·exact fun a w1 hb hat=>aZ (e:=3) (cells:=#[i6 0,i6 p.prio]) (S.start w1) (ae rfl) rfl (congrArg Array.toList (bp2 rfl (hat.dep 5 23 (by kernel_rfl) (by kernel_rfl)))) fun g w2 hS2 hb2=>⟨_,rfl,hb2,_,_,rfl,(ay (size:=1) (n:=2) (hS2.blk (i:=0) rfl) rfl).more (hS2.blk (i:=0) rfl).lt⟩
  ·exact fun a w1 hb hat=>dW (ae rfl) (ec rfl (sY rfl rfl rfl) rfl) (bP w.heap.size 1 1 (aj 2 [p.every]) [0,p.prio] _ _ w1 rfl hb.size (Byts.rd (hat.dep 3 21 (by kernel_rfl) (by kernel_rfl))) (hat.dep 6 24 (by kernel_rfl) (by kernel_rfl)) (by (try simp only [List.length_append,aK,List.length_cons,List.length_nil]);omega) (by simp)) fun e w2 he=>(by obtain ⟨u,rfl,hu,hb2⟩:=he;exact ⟨u,rfl,u,rfl,hb2,hu⟩)
  ·exact fun a w1 hb hat=>aT (ae rfl) (fa 1 rfl ((hat.base 4 (by kernel_rfl)).trans (hk.g (s:=4)))) ⟨_,rfl,Below.refl _ _,rfl⟩
  ·exact fun a w1 hb hat=>aT (ae rfl) (bB rfl (hat.dep 8 26 (by kernel_rfl) (by kernel_rfl)) (by kernel_rfl) (aA ((hS.blk (i:=0) rfl).cell 1) hb)) ⟨_,rfl,Below.refl _ _,rfl⟩
  ·exact fun a w1 hb hat=>aT (ae rfl) (fa 3 rfl ((hat.base 4 (by kernel_rfl)).trans (hk.g (s:=4)))) ⟨_,rfl,Below.refl _ _,rfl⟩
  ·exact fun a w1 hb hat=>aT (ae rfl) (bB rfl (hat.dep 10 28 (by kernel_rfl) (by kernel_rfl)) (by kernel_rfl) (aA ((hS.blk (i:=0) rfl).cell 3) hb)) ⟨_,rfl,Below.refl _ _,rfl⟩
  ·exact fun a w1 hb hat=>aT (ae rfl) (fa 4 rfl ((hat.base 4 (by kernel_rfl)).trans (hk.g (s:=4)))) ⟨_,rfl,Below.refl _ _,rfl⟩
  ·exact fun a w1 hb hat=>aT (ae rfl) (bB rfl (hat.dep 12 30 (by kernel_rfl) (by kernel_rfl)) (by kernel_rfl) (aA ((hS.blk (i:=0) rfl).cell 4) hb)) ⟨_,rfl,Below.refl _ _,rfl⟩
  ·exact fun a w1 hb hat=>aZ (e:=3) (cells:=#[i6 p.dead,i6 p.dr,i6 p.bdr]) (S.start w1) (ae rfl) rfl (congrArg Array.toList (bp3 (hat.dep 9 27 (by kernel_rfl) (by kernel_rfl)) (hat.dep 11 29 (by kernel_rfl) (by kernel_rfl)) (hat.dep 13 31 (by kernel_rfl) (by kernel_rfl)))) fun g w2 hS2 hb2=>⟨_,rfl,hb2,_,_,rfl,(ay (size:=1) (n:=3) (hS2.blk (i:=0) rfl) rfl).more (hS2.blk (i:=0) rfl).lt⟩
  ·exact fun a w1 hb hat=>dW (ae rfl) (ec rfl (sY rfl rfl rfl) rfl) (bP w.heap.size 4 4 (aj 2 [p.every] ++ aj 1 [0,p.prio]) [p.dead,p.dr,p.bdr] _ _ w1 rfl hb.size (Byts.rd (hat.dep 7 25 (by kernel_rfl) (by kernel_rfl))) (hat.dep 14 32 (by kernel_rfl) (by kernel_rfl)) (by (try simp only [List.length_append,aK,List.length_cons,List.length_nil]);omega) (by simp)) fun e w2 he=>(by obtain ⟨u,rfl,hu,hb2⟩:=he;exact ⟨u,rfl,u,rfl,hb2,hu⟩)
  ·exact fun a w1 hb hat=>aT (ae rfl) (bU rfl rfl) ⟨_,rfl,Below.refl _ _,(hat.dep 15 33 (by kernel_rfl) (by kernel_rfl))⟩
  rintro vs a1 w1 hb ⟨_,_,_,_,_,_,_,_,_,_,_,_,_,_,_,_,hv16,_⟩ hp
  replace hk:Fr a1 113 [(3,vs 16),(4,pt g3 0)]:=hk.put hp
  obtain ⟨A4,c4,e_,ho_⟩:=hv16
  rw [e_] at hk
  replace hS:=hS.pushRow hb ho_
  clear hb hp
  obtain ⟨a,rfl⟩:∃ a_,a_ = a1:=⟨_,rfl⟩
  obtain ⟨w,rfl⟩:∃ w_,w_ = w1:=⟨_,rfl⟩
  replace hS:=hS.nz 3
  refine sg [3] hk ?_
  iterate 2 refine T ?_
  refine LD 1 hk hS ?_
  obtain ⟨J5,hS,hJ5⟩:=S.lend (M:=[_]) hS
  replace hS:=hS.dupI 2
  replace hS:=hS.dupI 1
  obtain ⟨hgd7,ht⟩:=gdE ht
  obtain ⟨hgd8,ht⟩:=gdE ht
  refine eC hk (h:=ry (aj 2 [p.every] ++ aj 1 [0,p.prio] ++ aj 4 [p.dead,p.dr,p.bdr]) A4 c4 4 p.seen pp.1.A pp.1.c _ hgd7 hgd8 hS) (k:=?_)
  rintro _ w ⟨B06,d06,rfl,hS⟩
  refine ⟨_,rfl,?_⟩
  generalize hq6:bQ (aj 2 [p.every] ++ aj 1 [0,p.prio] ++ aj 4 [p.dead,p.dr,p.bdr]) 4 p.seen = q6 at hS ⊢
  replace ht:=(am hq6).symm.trans ht
  replace hS:=hS.dropI.dropI
  replace hS:=hJ5 _ _ hS
  replace hS:=hS.nz 4
  refine T ?_
  refine rE [2] hk fun a hk=>?_
  refine wp_ret ?_
  replace hS:=hS.pk [1] 3
  obtain rfl:=Option.some.inj ht
  exact rt1 hk (hR_ _ _ ⟨_,_,rfl,hS⟩)
 replace ht:=(if_neg hc14).symm.trans ht
 refine wp_seq ?_
 cases ht
def lj (q4:(List Int)) (q9:List Int):Option ((List Int)):=if ((((q9 ++ q4).length:Nat):Int) % 2:Int) ≠ 0 then if (q9 ++ q4).length + 1 ≤ 100000 then some (q9 ++ q4 ++ [0]) else none else some (q9 ++ q4)
def ny (p:PkV):Option ((List Int) × Int):=aJ (kq p) fun q3=>cond q3 (aJ (my p) fun q4=>if -4611686018427387904 ≤ 24 + ((q4.length:Nat):Int)∧24 + ((q4.length:Nat):Int) ≤ 4611686018427387904 then if (aj 1 [2,p.kind] ++ aj 2 [24 + ((q4.length:Nat):Int)] ++ aj 4 [p.frm,0] ++ aj 2 [0,0]).length ≤ 100000 then if [0,0].length ≤ 10000 then bw (bQ (aj 1 [2,p.kind] ++ aj 2 [24 + ((q4.length:Nat):Int)] ++ aj 4 [p.frm,0] ++ aj 2 [0,0]) 4 [0,0]) fun q9=>if q9.length + q4.length ≤ 100000 then aJ (lj q4 q9) fun r14=>if Bys r14 then if r14.length ≤ 100000 then bw (eG r14 12) fun q19=>some (q19.1,0) else none else none else none else none else none else none) (some ([],1))
set_option maxRecDepth 100000 in
set_option maxHeartbeats 8000000 in
theorem vI {κ:Kap} {L I:List Atom} (p:PkV) (pp:SlP × SlP × SlP × SlP × SlP) (W:World) {r_:(List Int) × Int} (ht:(ny p) = some r_) (hS:S κ (L) (aa (.slice pp.1.A p.seen.length pp.1.c) 3 1 p.seen.length (aw p.seen)::aa (.slice pp.2.1.A p.heads.length pp.2.1.c) 63 7 p.heads.length (ab aH p.heads)::aa (.slice pp.2.2.1.A p.wants.length pp.2.2.1.c) 111 3 p.wants.length (ab KeyV.cells p.wants)::crA lsFn 66 pp.2.2.2.1.A pp.2.2.2.1.c p.lsas::aa (.slice pp.2.2.2.2.A p.acks.length pp.2.2.2.2.c) 63 7 p.acks.length (ab aH p.acks)::I) W):
    Calls Tryz.prog 100 #[.agg #[i6 p.kind,i6 p.frm,i6 p.every,i6 p.dead,i6 p.prio,i6 p.dr,i6 p.bdr,.slice pp.1.A p.seen.length pp.1.c,.bool p.init,.bool p.more,.bool p.master,i6 p.seq,.slice pp.2.1.A p.heads.length pp.2.1.c,.slice pp.2.2.1.A p.wants.length pp.2.2.1.c,.slice pp.2.2.2.1.A p.lsas.length pp.2.2.2.1.c,.slice pp.2.2.2.2.A p.acks.length pp.2.2.2.2.c]] W (fun r w'=>∃ B0 d0,r = .returned (.tuple #[.slice B0 r_.1.length d0,i6 r_.2])∧S κ (aa (.slice B0 r_.1.length d0) 5 1 r_.1.length (u8s r_.1)::L) (aa (.slice pp.1.A p.seen.length pp.1.c) 3 1 p.seen.length (aw p.seen)::aa (.slice pp.2.1.A p.heads.length pp.2.1.c) 63 7 p.heads.length (ab aH p.heads)::aa (.slice pp.2.2.1.A p.wants.length pp.2.2.1.c) 111 3 p.wants.length (ab KeyV.cells p.wants)::crA lsFn 66 pp.2.2.2.1.A pp.2.2.2.1.c p.lsas::aa (.slice pp.2.2.2.2.A p.acks.length pp.2.2.2.2.c) 63 7 p.acks.length (ab aH p.acks)::I) w'):=by
 refine wK 44 Tryz.func100 (fun R_ hR_ a hk=>?_)
 refine sg [0] hk ?_
 refine eB hk hS (fun g2 w hS _=>?_)
 iterate 2 refine T ?_
 refine rE [1] hk fun a hk=>?_
 refine wp_seq ?_
 refine sg [1] hk ?_
 refine LDS 0 16 hk hS ?_
 obtain ⟨q3,hq3,ht⟩:=ao ht
 refine eC hk (h:=rs p pp _ hq3 hS) (k:=?_)
 rintro _ w ⟨rfl,hS⟩
 refine ⟨_,rfl,?_⟩
 replace hS:=hS.nz 1
 refine T ?_
 refine rE [1,8] hk fun a hk=>?_
 refine cB hk (fun hc8=>?_) (fun hc8=>?_)
 ·replace hc8:=nbt hc8
  replace ht:=(bF hc8).symm.trans ht
  refine sg [] hk ?_
  iterate 2 refine T ?_
  refine rE [2,3] hk fun a hk=>?_
  refine wp_ret ?_
  have hS:=hS.nilrow 5 1
  replace hS:=hS.nz 2
  replace hS:=hS.pk [0] 1
  obtain rfl:=Option.some.inj ht
  exact rt2 hk (hR_ _ _ ⟨_,_,rfl,hS⟩)
 replace hc8:=nbf hc8
 replace ht:=(bT hc8).symm.trans ht
 refine wp_skip ?_
 refine sg [1] hk ?_
 refine LDS 0 16 hk hS ?_
 obtain ⟨q4,hq4,ht⟩:=ao ht
 refine eC hk (h:=tk p pp _ hq4 hS) (k:=?_)
 rintro _ w ⟨B04,d04,rfl,hS⟩
 refine ⟨_,rfl,?_⟩
 replace hS:=hS.nz 2
 refine T ?_
 refine rE [1,4] hk fun a hk=>?_
 refine wp_seq ?_
 obtain ⟨hgd5,ht⟩:=gdE ht
 refine rR [fun v _=>v = pt g2 0,fun v _=>v = i6 p.kind,fun v w'=>Nums [2,p.kind] v w',fun v w'=>Byts w.heap.size (aj 1 [2,p.kind]) v w',fun v _=>v = .slice B04 q4.length d04,fun v _=>v = i6 ((q4.length:Nat):Int),fun v _=>v = i6 (24 + ((q4.length:Nat):Int)),fun v w'=>Nums [24 + ((q4.length:Nat):Int)] v w',fun v w'=>Byts w.heap.size (aj 1 [2,p.kind] ++ aj 2 [24 + ((q4.length:Nat):Int)]) v w',fun v _=>v = pt g2 1,fun v _=>v = i6 p.frm,fun v w'=>Nums [p.frm,0] v w',fun v w'=>Byts w.heap.size (aj 1 [2,p.kind] ++ aj 2 [24 + ((q4.length:Nat):Int)] ++ aj 4 [p.frm,0]) v w',fun v w'=>Nums [0,0] v w',fun v w'=>Byts w.heap.size (aj 1 [2,p.kind] ++ aj 2 [24 + ((q4.length:Nat):Int)] ++ aj 4 [p.frm,0] ++ aj 2 [0,0]) v w',fun v w'=>Byts w.heap.size (aj 1 [2,p.kind] ++ aj 2 [24 + ((q4.length:Nat):Int)] ++ aj 4 [p.frm,0] ++ aj 2 [0,0]) v w'] (by kernel_rfl) (by kernel_rfl) (by kernel_rfl) hk.size (by kernel_rfl) rfl ⟨fun _ _ _ _ h=>h,fun _ _ _ _ h=>h,fun _ _ _ hb h=>Nums.keep h hb,fun _ _ _ hb h=>Byts.keep h hb,fun _ _ _ _ h=>h,fun _ _ _ _ h=>h,fun _ _ _ _ h=>h,fun _ _ _ hb h=>Nums.keep h hb,fun _ _ _ hb h=>Byts.keep h hb,fun _ _ _ _ h=>h,fun _ _ _ _ h=>h,fun _ _ _ hb h=>Nums.keep h hb,fun _ _ _ hb h=>Byts.keep h hb,fun _ _ _ hb h=>Nums.keep h hb,fun _ _ _ hb h=>Byts.keep h hb,fun _ _ _ hb h=>Byts.keep h hb,trivial⟩ ⟨?_,?_,?_,?_,?_,?_,?_,?_,?_,?_,?_,?_,?_,?_,?_,?_,trivial⟩ ?_
 ·exact fun a w1 hb hat=>aT (ae rfl) (fa 0 rfl ((hat.base 1 (by kernel_rfl)).trans (hk.g (s:=1)))) ⟨_,rfl,Below.refl _ _,rfl⟩
 ·exact fun a w1 hb hat=>aT (ae rfl) (bB rfl (hat.dep 0 11 (by kernel_rfl) (by kernel_rfl)) (by kernel_rfl) (aA ((hS.blk (i:=1) rfl).cell 0) hb)) ⟨_,rfl,Below.refl _ _,rfl⟩
 ·exact fun a w1 hb hat=>aZ (e:=3) (cells:=#[i6 2,i6 p.kind]) (S.start w1) (ae rfl) rfl (congrArg Array.toList (bp2 rfl (hat.dep 1 12 (by kernel_rfl) (by kernel_rfl)))) fun g w2 hS2 hb2=>⟨_,rfl,hb2,_,_,rfl,(ay (size:=1) (n:=2) (hS2.blk (i:=0) rfl) rfl).more (hS2.blk (i:=0) rfl).lt⟩
 ·exact fun a w1 hb hat=>dW (ae rfl) (ec rfl (sY rfl rfl rfl) rfl) (bP w.heap.size 1 1 ([]) [2,p.kind] _ _ w1 rfl hb.size (Rd.nil _ _) (hat.dep 2 13 (by kernel_rfl) (by kernel_rfl)) (by (try simp only [List.length_append,aK,List.length_cons,List.length_nil]);omega) (by simp)) fun e w2 he=>(by obtain ⟨u,rfl,hu,hb2⟩:=he;exact ⟨u,rfl,u,rfl,hb2,hu⟩)
 ·exact fun a w1 hb hat=>aT (ae rfl) (aO rfl ((hat.base 4 (by kernel_rfl)).trans (hk.g (s:=4)))) ⟨_,rfl,Below.refl _ _,rfl⟩
 ·exact fun a w1 hb hat=>aT (ae rfl) (nO rfl (hat.dep 4 15 (by kernel_rfl) (by kernel_rfl)) (by kernel_rfl)) ⟨_,rfl,Below.refl _ _,rfl⟩
 ·exact fun a w1 hb hat=>aT (ae rfl) (aD rfl rfl (hat.dep 5 16 (by kernel_rfl) (by kernel_rfl)) (by omega) rfl) ⟨_,rfl,Below.refl _ _,rfl⟩
 ·exact fun a w1 hb hat=>aZ (e:=3) (cells:=#[i6 (24 + ((q4.length:Nat):Int))]) (S.start w1) (ae rfl) rfl (congrArg Array.toList (bp1 (hat.dep 6 17 (by kernel_rfl) (by kernel_rfl)))) fun g w2 hS2 hb2=>⟨_,rfl,hb2,_,_,rfl,(ay (size:=1) (n:=1) (hS2.blk (i:=0) rfl) rfl).more (hS2.blk (i:=0) rfl).lt⟩
 ·exact fun a w1 hb hat=>dW (ae rfl) (ec rfl (sY rfl rfl rfl) rfl) (bP w.heap.size 2 2 (aj 1 [2,p.kind]) [24 + ((q4.length:Nat):Int)] _ _ w1 rfl hb.size (Byts.rd (hat.dep 3 14 (by kernel_rfl) (by kernel_rfl))) (hat.dep 7 18 (by kernel_rfl) (by kernel_rfl)) (by (try simp only [List.length_append,aK,List.length_cons,List.length_nil]);omega) (by simp)) fun e w2 he=>(by obtain ⟨u,rfl,hu,hb2⟩:=he;exact ⟨u,rfl,u,rfl,hb2,hu⟩)
 ·exact fun a w1 hb hat=>aT (ae rfl) (fa 1 rfl ((hat.base 1 (by kernel_rfl)).trans (hk.g (s:=1)))) ⟨_,rfl,Below.refl _ _,rfl⟩
 ·exact fun a w1 hb hat=>aT (ae rfl) (bB rfl (hat.dep 9 20 (by kernel_rfl) (by kernel_rfl)) (by kernel_rfl) (aA ((hS.blk (i:=1) rfl).cell 1) hb)) ⟨_,rfl,Below.refl _ _,rfl⟩
 ·exact fun a w1 hb hat=>aZ (e:=3) (cells:=#[i6 p.frm,i6 0]) (S.start w1) (ae rfl) rfl (congrArg Array.toList (bp2 (hat.dep 10 21 (by kernel_rfl) (by kernel_rfl)) rfl)) fun g w2 hS2 hb2=>⟨_,rfl,hb2,_,_,rfl,(ay (size:=1) (n:=2) (hS2.blk (i:=0) rfl) rfl).more (hS2.blk (i:=0) rfl).lt⟩
 ·exact fun a w1 hb hat=>dW (ae rfl) (ec rfl (sY rfl rfl rfl) rfl) (bP w.heap.size 4 4 (aj 1 [2,p.kind] ++ aj 2 [24 + ((q4.length:Nat):Int)]) [p.frm,0] _ _ w1 rfl hb.size (Byts.rd (hat.dep 8 19 (by kernel_rfl) (by kernel_rfl))) (hat.dep 11 22 (by kernel_rfl) (by kernel_rfl)) (by (try simp only [List.length_append,aK,List.length_cons,List.length_nil]);omega) (by simp)) fun e w2 he=>(by obtain ⟨u,rfl,hu,hb2⟩:=he;exact ⟨u,rfl,u,rfl,hb2,hu⟩)
 ·exact fun a w1 hb hat=>aZ (e:=3) (cells:=#[i6 0,i6 0]) (S.start w1) (ae rfl) rfl (congrArg Array.toList (bp2 rfl rfl)) fun g w2 hS2 hb2=>⟨_,rfl,hb2,_,_,rfl,(ay (size:=1) (n:=2) (hS2.blk (i:=0) rfl) rfl).more (hS2.blk (i:=0) rfl).lt⟩
 ·exact fun a w1 hb hat=>dW (ae rfl) (ec rfl (sY rfl rfl rfl) rfl) (bP w.heap.size 2 2 (aj 1 [2,p.kind] ++ aj 2 [24 + ((q4.length:Nat):Int)] ++ aj 4 [p.frm,0]) [0,0] _ _ w1 rfl hb.size (Byts.rd (hat.dep 12 23 (by kernel_rfl) (by kernel_rfl))) (hat.dep 13 24 (by kernel_rfl) (by kernel_rfl)) (by (try simp only [List.length_append,aK,List.length_cons,List.length_nil]);omega) (by simp)) fun e w2 he=>(by obtain ⟨u,rfl,hu,hb2⟩:=he;exact ⟨u,rfl,u,rfl,hb2,hu⟩)
 ·exact fun a w1 hb hat=>aT (ae rfl) (bU rfl rfl) ⟨_,rfl,Below.refl _ _,(hat.dep 14 25 (by kernel_rfl) (by kernel_rfl))⟩
 rintro vs a1 w1 hb ⟨_,_,_,_,_,_,_,_,_,_,_,_,_,_,_,hv15,_⟩ hp
 replace hk:Fr a1 44 [(4,.slice B04 q4.length d04),(5,vs 15)]:=hk.put hp
 obtain ⟨A6,c6,e_,ho_⟩:=hv15
 rw [e_] at hk
 replace hS:=hS.pushRow hb ho_
 clear hb hp
 obtain ⟨a,rfl⟩:∃ a_,a_ = a1:=⟨_,rfl⟩
 obtain ⟨w,rfl⟩:∃ w_,w_ = w1:=⟨_,rfl⟩
 replace hS:=hS.nz 3
 refine sg [1,2,4] hk ?_
 refine T ?_
 refine eF (fun a_ h_=>aZ (e:=3) (cells:=#[i6 0,i6 0]) hS (ae rfl) rfl (h_.prtL hk) fun g7 w hS _=>⟨_,rfl,?_⟩)
 replace hS:S κ (aa (.slice (some ⟨g7,0,none⟩) 2 2) 3 1 2 (aw [0,0])::(aa (.slice A6 ((aj 1 [2,p.kind] ++ aj 2 [24 + ((q4.length:Nat):Int)] ++ aj 4 [p.frm,0] ++ aj 2 [0,0]).length) c6) 5 1 ((aj 1 [2,p.kind] ++ aj 2 [24 + ((q4.length:Nat):Int)] ++ aj 4 [p.frm,0] ++ aj 2 [0,0]).length) (u8s (aj 1 [2,p.kind] ++ aj 2 [24 + ((q4.length:Nat):Int)] ++ aj 4 [p.frm,0] ++ aj 2 [0,0])))::aa (.slice B04 q4.length d04) 5 1 q4.length (u8s q4)::ai g2 56 #[i6 p.kind,i6 p.frm,i6 p.every,i6 p.dead,i6 p.prio,i6 p.dr,i6 p.bdr,.slice pp.1.A p.seen.length pp.1.c,.bool p.init,.bool p.more,.bool p.master,i6 p.seq,.slice pp.2.1.A p.heads.length pp.2.1.c,.slice pp.2.2.1.A p.wants.length pp.2.2.1.c,.slice pp.2.2.2.1.A p.lsas.length pp.2.2.2.1.c,.slice pp.2.2.2.2.A p.acks.length pp.2.2.2.2.c]::L) (aa (.slice pp.1.A p.seen.length pp.1.c) 3 1 p.seen.length (aw p.seen)::aa (.slice pp.2.1.A p.heads.length pp.2.1.c) 63 7 p.heads.length (ab aH p.heads)::aa (.slice pp.2.2.1.A p.wants.length pp.2.2.1.c) 111 3 p.wants.length (ab KeyV.cells p.wants)::crA lsFn 66 pp.2.2.2.1.A pp.2.2.2.1.c p.lsas::aa (.slice pp.2.2.2.2.A p.acks.length pp.2.2.2.2.c) 63 7 p.acks.length (ab aH p.acks)::I) w:=hS.litRow rfl (by decide)
 replace hS:=hS.pk [1,0] 0
 obtain ⟨J8,hS,hJ8⟩:=S.lend (M:=[_,_]) hS
 obtain ⟨hgd10,ht⟩:=gdE ht
 obtain ⟨hgd11,ht⟩:=gdE ht
 refine eC hk (h:=ry (aj 1 [2,p.kind] ++ aj 2 [24 + ((q4.length:Nat):Int)] ++ aj 4 [p.frm,0] ++ aj 2 [0,0]) A6 c6 4 [0,0] (some ⟨g7,0,none⟩) 2 _ hgd10 hgd11 hS) (k:=?_)
 rintro _ w ⟨B09,d09,rfl,hS⟩
 refine ⟨_,rfl,?_⟩
 generalize hq9:bQ (aj 1 [2,p.kind] ++ aj 2 [24 + ((q4.length:Nat):Int)] ++ aj 4 [p.frm,0] ++ aj 2 [0,0]) 4 [0,0] = q9 at hS ⊢
 replace ht:=(am hq9).symm.trans ht
 replace hS:=hJ8 _ _ hS
 replace hS:=hS.nz 5
 refine T ?_
 obtain ⟨hgd13,ht⟩:=gdE ht
 refine eF (fun a_ h_=>ia (bytes:=1) (ys:=q4) iO hS 2 (ae rfl) rfl (h_.x hk) (h_.x hk) (hS.rd (i:=3) rfl) (by (try simp only [List.length_append,List.length_cons,List.length_nil,List.length_take,List.length_drop]);omega) fun A12 c12 w hS=>⟨_,rfl,?_⟩)
 replace hS:=hS.nz 5
 refine T ?_
 refine rE [5] hk fun a hk=>?_
 refine wp_seq ?_
 refine sg [] hk ?_
 iterate 2 refine T ?_
 refine rD (i6 ((((q9 ++ q4).length:Nat):Int) % 2)) (fun _ h_=>rk (cw rfl (h_.x hk) rfl (by show (pure _:Sem Value) = pure _;exact congrArg _ (congrArg _ (Int.tmod_eq_emod_of_nonneg (by omega)))))) ?_
 refine T ?_
 refine rE [5,34] hk fun a hk=>?_
 obtain ⟨r14,hr14,ht⟩:=ao ht
 refine aB (fun a_ w_=>∃ A14x0 c14x0,Fr a_ 44 [(5,.slice A14x0 ((r14).length) c14x0)]∧S κ ((aa (.slice A14x0 ((r14).length) c14x0) 5 1 ((r14).length) (u8s r14))::(aa (.slice A6 ((aj 1 [2,p.kind] ++ aj 2 [24 + ((q4.length:Nat):Int)] ++ aj 4 [p.frm,0] ++ aj 2 [0,0]).length) c6) 5 1 ((aj 1 [2,p.kind] ++ aj 2 [24 + ((q4.length:Nat):Int)] ++ aj 4 [p.frm,0] ++ aj 2 [0,0]).length) (u8s (aj 1 [2,p.kind] ++ aj 2 [24 + ((q4.length:Nat):Int)] ++ aj 4 [p.frm,0] ++ aj 2 [0,0])))::aa (.slice (some ⟨g7,0,none⟩) 2 2) 3 1 2 (aw [0,0])::aa (.slice B04 q4.length d04) 5 1 q4.length (u8s q4)::ai g2 56 #[i6 p.kind,i6 p.frm,i6 p.every,i6 p.dead,i6 p.prio,i6 p.dr,i6 p.bdr,.slice pp.1.A p.seen.length pp.1.c,.bool p.init,.bool p.more,.bool p.master,i6 p.seq,.slice pp.2.1.A p.heads.length pp.2.1.c,.slice pp.2.2.1.A p.wants.length pp.2.2.1.c,.slice pp.2.2.2.1.A p.lsas.length pp.2.2.2.1.c,.slice pp.2.2.2.2.A p.acks.length pp.2.2.2.2.c]::L) (aa (.slice pp.1.A p.seen.length pp.1.c) 3 1 p.seen.length (aw p.seen)::aa (.slice pp.2.1.A p.heads.length pp.2.1.c) 63 7 p.heads.length (ab aH p.heads)::aa (.slice pp.2.2.1.A p.wants.length pp.2.2.1.c) 111 3 p.wants.length (ab KeyV.cells p.wants)::crA lsFn 66 pp.2.2.2.1.A pp.2.2.2.1.c p.lsas::aa (.slice pp.2.2.2.2.A p.acks.length pp.2.2.2.2.c) 63 7 p.acks.length (ab aH p.acks)::I) w_) ?_ ?_
 ·have hI14:=hr14
  refine cD hk (fun hc34=>?_) (fun hc34=>?_)
  ·replace hI14:=(if_pos hc34).symm.trans hI14
   refine rgL [1,2] hk ?_
   refine T ?_
   refine eF (fun a_ h_=>aZ (e:=5) (cells:=#[.int .u8 0]) hS (ae rfl) rfl (h_.prtL hk) fun g15 w hS _=>⟨_,rfl,?_⟩)
   obtain ⟨hgd17,hI14⟩:=gdE hI14
   refine eF (fun a_ h_=>ia (bytes:=1) (ys:=[0]) iO hS 3 (ae rfl) rfl (h_.x hk) (h_.x hk) (ay (hS.blk (i:=0) rfl) rfl) (by (try simp only [List.length_append,List.length_cons,List.length_nil,List.length_take,List.length_drop]);omega) fun A16 c16 w hS=>⟨_,rfl,?_⟩)
   replace hS:=hS.nz 6
   refine T ?_
   refine rE [5] hk fun a hk=>?_
   replace hS:=hS.pk [3,1,1,1,1] 1
   obtain rfl:=Option.some.inj hI14
   exact ⟨_,_,hk.to,hS⟩
  replace hI14:=(if_neg hc34).symm.trans hI14
  refine wp_skip ?_
  replace hS:=hS.pk [2,0,0,0,0] 0
  obtain rfl:=Option.some.inj hI14
  exact ⟨_,_,hk.to,hS⟩
 rintro a w ⟨A14x0,c14x0,hk,hS⟩
 refine sg [1] hk ?_
 refine T ?_
 obtain ⟨J18,hS,hJ18⟩:=S.lend (M:=[_]) hS
 obtain ⟨hgd20,ht⟩:=gdE ht
 obtain ⟨hgd21,ht⟩:=gdE ht
 refine eC hk (h:=sT r14 A14x0 c14x0 12 _ hgd20 hgd21 hS) (k:=?_)
 rintro _ w ⟨B019,d019,rfl,hS⟩
 refine ⟨_,rfl,?_⟩
 generalize hq19:eG r14 12 = q19 at hS ⊢
 replace ht:=(am hq19).symm.trans ht
 replace hS:=hJ18 _ _ hS
 replace hS:=hS.nz 6
 iterate 4 refine T ?_
 refine rE [5] hk fun a hk=>?_
 refine sg [] hk ?_
 iterate 3 refine T ?_
 refine rE [2,3] hk fun a hk=>?_
 refine wp_ret ?_
 replace hS:=hS.pk [1] 5
 obtain rfl:=Option.some.inj ht
 exact rt2 hk (hR_ _ _ ⟨_,_,rfl,hS⟩)
end
section
set_option maxRecDepth 100000
set_option maxHeartbeats 8000000
structure MiV where
  whd:HD
  wlinks:List Lk
  wmem:List Int
  wanted:Bool
  hhd:HD
  hlinks:List Lk
  hmem:List Int
  is:Bool
  last:Int
  at_:Int
  ever:Bool
def fI (x:LV) (y:LV):Bool:=cond (bD x.links y.links) ((dG x.mem y.mem)) (false)
theorem n7 {κ:Kap} {L I:List Atom} (x:LV) (xp:LP) (y:LV) (yp:LP) (W:World) (hS:S κ (L) (aa (.slice xp.A x.links.length xp.c) 230 4 x.links.length (ab Lk.cells x.links)::aa (.slice xp.B x.mem.length xp.d) 3 1 x.mem.length (aw x.mem)::aa (.slice yp.A y.links.length yp.c) 230 4 y.links.length (ab Lk.cells y.links)::aa (.slice yp.B y.mem.length yp.d) 3 1 y.mem.length (aw y.mem)::I) W):
    Calls Tryz.prog 282 #[.agg #[i6 x.hd.age,i6 x.hd.kind,i6 x.hd.id,i6 x.hd.adv,i6 x.hd.seq,i6 x.hd.sum,i6 x.hd.long,.slice xp.A x.links.length xp.c,.slice xp.B x.mem.length xp.d],.agg #[i6 y.hd.age,i6 y.hd.kind,i6 y.hd.id,i6 y.hd.adv,i6 y.hd.seq,i6 y.hd.sum,i6 y.hd.long,.slice yp.A y.links.length yp.c,.slice yp.B y.mem.length yp.d]] W (fun r w'=>r = .returned (.bool (fI x y))∧S κ (L) (aa (.slice xp.A x.links.length xp.c) 230 4 x.links.length (ab Lk.cells x.links)::aa (.slice xp.B x.mem.length xp.d) 3 1 x.mem.length (aw x.mem)::aa (.slice yp.A y.links.length yp.c) 230 4 y.links.length (ab Lk.cells y.links)::aa (.slice yp.B y.mem.length yp.d) 3 1 y.mem.length (aw y.mem)::I) w'):=by
 generalize ht:(fI x y) = t_
 refine wK 17 Tryz.func282 (fun R_ hR_ a hk=>?_)
 refine sg [0,1] hk ?_
 refine eB hk hS (fun g2 w hS _=>?_)
 refine eB hk hS (fun g3 w hS _=>?_)
 refine T ?_
 refine rE [2,3] hk fun a hk=>?_
 refine sg [4,10] hk ?_
 refine T ?_
 refine LD 1 hk hS ?_
 refine T ?_
 refine LD 0 hk hS ?_
 replace hS:=hS.dupI 2
 replace hS:=hS.dupI 1
 refine eC hk (h:=lP x.links xp.A xp.c y.links yp.A yp.c _ hS) (k:=?_)
 rintro _ w ⟨rfl,hS⟩
 refine ⟨_,rfl,?_⟩
 replace hS:=hS.dropI.dropI
 replace hS:=hS.nz 2
 refine T ?_
 rcases bt (bD x.links y.links) with hg5 | hg5
 ·refine rwV 4 (.bool (bD x.links y.links)) (.bool true) (by rw [hg5]) ?_
  refine rwV 5 (.bool (bD x.links y.links)) (.bool true) (by rw [hg5]) ?_
  replace ht:=(bT hg5).symm.trans ht
  refine T ?_
  refine LD 1 hk hS ?_
  refine T ?_
  refine LD 0 hk hS ?_
  replace hS:=hS.dupI 3
  replace hS:=hS.dupI 2
  refine eC hk (h:=jB x.mem xp.B xp.d y.mem yp.B yp.d _ hS) (k:=?_)
  rintro _ w ⟨rfl,hS⟩
  refine ⟨_,rfl,?_⟩
  replace hS:=hS.dropI.dropI
  replace hS:=hS.nz 2
  iterate 2 refine T ?_
  refine rE [4] hk fun a hk=>?_
  refine wp_ret ?_
  replace hS:=hS.pk [] 2
  subst ht
  exact rt1 hk (hR_ _ _ ⟨rfl,hS⟩)
 refine rwV 4 (.bool (bD x.links y.links)) (.bool false) (by rw [hg5]) ?_
 refine rwV 5 (.bool (bD x.links y.links)) (.bool false) (by rw [hg5]) ?_
 replace ht:=(bF hg5).symm.trans ht
 refine oF 5 10 true [6,7,8,9] ?_
 refine oE 5 10 true ?_
 iterate 2 refine T ?_
 refine rE [4] hk fun a hk=>?_
 refine wp_ret ?_
 replace hS:=hS.pk [] 2
 subst ht
 exact rt1 hk (hR_ _ _ ⟨rfl,hS⟩)
def eQ (x:LV):Option (LV):=if x.links.length ≤ 100000 then if x.mem.length ≤ 100000 then some x else none else none
theorem iy {κ:Kap} {L I:List Atom} (x:LV) (xp:LP) (W:World) {r_:LV} (ht:(eQ x) = some r_) (hS:S κ (L) (aa (.slice xp.A x.links.length xp.c) 230 4 x.links.length (ab Lk.cells x.links)::aa (.slice xp.B x.mem.length xp.d) 3 1 x.mem.length (aw x.mem)::I) W):
    Calls Tryz.prog 334 #[.agg #[i6 x.hd.age,i6 x.hd.kind,i6 x.hd.id,i6 x.hd.adv,i6 x.hd.seq,i6 x.hd.sum,i6 x.hd.long,.slice xp.A x.links.length xp.c,.slice xp.B x.mem.length xp.d]] W (fun r w'=>∃ e0:LP,r = .returned (.agg #[i6 r_.hd.age,i6 r_.hd.kind,i6 r_.hd.id,i6 r_.hd.adv,i6 r_.hd.seq,i6 r_.hd.sum,i6 r_.hd.long,.slice e0.A r_.links.length e0.c,.slice e0.B r_.mem.length e0.d])∧S κ (aa (.slice e0.A r_.links.length e0.c) 230 4 r_.links.length (ab Lk.cells r_.links)::aa (.slice e0.B r_.mem.length e0.d) 3 1 r_.mem.length (aw r_.mem)::L) (aa (.slice xp.A x.links.length xp.c) 230 4 x.links.length (ab Lk.cells x.links)::aa (.slice xp.B x.mem.length xp.d) 3 1 x.mem.length (aw x.mem)::I) w'):=by
 refine wK 12 Tryz.func334 (fun R_ hR_ a hk=>?_)
 refine sg [0,1] hk ?_
 refine eB hk hS (fun g2 w hS _=>?_)
 refine eA #[i6 0,i6 0,i6 0,i6 0,i6 0,i6 0,i6 0,.slice none 0 0,.slice none 0 0] hS (fun g3 w hS _=>?_)
 refine rE [1,2] hk fun a hk=>?_
 refine wp_seq ?_
 refine rgR [[],[0],[],[2],[2,3],[],[5],[2,3,4,5,6],[0,1,2,3,4,5,6,7],[0,1,2,3,4,5,6,7,8]] [4,7,9] (.rd 0 (.rd 1 (.rd 2 (.rd 3 (.rd 5 (.rd 6 (.ef 4 (.ag 0 (.ag 1 (.ag 5 (.ag 6 (.ef 7 (.ag 0 (.ag 1 (.rd 8 (.ef 9 (.fin) .non)))) .non))))) .non))))))) hk hS (fun w hS _=>?_)
 refine T ?_
 refine LDS 1 7 hk hS ?_
 refine T ?_
 refine LD 1 hk hS ?_
 refine T ?_
 refine LD 1 hk hS ?_
 obtain ⟨hgd5,ht⟩:=gdE ht
 refine eC hk (h:=qx x.links xp.A xp.c _ hgd5 hS) (k:=?_)
 rintro _ w ⟨B04,d04,rfl,hS⟩
 refine ⟨_,rfl,?_⟩
 replace hS:=hS.nz 3
 refine TA ?_
 refine aG (fun _ h_=>rk (lbS 7 (hS.blk (i:=2) rfl) rfl (h_.x hk))) ?_
 refine TA ?_
 refine aG (fun _ h_=>rk (ld hS 2 rfl (h_.x hk))) ?_
 replace hS:=hS.dupI 1
 obtain ⟨hgd7,ht⟩:=gdE ht
 refine eC hk (h:=oo x.mem xp.B xp.d _ hgd7 hS) (k:=?_)
 rintro _ w ⟨B06,d06,rfl,hS⟩
 refine ⟨_,rfl,?_⟩
 replace hS:=hS.dropI
 replace hS:=hS.nz 4
 refine TA ?_
 refine aG (fun _ h_=>rk (lbS 7 (hS.blk (i:=3) rfl) rfl (h_.x hk))) ?_
 refine rD (.agg #[i6 x.hd.age,i6 x.hd.kind,i6 x.hd.id,i6 x.hd.adv,i6 x.hd.seq,i6 x.hd.sum,i6 x.hd.long,.slice B04 x.links.length d04,.slice B06 x.mem.length d06]) (fun _ h_=>rk (af rfl (h_.prt hk) (by kernel_rfl))) ?_
 refine eS 2 hk hS (fun w hS _=>?_)
 refine rE [2] hk fun a hk=>?_
 refine wp_ret ?_
 have hCb:=hS.blk (i:=2) rfl
 replace hS:=hS.pk [1,0] 2
 obtain rfl:=Option.some.inj ht
 exact rtC hk hCb (hR_ _ _ ⟨(⟨B04,d04,B06,d06⟩:LP),rfl,hS⟩) Tryz.underlying66
def gO (m:MiV):Option (LV × Int):=aJ (eQ (⟨m.hhd,m.hlinks,m.hmem⟩:LV)) fun q4=>some ((⟨(⟨60,q4.hd.kind,q4.hd.id,q4.hd.adv,q4.hd.seq,q4.hd.sum,q4.hd.long⟩:HD),q4.links,q4.mem⟩:LV),2)
theorem hV {κ:Kap} {L I:List Atom} (m:MiV) (mp:SlP × SlP × SlP × SlP) (W:World) {r_:LV × Int} (ht:(gO m) = some r_) (hS:S κ (L) (aa (.slice mp.1.A m.wlinks.length mp.1.c) 230 4 m.wlinks.length (ab Lk.cells m.wlinks)::aa (.slice mp.2.1.A m.wmem.length mp.2.1.c) 3 1 m.wmem.length (aw m.wmem)::aa (.slice mp.2.2.1.A m.hlinks.length mp.2.2.1.c) 230 4 m.hlinks.length (ab Lk.cells m.hlinks)::aa (.slice mp.2.2.2.A m.hmem.length mp.2.2.2.c) 3 1 m.hmem.length (aw m.hmem)::I) W):
    Calls Tryz.prog 281 #[.agg #[i6 m.whd.age,i6 m.whd.kind,i6 m.whd.id,i6 m.whd.adv,i6 m.whd.seq,i6 m.whd.sum,i6 m.whd.long,.slice mp.1.A m.wlinks.length mp.1.c,.slice mp.2.1.A m.wmem.length mp.2.1.c,.bool m.wanted,i6 m.hhd.age,i6 m.hhd.kind,i6 m.hhd.id,i6 m.hhd.adv,i6 m.hhd.seq,i6 m.hhd.sum,i6 m.hhd.long,.slice mp.2.2.1.A m.hlinks.length mp.2.2.1.c,.slice mp.2.2.2.A m.hmem.length mp.2.2.2.c,.bool m.is,i6 m.last,i6 m.at_,.bool m.ever]] W (fun r w'=>∃ e0:LP,r = .returned (.tuple #[.agg #[i6 r_.1.hd.age,i6 r_.1.hd.kind,i6 r_.1.hd.id,i6 r_.1.hd.adv,i6 r_.1.hd.seq,i6 r_.1.hd.sum,i6 r_.1.hd.long,.slice e0.A r_.1.links.length e0.c,.slice e0.B r_.1.mem.length e0.d],i6 r_.2])∧S κ (aa (.slice e0.A r_.1.links.length e0.c) 230 4 r_.1.links.length (ab Lk.cells r_.1.links)::aa (.slice e0.B r_.1.mem.length e0.d) 3 1 r_.1.mem.length (aw r_.1.mem)::L) (aa (.slice mp.1.A m.wlinks.length mp.1.c) 230 4 m.wlinks.length (ab Lk.cells m.wlinks)::aa (.slice mp.2.1.A m.wmem.length mp.2.1.c) 3 1 m.wmem.length (aw m.wmem)::aa (.slice mp.2.2.1.A m.hlinks.length mp.2.2.1.c) 230 4 m.hlinks.length (ab Lk.cells m.hlinks)::aa (.slice mp.2.2.2.A m.hmem.length mp.2.2.2.c) 3 1 m.hmem.length (aw m.hmem)::I) w'):=by
 refine wK 11 Tryz.func281 (fun R_ hR_ a hk=>?_)
 refine sg [0,1] hk ?_
 refine eB hk hS (fun g2 w hS _=>?_)
 refine eA #[i6 0,i6 0,i6 0,i6 0,i6 0,i6 0,i6 0,.slice none 0 0,.slice none 0 0] hS (fun g3 w hS _=>?_)
 refine T ?_
 refine rE [1,2] hk fun a hk=>?_
 refine sg [2,3,4] hk ?_
 refine T ?_
 refine LDS 1 9 hk hS ?_
 replace hS:=hS.dupI 3
 replace hS:=hS.dupI 3
 obtain ⟨q4,hq4,ht⟩:=ao ht
 refine eC hk (h:=iy (⟨m.hhd,m.hlinks,m.hmem⟩:LV) (⟨mp.2.2.1.A,mp.2.2.1.c,mp.2.2.2.A,mp.2.2.2.c⟩:LP) _ hq4 hS) (k:=?_)
 rintro _ w ⟨e04,rfl,hS⟩
 refine ⟨_,rfl,?_⟩
 replace hS:=hS.dropI.dropI
 replace hS:=hS.nz 4
 refine eA #[i6 0,i6 0,i6 0,i6 0,i6 0,i6 0,i6 0,.slice none 0 0,.slice none 0 0] hS (fun g5 w hS _=>?_)
 refine eS 0 hk hS (fun w hS _=>?_)
 refine rE [2,4] hk fun a hk=>?_
 refine sg [2] hk ?_
 iterate 2 refine T ?_
 refine eS 0 hk hS (fun w hS _=>?_)
 refine rE [2,4] hk fun a hk=>?_
 refine sg [1] hk ?_
 refine LDS 0 9 hk hS ?_
 refine eS 3 hk hS (fun w hS _=>?_)
 refine T ?_
 refine rE [2,3] hk fun a hk=>?_
 refine wp_ret ?_
 have hCb:=hS.blk (i:=3) rfl
 replace hS:=hS.pk [1,1] 3
 obtain rfl:=Option.some.inj ht
 exact gs hk hCb (hR_ _ _ ⟨e04,rfl,hS⟩) Tryz.underlying66
def gm (m:MiV) (q:Int):Option (LV × Int):=aJ (eQ (⟨m.whd,m.wlinks,m.wmem⟩:LV)) fun q4=>if (⟨(⟨0,q4.hd.kind,q4.hd.id,q4.hd.adv,q,q4.hd.sum,q4.hd.long⟩:HD),q4.links,q4.mem⟩:LV).links.length ≤ 5000 then if (⟨(⟨0,q4.hd.kind,q4.hd.id,q4.hd.adv,q,q4.hd.sum,q4.hd.long⟩:HD),q4.links,q4.mem⟩:LV).mem.length ≤ 5000 then bw ((bE (⟨(⟨0,q4.hd.kind,q4.hd.id,q4.hd.adv,q,q4.hd.sum,q4.hd.long⟩:HD),q4.links,q4.mem⟩:LV))) fun q7=>some (q7,1) else none else none
theorem kp {κ:Kap} {L I:List Atom} (m:MiV) (mp:SlP × SlP × SlP × SlP) (q:Int) (W:World) {r_:LV × Int} (ht:(gm m q) = some r_) (hS:S κ (L) (aa (.slice mp.1.A m.wlinks.length mp.1.c) 230 4 m.wlinks.length (ab Lk.cells m.wlinks)::aa (.slice mp.2.1.A m.wmem.length mp.2.1.c) 3 1 m.wmem.length (aw m.wmem)::aa (.slice mp.2.2.1.A m.hlinks.length mp.2.2.1.c) 230 4 m.hlinks.length (ab Lk.cells m.hlinks)::aa (.slice mp.2.2.2.A m.hmem.length mp.2.2.2.c) 3 1 m.hmem.length (aw m.hmem)::I) W):
    Calls Tryz.prog 284 #[.agg #[i6 m.whd.age,i6 m.whd.kind,i6 m.whd.id,i6 m.whd.adv,i6 m.whd.seq,i6 m.whd.sum,i6 m.whd.long,.slice mp.1.A m.wlinks.length mp.1.c,.slice mp.2.1.A m.wmem.length mp.2.1.c,.bool m.wanted,i6 m.hhd.age,i6 m.hhd.kind,i6 m.hhd.id,i6 m.hhd.adv,i6 m.hhd.seq,i6 m.hhd.sum,i6 m.hhd.long,.slice mp.2.2.1.A m.hlinks.length mp.2.2.1.c,.slice mp.2.2.2.A m.hmem.length mp.2.2.2.c,.bool m.is,i6 m.last,i6 m.at_,.bool m.ever],i6 q] W (fun r w'=>∃ e0:LP,r = .returned (.tuple #[.agg #[i6 r_.1.hd.age,i6 r_.1.hd.kind,i6 r_.1.hd.id,i6 r_.1.hd.adv,i6 r_.1.hd.seq,i6 r_.1.hd.sum,i6 r_.1.hd.long,.slice e0.A r_.1.links.length e0.c,.slice e0.B r_.1.mem.length e0.d],i6 r_.2])∧S κ (aa (.slice e0.A r_.1.links.length e0.c) 230 4 r_.1.links.length (ab Lk.cells r_.1.links)::aa (.slice e0.B r_.1.mem.length e0.d) 3 1 r_.1.mem.length (aw r_.1.mem)::L) (aa (.slice mp.1.A m.wlinks.length mp.1.c) 230 4 m.wlinks.length (ab Lk.cells m.wlinks)::aa (.slice mp.2.1.A m.wmem.length mp.2.1.c) 3 1 m.wmem.length (aw m.wmem)::aa (.slice mp.2.2.1.A m.hlinks.length mp.2.2.1.c) 230 4 m.hlinks.length (ab Lk.cells m.hlinks)::aa (.slice mp.2.2.2.A m.hmem.length mp.2.2.2.c) 3 1 m.hmem.length (aw m.hmem)::I) w'):=by
 refine wK 17 Tryz.func284 (fun R_ hR_ a hk=>?_)
 refine sg [0,1] hk ?_
 refine eB hk hS (fun g2 w hS _=>?_)
 refine eA #[i6 0,i6 0,i6 0,i6 0,i6 0,i6 0,i6 0,.slice none 0 0,.slice none 0 0] hS (fun g3 w hS _=>?_)
 refine T ?_
 refine rE [1,2,4] hk fun a hk=>?_
 refine sg [2,3,4] hk ?_
 refine T ?_
 refine LDS 1 9 hk hS ?_
 obtain ⟨q4,hq4,ht⟩:=ao ht
 refine eC hk (h:=iy (⟨m.whd,m.wlinks,m.wmem⟩:LV) (⟨mp.1.A,mp.1.c,mp.2.1.A,mp.2.1.c⟩:LP) _ hq4 hS) (k:=?_)
 rintro _ w ⟨e04,rfl,hS⟩
 refine ⟨_,rfl,?_⟩
 replace hS:=hS.nz 4
 refine eA #[i6 0,i6 0,i6 0,i6 0,i6 0,i6 0,i6 0,.slice none 0 0,.slice none 0 0] hS (fun g5 w hS _=>?_)
 refine eS 0 hk hS (fun w hS _=>?_)
 refine rE [1,4,6] hk fun a hk=>?_
 refine sg [3,6] hk ?_
 iterate 3 refine T ?_
 refine eS 0 hk hS (fun w hS _=>?_)
 iterate 2 refine T ?_
 refine eS 0 hk hS (fun w hS _=>?_)
 refine rE [4,6] hk fun a hk=>?_
 refine sg [1,2] hk ?_
 refine LDS 0 9 hk hS ?_
 replace hS:=hS.pk [1,1] 0
 obtain ⟨J6,hS,hJ6⟩:=S.lend (M:=[_,_]) hS
 obtain ⟨hgd8,ht⟩:=gdE ht
 obtain ⟨hgd9,ht⟩:=gdE ht
 refine eC hk (h:=pP (⟨(⟨0,q4.hd.kind,q4.hd.id,q4.hd.adv,q,q4.hd.sum,q4.hd.long⟩:HD),q4.links,q4.mem⟩:LV) e04 _ hgd8 hgd9 hS) (k:=?_)
 rintro _ w ⟨e07,rfl,hS⟩
 refine ⟨_,rfl,?_⟩
 generalize hq7:(bE (⟨(⟨0,q4.hd.kind,q4.hd.id,q4.hd.adv,q,q4.hd.sum,q4.hd.long⟩:HD),q4.links,q4.mem⟩:LV)) = q7 at hS ⊢
 replace ht:=(am hq7).symm.trans ht
 replace hS:=hJ6 _ _ hS
 replace hS:=hS.nz 7
 refine eS 5 hk hS (fun w hS _=>?_)
 refine T ?_
 refine rE [4,5] hk fun a hk=>?_
 refine wp_ret ?_
 have hCb:=hS.blk (i:=5) rfl
 replace hS:=hS.pk [2,2] 5
 obtain rfl:=Option.some.inj ht
 exact gs hk hCb (hR_ _ _ ⟨e07,rfl,hS⟩) Tryz.underlying66
def de (m:MiV):Int × Bool:=cond m.is (cond m.ever (((max (m.hhd.seq:Int) m.last),true)) ((m.hhd.seq,true))) ((m.last,m.ever))
theorem nn {κ:Kap} {L I:List Atom} (m:MiV) (mp:SlP × SlP × SlP × SlP) (W:World) (hS:S κ (L) (aa (.slice mp.1.A m.wlinks.length mp.1.c) 230 4 m.wlinks.length (ab Lk.cells m.wlinks)::aa (.slice mp.2.1.A m.wmem.length mp.2.1.c) 3 1 m.wmem.length (aw m.wmem)::aa (.slice mp.2.2.1.A m.hlinks.length mp.2.2.1.c) 230 4 m.hlinks.length (ab Lk.cells m.hlinks)::aa (.slice mp.2.2.2.A m.hmem.length mp.2.2.2.c) 3 1 m.hmem.length (aw m.hmem)::I) W):
    Calls Tryz.prog 283 #[.agg #[i6 m.whd.age,i6 m.whd.kind,i6 m.whd.id,i6 m.whd.adv,i6 m.whd.seq,i6 m.whd.sum,i6 m.whd.long,.slice mp.1.A m.wlinks.length mp.1.c,.slice mp.2.1.A m.wmem.length mp.2.1.c,.bool m.wanted,i6 m.hhd.age,i6 m.hhd.kind,i6 m.hhd.id,i6 m.hhd.adv,i6 m.hhd.seq,i6 m.hhd.sum,i6 m.hhd.long,.slice mp.2.2.1.A m.hlinks.length mp.2.2.1.c,.slice mp.2.2.2.A m.hmem.length mp.2.2.2.c,.bool m.is,i6 m.last,i6 m.at_,.bool m.ever]] W (fun r w'=>r = .returned (.tuple #[i6 ((de m).1),.bool ((de m).2)])∧S κ (L) (aa (.slice mp.1.A m.wlinks.length mp.1.c) 230 4 m.wlinks.length (ab Lk.cells m.wlinks)::aa (.slice mp.2.1.A m.wmem.length mp.2.1.c) 3 1 m.wmem.length (aw m.wmem)::aa (.slice mp.2.2.1.A m.hlinks.length mp.2.2.1.c) 230 4 m.hlinks.length (ab Lk.cells m.hlinks)::aa (.slice mp.2.2.2.A m.hmem.length mp.2.2.2.c) 3 1 m.hmem.length (aw m.hmem)::I) w'):=by
 generalize ht:(de m) = t_
 refine wK 29 Tryz.func283 (fun R_ hR_ a hk=>?_)
 refine sg [0] hk ?_
 refine eB hk hS (fun g2 w hS _=>?_)
 iterate 2 refine T ?_
 refine rE [1] hk fun a hk=>?_
 refine wp_seq ?_
 refine wp_block ?_
 refine sg [] hk ?_
 refine T ?_
 refine LD 0 hk hS ?_
 refine T ?_
 rcases bt m.is with hg2 | hg2
 ·refine rwV 1 (.bool m.is) (.bool true) (by rw [hg2]) ?_
  refine rwV 2 (.bool m.is) (.bool true) (by rw [hg2]) ?_
  replace ht:=(bT hg2).symm.trans ht
  refine T ?_
  refine LD 0 hk hS ?_
  iterate 2 refine T ?_
  refine rE [1,4] hk fun a hk=>?_
  refine cB hk (fun hc4=>?_) (fun hc4=>?_)
  ·replace ht:=(bT hc4).symm.trans ht
   refine sg [] hk ?_
   iterate 3 refine T ?_
   refine LD 0 hk hS ?_
   refine T ?_
   refine LD 0 hk hS ?_
   refine rD (i6 (max (m.hhd.seq:Int) m.last)) (fun _ h_=>rk (xR rfl (h_.x hk) (h_.x hk))) ?_
   iterate 2 refine T ?_
   refine rE [2,3] hk fun a hk=>?_
   refine wp_ret ?_
   replace hS:=hS.pk [] 1
   subst ht
   exact rt2 hk (hR_ _ _ ⟨rfl,hS⟩)
  replace ht:=(bF hc4).symm.trans ht
  refine sg [] hk ?_
  refine T ?_
  refine LD 0 hk hS ?_
  refine T ?_
  refine rE [1,18] hk fun a hk=>?_
  refine cTk hk hg2 ?_
  refine sg [] hk ?_
  iterate 3 refine T ?_
  refine LD 0 hk hS ?_
  iterate 2 refine T ?_
  refine rE [2,3] hk fun a hk=>?_
  refine wp_ret ?_
  replace hS:=hS.pk [] 1
  subst ht
  exact rt2 hk (hR_ _ _ ⟨rfl,hS⟩)
 refine rwV 1 (.bool m.is) (.bool false) (by rw [hg2]) ?_
 refine rwV 2 (.bool m.is) (.bool false) (by rw [hg2]) ?_
 replace ht:=(bF hg2).symm.trans ht
 refine oF 2 7 true [3,4] ?_
 iterate 2 refine T ?_
 refine rE [1,4] hk fun a hk=>?_
 refine cF hk ?_
 refine sg [] hk ?_
 refine T ?_
 refine LD 0 hk hS ?_
 refine T ?_
 refine rE [1,18] hk fun a hk=>?_
 refine cFk hk hg2 ?_
 refine wp_skip ?_
 refine wp_seq ?_
 refine rgR [[],[0],[],[2],[0,1],[0,1,2,3,4]] [] (.rd 0 (.rd 1 (.rd 2 (.rd 3 (.rd 4 (.rd 5 (.fin))))))) hk hS (fun w hS _=>?_)
 refine T ?_
 refine LD 0 hk hS ?_
 refine T ?_
 refine LD 0 hk hS ?_
 iterate 2 refine T ?_
 refine rE [2,3] hk fun a hk=>?_
 refine wp_ret ?_
 replace hS:=hS.pk [] 1
 subst ht
 exact rt2 hk (hR_ _ _ ⟨rfl,hS⟩)
def eR (m:MiV):Option (Bool):=cond m.is (some (decide ((m.hhd.age:Int) ≠ 60))) (some false)
def dQ (m:MiV):Option (Bool):=cond m.is (if (m.hhd.age:Int) < 20 then some (fI (⟨m.hhd,m.hlinks,m.hmem⟩:LV) (⟨m.whd,m.wlinks,m.wmem⟩:LV)) else some false) (some false)
def iz (m:MiV) (now:Int):Option (Bool):=cond m.ever (if -4611686018427387904 ≤ now - m.at_∧now - m.at_ ≤ 4611686018427387904 then some (decide ((now - m.at_:Int) < 2)) else none) (some false)
def gQ (m:MiV) (q10:Int × Bool):Option (Bool):=cond (!q10.2) (some true) (if (2147483647:Int) ≤ q10.1 then some (!m.is) else some false)
def cH (m:MiV) (now:Int):Option (LV × Int):=aJ (eR m) fun r4=>cond m.wanted (aJ (dQ m) fun r6=>cond r6 (some ((⟨(⟨0,0,0,0,0,0,0⟩:HD),[],[]⟩:LV),0)) (aJ (iz m now) fun r8=>cond r8 (some ((⟨(⟨0,0,0,0,0,0,0⟩:HD),[],[]⟩:LV),3)) (bw (de m) fun q10=>aJ (gQ m q10) fun r11=>cond r11 (aJ (gm m (-2147483647)) fun q12=>some (q12.1,q12.2)) (if (q10.1:Int) < 2147483647 then if -4611686018427387904 ≤ q10.1 + 1∧q10.1 + 1 ≤ 4611686018427387904 then aJ (gm m (q10.1 + 1)) fun q14=>some (q14.1,q14.2) else none else cond r4 (aJ (gO m) fun q15=>some (q15.1,q15.2)) (some ((⟨(⟨0,0,0,0,0,0,0⟩:HD),[],[]⟩:LV),3)))))) (cond r4 (aJ (gO m) fun q5=>some (q5.1,q5.2)) (some ((⟨(⟨0,0,0,0,0,0,0⟩:HD),[],[]⟩:LV),0)))
theorem ko {κ:Kap} {L I:List Atom} (m:MiV) (mp:SlP × SlP × SlP × SlP) (now:Int) (W:World) {r_:LV × Int} (ht:(cH m now) = some r_) (hS:S κ (L) (aa (.slice mp.1.A m.wlinks.length mp.1.c) 230 4 m.wlinks.length (ab Lk.cells m.wlinks)::aa (.slice mp.2.1.A m.wmem.length mp.2.1.c) 3 1 m.wmem.length (aw m.wmem)::aa (.slice mp.2.2.1.A m.hlinks.length mp.2.2.1.c) 230 4 m.hlinks.length (ab Lk.cells m.hlinks)::aa (.slice mp.2.2.2.A m.hmem.length mp.2.2.2.c) 3 1 m.hmem.length (aw m.hmem)::I) W):
    Calls Tryz.prog 208 #[.agg #[i6 m.whd.age,i6 m.whd.kind,i6 m.whd.id,i6 m.whd.adv,i6 m.whd.seq,i6 m.whd.sum,i6 m.whd.long,.slice mp.1.A m.wlinks.length mp.1.c,.slice mp.2.1.A m.wmem.length mp.2.1.c,.bool m.wanted,i6 m.hhd.age,i6 m.hhd.kind,i6 m.hhd.id,i6 m.hhd.adv,i6 m.hhd.seq,i6 m.hhd.sum,i6 m.hhd.long,.slice mp.2.2.1.A m.hlinks.length mp.2.2.1.c,.slice mp.2.2.2.A m.hmem.length mp.2.2.2.c,.bool m.is,i6 m.last,i6 m.at_,.bool m.ever],i6 now] W (fun r w'=>∃ e0:LP,r = .returned (.tuple #[.agg #[i6 r_.1.hd.age,i6 r_.1.hd.kind,i6 r_.1.hd.id,i6 r_.1.hd.adv,i6 r_.1.hd.seq,i6 r_.1.hd.sum,i6 r_.1.hd.long,.slice e0.A r_.1.links.length e0.c,.slice e0.B r_.1.mem.length e0.d],i6 r_.2])∧S κ (aa (.slice e0.A r_.1.links.length e0.c) 230 4 r_.1.links.length (ab Lk.cells r_.1.links)::aa (.slice e0.B r_.1.mem.length e0.d) 3 1 r_.1.mem.length (aw r_.1.mem)::L) (aa (.slice mp.1.A m.wlinks.length mp.1.c) 230 4 m.wlinks.length (ab Lk.cells m.wlinks)::aa (.slice mp.2.1.A m.wmem.length mp.2.1.c) 3 1 m.wmem.length (aw m.wmem)::aa (.slice mp.2.2.1.A m.hlinks.length mp.2.2.1.c) 230 4 m.hlinks.length (ab Lk.cells m.hlinks)::aa (.slice mp.2.2.2.A m.hmem.length mp.2.2.2.c) 3 1 m.hmem.length (aw m.hmem)::I) w'):=by
 refine wK 91 Tryz.func208 (fun R_ hR_ a hk=>?_)
 refine sg [0,1] hk ?_
 refine eB hk hS (fun g2 w hS _=>?_)
 refine eA #[i6 0,i6 0,i6 0,i6 0,i6 0,i6 0,i6 0,.slice none 0 0,.slice none 0 0] hS (fun g3 w hS _=>?_)
 refine T ?_
 refine rE [1,2,4] hk fun a hk=>?_
 refine wp_seq ?_
 obtain ⟨r4,hr4,ht⟩:=ao ht
 refine aB (fun a_ w_=>Fr a_ 91 [(1,i6 now),(2,pt g2 0),(4,pt g3 0),(6,.bool r4)]∧S κ (ai g3 66 #[i6 0,i6 0,i6 0,i6 0,i6 0,i6 0,i6 0,.slice none 0 0,.slice none 0 0]::ai g2 303 #[i6 m.whd.age,i6 m.whd.kind,i6 m.whd.id,i6 m.whd.adv,i6 m.whd.seq,i6 m.whd.sum,i6 m.whd.long,.slice mp.1.A m.wlinks.length mp.1.c,.slice mp.2.1.A m.wmem.length mp.2.1.c,.bool m.wanted,i6 m.hhd.age,i6 m.hhd.kind,i6 m.hhd.id,i6 m.hhd.adv,i6 m.hhd.seq,i6 m.hhd.sum,i6 m.hhd.long,.slice mp.2.2.1.A m.hlinks.length mp.2.2.1.c,.slice mp.2.2.2.A m.hmem.length mp.2.2.2.c,.bool m.is,i6 m.last,i6 m.at_,.bool m.ever]::L) (aa (.slice mp.1.A m.wlinks.length mp.1.c) 230 4 m.wlinks.length (ab Lk.cells m.wlinks)::aa (.slice mp.2.1.A m.wmem.length mp.2.1.c) 3 1 m.wmem.length (aw m.wmem)::aa (.slice mp.2.2.1.A m.hlinks.length mp.2.2.1.c) 230 4 m.hlinks.length (ab Lk.cells m.hlinks)::aa (.slice mp.2.2.2.A m.hmem.length mp.2.2.2.c) 3 1 m.hmem.length (aw m.hmem)::I) w_) ?_ ?_
 ·have hI4:=hr4
  refine rgL [] hk ?_
  refine T ?_
  refine LD 1 hk hS ?_
  refine T ?_
  rcases bt m.is with hg2 | hg2
  ·refine rwV 1 (.bool m.is) (.bool true) (by rw [hg2]) ?_
   refine rwV 2 (.bool m.is) (.bool true) (by rw [hg2]) ?_
   replace hI4:=(bT hg2).symm.trans hI4
   iterate 3 refine T ?_
   refine LD 1 hk hS ?_
   iterate 3 refine T ?_
   refine rE [1,2,4,6] hk fun a hk=>?_
   obtain rfl:=Option.some.inj hI4
   exact ⟨hk.to,hS⟩
  refine rwV 1 (.bool m.is) (.bool false) (by rw [hg2]) ?_
  refine rwV 2 (.bool m.is) (.bool false) (by rw [hg2]) ?_
  replace hI4:=(bF hg2).symm.trans hI4
  refine oF 2 11 true [3,4,5,6,7] ?_
  iterate 2 refine T ?_
  refine rE [1,2,4,6] hk fun a hk=>?_
  obtain rfl:=Option.some.inj hI4
  exact ⟨hk.to,hS⟩
 rintro a w ⟨hk,hS⟩
 refine wp_seq ?_
 refine sg [] hk ?_
 refine T ?_
 refine LD 1 hk hS ?_
 refine T ?_
 refine rE [1,2,4,6,20] hk fun a hk=>?_
 refine cB hk (fun hc20=>?_) (fun hc20=>?_)
 ·replace hc20:=nbt hc20
  replace ht:=(bF hc20).symm.trans ht
  refine wp_seq ?_
  refine sg [] hk ?_
  refine T ?_
  refine rE [2,4,21] hk fun a hk=>?_
  refine cB hk (fun hc21=>?_) (fun hc21=>?_)
  ·replace ht:=(bT hc21).symm.trans ht
   refine sg [1,4] hk ?_
   refine LDS 1 23 hk hS ?_
   obtain ⟨q5,hq5,ht⟩:=ao ht
   refine eC hk (h:=hV m mp _ hq5 hS) (k:=?_)
   rintro _ w ⟨e05,rfl,hS⟩
   refine ⟨_,rfl,?_⟩
   replace hS:=hS.nz 4
   iterate 2 refine T ?_
   refine eS 2 hk hS (fun w hS _=>?_)
   refine T ?_
   refine rE [4,5] hk fun a hk=>?_
   refine wp_ret ?_
   have hCb:=hS.blk (i:=2) rfl
   replace hS:=hS.pk [0,0] 2
   obtain rfl:=Option.some.inj ht
   exact gs hk hCb (hR_ _ _ ⟨e05,rfl,hS⟩) Tryz.underlying66
  replace ht:=(bF hc21).symm.trans ht
  refine wp_skip ?_
  refine sg [1] hk ?_
  refine rD (.agg #[i6 0,i6 0,i6 0,i6 0,i6 0,i6 0,i6 0,.slice none 0 0,.slice none 0 0]) (fun _ h_=>rk (af rfl (h_.prt hk) (by kernel_rfl))) ?_
  refine eS 0 hk hS (fun w hS _=>?_)
  refine T ?_
  refine rE [4,5] hk fun a hk=>?_
  refine wp_ret ?_
  have hCb:=hS.blk (i:=0) rfl
  have hS:=hS.nilrow 230 4
  replace hS:=hS.nz 3
  have hS:=hS.nilrow 3 1
  replace hS:=hS.nz 4
  replace hS:=hS.pk [1,0] 2
  obtain rfl:=Option.some.inj ht
  exact gs hk hCb (hR_ _ _ ⟨(⟨none,0,none,0⟩:LP),rfl,hS⟩) Tryz.underlying66
 replace hc20:=nbf hc20
 replace ht:=(bT hc20).symm.trans ht
 refine wp_skip ?_
 refine wp_seq ?_
 refine wp_seq ?_
 obtain ⟨r6,hr6,ht⟩:=ao ht
 refine aB (fun a_ w_=>Fr a_ 91 [(1,i6 now),(2,pt g2 0),(4,pt g3 0),(6,.bool r4),(42,.bool r6)]∧S κ (ai g3 66 #[i6 0,i6 0,i6 0,i6 0,i6 0,i6 0,i6 0,.slice none 0 0,.slice none 0 0]::ai g2 303 #[i6 m.whd.age,i6 m.whd.kind,i6 m.whd.id,i6 m.whd.adv,i6 m.whd.seq,i6 m.whd.sum,i6 m.whd.long,.slice mp.1.A m.wlinks.length mp.1.c,.slice mp.2.1.A m.wmem.length mp.2.1.c,.bool m.wanted,i6 m.hhd.age,i6 m.hhd.kind,i6 m.hhd.id,i6 m.hhd.adv,i6 m.hhd.seq,i6 m.hhd.sum,i6 m.hhd.long,.slice mp.2.2.1.A m.hlinks.length mp.2.2.1.c,.slice mp.2.2.2.A m.hmem.length mp.2.2.2.c,.bool m.is,i6 m.last,i6 m.at_,.bool m.ever]::L) (aa (.slice mp.1.A m.wlinks.length mp.1.c) 230 4 m.wlinks.length (ab Lk.cells m.wlinks)::aa (.slice mp.2.1.A m.wmem.length mp.2.1.c) 3 1 m.wmem.length (aw m.wmem)::aa (.slice mp.2.2.1.A m.hlinks.length mp.2.2.1.c) 230 4 m.hlinks.length (ab Lk.cells m.hlinks)::aa (.slice mp.2.2.2.A m.hmem.length mp.2.2.2.c) 3 1 m.hmem.length (aw m.hmem)::I) w_) ?_ ?_
 ·have hI6:=hr6
  refine rgL [14] hk ?_
  refine T ?_
  refine LD 1 hk hS ?_
  refine T ?_
  rcases bt m.is with hg2 | hg2
  ·refine rwV 1 (.bool m.is) (.bool true) (by rw [hg2]) ?_
   refine rwV 2 (.bool m.is) (.bool true) (by rw [hg2]) ?_
   replace hI6:=(bT hg2).symm.trans hI6
   iterate 3 refine T ?_
   refine LD 1 hk hS ?_
   iterate 3 refine T ?_
   rcases dt ((m.hhd.age:Int) < 20) with ⟨he,hg9⟩ | ⟨he,hg9⟩
   ·rw [he]
    replace hI6:=(if_pos hg9).symm.trans hI6
    refine T ?_
    refine LDS 1 9 hk hS ?_
    refine T ?_
    refine LDS 1 9 hk hS ?_
    replace hS:=hS.dupI 1
    replace hS:=hS.dupI 1
    replace hS:=hS.dupI 5
    replace hS:=hS.dupI 5
    refine eC hk (h:=n7 (⟨m.hhd,m.hlinks,m.hmem⟩:LV) (⟨mp.2.2.1.A,mp.2.2.1.c,mp.2.2.2.A,mp.2.2.2.c⟩:LP) (⟨m.whd,m.wlinks,m.wmem⟩:LV) (⟨mp.1.A,mp.1.c,mp.2.1.A,mp.2.1.c⟩:LP) _ hS) (k:=?_)
    rintro _ w ⟨rfl,hS⟩
    refine ⟨_,rfl,?_⟩
    replace hS:=hS.dropI.dropI.dropI.dropI
    replace hS:=hS.nz 2
    refine T ?_
    refine rE [1,2,4,6,42] hk fun a hk=>?_
    obtain rfl:=Option.some.inj hI6
    exact ⟨hk.to,hS⟩
   rw [he]
   replace hI6:=(if_neg hg9).symm.trans hI6
   refine oF 9 36 true [10,11,12,13] ?_
   refine oE 9 36 true ?_
   refine T ?_
   refine rE [1,2,4,6,42] hk fun a hk=>?_
   obtain rfl:=Option.some.inj hI6
   exact ⟨hk.to,hS⟩
  refine rwV 1 (.bool m.is) (.bool false) (by rw [hg2]) ?_
  refine rwV 2 (.bool m.is) (.bool false) (by rw [hg2]) ?_
  replace hI6:=(bF hg2).symm.trans hI6
  refine oF 2 29 true [3,4,5,6,7] ?_
  iterate 2 refine T ?_
  refine oF 9 36 true [10,11,12,13] ?_
  refine oE 9 36 true ?_
  refine T ?_
  refine rE [1,2,4,6,42] hk fun a hk=>?_
  obtain rfl:=Option.some.inj hI6
  exact ⟨hk.to,hS⟩
 rintro a w ⟨hk,hS⟩
 refine cB hk (fun hc42=>?_) (fun hc42=>?_)
 ·replace ht:=(bT hc42).symm.trans ht
  refine sg [1] hk ?_
  refine rD (.agg #[i6 0,i6 0,i6 0,i6 0,i6 0,i6 0,i6 0,.slice none 0 0,.slice none 0 0]) (fun _ h_=>rk (af rfl (h_.prt hk) (by kernel_rfl))) ?_
  refine eS 0 hk hS (fun w hS _=>?_)
  refine T ?_
  refine rE [4,5] hk fun a hk=>?_
  refine wp_ret ?_
  have hCb:=hS.blk (i:=0) rfl
  have hS:=hS.nilrow 230 4
  replace hS:=hS.nz 3
  have hS:=hS.nilrow 3 1
  replace hS:=hS.nz 4
  replace hS:=hS.pk [1,0] 2
  obtain rfl:=Option.some.inj ht
  exact gs hk hCb (hR_ _ _ ⟨(⟨none,0,none,0⟩:LP),rfl,hS⟩) Tryz.underlying66
 replace ht:=(bF hc42).symm.trans ht
 refine wp_skip ?_
 refine wp_seq ?_
 refine wp_seq ?_
 obtain ⟨r8,hr8,ht⟩:=ao ht
 refine aB (fun a_ w_=>Fr a_ 91 [(2,pt g2 0),(4,pt g3 0),(6,.bool r4),(52,.bool r8)]∧S κ (ai g3 66 #[i6 0,i6 0,i6 0,i6 0,i6 0,i6 0,i6 0,.slice none 0 0,.slice none 0 0]::ai g2 303 #[i6 m.whd.age,i6 m.whd.kind,i6 m.whd.id,i6 m.whd.adv,i6 m.whd.seq,i6 m.whd.sum,i6 m.whd.long,.slice mp.1.A m.wlinks.length mp.1.c,.slice mp.2.1.A m.wmem.length mp.2.1.c,.bool m.wanted,i6 m.hhd.age,i6 m.hhd.kind,i6 m.hhd.id,i6 m.hhd.adv,i6 m.hhd.seq,i6 m.hhd.sum,i6 m.hhd.long,.slice mp.2.2.1.A m.hlinks.length mp.2.2.1.c,.slice mp.2.2.2.A m.hmem.length mp.2.2.2.c,.bool m.is,i6 m.last,i6 m.at_,.bool m.ever]::L) (aa (.slice mp.1.A m.wlinks.length mp.1.c) 230 4 m.wlinks.length (ab Lk.cells m.wlinks)::aa (.slice mp.2.1.A m.wmem.length mp.2.1.c) 3 1 m.wmem.length (aw m.wmem)::aa (.slice mp.2.2.1.A m.hlinks.length mp.2.2.1.c) 230 4 m.hlinks.length (ab Lk.cells m.hlinks)::aa (.slice mp.2.2.2.A m.hmem.length mp.2.2.2.c) 3 1 m.hmem.length (aw m.hmem)::I) w_) ?_ ?_
 ·have hI8:=hr8
  refine rgL [] hk ?_
  refine T ?_
  refine LD 1 hk hS ?_
  refine T ?_
  rcases bt m.ever with hg2 | hg2
  ·refine rwV 1 (.bool m.ever) (.bool true) (by rw [hg2]) ?_
   refine rwV 2 (.bool m.ever) (.bool true) (by rw [hg2]) ?_
   replace hI8:=(bT hg2).symm.trans hI8
   iterate 2 refine T ?_
   refine LD 1 hk hS ?_
   obtain ⟨hgd9,hI8⟩:=gdE hI8
   refine dB hk ?_
   iterate 2 refine T ?_
   refine rE [2,4,6,52] hk fun a hk=>?_
   obtain rfl:=Option.some.inj hI8
   exact ⟨hk.to,hS⟩
  refine rwV 1 (.bool m.ever) (.bool false) (by rw [hg2]) ?_
  refine rwV 2 (.bool m.ever) (.bool false) (by rw [hg2]) ?_
  replace hI8:=(bF hg2).symm.trans hI8
  refine oF 2 46 true [3,4,5,6,7] ?_
  refine T ?_
  refine rE [2,4,6,52] hk fun a hk=>?_
  obtain rfl:=Option.some.inj hI8
  exact ⟨hk.to,hS⟩
 rintro a w ⟨hk,hS⟩
 refine cB hk (fun hc52=>?_) (fun hc52=>?_)
 ·replace ht:=(bT hc52).symm.trans ht
  refine sg [1] hk ?_
  refine rD (.agg #[i6 0,i6 0,i6 0,i6 0,i6 0,i6 0,i6 0,.slice none 0 0,.slice none 0 0]) (fun _ h_=>rk (af rfl (h_.prt hk) (by kernel_rfl))) ?_
  refine eS 0 hk hS (fun w hS _=>?_)
  refine T ?_
  refine rE [4,5] hk fun a hk=>?_
  refine wp_ret ?_
  have hCb:=hS.blk (i:=0) rfl
  have hS:=hS.nilrow 230 4
  replace hS:=hS.nz 3
  have hS:=hS.nilrow 3 1
  replace hS:=hS.nz 4
  replace hS:=hS.pk [1,0] 2
  obtain rfl:=Option.some.inj ht
  exact gs hk hCb (hR_ _ _ ⟨(⟨none,0,none,0⟩:LP),rfl,hS⟩) Tryz.underlying66
 replace ht:=(bF hc52).symm.trans ht
 refine wp_skip ?_
 refine sg [1] hk ?_
 refine LDS 1 23 hk hS ?_
 refine eC hk (h:=nn m mp _ hS) (k:=?_)
 rintro _ w ⟨rfl,hS⟩
 refine ⟨_,rfl,?_⟩
 generalize hq10:de m = q10 at hS ⊢
 replace ht:=(am hq10).symm.trans ht
 replace hS:=hS.nz 2
 iterate 5 refine T ?_
 refine rE [2,4,6,7,8] hk fun a hk=>?_
 refine wp_seq ?_
 refine wp_block ?_
 refine wp_seq ?_
 obtain ⟨r11,hr11,ht⟩:=ao ht
 refine aB (fun a_ w_=>Fr a_ 91 [(2,pt g2 0),(4,pt g3 0),(6,.bool r4),(7,i6 q10.1),(59,.bool r11)]∧S κ (ai g3 66 #[i6 0,i6 0,i6 0,i6 0,i6 0,i6 0,i6 0,.slice none 0 0,.slice none 0 0]::ai g2 303 #[i6 m.whd.age,i6 m.whd.kind,i6 m.whd.id,i6 m.whd.adv,i6 m.whd.seq,i6 m.whd.sum,i6 m.whd.long,.slice mp.1.A m.wlinks.length mp.1.c,.slice mp.2.1.A m.wmem.length mp.2.1.c,.bool m.wanted,i6 m.hhd.age,i6 m.hhd.kind,i6 m.hhd.id,i6 m.hhd.adv,i6 m.hhd.seq,i6 m.hhd.sum,i6 m.hhd.long,.slice mp.2.2.1.A m.hlinks.length mp.2.2.1.c,.slice mp.2.2.2.A m.hmem.length mp.2.2.2.c,.bool m.is,i6 m.last,i6 m.at_,.bool m.ever]::L) (aa (.slice mp.1.A m.wlinks.length mp.1.c) 230 4 m.wlinks.length (ab Lk.cells m.wlinks)::aa (.slice mp.2.1.A m.wmem.length mp.2.1.c) 3 1 m.wmem.length (aw m.wmem)::aa (.slice mp.2.2.1.A m.hlinks.length mp.2.2.1.c) 230 4 m.hlinks.length (ab Lk.cells m.hlinks)::aa (.slice mp.2.2.2.A m.hmem.length mp.2.2.2.c) 3 1 m.hmem.length (aw m.hmem)::I) w_) ?_ ?_
 ·have hI11:=hr11
  refine rgL [] hk ?_
  iterate 3 refine T ?_
  rcases bt (!q10.2) with hg2 | hg2
  ·refine rwV 1 (.bool (!q10.2)) (.bool true) (by rw [hg2]) ?_
   refine rwV 2 (.bool (!q10.2)) (.bool true) (by rw [hg2]) ?_
   replace hI11:=(bT hg2).symm.trans hI11
   refine oF 2 62 false [3,4,5] ?_
   refine oF 5 65 true [6,7,8] ?_
   refine oF 2 62 false [9] ?_
   iterate 2 refine T ?_
   refine rE [2,4,6,7,59] hk fun a hk=>?_
   obtain rfl:=Option.some.inj hI11
   exact ⟨hk.to,hS⟩
  refine rwV 1 (.bool (!q10.2)) (.bool false) (by rw [hg2]) ?_
  refine rwV 2 (.bool (!q10.2)) (.bool false) (by rw [hg2]) ?_
  replace hI11:=(bF hg2).symm.trans hI11
  iterate 3 refine T ?_
  rcases dt ((2147483647:Int) ≤ q10.1) with ⟨he,hg5⟩ | ⟨he,hg5⟩
  ·rw [he]
   replace hI11:=(if_pos hg5).symm.trans hI11
   refine T ?_
   refine LD 1 hk hS ?_
   iterate 4 refine T ?_
   refine rE [2,4,6,7,59] hk fun a hk=>?_
   obtain rfl:=Option.some.inj hI11
   exact ⟨hk.to,hS⟩
  rw [he]
  replace hI11:=(if_neg hg5).symm.trans hI11
  refine oF 5 65 true [6,7,8] ?_
  iterate 3 refine T ?_
  refine rE [2,4,6,7,59] hk fun a hk=>?_
  obtain rfl:=Option.some.inj hI11
  exact ⟨hk.to,hS⟩
 rintro a w ⟨hk,hS⟩
 refine cB hk (fun hc59=>?_) (fun hc59=>?_)
 ·replace ht:=(bT hc59).symm.trans ht
  refine sg [1,4] hk ?_
  refine LDS 1 23 hk hS ?_
  obtain ⟨q12,hq12,ht⟩:=ao ht
  refine eC hk (h:=kp m mp (-2147483647) _ hq12 hS) (k:=?_)
  rintro _ w ⟨e012,rfl,hS⟩
  refine ⟨_,rfl,?_⟩
  replace hS:=hS.nz 4
  iterate 2 refine T ?_
  refine eS 2 hk hS (fun w hS _=>?_)
  refine T ?_
  refine rE [4,5] hk fun a hk=>?_
  refine wp_ret ?_
  have hCb:=hS.blk (i:=2) rfl
  replace hS:=hS.pk [0,0] 2
  obtain rfl:=Option.some.inj ht
  exact gs hk hCb (hR_ _ _ ⟨e012,rfl,hS⟩) Tryz.underlying66
 replace ht:=(bF hc59).symm.trans ht
 refine sg [] hk ?_
 iterate 3 refine T ?_
 refine rE [2,4,6,7,75] hk fun a hk=>?_
 refine cD hk (fun hc75=>?_) (fun hc75=>?_)
 ·replace ht:=(if_pos hc75).symm.trans ht
  refine sg [3,6] hk ?_
  refine LDS 1 23 hk hS ?_
  refine T ?_
  obtain ⟨hgd13,ht⟩:=gdE ht
  refine dA hk ?_
  obtain ⟨q14,hq14,ht⟩:=ao ht
  refine eC hk (h:=kp m mp (q10.1 + 1) _ hq14 hS) (k:=?_)
  rintro _ w ⟨e014,rfl,hS⟩
  refine ⟨_,rfl,?_⟩
  replace hS:=hS.nz 4
  iterate 2 refine T ?_
  refine eS 2 hk hS (fun w hS _=>?_)
  refine T ?_
  refine rE [4,5] hk fun a hk=>?_
  refine wp_ret ?_
  have hCb:=hS.blk (i:=2) rfl
  replace hS:=hS.pk [0,0] 2
  obtain rfl:=Option.some.inj ht
  exact gs hk hCb (hR_ _ _ ⟨e014,rfl,hS⟩) Tryz.underlying66
 replace ht:=(if_neg hc75).symm.trans ht
 refine sg [] hk ?_
 iterate 2 refine T ?_
 refine rE [2,4,84] hk fun a hk=>?_
 refine cB hk (fun hc84=>?_) (fun hc84=>?_)
 ·replace ht:=(bT hc84).symm.trans ht
  refine sg [1,4] hk ?_
  refine LDS 1 23 hk hS ?_
  obtain ⟨q15,hq15,ht⟩:=ao ht
  refine eC hk (h:=hV m mp _ hq15 hS) (k:=?_)
  rintro _ w ⟨e015,rfl,hS⟩
  refine ⟨_,rfl,?_⟩
  replace hS:=hS.nz 4
  iterate 2 refine T ?_
  refine eS 2 hk hS (fun w hS _=>?_)
  refine T ?_
  refine rE [4,5] hk fun a hk=>?_
  refine wp_ret ?_
  have hCb:=hS.blk (i:=2) rfl
  replace hS:=hS.pk [0,0] 2
  obtain rfl:=Option.some.inj ht
  exact gs hk hCb (hR_ _ _ ⟨e015,rfl,hS⟩) Tryz.underlying66
 replace ht:=(bF hc84).symm.trans ht
 refine wp_skip ?_
 refine sg [1] hk ?_
 refine rD (.agg #[i6 0,i6 0,i6 0,i6 0,i6 0,i6 0,i6 0,.slice none 0 0,.slice none 0 0]) (fun _ h_=>rk (af rfl (h_.prt hk) (by kernel_rfl))) ?_
 refine eS 0 hk hS (fun w hS _=>?_)
 refine T ?_
 refine rE [4,5] hk fun a hk=>?_
 refine wp_ret ?_
 have hCb:=hS.blk (i:=0) rfl
 have hS:=hS.nilrow 230 4
 replace hS:=hS.nz 3
 have hS:=hS.nilrow 3 1
 replace hS:=hS.nz 4
 replace hS:=hS.pk [1,0] 2
 obtain rfl:=Option.some.inj ht
 exact gs hk hCb (hR_ _ _ ⟨(⟨none,0,none,0⟩:LP),rfl,hS⟩) Tryz.underlying66
end
section
theorem PeV.cells_len (x:PeV):x.cells.length = 7:=rfl
def peL (pr:PeV → Bool) (p:PeS):List PeV:=p.l.filterMap fun x=>x.bind fun x=>if pr x then some x else none
def pick (pr:PeV → Bool) (q:List (Option (Nat × PeV))):List PeV:=q.filterMap fun x=>x.bind fun x=>if pr x.2 then some x.2 else none
theorem uo {pr:PeV → Bool} {p:PeS} {q:List (Option (Nat × PeV))} (h:q.map (fun x=>x.map (·.2)) = p.l):pick pr q = peL pr p:=by
  unfold pick peL
  rw [← h,List.filterMap_map]
  congr 1
  funext x
  cases x <;> rfl
theorem vH {pr:PeV → Bool} {q:List (Option (Nat × PeV))} {k:Nat} (h:q[k]? = some none):pick pr (q.take (k + 1)) = pick pr (q.take k):=by
  rw [bp q k none h,pick,pick,List.filterMap_append];simp
theorem y7 {pr:PeV → Bool} {q:List (Option (Nat × PeV))} {k a:Nat} {x:PeV} (h:q[k]? = some (some (a,x))) (hp:pr x = false):pick pr (q.take (k + 1)) = pick pr (q.take k):=by
  rw [bp q k _ h,pick,pick,List.filterMap_append];simp [hp]
theorem rq {pr:PeV → Bool} {q:List (Option (Nat × PeV))} {k a:Nat} {x:PeV} (h:q[k]? = some (some (a,x))) (hp:pr x = true):pick pr (q.take (k + 1)) = pick pr (q.take k) ++ [x]:=by
  rw [bp q k _ h,pick,pick,List.filterMap_append];simp [hp]
theorem rp {pr:PeV → Bool}:∀ (q:List (Option (Nat × PeV))),(pick pr q).length ≤ q.length
  | []=>Nat.le_refl _
  | x::q=>by
    have:=rp (pr:=pr) q
    unfold pick at *
    rw [List.filterMap_cons]
    split <;> simp only [List.length_cons] <;> omega
theorem Ab (l:List PeV) (x:PeV):ab PeV.cells l ++ [.int .i64 x.id,.int .i64 x.prio,.int .i64 x.dr,.int .i64 x.bdr,.int .i64 x.state,.bool x.two,.int .i64 x.at_] = ab PeV.cells (l ++ [x]):=by simp [ab,PeV.cells]
theorem um {κ:Kap} {L I:List Atom} {w:World} {q:List (Option (Nat × PeV))} {i k a:Nat} {x:PeV} (h:S κ L I w) (hi:L[i]? = some (bi (q.map iA))) (hqk:q[k]? = some (some (a,x))):Blk w a 90 x.cells.toArray:=by
  have h2:=S.sep_at (h.front hi) (show (q.map iA)[k]? = some (iA (some (a,x))) by rw [List.getElem?_map,hqk];rfl)
  exact h2.blk (i:=0) rfl
theorem th {α:Type} (a b c:α) (l:List α):(a::b::c::l).Perm (b::c::a::l):=(List.Perm.swap _ _ _).trans (List.Perm.cons _ (List.Perm.swap _ _ _))
set_option maxRecDepth 100000 in
set_option maxHeartbeats 8000000 in
theorem ga {κ:Kap} {L I:List Atom} (g f:Nat) (cap:Array Value) (pr:PeV → Bool) (p:PeS) (W:World) (hcl:∀ (L':List Atom) w z,some z ∈ p.l → S κ L' I w → Calls Tryz.prog f (#[.agg z.cells.toArray] ++ cap) w fun r w'=>r = .returned (.bool (pr z))∧Below w.heap.size w w') (hfn:∀ xs w,(callFunc f xs).run Tryz.prog w = .ok (.enter f xs) w) (hS:S κ (bC g p::L) (I) W):
    Calls Tryz.prog 88 #[pt g 0,.func (.func f) #[] cap] W (fun r w'=>∃ B c,r = .returned (.slice B (peL pr p).length c)∧S κ (aa (.slice B (peL pr p).length c) 90 7 (peL pr p).length (ab PeV.cells (peL pr p))::bC g p::L) I w'):=by
 obtain ⟨q,hq1,hq16,hS⟩:=nw hS
 have hxp:∀ (a0:Nat) (x:PeV) {k:Nat},q[k]? = some (some (a0,x)) → some x ∈ p.l:=fun a0 x k h=>by rw [← hq1];exact List.mem_map.2 ⟨_,List.mem_of_getElem? h,rfl⟩
 refine wK 35 Tryz.func88 (fun R_ hR_ a hk=>?_)
 refine sg [] hk ?_
 refine T ?_
 refine rE [0,1,4] hk ?_
 clear hk
 intro a2 hk
 refine sg [] hk ?_
 refine T ?_
 refine rE [0,1,4,5] hk ?_
 clear hk
 intro a3 hk
 refine wp_seq ?_
 refine sg [] hk ?_
 refine T ?_
 refine rD (.bool false) (fun _ h_=>rk (aq rfl (h_.x hk) rfl (fun _=>by kernel_rfl) (fun _=>rfl))) ?_
 refine rE [0,1,4,5,9] hk ?_
 clear hk
 intro a4 hk
 refine cF hk ?_
 refine wp_skip ?_
 refine wp_seq ?_
 refine sg [] hk ?_
 iterate 3 refine T ?_
 refine rD (.agg (q.map ptE).toArray) (fun _ h_=>rk (eu (m:=2) (n:=16) rfl (h_.x hk) (by kernel_rfl) (by rw [List.length_map];exact hq16) (fun j u hj=>by rw [(hS.blk (i:=0) rfl).cell,List.getElem?_toArray,Nat.add_comm 2 j];simpa using hj))) ?_
 refine T ?_
 refine rE [1,4,5,14,15] hk ?_
 clear hk
 intro a5 hk
 refine wp_block ?_
 refine wp_loop (fun a_ w_=>∃ k:Nat,∃ B:Option Addr,∃ c:Nat,(k ≤ 16)∧Fr a_ 35 [(1,.func (.func f) #[] cap),(4,.slice none 0 0),(5,.slice B ((pick pr (q.take k)).length) c),(14,.agg (q.map ptE).toArray),(15,i6 k)]∧S κ ((aa (.slice B ((pick pr (q.take k)).length) c) 90 7 ((pick pr (q.take k)).length) (ab PeV.cells (pick pr (q.take k))))::ai g 172 ((.int .i64 p.self::.int .i64 p.lan::q.map ptE).toArray)::(bi (q.map iA))::L) (I) w_) (fun a_ _=>16 - (intOf (sl a_ 15)).toNat) ?_ ?_
 ·have hSn:=hS.nilrow 90 7
  exact ⟨0,none,0,Nat.zero_le _,hk.to,hSn⟩
 clear hk hS
 rintro a6 w6 ⟨k,B,c,hc0_0,hk,hS6⟩
 have hmu0:=hk.g (s:=15)
 refine sg [] hk ?_
 refine T ?_
 refine rE [1,4,5,14,15,16] hk ?_
 clear hk
 intro a7 hk
 refine wp_seq ?_
 refine cD hk (fun hc16=>?_) (fun hc16=>?_)
 ·refine wp_skip ?_
  refine wp_seq ?_
  refine wp_block ?_
  refine wp_seq ?_
  obtain ⟨z,hzq⟩:∃ z,q[k]? = some z:=⟨_,List.getElem?_eq_getElem (by omega)⟩
  refine rgL [] hk ?_
  refine rD (ptE z) (fun _ h_=>rk (et (n:=16) (e:=169) rfl (h_.x hk) (h_.x hk) (by kernel_rfl) (by kernel_rfl) (by kernel_rfl) (by omega) (show (q.map ptE).toArray[((k:Int)).toNat]? = some (ptE z) by rw [Int.toNat_natCast,List.getElem?_toArray,List.getElem?_map,hzq];rfl))) ?_
  refine T ?_
  refine rE [1,4,5,7,14,15,17] hk ?_
  clear hk
  intro a8 hk
  rcases z with _ | ⟨a0,x⟩
  ·replace hk:Fr a8 35 [(1,.func (.func f) #[] cap),(4,.slice none 0 0),(5,.slice B ((pick pr (q.take k)).length) c),(7,.pointer none),(14,.agg (q.map ptE).toArray),(15,i6 k)]:=hk.to
   refine sg [7] hk ?_
   refine T ?_
   refine rD (.bool false) (fun _ h_=>rk (aq rfl (h_.x hk) rfl (fun _=>by kernel_rfl) (fun _=>rfl))) ?_
   refine T ?_
   refine oF 2 20 true [3,4,5,6] ?_
   refine oE 2 20 true ?_
   refine T ?_
   refine rE [1,4,5,7,14,15,18,19,20,26] hk ?_
   clear hk
   intro a9 hk
   refine cF hk ?_
   refine wp_skip ?_
   refine rgL [] hk ?_
   refine rD (i6 (k + 1)) (fun _ h_=>rk (aD rfl (h_.x hk) rfl (by omega) rfl)) ?_
   refine T ?_
   refine rE [1,4,5,7,14,15,18,19,20,26,33] hk ?_
   clear hk
   intro a10 hk
   replace hS6:=hS6.fr 2
   replace hS6:=hS6.fr 2
   replace hS6:=hS6.fr 2
   rw [← vH hzq] at hS6 hk
   refine ⟨⟨k + 1,_,_,by omega,hk.to,hS6⟩,?_⟩
   show 16 - (intOf (sl a10 15)).toNat < 16 - (intOf (sl a6 15)).toNat
   rw [show sl a10 15 = _ from hk.g,show sl a6 15 = _ from hmu0]
   simp only [intOf]
   omega
  ·replace hk:Fr a8 35 [(1,.func (.func f) #[] cap),(4,.slice none 0 0),(5,.slice B ((pick pr (q.take k)).length) c),(7,pt a0 0),(14,.agg (q.map ptE).toArray),(15,i6 k)]:=hk.to
   refine sg [7] hk ?_
   refine T ?_
   refine rD (.bool true) (fun _ h_=>rk (aq rfl (h_.x hk) rfl (fun _=>by kernel_rfl) (fun _=>rfl))) ?_
   iterate 4 refine T ?_
   refine rD (.agg #[i6 x.id,i6 x.prio,i6 x.dr,i6 x.bdr,i6 x.state,.bool x.two,i6 x.at_]) (fun _ h_=>bL (h_.on 2 20) (lbS 7 (um (i:=2) hS6 rfl hzq) rfl (h_.x hk))) ?_
   refine eV hk (h:=(hcl _ _ x (hxp _ _ hzq) hS6)) (k:=?_) (hf:=(hfn _ _))
   rintro e w12 ⟨rfl,hb12⟩
   refine ⟨_,rfl,?_⟩
   have hS12:=hS6.below hb12
   clear hS6 hb12
   refine T ?_
   refine rE [1,4,5,7,14,15,18,19,20,21,22,23,24,25,26] hk ?_
   clear hk
   intro a11 hk
   refine cB hk (fun hc26=>?_) (fun hc26=>?_)
   ·rw [hc26] at hk
    have hkl:=rp (pr:=pr) (q.take k)
    rw [List.length_take] at hkl
    refine rgL [4,5] hk ?_
    iterate 3 refine T ?_
    refine rD (.agg #[i6 x.id,i6 x.prio,i6 x.dr,i6 x.bdr,i6 x.state,.bool x.two,i6 x.at_]) (fun _ h_=>rk (lbS 7 (um (i:=2) hS12 rfl hzq) rfl (h_.x hk))) ?_
    refine eF (fun a_ h_=>aZ (e:=90) (cells:=#[i6 x.id,i6 x.prio,i6 x.dr,i6 x.bdr,i6 x.state,.bool x.two,i6 x.at_]) hS12 (ae rfl) rfl (h_.prtL hk) fun g14 w14 hS14 hb14=>⟨_,rfl,?_⟩)
    clear h_ a_ hS12
    clear hb14
    refine eF (fun a_ h_=>sap (bytes:=56) (news:=[i6 x.id,i6 x.prio,i6 x.dr,i6 x.bdr,i6 x.state,.bool x.two,i6 x.at_]) hS14 1 (ae rfl) rfl (h_.x hk) (h_.x hk) (ay (hS14.blk (i:=0) rfl) rfl) (by simp [Value.oneCell']) (by (try unfold maxLen);omega) (by (try unfold maxLen);omega) fun A15 c15 w15 hS15=>⟨_,rfl,?_⟩)
    clear h_ a_ hS14
    replace hS15:=hS15.nz 4
    refine T ?_
    refine rE [1,4,5,7,14,15,18,19,20,21,22,23,24,25,27,28,29,30,31,32] hk ?_
    clear hk
    intro a13 hk
    refine rgL [] hk ?_
    refine rD (i6 (k + 1)) (fun _ h_=>rk (aD rfl (h_.x hk) rfl (by omega) rfl)) ?_
    refine T ?_
    refine rE [1,4,5,7,14,15,18,19,20,21,22,23,24,25,27,28,29,30,31,32,33] hk ?_
    clear hk
    intro a16 hk
    replace hS15:=hS15.drop
    replace hS15:=hS15.fr 2
    replace hS15:=hS15.fr 2
    replace hS15:=hS15.fr 2
    rw [Ab,← rq hzq hc26] at hS15
    have hpl:(pick pr (q.take (k + 1))).length = (pick pr (q.take k)).length + 1:=by rw [rq hzq hc26,List.length_append];rfl
    rw [← hpl] at hS15 hk
    refine ⟨⟨k + 1,_,_,by omega,hk.to,hS15⟩,?_⟩
    show 16 - (intOf (sl a16 15)).toNat < 16 - (intOf (sl a6 15)).toNat
    rw [show sl a16 15 = _ from hk.g,show sl a6 15 = _ from hmu0]
    simp only [intOf]
    omega
   rw [hc26] at hk
   refine wp_skip ?_
   refine rgL [] hk ?_
   refine rD (i6 (k + 1)) (fun _ h_=>rk (aD rfl (h_.x hk) rfl (by omega) rfl)) ?_
   refine T ?_
   refine rE [1,4,5,7,14,15,18,19,20,21,22,23,24,25,33] hk ?_
   clear hk
   intro a17 hk
   replace hS12:=hS12.fr 2
   replace hS12:=hS12.fr 2
   replace hS12:=hS12.fr 2
   rw [← y7 hzq hc26] at hS12 hk
   refine ⟨⟨k + 1,_,_,by omega,hk.to,hS12⟩,?_⟩
   show 16 - (intOf (sl a17 15)).toNat < 16 - (intOf (sl a6 15)).toNat
   rw [show sl a17 15 = _ from hk.g,show sl a6 15 = _ from hmu0]
   simp only [intOf]
   omega
 refine wp_exit ?_
 refine sg [] hk ?_
 iterate 2 refine T ?_
 refine rE [4] hk ?_
 clear hk
 intro a18 hk
 refine wp_ret ?_
 refine rt1 hk (hR_ _ _ ?_)
 obtain rfl:k = 16:=by omega
 rw [List.take_of_length_le (by omega),uo hq1] at hS6
 refine ⟨B,c,by rw [List.take_of_length_le (by omega),uo hq1],?_⟩
 exact (lX hq1 hq16 (hS6.perm (th _ _ _ _))).perm (List.Perm.swap _ _ _)
end
section
set_option maxRecDepth 100000
set_option maxHeartbeats 8000000
theorem y6 {w:World} {B n:Nat} {A:Option Addr} {l:List PeV} (h:Reads w B 7 A n (ab PeV.cells l)):l.length = n:=by have:=h.1;rw [be PeV.cells 7 PeV.cells_len] at this;omega
theorem xn {α:Type} (f:α → Int) (l:List α) (k:Nat) (z:α) (hz:l[k]? = some z):aw ((l.take k).map f) ++ [.int .i64 (f z)] = aw ((l.take (k + 1)).map f):=by
  rw [bp l k z hz,List.map_append];simp [aw]
def fW (p:PeS):List PeV:=peL (fun _=>true) p
def io (now:Int) (x:PeV):Bool:=decide (8 ≤ now - x.at_)
theorem lU (A:Option Addr) (n c:Nat) (l:List PeV) (W:World) (hn:n ≤ 100000) (hR:Reads W W.heap.size 7 A n (ab PeV.cells l)):
    Calls Tryz.prog 201 #[.slice A n c] W (fun r w'=>∃ B d,r = .returned (.slice B n d)∧w'.ownsRow W.heap.size 3 1 (.slice B n d) n (aw (l.map (·.id)))∧Below W.heap.size W w'):=by
 have hS:=S.start W
 refine wK 19 Tryz.func201 (fun R_ hR_ a hk=>?_)
 refine sg [] hk ?_
 refine T ?_
 refine rE [0,2] hk ?_
 clear hk
 intro a2 hk
 refine sg [] hk ?_
 refine T ?_
 refine rE [0,2,3] hk ?_
 clear hk
 intro a3 hk
 refine wp_seq ?_
 refine sg [] hk ?_
 iterate 3 refine T ?_
 refine rE [2,3,6,7,8] hk ?_
 clear hk
 intro a4 hk
 refine wp_block ?_
 refine wp_loop (fun a_ w_=>∃ k:Nat,∃ B:Option Addr,∃ d:Nat,(k ≤ n)∧Fr a_ 19 [(2,.slice none 0 0),(3,.slice B k d),(6,.slice A n c),(7,i6 n),(8,i6 k)]∧S (kap W) ((aa (.slice B k d) 3 1 k (aw ((l.take k).map (·.id))))::[]) ((cA W W.heap.size)::[]) w_) (fun a_ _=>n - (intOf (sl a_ 8)).toNat) ?_ ?_
 ·have hSn:=hS.nilrow 3 1
  exact ⟨0,none,0,Nat.zero_le _,hk.to,hSn⟩
 clear hk hS
 rintro a5 w5 ⟨k,B,d,hc0_0,hk,hS5⟩
 have hmu0:=hk.g (s:=8)
 refine sg [] hk ?_
 refine T ?_
 refine rE [2,3,6,7,8,9] hk ?_
 clear hk
 intro a6 hk
 refine wp_seq ?_
 refine cD hk (fun hc9=>?_) (fun hc9=>?_)
 ·refine wp_skip ?_
  refine wp_seq ?_
  refine wp_block ?_
  refine sg [2,3] hk ?_
  obtain ⟨b8,o8,z8,hA8,hb8,hz8,hq8⟩:=Reads.row_at PeV.cells 7 PeV.cells_len (k:=k) (hR.old (hS5.old (by simp))) (by decide) (by omega)
  refine rD (pt b8 (o8 + k * 7)) (fun _ h_=>rk (az (size:=7) rfl (h_.x hk) hA8 (h_.x hk) (by kernel_rfl) (by omega) (by simp))) ?_
  refine rD (.agg #[i6 z8.id,i6 z8.prio,i6 z8.dr,i6 z8.bdr,i6 z8.state,.bool z8.two,i6 z8.at_]) (fun _ h_=>rk (dT (size:=7) (cs:=PeV.cells z8) rfl (h_.x hk) (by kernel_rfl) rfl hq8)) ?_
  refine eA #[i6 0,i6 0,i6 0,i6 0,i6 0,.bool false,i6 0] hS5 (fun g9 w9 hS9 _=>?_)
  clear hS5
  refine eS 0 hk hS9 (fun w10 hS10 _=>?_)
  clear hS9
  refine rE [2,3,5,6,7,8,10,11] hk ?_
  clear hk
  intro a7 hk
  refine rgL [3,4] hk ?_
  iterate 2 refine T ?_
  refine LD 0 hk hS10 ?_
  refine eF (fun a_ h_=>aZ (e:=3) (cells:=#[i6 z8.id]) hS10 (ae rfl) rfl (h_.prtL hk) fun g12 w12 hS12 hb12=>⟨_,rfl,?_⟩)
  clear h_ a_ hS10
  clear hb12
  refine eF (fun a_ h_=>sap (bytes:=8) (news:=[i6 z8.id]) hS12 2 (ae rfl) rfl (h_.x hk) (h_.x hk) (ay (hS12.blk (i:=0) rfl) rfl) (by simp [Value.oneCell']) (by (try unfold maxLen);omega) (by (try unfold maxLen);omega) fun A13 c13 w13 hS13=>⟨_,rfl,?_⟩)
  clear h_ a_ hS12
  replace hS13:=hS13.nz 3
  refine T ?_
  refine rE [2,3,5,6,7,8,10,11,12,13,14,15,16] hk ?_
  clear hk
  intro a11 hk
  refine rgL [] hk ?_
  refine rD (i6 (k + 1)) (fun _ h_=>rk (aD rfl (h_.x hk) rfl (by omega) rfl)) ?_
  refine T ?_
  refine rE [2,3,5,6,7,8,10,11,12,13,14,15,16,17] hk ?_
  clear hk
  intro a14 hk
  replace hS13:=hS13.fr 1
  replace hS13:=hS13.fr 1
  replace hS13:=hS13.drop.drop
  rw [xn (·.id) l k z8 hz8] at hS13
  refine ⟨⟨k + 1,_,_,by omega,hk.to,hS13⟩,?_⟩
  show n - (intOf (sl a14 8)).toNat < n - (intOf (sl a5 8)).toNat
  rw [show sl a14 8 = _ from hk.g,show sl a5 8 = _ from hmu0]
  simp only [intOf]
  omega
 refine wp_exit ?_
 refine sg [] hk ?_
 iterate 2 refine T ?_
 refine rE [2] hk ?_
 clear hk
 intro a15 hk
 refine wp_ret ?_
 refine rt1 hk (hR_ _ _ ?_)
 obtain rfl:k = n:=by omega
 have hln:=y6 hR
 rw [List.take_of_length_le (by omega)] at hS5
 exact ⟨_,_,rfl,hS5.rowBase (i:=0) rfl (by simp:cA W W.heap.size ∈ _),(hS5.old (by simp))⟩
theorem vG (z:PeV) (W:World):
    Calls Tryz.prog 89 #[.agg #[i6 z.id,i6 z.prio,i6 z.dr,i6 z.bdr,i6 z.state,.bool z.two,i6 z.at_]] W (fun r w'=>r = .returned (.bool true)∧Below W.heap.size W w'):=by
 have hS:=S.start W
 refine wK 3 Tryz.func89 (fun R_ hR_ a hk=>?_)
 refine sg [0] hk ?_
 refine eB hk hS (fun g3 w3 hS3 _=>?_)
 clear hS
 refine T ?_
 refine rE [2] hk ?_
 clear hk
 intro a2 hk
 refine sg [] hk ?_
 refine T ?_
 refine rE [2] hk ?_
 clear hk
 intro a4 hk
 refine wp_ret ?_
 refine rt1 hk (hR_ _ _ ?_)
 exact ⟨rfl,(hS3.old (by simp))⟩
theorem te (z:PeV) (now:Int) (b:Nat) (W:World) (hb:Blk W b 3 #[.int .i64 now]) (h1:0 ≤ now∧now ≤ 1000000000000) (h2:0 ≤ z.at_∧z.at_ ≤ 1000000000000):
    Calls Tryz.prog 202 #[.agg #[i6 z.id,i6 z.prio,i6 z.dr,i6 z.bdr,i6 z.state,.bool z.two,i6 z.at_],pt b 0] W (fun r w'=>r = .returned (.bool (io now z))∧Below W.heap.size W w'):=by
 have hS:=S.start W
 refine wK 9 Tryz.func202 (fun R_ hR_ a hk=>?_)
 refine sg [0] hk ?_
 refine eB hk hS (fun g3 w3 hS3 _=>?_)
 clear hS
 refine T ?_
 refine rE [1,2,3] hk ?_
 clear hk
 intro a2 hk
 refine sg [] hk ?_
 refine rD (i6 now) (fun _ h_=>rk (lb (hb.below (hS3.old (by simp)) hb.lt) rfl (h_.x hk))) ?_
 refine T ?_
 refine LD 0 hk hS3 ?_
 refine rD (i6 (now - z.at_)) (fun _ h_=>rk (gu rfl (h_.x hk) (h_.x hk) (by omega) rfl)) ?_
 iterate 2 refine T ?_
 refine rE [3] hk ?_
 clear hk
 intro a4 hk
 refine wp_ret ?_
 refine rt1 hk (hR_ _ _ ?_)
 exact ⟨rfl,(hS3.old (by simp))⟩
theorem rn (z:PeV) (W:World):
    Calls Tryz.prog 168 #[.agg #[i6 z.id,i6 z.prio,i6 z.dr,i6 z.bdr,i6 z.state,.bool z.two,i6 z.at_]] W (fun r w'=>r = .returned (.bool z.two)∧Below W.heap.size W w'):=by
 have hS:=S.start W
 refine wK 5 Tryz.func168 (fun R_ hR_ a hk=>?_)
 refine sg [0] hk ?_
 refine eB hk hS (fun g3 w3 hS3 _=>?_)
 clear hS
 refine T ?_
 refine rE [1,2] hk ?_
 clear hk
 intro a2 hk
 refine sg [] hk ?_
 refine T ?_
 refine LD 0 hk hS3 ?_
 refine T ?_
 refine rE [2] hk ?_
 clear hk
 intro a4 hk
 refine wp_ret ?_
 refine rt1 hk (hR_ _ _ ?_)
 exact ⟨rfl,(hS3.old (by simp))⟩
theorem cu {κ:Kap} {L I:List Atom} (g:Nat) (p:PeS) (W:World) (hS:S κ (bC g p::L) (I) W):
    Calls Tryz.prog 30 #[pt g 0] W (fun r w'=>∃ B c,r = .returned (.slice B (fW p).length c)∧S κ (aa (.slice B (fW p).length c) 90 7 (fW p).length (ab PeV.cells (fW p))::bC g p::L) I w'):=by
 refine wK 5 Tryz.func30 (fun R_ hR_ a hk=>?_)
 refine sg [] hk ?_
 refine T ?_
 refine rE [0,2] hk ?_
 clear hk
 intro a2 hk
 refine sg [1] hk ?_
 refine T ?_
 have hSp:=hS
 clear hS
 refine eC hk (h:=ga g 89 #[] (fun _=>true) p _ (fun L' w z hz h=>vG z w) (fun _ _=>by kernel_rfl) hSp) (k:=?_)
 rintro e_ w4 ⟨B4,c4,rfl,hS4⟩
 refine ⟨_,rfl,?_⟩
 clear hSp
 replace hS4:=hS4.nz 2
 refine T ?_
 refine rE [2] hk ?_
 clear hk
 intro a3 hk
 refine wp_ret ?_
 refine rt1 hk (hR_ _ _ ?_)
 exact ⟨_,_,rfl,hS4⟩
theorem pU (pr:PeV → Bool) (p:PeS):(peL pr p).length ≤ p.l.length:=by
  unfold peL;exact List.length_filterMap_le _ _
theorem nv {κ:Kap} {L I:List Atom} {w:World} {g:Nat} {p:PeS} (h:S κ (bC g p::L) I w):p.l.length = 16:=by
  obtain ⟨q,h1,h2,_⟩:=nw h
  rw [← h1,List.length_map];exact h2
theorem n8 {κ:Kap} {L I:List Atom} (g:Nat) (now:Int) (p:PeS) (W:World) (hnow:0 ≤ now∧now ≤ 1000000000000) (hat:∀ z,some z ∈ p.l → 0 ≤ z.at_∧z.at_ ≤ 1000000000000) (hS:S κ (bC g p::L) (I) W):
    Calls Tryz.prog 120 #[pt g 0,i6 now] W (fun r w'=>∃ B c,r = .returned (.slice B (peL (io now) p).length c)∧S κ (aa (.slice B (peL (io now) p).length c) 3 1 (peL (io now) p).length (aw ((peL (io now) p).map (·.id)))::bC g p::L) I w'):=by
 have hp16:=nv hS
 refine wK 9 Tryz.func120 (fun R_ hR_ a hk=>?_)
 refine sg [0] hk ?_
 refine eB hk hS (fun g3 w3 hS3 _=>?_)
 clear hS
 refine T ?_
 refine rE [0,3,4] hk ?_
 clear hk
 intro a2 hk
 refine sg [2,3] hk ?_
 refine T ?_
 refine rD (.func (.func 202) #[] #[pt g3 0]) (fun _ h_=>rk (bu rfl (by simp) (h_.map hk))) ?_
 have hSp:=hS3
 clear hS3
 replace hSp:=hSp.freeze
 refine eC hk (h:=ga g 202 #[pt g3 0] (io now) p _ (fun L' w z hz h=>te z now _ w (h.blkI (i:=0) rfl) hnow (hat z hz)) (fun _ _=>by kernel_rfl) hSp) (k:=?_)
 rintro e_ w5 ⟨B5,c5,rfl,hS5⟩
 refine ⟨_,rfl,?_⟩
 clear hSp
 replace hS5:=hS5.dropI
 replace hS5:=hS5.nz 2
 refine eC hk (h:=(lU _ _ _ (peL (io now) p) _ (show (peL (io now) p).length ≤ 100000 by have:=pU (io now) p;omega) (hS5.rd (i:=0) rfl))) (k:=?_)
 rintro e w6 ⟨B6,d6,rfl,ho6,hb6⟩
 refine ⟨_,rfl,?_⟩
 have hS6:=hS5.pushRow hb6 ho6
 clear hS5
 refine T ?_
 refine rE [4] hk ?_
 clear hk
 intro a4 hk
 refine wp_ret ?_
 refine rt1 hk (hR_ _ _ ?_)
 replace hS6:=hS6.fr 1
 replace hS6:=hS6.drop
 replace hS6:=hS6.fr 1
 replace hS6:=hS6.fr 1
 exact ⟨_,_,rfl,hS6⟩
theorem n9 {κ:Kap} {L I:List Atom} (g:Nat) (p:PeS) (W:World) (hS:S κ (bC g p::L) (I) W):
    Calls Tryz.prog 197 #[pt g 0] W (fun r w'=>∃ B c,r = .returned (.slice B (peL (fun _=>true) p).length c)∧S κ (aa (.slice B (peL (fun _=>true) p).length c) 3 1 (peL (fun _=>true) p).length (aw ((peL (fun _=>true) p).map (·.id)))::bC g p::L) I w'):=by
 have hp16:=nv hS
 refine wK 6 Tryz.func197 (fun R_ hR_ a hk=>?_)
 refine sg [] hk ?_
 refine T ?_
 refine rE [0,2] hk ?_
 clear hk
 intro a2 hk
 refine sg [1,2] hk ?_
 refine T ?_
 have hSp:=hS
 clear hS
 refine eC hk (h:=cu g p _ hSp) (k:=?_)
 rintro e_ w4 ⟨B4,c4,rfl,hS4⟩
 refine ⟨_,rfl,?_⟩
 clear hSp
 replace hS4:=hS4.nz 2
 refine eC hk (h:=(lU _ _ _ (peL (fun _=>true) p) _ (show (peL (fun _=>true) p).length ≤ 100000 by have:=pU (fun _=>true) p;omega) (hS4.rd (i:=0) rfl))) (k:=?_)
 rintro e w5 ⟨B5,d5,rfl,ho5,hb5⟩
 refine ⟨_,rfl,?_⟩
 have hS5:=hS4.pushRow hb5 ho5
 clear hS4
 refine T ?_
 refine rE [2] hk ?_
 clear hk
 intro a3 hk
 refine wp_ret ?_
 refine rt1 hk (hR_ _ _ ?_)
 replace hS5:=hS5.fr 1
 replace hS5:=hS5.drop
 replace hS5:=hS5.fr 1
 replace hS5:=hS5.fr 1
 exact ⟨_,_,rfl,hS5⟩
end
section
def mN (x:PeV):CdV:=⟨x.id,x.prio,x.dr,x.bdr⟩
def jk (p:PeS):List CdV:=(peL (·.two) p).map mN
theorem wI (l:List PeV) (k:Nat) (z:PeV) (hz:l[k]? = some z):ab CdV.cells ((l.take k).map mN) ++ [i6 z.id,i6 z.prio,i6 z.dr,i6 z.bdr] = ab CdV.cells ((l.take (k + 1)).map mN):=by
  rw [bp l k z hz,List.map_append];simp [ab,CdV.cells,mN]
set_option maxRecDepth 100000 in
set_option maxHeartbeats 8000000 in
theorem iB {κ:Kap} {L I:List Atom} (g:Nat) (p:PeS) (W:World) (hS:S κ (bC g p::L) (I) W):
    Calls Tryz.prog 85 #[pt g 0] W (fun r w'=>∃ B c,r = .returned (.slice B (jk p).length c)∧S κ (aa (.slice B (jk p).length c) 161 4 (jk p).length (ab CdV.cells (jk p))::bC g p::L) I w'):=by
 have hp16:=nv hS
 refine wK 27 Tryz.func85 (fun R_ hR_ a hk=>?_)
 refine sg [] hk ?_
 refine T ?_
 refine rE [0,2] hk ?_
 clear hk
 intro a2 hk
 refine sg [] hk ?_
 refine T ?_
 refine rE [0,2,3] hk ?_
 clear hk
 intro a3 hk
 refine wp_seq ?_
 refine sg [1] hk ?_
 refine T ?_
 have hSp:=hS
 clear hS
 refine eC hk (h:=ga g 168 #[] (·.two) p _ (fun L' w z hz h=>rn z w) (fun _ _=>by kernel_rfl) hSp) (k:=?_)
 rintro e_ w5 ⟨B5,c5,rfl,hS5⟩
 refine ⟨_,rfl,?_⟩
 clear hSp
 replace hS5:=hS5.nz 2
 iterate 2 refine T ?_
 refine rE [2,3,7,8,9] hk ?_
 clear hk
 intro a4 hk
 refine wp_block ?_
 refine wp_loop (fun a_ w_=>∃ k:Nat,∃ B:Option Addr,∃ d:Nat,(k ≤ (peL (·.two) p).length)∧Fr a_ 27 [(2,.slice none 0 0),(3,.slice B k d),(7,.slice B5 ((peL (·.two) p).length) c5),(8,i6 (((peL (·.two) p).length:Nat):Int)),(9,i6 k)]∧S κ ((aa (.slice B k d) 161 4 k (ab CdV.cells (((peL (·.two) p).take k).map mN)))::(aa (.slice B5 ((peL (·.two) p).length) c5) 90 7 ((peL (·.two) p).length) (ab PeV.cells (peL (·.two) p)))::bC g p::L) (I) w_) (fun a_ _=>(peL (·.two) p).length - (intOf (sl a_ 9)).toNat) ?_ ?_
 ·have hSn:=hS5.nilrow 161 4
  replace hSn:=hSn.fr 2
  replace hSn:=hSn.fr 2
  replace hSn:=hSn.fr 2
  exact ⟨0,none,0,Nat.zero_le _,hk.to,hSn⟩
 clear hk hS5
 rintro a6 w6 ⟨k,B,d,hc0_0,hk,hS6⟩
 have hmu0:=hk.g (s:=9)
 refine sg [] hk ?_
 refine T ?_
 refine rE [2,3,7,8,9,10] hk ?_
 clear hk
 intro a7 hk
 refine wp_seq ?_
 refine cD hk (fun hc10=>?_) (fun hc10=>?_)
 ·refine wp_skip ?_
  refine wp_seq ?_
  refine wp_block ?_
  refine sg [2,3] hk ?_
  obtain ⟨b9,o9,z9,hA9,hb9,hz9,hq9⟩:=Reads.row_at PeV.cells 7 PeV.cells_len (k:=k) (hS6.rd (i:=1) rfl) (by decide) (by omega)
  refine rD (pt b9 (o9 + k * 7)) (fun _ h_=>rk (az (size:=7) rfl (h_.x hk) hA9 (h_.x hk) (by kernel_rfl) (by omega) (by simp))) ?_
  refine rD (.agg #[i6 z9.id,i6 z9.prio,i6 z9.dr,i6 z9.bdr,i6 z9.state,.bool z9.two,i6 z9.at_]) (fun _ h_=>rk (dT (size:=7) (cs:=PeV.cells z9) rfl (h_.x hk) (by kernel_rfl) rfl hq9)) ?_
  refine eA #[i6 0,i6 0,i6 0,i6 0,i6 0,.bool false,i6 0] hS6 (fun g10 w10 hS10 _=>?_)
  clear hS6
  refine eS 0 hk hS10 (fun w11 hS11 _=>?_)
  clear hS10
  refine rE [2,3,5,7,8,9,11,12] hk ?_
  clear hk
  intro a8 hk
  have hpl:=pU (·.two) p
  refine rgL [10,11] hk ?_
  iterate 2 refine T ?_
  refine LD 0 hk hS11 ?_
  refine T ?_
  refine LD 0 hk hS11 ?_
  refine T ?_
  refine LD 0 hk hS11 ?_
  refine T ?_
  refine LD 0 hk hS11 ?_
  refine rD (.agg #[i6 z9.id,i6 z9.prio,i6 z9.dr,i6 z9.bdr]) (fun _ h_=>rk (af rfl (h_.prt hk) (by kernel_rfl))) ?_
  refine eF (fun a_ h_=>aZ (e:=161) (cells:=#[i6 z9.id,i6 z9.prio,i6 z9.dr,i6 z9.bdr]) hS11 (ae rfl) rfl (h_.prtL hk) fun g13 w13 hS13 hb13=>⟨_,rfl,?_⟩)
  clear h_ a_ hS11
  clear hb13
  refine eF (fun a_ h_=>sap (bytes:=32) (news:=[i6 z9.id,i6 z9.prio,i6 z9.dr,i6 z9.bdr]) hS13 2 (ae rfl) rfl (h_.x hk) (h_.x hk) (ay (hS13.blk (i:=0) rfl) rfl) (by simp [Value.oneCell']) (by (try unfold maxLen);omega) (by (try unfold maxLen);omega) fun A14 c14 w14 hS14=>⟨_,rfl,?_⟩)
  clear h_ a_ hS13
  replace hS14:=hS14.nz 5
  refine T ?_
  refine rE [2,3,5,7,8,9,11,12,13,14,15,16,17,18,19,20,21,22,23,24] hk ?_
  clear hk
  intro a12 hk
  refine rgL [] hk ?_
  refine rD (i6 (k + 1)) (fun _ h_=>rk (aD rfl (h_.x hk) rfl (by omega) rfl)) ?_
  refine T ?_
  refine rE [2,3,5,7,8,9,11,12,13,14,15,16,17,18,19,20,21,22,23,24,25] hk ?_
  clear hk
  intro a15 hk
  replace hS14:=hS14.fr 1
  replace hS14:=hS14.fr 1
  replace hS14:=hS14.drop.drop
  replace hS14:=hS14.fr 2
  replace hS14:=hS14.fr 2
  replace hS14:=hS14.fr 2
  rw [wI (peL (·.two) p) k z9 hz9] at hS14
  refine ⟨⟨k + 1,_,_,by omega,hk.to,hS14⟩,?_⟩
  show (peL (·.two) p).length - (intOf (sl a15 9)).toNat < (peL (·.two) p).length - (intOf (sl a6 9)).toNat
  rw [show sl a15 9 = _ from hk.g,show sl a6 9 = _ from hmu0]
  simp only [intOf]
  omega
 refine wp_exit ?_
 refine sg [] hk ?_
 iterate 2 refine T ?_
 refine rE [2] hk ?_
 clear hk
 intro a16 hk
 refine wp_ret ?_
 refine rt1 hk (hR_ _ _ ?_)
 replace hS6:=hS6.fr 1
 replace hS6:=hS6.drop
 replace hS6:=hS6.fr 1
 replace hS6:=hS6.fr 1
 have hkn:k = (peL (·.two) p).length:=by omega
 have hcl:(jk p).length = k:=by rw [jk,List.length_map,hkn]
 rw [List.take_of_length_le (by omega)] at hS6
 refine ⟨B,d,by rw [hcl],?_⟩
 rw [hcl];exact hS6
end
section
def js (p:PeS):List Int:=(fW p).map (·.id)
def ne (now:Int) (p:PeS):List Int:=(peL (io now) p).map (·.id)
def PeOk (p:PeS):Prop:=(p.l.all fun z=>match z with | none=>true | some x=>decide (0 ≤ x.at_∧x.at_ ≤ 1000000000000)) = true
instance {p:PeS}:Decidable (PeOk p):=by unfold PeOk;infer_instance
theorem PeOk.at {p:PeS} (h:PeOk p) {x:PeV} (hx:some x ∈ p.l):0 ≤ x.at_∧x.at_ ≤ 1000000000000:=by
  have:=List.all_eq_true.1 h _ hx
  simpa using this
section
variable {κ:Kap} {L I:List Atom} (g:Nat) (p:PeS) (W:World)
theorem gR (hS:S κ (bC g p::L) I W):Calls Tryz.prog 197 #[pt g 0] W (fun r w'=>∃ B0 d0,r = .returned (.slice B0 (js p).length d0)∧S κ (aa (.slice B0 (js p).length d0) 3 1 (js p).length (aw (js p))::bC g p::L) I w'):=by
  have e:(js p).length = (peL (fun _=>true) p).length:=List.length_map ..
  rw [e];exact n9 g p W hS
theorem tf (now:Int) (hn:0 ≤ now∧now ≤ 1000000000000) (hp:PeOk p) (hS:S κ (bC g p::L) I W):Calls Tryz.prog 120 #[pt g 0,i6 now] W (fun r w'=>∃ B0 d0,r = .returned (.slice B0 (ne now p).length d0)∧S κ (aa (.slice B0 (ne now p).length d0) 3 1 (ne now p).length (aw (ne now p))::bC g p::L) I w'):=by
  have e:(ne now p).length = (peL (io now) p).length:=List.length_map ..
  rw [e];exact n8 g now p W hn (fun z hz=>hp.at hz) hS
end
end
section
def ql:((List (Int × List HD))):=[]
set_option maxRecDepth 100000 in
set_option maxHeartbeats 8000000 in
theorem lH {κ:Kap} {L I:List Atom}  (W:World) (hS:S κ (L) (I) W):
    Calls Tryz.prog 84 #[] W (fun r w'=>∃ G0:Nat,r = .returned (pt G0 0)∧S κ ((dL G0 ql)::L) (I) w'):=by
 generalize ht:ql = t_
 refine wK 4 Tryz.func84 (fun R_ hR_ a hk=>?_)
 refine sg [] hk ?_
 refine T ?_
 refine rE [] hk fun a hk=>?_
 refine sg [0,2] hk ?_
 refine eF (fun a_ h_=>bV (α:=Int) (β:=List HD × SlP) hdMF.ek hdMF.ev hS (ae rfl) rfl fun g2 w hS _=>⟨_,rfl,?_⟩)
 replace hS:=kj hS
 refine rD (.agg #[.map (some g2)]) (fun _ h_=>rk (af rfl (h_.prt hk) (by kernel_rfl))) ?_
 refine eB hk hS (fun g3 w hS _=>?_)
 refine T ?_
 refine rE [0] hk fun a hk=>?_
 refine wp_ret ?_
 replace hS:=gC hS
 subst ht
 exact rt1 hk (hR_ _ _ ⟨_,rfl,hS⟩)
end
section
structure HsV where
  hs:List HD
def xj:CFn HsV SlP 1:=⟨fun x p=>[.slice p.A x.hs.length p.c],fun x p=>[aa (.slice p.A x.hs.length p.c) 63 7 x.hs.length (ab aH x.hs)],fun _ _=>rfl,fun x p u hu=>by
  simp only [List.mem_cons,List.not_mem_nil,or_false] at hu
  rcases hu with rfl <;> rfl⟩
def pW (l:List HD):Option ((List HsV)):=if (0:Int) < ((l.length:Nat):Int) then none else some []
set_option maxRecDepth 100000 in
set_option maxHeartbeats 8000000 in
theorem nx {κ:Kap} {L I:List Atom} (l:List HD) (lA:Option Addr) (lc:Nat) (n:Int) (W:World) {r_:(List HsV)} (ht:(pW l) = some r_) (hS:S κ (L) (aa (.slice lA l.length lc) 63 7 l.length (ab aH l)::I) W):
    Calls Tryz.prog 99 #[.slice lA l.length lc,i6 n] W (fun r w'=>∃ B0 d0,r = .returned (.slice B0 r_.length d0)∧S κ (crA xj 50 B0 d0 r_::L) (aa (.slice lA l.length lc) 63 7 l.length (ab aH l)::I) w'):=by
 refine wK 26 Tryz.func99 (fun R_ hR_ a hk=>?_)
 refine sg [] hk ?_
 refine T ?_
 refine rE [0,1] hk fun a hk=>?_
 refine sg [] hk ?_
 refine T ?_
 refine rE [0,1,5] hk fun a hk=>?_
 refine wp_seq ?_
 refine wp_block ?_
 refine wp_loop (fun a_ w_=>Fr a_ 26 [(0,.slice lA l.length lc),(1,i6 n),(5,.slice none 0 0)]∧S κ (L) (aa (.slice lA l.length lc) 63 7 l.length (ab aH l)::I) w_) (fun _ _=>0) ?_ ?_
 ·exact ⟨hk.to,hS⟩
 clear hk hS
 rintro a w ⟨hk,hS⟩
 refine wp_seq ?_
 refine sg [] hk ?_
 iterate 3 refine T ?_
 refine rE [0,1,5,8] hk fun a hk=>?_
 refine cD hk (fun hc8=>?_) (fun hc8=>?_)
 ·replace ht:=(if_pos hc8).symm.trans ht
  refine wp_skip ?_
  refine wp_seq ?_
  refine wp_block ?_
  cases ht
 replace ht:=(if_neg hc8).symm.trans ht
 refine wp_exit ?_
 refine sg [] hk ?_
 iterate 2 refine T ?_
 refine rE [4] hk fun a hk=>?_
 refine wp_ret ?_
 replace hS:=hS.crNil xj 50
 replace hS:=hS.nz 1
 obtain rfl:=Option.some.inj ht
 exact rt1 hk (hR_ _ _ ⟨_,_,rfl,hS⟩)
def kM (lan:Int) (l:List (Int × List HD)):Option ((List HsV) × (List (Int × List HD))):=ji (au lan l) (aJ (pW []) fun q6=>some (q6,bS lan l)) fun v4=>aJ (pW v4) fun q9=>some (q9,bS lan l)
set_option maxRecDepth 100000 in
set_option maxHeartbeats 8000000 in
theorem px {κ:Kap} {L I:List Atom} (g:Nat) (lan:Int) (l:List (Int × List HD)) (W:World) {r_:(List HsV) × (List (Int × List HD))} (ht:(kM lan l) = some r_) (hS:S κ ((dL g l)::L) (I) W):
    Calls Tryz.prog 37 #[pt g 0,i6 lan] W (fun r w'=>∃ B0 d0,r = .returned (.slice B0 r_.1.length d0)∧S κ (crA xj 50 B0 d0 r_.1::(dL g r_.2)::L) (I) w'):=by
 refine wK 21 Tryz.func37 (fun R_ hR_ a hk=>?_)
 refine sg [] hk ?_
 refine T ?_
 refine rE [0,1] hk fun a hk=>?_
 refine wp_seq ?_
 refine sg [] hk ?_
 refine T ?_
 refine rD (.bool false) (fun _ h_=>rk (aq rfl (h_.x hk) rfl (fun _=>by kernel_rfl) (fun _=>rfl))) ?_
 refine rE [0,1,7] hk fun a hk=>?_
 refine cF hk ?_
 refine wp_skip ?_
 refine sg [6] hk ?_
 iterate 3 refine T ?_
 obtain ⟨m2,hS⟩:=uR hS
 refine LD 0 hk hS ?_
 refine T ?_
 replace hS:=hS.fr 1
 obtain ⟨q3,hq3,hS⟩:=cd (F:=hdMF) hS
 rcases hl4:au lan q3 with _ | ⟨v4,p4⟩
 ·replace ht:=(fG (ir hq3 hl4)).symm.trans ht
  refine rD (.slice none 0 0) (fun _ h_=>rk (lw (E:=50) (z:=(.slice none 0 0)) lan mt (hS.mapAt (i:=0) rfl) rfl (h_.x hk) (h_.x hk) (by rw [hl4];rfl))) ?_
  have hS:=hS.nilrow 63 7
  replace hS:S κ (aa (.slice none 0 0) 63 7 0 (ab aH [])::bq hdMF.ek hdMF.ev m2 q3::(dI hdMF q3)::ai g 178 #[.map (some m2)]::L) (I) W:=hS
  obtain ⟨J5,hS,hJ5⟩:=S.lend (M:=[_]) hS
  obtain ⟨q6,hq6,ht⟩:=ao ht
  refine eC hk (h:=nx [] none 0 3 _ hq6 hS) (k:=?_)
  rintro _ w ⟨B06,d06,rfl,hS⟩
  refine ⟨_,rfl,?_⟩
  replace hS:=hJ5 _ _ hS
  replace hS:=hS.nz 5
  refine T ?_
  refine rE [0,1,5] hk fun a hk=>?_
  refine sg [5] hk ?_
  iterate 3 refine T ?_
  refine LD 4 hk hS ?_
  refine T ?_
  refine eF (fun a_ h_=>lB (E:=50) 2 lan mt hS (ae rfl) rfl (h_.x hk) (h_.x hk) fun w hS=>⟨_,rfl,?_⟩)
  replace hS:=hS.nz 5
  replace hS:=hS.fr 3
  replace hS:=pS (F:=hdMF) (x:=lan) hS
  have hq7:=ni hq3 lan
  replace hS:=hS.pk [3,0] 0
  replace hS:=bd (F:=hdMF) hq7 hS
  refine rE [5] hk fun a hk=>?_
  refine sg [] hk ?_
  iterate 2 refine T ?_
  refine rE [4] hk fun a hk=>?_
  refine wp_ret ?_
  replace hS:=hS.pk [3,0] 0
  replace hS:=gC hS
  replace hS:=hS.pk [2,0] 1
  obtain rfl:=Option.some.inj ht
  exact rt1 hk (hR_ _ _ ⟨_,_,rfl,hS⟩)
 ·replace ht:=(fH (cC hq3 hl4)).symm.trans ht
  replace hS:=hS.fr 1
  replace hS:=pR (F:=hdMF) hl4 hS
  replace hS:=hS.nz 4
  refine rD (.slice p4.A v4.length p4.c) (fun _ h_=>rk (lw (E:=50) (z:=(.slice none 0 0)) lan mt (hS.mapAt (i:=2) rfl) rfl (h_.x hk) (h_.x hk) (by rw [hl4];rfl))) ?_
  obtain ⟨J8,hS,hJ8⟩:=S.lend (M:=[_]) hS
  obtain ⟨q9,hq9,ht⟩:=ao ht
  refine eC hk (h:=nx v4 p4.A p4.c 3 _ hq9 hS) (k:=?_)
  rintro _ w ⟨B09,d09,rfl,hS⟩
  refine ⟨_,rfl,?_⟩
  replace hS:=hJ8 _ _ hS
  replace hS:=hS.nz 5
  refine T ?_
  refine rE [0,1,5] hk fun a hk=>?_
  refine sg [5] hk ?_
  iterate 3 refine T ?_
  refine LD 4 hk hS ?_
  refine T ?_
  replace hS:=hS.pk [0,1] 0
  replace hS:=iq (F:=hdMF) (x:=lan) (v:=v4) (p:=p4) hS
  replace hS:=hS.pk [2] 0
  replace hS:=jJ (ku (v':=(v4,p4)) rfl hl4) hS
  have hq10:=nj (p':=p4) hq3 hl4
  refine eF (fun a_ h_=>lB (E:=50) 0 lan mt hS (ae rfl) rfl (h_.x hk) (h_.x hk) fun w hS=>⟨_,rfl,?_⟩)
  replace hS:=hS.nz 4
  replace hS:=hS.fr 1
  replace hS:=pS (F:=hdMF) (x:=lan) hS
  have hq11:=ni hq10 lan
  replace hS:=hS.pk [1,0] 0
  replace hS:=bd (F:=hdMF) hq11 hS
  refine rE [5] hk fun a hk=>?_
  refine sg [] hk ?_
  iterate 2 refine T ?_
  refine rE [4] hk fun a hk=>?_
  refine wp_ret ?_
  replace hS:=hS.pk [2,0] 0
  replace hS:=gC hS
  replace hS:=hS.pk [1,0] 0
  obtain rfl:=Option.some.inj ht
  exact rt1 hk (hR_ _ _ ⟨_,_,rfl,hS⟩)
end
section
section
variable {α β:Type}
theorem mu [DecidableEq α] {l:List (α × β)} (hn:(l.map (·.1)).Nodup) {p e:α × β} (hp:p ∈ l) (he:e ∈ l) (h:p.1 = e.1):p = e:=by
  obtain ⟨i,hi⟩:=List.mem_iff_getElem?.1 hp
  obtain ⟨j,hj⟩:=List.mem_iff_getElem?.1 he
  have h1:(l.map (·.1))[i]? = some e.1:=by rw [List.getElem?_map,hi,← h];rfl
  have h2:(l.map (·.1))[j]? = some e.1:=by rw [List.getElem?_map,hj];rfl
  have:=(List.getElem?_inj (List.getElem?_eq_some_iff.1 h1).1 hn).1 (h1.trans h2.symm)
  subst this
  rw [hi] at hj;cases hj;rfl
theorem oB [DecidableEq α] {l:List (α × β)} (hn:(l.map (·.1)).Nodup) (is:α × β → Bool):∀ es:List (α × β),(∀ e ∈ es,e ∈ l) → es.foldr (fun e v=>if is e = true then bS e.1 v else v) l = l.filter fun p=>!(is p && decide (p.1 ∈ es.map (·.1)))
  | [],_=>(List.filter_eq_self.2 fun p _=>by simp).symm
  | e::es,h=>by
    rw [List.foldr_cons,oB hn is es fun x hx=>h x (List.mem_cons_of_mem _ hx)]
    have he:=h e (List.mem_cons_self ..)
    split
    · rename_i hi
      rw [ig (hn.sublist (List.filter_sublist.map _)),List.filter_filter]
      refine List.filter_congr fun p hp=>?_
      by_cases hk:p.1 = e.1
      · have:=mu hn hp he hk
        subst this
        simp [hi]
      · have h3:(p.1 ∈ (e::es).map (·.1)) ↔ (p.1 ∈ es.map (·.1)):=by
          rw [List.map_cons,List.mem_cons];exact ⟨fun h=>h.resolve_left hk,.inr⟩
        simp only [h3,ne_eq,hk,not_false_eq_true,decide_true,Bool.true_and,Bool.and_true]
    · rename_i hi
      refine List.filter_congr fun p hp=>?_
      by_cases hk:p.1 = e.1
      · have:=mu hn hp he hk
        subst this
        simp [hi]
      · have h3:(p.1 ∈ (e::es).map (·.1)) ↔ (p.1 ∈ es.map (·.1)):=by
          rw [List.map_cons,List.mem_cons];exact ⟨fun h=>h.resolve_left hk,.inr⟩
        simp only [h3,ne_eq,hk,not_false_eq_true,decide_true,Bool.true_and,Bool.and_true]
theorem n4 [DecidableEq α] {l es:List (α × β)} (hn:(l.map (·.1)).Nodup) (is:α × β → Bool) (hp:es.Perm l):es.foldr (fun e v=>if is e = true then bS e.1 v else v) l = l.filter fun p=>!is p:=by
  rw [oB hn is es fun e he=>hp.mem_iff.1 he]
  refine List.filter_congr fun p h=>?_
  have:p.1 ∈ es.map (·.1):=List.mem_map_of_mem (hp.mem_iff.2 h)
  simp [this]
theorem mV [DecidableEq α] {γ:Type} (is:α × β → Bool) (f:α × β → γ):∀ es:List (α × β),(es.foldr (fun e v=>if is e = true then v ++ [f e] else v) []).Perm ((es.filter is).map f)
  | []=>List.Perm.refl _
  | e::es=>by
    rw [List.foldr_cons]
    split
    · rename_i hi
      rw [List.filter_cons_of_pos hi,List.map_cons]
      exact List.perm_append_comm.trans (List.Perm.cons _ (mV is f es))
    · rename_i hi
      rw [List.filter_cons_of_neg hi]
      exact mV is f es
end
theorem mW {α β γ:Type} (f:α → β → β) (g:α → γ → γ) (b:β) (c:γ):∀ l:List α,l.foldr (fun e x=>(f e x.1,g e x.2)) (b,c) = (l.foldr f b,l.foldr g c)
  | []=>rfl
  | e::l=>by rw [List.foldr_cons,mW f g b c l];rfl
end
section
section
variable {α β:Type} {v l:List (α × β)} {ks:List α} {x:α} {u:β}
theorem pN [DecidableEq α] {p:α × β}:∀ {l:List (α × β)},p ∈ l → (au p.1 l).isSome = true
  | (k,w)::l,h=>by
    unfold au
    split
    · rfl
    · rename_i hk
      rcases List.mem_cons.1 h with rfl | h
      · exact absurd rfl hk
      · exact pN h
theorem uq [DecidableEq α] {e:α × β}:∀ {v:List (α × β)},e ∈ aV x u v → e = (x,u) ∨ e ∈ v
  | [],h=>.inl (List.mem_singleton.1 h)
  | (k,w)::v,h=>by
    unfold aV at h
    split at h
    · rcases List.mem_cons.1 h with h | h
      · exact .inl h
      · exact .inr (List.mem_cons_of_mem _ h)
    · rcases List.mem_cons.1 h with h | h
      · exact .inr (h ▸ List.mem_cons_self ..)
      · exact (uq h).imp id (List.mem_cons_of_mem _)
theorem nE [DecidableEq α] {e:α × β} (hx:e.1 ≠ x):∀ {v:List (α × β)},e ∈ v → e ∈ aV x u v
  | (k,w)::v,h=>by
    unfold aV
    rcases List.mem_cons.1 h with rfl | h
    · rw [if_neg fun h=>hx h.symm];exact List.mem_cons_self ..
    · split
      · exact List.mem_cons_of_mem _ h
      · exact List.mem_cons_of_mem _ (nE hx h)
theorem tv [DecidableEq α] (h:∀ e ∈ v,e.1 ∉ ks → e ∈ l):∀ e ∈ aV x u v,e.1 ∉ x::ks → e ∈ l:=fun e he hn=>by
  rcases uq he with rfl | he
  · exact absurd (List.mem_cons_self ..) hn
  · exact h e he fun h1=>hn (List.mem_cons_of_mem _ h1)
theorem nH [DecidableEq α] (h:∀ e ∈ l,e.1 ∉ ks → e ∈ v):∀ e ∈ l,e.1 ∉ x::ks → e ∈ aV x u v:=fun e he hn=>nE (fun h1=>hn (h1 ▸ List.mem_cons_self ..)) (gV h e he hn)
theorem ur [DecidableEq α] {x k:α} {u w:β} {v:List (α × β)} (h:x ≠ k):aV x u ((k,w)::v) = (k,w)::aV x u v:=by
  show (if x = k then _ else _) = _
  rw [if_neg h]
theorem iY [DecidableEq α] {l:List (α × β)} (hn:(l.map (·.1)).Nodup) (f:α × β → β):∀ es:List (α × β),(es.map (·.1)).Nodup → (∀ e ∈ es,e ∈ l) → es.foldr (fun e v=>aV e.1 (f e) v) l = l.map fun p=>(p.1,if p.1 ∈ es.map (·.1) then f p else p.2)
  | [],_,_=>by
    rw [List.foldr_nil]
    refine (List.map_id' l).symm.trans (List.map_congr_left fun p _=>?_)
    simp
  | e::es,hd,h=>by
    have hd':=List.nodup_cons.1 hd
    rw [List.foldr_cons,iY hn f es hd'.2 fun x hx=>h x (List.mem_cons_of_mem _ hx)]
    have he:=h e (List.mem_cons_self ..)
    have key:∀ m:List (α × β),(∀ p ∈ m,p ∈ l) → (m.map (·.1)).Nodup → (e ∈ m → aV e.1 (f e) (m.map fun p=>(p.1,if p.1 ∈ es.map (·.1) then f p else p.2)) = m.map fun p=>(p.1,if p.1 ∈ (e::es).map (·.1) then f p else p.2))∧(e ∉ m → (m.map fun p=>(p.1,if p.1 ∈ es.map (·.1) then f p else p.2)) = m.map fun p=>(p.1,if p.1 ∈ (e::es).map (·.1) then f p else p.2)):=by
      intro m
      induction m with
      | nil=>intro _ _;exact ⟨fun h=>(by cases h),fun _=>rfl⟩
      | cons p m ih=>
        intro hm hnd
        have hnd':=List.nodup_cons.1 hnd
        obtain ⟨i1,i2⟩:=ih (fun q hq=>hm q (List.mem_cons_of_mem _ hq)) hnd'.2
        have hne:e ≠ p → p.1 ≠ e.1:=fun hne hk=>hne (mu hn he (hm p (List.mem_cons_self ..)) hk.symm)
        refine ⟨fun hmem=>?_,fun hmem=>?_⟩
        · by_cases hep:e = p
          · subst hep
            have hnm:e ∉ m:=fun h'=>hnd'.1 (List.mem_map_of_mem h')
            rw [List.map_cons,List.map_cons,← i2 hnm]
            unfold aV
            rw [if_pos rfl]
            simp
          · have hpe:=hne hep
            have hmm:e ∈ m:=(List.mem_cons.1 hmem).resolve_left hep
            rw [List.map_cons,List.map_cons,← i1 hmm,ur (fun h=>hpe h.symm)]
            have e2:(p.1 ∈ (e::es).map (·.1)) ↔ (p.1 ∈ es.map (·.1)):=by rw [List.map_cons,List.mem_cons];exact ⟨fun h=>h.resolve_left hpe,.inr⟩
            simp only [e2]
        · have hep:e ≠ p:=fun h'=>hmem (h' ▸ List.mem_cons_self ..)
          have hpe:=hne hep
          rw [List.map_cons,List.map_cons,← i2 fun h'=>hmem (List.mem_cons_of_mem _ h')]
          have e2:(p.1 ∈ (e::es).map (·.1)) ↔ (p.1 ∈ es.map (·.1)):=by rw [List.map_cons,List.mem_cons];exact ⟨fun h=>h.resolve_left hpe,.inr⟩
          simp only [e2]
    exact (key l (fun p hp=>hp) hn).1 he
end
end
section
def dbQ (g:Nat) (rm:Int) (q0 q:List (KeyV × LV × LP)):Atom:=exA fun m=>bi [ai g 192 #[.int .i64 rm,.map (some m)],bq dZ lsMF.ev m q,dI lsMF q0]
section
variable {κ:Kap} {L I:List Atom} {w:World} {g:Nat} {rm:Int} {q0 q:List (KeyV × LV × LP)}
theorem qC (h:S κ (dbQ g rm q0 q::L) I w):∃ m,S κ (ai g 192 #[.int .i64 rm,.map (some m)]::bq dZ lsMF.ev m q::dI lsMF q0::L) I w:=by
  obtain ⟨m,h⟩:=h.ex_open
  exact ⟨m,h.sep_open⟩
theorem ot {m:Nat} (h:S κ (ai g 192 #[.int .i64 rm,.map (some m)]::bq dZ lsMF.ev m q::dI lsMF q0::L) I w):S κ (dbQ g rm q0 q::L) I w:=
  S.ex_close (f:=fun m=>bi [ai g 192 #[.int .i64 rm,.map (some m)],bq dZ lsMF.ev m q,dI lsMF q0]) m (S.sep_close (l:=[_,_,_]) h)
end
def cG (p5:KeyV × (LV × LP)) (v4x0:List KeyV) (v4x1:List (KeyV × LV × LP)):(List KeyV) × (List (KeyV × LV × LP)):=if (p5.2.1.hd.age:Int) = 60 then (v4x0,v4x1) else if (p5.2.1.hd.age + 1:Int) = 60 then (v4x0 ++ [p5.1],aV p5.1 ({ p5.2.1 with hd:=(⟨p5.2.1.hd.age + 1,p5.2.1.hd.kind,p5.2.1.hd.id,p5.2.1.hd.adv,p5.2.1.hd.seq,p5.2.1.hd.sum,p5.2.1.hd.long⟩:HD) },p5.2.2) v4x1) else (v4x0,aV p5.1 ({ p5.2.1 with hd:=(⟨p5.2.1.hd.age + 1,p5.2.1.hd.kind,p5.2.1.hd.id,p5.2.1.hd.adv,p5.2.1.hd.seq,p5.2.1.hd.sum,p5.2.1.hd.long⟩:HD) },p5.2.2) v4x1)
def fc (es4:List (KeyV × (LV × LP))) (q:List (KeyV × LV × LP)):(List KeyV) × (List (KeyV × LV × LP)):=bw (es4.foldr (fun e x=>cG e x.1 x.2) ([],q)) fun r4=>(aW dC r4.1,r4.2)
set_option maxRecDepth 100000 in
set_option maxHeartbeats 8000000 in
theorem sE {κ:Kap} {L I:List Atom} (g:Nat) (rm:Int) (q0:List (KeyV × LV × LP)) (q:List (KeyV × LV × LP)) (W:World) (hn:q.length ≤ 100000) (ha:∀ e ∈ q,cP e.2.1.hd) (hS:S κ ((dbQ g rm q0 q)::L) (I) W):
    Calls Tryz.prog 40 #[pt g 0] W (fun r w'=>∃ es4:List (KeyV × (LV × LP)),es4.Perm q∧∃ B0 d0,r = .returned (.slice B0 (((fc es4 q).1).length) d0)∧S κ ((aa (.slice B0 (((fc es4 q).1).length) d0) 111 3 (((fc es4 q).1).length) (ab KeyV.cells ((fc es4 q).1)))::(dbQ g rm q0 ((fc es4 q).2))::L) (I) w'):=by
 have ht:∀ es_,fc es_ q = fc es_ q:=fun _=>rfl
 refine wK 46 Tryz.func40 (fun R_ hR_ a hk=>?_)
 refine sg [] hk ?_
 refine T ?_
 refine rE [0] hk fun a hk=>?_
 refine sg [] hk ?_
 refine T ?_
 refine rE [0,3] hk fun a hk=>?_
 refine wp_seq ?_
 refine sg [] hk ?_
 refine T ?_
 refine rD (.bool false) (fun _ h_=>rk (aq rfl (h_.x hk) rfl (fun _=>by kernel_rfl) (fun _=>rfl))) ?_
 refine rE [0,3,7] hk fun a hk=>?_
 refine cF hk ?_
 refine wp_skip ?_
 refine wp_seq ?_
 refine sg [4] hk ?_
 iterate 3 refine T ?_
 obtain ⟨m2,hS⟩:=qC hS
 refine LD 0 hk hS ?_
 refine eF (fun a_ h_=>fP (k:=111) (e:=66) 1 hS (ae rfl) rfl (h_.x hk) fun r3q w hS=>⟨_,rfl,?_⟩)
 replace hS:=hS.nz 3
 refine rE [0,3,13] hk fun a hk=>?_
 refine aB (fun a_ w_=>∃ es4:List (KeyV × (LV × LP)),∃ r4,∃ A4x0 c4x0,(es4.Perm q)∧((q).map (·.1)).Nodup∧es4.foldr (fun e x=>cG e x.1 x.2) ([],q) = r4∧(r4.1.length ≤ (q).length)∧Fr a_ 46 [(3,.slice A4x0 ((r4.1).length) c4x0)]∧S κ ((aa (.slice A4x0 ((r4.1).length) c4x0) 111 3 ((r4.1).length) (ab KeyV.cells r4.1))::ai g 192 #[i6 rm,.map (some m2)]::bq dZ lsMF.ev m2 r4.2::(dI lsMF q0)::L) (I) w_) ?_ ?_
 ·have hl0_4:=S.rangeNodup hS (i:=1) rfl
  refine wp_block ?_
  refine wp_loop (fun a_ w_=>∃ es4:List (KeyV × (LV × LP)),∃ v4x0:List KeyV,∃ v4x1:List (KeyV × LV × LP),∃ A4x0 c4x0,((es4.map (·.1)).Nodup)∧(∀ e ∈ es4,e ∈ q)∧(es4.foldr (fun e x=>cG e x.1 x.2) ([],q) = (v4x0,v4x1))∧(∀ e ∈ v4x1,e.1 ∉ es4.map (·.1) → e ∈ q)∧(∀ e ∈ q,e.1 ∉ es4.map (·.1) → e ∈ v4x1)∧(v4x0.length ≤ es4.length)∧Fr a_ 46 [(0,pt g 0),(3,.slice A4x0 ((v4x0).length) c4x0),(13,pt r3q 0)]∧S κ ((aa (.slice A4x0 ((v4x0).length) c4x0) 111 3 ((v4x0).length) (ab KeyV.cells v4x0))::ai g 192 #[i6 rm,.map (some m2)]::(bx dZ lsMF.ev m2 r3q v4x1 (es4.map (·.1)))::(dI lsMF q0)::L) (I) w_) (fun _ w_=>q.length - (w_.iterSeen r3q).size) ?_ ?_
  ·have hS:=hS.nilrow 111 3
   replace hS:=hS.nz 4
   exact ⟨[],[],q,_,_,List.nodup_nil,(fun e h=>by cases h),rfl,(fun e h _=>h),(fun e h _=>h),Nat.le_refl _,hk.to,hS⟩
  clear hk hS
  rintro aL4 w ⟨es4,v4x0,v4x1,A4x0,c4x0,hn4,hsub4,hf4,hcl4x0,hcl4x1,hln4x0,hk,hS⟩
  have hmu4:=S.rangeLen hS (i:=2) rfl
  have hnl4:=hl0_4
  have hel4:=iL hn4 hsub4
  refine sg [0] hk ?_
  refine eF (fun a_ h_=>g0 2 hS (ae rfl) rfl (h_.x hk) (fun hall=>⟨_,rfl,?_⟩) (fun p5 w hp5 hpd5 hS=>⟨_,rfl,?_⟩))
  ·refine T ?_
   refine rE [0,3,13,15] hk fun a hk=>?_
   refine wp_seq ?_
   refine cF hk ?_
   refine wp_exit ?_
   replace hall:=xI hcl4x1 hall
   replace hS:=hS.rangeEnd (i:=2) rfl
   replace hS:=hS.nz 4
   exact ⟨es4,_,_,_,kC hn4 hsub4 hall hnl4,hnl4,hf4,Nat.le_trans hln4x0 hel4,hk.to,hS⟩
  replace hS:=hS.nz 4
  have hp5l:=hcl4x0 p5 hp5 hpd5
  obtain ⟨x4,hI4⟩:∃ y_,cG p5 v4x0 v4x1 = y_:=⟨_,rfl⟩
  have hs4:=hI4
  refine T ?_
  refine rE [0,3,13,15] hk fun a hk=>?_
  refine wp_seq ?_
  refine cT hk ?_
  refine wp_skip ?_
  refine wp_block ?_
  refine sg [3,4,5,6] hk ?_
  refine rD (.tuple #[.agg #[i6 p5.1.kind,i6 p5.1.id,i6 p5.1.adv],.agg #[i6 p5.2.1.hd.age,i6 p5.2.1.hd.kind,i6 p5.2.1.hd.id,i6 p5.2.1.hd.adv,i6 p5.2.1.hd.seq,i6 p5.2.1.hd.sum,i6 p5.2.1.hd.long,.slice p5.2.2.A p5.2.1.links.length p5.2.2.c,.slice p5.2.2.B p5.2.1.mem.length p5.2.2.d]]) (fun _ h_=>rk (er (ek:=dZ) (ev:=lsMF.ev) (x:=p5.1) (u:=p5.2) hS (i:=2) rfl hp5 rfl (h_.x hk))) ?_
  iterate 2 refine T ?_
  refine eA #[i6 0,i6 0,i6 0] hS (fun g6 w hS _=>?_)
  refine eA #[i6 0,i6 0,i6 0,i6 0,i6 0,i6 0,i6 0,.slice none 0 0,.slice none 0 0] hS (fun g7 w hS _=>?_)
  refine eS 1 hk hS (fun w hS _=>?_)
  refine eS 0 hk hS (fun w hS _=>?_)
  refine rE [0,3,4,5,13] hk fun a hk=>?_
  refine wp_seq ?_
  refine sg [] hk ?_
  iterate 2 refine T ?_
  refine LD 0 hk hS ?_
  refine T ?_
  refine rE [0,3,4,5,13,22] hk fun a hk=>?_
  refine cD hk (fun hc22=>?_) (fun hc22=>?_)
  ·replace hI4:=(if_pos hc22).symm.trans hI4
   refine wp_exit ?_
   replace hS:=hS.pk [2,2,2,2] 2
   have hmuE:=S.rangeLen hS (i:=2) rfl
   subst hI4
   exact ⟨⟨p5::es4,v4x0,v4x1,_,_,List.nodup_cons.2 ⟨hpd5,hn4⟩,eU hp5l hsub4,(by rw [List.foldr_cons,hf4];exact hs4),(by first | exact l4 hcl4x0 (fun e h=>h) | exact l4 hcl4x0 (fun e h=>ii h) | exact tv hcl4x0),(by first | exact gV hcl4x1 | exact iF hcl4x1 | exact nH hcl4x1),by (try simp only [List.length_append,List.length_cons,List.length_nil]);omega,hk.to,hS⟩,jK hmu4 hmuE hn4 hsub4 hp5l hpd5⟩
  replace hI4:=(if_neg hc22).symm.trans hI4
  refine wp_skip ?_
  refine wp_seq ?_
  refine sg [6] hk ?_
  iterate 2 refine T ?_
  refine LD 0 hk hS ?_
  refine dA hk (hb:=by have h_:=ha _ (by assumption);simp only [cP] at h_;omega) ?_
  iterate 2 refine T ?_
  refine eS 0 hk hS (fun w hS _=>?_)
  refine rE [0,3,4,5,13] hk fun a hk=>?_
  refine sg [] hk ?_
  iterate 2 refine T ?_
  refine LD 0 hk hS ?_
  refine T ?_
  refine rE [0,3,4,5,13,32] hk fun a hk=>?_
  refine cD hk (fun hc32=>?_) (fun hc32=>?_)
  ·replace hI4:=(if_pos hc32).symm.trans hI4
   refine rgL [2,3] hk ?_
   refine T ?_
   refine LDS 1 3 hk hS ?_
   refine eF (fun a_ h_=>aZ (e:=111) (cells:=#[i6 p5.1.kind,i6 p5.1.id,i6 p5.1.adv]) hS (ae rfl) rfl (h_.prtL hk) fun g8 w hS _=>⟨_,rfl,?_⟩)
   refine eF (fun a_ h_=>ia (bytes:=24) (ys:=[p5.1]) KeyV.cells_fn hS 3 (ae rfl) rfl (h_.x hk) (h_.x hk) (ay (hS.blk (i:=0) rfl) rfl) (by (try simp only [List.length_append,List.length_cons,List.length_nil,List.length_take,List.length_drop]);omega) fun A9 c9 w hS=>⟨_,rfl,?_⟩)
   replace hS:=hS.nz 7
   refine T ?_
   refine rE [0,3,4,5,13] hk fun a hk=>?_
   refine rgR [[],[0],[0,1],[0,1,2],[],[],[0,1,2,3,4,5]] [6] (.rd 0 (.rd 1 (.rd 2 (.rd 3 (.rd 4 (.rd 5 (.ef 6 (.fin) .non))))))) hk hS (fun w hS _=>?_)
   iterate 3 refine T ?_
   refine LD 4 hk hS ?_
   refine LDS 2 3 hk hS ?_
   refine LDS 1 9 hk hS ?_
   refine eF (fun a_ h_=>pf (ev:=lsMF.ev) (E:=66) 5 p5.1 ({ p5.2.1 with hd:=(⟨p5.2.1.hd.age + 1,p5.2.1.hd.kind,p5.2.1.hd.id,p5.2.1.hd.adv,p5.2.1.hd.seq,p5.2.1.hd.sum,p5.2.1.hd.long⟩:HD) },p5.2.2) bY hS (pN hp5) (ae rfl) rfl (h_.x hk) (h_.x hk) (h_.x hk) fun w hS=>⟨_,rfl,?_⟩)
   replace hS:=hS.nz 7
   refine rE [0,3,13] hk fun a hk=>?_
   replace hS:=hS.pk [3,3,3,3] 3
   have hmuE:=S.rangeLen hS (i:=2) rfl
   subst hI4
   exact ⟨⟨p5::es4,(v4x0 ++ [p5.1]),(aV p5.1 ({ p5.2.1 with hd:=(⟨p5.2.1.hd.age + 1,p5.2.1.hd.kind,p5.2.1.hd.id,p5.2.1.hd.adv,p5.2.1.hd.seq,p5.2.1.hd.sum,p5.2.1.hd.long⟩:HD) },p5.2.2) v4x1),_,_,List.nodup_cons.2 ⟨hpd5,hn4⟩,eU hp5l hsub4,(by rw [List.foldr_cons,hf4];exact hs4),(by first | exact l4 hcl4x0 (fun e h=>h) | exact l4 hcl4x0 (fun e h=>ii h) | exact tv hcl4x0),(by first | exact gV hcl4x1 | exact iF hcl4x1 | exact nH hcl4x1),by (try simp only [List.length_append,List.length_cons,List.length_nil]);omega,hk.to,hS⟩,jK hmu4 hmuE hn4 hsub4 hp5l hpd5⟩
  replace hI4:=(if_neg hc32).symm.trans hI4
  refine wp_skip ?_
  refine rgR [[],[0],[0,1],[0,1,2],[],[],[0,1,2,3,4,5]] [6] (.rd 0 (.rd 1 (.rd 2 (.rd 3 (.rd 4 (.rd 5 (.ef 6 (.fin) .non))))))) hk hS (fun w hS _=>?_)
  iterate 3 refine T ?_
  refine LD 3 hk hS ?_
  refine LDS 1 3 hk hS ?_
  refine LDS 0 9 hk hS ?_
  refine eF (fun a_ h_=>pf (ev:=lsMF.ev) (E:=66) 4 p5.1 ({ p5.2.1 with hd:=(⟨p5.2.1.hd.age + 1,p5.2.1.hd.kind,p5.2.1.hd.id,p5.2.1.hd.adv,p5.2.1.hd.seq,p5.2.1.hd.sum,p5.2.1.hd.long⟩:HD) },p5.2.2) bY hS (pN hp5) (ae rfl) rfl (h_.x hk) (h_.x hk) (h_.x hk) fun w hS=>⟨_,rfl,?_⟩)
  replace hS:=hS.nz 6
  refine rE [0,3,13] hk fun a hk=>?_
  replace hS:=hS.pk [2,2,2,2] 2
  have hmuE:=S.rangeLen hS (i:=2) rfl
  subst hI4
  exact ⟨⟨p5::es4,v4x0,(aV p5.1 ({ p5.2.1 with hd:=(⟨p5.2.1.hd.age + 1,p5.2.1.hd.kind,p5.2.1.hd.id,p5.2.1.hd.adv,p5.2.1.hd.seq,p5.2.1.hd.sum,p5.2.1.hd.long⟩:HD) },p5.2.2) v4x1),_,_,List.nodup_cons.2 ⟨hpd5,hn4⟩,eU hp5l hsub4,(by rw [List.foldr_cons,hf4];exact hs4),(by first | exact l4 hcl4x0 (fun e h=>h) | exact l4 hcl4x0 (fun e h=>ii h) | exact tv hcl4x0),(by first | exact gV hcl4x1 | exact iF hcl4x1 | exact nH hcl4x1),by (try simp only [List.length_append,List.length_cons,List.length_nil]);omega,hk.to,hS⟩,jK hmu4 hmuE hn4 hsub4 hp5l hpd5⟩
 rintro a w ⟨es4,r4,A4x0,c4x0,hpm4,hnd4,hr4,hrl4x0,hk,hS⟩
 replace ht:=ht es4
 replace ht:=(am hr4).symm.trans ht
 refine sg [1] hk ?_
 refine T ?_
 refine eC hk (h:=x8 _ _ _ (by omega) hS) (k:=?_)
 rintro _ w ⟨rfl,hS⟩
 refine ⟨_,rfl,?_⟩
 have hpq10:=bK ck r4.1
 replace hS:=hS.nz 4
 refine rE [3] hk fun a hk=>?_
 replace hk:Fr a 46 [(3,.slice A4x0 ((aW dC r4.1).length) c4x0)]:=by simpa only [bK ck] using hk
 refine sg [] hk ?_
 iterate 2 refine T ?_
 refine rE [2] hk fun a hk=>?_
 refine wp_ret ?_
 replace hS:=hS.pk [1,1,1] 0
 replace hS:=ot hS
 replace hS:=hS.pk [1,0] 0
 exact rt1 hk (hR_ _ _ ⟨es4,hpm4,_,_,by rw [← ht];exact ⟨rfl,hS⟩⟩)
end
def fw (x:LV):LV:=if x.hd.age = 60 then x else { x with hd:={ x.hd with age:=x.hd.age + 1 } }
def nS (l:List (KeyV × LV)):List (KeyV × LV):=l.map fun e=>(e.1,fw e.2)
def hX (l:List (KeyV × LV)):List KeyV:=aW dC ((l.filter fun e=>decide (e.2.hd.age = 59)).map (·.1))
def upQ (e:KeyV × LV × LP):LV × LP:=(fw e.2.1,e.2.2)
theorem rW (e:KeyV × LV × LP) (v:List KeyV) (q:List (KeyV × LV × LP)):cG e v q = (if e.2.1.hd.age = 59 then v ++ [e.1] else v,if e.2.1.hd.age = 60 then q else aV e.1 (upQ e) q):=by
  unfold cG upQ fw
  by_cases h:e.2.1.hd.age = 60
  · rw [if_pos h,if_neg (by omega),if_pos h]
  · by_cases h2:e.2.1.hd.age = 59
    · rw [if_neg h,if_pos (by omega),if_pos h2,if_neg h,if_neg h]
    · rw [if_neg h,if_neg (by omega),if_neg h2,if_neg h,if_neg h]
theorem rY {q:List (KeyV × LV × LP)} (hn:(q.map (·.1)).Nodup):∀ es:List (KeyV × LV × LP),(es.map (·.1)).Nodup → (∀ e ∈ es,e ∈ q) → (es.foldr (fun e x=>cG e x.1 x.2) ([],q)).2 = q.map fun p=>(p.1,if p.1 ∈ es.map (·.1) then upQ p else p.2)
  | [],hd,h=>by
    have:=iY hn upQ [] hd h
    exact this
  | e::es,hd,h=>by
    have hd':=List.nodup_cons.1 hd
    have ih:=rY hn es hd'.2 fun x hx=>h x (List.mem_cons_of_mem _ hx)
    have he:=h e (List.mem_cons_self ..)
    rw [List.foldr_cons,rW]
    simp only
    rw [ih]
    split
    · rename_i h60
      refine List.map_congr_left fun p hp=>?_
      by_cases hk:p.1 = e.1
      · obtain rfl:=mu hn hp he hk
        have e1:upQ p = p.2:=by unfold upQ fw;rw [if_pos h60]
        rw [e1];simp
      · have e2:(p.1 ∈ (e::es).map (·.1)) ↔ (p.1 ∈ es.map (·.1)):=by rw [List.map_cons,List.mem_cons];exact ⟨fun h=>h.resolve_left hk,.inr⟩
        simp only [e2]
    · have f1:=iY hn upQ (e::es) hd h
      have f2:=iY hn upQ es hd'.2 fun x hx=>h x (List.mem_cons_of_mem _ hx)
      rw [List.foldr_cons,f2] at f1
      exact f1
theorem rX (q:List (KeyV × LV × LP)):∀ es:List (KeyV × LV × LP),((es.foldr (fun e x=>cG e x.1 x.2) ([],q)).1).Perm ((es.filter fun e=>decide (e.2.1.hd.age = 59)).map (·.1))
  | []=>List.Perm.refl _
  | e::es=>by
    have ih:=rX q es
    rw [List.foldr_cons,rW]
    simp only
    split
    · rename_i h59
      rw [List.filter_cons_of_pos (by simpa using h59),List.map_cons]
      exact List.perm_append_comm.trans (List.Perm.cons _ ih)
    · rename_i h59
      rw [List.filter_cons_of_neg (by simpa using h59)]
      exact ih
theorem yQ {q:List (KeyV × LV × LP)}:dI lsMF (q.map fun p=>(p.1,upQ p)) = dI lsMF q:=by
  unfold dI
  rw [List.flatMap_map]
  refine congrArg bi (congrArg (fun f=>q.flatMap f) (funext fun p=>?_))
  show lsMF.inner (fw p.2.1) p.2.2 = lsMF.inner p.2.1 p.2.2
  unfold fw
  split <;> rfl
theorem sF {κ:Kap} {L I:List Atom} (g:Nat) (d:DbS) (W:World) (hn:d.l.length ≤ 100000) (ha:dz d) (hS:S κ (dbA g d::L) I W):
    Calls Tryz.prog 40 #[pt g 0] W (fun r w'=>∃ B0 d0,r = .returned (.slice B0 (hX d.l).length d0)∧S κ (aa (.slice B0 (hX d.l).length d0) 111 3 (hX d.l).length (ab KeyV.cells (hX d.l))::dbA g ⟨d.room,nS d.l⟩::L) I w'):=by
  obtain ⟨m,hS⟩:=iT hS
  have hS:=hS.perm (List.Perm.swap _ _ _)
  obtain ⟨q,hq,hS⟩:=cd hS
  have hS:S κ (ai g 192 #[.int .i64 d.room,.map (some m)]::bq dZ lsMF.ev m q::dI lsMF q::L) I W:=hS.pk [2,0,0] 0
  have hnd:(q.map (·.1)).Nodup:=by
    obtain ⟨es,c,_,h2⟩:=hS.mapAt (i:=1) rfl
    exact h2.nodup
  have hS:=ot hS
  refine (sE g d.room q q W (by rw [ki hq];exact hn) (fun e he=>?_) hS).mono ?_
  · have:(e.1,e.2.1) ∈ d.l:=by rw [← hq];exact List.mem_map_of_mem (f:=fun x:KeyV × LV × LP=>(x.1,x.2.1)) he
    exact (ha _ this).1.2
  rintro r w' ⟨es,hp,B0,d0,h1,h2⟩
  have hes:(es.map (·.1)).Nodup:=(hp.map _).nodup_iff.2 hnd
  have hmem:∀ e ∈ es,e ∈ q:=fun e he=>hp.mem_iff.1 he
  have e2:(fc es q).2 = q.map fun p=>(p.1,upQ p):=by
    show (es.foldr (fun e x=>cG e x.1 x.2) ([],q)).2 = _
    rw [rY hnd es hes hmem]
    refine List.map_congr_left fun p hp'=>?_
    rw [if_pos (List.mem_map_of_mem (hp.mem_iff.2 hp'))]
  have e1:(fc es q).1 = hX d.l:=by
    show aW dC (es.foldr (fun e x=>cG e x.1 x.2) ([],q)).1 = _
    unfold hX
    refine nu ck (fun a _ b _=>nd a b) ?_
    refine (rX q es).trans ?_
    have h3:(d.l.filter fun e=>decide (e.2.hd.age = 59)).map (·.1) = (q.filter fun e=>decide (e.2.1.hd.age = 59)).map (·.1):=by
      rw [← hq];unfold MFn.out;rw [List.filter_map,List.map_map];rfl
    rw [h3]
    exact (hp.filter _).map _
  rw [e1,e2] at h2
  rw [e1] at h1
  refine ⟨B0,d0,h1,?_⟩
  have h2:=h2.perm (List.Perm.swap _ _ _)
  obtain ⟨m',h2⟩:=qC h2
  rw [← yQ] at h2
  have h2:S κ (bq dZ lsMF.ev m' (q.map fun p=>(p.1,upQ p))::dI lsMF (q.map fun p=>(p.1,upQ p))::ai g 192 #[.int .i64 d.room,.map (some m')]::aa (.slice B0 (hX d.l).length d0) 111 3 (hX d.l).length (ab KeyV.cells (hX d.l))::L) I w':=h2.pk [1,1,0,0] 0
  have hq2:MFn.out (q.map fun p=>(p.1,upQ p)) = nS d.l:=by
    rw [← hq];unfold MFn.out nS;rw [List.map_map,List.map_map];rfl
  have h2:=bd (F:=lsMF) hq2 h2
  have h2:=d7 (d:=⟨d.room,nS d.l⟩) (h2.perm (List.Perm.swap _ _ _))
  exact h2.perm (List.Perm.swap _ _ _)
section
set_option maxRecDepth 100000
set_option maxHeartbeats 8000000
def pq:((List (TmV × Int))):=[]
theorem kK {κ:Kap} {L I:List Atom}  (W:World) (hS:S κ (L) (I) W):
    Calls Tryz.prog 82 #[] W (fun r w'=>∃ G0:Nat,r = .returned (pt G0 0)∧S κ ((bz G0 pq)::L) (I) w'):=by
 generalize ht:pq = t_
 refine wK 4 Tryz.func82 (fun R_ hR_ a hk=>?_)
 refine sg [] hk ?_
 refine T ?_
 refine rE [] hk fun a hk=>?_
 refine sg [0,2] hk ?_
 refine eF (fun a_ h_=>bV (α:=TmV) (β:=Int) tmE eN hS (ae rfl) rfl fun g2 w hS _=>⟨_,rfl,?_⟩)
 refine rD (.agg #[.map (some g2)]) (fun _ h_=>rk (af rfl (h_.prt hk) (by kernel_rfl))) ?_
 refine eB hk hS (fun g3 w hS _=>?_)
 refine T ?_
 refine rE [0] hk fun a hk=>?_
 refine wp_ret ?_
 replace hS:=eX hS
 subst ht
 exact rt1 hk (hR_ _ _ ⟨_,rfl,hS⟩)
def f4 (till:Int):List TmV → (List (TmV × Int)) → (List (TmV × Int))
  | [],v2x0=>v2x0
  | z2::xs2,v2x0=>f4 till xs2 (aV z2 till v2x0)
def je (till:Int) (ts:List TmV) (l:List (TmV × Int)):(List (TmV × Int)):=bw (f4 till ts l) fun r2=>r2
theorem qg {κ:Kap} {L I:List Atom} (g:Nat) (till:Int) (ts:List TmV) (tsA:Option Addr) (tsc:Nat) (l:List (TmV × Int)) (W:World) (hS:S κ ((bz g l)::L) (aa (.slice tsA ts.length tsc) 121 6 ts.length (ab TmV.cells ts)::I) W):
    Calls Tryz.prog 87 #[pt g 0,i6 till,.slice tsA ts.length tsc] W (fun r w'=>r = .returned (.tuple #[])∧S κ ((bz g (je till ts l))::L) (aa (.slice tsA ts.length tsc) 121 6 ts.length (ab TmV.cells ts)::I) w'):=by
 generalize ht:(je till ts l) = t_
 refine wK 23 Tryz.func87 (fun R_ hR_ a hk=>?_)
 refine wp_seq ?_
 refine sg [] hk ?_
 refine T ?_
 refine rD (.bool false) (fun _ h_=>rk (aq rfl (h_.x hk) rfl (fun _=>by kernel_rfl) (fun _=>rfl))) ?_
 refine rE [0,1,2,9] hk fun a hk=>?_
 refine cF hk ?_
 refine wp_skip ?_
 refine sg [] hk ?_
 iterate 3 refine T ?_
 refine rE [0,1,10,11,12] hk fun a hk=>?_
 obtain ⟨r2,hr2⟩:∃ y_,f4 till ts l = y_:=⟨_,rfl⟩
 refine aB (fun a_ w_=>Fr a_ 23 []∧S κ ((bz g r2)::L) (aa (.slice tsA ts.length tsc) 121 6 ts.length (ab TmV.cells ts)::I) w_) ?_ ?_
 ·refine wp_block ?_
  refine wp_loop (fun a_ w_=>∃ k2:Nat,∃ v2x0:List (TmV × Int),(k2 ≤ (ts).length)∧f4 till ((ts).drop k2) v2x0 = r2∧Fr a_ 23 [(0,pt g 0),(1,i6 till),(10,.slice tsA ts.length tsc),(11,i6 ((ts.length:Nat):Int)),(12,i6 k2)]∧S κ ((bz g v2x0)::L) (aa (.slice tsA ts.length tsc) 121 6 ts.length (ab TmV.cells ts)::I) w_) (fun a_ _=>(ts).length - (intOf (sl a_ 12)).toNat) ?_ ?_
  ·exact ⟨0,l,Nat.zero_le _,hr2,hk.to,hS⟩
  clear hk hS
  rintro aL2 w ⟨k2,v2x0,hkl2,hI2,hk,hS⟩
  have hmu2:=hk.g (s:=12)
  have hlb2:=hS.rowBI (i:=0) rfl
  refine sg [] hk ?_
  refine T ?_
  refine rE [0,1,10,11,12,13] hk fun a hk=>?_
  refine wp_seq ?_
  refine cD hk (fun hc13=>?_) (fun hc13=>?_)
  ·obtain ⟨z2,hz2⟩:=cq (show k2 < (ts).length by omega)
   rw [aF hz2] at hI2
   refine wp_skip ?_
   refine wp_seq ?_
   refine wp_block ?_
   refine sg [2,3] hk ?_
   refine dX TmV.cells_len' hk (hS.rdI (i:=0) rfl) (fun b3 o3 z3 hz3 hq3=>?_)
   obtain rfl:z2 = z3:=Option.some.inj (hz2.symm.trans hz3)
   refine dV 6 hq3 hk ?_
   refine eA #[i6 0,i6 0,i6 0,i6 0,i6 0,i6 0] hS (fun g4 w hS _=>?_)
   refine eS 0 hk hS (fun w hS _=>?_)
   refine rE [0,1,7,10,11,12] hk fun a hk=>?_
   refine rgR [[],[0],[0,1],[0,1,2],[],[],[0,1,2,3,4,5]] [6] (.rd 0 (.rd 1 (.rd 2 (.rd 3 (.rd 4 (.rd 5 (.ef 6 (.fin) .non))))))) hk hS (fun w hS _=>?_)
   iterate 3 refine T ?_
   replace hS:=hS.fr 1
   obtain ⟨m5,hS⟩:=hU hS
   refine LD 0 hk hS ?_
   refine LDS 2 6 hk hS ?_
   refine T ?_
   refine eF (fun a_ h_=>cL (ev:=eN) (E:=3) 1 z2 till tI hS (ae rfl) (.inl rfl) (h_.x hk) (h_.x hk) (h_.x hk) fun w hS=>⟨_,rfl,?_⟩)
   replace hS:=hS.nz 3
   refine rE [0,1,10,11,12] hk fun a hk=>?_
   refine rgL [] hk ?_
   refine dA hk ?_
   refine T ?_
   refine rE [0,1,10,11,12] hk fun a hk=>?_
   replace hS:=eX hS
   replace hS:=hS.pk [0] 1
   exact ⟨⟨k2 + 1,(aV z2 till v2x0),by omega,hI2,hk.to,hS⟩,aP hk.g hmu2 (by omega)⟩
  obtain rfl:k2 = (ts).length:=by omega
  rw [ax (Nat.le_refl _)] at hI2
  refine wp_exit ?_
  subst hI2
  exact ⟨hk.to,hS⟩
 rintro a w ⟨hk,hS⟩
 replace ht:=(am hr2).symm.trans ht
 subst ht
 exact rt0 hk (hR_ _ _ ⟨rfl,hS⟩)
theorem DuV.cells_len' (x:DuV):(DuV.cells x).length = 7:=rfl
theorem DuV.cells_one' (x:DuV):∀ u ∈ DuV.cells x,u.oneCell' = true:=by
  intro u hu
  simp only [DuV.cells,TmV.cells,List.mem_cons,List.not_mem_nil,or_false] at hu
  rcases hu with rfl | rfl | rfl | rfl | rfl | rfl | rfl <;> rfl
def DuV.cells_fn:RowFn DuV 7:=⟨ab DuV.cells,eT _,fun l u hu=>by
  obtain ⟨x,_,h⟩:=List.mem_flatMap.1 hu
  exact DuV.cells_one' x u h,be _ _ DuV.cells_len'⟩
theorem sortDue {κ:Kap} {L I:List Atom} {w:World} (A:Option Addr) (c:Nat) (l:List DuV) (hn:l.length ≤ 100000000) (hS:S κ (aa (.slice A l.length c) 206 7 l.length (ab DuV.cells l)::L) I w):
    Calls Tryz.prog 110 #[.slice A l.length c,.func (.func 111) #[] #[]] w fun r w'=>r = .returned (.tuple #[])∧S κ (aa (.slice A (aW dD l).length c) 206 7 (aW dD l).length (ab DuV.cells (aW dD l))::L) I w':=by
  rw [bK fz]
  exact gw (Tryz.sortDue) 7 (fun w=>by kernel_rfl) (fun w=>by kernel_rfl) DuV.cells DuV.cells_len' DuV.cells_one' dD fz 111 #[] (fun _ _=>by kernel_rfl)
    (fun x y W=>(sd x y W).mono fun _ _ ⟨h1,h2,h3⟩=>⟨h1,im h2 h3⟩) A l.length c 206 l hS (by omega) (by omega)
def dY (now:Int) (p5:TmV × Int) (v4x0:List DuV) (v4x1:List (TmV × Int)):(List DuV) × (List (TmV × Int)):=if (p5.2:Int) ≤ now then (v4x0 ++ [(⟨p5.2,p5.1⟩:DuV)],bS p5.1 v4x1) else (v4x0,v4x1)
def cz:List DuV → (List TmV) → (List TmV)
  | [],v10x0=>v10x0
  | z10::xs10,v10x0=>cz xs10 (v10x0 ++ [z10.t])
def dx (es4:List (TmV × Int)) (now:Int) (l:List (TmV × Int)):(List TmV) × (List (TmV × Int)):=bw (es4.foldr (fun e x=>dY now e x.1 x.2) ([],l)) fun r4=>bw (cz (aW dD r4.1) []) fun r10=>(r10,r4.2)
theorem qh {κ:Kap} {L I:List Atom} (g:Nat) (now:Int) (l:List (TmV × Int)) (W:World) (hn:l.length ≤ 100000) (hS:S κ ((bz g l)::L) (I) W):
    Calls Tryz.prog 44 #[pt g 0,i6 now] W (fun r w'=>∃ es4:List (TmV × Int),es4.Perm l∧∃ B0 d0,r = .returned (.slice B0 (((dx es4 now l).1).length) d0)∧S κ ((aa (.slice B0 (((dx es4 now l).1).length) d0) 121 6 (((dx es4 now l).1).length) (ab TmV.cells ((dx es4 now l).1)))::(bz g ((dx es4 now l).2))::L) (I) w'):=by
 have ht:∀ es_,dx es_ now l = dx es_ now l:=fun _=>rfl
 refine wK 52 Tryz.func44 (fun R_ hR_ a hk=>?_)
 refine sg [] hk ?_
 refine T ?_
 refine rE [0,1] hk fun a hk=>?_
 refine wp_seq ?_
 refine sg [] hk ?_
 refine T ?_
 refine rD (.bool false) (fun _ h_=>rk (aq rfl (h_.x hk) rfl (fun _=>by kernel_rfl) (fun _=>rfl))) ?_
 refine rE [0,1,12] hk fun a hk=>?_
 refine cF hk ?_
 refine wp_skip ?_
 refine sg [] hk ?_
 refine T ?_
 refine rE [0,1,5] hk fun a hk=>?_
 refine wp_seq ?_
 refine sg [4] hk ?_
 iterate 3 refine T ?_
 obtain ⟨m2,hS⟩:=hU hS
 refine LD 0 hk hS ?_
 refine eF (fun a_ h_=>fP (k:=121) (e:=3) 1 hS (ae rfl) rfl (h_.x hk) fun r3q w hS=>⟨_,rfl,?_⟩)
 replace hS:=hS.nz 2
 refine rE [0,1,5,17] hk fun a hk=>?_
 refine aB (fun a_ w_=>∃ es4:List (TmV × Int),∃ r4,∃ A4x0 c4x0,(es4.Perm l)∧((l).map (·.1)).Nodup∧es4.foldr (fun e x=>dY now e x.1 x.2) ([],l) = r4∧(r4.1.length ≤ (l).length)∧Fr a_ 52 [(5,.slice A4x0 ((r4.1).length) c4x0)]∧S κ ((aa (.slice A4x0 ((r4.1).length) c4x0) 206 7 ((r4.1).length) (ab DuV.cells r4.1))::ai g 175 #[.map (some m2)]::bq tmE eN m2 r4.2::L) (I) w_) ?_ ?_
 ·have hl0_4:=S.rangeNodup hS (i:=1) rfl
  refine wp_block ?_
  refine wp_loop (fun a_ w_=>∃ es4:List (TmV × Int),∃ v4x0:List DuV,∃ v4x1:List (TmV × Int),∃ A4x0 c4x0,((es4.map (·.1)).Nodup)∧(∀ e ∈ es4,e ∈ l)∧(es4.foldr (fun e x=>dY now e x.1 x.2) ([],l) = (v4x0,v4x1))∧(∀ e ∈ v4x1,e.1 ∉ es4.map (·.1) → e ∈ l)∧(∀ e ∈ l,e.1 ∉ es4.map (·.1) → e ∈ v4x1)∧(v4x0.length ≤ es4.length)∧Fr a_ 52 [(0,pt g 0),(1,i6 now),(5,.slice A4x0 ((v4x0).length) c4x0),(17,pt r3q 0)]∧S κ ((aa (.slice A4x0 ((v4x0).length) c4x0) 206 7 ((v4x0).length) (ab DuV.cells v4x0))::ai g 175 #[.map (some m2)]::(bx tmE eN m2 r3q v4x1 (es4.map (·.1)))::L) (I) w_) (fun _ w_=>l.length - (w_.iterSeen r3q).size) ?_ ?_
  ·have hS:=hS.nilrow 206 7
   replace hS:=hS.nz 3
   exact ⟨[],[],l,_,_,List.nodup_nil,(fun e h=>by cases h),rfl,(fun e h _=>h),(fun e h _=>h),Nat.le_refl _,hk.to,hS⟩
  clear hk hS
  rintro aL4 w ⟨es4,v4x0,v4x1,A4x0,c4x0,hn4,hsub4,hf4,hcl4x0,hcl4x1,hln4x0,hk,hS⟩
  have hmu4:=S.rangeLen hS (i:=2) rfl
  have hnl4:=hl0_4
  have hel4:=iL hn4 hsub4
  refine sg [0] hk ?_
  refine eF (fun a_ h_=>g0 2 hS (ae rfl) rfl (h_.x hk) (fun hall=>⟨_,rfl,?_⟩) (fun p5 w hp5 hpd5 hS=>⟨_,rfl,?_⟩))
  ·refine T ?_
   refine rE [0,1,5,17,19] hk fun a hk=>?_
   refine wp_seq ?_
   refine cF hk ?_
   refine wp_exit ?_
   replace hall:=xI hcl4x1 hall
   replace hS:=hS.rangeEnd (i:=2) rfl
   replace hS:=hS.nz 3
   exact ⟨es4,_,_,_,kC hn4 hsub4 hall hnl4,hnl4,hf4,Nat.le_trans hln4x0 hel4,hk.to,hS⟩
  replace hS:=hS.nz 3
  have hp5l:=hcl4x0 p5 hp5 hpd5
  obtain ⟨x4,hI4⟩:∃ y_,dY now p5 v4x0 v4x1 = y_:=⟨_,rfl⟩
  have hs4:=hI4
  refine T ?_
  refine rE [0,1,5,17,19] hk fun a hk=>?_
  refine wp_seq ?_
  refine cT hk ?_
  refine wp_skip ?_
  refine wp_block ?_
  refine sg [3,4] hk ?_
  refine rD (.tuple #[.agg #[i6 p5.1.kind,i6 p5.1.lan,i6 p5.1.id,i6 p5.1.k.kind,i6 p5.1.k.id,i6 p5.1.k.adv],i6 p5.2]) (fun _ h_=>rk (er (ek:=tmE) (ev:=eN) (x:=p5.1) (u:=p5.2) hS (i:=2) rfl hp5 rfl (h_.x hk))) ?_
  iterate 2 refine T ?_
  refine eA #[i6 0,i6 0,i6 0,i6 0,i6 0,i6 0] hS (fun g6 w hS _=>?_)
  refine eS 0 hk hS (fun w hS _=>?_)
  refine T ?_
  refine rE [0,1,5,6,7,17] hk fun a hk=>?_
  refine sg [] hk ?_
  iterate 3 refine T ?_
  refine rE [0,1,5,6,7,17,25] hk fun a hk=>?_
  refine cD hk (fun hc25=>?_) (fun hc25=>?_)
  ·replace hI4:=(if_pos hc25).symm.trans hI4
   refine sg [4,5] hk ?_
   iterate 2 refine T ?_
   refine LDS 0 6 hk hS ?_
   refine rD (.agg #[i6 p5.2,i6 p5.1.kind,i6 p5.1.lan,i6 p5.1.id,i6 p5.1.k.kind,i6 p5.1.k.id,i6 p5.1.k.adv]) (fun _ h_=>rk (af rfl (h_.prt hk) (by kernel_rfl))) ?_
   refine eF (fun a_ h_=>aZ (e:=206) (cells:=#[i6 p5.2,i6 p5.1.kind,i6 p5.1.lan,i6 p5.1.id,i6 p5.1.k.kind,i6 p5.1.k.id,i6 p5.1.k.adv]) hS (ae rfl) rfl (h_.prtL hk) fun g7 w hS _=>⟨_,rfl,?_⟩)
   refine eF (fun a_ h_=>ia (bytes:=56) (ys:=[(⟨p5.2,p5.1⟩:DuV)]) DuV.cells_fn hS 2 (ae rfl) rfl (h_.x hk) (h_.x hk) (ay (hS.blk (i:=0) rfl) rfl) (by (try simp only [List.length_append,List.length_cons,List.length_nil,List.length_take,List.length_drop]);omega) fun A8 c8 w hS=>⟨_,rfl,?_⟩)
   replace hS:=hS.nz 5
   refine T ?_
   refine rE [0,1,5,6,17] hk fun a hk=>?_
   refine rgR [[],[0],[0,1],[0,1,2],[],[0,1,2,3,4]] [5] (.rd 0 (.rd 1 (.rd 2 (.rd 3 (.rd 4 (.ef 5 (.fin) .non)))))) hk hS (fun w hS _=>?_)
   iterate 3 refine T ?_
   refine LD 3 hk hS ?_
   refine LDS 1 6 hk hS ?_
   refine eF (fun a_ h_=>pe (E:=3) 4 p5.1 tI hS (ae rfl) rfl (h_.x hk) (h_.x hk) fun w hS=>⟨_,rfl,?_⟩)
   replace hS:=hS.nz 5
   refine rE [0,1,5,17] hk fun a hk=>?_
   replace hS:=hS.pk [2,2,2] 2
   have hmuE:=S.rangeLen hS (i:=2) rfl
   subst hI4
   exact ⟨⟨p5::es4,(v4x0 ++ [(⟨p5.2,p5.1⟩:DuV)]),(bS p5.1 v4x1),_,_,List.nodup_cons.2 ⟨hpd5,hn4⟩,eU hp5l hsub4,(by rw [List.foldr_cons,hf4];exact hs4),l4 hcl4x0 (by first | exact fun e h=>h | exact fun e h=>ii h),(by first | exact gV hcl4x1 | exact iF hcl4x1),by (try simp only [List.length_append,List.length_cons,List.length_nil]);omega,hk.to,hS⟩,jK hmu4 hmuE hn4 hsub4 hp5l hpd5⟩
  replace hI4:=(if_neg hc25).symm.trans hI4
  refine wp_skip ?_
  replace hS:=hS.pk [1,1,1] 1
  have hmuE:=S.rangeLen hS (i:=2) rfl
  subst hI4
  exact ⟨⟨p5::es4,v4x0,v4x1,_,_,List.nodup_cons.2 ⟨hpd5,hn4⟩,eU hp5l hsub4,(by rw [List.foldr_cons,hf4];exact hs4),l4 hcl4x0 (by first | exact fun e h=>h | exact fun e h=>ii h),(by first | exact gV hcl4x1 | exact iF hcl4x1),by (try simp only [List.length_append,List.length_cons,List.length_nil]);omega,hk.to,hS⟩,jK hmu4 hmuE hn4 hsub4 hp5l hpd5⟩
 rintro a w ⟨es4,r4,A4x0,c4x0,hpm4,hnd4,hr4,hrl4x0,hk,hS⟩
 replace ht:=ht es4
 replace ht:=(am hr4).symm.trans ht
 refine sg [1] hk ?_
 refine T ?_
 refine eC hk (h:=sortDue _ _ _ (by omega) hS) (k:=?_)
 rintro _ w ⟨rfl,hS⟩
 refine ⟨_,rfl,?_⟩
 have hpq9:=bK fz r4.1
 replace hS:=hS.nz 3
 refine rE [5] hk fun a hk=>?_
 replace hk:Fr a 52 [(5,.slice A4x0 ((aW dD r4.1).length) c4x0)]:=by simpa only [bK fz] using hk
 refine sg [] hk ?_
 refine T ?_
 refine rE [5,8] hk fun a hk=>?_
 refine wp_seq ?_
 refine sg [] hk ?_
 iterate 3 refine T ?_
 refine rE [8,39,40,41] hk fun a hk=>?_
 replace hS:=hS.pk [1,1] 0
 replace hS:=eX hS
 obtain ⟨r10,hr10⟩:∃ y_,cz (aW dD r4.1) [] = y_:=⟨_,rfl⟩
 refine aB (fun a_ w_=>∃ A10x0 c10x0,Fr a_ 52 [(8,.slice A10x0 ((r10).length) c10x0)]∧S κ ((aa (.slice A10x0 ((r10).length) c10x0) 121 6 ((r10).length) (ab TmV.cells r10))::(bz g r4.2)::(aa (.slice A4x0 ((aW dD r4.1).length) c4x0) 206 7 ((aW dD r4.1).length) (ab DuV.cells (aW dD r4.1)))::L) (I) w_) ?_ ?_
 ·refine wp_block ?_
  refine wp_loop (fun a_ w_=>∃ k10:Nat,∃ v10x0:List TmV,∃ A10x0 c10x0,(k10 ≤ (aW dD r4.1).length)∧cz ((aW dD r4.1).drop k10) v10x0 = r10∧(v10x0.length ≤ k10)∧Fr a_ 52 [(8,.slice A10x0 ((v10x0).length) c10x0),(39,.slice A4x0 ((aW dD r4.1).length) c4x0),(40,i6 (((aW dD r4.1).length:Nat):Int)),(41,i6 k10)]∧S κ ((aa (.slice A10x0 ((v10x0).length) c10x0) 121 6 ((v10x0).length) (ab TmV.cells v10x0))::(bz g r4.2)::(aa (.slice A4x0 ((aW dD r4.1).length) c4x0) 206 7 ((aW dD r4.1).length) (ab DuV.cells (aW dD r4.1)))::L) (I) w_) (fun a_ _=>(aW dD r4.1).length - (intOf (sl a_ 41)).toNat) ?_ ?_
  ·have hS:=hS.nilrow 121 6
   replace hS:=hS.nz 3
   exact ⟨0,[],_,_,Nat.zero_le _,hr10,Nat.zero_le _,hk.to,hS⟩
  clear hk hS
  rintro aL10 w ⟨k10,v10x0,A10x0,c10x0,hkl10,hI10,hcl10x0,hk,hS⟩
  have hmu10:=hk.g (s:=41)
  have hlb10:=hS.rowB (i:=2) rfl
  refine sg [] hk ?_
  refine T ?_
  refine rE [8,39,40,41,42] hk fun a hk=>?_
  refine wp_seq ?_
  refine cD hk (fun hc42=>?_) (fun hc42=>?_)
  ·obtain ⟨z10,hz10⟩:=cq (show k10 < (aW dD r4.1).length by omega)
   rw [aF hz10] at hI10
   refine wp_skip ?_
   refine wp_seq ?_
   refine wp_block ?_
   refine sg [2,3] hk ?_
   refine dX DuV.cells_len' hk (hS.rd (i:=2) rfl) (fun b11 o11 z11 hz11 hq11=>?_)
   obtain rfl:z10 = z11:=Option.some.inj (hz10.symm.trans hz11)
   refine dV 7 hq11 hk ?_
   refine eA #[i6 0,i6 0,i6 0,i6 0,i6 0,i6 0,i6 0] hS (fun g12 w hS _=>?_)
   refine eS 0 hk hS (fun w hS _=>?_)
   refine rE [8,10,39,40,41] hk fun a hk=>?_
   refine rgL [3,4] hk ?_
   iterate 2 refine T ?_
   refine LDS 0 6 hk hS ?_
   refine eF (fun a_ h_=>aZ (e:=121) (cells:=#[i6 z10.t.kind,i6 z10.t.lan,i6 z10.t.id,i6 z10.t.k.kind,i6 z10.t.k.id,i6 z10.t.k.adv]) hS (ae rfl) rfl (h_.prtL hk) fun g13 w hS _=>⟨_,rfl,?_⟩)
   refine eF (fun a_ h_=>ia (bytes:=48) (ys:=[z10.t]) TmV.cells_fn hS 2 (ae rfl) rfl (h_.x hk) (h_.x hk) (ay (hS.blk (i:=0) rfl) rfl) (by (try simp only [List.length_append,List.length_cons,List.length_nil,List.length_take,List.length_drop]);omega) fun A14 c14 w hS=>⟨_,rfl,?_⟩)
   replace hS:=hS.nz 5
   refine T ?_
   refine rE [8,39,40,41] hk fun a hk=>?_
   refine rgL [] hk ?_
   refine dA hk ?_
   refine T ?_
   refine rE [8,39,40,41] hk fun a hk=>?_
   replace hS:=hS.pk [2,2,2] 2
   exact ⟨⟨k10 + 1,(v10x0 ++ [z10.t]),_,_,by omega,hI10,by (try simp only [List.length_append,List.length_cons,List.length_nil]);omega,hk.to,hS⟩,aP hk.g hmu10 (by omega)⟩
  obtain rfl:k10 = (aW dD r4.1).length:=by omega
  rw [ax (Nat.le_refl _)] at hI10
  refine wp_exit ?_
  subst hI10
  exact ⟨_,_,hk.to,hS⟩
 rintro a w ⟨A10x0,c10x0,hk,hS⟩
 replace ht:=(am hr10).symm.trans ht
 refine sg [] hk ?_
 iterate 2 refine T ?_
 refine rE [4] hk fun a hk=>?_
 refine wp_ret ?_
 replace hS:=hS.pk [0,0] 1
 exact rt1 hk (hR_ _ _ ⟨es4,hpm4,_,_,by rw [← ht];exact ⟨rfl,hS⟩⟩)
def bg (now:Int) (l:List (TmV × Int)):List TmV × List (TmV × Int):=((aW dD ((l.filter fun p=>decide (p.2 ≤ now)).map fun p=>(⟨p.2,p.1⟩:DuV))).map (·.t),l.filter fun p=>!decide (p.2 ≤ now))
theorem kJ:∀ (xs:List DuV) (v:List TmV),cz xs v = v ++ xs.map (·.t)
  | [],v=>by simp [cz]
  | x::xs,v=>by rw [cz,kJ xs];simp
theorem se {es l:List (TmV × Int)} (now:Int) (hn:(l.map (·.1)).Nodup) (hp:es.Perm l):dx es now l = bg now l:=by
  unfold dx bg bw
  have h:(fun (e:TmV × Int) (x:List DuV × List (TmV × Int))=>dY now e x.1 x.2) = fun e x=>(if (fun p:TmV × Int=>decide (p.2 ≤ now)) e = true then x.1 ++ [(⟨e.2,e.1⟩:DuV)] else x.1,if (fun p:TmV × Int=>decide (p.2 ≤ now)) e = true then bS e.1 x.2 else x.2):=by
    funext e x;unfold dY;by_cases h:e.2 ≤ now <;> simp [h]
  rw [h,mW (fun (e:TmV × Int) (v:List DuV)=>if (fun p:TmV × Int=>decide (p.2 ≤ now)) e = true then v ++ [(⟨e.2,e.1⟩:DuV)] else v) (fun (e:TmV × Int) v=>if (fun p:TmV × Int=>decide (p.2 ≤ now)) e = true then bS e.1 v else v),n4 hn _ hp]
  dsimp only
  rw [kJ,List.nil_append,nu fz (fun a _ b _=>qG a b) ((mV (fun p:TmV × Int=>decide (p.2 ≤ now)) (fun e=>(⟨e.2,e.1⟩:DuV)) es).trans ((hp.filter _).map _))]
theorem qi {κ:Kap} {L I:List Atom} (g:Nat) (now:Int) (l:List (TmV × Int)) (W:World) (hn:l.length ≤ 100000) (hS:S κ ((bz g l)::L) (I) W):
    Calls Tryz.prog 44 #[pt g 0,i6 now] W (fun r w'=>∃ B0 d0,r = .returned (.slice B0 (((bg now l).1).length) d0)∧S κ ((aa (.slice B0 (((bg now l).1).length) d0) 121 6 (((bg now l).1).length) (ab TmV.cells ((bg now l).1)))::(bz g ((bg now l).2))::L) (I) w'):=by
  obtain ⟨m,hO⟩:=hU hS
  have hnd:=hO.mapNodup (i:=1) rfl
  refine (qh g now l W hn hS).mono ?_
  rintro r w' ⟨es,hp,h⟩
  rw [se now hnd hp] at h
  exact h
end
section
def rO:((List (EnV × Int))):=[]
set_option maxRecDepth 100000 in
set_option maxHeartbeats 8000000 in
theorem l9 {κ:Kap} {L I:List Atom}  (W:World) (hS:S κ (L) (I) W):
    Calls Tryz.prog 83 #[] W (fun r w'=>∃ G0:Nat,r = .returned (pt G0 0)∧S κ ((cO G0 rO)::L) (I) w'):=by
 generalize ht:rO = t_
 refine wK 4 Tryz.func83 (fun R_ hR_ a hk=>?_)
 refine sg [] hk ?_
 refine T ?_
 refine rE [] hk fun a hk=>?_
 refine sg [0,2] hk ?_
 refine eF (fun a_ h_=>bV (α:=EnV) (β:=Int) enE eN hS (ae rfl) rfl fun g2 w hS _=>⟨_,rfl,?_⟩)
 refine rD (.agg #[.map (some g2)]) (fun _ h_=>rk (af rfl (h_.prt hk) (by kernel_rfl))) ?_
 refine eB hk hS (fun g3 w hS _=>?_)
 refine T ?_
 refine rE [0] hk fun a hk=>?_
 refine wp_ret ?_
 replace hS:=fN hS
 subst ht
 exact rt1 hk (hR_ _ _ ⟨_,rfl,hS⟩)
end
end Go.Proofs.YtehpdklphhmbgaaGreatDoor
