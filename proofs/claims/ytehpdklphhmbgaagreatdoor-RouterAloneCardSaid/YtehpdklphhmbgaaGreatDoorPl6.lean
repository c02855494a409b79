/-
  Part 6 of what lies behind the statement: the model of the program in words of its own, and its walks. No conditions of its own.
-/
import Derived.Test.YtehpdklphhmbgaaGreatDoorPl5
namespace Go.Proofs.YtehpdklphhmbgaaGreatDoor
open Go.RowKit
set_option linter.unusedVariables false
set_option linter.unusedSimpArgs false
section
structure CoV where
  id:Int
  boot:Int
  room:Int
  ports:List PtV
theorem PtV.cells_len' (x:PtV):(PtV.cells x).length = 3:=rfl
def nV:List Nat → RoS → Option (RoS)
  | [],v9x0=>some v9x0
  | k9::xs9,v9x0=>aJ (eJ v9x0) fun q10=>nV xs9 q10
def tL:Option (Bool):=if [(⟨0,1,1⟩:PtV)].length ≤ 100000 then aJ ((gc 1 1 40 [(⟨0,1,1⟩:PtV)])) fun s6=>aJ (eJ s6) fun q7=>aJ (nJ q7) fun q8=>aJ (nV (List.range 7) q8.2) fun r9=>aJ (oY 0 r9) fun q11=>if (((q8.1.length:Nat):Int):Int) = 1 then cond q11.2 (if (q11.1.i.state:Int) = 4 then aJ (nJ r9) fun q13=>some (decide ((((q13.1.length:Nat):Int):Int) = 3)) else some false) (some false) else some false else none
set_option maxRecDepth 100000 in
set_option maxHeartbeats 8000000 in
theorem wu {κ:Kap} {L I:List Atom}  (W:World) {r_:Bool} (ht:tL = some r_) (hS:S κ (L) (I) W):
    Calls Tryz.prog 7 #[] W (fun r w'=>r = .returned (.bool r_)∧S κ (L) (I) w'):=by
 refine wK 40 Tryz.func7 (fun R_ hR_ a hk=>?_)
 refine sg [] hk ?_
 refine T ?_
 refine rE [] hk fun a hk=>?_
 refine sg [1,2] hk ?_
 refine rD (.agg #[i6 0,i6 1,i6 1]) (fun _ h_=>rk (af rfl (h_.prt hk) (by kernel_rfl))) ?_
 refine eF (fun a_ h_=>aZ (e:=26) (cells:=#[i6 0,i6 1,i6 1]) hS (ae rfl) rfl (h_.prtL hk) fun g2 w hS _=>⟨_,rfl,?_⟩)
 replace hS:S κ (aa (.slice (some ⟨g2,0,none⟩) 1 1) 26 3 1 (ab PtV.cells [(⟨0,1,1⟩:PtV)])::L) (I) w:=hS.litRow rfl (by decide)
 obtain ⟨J3,hS,hJ3⟩:=S.lend (M:=[_]) hS
 obtain ⟨hgd5,ht⟩:=gdE ht
 refine eC hk (h:=Af 1 1 40 [(⟨0,1,1⟩:PtV)] (some ⟨g2,0,none⟩) 1 _ hgd5 hS) (k:=?_)
 rintro _ w ⟨o04,rfl,hS⟩
 refine ⟨_,rfl,?_⟩
 replace hS:=hJ3 _ _ hS
 replace hS:=hS.nz 2
 refine T ?_
 refine rE [1] hk fun a hk=>?_
 refine sg [1] hk ?_
 refine T ?_
 replace hS:=hS.fr 1
 obtain ⟨s6,hs6,ht⟩:=ao ht
 obtain ⟨P6,ho6,hS⟩:=vB hs6 hS
 rw [ho6] at hk
 replace hk:Fr a 40 [(1,pt P6.g 0)]:=hk.to
 refine rwV 0 (ptR o04) (pt P6.g 0) (by rw [ho6];rfl) ?_
 ·obtain ⟨q7,hq7,ht⟩:=ao ht
  refine eC hk (h:=jR P6 s6 _ hq7 hS) (k:=?_)
  rintro _ w ⟨rfl,hS⟩
  refine ⟨_,rfl,?_⟩
  replace hS:=hS.nz 2
  refine rE [1] hk fun a hk=>?_
  refine sg [1] hk ?_
  refine T ?_
  obtain ⟨q8,hq8,ht⟩:=ao ht
  refine eC hk (h:=ls P6 q7 _ hq8 hS) (k:=?_)
  rintro _ w ⟨B08,d08,rfl,hS⟩
  refine ⟨_,rfl,?_⟩
  replace hS:=hS.nz 3
  refine T ?_
  refine rE [1,2] hk fun a hk=>?_
  refine wp_seq ?_
  refine sg [] hk ?_
  refine T ?_
  refine rE [1,2,12] hk fun a hk=>?_
  obtain ⟨r9,hr9,ht⟩:=ao ht
  refine aB (fun a_ w_=>Fr a_ 40 [(1,pt P6.g 0),(2,.slice B08 q8.1.length d08)]∧S κ (crA bW 58 B08 d08 q8.1::roA P6 r9::aa (.slice (some ⟨g2,0,none⟩) 1 1) 26 3 1 (ab PtV.cells [(⟨0,1,1⟩:PtV)])::L) (I) w_) ?_ ?_
  ·refine wp_block ?_
   refine wp_loop (fun a_ w_=>∃ k9:Nat,∃ v9x0:RoS,(k9 ≤ (List.range 7).length)∧nV ((List.range 7).drop k9) v9x0 = some r9∧Fr a_ 40 [(1,pt P6.g 0),(2,.slice B08 q8.1.length d08),(12,i6 k9)]∧S κ (crA bW 58 B08 d08 q8.1::roA P6 v9x0::aa (.slice (some ⟨g2,0,none⟩) 1 1) 26 3 1 (ab PtV.cells [(⟨0,1,1⟩:PtV)])::L) (I) w_) (fun a_ _=>(List.range 7).length - (intOf (sl a_ 12)).toNat) ?_ ?_
   ·exact ⟨0,q8.2,Nat.zero_le _,hr9,hk.to,hS⟩
   clear hk hS
   rintro aL9 w ⟨k9,v9x0,hkl9,hI9,hk,hS⟩
   have hmu9:=hk.g (s:=12)
   have hlb9:=List.length_range (n:=7)
   refine sg [] hk ?_
   refine T ?_
   refine rE [1,2,12,13] hk fun a hk=>?_
   refine wp_seq ?_
   refine cD hk (fun hc13=>?_) (fun hc13=>?_)
   ·have hklt:k9 < (List.range 7).length:=by simp only [List.length_range] at *;omega
    rw [aF (z:=k9) (by simp at hklt;simp [hklt])] at hI9
    refine wp_skip ?_
    refine wp_seq ?_
    refine wp_block ?_
    refine rgL [1] hk ?_
    refine T ?_
    replace hS:=hS.pk [1] 0
    obtain ⟨q10,hq10,hI9⟩:=ao hI9
    refine eC hk (h:=jR P6 v9x0 _ hq10 hS) (k:=?_)
    rintro _ w ⟨rfl,hS⟩
    refine ⟨_,rfl,?_⟩
    replace hS:=hS.nz 3
    refine rE [1,2,12] hk fun a hk=>?_
    refine rgL [] hk ?_
    refine dA hk ?_
    refine T ?_
    refine rE [1,2,12] hk fun a hk=>?_
    replace hS:=hS.pk [1,0,0] 0
    exact ⟨⟨k9 + 1,q10,by omega,hI9,hk.to,hS⟩,aP hk.g hmu9 (by omega)⟩
   obtain rfl:k9 = (List.range 7).length:=by (first | omega | (simp only [List.length_range] at *;omega))
   rw [ax (Nat.le_refl _)] at hI9
   refine wp_exit ?_
   obtain rfl:=Option.some.inj hI9
   exact ⟨hk.to,hS⟩
  rintro a w ⟨hk,hS⟩
  refine sg [1,5,6] hk ?_
  refine T ?_
  replace hS:=hS.pk [1] 0
  obtain ⟨q11,hq11,ht⟩:=ao ht
  refine eC hk (h:=qa P6 0 r9 _ hq11 hS) (k:=?_)
  rintro _ w ⟨e011,rfl,hS⟩
  refine ⟨_,rfl,?_⟩
  replace hS:=hS.nz 5
  iterate 3 refine T ?_
  refine eA #[i6 0,i6 0,i6 0,i6 0,i6 0,i6 0,i6 0,.slice none 0 0,.slice none 0 0] hS (fun g12 w hS _=>?_)
  refine eS 0 hk hS (fun w hS _=>?_)
  refine T ?_
  refine rE [1,2,3,4] hk fun a hk=>?_
  refine sg [14] hk ?_
  iterate 4 refine T ?_
  rcases dt ((((q8.1.length:Nat):Int):Int) = 1) with ⟨he,hg3⟩ | ⟨he,hg3⟩
  ·rw [he]
   replace ht:=(if_pos hg3).symm.trans ht
   iterate 3 refine T ?_
   rcases bt q11.2 with hg6 | hg6
   ·refine rwV 4 (.bool q11.2) (.bool true) (by rw [hg6]) ?_
    refine rwV 5 (.bool q11.2) (.bool true) (by rw [hg6]) ?_
    refine rwV 6 (.bool q11.2) (.bool true) (by rw [hg6]) ?_
    replace ht:=(bT hg6).symm.trans ht
    iterate 2 refine T ?_
    refine LD 0 hk hS ?_
    iterate 3 refine T ?_
    rcases dt ((q11.1.i.state:Int) = 4) with ⟨he,hg12⟩ | ⟨he,hg12⟩
    ·rw [he]
     replace ht:=(if_pos hg12).symm.trans ht
     refine T ?_
     replace hS:=hS.pk [3] 0
     obtain ⟨q13,hq13,ht⟩:=ao ht
     refine eC hk (h:=ls P6 r9 _ hq13 hS) (k:=?_)
     rintro _ w ⟨B013,d013,rfl,hS⟩
     refine ⟨_,rfl,?_⟩
     replace hS:=hS.nz 7
     iterate 4 refine T ?_
     refine rE [0] hk fun a hk=>?_
     refine wp_ret ?_
     replace hS:=hS.pk [] 7
     obtain rfl:=Option.some.inj ht
     exact rt1 hk (hR_ _ _ ⟨rfl,hS⟩)
    rw [he]
    replace ht:=(if_neg hg12).symm.trans ht
    refine oF 12 34 true [13] ?_
    refine oE 12 34 true ?_
    refine oF 12 34 true [15,16] ?_
    iterate 2 refine T ?_
    refine rE [0] hk fun a hk=>?_
    refine wp_ret ?_
    replace hS:=hS.pk [] 6
    obtain rfl:=Option.some.inj ht
    exact rt1 hk (hR_ _ _ ⟨rfl,hS⟩)
   refine rwV 4 (.bool q11.2) (.bool false) (by rw [hg6]) ?_
   refine rwV 5 (.bool q11.2) (.bool false) (by rw [hg6]) ?_
   refine rwV 6 (.bool q11.2) (.bool false) (by rw [hg6]) ?_
   replace ht:=(bF hg6).symm.trans ht
   refine oF 6 28 true [7,8,9,10] ?_
   iterate 2 refine T ?_
   refine oF 12 34 true [13] ?_
   refine oE 12 34 true ?_
   refine oF 12 34 true [15,16] ?_
   iterate 2 refine T ?_
   refine rE [0] hk fun a hk=>?_
   refine wp_ret ?_
   replace hS:=hS.pk [] 6
   obtain rfl:=Option.some.inj ht
   exact rt1 hk (hR_ _ _ ⟨rfl,hS⟩)
  rw [he]
  replace ht:=(if_neg hg3).symm.trans ht
  refine oF 3 25 true [4] ?_
  iterate 2 refine T ?_
  refine oF 6 28 true [7,8,9,10] ?_
  iterate 2 refine T ?_
  refine oF 12 34 true [13] ?_
  refine oE 12 34 true ?_
  refine oF 12 34 true [15,16] ?_
  iterate 2 refine T ?_
  refine rE [0] hk fun a hk=>?_
  refine wp_ret ?_
  replace hS:=hS.pk [] 6
  obtain rfl:=Option.some.inj ht
  exact rt1 hk (hR_ _ _ ⟨rfl,hS⟩)
end
section
set_option maxRecDepth 100000 in
set_option maxHeartbeats 800000 in
theorem tO (w:Nat) (W:World) (hw:1 ≤ w∧w ≤ 4):
    Calls Tryz.prog 212 #[i6 w] W (fun r w'=>r = .returned (.int .i64 w)∧Below W.heap.size W w'):=by
  have hS:=S.start W
  refine jz Tryz.func212 rfl fun R_ hR_ a hz hd hargs=>?_
  replace hz:a.tmps.size = 8:=hz.trans (by kernel_rfl)
  have s0:=hargs 0 _ rfl
  clear hargs
  refine wp_seq ?_
  refine fO [] hz ?_
  refine ⟨i6 0,fun _ h_=>rk (bU rfl rfl),?_⟩
  intro a2 hput
  replace s0:=hput.o 0 s0
  have s2:sl a2 2 = i6 0:=hput.new 0 2 rfl
  replace hz:=hput.size.trans hz
  replace hd:=hput.defers.trans hd
  clear hput
  change Code.wp _ _ _ _ _
  refine wp_seq ?_
  refine wp_seq ?_
  refine fO [] hz ?_
  refine ⟨i6 w,fun _ h_=>rmv (h_.b 0 s0),
   .bool (decide ((w:Int) < 1)),fun _ h_=>rk (ky rfl (h_.d 0 3) rfl rfl (by first | rfl | exact mx _ _ | exact pE _ _ | simp)),?_⟩
  intro a3 hput
  replace s0:=hput.o 0 s0
  replace s2:=hput.o 2 s2
  have s4:sl a3 4 = .bool (decide ((w:Int) < 1)):=hput.new 1 4 rfl
  replace hz:=hput.size.trans hz
  replace hd:=hput.defers.trans hd
  clear hput
  change Code.wp _ _ _ _ _
  refine jf s4 (fun hc4=>?_) (fun hc4=>?_)
  · clear s4
    exfalso
    omega
  · clear s4
    refine wp_skip ?_
    change Code.wp _ _ _ _ _
    refine wp_seq ?_
    refine wp_seq ?_
    refine fO [] hz ?_
    refine ⟨i6 w,fun _ h_=>rmv (h_.b 0 s0),
     .bool (decide ((4:Int) < w)),fun _ h_=>rk (ky rfl (h_.d 0 5) rfl rfl (by first | rfl | exact mx _ _ | exact pE _ _ | simp)),?_⟩
    intro a4 hput
    replace s0:=hput.o 0 s0
    replace s2:=hput.o 2 s2
    have s6:sl a4 6 = .bool (decide ((4:Int) < w)):=hput.new 1 6 rfl
    replace hz:=hput.size.trans hz
    replace hd:=hput.defers.trans hd
    clear hput
    change Code.wp _ _ _ _ _
    refine jf s6 (fun hc6=>?_) (fun hc6=>?_)
    · clear s6
      exfalso
      omega
    · clear s6
      refine wp_skip ?_
      change Code.wp _ _ _ _ _
      refine wp_seq ?_
      refine fO [] hz ?_
      refine ⟨i6 w,fun _ h_=>rmv (h_.b 0 s0),
       i6 w,fun _ h_=>ras (h_.d 0 7),?_⟩
      intro a5 hput
      replace s2:sl a5 2 = i6 w:=hput.new 1 2 rfl
      replace hz:=hput.size.trans hz
      replace hd:=hput.defers.trans hd
      clear hput s0
      change Code.wp _ _ _ _ _
      refine wp_ret ?_
      refine Ad (P:=Tryz.prog) (fn:=Tryz.f212) hd s2 (hR_ _ _ ?_)
      exact ⟨rfl,(hS.old (by simp))⟩
theorem yk (l:List Int) (i:Nat) (z:Int):(u8s l).toArray.setIfInBounds i (.int .u8 z) = (u8s (l.set i z)).toArray:=by simp [u8s,List.map_set]
theorem wM (u:Int) (j:Nat):u / 256 ^ j / 256 = u / 256 ^ (j + 1):=by
  rw [Int.pow_succ,Int.ediv_ediv_of_nonneg (Int.pow_nonneg (by omega))]
theorem byte_at (n:Int) (j:Nat) (hj:j ≤ 3):n % 18446744073709551616 / 256 ^ j % 256 = n / 2 ^ (8 * j) % 256:=by
  rcases (by omega:j = 0 ∨ j = 1 ∨ j = 2 ∨ j = 3) with rfl | rfl | rfl | rfl
  · show n % 18446744073709551616 / 1 % 256 = n / 1 % 256;omega
  · show n % 18446744073709551616 / 256 % 256 = n / 256 % 256;omega
  · show n % 18446744073709551616 / 65536 % 256 = n / 65536 % 256;omega
  · show n % 18446744073709551616 / 16777216 % 256 = n / 16777216 % 256;omega
theorem kG (n:Int) (j:Nat) (hj:j ≤ 4):0 ≤ n % 18446744073709551616 / 256 ^ j∧n % 18446744073709551616 / 256 ^ j < 18446744073709551616:=by
  rcases (by omega:j = 0 ∨ j = 1 ∨ j = 2 ∨ j = 3 ∨ j = 4) with rfl | rfl | rfl | rfl | rfl
  · show 0 ≤ n % 18446744073709551616 / 1∧n % 18446744073709551616 / 1 < 18446744073709551616;omega
  · show 0 ≤ n % 18446744073709551616 / 256∧n % 18446744073709551616 / 256 < 18446744073709551616;omega
  · show 0 ≤ n % 18446744073709551616 / 65536∧n % 18446744073709551616 / 65536 < 18446744073709551616;omega
  · show 0 ≤ n % 18446744073709551616 / 16777216∧n % 18446744073709551616 / 16777216 < 18446744073709551616;omega
  · show 0 ≤ n % 18446744073709551616 / 4294967296∧n % 18446744073709551616 / 4294967296 < 18446744073709551616;omega
theorem sz (n:Int) (w j:Nat) (bs:List Int) (hj:j < w) (h:bs = List.replicate (w - j) 0 ++ aX j n):bs.set (w - 1 - j) (n / 2 ^ (8 * j) % 256) = List.replicate (w - (j + 1)) 0 ++ aX (j + 1) n:=by
  subst h
  obtain ⟨m,hm⟩:∃ m,w - j = m + 1:=⟨w - j - 1,by omega⟩
  rw [hm,show w - 1 - j = m by omega,show w - (j + 1) = m by omega,aX,List.replicate_succ',List.append_assoc,List.set_append_right _ _ (by simp)]
  simp
set_option maxRecDepth 100000 in
set_option maxHeartbeats 800000 in
theorem qw (n:Int) (w:Nat) (W:World) (hw:1 ≤ w∧w ≤ 4):
    Calls Tryz.prog 136 #[i6 n,i6 w] W (fun r w'=>∃ A c,r = .returned (.slice A w c)∧w'.ownsRow W.heap.size 5 1 (.slice A w c) w (u8s (aX w n))∧Below W.heap.size W w'):=by
  have hS:=S.start W
  refine jz Tryz.func136 rfl fun R_ hR_ a hz hd hargs=>?_
  replace hz:a.tmps.size = 29:=hz.trans (by kernel_rfl)
  have s0:=hargs 0 _ rfl
  have s1:=hargs 1 _ rfl
  clear hargs
  refine wp_seq ?_
  refine fO [] hz ?_
  refine ⟨.slice none 0 0,fun _ h_=>rk (bU rfl rfl),?_⟩
  intro a2 hput
  replace s0:=hput.o 0 s0
  replace s1:=hput.o 1 s1
  have s4:sl a2 4 = .slice none 0 0:=hput.new 0 4 rfl
  replace hz:=hput.size.trans hz
  replace hd:=hput.defers.trans hd
  clear hput
  change Code.wp _ _ _ _ _
  refine wp_seq ?_
  refine fO [1] hz ?_
  refine ⟨i6 w,fun _ h_=>rmv (h_.b 1 s1),?_⟩
  refine ⟨fun a_ h_=>qd (ae rfl) (ec rfl (AN (h_.d 0 8)) rfl) (tO w _ hw) ?_,trivial⟩
  rintro e w4 ⟨rfl,hb4⟩
  refine ⟨_,rfl,_,rfl,?_⟩
  clear h_ a_
  have hS4:=hS.below hb4
  clear hS hb4
  refine ⟨i6 w,fun _ h_=>ras (h_.d 1 9),?_⟩
  intro a3 hput
  replace s0:=hput.o 0 s0
  replace s1:sl a3 1 = i6 w:=hput.new 2 1 rfl
  replace s4:=hput.o 4 s4
  replace hz:=hput.size.trans hz
  replace hd:=hput.defers.trans hd
  clear hput
  change Code.wp _ _ _ _ _
  refine wp_seq ?_
  refine fO [1] hz ?_
  refine ⟨i6 w,fun _ h_=>rmv (h_.b 1 s1),?_⟩
  refine ⟨fun a_ h_=>zk (by_:=1) (e:=5) (z:=.int .u8 0) hS4 (ae rfl) rfl (h_.d 0 10) (h_.d 0 10) (by omega) fun g6 w6 hS6 hb6=>⟨_,rfl,?_⟩,trivial⟩
  clear h_ a_ hS4
  clear hb6
  refine ⟨.slice (some ⟨g6,0,none⟩) w w,fun _ h_=>ras (h_.d 1 11),?_⟩
  intro a5 hput
  replace s0:=hput.o 0 s0
  replace s1:=hput.o 1 s1
  replace s4:=hput.o 4 s4
  have s5:sl a5 5 = .slice (some ⟨g6,0,none⟩) w w:=hput.new 2 5 rfl
  replace hz:=hput.size.trans hz
  replace hd:=hput.defers.trans hd
  clear hput
  change Code.wp _ _ _ _ _
  refine wp_seq ?_
  refine fO [] hz ?_
  refine ⟨i6 n,fun _ h_=>rmv (h_.b 0 s0),
   .int .u64 (n % 18446744073709551616),fun _ h_=>rk (dS rfl (h_.d 0 12) (by kernel_rfl) (sn n) (by kernel_rfl)),
   .int .u64 (n % 18446744073709551616),fun _ h_=>ras (h_.d 1 13),?_⟩
  intro a7 hput
  replace s1:=hput.o 1 s1
  replace s4:=hput.o 4 s4
  replace s5:=hput.o 5 s5
  have s6:sl a7 6 = .int .u64 (n % 18446744073709551616):=hput.new 2 6 rfl
  replace hz:=hput.size.trans hz
  replace hd:=hput.defers.trans hd
  clear hput s0
  change Code.wp _ _ _ _ _
  refine wp_seq ?_
  refine wp_seq ?_
  refine fO [] hz ?_
  refine ⟨i6 w,fun _ h_=>rmv (h_.b 1 s1),
   i6 (w - 1),fun _ h_=>rk (gu rfl (h_.d 0 14) rfl (by omega) rfl),
   i6 (w - 1),fun _ h_=>ras (h_.d 1 15),?_⟩
  intro a8 hput
  replace s4:=hput.o 4 s4
  replace s5:=hput.o 5 s5
  replace s6:=hput.o 6 s6
  have s7:sl a8 7 = i6 (w - 1):=hput.new 2 7 rfl
  replace hz:=hput.size.trans hz
  replace hd:=hput.defers.trans hd
  clear hput s1
  change Code.wp _ _ _ _ _
  refine wp_block ?_
  refine wp_loop (fun a_ w_=>∃ j:Nat,∃ bs:List Int,(j ≤ w)∧(bs = List.replicate (w - j) 0 ++ aX j n)∧a_.tmps.size = 29∧a_.defers = []∧sl a_ 4 = .slice none 0 0∧sl a_ 5 = .slice (some ⟨g6,0,none⟩) w w∧sl a_ 6 = .int .u64 (n % 18446744073709551616 / 256 ^ j)∧sl a_ 7 = i6 ((w:Int) - 1 - j)∧S (kap W) (ai g6 5 ((u8s bs).toArray)::[]) ((cA W W.heap.size)::[]) w_) (fun a_ _=>(intOf (sl a_ 7) + 1).toNat) ?_ ?_
  · rw [show Array.replicate w (Value.int .u8 0) = (u8s (List.replicate w 0)).toArray by simp [u8s]] at hS6
    replace s6:sl a8 6 = .int .u64 (n % 18446744073709551616 / 256 ^ 0):=s6.trans (by simp)
    replace s7:sl a8 7 = i6 ((w:Int) - 1 - ((0:Nat):Int)):=s7.trans (by simp)
    exact ⟨0,List.replicate w 0,Nat.zero_le _,by simp [aX],hz,hd,s4,s5,s6,s7,hS6⟩
  · clear hz hd s4 s5 s6 s7 hS6
    rintro a9 w9 ⟨j,bs,hc0_0,hc0_1,hz,hd,s4,s5,s6,s7,hS9⟩
    have hmu0:=s7
    refine wp_seq ?_
    refine wp_seq ?_
    refine fO [] hz ?_
    refine ⟨i6 ((w:Int) - 1 - j),fun _ h_=>rmv (h_.b 7 s7),
     .bool (decide ((0:Int) ≤ (w:Int) - 1 - j)),fun _ h_=>rk (ky rfl (h_.d 0 16) rfl rfl (by first | rfl | exact mx _ _ | exact pE _ _ | simp)),?_⟩
    intro a10 hput
    replace s4:=hput.o 4 s4
    replace s5:=hput.o 5 s5
    replace s6:=hput.o 6 s6
    replace s7:=hput.o 7 s7
    have s16:sl a10 16 = i6 ((w:Int) - 1 - j):=hput.new 0 16 rfl
    have s17:sl a10 17 = .bool (decide ((0:Int) ≤ (w:Int) - 1 - j)):=hput.new 1 17 rfl
    replace hz:=hput.size.trans hz
    replace hd:=hput.defers.trans hd
    clear hput
    change Code.wp _ _ _ _ _
    refine jf s17 (fun hc17=>?_) (fun hc17=>?_)
    · clear s17
      refine wp_skip ?_
      change Code.wp _ _ _ _ _
      refine wp_seq ?_
      refine wp_block ?_
      refine wp_seq ?_
      refine fO [6] hz ?_
      refine ⟨.slice (some ⟨g6,0,none⟩) w w,fun _ h_=>rmv (h_.b 5 s5),
       i6 ((w:Int) - 1 - j),fun _ h_=>rmv (h_.b 7 s7),
       .int .u64 (n % 18446744073709551616 / 256 ^ j),fun _ h_=>rmv (h_.b 6 s6),
       .int .u64 (n % 18446744073709551616 / 256 ^ j % 256),fun _ h_=>rk (cw rfl (h_.d 2 22) rfl (by show (pure _:Sem Value) = pure _;exact congrArg _ (congrArg _ (Int.tmod_eq_emod_of_nonneg (kG n j (by omega)).1)))),
       .int .u8 (n / 2 ^ (8 * j) % 256),fun _ h_=>rk (dS rfl (h_.d 3 23) (by kernel_rfl) (by rw [wrap_u8 (by omega),byte_at n j (by omega)]) (by kernel_rfl)),
       pt g6 (w - 1 - j),fun _ h_=>rk (nN (size:=1) rfl (h_.d 0 20) (h_.d 1 21) (by kernel_rfl) (by omega) (by omega)),?_⟩
      refine ⟨fun a_ h_=>uH (k:=w - 1 - j) (u:=.int .u8 (n / 2 ^ (8 * j) % 256)) 0 hS9 rfl (ae rfl) rfl (h_.d 5 25) (h_.d 4 24) rfl (by kernel_rfl) (by simp [u8s,hc0_1,bm];omega) rfl fun w12 hS12 _=>⟨_,rfl,?_⟩,trivial⟩
      clear h_ a_ hS9
      rw [yk] at hS12
      replace hS12:S (kap W) ((ai g6 5 ((u8s (bs.set (w - 1 - j) (n / 2 ^ (8 * j) % 256))).toArray))::[]) ((cA W W.heap.size)::[]) w12:=hS12
      intro a11 hput
      replace s4:=hput.o 4 s4
      replace s5:=hput.o 5 s5
      replace s6:=hput.o 6 s6
      replace s7:=hput.o 7 s7
      replace s16:=hput.o 16 s16
      have s20:sl a11 20 = .slice (some ⟨g6,0,none⟩) w w:=hput.new 0 20 rfl
      have s21:sl a11 21 = i6 ((w:Int) - 1 - j):=hput.new 1 21 rfl
      have s22:sl a11 22 = .int .u64 (n % 18446744073709551616 / 256 ^ j):=hput.new 2 22 rfl
      have s23:sl a11 23 = .int .u64 (n % 18446744073709551616 / 256 ^ j % 256):=hput.new 3 23 rfl
      have s24:sl a11 24 = .int .u8 (n / 2 ^ (8 * j) % 256):=hput.new 4 24 rfl
      have s25:sl a11 25 = pt g6 (w - 1 - j):=hput.new 5 25 rfl
      replace hz:=hput.size.trans hz
      replace hd:=hput.defers.trans hd
      clear hput
      change Code.wp _ _ _ _ _
      refine fO [] hz ?_
      refine ⟨.int .u64 (n % 18446744073709551616 / 256 ^ j),fun _ h_=>rmv (h_.b 6 s6),
       .int .u64 (n % 18446744073709551616 / 256 ^ (j + 1)),fun _ h_=>rk (cw rfl (h_.d 0 26) rfl (by show (pure _:Sem Value) = pure _;rw [Int.tdiv_eq_ediv_of_nonneg (kG n j (by omega)).1,wM];exact congrArg _ (congrArg _ (by rw [sn];exact Int.emod_eq_of_lt (kG n (j + 1) (by omega)).1 (kG n (j + 1) (by omega)).2)))),
       .int .u64 (n % 18446744073709551616 / 256 ^ (j + 1)),fun _ h_=>ras (h_.d 1 27),?_⟩
      intro a13 hput
      replace s4:=hput.o 4 s4
      replace s5:=hput.o 5 s5
      replace s6:sl a13 6 = .int .u64 (n % 18446744073709551616 / 256 ^ (j + 1)):=hput.new 2 6 rfl
      replace s7:=hput.o 7 s7
      replace s16:=hput.o 16 s16
      replace s20:=hput.o 20 s20
      replace s21:=hput.o 21 s21
      replace s22:=hput.o 22 s22
      replace s23:=hput.o 23 s23
      replace s24:=hput.o 24 s24
      replace s25:=hput.o 25 s25
      have s26:sl a13 26 = .int .u64 (n % 18446744073709551616 / 256 ^ j):=hput.new 0 26 rfl
      have s27:sl a13 27 = .int .u64 (n % 18446744073709551616 / 256 ^ (j + 1)):=hput.new 1 27 rfl
      replace hz:=hput.size.trans hz
      replace hd:=hput.defers.trans hd
      clear hput
      change Code.wp _ _ _ _ _
      refine fO [] hz ?_
      refine ⟨i6 ((w:Int) - 1 - j),fun _ h_=>rmv (h_.b 7 s7),
       i6 ((w:Int) - 1 - j - 1),fun _ h_=>rk (gu rfl (h_.d 0 18) rfl (by omega) rfl),
       i6 ((w:Int) - 1 - j - 1),fun _ h_=>ras (h_.d 1 19),?_⟩
      intro a14 hput
      replace s4:=hput.o 4 s4
      replace s5:=hput.o 5 s5
      replace s6:=hput.o 6 s6
      replace s7:sl a14 7 = i6 ((w:Int) - 1 - j - 1):=hput.new 2 7 rfl
      replace s16:=hput.o 16 s16
      have s18:sl a14 18 = i6 ((w:Int) - 1 - j):=hput.new 0 18 rfl
      have s19:sl a14 19 = i6 ((w:Int) - 1 - j - 1):=hput.new 1 19 rfl
      replace s20:=hput.o 20 s20
      replace s21:=hput.o 21 s21
      replace s22:=hput.o 22 s22
      replace s23:=hput.o 23 s23
      replace s24:=hput.o 24 s24
      replace s25:=hput.o 25 s25
      replace s26:=hput.o 26 s26
      replace s27:=hput.o 27 s27
      replace hz:=hput.size.trans hz
      replace hd:=hput.defers.trans hd
      clear hput
      rw [show (w:Int) - 1 - j - 1 = w - 1 - ((j + 1:Nat):Int) by omega] at s7
      refine ⟨⟨j + 1,_,by omega,sz n w j bs (by omega) hc0_1,hz,hd,s4,s5,s6,s7,hS12⟩,?_⟩
      show (intOf (sl a14 7) + 1).toNat < (intOf (sl a9 7) + 1).toNat
      rw [show sl a14 7 = _ from s7,show sl a9 7 = _ from hmu0]
      simp only [intOf]
      omega
    · clear s17
      refine wp_exit ?_
      change Code.wp _ _ _ _ _
      refine wp_seq ?_
      refine fO [] hz ?_
      refine ⟨.slice (some ⟨g6,0,none⟩) w w,fun _ h_=>rmv (h_.b 5 s5),
       .slice (some ⟨g6,0,none⟩) w w,fun _ h_=>ras (h_.d 0 28),?_⟩
      intro a15 hput
      replace s4:sl a15 4 = .slice (some ⟨g6,0,none⟩) w w:=hput.new 1 4 rfl
      replace hz:=hput.size.trans hz
      replace hd:=hput.defers.trans hd
      clear hput s5 s6 s7 s16
      change Code.wp _ _ _ _ _
      refine wp_ret ?_
      refine Ad (P:=Tryz.prog) (fn:=Tryz.f136) hd s4 (hR_ _ _ ?_)
      obtain rfl:j = w:=by omega
      simp only [Nat.sub_self,List.replicate_zero,List.nil_append] at hc0_1
      subst hc0_1
      exact ⟨_,_,rfl,tX (hS9.blk (i:=0) rfl) (hS9.base (i:=0) rfl (by simp:cA W W.heap.size ∈ _)) (by simp [u8s,bm]) (by omega),(hS9.old (by simp))⟩
end
section
theorem ru (bs:List Int) (k:Nat) (a b:Int) (h0:bs[2 * k]? = some a) (h1:bs[2 * k + 1]? = some b):aY (bs.take (2 * (k + 1))) = aY (bs.take (2 * k)) + (256 * a + b):=by
  rw [show 2 * (k + 1) = 2 * k + 1 + 1 by omega,ja bs (2 * k + 1) b h1,ja bs (2 * k) a h0,if_neg (by omega),if_pos (by omega)];omega
theorem oA (s t:Int) (hs:0 ≤ s) (ht:0 ≤ t∧t ≤ 65535):aM (s + t) = if 65535 < aM s + t then aM s + t - 65535 else aM s + t:=by
  unfold aM
  split <;> split <;> (try split) <;> omega
set_option maxRecDepth 100000 in
set_option maxHeartbeats 8000000 in
theorem xC (A:Option Addr) (n c:Nat) (bs:List Int) (W:World) (hn:n ≤ 100000) (hev:n % 2 = 0) (hr:Reads W W.heap.size 1 A n (u8s bs)) (hby:Bys bs):
    Calls Tryz.prog 70 #[.slice A n c] W (fun r w'=>r = .returned (i6 (65535 - aM (aY bs)))∧Below W.heap.size W w'):=by
 have hbl:bs.length = n:=uL hr
 have hS:=S.start W
 refine wK 38 Tryz.func70 (fun R_ hR_ a hk=>?_)
 refine sg [] hk ?_
 refine T ?_
 refine rE [0,2] hk ?_
 clear hk
 intro a2 hk
 refine sg [] hk ?_
 refine T ?_
 refine rE [0,2,3] hk ?_
 clear hk
 intro a3 hk
 refine wp_seq ?_
 refine sg [] hk ?_
 refine T ?_
 refine rE [0,2,3,4] hk ?_
 clear hk
 intro a4 hk
 refine wp_block ?_
 refine wp_loop (fun a_ w_=>∃ k:Nat,∃ m:Int,(2 * k ≤ n)∧(0 ≤ m∧m ≤ 65535)∧(m = aM (aY (bs.take (2 * k))))∧Fr a_ 38 [(0,.slice A n c),(2,i6 0),(3,i6 m),(4,i6 (2 * (k:Int)))]∧S (kap W) ([]) ((cA W W.heap.size)::[]) w_) (fun a_ _=>n - (intOf (sl a_ 4)).toNat) ?_ ?_
 ·exact ⟨0,0,Nat.zero_le _,by omega,rfl,hk.to,hS⟩
 clear hk hS
 rintro a5 w5 ⟨k,m,hc0_0,hc0_1,hc0_2,hk,hS5⟩
 have hmu0:=hk.g (s:=4)
 refine wp_seq ?_
 refine sg [] hk ?_
 iterate 4 refine T ?_
 refine rE [0,2,3,4,5,6,7,8] hk ?_
 clear hk
 intro a6 hk
 refine cD hk (fun hc8=>?_) (fun hc8=>?_)
 ·refine wp_skip ?_
  refine wp_seq ?_
  refine wp_block ?_
  refine sg [] hk ?_
  iterate 3 refine T ?_
  obtain ⟨b8,o8,z8,hA8,hb8,hz8,hq8⟩:=Reads.byte_at (k:=((2 * (k:Int)):Int).toNat) ((Reads.old hr (hS5.old (by simp)))) (by omega)
  have hzb8:=hby _ (List.mem_of_getElem? hz8)
  refine rD (pt b8 (o8 + ((2 * (k:Int)):Int).toNat)) (fun _ h_=>rk (az (size:=1) rfl (h_.x hk) hA8 (h_.x hk) (by kernel_rfl) (by omega) (by simp))) ?_
  refine rD (.int .u8 z8) (fun _ h_=>rk (bB rfl (h_.x hk) (by kernel_rfl) (show w5.cell? ⟨b8,o8 + ((2 * (k:Int)):Int).toNat,none⟩ = some (.int .u8 z8) from hq8))) ?_
  refine rD (i6 z8) (fun _ h_=>rk (iK rfl (h_.x hk) (by kernel_rfl) (wrap_i64 (by omega)) (by kernel_rfl))) ?_
  refine rD (i6 (256 * z8)) (fun _ h_=>rk (xT rfl rfl (h_.x hk) (by omega) rfl)) ?_
  refine rD (i6 (m + (256 * z8))) (fun _ h_=>rk (aD rfl (h_.x hk) (h_.x hk) (by omega) rfl)) ?_
  refine T ?_
  refine rE [0,2,3,4,5,6,7,11,12,13,14,15,16,17,18] hk ?_
  clear hk
  intro a7 hk
  refine wp_seq ?_
  refine sg [] hk ?_
  refine T ?_
  refine rD (i6 (2 * (k:Int) + 1)) (fun _ h_=>rk (aD rfl (h_.x hk) rfl (by omega) rfl)) ?_
  iterate 3 refine T ?_
  refine rE [0,2,3,4,5,6,7,11,12,13,14,15,16,17,18,19,20,21,22,23] hk ?_
  clear hk
  intro a9 hk
  refine cD hk (fun hc23=>?_) (fun hc23=>?_)
  ·refine rgL [] hk ?_
   iterate 3 refine T ?_
   refine rD (i6 (2 * (k:Int) + 1)) (fun _ h_=>rk (aD rfl (h_.x hk) rfl (by omega) rfl)) ?_
   obtain ⟨b11,o11,z11,hA11,hb11,hz11,hq11⟩:=Reads.byte_at (k:=((2 * (k:Int) + 1):Int).toNat) ((Reads.old hr (hS5.old (by simp)))) (by omega)
   have hzb11:=hby _ (List.mem_of_getElem? hz11)
   refine rD (pt b11 (o11 + ((2 * (k:Int) + 1):Int).toNat)) (fun _ h_=>rk (az (size:=1) rfl (h_.x hk) hA11 (h_.x hk) (by kernel_rfl) (by omega) (by simp))) ?_
   refine rD (.int .u8 z11) (fun _ h_=>rk (bB rfl (h_.x hk) (by kernel_rfl) (show w5.cell? ⟨b11,o11 + ((2 * (k:Int) + 1):Int).toNat,none⟩ = some (.int .u8 z11) from hq11))) ?_
   refine rD (i6 z11) (fun _ h_=>rk (iK rfl (h_.x hk) (by kernel_rfl) (wrap_i64 (by omega)) (by kernel_rfl))) ?_
   refine rD (i6 (m + (256 * z8) + z11)) (fun _ h_=>rk (aD rfl (h_.x hk) (h_.x hk) (by omega) rfl)) ?_
   refine T ?_
   refine rE [0,2,3,4,5,6,7,11,12,13,14,15,16,17,18,19,20,21,22,24,25,26,27,28,29,30,31] hk ?_
   clear hk
   intro a10 hk
   refine sg [] hk ?_
   iterate 2 refine T ?_
   refine rE [0,2,3,4,5,6,7,11,12,13,14,15,16,17,18,19,20,21,22,24,25,26,27,28,29,30,31,32,33] hk ?_
   clear hk
   intro a12 hk
   refine cD hk (fun hc33=>?_) (fun hc33=>?_)
   ·refine rgL [] hk ?_
    refine T ?_
    refine rD (i6 (m + (256 * z8) + z11 - 65535)) (fun _ h_=>rk (gu rfl (h_.x hk) rfl (by omega) rfl)) ?_
    refine T ?_
    refine rE [0,2,3,4,5,6,7,11,12,13,14,15,16,17,18,19,20,21,22,24,25,26,27,28,29,30,31,32,34,35] hk ?_
    clear hk
    intro a13 hk
    refine rgL [] hk ?_
    refine T ?_
    refine rD (i6 (2 * (k:Int) + 2)) (fun _ h_=>rk (aD rfl (h_.x hk) rfl (by omega) rfl)) ?_
    refine T ?_
    refine rE [0,2,3,4,5,6,7,9,10,11,12,13,14,15,16,17,18,19,20,21,22,24,25,26,27,28,29,30,31,32,34,35] hk ?_
    clear hk
    intro a14 hk
    rw [show 2 * (k:Int) + 2 = 2 * ((k + 1:Nat):Int) by omega] at hk
    refine ⟨⟨k + 1,(m + (256 * z8) + z11 - 65535),by omega,by omega,by rw [ru bs k _ _ (by rw [← show (2 * (k:Int)).toNat = 2 * k by omega];exact hz8) (by rw [← show (2 * (k:Int) + 1).toNat = 2 * k + 1 by omega];exact hz11),oA _ _ (by have:=gS (bs.take (2 * k)) (fun z hz=>hby z (List.mem_of_mem_take hz));omega) (by omega),← hc0_2];split <;> omega,hk.to,hS5⟩,?_⟩
    show n - (intOf (sl a14 4)).toNat < n - (intOf (sl a5 4)).toNat
    rw [show sl a14 4 = _ from hk.g,show sl a5 4 = _ from hmu0]
    simp only [intOf]
    omega
   refine wp_skip ?_
   refine rgL [] hk ?_
   refine T ?_
   refine rD (i6 (2 * (k:Int) + 2)) (fun _ h_=>rk (aD rfl (h_.x hk) rfl (by omega) rfl)) ?_
   refine T ?_
   refine rE [0,2,3,4,5,6,7,9,10,11,12,13,14,15,16,17,18,19,20,21,22,24,25,26,27,28,29,30,31,32] hk ?_
   clear hk
   intro a15 hk
   rw [show 2 * (k:Int) + 2 = 2 * ((k + 1:Nat):Int) by omega] at hk
   refine ⟨⟨k + 1,(m + (256 * z8) + z11),by omega,by omega,by rw [ru bs k _ _ (by rw [← show (2 * (k:Int)).toNat = 2 * k by omega];exact hz8) (by rw [← show (2 * (k:Int) + 1).toNat = 2 * k + 1 by omega];exact hz11),oA _ _ (by have:=gS (bs.take (2 * k)) (fun z hz=>hby z (List.mem_of_mem_take hz));omega) (by omega),← hc0_2];split <;> omega,hk.to,hS5⟩,?_⟩
   show n - (intOf (sl a15 4)).toNat < n - (intOf (sl a5 4)).toNat
   rw [show sl a15 4 = _ from hk.g,show sl a5 4 = _ from hmu0]
   simp only [intOf]
   omega
  exfalso
  omega
 refine wp_exit ?_
 refine sg [] hk ?_
 refine T ?_
 refine rD (i6 (65535 - m)) (fun _ h_=>rk (gu rfl rfl (h_.x hk) (by omega) rfl)) ?_
 refine T ?_
 refine rE [2] hk ?_
 clear hk
 intro a16 hk
 refine wp_ret ?_
 refine rt1 hk (hR_ _ _ ?_)
 obtain rfl:n = 2 * k:=by omega
 rw [List.take_of_length_le (by omega)] at hc0_2
 exact ⟨by rw [hc0_2],(hS5.old (by simp))⟩
end
section
set_option maxRecDepth 100000 in
set_option maxHeartbeats 8000000 in
theorem vO {κ:Kap} {L I:List Atom} (A:Option Addr) (n c q_:Nat) (v:Int) (bs:List Int) (W:World) (hw:1 ≤ q_∧q_ ≤ 4) (hn:n ≤ 200000) (hS:S κ (aa (.slice A n c) 5 1 n (u8s bs)::L) (I) W):
    Calls Tryz.prog 55 #[.slice A n c,i6 q_,i6 v] W (fun r w'=>∃ A' c',r = .returned (.slice A' (n + q_) c')∧S κ (aa (.slice A' (n + q_) c') 5 1 (n + q_) (u8s (bs ++ aX q_ v))::L) I w'):=by
 refine wK 12 Tryz.func55 (fun R_ hR_ a hk=>?_)
 refine sg [] hk ?_
 refine T ?_
 refine rE [0,1,2,6] hk ?_
 clear hk
 intro a2 hk
 refine sg [3,4] hk ?_
 iterate 3 refine T ?_
 refine eC hk (h:=qw v q_ _ (by omega)) (k:=?_)
 rintro e w4 ⟨A4,c4,rfl,ho4,hb4⟩
 refine ⟨_,rfl,?_⟩
 have hS4:=hS.pushRowI hb4 ho4
 clear hS hb4 ho4
 refine eF (fun a_ h_=>sap (bytes:=1) (news:=u8s (aX q_ v)) hS4 0 (ae rfl) rfl (h_.x hk) (h_.x hk) (hS4.rdI (i:=0) rfl) (by exact ff _) (by (try unfold maxLen);omega) (by (try unfold maxLen);omega) fun A5 c5 w5 hS5=>⟨_,rfl,?_⟩)
 clear h_ a_ hS4
 replace hS5:=hS5.nz 1
 refine T ?_
 refine rE [6] hk ?_
 clear hk
 intro a3 hk
 refine wp_ret ?_
 refine rt1 hk (hR_ _ _ ?_)
 rw [← hN] at hS5
 exact ⟨_,_,rfl,hS5.dropI⟩
end
section
set_option maxRecDepth 100000
set_option maxHeartbeats 8000000
theorem ln {κ:Kap} {L I:List Atom} (bs:List Int) (A:Option Addr) (c q:Nat) (v:Int) (W:World) (h1:1 ≤ q∧q ≤ 4) (h2:bs.length ≤ 100000) (hS:S κ (aa (.slice A bs.length c) 5 1 bs.length (u8s bs)::L) I W):
    Calls Tryz.prog 55 #[.slice A bs.length c,i6 q,i6 v] W (fun r w'=>∃ B0 d0,r = .returned (.slice B0 (bs ++ aX q v).length d0)∧S κ (aa (.slice B0 (bs ++ aX q v).length d0) 5 1 (bs ++ aX q v).length (u8s (bs ++ aX q v))::L) I w'):=by
  rw [show (bs ++ aX q v).length = bs.length + q by rw [List.length_append,bm]]
  exact vO A bs.length c q v bs W h1 (by omega) hS
def ml (p:PkV):Option ((List Int)):=if (p.kind:Int) = 1 then if ([]:List Int).length + 2 ≤ 100000 then if ([] ++ aX 2 p.every).length + 2 ≤ 100000 then if ([] ++ aX 2 p.every ++ [0,p.prio % 256]).length + 4 ≤ 100000 then if ([] ++ aX 2 p.every ++ [0,p.prio % 256] ++ aX 4 p.dead).length + 4 ≤ 100000 then if ([] ++ aX 2 p.every ++ [0,p.prio % 256] ++ aX 4 p.dead ++ aX 4 p.dr).length + 4 ≤ 100000 then if (0:Int) < ((p.seen.length:Nat):Int) then none else some ([] ++ aX 2 p.every ++ [0,p.prio % 256] ++ aX 4 p.dead ++ aX 4 p.dr ++ aX 4 p.bdr) else none else none else none else none else none else none
theorem sy {κ:Kap} {L I:List Atom} (p:PkV) (pp:SlP × SlP × SlP × SlP × SlP) (W:World) {r_:(List Int)} (ht:(ml p) = some r_) (hS:S κ (L) (aa (.slice pp.1.A p.seen.length pp.1.c) 3 1 p.seen.length (aw p.seen)::aa (.slice pp.2.1.A p.heads.length pp.2.1.c) 63 7 p.heads.length (ab aH p.heads)::aa (.slice pp.2.2.1.A p.wants.length pp.2.2.1.c) 111 3 p.wants.length (ab KeyV.cells p.wants)::crA lsFn 66 pp.2.2.2.1.A pp.2.2.2.1.c p.lsas::aa (.slice pp.2.2.2.2.A p.acks.length pp.2.2.2.2.c) 63 7 p.acks.length (ab aH p.acks)::I) W):
    Calls Tryz.prog 54 #[.agg #[i6 p.kind,i6 p.frm,i6 p.every,i6 p.dead,i6 p.prio,i6 p.dr,i6 p.bdr,.slice pp.1.A p.seen.length pp.1.c,.bool p.init,.bool p.more,.bool p.master,i6 p.seq,.slice pp.2.1.A p.heads.length pp.2.1.c,.slice pp.2.2.1.A p.wants.length pp.2.2.1.c,.slice pp.2.2.2.1.A p.lsas.length pp.2.2.2.1.c,.slice pp.2.2.2.2.A p.acks.length pp.2.2.2.2.c]] W (fun r w'=>∃ B0 d0,r = .returned (.slice B0 r_.length d0)∧S κ (aa (.slice B0 r_.length d0) 5 1 r_.length (u8s r_)::L) (aa (.slice pp.1.A p.seen.length pp.1.c) 3 1 p.seen.length (aw p.seen)::aa (.slice pp.2.1.A p.heads.length pp.2.1.c) 63 7 p.heads.length (ab aH p.heads)::aa (.slice pp.2.2.1.A p.wants.length pp.2.2.1.c) 111 3 p.wants.length (ab KeyV.cells p.wants)::crA lsFn 66 pp.2.2.2.1.A pp.2.2.2.1.c p.lsas::aa (.slice pp.2.2.2.2.A p.acks.length pp.2.2.2.2.c) 63 7 p.acks.length (ab aH p.acks)::I) w'):=by
 refine wK 143 Tryz.func54 (fun R_ hR_ a hk=>?_)
 refine sg [0] hk ?_
 refine eB hk hS (fun g2 w hS _=>?_)
 refine T ?_
 refine rE [1] hk fun a hk=>?_
 refine sg [] hk ?_
 refine T ?_
 refine rE [1,3] hk fun a hk=>?_
 refine wp_seq ?_
 refine sg [] hk ?_
 refine T ?_
 refine LD 0 hk hS ?_
 refine T ?_
 refine rE [1,3,11] hk fun a hk=>?_
 refine cD hk (fun hc11=>?_) (fun hc11=>?_)
 ·replace ht:=(if_pos hc11).symm.trans ht
  refine sg [2,3] hk ?_
  refine T ?_
  refine LDS 0 6 hk hS ?_
  refine eA #[i6 0,i6 0,i6 0,i6 0,i6 0,.slice none 0 0] hS (fun g3 w hS _=>?_)
  refine eS 0 hk hS (fun w hS _=>?_)
  refine rE [3,4] hk fun a hk=>?_
  refine sg [3] hk ?_
  iterate 2 refine T ?_
  refine LD 0 hk hS ?_
  have hS:=hS.nilrow 5 1
  replace hS:=hS.nz 3
  obtain ⟨hgd4,ht⟩:=gdE ht
  refine eC hk (h:=ln [] none 0 2 p.every _ (by decide) (by omega) hS) (k:=?_)
  rintro _ w ⟨A5,c5,rfl,hS⟩
  refine ⟨_,rfl,?_⟩
  replace hS:=hS.nz 3
  refine T ?_
  refine rE [3,4] hk fun a hk=>?_
  refine sg [4,5] hk ?_
  iterate 2 refine T ?_
  refine LD 1 hk hS ?_
  refine rD (.int .u8 (p.prio % 256)) (fun _ h_=>rk (dS rfl (h_.x hk) (by kernel_rfl) (gz _) (by kernel_rfl))) ?_
  refine eF (fun a_ h_=>aZ (e:=5) (cells:=#[.int .u8 0,.int .u8 (p.prio % 256)]) hS (ae rfl) rfl (h_.prtL hk) fun g6 w hS _=>⟨_,rfl,?_⟩)
  obtain ⟨hgd8,ht⟩:=gdE ht
  refine eF (fun a_ h_=>ia (bytes:=1) (ys:=[0,p.prio % 256]) iO hS 1 (ae rfl) rfl (h_.x hk) (h_.x hk) (ay (hS.blk (i:=0) rfl) rfl) (by first | omega | (simp only [List.length_append,List.length_cons,List.length_nil,bm] at *;omega)) fun A7 c7 w hS=>⟨_,rfl,?_⟩)
  replace hS:=hS.nz 4
  refine T ?_
  refine rE [3,4] hk fun a hk=>?_
  refine sg [3] hk ?_
  iterate 2 refine T ?_
  refine LD 2 hk hS ?_
  obtain ⟨hgd9,ht⟩:=gdE ht
  replace hS:=hS.fr 1
  refine eC hk (h:=ln ([] ++ aX 2 p.every ++ [0,p.prio % 256]) A7 c7 4 p.dead _ (by decide) (by omega) hS) (k:=?_)
  rintro _ w ⟨A10,c10,rfl,hS⟩
  refine ⟨_,rfl,?_⟩
  replace hS:=hS.nz 4
  refine T ?_
  refine rE [3,4] hk fun a hk=>?_
  refine sg [3] hk ?_
  iterate 2 refine T ?_
  refine LD 2 hk hS ?_
  obtain ⟨hgd11,ht⟩:=gdE ht
  refine eC hk (h:=ln ([] ++ aX 2 p.every ++ [0,p.prio % 256] ++ aX 4 p.dead) A10 c10 4 p.dr _ (by decide) (by omega) hS) (k:=?_)
  rintro _ w ⟨A12,c12,rfl,hS⟩
  refine ⟨_,rfl,?_⟩
  replace hS:=hS.nz 4
  refine T ?_
  refine rE [3,4] hk fun a hk=>?_
  refine sg [3] hk ?_
  iterate 2 refine T ?_
  refine LD 2 hk hS ?_
  obtain ⟨hgd13,ht⟩:=gdE ht
  refine eC hk (h:=ln ([] ++ aX 2 p.every ++ [0,p.prio % 256] ++ aX 4 p.dead ++ aX 4 p.dr) A12 c12 4 p.bdr _ (by decide) (by omega) hS) (k:=?_)
  rintro _ w ⟨A14,c14,rfl,hS⟩
  refine ⟨_,rfl,?_⟩
  replace hS:=hS.nz 4
  refine T ?_
  refine rE [3,4] hk fun a hk=>?_
  refine wp_seq ?_
  refine sg [] hk ?_
  refine T ?_
  refine rE [3,4,5] hk fun a hk=>?_
  refine wp_block ?_
  refine wp_loop (fun a_ w_=>Fr a_ 143 [(3,.slice A14 (([] ++ aX 2 p.every ++ [0,p.prio % 256] ++ aX 4 p.dead ++ aX 4 p.dr ++ aX 4 p.bdr).length) c14),(4,pt g3 0),(5,i6 0)]∧S κ ((aa (.slice A14 (([] ++ aX 2 p.every ++ [0,p.prio % 256] ++ aX 4 p.dead ++ aX 4 p.dr ++ aX 4 p.bdr).length) c14) 5 1 (([] ++ aX 2 p.every ++ [0,p.prio % 256] ++ aX 4 p.dead ++ aX 4 p.dr ++ aX 4 p.bdr).length) (u8s ([] ++ aX 2 p.every ++ [0,p.prio % 256] ++ aX 4 p.dead ++ aX 4 p.dr ++ aX 4 p.bdr)))::ai g6 5 #[.int .u8 0,.int .u8 (p.prio % 256)]::ai g3 46 #[i6 p.every,i6 p.dead,i6 p.prio,i6 p.dr,i6 p.bdr,.slice pp.1.A p.seen.length pp.1.c]::ai g2 56 #[i6 p.kind,i6 p.frm,i6 p.every,i6 p.dead,i6 p.prio,i6 p.dr,i6 p.bdr,.slice pp.1.A p.seen.length pp.1.c,.bool p.init,.bool p.more,.bool p.master,i6 p.seq,.slice pp.2.1.A p.heads.length pp.2.1.c,.slice pp.2.2.1.A p.wants.length pp.2.2.1.c,.slice pp.2.2.2.1.A p.lsas.length pp.2.2.2.1.c,.slice pp.2.2.2.2.A p.acks.length pp.2.2.2.2.c]::L) (aa (.slice pp.1.A p.seen.length pp.1.c) 3 1 p.seen.length (aw p.seen)::aa (.slice pp.2.1.A p.heads.length pp.2.1.c) 63 7 p.heads.length (ab aH p.heads)::aa (.slice pp.2.2.1.A p.wants.length pp.2.2.1.c) 111 3 p.wants.length (ab KeyV.cells p.wants)::crA lsFn 66 pp.2.2.2.1.A pp.2.2.2.1.c p.lsas::aa (.slice pp.2.2.2.2.A p.acks.length pp.2.2.2.2.c) 63 7 p.acks.length (ab aH p.acks)::I) w_) (fun _ _=>0) ?_ ?_
  ·exact ⟨hk.to,hS⟩
  clear hk hS
  rintro a w ⟨hk,hS⟩
  refine wp_seq ?_
  refine sg [] hk ?_
  iterate 2 refine T ?_
  refine LD 2 hk hS ?_
  iterate 2 refine T ?_
  refine rE [3,4,5,40] hk fun a hk=>?_
  refine cD hk (fun hc40=>?_) (fun hc40=>?_)
  ·replace ht:=(if_pos hc40).symm.trans ht
   refine wp_skip ?_
   refine wp_seq ?_
   refine wp_block ?_
   cases ht
  replace ht:=(if_neg hc40).symm.trans ht
  refine wp_exit ?_
  refine sg [] hk ?_
  iterate 2 refine T ?_
  refine rE [2] hk fun a hk=>?_
  refine wp_ret ?_
  replace hS:=hS.pk [0] 3
  obtain rfl:=Option.some.inj ht
  exact rt1 hk (hR_ _ _ ⟨_,_,rfl,hS⟩)
 replace ht:=(if_neg hc11).symm.trans ht
 refine wp_skip ?_
 refine wp_seq ?_
 refine wp_seq ?_
 cases ht
def cc (b:List Int) (at_:Int):(List Int):=(((([] ++ b).set at_.toNat 0).set ((at_ + 1).toNat) 0).set at_.toNat ((((65535:Int) - aM (aY ((([] ++ b).set at_.toNat 0).set ((at_ + 1).toNat) 0))) / 256) % 256)).set ((at_ + 1).toNat) ((((65535:Int) - aM (aY ((([] ++ b).set at_.toNat 0).set ((at_ + 1).toNat) 0))) % 256) % 256)
theorem sL {κ:Kap} {L I:List Atom} (b:List Int) (bA:Option Addr) (bc:Nat) (at_:Int) (W:World) (hby:Bys b) (hn:b.length ≤ 100000) (hev:b.length % 2 = 0) (hat:(0:Int) ≤ at_∧at_ + 2 ≤ (b.length:Int)) (hS:S κ (L) (aa (.slice bA b.length bc) 5 1 b.length (u8s b)::I) W):
    Calls Tryz.prog 56 #[.slice bA b.length bc,i6 at_] W (fun r w'=>∃ B0 d0,r = .returned (.slice B0 ((cc b at_).length) d0)∧S κ ((aa (.slice B0 ((cc b at_).length) d0) 5 1 ((cc b at_).length) (u8s (cc b at_)))::L) (aa (.slice bA b.length bc) 5 1 b.length (u8s b)::I) w'):=by
 generalize ht:(cc b at_) = t_
 refine wK 33 Tryz.func56 (fun R_ hR_ a hk=>?_)
 refine sg [] hk ?_
 refine T ?_
 refine rE [0,1] hk fun a hk=>?_
 refine sg [] hk ?_
 refine T ?_
 refine rE [0,1,5] hk fun a hk=>?_
 refine sg [2] hk ?_
 iterate 2 refine T ?_
 have hS:=hS.nilrow 5 1
 replace hS:S κ (aa (.slice none 0 0) 5 1 0 (u8s [])::L) (aa (.slice bA b.length bc) 5 1 b.length (u8s b)::I) W:=hS
 refine eF (fun a_ h_=>ia (xs:=[]) (bytes:=1) (ys:=b) iO hS 0 (ae rfl) rfl (h_.x hk) (h_.x hk) (hS.rdI (i:=0) rfl) (by (try simp only [List.length_append,List.length_cons,List.length_nil,List.length_take,List.length_drop]);omega) fun A2 c2 w hS=>⟨_,rfl,?_⟩)
 replace hS:=hS.nz 1
 refine T ?_
 refine rE [1,5] hk fun a hk=>?_
 refine sg [3] hk ?_
 iterate 2 refine T ?_
 have hix3:=(show 0 ≤ at_∧(at_).toNat < ([] ++ b).length by simp only [List.length_set,List.length_append,List.length_nil];omega)
 obtain ⟨g3,hgA3⟩:=S.rowSome hS (i:=0) rfl (by first | omega | (simp only [List.length_set,List.length_append,List.length_nil] at *;omega))
 refine rD (pt g3 (at_.toNat * 1)) (fun _ h_=>rk (az (size:=1) rfl (h_.x hk) hgA3 (h_.x hk) (by kernel_rfl) (by first | omega | (simp only [List.length_set,List.length_append,List.length_nil] at *;omega)) (Nat.zero_add _))) ?_
 refine eF (fun a_ h_=>dl (k:=at_.toNat) 0 hS hgA3 rfl (ae rfl) rfl (h_.x hk) rfl (h_.x hk) rfl (by kernel_rfl) (by first | omega | (simp only [List.length_set,List.length_append,List.length_nil] at *;omega)) ⟨by rfl,by first | rfl | simp [Value.cells,Value.oneCell'] | (simp [Value.cells];exact ⟨rfl,rfl,rfl,rfl,rfl,rfl,rfl⟩)⟩ fun w hS=>⟨_,rfl,?_⟩)
 replace hS:=hS.nz 1
 replace hS:S κ ((aa (.slice A2 ((([] ++ b).set at_.toNat 0).length) c2) 5 1 ((([] ++ b).set at_.toNat 0).length) (u8s (([] ++ b).set at_.toNat 0)))::L) (aa (.slice bA b.length bc) 5 1 b.length (u8s b)::I) w:=by have e_:(([] ++ b).set at_.toNat 0).length = ([] ++ b).length:=List.length_set ..;rw [e_,← eO (by first | omega | (simp only [List.length_set,List.length_append,List.length_nil] at *;omega))];exact hS
 refine rE [1,5] hk fun a hk=>?_
 replace hk:Fr a 33 [(1,i6 at_),(5,.slice A2 ((([] ++ b).set at_.toNat 0).length) c2)]:=by simpa only [List.length_set] using hk
 refine sg [4] hk ?_
 iterate 2 refine T ?_
 refine dA hk ?_
 have hix4:=(show 0 ≤ at_ + 1∧(at_ + 1).toNat < (([] ++ b).set at_.toNat 0).length by simp only [List.length_set,List.length_append,List.length_nil];omega)
 obtain ⟨g4,hgA4⟩:=S.rowSome hS (i:=0) rfl (by first | omega | (simp only [List.length_set,List.length_append,List.length_nil] at *;omega))
 refine rD (pt g4 ((at_ + 1).toNat * 1)) (fun _ h_=>rk (az (size:=1) rfl (h_.x hk) hgA4 (h_.x hk) (by kernel_rfl) (by first | omega | (simp only [List.length_set,List.length_append,List.length_nil] at *;omega)) (Nat.zero_add _))) ?_
 refine eF (fun a_ h_=>dl (k:=(at_ + 1).toNat) 0 hS hgA4 rfl (ae rfl) rfl (h_.x hk) rfl (h_.x hk) rfl (by kernel_rfl) (by first | omega | (simp only [List.length_set,List.length_append,List.length_nil] at *;omega)) ⟨by rfl,by first | rfl | simp [Value.cells,Value.oneCell'] | (simp [Value.cells];exact ⟨rfl,rfl,rfl,rfl,rfl,rfl,rfl⟩)⟩ fun w hS=>⟨_,rfl,?_⟩)
 replace hS:=hS.nz 1
 replace hS:S κ ((aa (.slice A2 (((([] ++ b).set at_.toNat 0).set ((at_ + 1).toNat) 0).length) c2) 5 1 (((([] ++ b).set at_.toNat 0).set ((at_ + 1).toNat) 0).length) (u8s ((([] ++ b).set at_.toNat 0).set ((at_ + 1).toNat) 0)))::L) (aa (.slice bA b.length bc) 5 1 b.length (u8s b)::I) w:=by have e_:((([] ++ b).set at_.toNat 0).set ((at_ + 1).toNat) 0).length = (([] ++ b).set at_.toNat 0).length:=List.length_set ..;rw [e_,← eO (by first | omega | (simp only [List.length_set,List.length_append,List.length_nil] at *;omega))];exact hS
 refine rE [1,5] hk fun a hk=>?_
 replace hk:Fr a 33 [(1,i6 at_),(5,.slice A2 (((([] ++ b).set at_.toNat 0).set ((at_ + 1).toNat) 0).length) c2)]:=by simpa only [List.length_set] using hk
 refine sg [1] hk ?_
 refine T ?_
 refine eC hk (h:=xC _ _ _ ((([] ++ b).set at_.toNat 0).set ((at_ + 1).toNat) 0) _ (by simp only [List.length_set,List.length_append,List.length_nil];omega) (by simp only [List.length_set,List.length_append,List.length_nil];omega) (hS.rd (i:=0) rfl) (Bys.set (Bys.set (by simpa using hby) _ (by decide)) _ (by decide))) (k:=?_)
 rintro _ w ⟨rfl,hb_⟩
 replace hS:=hS.below hb_
 clear hb_
 refine ⟨_,rfl,?_⟩
 replace hS:=hS.nz 1
 refine T ?_
 refine rE [1,5,6] hk fun a hk=>?_
 refine sg [6] hk ?_
 iterate 3 refine T ?_
 refine rD (i6 (((65535:Int) - aM (aY ((([] ++ b).set at_.toNat 0).set ((at_ + 1).toNat) 0))) / 256)) (fun _ h_=>rk (cw rfl (h_.x hk) rfl (by show (pure _:Sem Value) = pure _;have:=mU (aY ((([] ++ b).set at_.toNat 0).set ((at_ + 1).toNat) 0));rw [Int.tdiv_eq_ediv_of_nonneg (by omega)];exact congrArg _ (congrArg _ (by rw [IntKind.wrap_i64];omega))))) ?_
 refine rD (.int .u8 ((((65535:Int) - aM (aY ((([] ++ b).set at_.toNat 0).set ((at_ + 1).toNat) 0))) / 256) % 256)) (fun _ h_=>rk (dS rfl (h_.x hk) (by kernel_rfl) (gz _) (by kernel_rfl))) ?_
 have hix5:=(show 0 ≤ at_∧(at_).toNat < ((([] ++ b).set at_.toNat 0).set ((at_ + 1).toNat) 0).length by simp only [List.length_set,List.length_append,List.length_nil];omega)
 obtain ⟨g5,hgA5⟩:=S.rowSome hS (i:=0) rfl (by first | omega | (simp only [List.length_set,List.length_append,List.length_nil] at *;omega))
 refine rD (pt g5 (at_.toNat * 1)) (fun _ h_=>rk (az (size:=1) rfl (h_.x hk) hgA5 (h_.x hk) (by kernel_rfl) (by first | omega | (simp only [List.length_set,List.length_append,List.length_nil] at *;omega)) (Nat.zero_add _))) ?_
 refine eF (fun a_ h_=>dl (k:=at_.toNat) 0 hS hgA5 rfl (ae rfl) rfl (h_.x hk) rfl (h_.x hk) rfl (by kernel_rfl) (by first | omega | (simp only [List.length_set,List.length_append,List.length_nil] at *;omega)) ⟨by rfl,by first | rfl | simp [Value.cells,Value.oneCell'] | (simp [Value.cells];exact ⟨rfl,rfl,rfl,rfl,rfl,rfl,rfl⟩)⟩ fun w hS=>⟨_,rfl,?_⟩)
 replace hS:=hS.nz 1
 replace hS:S κ ((aa (.slice A2 ((((([] ++ b).set at_.toNat 0).set ((at_ + 1).toNat) 0).set at_.toNat ((((65535:Int) - aM (aY ((([] ++ b).set at_.toNat 0).set ((at_ + 1).toNat) 0))) / 256) % 256)).length) c2) 5 1 ((((([] ++ b).set at_.toNat 0).set ((at_ + 1).toNat) 0).set at_.toNat ((((65535:Int) - aM (aY ((([] ++ b).set at_.toNat 0).set ((at_ + 1).toNat) 0))) / 256) % 256)).length) (u8s (((([] ++ b).set at_.toNat 0).set ((at_ + 1).toNat) 0).set at_.toNat ((((65535:Int) - aM (aY ((([] ++ b).set at_.toNat 0).set ((at_ + 1).toNat) 0))) / 256) % 256))))::L) (aa (.slice bA b.length bc) 5 1 b.length (u8s b)::I) w:=by have e_:(((([] ++ b).set at_.toNat 0).set ((at_ + 1).toNat) 0).set at_.toNat ((((65535:Int) - aM (aY ((([] ++ b).set at_.toNat 0).set ((at_ + 1).toNat) 0))) / 256) % 256)).length = ((([] ++ b).set at_.toNat 0).set ((at_ + 1).toNat) 0).length:=List.length_set ..;rw [e_,← eO (by first | omega | (simp only [List.length_set,List.length_append,List.length_nil] at *;omega))];exact hS
 refine rE [1,5,6] hk fun a hk=>?_
 replace hk:Fr a 33 [(1,i6 at_),(5,.slice A2 ((((([] ++ b).set at_.toNat 0).set ((at_ + 1).toNat) 0).set at_.toNat ((((65535:Int) - aM (aY ((([] ++ b).set at_.toNat 0).set ((at_ + 1).toNat) 0))) / 256) % 256)).length) c2),(6,i6 ((65535:Int) - aM (aY ((([] ++ b).set at_.toNat 0).set ((at_ + 1).toNat) 0))))]:=by simpa only [List.length_set] using hk
 refine sg [7] hk ?_
 iterate 2 refine T ?_
 refine dA hk ?_
 refine T ?_
 refine rD (i6 (((65535:Int) - aM (aY ((([] ++ b).set at_.toNat 0).set ((at_ + 1).toNat) 0))) % 256)) (fun _ h_=>rk (cw rfl (h_.x hk) rfl (by show (pure _:Sem Value) = pure _;have:=mU (aY ((([] ++ b).set at_.toNat 0).set ((at_ + 1).toNat) 0));exact congrArg _ (congrArg _ (Int.tmod_eq_emod_of_nonneg (by omega)))))) ?_
 refine rD (.int .u8 ((((65535:Int) - aM (aY ((([] ++ b).set at_.toNat 0).set ((at_ + 1).toNat) 0))) % 256) % 256)) (fun _ h_=>rk (dS rfl (h_.x hk) (by kernel_rfl) (gz _) (by kernel_rfl))) ?_
 have hix6:=(show 0 ≤ at_ + 1∧(at_ + 1).toNat < (((([] ++ b).set at_.toNat 0).set ((at_ + 1).toNat) 0).set at_.toNat ((((65535:Int) - aM (aY ((([] ++ b).set at_.toNat 0).set ((at_ + 1).toNat) 0))) / 256) % 256)).length by simp only [List.length_set,List.length_append,List.length_nil];omega)
 obtain ⟨g6,hgA6⟩:=S.rowSome hS (i:=0) rfl (by first | omega | (simp only [List.length_set,List.length_append,List.length_nil] at *;omega))
 refine rD (pt g6 ((at_ + 1).toNat * 1)) (fun _ h_=>rk (az (size:=1) rfl (h_.x hk) hgA6 (h_.x hk) (by kernel_rfl) (by first | omega | (simp only [List.length_set,List.length_append,List.length_nil] at *;omega)) (Nat.zero_add _))) ?_
 refine eF (fun a_ h_=>dl (k:=(at_ + 1).toNat) 0 hS hgA6 rfl (ae rfl) rfl (h_.x hk) rfl (h_.x hk) rfl (by kernel_rfl) (by first | omega | (simp only [List.length_set,List.length_append,List.length_nil] at *;omega)) ⟨by rfl,by first | rfl | simp [Value.cells,Value.oneCell'] | (simp [Value.cells];exact ⟨rfl,rfl,rfl,rfl,rfl,rfl,rfl⟩)⟩ fun w hS=>⟨_,rfl,?_⟩)
 replace hS:=hS.nz 1
 replace hS:S κ ((aa (.slice A2 (((((([] ++ b).set at_.toNat 0).set ((at_ + 1).toNat) 0).set at_.toNat ((((65535:Int) - aM (aY ((([] ++ b).set at_.toNat 0).set ((at_ + 1).toNat) 0))) / 256) % 256)).set ((at_ + 1).toNat) ((((65535:Int) - aM (aY ((([] ++ b).set at_.toNat 0).set ((at_ + 1).toNat) 0))) % 256) % 256)).length) c2) 5 1 (((((([] ++ b).set at_.toNat 0).set ((at_ + 1).toNat) 0).set at_.toNat ((((65535:Int) - aM (aY ((([] ++ b).set at_.toNat 0).set ((at_ + 1).toNat) 0))) / 256) % 256)).set ((at_ + 1).toNat) ((((65535:Int) - aM (aY ((([] ++ b).set at_.toNat 0).set ((at_ + 1).toNat) 0))) % 256) % 256)).length) (u8s ((((([] ++ b).set at_.toNat 0).set ((at_ + 1).toNat) 0).set at_.toNat ((((65535:Int) - aM (aY ((([] ++ b).set at_.toNat 0).set ((at_ + 1).toNat) 0))) / 256) % 256)).set ((at_ + 1).toNat) ((((65535:Int) - aM (aY ((([] ++ b).set at_.toNat 0).set ((at_ + 1).toNat) 0))) % 256) % 256))))::L) (aa (.slice bA b.length bc) 5 1 b.length (u8s b)::I) w:=by have e_:((((([] ++ b).set at_.toNat 0).set ((at_ + 1).toNat) 0).set at_.toNat ((((65535:Int) - aM (aY ((([] ++ b).set at_.toNat 0).set ((at_ + 1).toNat) 0))) / 256) % 256)).set ((at_ + 1).toNat) ((((65535:Int) - aM (aY ((([] ++ b).set at_.toNat 0).set ((at_ + 1).toNat) 0))) % 256) % 256)).length = (((([] ++ b).set at_.toNat 0).set ((at_ + 1).toNat) 0).set at_.toNat ((((65535:Int) - aM (aY ((([] ++ b).set at_.toNat 0).set ((at_ + 1).toNat) 0))) / 256) % 256)).length:=List.length_set ..;rw [e_,← eO (by first | omega | (simp only [List.length_set,List.length_append,List.length_nil] at *;omega))];exact hS
 refine rE [5] hk fun a hk=>?_
 replace hk:Fr a 33 [(5,.slice A2 (((((([] ++ b).set at_.toNat 0).set ((at_ + 1).toNat) 0).set at_.toNat ((((65535:Int) - aM (aY ((([] ++ b).set at_.toNat 0).set ((at_ + 1).toNat) 0))) / 256) % 256)).set ((at_ + 1).toNat) ((((65535:Int) - aM (aY ((([] ++ b).set at_.toNat 0).set ((at_ + 1).toNat) 0))) % 256) % 256)).length) c2)]:=by simpa only [List.length_set] using hk
 refine sg [] hk ?_
 iterate 2 refine T ?_
 refine rE [4] hk fun a hk=>?_
 refine wp_ret ?_
 subst ht
 exact rt1 hk (hR_ _ _ ⟨_,_,rfl,hS⟩)
def ic (p:PkV) (q3:(List Int)):Option ((List Int)):=if (((([2,p.kind % 256] ++ aX 2 (24 + ((q3.length:Nat):Int)) ++ aX 4 p.frm ++ [0,0,0,0,0,0,0,0,0,0,0,0,0,0,0,0] ++ q3).length:Nat):Int) % 2:Int) = 1 then if ([2,p.kind % 256] ++ aX 2 (24 + ((q3.length:Nat):Int)) ++ aX 4 p.frm ++ [0,0,0,0,0,0,0,0,0,0,0,0,0,0,0,0] ++ q3).length + 1 ≤ 100000 then some ([2,p.kind % 256] ++ aX 2 (24 + ((q3.length:Nat):Int)) ++ aX 4 p.frm ++ [0,0,0,0,0,0,0,0,0,0,0,0,0,0,0,0] ++ q3 ++ [0]) else none else some ([2,p.kind % 256] ++ aX 2 (24 + ((q3.length:Nat):Int)) ++ aX 4 p.frm ++ [0,0,0,0,0,0,0,0,0,0,0,0,0,0,0,0] ++ q3)
def fx (p:PkV):Option ((List Int)):=aJ (ml p) fun q3=>if -4611686018427387904 ≤ 24 + ((q3.length:Nat):Int)∧24 + ((q3.length:Nat):Int) ≤ 4611686018427387904 then if [2,p.kind % 256].length + 2 ≤ 100000 then if ([2,p.kind % 256] ++ aX 2 (24 + ((q3.length:Nat):Int))).length + 4 ≤ 100000 then if ([2,p.kind % 256] ++ aX 2 (24 + ((q3.length:Nat):Int)) ++ aX 4 p.frm).length + 16 ≤ 100000 then if ([2,p.kind % 256] ++ aX 2 (24 + ((q3.length:Nat):Int)) ++ aX 4 p.frm ++ [0,0,0,0,0,0,0,0,0,0,0,0,0,0,0,0]).length + q3.length ≤ 100000 then aJ (ic p q3) fun r15=>if Bys r15 then if r15.length ≤ 100000 then if r15.length % 2 = 0 then if (0:Int) ≤ 12∧12 + 2 ≤ (r15.length:Int) then bw (cc r15 12) fun q20=>some q20 else none else none else none else none else none else none else none else none else none
theorem lJ {κ:Kap} {L I:List Atom} (p:PkV) (pp:SlP × SlP × SlP × SlP × SlP) (W:World) {r_:(List Int)} (ht:(fx p) = some r_) (hS:S κ (L) (aa (.slice pp.1.A p.seen.length pp.1.c) 3 1 p.seen.length (aw p.seen)::aa (.slice pp.2.1.A p.heads.length pp.2.1.c) 63 7 p.heads.length (ab aH p.heads)::aa (.slice pp.2.2.1.A p.wants.length pp.2.2.1.c) 111 3 p.wants.length (ab KeyV.cells p.wants)::crA lsFn 66 pp.2.2.2.1.A pp.2.2.2.1.c p.lsas::aa (.slice pp.2.2.2.2.A p.acks.length pp.2.2.2.2.c) 63 7 p.acks.length (ab aH p.acks)::I) W):
    Calls Tryz.prog 15 #[.agg #[i6 p.kind,i6 p.frm,i6 p.every,i6 p.dead,i6 p.prio,i6 p.dr,i6 p.bdr,.slice pp.1.A p.seen.length pp.1.c,.bool p.init,.bool p.more,.bool p.master,i6 p.seq,.slice pp.2.1.A p.heads.length pp.2.1.c,.slice pp.2.2.1.A p.wants.length pp.2.2.1.c,.slice pp.2.2.2.1.A p.lsas.length pp.2.2.2.1.c,.slice pp.2.2.2.2.A p.acks.length pp.2.2.2.2.c]] W (fun r w'=>∃ B0 d0,r = .returned (.slice B0 r_.length d0)∧S κ (aa (.slice B0 r_.length d0) 5 1 r_.length (u8s r_)::L) (aa (.slice pp.1.A p.seen.length pp.1.c) 3 1 p.seen.length (aw p.seen)::aa (.slice pp.2.1.A p.heads.length pp.2.1.c) 63 7 p.heads.length (ab aH p.heads)::aa (.slice pp.2.2.1.A p.wants.length pp.2.2.1.c) 111 3 p.wants.length (ab KeyV.cells p.wants)::crA lsFn 66 pp.2.2.2.1.A pp.2.2.2.1.c p.lsas::aa (.slice pp.2.2.2.2.A p.acks.length pp.2.2.2.2.c) 63 7 p.acks.length (ab aH p.acks)::I) w'):=by
 refine wK 35 Tryz.func15 (fun R_ hR_ a hk=>?_)
 refine sg [0] hk ?_
 refine eB hk hS (fun g2 w hS _=>?_)
 refine T ?_
 refine rE [1] hk fun a hk=>?_
 refine sg [1] hk ?_
 refine LDS 0 16 hk hS ?_
 obtain ⟨q3,hq3,ht⟩:=ao ht
 refine eC hk (h:=sy p pp _ hq3 hS) (k:=?_)
 rintro _ w ⟨B03,d03,rfl,hS⟩
 refine ⟨_,rfl,?_⟩
 replace hS:=hS.nz 2
 refine T ?_
 refine rE [1,3] hk fun a hk=>?_
 refine sg [3] hk ?_
 refine T ?_
 refine LD 1 hk hS ?_
 refine rD (.int .u8 (p.kind % 256)) (fun _ h_=>rk (dS rfl (h_.x hk) (by kernel_rfl) (gz _) (by kernel_rfl))) ?_
 refine eF (fun a_ h_=>aZ (e:=5) (cells:=#[.int .u8 2,.int .u8 (p.kind % 256)]) hS (ae rfl) rfl (h_.prtL hk) fun g4 w hS _=>⟨_,rfl,?_⟩)
 refine T ?_
 refine rE [1,3,4] hk fun a hk=>?_
 refine sg [4] hk ?_
 iterate 3 refine T ?_
 obtain ⟨hgd5,ht⟩:=gdE ht
 refine dA hk ?_
 replace hS:S κ (aa (.slice (some ⟨g4,0,none⟩) 2 2) 5 1 2 (u8s [2,p.kind % 256])::aa (.slice B03 q3.length d03) 5 1 q3.length (u8s q3)::ai g2 56 #[i6 p.kind,i6 p.frm,i6 p.every,i6 p.dead,i6 p.prio,i6 p.dr,i6 p.bdr,.slice pp.1.A p.seen.length pp.1.c,.bool p.init,.bool p.more,.bool p.master,i6 p.seq,.slice pp.2.1.A p.heads.length pp.2.1.c,.slice pp.2.2.1.A p.wants.length pp.2.2.1.c,.slice pp.2.2.2.1.A p.lsas.length pp.2.2.2.1.c,.slice pp.2.2.2.2.A p.acks.length pp.2.2.2.2.c]::L) (aa (.slice pp.1.A p.seen.length pp.1.c) 3 1 p.seen.length (aw p.seen)::aa (.slice pp.2.1.A p.heads.length pp.2.1.c) 63 7 p.heads.length (ab aH p.heads)::aa (.slice pp.2.2.1.A p.wants.length pp.2.2.1.c) 111 3 p.wants.length (ab KeyV.cells p.wants)::crA lsFn 66 pp.2.2.2.1.A pp.2.2.2.1.c p.lsas::aa (.slice pp.2.2.2.2.A p.acks.length pp.2.2.2.2.c) 63 7 p.acks.length (ab aH p.acks)::I) w:=hS.litRow rfl (by decide)
 obtain ⟨hgd6,ht⟩:=gdE ht
 refine eC hk (h:=ln [2,p.kind % 256] (some ⟨g4,0,none⟩) 2 2 (24 + ((q3.length:Nat):Int)) _ (by decide) (by omega) hS) (k:=?_)
 rintro _ w ⟨A7,c7,rfl,hS⟩
 refine ⟨_,rfl,?_⟩
 replace hS:=hS.nz 3
 refine T ?_
 refine rE [1,3,4] hk fun a hk=>?_
 refine sg [3] hk ?_
 iterate 2 refine T ?_
 refine LD 2 hk hS ?_
 obtain ⟨hgd8,ht⟩:=gdE ht
 refine eC hk (h:=ln ([2,p.kind % 256] ++ aX 2 (24 + ((q3.length:Nat):Int))) A7 c7 4 p.frm _ (by decide) (by omega) hS) (k:=?_)
 rintro _ w ⟨A9,c9,rfl,hS⟩
 refine ⟨_,rfl,?_⟩
 replace hS:=hS.nz 3
 refine T ?_
 refine rE [3,4] hk fun a hk=>?_
 refine sg [1,2] hk ?_
 refine T ?_
 refine eF (fun a_ h_=>aZ (e:=5) (cells:=#[.int .u8 0,.int .u8 0,.int .u8 0,.int .u8 0,.int .u8 0,.int .u8 0,.int .u8 0,.int .u8 0,.int .u8 0,.int .u8 0,.int .u8 0,.int .u8 0,.int .u8 0,.int .u8 0,.int .u8 0,.int .u8 0]) hS (ae rfl) rfl (h_.prtL hk) fun g10 w hS _=>⟨_,rfl,?_⟩)
 obtain ⟨hgd12,ht⟩:=gdE ht
 refine eF (fun a_ h_=>ia (bytes:=1) (ys:=[0,0,0,0,0,0,0,0,0,0,0,0,0,0,0,0]) iO hS 1 (ae rfl) rfl (h_.x hk) (h_.x hk) (ay (hS.blk (i:=0) rfl) rfl) (by first | omega | (simp only [List.length_append,List.length_cons,List.length_nil,bm] at *;omega)) fun A11 c11 w hS=>⟨_,rfl,?_⟩)
 replace hS:=hS.nz 4
 refine T ?_
 refine rE [3,4] hk fun a hk=>?_
 refine sg [2] hk ?_
 iterate 2 refine T ?_
 obtain ⟨hgd14,ht⟩:=gdE ht
 refine eF (fun a_ h_=>ia (bytes:=1) (ys:=q3) iO hS 1 (ae rfl) rfl (h_.x hk) (h_.x hk) (hS.rd (i:=2) rfl) (by first | omega | (simp only [List.length_append,List.length_cons,List.length_nil,bm] at *;omega)) fun A13 c13 w hS=>⟨_,rfl,?_⟩)
 replace hS:=hS.nz 4
 refine T ?_
 refine rE [4] hk fun a hk=>?_
 refine wp_seq ?_
 refine sg [] hk ?_
 iterate 2 refine T ?_
 refine rD (i6 (((([2,p.kind % 256] ++ aX 2 (24 + ((q3.length:Nat):Int)) ++ aX 4 p.frm ++ [0,0,0,0,0,0,0,0,0,0,0,0,0,0,0,0] ++ q3).length:Nat):Int) % 2)) (fun _ h_=>rk (cw rfl (h_.x hk) rfl (by show (pure _:Sem Value) = pure _;exact congrArg _ (congrArg _ (Int.tmod_eq_emod_of_nonneg (by omega)))))) ?_
 refine T ?_
 refine rE [4,29] hk fun a hk=>?_
 obtain ⟨r15,hr15,ht⟩:=ao ht
 refine aB (fun a_ w_=>∃ A15x0 c15x0,Fr a_ 35 [(4,.slice A15x0 ((r15).length) c15x0)]∧S κ ((aa (.slice A15x0 ((r15).length) c15x0) 5 1 ((r15).length) (u8s r15))::ai g10 5 #[.int .u8 0,.int .u8 0,.int .u8 0,.int .u8 0,.int .u8 0,.int .u8 0,.int .u8 0,.int .u8 0,.int .u8 0,.int .u8 0,.int .u8 0,.int .u8 0,.int .u8 0,.int .u8 0,.int .u8 0,.int .u8 0]::aa (.slice B03 q3.length d03) 5 1 q3.length (u8s q3)::ai g2 56 #[i6 p.kind,i6 p.frm,i6 p.every,i6 p.dead,i6 p.prio,i6 p.dr,i6 p.bdr,.slice pp.1.A p.seen.length pp.1.c,.bool p.init,.bool p.more,.bool p.master,i6 p.seq,.slice pp.2.1.A p.heads.length pp.2.1.c,.slice pp.2.2.1.A p.wants.length pp.2.2.1.c,.slice pp.2.2.2.1.A p.lsas.length pp.2.2.2.1.c,.slice pp.2.2.2.2.A p.acks.length pp.2.2.2.2.c]::L) (aa (.slice pp.1.A p.seen.length pp.1.c) 3 1 p.seen.length (aw p.seen)::aa (.slice pp.2.1.A p.heads.length pp.2.1.c) 63 7 p.heads.length (ab aH p.heads)::aa (.slice pp.2.2.1.A p.wants.length pp.2.2.1.c) 111 3 p.wants.length (ab KeyV.cells p.wants)::crA lsFn 66 pp.2.2.2.1.A pp.2.2.2.1.c p.lsas::aa (.slice pp.2.2.2.2.A p.acks.length pp.2.2.2.2.c) 63 7 p.acks.length (ab aH p.acks)::I) w_) ?_ ?_
 ·have hI15:=hr15
  refine cD hk (fun hc29=>?_) (fun hc29=>?_)
  ·replace hI15:=(if_pos hc29).symm.trans hI15
   refine rgL [1,2] hk ?_
   refine T ?_
   refine eF (fun a_ h_=>aZ (e:=5) (cells:=#[.int .u8 0]) hS (ae rfl) rfl (h_.prtL hk) fun g16 w hS _=>⟨_,rfl,?_⟩)
   obtain ⟨hgd18,hI15⟩:=gdE hI15
   refine eF (fun a_ h_=>ia (bytes:=1) (ys:=[0]) iO hS 2 (ae rfl) rfl (h_.x hk) (h_.x hk) (ay (hS.blk (i:=0) rfl) rfl) (by first | omega | (simp only [List.length_append,List.length_cons,List.length_nil,bm] at *;omega)) fun A17 c17 w hS=>⟨_,rfl,?_⟩)
   replace hS:=hS.nz 5
   refine T ?_
   refine rE [4] hk fun a hk=>?_
   replace hS:=hS.pk [2,1,1,1] 1
   obtain rfl:=Option.some.inj hI15
   exact ⟨_,_,hk.to,hS⟩
  replace hI15:=(if_neg hc29).symm.trans hI15
  refine wp_skip ?_
  replace hS:=hS.pk [1,0,0,0] 0
  obtain rfl:=Option.some.inj hI15
  exact ⟨_,_,hk.to,hS⟩
 rintro a w ⟨A15x0,c15x0,hk,hS⟩
 refine sg [1] hk ?_
 refine T ?_
 obtain ⟨J19,hS,hJ19⟩:=S.lend (M:=[_]) hS
 obtain ⟨hgd21,ht⟩:=gdE ht
 obtain ⟨hgd22,ht⟩:=gdE ht
 obtain ⟨hgd23,ht⟩:=gdE ht
 obtain ⟨hgd24,ht⟩:=gdE ht
 refine eC hk (h:=sL r15 A15x0 c15x0 12 _ hgd21 hgd22 hgd23 hgd24 hS) (k:=?_)
 rintro _ w ⟨B020,d020,rfl,hS⟩
 refine ⟨_,rfl,?_⟩
 generalize hq20:cc r15 12 = q20 at hS ⊢
 replace ht:=(am hq20).symm.trans ht
 replace hS:=hJ19 _ _ hS
 replace hS:=hS.nz 5
 refine T ?_
 refine rE [2] hk fun a hk=>?_
 refine wp_ret ?_
 replace hS:=hS.pk [1] 4
 obtain rfl:=Option.some.inj ht
 exact rt1 hk (hR_ _ _ ⟨_,_,rfl,hS⟩)
def gv (y:List Int):List Int → Nat → Option (Except (Bool) (Unit))
  | [],k2=>some (.ok ())
  | z2::xs2,k2=>bw (y.getD k2 0) fun z4=>if (z2:Int) ≠ z4 then some (.error false) else gv y xs2 (k2 + 1)
def mD (x:List Int) (y:List Int):Option (Bool):=if (((x.length:Nat):Int):Int) ≠ ((y.length:Nat):Int) then some false else aJ (gv y x 0) fun x2=>exE x2 (fun e=>some e) fun r2=>some true
theorem tD {κ:Kap} {L I:List Atom} (x:List Int) (xA:Option Addr) (xc:Nat) (y:List Int) (yA:Option Addr) (yc:Nat) (W:World) {r_:Bool} (ht:(mD x y) = some r_) (hS:S κ (L) (aa (.slice xA x.length xc) 5 1 x.length (u8s x)::aa (.slice yA y.length yc) 5 1 y.length (u8s y)::I) W):
    Calls Tryz.prog 57 #[.slice xA x.length xc,.slice yA y.length yc] W (fun r w'=>r = .returned (.bool r_)∧S κ (L) (aa (.slice xA x.length xc) 5 1 x.length (u8s x)::aa (.slice yA y.length yc) 5 1 y.length (u8s y)::I) w'):=by
 refine wK 26 Tryz.func57 (fun R_ hR_ a hk=>?_)
 refine sg [] hk ?_
 refine T ?_
 refine rE [0,1] hk fun a hk=>?_
 refine wp_seq ?_
 refine sg [] hk ?_
 iterate 5 refine T ?_
 refine rE [0,1,10] hk fun a hk=>?_
 refine cD hk (fun hc10=>?_) (fun hc10=>?_)
 ·replace ht:=(if_pos hc10).symm.trans ht
  refine sg [] hk ?_
  refine T ?_
  refine rE [4] hk fun a hk=>?_
  refine wp_ret ?_
  obtain rfl:=Option.some.inj ht
  exact rt1 hk (hR_ _ _ ⟨rfl,hS⟩)
 replace ht:=(if_neg hc10).symm.trans ht
 refine wp_skip ?_
 refine wp_seq ?_
 refine sg [] hk ?_
 refine T ?_
 refine rE [0,1,5] hk fun a hk=>?_
 obtain ⟨x2,hr2,ht⟩:=ao ht
 refine aB (fun a_ w_=>∃ r2,x2 = .ok r2∧Fr a_ 26 []∧S κ (L) (aa (.slice xA x.length xc) 5 1 x.length (u8s x)::aa (.slice yA y.length yc) 5 1 y.length (u8s y)::I) w_) ?_ ?_
 ·refine wp_block ?_
  refine wp_loop (fun a_ w_=>∃ k2:Nat,(k2 ≤ (x).length)∧gv y ((x).drop k2) k2 = some x2∧Fr a_ 26 [(0,.slice xA x.length xc),(1,.slice yA y.length yc),(5,i6 k2)]∧S κ (L) (aa (.slice xA x.length xc) 5 1 x.length (u8s x)::aa (.slice yA y.length yc) 5 1 y.length (u8s y)::I) w_) (fun a_ _=>(x).length - (intOf (sl a_ 5)).toNat) ?_ ?_
  ·exact ⟨0,Nat.zero_le _,hr2,hk.to,hS⟩
  clear hk hS
  rintro aL2 w ⟨k2,hkl2,hI2,hk,hS⟩
  have hmu2:=hk.g (s:=5)
  have hlb2:=hS.rowBI (i:=0) rfl
  refine wp_seq ?_
  refine sg [] hk ?_
  iterate 4 refine T ?_
  refine rE [0,1,5,14] hk fun a hk=>?_
  refine cD hk (fun hc14=>?_) (fun hc14=>?_)
  ·obtain ⟨z2,hz2⟩:=cq (show k2 < (x).length by omega)
   rw [aF hz2] at hI2
   refine wp_skip ?_
   refine wp_seq ?_
   refine wp_block ?_
   refine wp_seq ?_
   refine rgR [[],[],[0,1],[0,1,2],[],[],[4,5],[4,5,6],[0,1,2,3,4,5,6,7]] [] (.rd 0 (.rd 1 (.rd 2 (.rd 3 (.rd 4 (.rd 5 (.rd 6 (.rd 7 (.rd 8 (.fin)))))))))) hk hS (fun w hS _=>?_)
   iterate 2 refine T ?_
   refine dU hk (hS.rdI (i:=0) rfl) (fun b3 o3 z3 hz3 hq3=>?_)
   obtain rfl:z2 = z3:=Option.some.inj (hz2.symm.trans hz3)
   refine dF0 hq3 hk ?_
   iterate 2 refine T ?_
   refine dU hk (hS.rdI (i:=1) rfl) (fun b4 o4 z4 hz4 hq4=>?_)
   replace hI2:=(am (fV hz4)).symm.trans hI2
   refine dF0 hq4 hk ?_
   refine T ?_
   refine rE [0,1,5,25] hk fun a hk=>?_
   refine cD hk (fun hc25=>?_) (fun hc25=>?_)
   ·replace hI2:=(if_pos hc25).symm.trans hI2
    refine sg [] hk ?_
    refine T ?_
    refine rE [4] hk fun a hk=>?_
    refine wp_ret ?_
    obtain rfl:=Option.some.inj hI2
    obtain rfl:=Option.some.inj ht
    exact rt1 hk (hR_ _ _ ⟨rfl,hS⟩)
   replace hI2:=(if_neg hc25).symm.trans hI2
   refine wp_skip ?_
   refine rgL [] hk ?_
   refine T ?_
   refine dA hk ?_
   refine T ?_
   refine rE [0,1,5] hk fun a hk=>?_
   exact ⟨⟨k2 + 1,by omega,hI2,hk.to,hS⟩,aP hk.g hmu2 (by omega)⟩
  obtain rfl:k2 = (x).length:=by omega
  rw [ax (Nat.le_refl _)] at hI2
  refine wp_exit ?_
  obtain rfl:=Option.some.inj hI2
  exact ⟨_,rfl,hk.to,hS⟩
 rintro a w ⟨r2,hx,hk,hS⟩
 replace ht:=(fC hx).symm.trans ht
 refine sg [] hk ?_
 refine T ?_
 refine rE [4] hk fun a hk=>?_
 refine wp_ret ?_
 obtain rfl:=Option.some.inj ht
 exact rt1 hk (hR_ _ _ ⟨rfl,hS⟩)
def eM (y:List FrV):List FrV → Nat → Option (Except (Bool) (Unit))
  | [],k2=>some (.ok ())
  | z2::xs2,k2=>bw (y.getD k2 ⟨0,0,0,[]⟩) fun z4=>if (z2.lan:Int) ≠ z4.lan then some (.error false) else if (z2.frm:Int) ≠ z4.frm then some (.error false) else if (z2.dst:Int) ≠ z4.dst then some (.error false) else aJ (mD z2.bs z4.bs) fun q12=>cond q12 (eM y xs2 (k2 + 1)) (some (.error false))
def gg (x:List FrV) (y:List FrV):Option (Bool):=if (((x.length:Nat):Int):Int) ≠ ((y.length:Nat):Int) then some false else aJ (eM y x 0) fun x2=>exE x2 (fun e=>some e) fun r2=>some true
theorem pI {κ:Kap} {L I:List Atom} (x:List FrV) (xA:Option Addr) (xc:Nat) (y:List FrV) (yA:Option Addr) (yc:Nat) (W:World) {r_:Bool} (ht:(gg x y) = some r_) (hS:S κ (L) (crA bW 58 xA xc x::crA bW 58 yA yc y::I) W):
    Calls Tryz.prog 17 #[.slice xA x.length xc,.slice yA y.length yc] W (fun r w'=>r = .returned (.bool r_)∧S κ (L) (crA bW 58 xA xc x::crA bW 58 yA yc y::I) w'):=by
 refine wK 68 Tryz.func17 (fun R_ hR_ a hk=>?_)
 refine sg [] hk ?_
 refine T ?_
 refine rE [0,1] hk fun a hk=>?_
 refine wp_seq ?_
 refine sg [] hk ?_
 iterate 5 refine T ?_
 refine rE [0,1,10] hk fun a hk=>?_
 refine cD hk (fun hc10=>?_) (fun hc10=>?_)
 ·replace ht:=(if_pos hc10).symm.trans ht
  refine sg [] hk ?_
  refine T ?_
  refine rE [4] hk fun a hk=>?_
  refine wp_ret ?_
  obtain rfl:=Option.some.inj ht
  exact rt1 hk (hR_ _ _ ⟨rfl,hS⟩)
 replace ht:=(if_neg hc10).symm.trans ht
 refine wp_skip ?_
 refine wp_seq ?_
 refine sg [] hk ?_
 refine T ?_
 refine rE [0,1,5] hk fun a hk=>?_
 obtain ⟨x2,hr2,ht⟩:=ao ht
 refine aB (fun a_ w_=>∃ r2,x2 = .ok r2∧Fr a_ 68 []∧S κ (L) (crA bW 58 xA xc x::crA bW 58 yA yc y::I) w_) ?_ ?_
 ·refine wp_block ?_
  refine wp_loop (fun a_ w_=>∃ k2:Nat,(k2 ≤ (x).length)∧eM y ((x).drop k2) k2 = some x2∧Fr a_ 68 [(0,.slice xA x.length xc),(1,.slice yA y.length yc),(5,i6 k2)]∧S κ (L) (crA bW 58 xA xc x::crA bW 58 yA yc y::I) w_) (fun a_ _=>(x).length - (intOf (sl a_ 5)).toNat) ?_ ?_
  ·exact ⟨0,Nat.zero_le _,hr2,hk.to,hS⟩
  clear hk hS
  rintro aL2 w ⟨k2,hkl2,hI2,hk,hS⟩
  have hmu2:=hk.g (s:=5)
  have hlb2:=jl hS (i:=0)
  refine wp_seq ?_
  refine sg [] hk ?_
  iterate 4 refine T ?_
  refine rE [0,1,5,14] hk fun a hk=>?_
  refine cD hk (fun hc14=>?_) (fun hc14=>?_)
  ·obtain ⟨z2,hz2⟩:=cq (show k2 < (x).length by omega)
   rw [aF hz2] at hI2
   refine wp_skip ?_
   refine wp_seq ?_
   refine wp_block ?_
   refine wp_seq ?_
   refine rgR [[],[],[0,1],[0,1,2],[0,1,2,3],[],[],[5,6],[5,6,7],[5,6,7,8],[0,1,2,3,4,5,6,7,8,9],[0,1,2,3,4,5,6,7,8,9,10],[0,1,2,3,4,5,6,7,8,9,10,11],[0,1,2,3,4,5,6,7,8,9,10,11],[0,1,2,3,4,5,6,7,8,9,10,11,12,13],[0,1,2,3,4,5,6,7,8,9,10,11,12,13,14],[0,1,2,3,4,5,6,7,8,9,10,11,12,13,14,15],[0,1,2,3,4,5,6,7,8,9,10,11],[0,1,2,3,4,5,6,7,8,9,10,11],[0,1,2,3,4,5,6,7,8,9,10,11,17,18],[0,1,2,3,4,5,6,7,8,9,10,11,17,18,19],[0,1,2,3,4,5,6,7,8,9,10,11,17,18,19,20],[0,1,2,3,4,5,6,7,8,9,10,11,12,13,14,15,16,17,18,19,20,21],[0,1,2,3,4,5,6,7,8,9,10,11,12,13,14,15,16,17,18,19,20,21,22],[0,1,2,3,4,5,6,7,8,9,10,11,12,13,14,15,16,17,18,19,20,21,22,23],[0,1,2,3,4,5,6,7,8,9,10,11,12,13,14,15,16,17,18,19,20,21,22,23,24],[0,1,2,3,4,5,6,7,8,9,10,11,12,13,14,15,16,17,18,19,20,21,22,23,24],[0,1,2,3,4,5,6,7,8,9,10,11,12,13,14,15,16,17,18,19,20,21,22,23,24,25,26],[0,1,2,3,4,5,6,7,8,9,10,11,12,13,14,15,16,17,18,19,20,21,22,23,24,25,26,27],[0,1,2,3,4,5,6,7,8,9,10,11,12,13,14,15,16,17,18,19,20,21,22,23,24,25,26,27,28],[0,1,2,3,4,5,6,7,8,9,10,11,12,13,14,15,16,17,18,19,20,21,22,23,24],[0,1,2,3,4,5,6,7,8,9,10,11,12,13,14,15,16,17,18,19,20,21,22,23,24],[0,1,2,3,4,5,6,7,8,9,10,11,12,13,14,15,16,17,18,19,20,21,22,23,24,30,31],[0,1,2,3,4,5,6,7,8,9,10,11,12,13,14,15,16,17,18,19,20,21,22,23,24,30,31,32],[0,1,2,3,4,5,6,7,8,9,10,11,12,13,14,15,16,17,18,19,20,21,22,23,24,30,31,32,33],[0,1,2,3,4,5,6,7,8,9,10,11,12,13,14,15,16,17,18,19,20,21,22,23,24,25,26,27,28,29,30,31,32,33,34],[0,1,2,3,4,5,6,7,8,9,10,11,12,13,14,15,16,17,18,19,20,21,22,23,24,25,26,27,28,29,30,31,32,33,34,35],[0,1,2,3,4,5,6,7,8,9,10,11,12,13,14,15,16,17,18,19,20,21,22,23,24,25,26,27,28,29,30,31,32,33,34,35,36],[0,1,2,3,4,5,6,7,8,9,10,11,12,13,14,15,16,17,18,19,20,21,22,23,24,25,26,27,28,29,30,31,32,33,34,35,36,37],[0,1,2,3,4,5,6,7,8,9,10,11,12,13,14,15,16,17,18,19,20,21,22,23,24,25,26,27,28,29,30,31,32,33,34,35,36,37],[0,1,2,3,4,5,6,7,8,9,10,11,12,13,14,15,16,17,18,19,20,21,22,23,24,25,26,27,28,29,30,31,32,33,34,35,36,37,38,39],[0,1,2,3,4,5,6,7,8,9,10,11,12,13,14,15,16,17,18,19,20,21,22,23,24,25,26,27,28,29,30,31,32,33,34,35,36,37,38,39,40],[0,1,2,3,4,5,6,7,8,9,10,11,12,13,14,15,16,17,18,19,20,21,22,23,24,25,26,27,28,29,30,31,32,33,34,35,36,37,38,39,40,41],[0,1,2,3,4,5,6,7,8,9,10,11,12,13,14,15,16,17,18,19,20,21,22,23,24,25,26,27,28,29,30,31,32,33,34,35,36,37],[0,1,2,3,4,5,6,7,8,9,10,11,12,13,14,15,16,17,18,19,20,21,22,23,24,25,26,27,28,29,30,31,32,33,34,35,36,37],[0,1,2,3,4,5,6,7,8,9,10,11,12,13,14,15,16,17,18,19,20,21,22,23,24,25,26,27,28,29,30,31,32,33,34,35,36,37,43,44],[0,1,2,3,4,5,6,7,8,9,10,11,12,13,14,15,16,17,18,19,20,21,22,23,24,25,26,27,28,29,30,31,32,33,34,35,36,37,43,44,45],[0,1,2,3,4,5,6,7,8,9,10,11,12,13,14,15,16,17,18,19,20,21,22,23,24,25,26,27,28,29,30,31,32,33,34,35,36,37,43,44,45,46],[0,1,2,3,4,5,6,7,8,9,10,11,12,13,14,15,16,17,18,19,20,21,22,23,24,25,26,27,28,29,30,31,32,33,34,35,36,37,38,39,40,41,42,43,44,45,46,47],[0,1,2,3,4,5,6,7,8,9,10,11,12,13,14,15,16,17,18,19,20,21,22,23,24,25,26,27,28,29,30,31,32,33,34,35,36,37,38,39,40,41,42,43,44,45,46,47,48],[0,1,2,3,4,5,6,7,8,9,10,11,12,13,14,15,16,17,18,19,20,21,22,23,24,25,26,27,28,29,30,31,32,33,34,35,36,37,38,39,40,41,42,43,44,45,46,47,48,49]] [48] (.rd 0 (.rd 1 (.rd 2 (.rd 3 (.rd 4 (.rd 5 (.rd 6 (.rd 7 (.rd 8 (.rd 9 (.rd 10 (.rd 11 (.rd 12 (.rd 13 (.rd 14 (.rd 15 (.rd 16 (.rd 17 (.rd 18 (.rd 19 (.rd 20 (.rd 21 (.rd 22 (.rd 23 (.rd 24 (.rd 25 (.rd 26 (.rd 27 (.rd 28 (.rd 29 (.rd 30 (.rd 31 (.rd 32 (.rd 33 (.rd 34 (.rd 35 (.rd 36 (.rd 37 (.rd 38 (.rd 39 (.rd 40 (.rd 41 (.rd 42 (.rd 43 (.rd 44 (.rd 45 (.rd 46 (.rd 47 (.ef 48 (.rd 49 (.rd 50 (.fin))) .non))))))))))))))))))))))))))))))))))))))))))))))))) hk hS (fun w hS _=>?_)
   iterate 2 refine T ?_
   refine cX 0 hz2 hk hS (fun b3 o3 e3 hS hq3=>?_)
   replace hS:S κ (L) (aa (.slice e3.A z2.bs.length e3.c) 5 1 z2.bs.length (u8s z2.bs)::crA bW 58 xA xc x::crA bW 58 yA yc y::I) w:=hS
   refine T ?_
   refine dF0 hq3 hk ?_
   iterate 2 refine T ?_
   obtain ⟨z4,hz4⟩:=cq (show k2 < y.length by omega)
   replace hI2:=(am (fV hz4)).symm.trans hI2
   refine cX 2 hz4 hk hS (fun b5 o5 e5 hS hq5=>?_)
   replace hS:S κ (L) (aa (.slice e5.A z4.bs.length e5.c) 5 1 z4.bs.length (u8s z4.bs)::aa (.slice e3.A z2.bs.length e3.c) 5 1 z2.bs.length (u8s z2.bs)::crA bW 58 xA xc x::crA bW 58 yA yc y::I) w:=hS
   refine T ?_
   refine dF0 hq5 hk ?_
   iterate 2 refine T ?_
   rcases dt ((z2.lan:Int) ≠ z4.lan) with ⟨he,hg11⟩ | ⟨he,hg11⟩
   ·rw [he]
    replace hI2:=(if_pos hg11).symm.trans hI2
    refine oF 11 28 false [12,13,14,15,16,17,18,19,20,21,22] ?_
    iterate 2 refine T ?_
    refine oF 24 41 false [25,26,27,28,29,30,31,32,33,34,35] ?_
    iterate 2 refine T ?_
    refine oF 37 54 false [38,39,40,41,42,43,44,45,46,47] ?_
    refine oE 37 54 false ?_
    refine oF 37 54 false [49] ?_
    refine T ?_
    refine rE [0,1,5,67] hk fun a hk=>?_
    refine cT hk ?_
    refine sg [] hk ?_
    refine T ?_
    refine rE [4] hk fun a hk=>?_
    refine wp_ret ?_
    replace hS:=hS.dropI.dropI
    obtain rfl:=Option.some.inj hI2
    obtain rfl:=Option.some.inj ht
    exact rt1 hk (hR_ _ _ ⟨rfl,hS⟩)
   rw [he]
   replace hI2:=(if_neg hg11).symm.trans hI2
   iterate 2 refine T ?_
   refine cX 2 hz2 hk hS (fun b6 o6 e6 hS hq6=>?_)
   replace hS:S κ (L) (aa (.slice e6.A z2.bs.length e6.c) 5 1 z2.bs.length (u8s z2.bs)::aa (.slice e5.A z4.bs.length e5.c) 5 1 z4.bs.length (u8s z4.bs)::aa (.slice e3.A z2.bs.length e3.c) 5 1 z2.bs.length (u8s z2.bs)::crA bW 58 xA xc x::crA bW 58 yA yc y::I) w:=hS
   refine T ?_
   refine dF hq6 hk ?_
   iterate 2 refine T ?_
   refine cX 4 hz4 hk hS (fun b7 o7 e7 hS hq7=>?_)
   replace hS:S κ (L) (aa (.slice e7.A z4.bs.length e7.c) 5 1 z4.bs.length (u8s z4.bs)::aa (.slice e6.A z2.bs.length e6.c) 5 1 z2.bs.length (u8s z2.bs)::aa (.slice e5.A z4.bs.length e5.c) 5 1 z4.bs.length (u8s z4.bs)::aa (.slice e3.A z2.bs.length e3.c) 5 1 z2.bs.length (u8s z2.bs)::crA bW 58 xA xc x::crA bW 58 yA yc y::I) w:=hS
   refine T ?_
   refine dF hq7 hk ?_
   iterate 3 refine T ?_
   rcases dt ((z2.frm:Int) ≠ z4.frm) with ⟨he,hg24⟩ | ⟨he,hg24⟩
   ·rw [he]
    replace hI2:=(if_pos hg24).symm.trans hI2
    refine oF 24 41 false [25,26,27,28,29,30,31,32,33,34,35] ?_
    iterate 2 refine T ?_
    refine oF 37 54 false [38,39,40,41,42,43,44,45,46,47] ?_
    refine oE 37 54 false ?_
    refine oF 37 54 false [49] ?_
    refine T ?_
    refine rE [0,1,5,67] hk fun a hk=>?_
    refine cT hk ?_
    refine sg [] hk ?_
    refine T ?_
    refine rE [4] hk fun a hk=>?_
    refine wp_ret ?_
    replace hS:=hS.dropI.dropI.dropI.dropI
    obtain rfl:=Option.some.inj hI2
    obtain rfl:=Option.some.inj ht
    exact rt1 hk (hR_ _ _ ⟨rfl,hS⟩)
   rw [he]
   replace hI2:=(if_neg hg24).symm.trans hI2
   iterate 2 refine T ?_
   refine cX 4 hz2 hk hS (fun b8 o8 e8 hS hq8=>?_)
   replace hS:S κ (L) (aa (.slice e8.A z2.bs.length e8.c) 5 1 z2.bs.length (u8s z2.bs)::aa (.slice e7.A z4.bs.length e7.c) 5 1 z4.bs.length (u8s z4.bs)::aa (.slice e6.A z2.bs.length e6.c) 5 1 z2.bs.length (u8s z2.bs)::aa (.slice e5.A z4.bs.length e5.c) 5 1 z4.bs.length (u8s z4.bs)::aa (.slice e3.A z2.bs.length e3.c) 5 1 z2.bs.length (u8s z2.bs)::crA bW 58 xA xc x::crA bW 58 yA yc y::I) w:=hS
   refine T ?_
   refine dF hq8 hk ?_
   iterate 2 refine T ?_
   refine cX 6 hz4 hk hS (fun b9 o9 e9 hS hq9=>?_)
   replace hS:S κ (L) (aa (.slice e9.A z4.bs.length e9.c) 5 1 z4.bs.length (u8s z4.bs)::aa (.slice e8.A z2.bs.length e8.c) 5 1 z2.bs.length (u8s z2.bs)::aa (.slice e7.A z4.bs.length e7.c) 5 1 z4.bs.length (u8s z4.bs)::aa (.slice e6.A z2.bs.length e6.c) 5 1 z2.bs.length (u8s z2.bs)::aa (.slice e5.A z4.bs.length e5.c) 5 1 z4.bs.length (u8s z4.bs)::aa (.slice e3.A z2.bs.length e3.c) 5 1 z2.bs.length (u8s z2.bs)::crA bW 58 xA xc x::crA bW 58 yA yc y::I) w:=hS
   refine T ?_
   refine dF hq9 hk ?_
   iterate 3 refine T ?_
   rcases dt ((z2.dst:Int) ≠ z4.dst) with ⟨he,hg37⟩ | ⟨he,hg37⟩
   ·rw [he]
    replace hI2:=(if_pos hg37).symm.trans hI2
    refine oF 37 54 false [38,39,40,41,42,43,44,45,46,47] ?_
    refine oE 37 54 false ?_
    refine oF 37 54 false [49] ?_
    refine T ?_
    refine rE [0,1,5,67] hk fun a hk=>?_
    refine cT hk ?_
    refine sg [] hk ?_
    refine T ?_
    refine rE [4] hk fun a hk=>?_
    refine wp_ret ?_
    replace hS:=hS.dropI.dropI.dropI.dropI.dropI.dropI
    obtain rfl:=Option.some.inj hI2
    obtain rfl:=Option.some.inj ht
    exact rt1 hk (hR_ _ _ ⟨rfl,hS⟩)
   rw [he]
   replace hI2:=(if_neg hg37).symm.trans hI2
   iterate 2 refine T ?_
   refine cX 6 hz2 hk hS (fun b10 o10 e10 hS hq10=>?_)
   replace hS:S κ (L) (aa (.slice e10.A z2.bs.length e10.c) 5 1 z2.bs.length (u8s z2.bs)::aa (.slice e9.A z4.bs.length e9.c) 5 1 z4.bs.length (u8s z4.bs)::aa (.slice e8.A z2.bs.length e8.c) 5 1 z2.bs.length (u8s z2.bs)::aa (.slice e7.A z4.bs.length e7.c) 5 1 z4.bs.length (u8s z4.bs)::aa (.slice e6.A z2.bs.length e6.c) 5 1 z2.bs.length (u8s z2.bs)::aa (.slice e5.A z4.bs.length e5.c) 5 1 z4.bs.length (u8s z4.bs)::aa (.slice e3.A z2.bs.length e3.c) 5 1 z2.bs.length (u8s z2.bs)::crA bW 58 xA xc x::crA bW 58 yA yc y::I) w:=hS
   refine T ?_
   refine dF hq10 hk ?_
   iterate 2 refine T ?_
   refine cX 8 hz4 hk hS (fun b11 o11 e11 hS hq11=>?_)
   replace hS:S κ (L) (aa (.slice e11.A z4.bs.length e11.c) 5 1 z4.bs.length (u8s z4.bs)::aa (.slice e10.A z2.bs.length e10.c) 5 1 z2.bs.length (u8s z2.bs)::aa (.slice e9.A z4.bs.length e9.c) 5 1 z4.bs.length (u8s z4.bs)::aa (.slice e8.A z2.bs.length e8.c) 5 1 z2.bs.length (u8s z2.bs)::aa (.slice e7.A z4.bs.length e7.c) 5 1 z4.bs.length (u8s z4.bs)::aa (.slice e6.A z2.bs.length e6.c) 5 1 z2.bs.length (u8s z2.bs)::aa (.slice e5.A z4.bs.length e5.c) 5 1 z4.bs.length (u8s z4.bs)::aa (.slice e3.A z2.bs.length e3.c) 5 1 z2.bs.length (u8s z2.bs)::crA bW 58 xA xc x::crA bW 58 yA yc y::I) w:=hS
   refine T ?_
   refine dF hq11 hk ?_
   replace hS:=hS.dupI 0
   replace hS:=hS.dupI 2
   obtain ⟨q12,hq12,hI2⟩:=ao hI2
   refine eC hk (h:=tD z2.bs e10.A e10.c z4.bs e11.A e11.c _ hq12 hS) (k:=?_)
   rintro _ w ⟨rfl,hS⟩
   refine ⟨_,rfl,?_⟩
   replace hS:=hS.dropI.dropI
   replace hS:=hS.nz 0
   iterate 2 refine T ?_
   refine rE [0,1,5,67] hk fun a hk=>?_
   refine cB hk (fun hc67=>?_) (fun hc67=>?_)
   ·replace hc67:=nbt hc67
    replace hI2:=(bF hc67).symm.trans hI2
    refine sg [] hk ?_
    refine T ?_
    refine rE [4] hk fun a hk=>?_
    refine wp_ret ?_
    replace hS:=hS.dropI.dropI.dropI.dropI.dropI.dropI.dropI.dropI
    obtain rfl:=Option.some.inj hI2
    obtain rfl:=Option.some.inj ht
    exact rt1 hk (hR_ _ _ ⟨rfl,hS⟩)
   replace hc67:=nbf hc67
   replace hI2:=(bT hc67).symm.trans hI2
   refine wp_skip ?_
   refine rgL [] hk ?_
   refine T ?_
   refine dA hk ?_
   refine T ?_
   refine rE [0,1,5] hk fun a hk=>?_
   replace hS:=hS.dropI.dropI.dropI.dropI.dropI.dropI.dropI.dropI
   exact ⟨⟨k2 + 1,by omega,hI2,hk.to,hS⟩,aP hk.g hmu2 (by omega)⟩
  obtain rfl:k2 = (x).length:=by omega
  rw [ax (Nat.le_refl _)] at hI2
  refine wp_exit ?_
  obtain rfl:=Option.some.inj hI2
  exact ⟨_,rfl,hk.to,hS⟩
 rintro a w ⟨r2,hx,hk,hS⟩
 replace ht:=(fC hx).symm.trans ht
 refine sg [] hk ?_
 refine T ?_
 refine rE [4] hk fun a hk=>?_
 refine wp_ret ?_
 obtain rfl:=Option.some.inj ht
 exact rt1 hk (hR_ _ _ ⟨rfl,hS⟩)
end
section
theorem zU {a A:Act} {i k n:Nat} (h1:sl a i = i6 ((k:Int) + 1 + 1)) (h2:sl A i = i6 ((k:Int) + 1)) (h:k < n):n + 1 - (intOf (sl a i)).toNat < n + 1 - (intOf (sl A i)).toNat:=by
  rw [h1,h2];simp only [intOf];omega
def j4 (c:CoV):(Option RoS):=(gc c.id c.boot c.room c.ports)
set_option maxRecDepth 100000 in
set_option maxHeartbeats 8000000 in
theorem qy {κ:Kap} {L I:List Atom} (c:CoV) (cp:SlP) (W:World) (hS:S κ (L) ((rdA cp.A cp.c 3 c.ports.length (ab PtV.cells c.ports))::I) W):
    Calls Tryz.prog 8 #[.agg #[i6 c.id,i6 c.boot,i6 c.room,.slice cp.A c.ports.length cp.c]] W (fun r w'=>∃ o0:Option RoP,r = .returned (ptR o0)∧S κ ((tb roA o0 (j4 c))::L) ((rdA cp.A cp.c 3 c.ports.length (ab PtV.cells c.ports))::I) w'):=by
 generalize ht:(j4 c) = t_
 refine wK 12 Tryz.func8 (fun R_ hR_ a hk=>?_)
 refine sg [0] hk ?_
 refine eB hk hS (fun g2 w hS _=>?_)
 refine T ?_
 refine rE [1] hk fun a hk=>?_
 refine sg [8] hk ?_
 refine T ?_
 refine LD 0 hk hS ?_
 refine T ?_
 refine LD 0 hk hS ?_
 refine T ?_
 refine LD 0 hk hS ?_
 refine T ?_
 refine LD 0 hk hS ?_
 refine eC hk (h:=Ae c.id c.boot c.room c.ports cp.A cp.c _ hS) (k:=?_)
 rintro _ w ⟨o03,rfl,hS⟩
 refine ⟨_,rfl,?_⟩
 replace hS:=hS.nz 2
 refine T ?_
 refine rE [2] hk fun a hk=>?_
 refine wp_ret ?_
 replace hS:=hS.pk [0] 1
 subst ht
 exact rt1 hk (hR_ _ _ ⟨_,rfl,hS⟩)
def gd (k6:Nat) (k8:Nat) (z9:PtV):Option (Bool):=if (z9.lan:Int) ≠ k8 then some true else some (decide ((((k6:Int) + 1) % 2:Int) = 0))
def kP (c:CoV) (k8:Nat) (z9:PtV):Option (Int):=if (0:Int) < z9.prio then some (kN k8 c.id) else some 0
def cQ (c:CoV) (k6:Nat) (k8:Nat):List PtV → (List FrV) → Option ((List FrV))
  | [],v9x0=>some v9x0
  | z9::xs9,v9x0=>aJ (gd k6 k8 z9) fun r12=>cond r12 (cQ c k6 k8 xs9 v9x0) (if (8:Int) < (k6:Int) + 1 then aJ (kP c k8 z9) fun r14=>aJ (fx (⟨1,c.id,2,8,z9.prio,r14,0,[],false,false,false,0,[],[],[],[]⟩:PkV)) fun q17=>if v9x0.length + 1 ≤ 100000 then cQ c k6 k8 xs9 (v9x0 ++ [(⟨k8,c.id,0,q17⟩:FrV)]) else none else aJ (fx (⟨1,c.id,2,8,z9.prio,0,0,[],false,false,false,0,[],[],[],[]⟩:PkV)) fun q23=>if v9x0.length + 1 ≤ 100000 then cQ c k6 k8 xs9 (v9x0 ++ [(⟨k8,c.id,0,q23⟩:FrV)]) else none)
def d4 (c:CoV) (k6:Nat):List Nat → (List FrV) → Option ((List FrV))
  | [],v8x0=>some v8x0
  | k8::xs8,v8x0=>aJ (cQ c k6 k8 c.ports v8x0) fun r9=>d4 c k6 xs8 r9
def ib (c:CoV):List Nat → RoS → Option (Except (Bool) (RoS))
  | [],v6x0=>some (.ok v6x0)
  | k6::xs6,v6x0=>aJ (eJ v6x0) fun q7=>aJ (d4 c k6 (List.range 4) []) fun r8=>aJ (mB q7) fun q28=>aJ (nJ q7) fun q29=>aJ (gg q29.1 r8) fun q31=>cond (!q31) (some (.error false)) (if (((q28.length:Nat):Int):Int) ≠ 1 then some (.error false) else bw (q28.getD 0 ⟨⟨0,0,0,0,0,0,0⟩,[],[]⟩) fun z32=>if (z32.hd.adv:Int) ≠ c.id then some (.error false) else if (z32.hd.kind:Int) ≠ 1 then some (.error false) else if (20:Int) < z32.hd.age then some (.error false) else if (((z32.links.length:Nat):Int):Int) ≠ ((c.ports.length:Nat):Int) then some (.error false) else ib c xs6 q29.2)
def su (c:CoV) (ticks:Int):Option (Bool):=aJ (tL) fun q3=>cond q3 (ji ((j4 c)) (some true) fun s5=>if (8:Int) < ((c.ports.length:Nat):Int) then some true else aJ (ib c (List.range (ticks).toNat) s5) fun x6=>exE x6 (fun e=>some e) fun r6=>some true) (some false)
set_option maxRecDepth 100000 in
set_option maxHeartbeats 8000000 in
theorem uV {κ:Kap} {L I:List Atom} (c:CoV) (cp:SlP) (ticks:Int) (W:World) (htk:0 ≤ ticks∧ticks ≤ 255) {r_:Bool} (ht:(su c ticks) = some r_) (hS:S κ (L) ((rdA cp.A cp.c 3 c.ports.length (ab PtV.cells c.ports))::I) W):
    Calls Tryz.prog 4 #[.agg #[i6 c.id,i6 c.boot,i6 c.room,.slice cp.A c.ports.length cp.c],.int .u8 ticks] W (fun r w'=>r = .returned (.bool r_)∧S κ (L) ((rdA cp.A cp.c 3 c.ports.length (ab PtV.cells c.ports))::I) w'):=by
 refine wK 130 Tryz.func4 (fun R_ hR_ a hk=>?_)
 refine sg [0] hk ?_
 refine eB hk hS (fun g2 w hS _=>?_)
 refine T ?_
 refine rE [1,2] hk fun a hk=>?_
 refine wp_seq ?_
 refine sg [0] hk ?_
 obtain ⟨q3,hq3,ht⟩:=ao ht
 refine eC hk (h:=wu _ hq3 hS) (k:=?_)
 rintro _ w ⟨rfl,hS⟩
 refine ⟨_,rfl,?_⟩
 replace hS:=hS.nz 1
 refine T ?_
 refine rE [1,2,14] hk fun a hk=>?_
 refine cB hk (fun hc14=>?_) (fun hc14=>?_)
 ·replace hc14:=nbt hc14
  replace ht:=(bF hc14).symm.trans ht
  refine sg [] hk ?_
  refine T ?_
  refine rE [4] hk fun a hk=>?_
  refine wp_ret ?_
  replace hS:=hS.pk [] 1
  obtain rfl:=Option.some.inj ht
  exact rt1 hk (hR_ _ _ ⟨rfl,hS⟩)
 replace hc14:=nbf hc14
 replace ht:=(bT hc14).symm.trans ht
 refine wp_skip ?_
 refine sg [1] hk ?_
 refine LDS 0 4 hk hS ?_
 refine eC hk (h:=qy c cp _ hS) (k:=?_)
 rintro _ w ⟨o04,rfl,hS⟩
 refine ⟨_,rfl,?_⟩
 replace hS:=hS.nz 2
 refine T ?_
 refine rE [1,2,5] hk fun a hk=>?_
 refine wp_seq ?_
 refine sg [] hk ?_
 refine T ?_
 rcases nl hS with ⟨ho5,hs5,hS⟩ | ⟨P5,s5,ho5,hs5,hS⟩
 ·replace ht:=(fG hs5).symm.trans ht
  rw [ho5] at hk
  replace hk:Fr a 130 [(1,.int .u8 ticks),(2,pt g2 0),(5,.pointer none)]:=hk.to
  refine rwV 0 (ptR o04) (.pointer none) (by rw [ho5];rfl) ?_
  refine rD (.bool true) (fun _ h_=>rk (aq rfl (h_.x hk) rfl (fun _=>by kernel_rfl) (fun _=>rfl))) ?_
  refine T ?_
  refine oF 2 19 false [3,4,5,6] ?_
  refine T ?_
  refine rE [1,2,5,24] hk fun a hk=>?_
  refine cT hk ?_
  refine sg [] hk ?_
  refine T ?_
  refine rE [4] hk fun a hk=>?_
  refine wp_ret ?_
  replace hS:=hS.pk [] 1
  obtain rfl:=Option.some.inj ht
  exact rt1 hk (hR_ _ _ ⟨rfl,hS⟩)
 ·replace ht:=(fH hs5).symm.trans ht
  rw [ho5] at hk
  replace hk:Fr a 130 [(1,.int .u8 ticks),(2,pt g2 0),(5,pt P5.g 0)]:=hk.to
  refine rwV 0 (ptR o04) (pt P5.g 0) (by rw [ho5];rfl) ?_
  refine rD (.bool false) (fun _ h_=>rk (aq rfl (h_.x hk) rfl (fun _=>by kernel_rfl) (fun _=>rfl))) ?_
  iterate 2 refine T ?_
  refine LD 1 hk hS ?_
  iterate 3 refine T ?_
  refine rE [1,2,5,24] hk fun a hk=>?_
  refine cD hk (fun hc24=>?_) (fun hc24=>?_)
  ·replace ht:=(if_pos hc24).symm.trans ht
   refine sg [] hk ?_
   refine T ?_
   refine rE [4] hk fun a hk=>?_
   refine wp_ret ?_
   replace hS:=hS.pk [] 2
   obtain rfl:=Option.some.inj ht
   exact rt1 hk (hR_ _ _ ⟨rfl,hS⟩)
  replace ht:=(if_neg hc24).symm.trans ht
  refine wp_skip ?_
  refine wp_seq ?_
  refine sg [] hk ?_
  refine T ?_
  refine rE [1,2,5,6] hk fun a hk=>?_
  obtain ⟨x6,hr6,ht⟩:=ao ht
  refine aB (fun a_ w_=>∃ r6,x6 = .ok r6∧Fr a_ 130 []∧S κ (roA P5 r6::ai g2 24 #[i6 c.id,i6 c.boot,i6 c.room,.slice cp.A c.ports.length cp.c]::L) ((rdA cp.A cp.c 3 c.ports.length (ab PtV.cells c.ports))::I) w_) ?_ ?_
  ·refine wp_block ?_
   refine wp_loop (fun a_ w_=>∃ k6:Nat,∃ v6x0:RoS,(k6 ≤ (List.range (ticks).toNat).length)∧ib c ((List.range (ticks).toNat).drop k6) v6x0 = some x6∧Fr a_ 130 [(1,.int .u8 ticks),(2,pt g2 0),(5,pt P5.g 0),(6,i6 ((k6:Int) + 1))]∧S κ (roA P5 v6x0::ai g2 24 #[i6 c.id,i6 c.boot,i6 c.room,.slice cp.A c.ports.length cp.c]::L) ((rdA cp.A cp.c 3 c.ports.length (ab PtV.cells c.ports))::I) w_) (fun a_ _=>(List.range (ticks).toNat).length + 1 - (intOf (sl a_ 6)).toNat) ?_ ?_
   ·exact ⟨0,s5,Nat.zero_le _,hr6,hk.to,hS⟩
   clear hk hS
   rintro aL6 w ⟨k6,v6x0,hkl6,hI6,hk,hS⟩
   have hmu6:=hk.g (s:=6)
   have hlb6:=List.length_range (n:=(ticks).toNat)
   refine wp_seq ?_
   refine sg [] hk ?_
   iterate 2 refine T ?_
   refine rD (i6 ticks) (fun _ h_=>rk (iK rfl (h_.x hk) (by kernel_rfl) (wrap_i64 (by omega)) (by kernel_rfl))) ?_
   refine T ?_
   refine rE [1,2,5,6,28] hk fun a hk=>?_
   refine cD hk (fun hc28=>?_) (fun hc28=>?_)
   ·have hklt:k6 < (List.range (ticks).toNat).length:=by simp only [List.length_range] at *;omega
    rw [aF (z:=k6) (by simp at hklt;simp [hklt])] at hI6
    refine wp_skip ?_
    refine wp_seq ?_
    refine wp_block ?_
    refine sg [1] hk ?_
    refine T ?_
    obtain ⟨q7,hq7,hI6⟩:=ao hI6
    refine eC hk (h:=jR P5 v6x0 _ hq7 hS) (k:=?_)
    rintro _ w ⟨rfl,hS⟩
    refine ⟨_,rfl,?_⟩
    replace hS:=hS.nz 2
    refine rE [1,2,5,6] hk fun a hk=>?_
    refine sg [] hk ?_
    refine T ?_
    refine rE [1,2,5,6,7] hk fun a hk=>?_
    refine wp_seq ?_
    refine sg [] hk ?_
    refine T ?_
    refine rE [1,2,5,6,7,33] hk fun a hk=>?_
    obtain ⟨r8,hr8,hI6⟩:=ao hI6
    refine aB (fun a_ w_=>∃ A8x0 c8x0,Fr a_ 130 [(1,.int .u8 ticks),(2,pt g2 0),(5,pt P5.g 0),(6,i6 ((k6:Int) + 1)),(7,.slice A8x0 ((r8).length) c8x0)]∧S κ (crA bW 58 A8x0 c8x0 r8::roA P5 q7::ai g2 24 #[i6 c.id,i6 c.boot,i6 c.room,.slice cp.A c.ports.length cp.c]::L) ((rdA cp.A cp.c 3 c.ports.length (ab PtV.cells c.ports))::I) w_) ?_ ?_
    ·refine wp_block ?_
     refine wp_loop (fun a_ w_=>∃ k8:Nat,∃ v8x0:List FrV,∃ A8x0 c8x0,(k8 ≤ (List.range 4).length)∧d4 c k6 ((List.range 4).drop k8) v8x0 = some r8∧Fr a_ 130 [(1,.int .u8 ticks),(2,pt g2 0),(5,pt P5.g 0),(6,i6 ((k6:Int) + 1)),(7,.slice A8x0 ((v8x0).length) c8x0),(33,i6 k8)]∧S κ (crA bW 58 A8x0 c8x0 v8x0::roA P5 q7::ai g2 24 #[i6 c.id,i6 c.boot,i6 c.room,.slice cp.A c.ports.length cp.c]::L) ((rdA cp.A cp.c 3 c.ports.length (ab PtV.cells c.ports))::I) w_) (fun a_ _=>(List.range 4).length - (intOf (sl a_ 33)).toNat) ?_ ?_
     ·replace hS:=hS.crNil bW 58
      replace hS:=hS.nz 3
      exact ⟨0,[],_,_,Nat.zero_le _,hr8,hk.to,hS⟩
     clear hk hS
     rintro aL8 w ⟨k8,v8x0,A8x0,c8x0,hkl8,hI8,hk,hS⟩
     have hmu8:=hk.g (s:=33)
     have hlb8:=List.length_range (n:=4)
     refine sg [] hk ?_
     refine T ?_
     refine rE [1,2,5,6,7,33,34] hk fun a hk=>?_
     refine wp_seq ?_
     refine cD hk (fun hc34=>?_) (fun hc34=>?_)
     ·have hklt:k8 < (List.range 4).length:=by simp only [List.length_range] at *;omega
      rw [aF (z:=k8) (by simp at hklt;simp [hklt])] at hI8
      refine wp_skip ?_
      refine wp_seq ?_
      refine wp_block ?_
      refine sg [] hk ?_
      iterate 2 refine T ?_
      refine rE [1,2,5,6,7,8,33] hk fun a hk=>?_
      refine sg [] hk ?_
      refine T ?_
      refine LD 2 hk hS ?_
      iterate 2 refine T ?_
      refine rE [1,2,5,6,7,8,33,37,38,39] hk fun a hk=>?_
      obtain ⟨r9,hr9,hI8⟩:=ao hI8
      refine aB (fun a_ w_=>∃ A9x0 c9x0,Fr a_ 130 [(1,.int .u8 ticks),(2,pt g2 0),(5,pt P5.g 0),(6,i6 ((k6:Int) + 1)),(7,.slice A9x0 ((r9).length) c9x0),(33,i6 k8)]∧S κ (crA bW 58 A9x0 c9x0 r9::roA P5 q7::ai g2 24 #[i6 c.id,i6 c.boot,i6 c.room,.slice cp.A c.ports.length cp.c]::L) ((rdA cp.A cp.c 3 c.ports.length (ab PtV.cells c.ports))::I) w_) ?_ ?_
      ·refine wp_block ?_
       refine wp_loop (fun a_ w_=>∃ k9:Nat,∃ v9x0:List FrV,∃ A9x0 c9x0,(k9 ≤ (c.ports).length)∧cQ c k6 k8 ((c.ports).drop k9) v9x0 = some r9∧Fr a_ 130 [(1,.int .u8 ticks),(2,pt g2 0),(5,pt P5.g 0),(6,i6 ((k6:Int) + 1)),(7,.slice A9x0 ((v9x0).length) c9x0),(8,i6 k8),(33,i6 k8),(37,.slice cp.A c.ports.length cp.c),(38,i6 ((c.ports.length:Nat):Int)),(39,i6 k9)]∧S κ (crA bW 58 A9x0 c9x0 v9x0::roA P5 q7::ai g2 24 #[i6 c.id,i6 c.boot,i6 c.room,.slice cp.A c.ports.length cp.c]::L) ((rdA cp.A cp.c 3 c.ports.length (ab PtV.cells c.ports))::I) w_) (fun a_ _=>(c.ports).length - (intOf (sl a_ 39)).toNat) ?_ ?_
       ·exact ⟨0,v8x0,_,_,Nat.zero_le _,hr9,hk.to,hS⟩
       clear hk hS
       rintro aL9 w ⟨k9,v9x0,A9x0,c9x0,hkl9,hI9,hk,hS⟩
       have hmu9:=hk.g (s:=39)
       have hlb9:=hS.rdLen (i:=0) rfl
       refine sg [] hk ?_
       refine T ?_
       refine rE [1,2,5,6,7,8,33,37,38,39,40] hk fun a hk=>?_
       refine wp_seq ?_
       refine cD hk (fun hc40=>?_) (fun hc40=>?_)
       ·obtain ⟨z9,hz9⟩:=cq (show k9 < (c.ports).length by omega)
        rw [aF hz9] at hI9
        refine wp_skip ?_
        refine wp_seq ?_
        refine wp_block ?_
        refine sg [2,3] hk ?_
        refine dX PtV.cells_len' hk (hS.rdR (i:=0) rfl) (fun b10 o10 z10 hz10 hq10=>?_)
        obtain rfl:z9 = z10:=Option.some.inj (hz9.symm.trans hz10)
        refine dV 3 hq10 hk ?_
        refine eA #[i6 0,i6 0,i6 0] hS (fun g11 w hS _=>?_)
        refine eS 0 hk hS (fun w hS _=>?_)
        refine rE [1,2,5,6,7,8,10,33,37,38,39] hk fun a hk=>?_
        refine wp_seq ?_
        refine wp_seq ?_
        obtain ⟨r12,hr12,hI9⟩:=ao hI9
        refine aB (fun a_ w_=>Fr a_ 130 [(1,.int .u8 ticks),(2,pt g2 0),(5,pt P5.g 0),(6,i6 ((k6:Int) + 1)),(7,.slice A9x0 ((v9x0).length) c9x0),(8,i6 k8),(10,pt g11 0),(33,i6 k8),(37,.slice cp.A c.ports.length cp.c),(38,i6 ((c.ports.length:Nat):Int)),(39,i6 k9),(51,.bool r12)]∧S κ (ai g11 26 #[i6 z9.lan,i6 z9.prio,i6 z9.cost]::crA bW 58 A9x0 c9x0 v9x0::roA P5 q7::ai g2 24 #[i6 c.id,i6 c.boot,i6 c.room,.slice cp.A c.ports.length cp.c]::L) ((rdA cp.A cp.c 3 c.ports.length (ab PtV.cells c.ports))::I) w_) ?_ ?_
        ·have hI12:=hr12
         refine rgL [] hk ?_
         refine T ?_
         refine LD 0 hk hS ?_
         iterate 3 refine T ?_
         rcases dt ((z9.lan:Int) ≠ k8) with ⟨he,hg4⟩ | ⟨he,hg4⟩
         ·rw [he]
          replace hI12:=(if_pos hg4).symm.trans hI12
          refine oF 4 47 false [5,6,7] ?_
          refine T ?_
          refine rE [1,2,5,6,7,8,10,33,37,38,39,51] hk fun a hk=>?_
          obtain rfl:=Option.some.inj hI12
          exact ⟨hk.to,hS⟩
         rw [he]
         replace hI12:=(if_neg hg4).symm.trans hI12
         refine T ?_
         refine rD (i6 (((k6:Int) + 1) % 2)) (fun _ h_=>bL (h_.on 4 47) (cw rfl (h_.x hk) rfl (by show (pure _:Sem Value) = pure _;exact congrArg _ (congrArg _ (Int.tmod_eq_emod_of_nonneg (by omega)))))) ?_
         iterate 2 refine T ?_
         refine rE [1,2,5,6,7,8,10,33,37,38,39,51] hk fun a hk=>?_
         obtain rfl:=Option.some.inj hI12
         exact ⟨hk.to,hS⟩
        rintro a w ⟨hk,hS⟩
        refine cB hk (fun hc51=>?_) (fun hc51=>?_)
        ·replace hI9:=(bT hc51).symm.trans hI9
         refine wp_exit ?_
         refine rgL [] hk ?_
         refine dA hk ?_
         refine T ?_
         refine rE [1,2,5,6,7,8,33,37,38,39] hk fun a hk=>?_
         replace hS:=hS.pk [1,1,1] 1
         exact ⟨⟨k9 + 1,v9x0,_,_,by omega,hI9,hk.to,hS⟩,aP hk.g hmu9 (by omega)⟩
        replace hI9:=(bF hc51).symm.trans hI9
        refine wp_skip ?_
        refine sg [3,4] hk ?_
        refine T ?_
        refine LD 0 hk hS ?_
        refine rD (.agg #[i6 2,i6 8,i6 z9.prio,i6 0,i6 0,.slice none 0 0]) (fun _ h_=>rk (af rfl (h_.prt hk) (by kernel_rfl))) ?_
        refine eA #[i6 0,i6 0,i6 0,i6 0,i6 0,.slice none 0 0] hS (fun g13 w hS _=>?_)
        refine eS 0 hk hS (fun w hS _=>?_)
        refine rE [1,2,5,6,7,8,10,11,33,37,38,39] hk fun a hk=>?_
        refine wp_seq ?_
        refine sg [] hk ?_
        iterate 3 refine T ?_
        rcases dt ((8:Int) < (k6:Int) + 1) with ⟨he,hg2⟩ | ⟨he,hg2⟩
        ·rw [he]
         replace hI9:=(if_pos hg2).symm.trans hI9
         refine T ?_
         refine LD 1 hk hS ?_
         iterate 2 refine T ?_
         refine rE [1,2,5,6,7,8,11,33,37,38,39,61] hk fun a hk=>?_
         obtain ⟨r14,hr14,hI9⟩:=ao hI9
         refine aB (fun a_ w_=>Fr a_ 130 [(1,.int .u8 ticks),(2,pt g2 0),(5,pt P5.g 0),(6,i6 ((k6:Int) + 1)),(7,.slice A9x0 ((v9x0).length) c9x0),(8,i6 k8),(11,pt g13 0),(33,i6 k8),(37,.slice cp.A c.ports.length cp.c),(38,i6 ((c.ports.length:Nat):Int)),(39,i6 k9)]∧S κ (ai g13 46 #[i6 2,i6 8,i6 z9.prio,i6 r14,i6 0,.slice none 0 0]::ai g11 26 #[i6 z9.lan,i6 z9.prio,i6 z9.cost]::crA bW 58 A9x0 c9x0 v9x0::roA P5 q7::ai g2 24 #[i6 c.id,i6 c.boot,i6 c.room,.slice cp.A c.ports.length cp.c]::L) ((rdA cp.A cp.c 3 c.ports.length (ab PtV.cells c.ports))::I) w_) ?_ ?_
         ·have hI14:=hr14
          refine cD hk (fun hc61=>?_) (fun hc61=>?_)
          ·replace hI14:=(if_pos hc61).symm.trans hI14
           refine rgL [3,5] hk ?_
           iterate 2 refine T ?_
           refine LD 4 hk hS ?_
           refine eC hk (h:=oh k8 c.id _ hS) (k:=?_)
           rintro _ w ⟨rfl,hS⟩
           refine ⟨_,rfl,?_⟩
           replace hS:=hS.nz 5
           refine T ?_
           refine eS 0 hk hS (fun w hS _=>?_)
           refine rE [1,2,5,6,7,8,11,33,37,38,39] hk fun a hk=>?_
           obtain rfl:=Option.some.inj hI14
           exact ⟨hk.to,hS⟩
          replace hI14:=(if_neg hc61).symm.trans hI14
          refine wp_skip ?_
          obtain rfl:=Option.some.inj hI14
          exact ⟨hk.to,hS⟩
         rintro a w ⟨hk,hS⟩
         refine rgR [[],[],[],[2],[],[4],[],[4,5,6],[4,5,6,7],[1,2,3,4,5,6,7,8],[1,2,3,4,5,6,7,8,9],[0,1,2,3,4,5,6,7,8,9,10],[0,1,2,3,4,5,6,7,8,9,10,11]] [8,10,11] (.rd 0 (.rd 1 (.rd 2 (.rd 3 (.rd 4 (.rd 5 (.rd 6 (.rd 7 (.ef 8 (.ag 0 (.ag 1 (.ag 2 (.ag 3 (.rd 9 (.ef 10 (.ag 0 (.ef 11 (.rd 12 (.fin)) .non)) .non)))))) .non))))))))) hk hS (fun w hS _=>?_)
         iterate 3 refine T ?_
         refine LD 4 hk hS ?_
         refine T ?_
         refine LD 4 hk hS ?_
         refine LDS 0 6 hk hS ?_
         refine rD (.agg #[i6 1,i6 c.id,i6 2,i6 8,i6 z9.prio,i6 r14,i6 0,.slice none 0 0,.bool false,.bool false,.bool false,i6 0,.slice none 0 0,.slice none 0 0,.slice none 0 0,.slice none 0 0]) (fun _ h_=>rk (af rfl (h_.prt hk) (by kernel_rfl))) ?_
         have hS:=hS.nilrow 3 1
         replace hS:=hS.nz 6
         have hS:=hS.nilrow 63 7
         replace hS:=hS.nz 7
         have hS:=hS.nilrow 111 3
         replace hS:=hS.nz 8
         replace hS:=hS.crNil lsFn 66
         replace hS:=hS.nz 9
         replace hS:=hS.pk [3,2,1,0] 0
         obtain ⟨J16,hS,hJ16⟩:=S.lend (M:=[_,_,_,_]) hS
         replace hS:=hS.dupI 1
         replace hS:=hS.dupI 4
         replace hS:=hS.dupI 4
         replace hS:=hS.dupI 2
         replace hS:=hS.dupI 4
         obtain ⟨q17,hq17,hI9⟩:=ao hI9
         refine eC hk (h:=lJ (⟨1,c.id,2,8,z9.prio,r14,0,[],false,false,false,0,[],[],[],[]⟩:PkV) (⟨⟨none,0⟩,⟨none,0⟩,⟨none,0⟩,⟨none,0⟩,⟨none,0⟩⟩:SlP × SlP × SlP × SlP × SlP) _ hq17 hS) (k:=?_)
         rintro _ w ⟨B017,d017,rfl,hS⟩
         refine ⟨_,rfl,?_⟩
         replace hS:=hS.dropI.dropI.dropI.dropI.dropI
         replace hS:=hJ16 _ _ hS
         replace hS:=hS.nz 10
         iterate 3 refine TA ?_
         refine aG (fun _ h_=>rk (ld hS 9 rfl (h_.x hk))) ?_
         refine rD (.agg #[i6 k8,i6 c.id,i6 0,.slice B017 q17.length d017]) (fun _ h_=>rk (af rfl (h_.prt hk) (by kernel_rfl))) ?_
         refine eF (fun a_ h_=>aZ (e:=58) (cells:=#[i6 k8,i6 c.id,i6 0,.slice B017 q17.length d017]) hS (ae rfl) rfl (h_.prtL hk) fun g18 w hS _=>⟨_,rfl,?_⟩)
         refine TA ?_
         obtain ⟨hgd20,hI9⟩:=gdE hI9
         replace hS:=hS.pk [8,5] 0
         refine eF (fun a_ h_=>sA (bytes:=48) bW (⟨k8,c.id,0,q17⟩:FrV) (⟨B017,d017⟩:SlP) hS (ae rfl) rfl (h_.x hk) (h_.x hk) (ay (hS.blk (i:=2) rfl) rfl) (by (try simp only [List.length_append,List.length_cons,List.length_nil,List.length_take,List.length_drop]);omega) fun A21 c21 w hS=>⟨_,rfl,?_⟩)
         replace hS:=hS.nz 10
         refine T ?_
         refine rE [1,2,5,6,7,8,33,37,38,39] hk fun a hk=>?_
         refine rgL [] hk ?_
         refine dA hk ?_
         refine T ?_
         refine rE [1,2,5,6,7,8,33,37,38,39] hk fun a hk=>?_
         replace hS:=hS.pk [0,7,7] 7
         exact ⟨⟨k9 + 1,(v9x0 ++ [(⟨k8,c.id,0,q17⟩:FrV)]),_,_,by omega,hI9,hk.to,hS⟩,aP hk.g hmu9 (by omega)⟩
        rw [he]
        replace hI9:=(if_neg hg2).symm.trans hI9
        refine oF 2 57 true [3,4,5] ?_
        refine T ?_
        refine rE [1,2,5,6,7,8,11,33,37,38,39,61] hk fun a hk=>?_
        refine cF hk ?_
        refine wp_skip ?_
        refine rgR [[],[],[],[2],[],[4],[],[4,5,6],[4,5,6,7],[1,2,3,4,5,6,7,8],[1,2,3,4,5,6,7,8,9],[0,1,2,3,4,5,6,7,8,9,10],[0,1,2,3,4,5,6,7,8,9,10,11]] [8,10,11] (.rd 0 (.rd 1 (.rd 2 (.rd 3 (.rd 4 (.rd 5 (.rd 6 (.rd 7 (.ef 8 (.ag 0 (.ag 1 (.ag 2 (.ag 3 (.rd 9 (.ef 10 (.ag 0 (.ef 11 (.rd 12 (.fin)) .non)) .non)))))) .non))))))))) hk hS (fun w hS _=>?_)
        iterate 3 refine T ?_
        refine LD 4 hk hS ?_
        refine T ?_
        refine LD 4 hk hS ?_
        refine LDS 0 6 hk hS ?_
        refine rD (.agg #[i6 1,i6 c.id,i6 2,i6 8,i6 z9.prio,i6 0,i6 0,.slice none 0 0,.bool false,.bool false,.bool false,i6 0,.slice none 0 0,.slice none 0 0,.slice none 0 0,.slice none 0 0]) (fun _ h_=>rk (af rfl (h_.prt hk) (by kernel_rfl))) ?_
        have hS:=hS.nilrow 3 1
        replace hS:=hS.nz 6
        have hS:=hS.nilrow 63 7
        replace hS:=hS.nz 7
        have hS:=hS.nilrow 111 3
        replace hS:=hS.nz 8
        replace hS:=hS.crNil lsFn 66
        replace hS:=hS.nz 9
        replace hS:=hS.pk [3,2,1,0] 0
        obtain ⟨J22,hS,hJ22⟩:=S.lend (M:=[_,_,_,_]) hS
        replace hS:=hS.dupI 1
        replace hS:=hS.dupI 4
        replace hS:=hS.dupI 4
        replace hS:=hS.dupI 2
        replace hS:=hS.dupI 4
        obtain ⟨q23,hq23,hI9⟩:=ao hI9
        refine eC hk (h:=lJ (⟨1,c.id,2,8,z9.prio,0,0,[],false,false,false,0,[],[],[],[]⟩:PkV) (⟨⟨none,0⟩,⟨none,0⟩,⟨none,0⟩,⟨none,0⟩,⟨none,0⟩⟩:SlP × SlP × SlP × SlP × SlP) _ hq23 hS) (k:=?_)
        rintro _ w ⟨B023,d023,rfl,hS⟩
        refine ⟨_,rfl,?_⟩
        replace hS:=hS.dropI.dropI.dropI.dropI.dropI
        replace hS:=hJ22 _ _ hS
        replace hS:=hS.nz 10
        iterate 3 refine TA ?_
        refine aG (fun _ h_=>rk (ld hS 9 rfl (h_.x hk))) ?_
        refine rD (.agg #[i6 k8,i6 c.id,i6 0,.slice B023 q23.length d023]) (fun _ h_=>rk (af rfl (h_.prt hk) (by kernel_rfl))) ?_
        refine eF (fun a_ h_=>aZ (e:=58) (cells:=#[i6 k8,i6 c.id,i6 0,.slice B023 q23.length d023]) hS (ae rfl) rfl (h_.prtL hk) fun g24 w hS _=>⟨_,rfl,?_⟩)
        refine TA ?_
        obtain ⟨hgd26,hI9⟩:=gdE hI9
        replace hS:=hS.pk [8,5] 0
        refine eF (fun a_ h_=>sA (bytes:=48) bW (⟨k8,c.id,0,q23⟩:FrV) (⟨B023,d023⟩:SlP) hS (ae rfl) rfl (h_.x hk) (h_.x hk) (ay (hS.blk (i:=2) rfl) rfl) (by (try simp only [List.length_append,List.length_cons,List.length_nil,List.length_take,List.length_drop]);omega) fun A27 c27 w hS=>⟨_,rfl,?_⟩)
        replace hS:=hS.nz 10
        refine T ?_
        refine rE [1,2,5,6,7,8,33,37,38,39] hk fun a hk=>?_
        refine rgL [] hk ?_
        refine dA hk ?_
        refine T ?_
        refine rE [1,2,5,6,7,8,33,37,38,39] hk fun a hk=>?_
        replace hS:=hS.pk [0,7,7] 7
        exact ⟨⟨k9 + 1,(v9x0 ++ [(⟨k8,c.id,0,q23⟩:FrV)]),_,_,by omega,hI9,hk.to,hS⟩,aP hk.g hmu9 (by omega)⟩
       obtain rfl:k9 = (c.ports).length:=by omega
       rw [ax (Nat.le_refl _)] at hI9
       refine wp_exit ?_
       obtain rfl:=Option.some.inj hI9
       exact ⟨_,_,hk.to,hS⟩
      rintro a w ⟨A9x0,c9x0,hk,hS⟩
      refine rgL [] hk ?_
      refine dA hk ?_
      refine T ?_
      refine rE [1,2,5,6,7,33] hk fun a hk=>?_
      exact ⟨⟨k8 + 1,r9,_,_,by omega,hI8,hk.to,hS⟩,aP hk.g hmu8 (by omega)⟩
     obtain rfl:k8 = (List.range 4).length:=by (first | omega | (simp only [List.length_range] at *;omega))
     rw [ax (Nat.le_refl _)] at hI8
     refine wp_exit ?_
     obtain rfl:=Option.some.inj hI8
     exact ⟨_,_,hk.to,hS⟩
    rintro a w ⟨A8x0,c8x0,hk,hS⟩
    refine sg [1] hk ?_
    refine T ?_
    replace hS:=hS.pk [1] 0
    obtain ⟨q28,hq28,hI6⟩:=ao hI6
    refine eC hk (h:=tz P5 q7 _ hq28 hS) (k:=?_)
    rintro _ w ⟨B028,d028,rfl,hS⟩
    refine ⟨_,rfl,?_⟩
    replace hS:=hS.nz 4
    refine T ?_
    refine rE [1,2,5,6,7,12] hk fun a hk=>?_
    refine wp_seq ?_
    refine rgR [[],[0],[],[0,1,2],[0,1,2,3],[0,1,2,3,4],[0,1,2,3,4,5],[0,1,2,3,4,5,6],[0,1,2,3,4,5,6,7],[0,1,2,3,4,5,6,7,8],[0,1,2,3,4,5,6,7,8,9],[0,1,2,3,4,5,6,7,8,9,10],[0,1,2,3,4,5,6,7,8,9,10,11],[0,1,2,3,4,5,6,7,8,9,10,11,12],[0,1,2,3,4,5,6,7,8,9,10,11,12,13],[0,1,2,3,4,5,6,7,8,9,10,11,12,13,14],[0,1,2,3,4,5,6,7,8,9,10],[0,1,2,3,4,5,6,7,8,9,10,16],[0,1,2,3,4,5,6,7,8,9,10,11,12,13,14,15,16,17],[0,1,2,3,4,5,6,7,8,9,10,11,12,13,14,15,16,17,18],[0,1,2,3,4,5,6,7,8,9,10,11,12,13,14,15,16,17,18,19],[0,1,2,3,4,5,6,7,8,9,10,11,12,13,14,15,16,17,18,19,20],[0,1,2,3,4,5,6,7,8,9,10,11,12,13,14,15,16,17,18,19,20,21],[0,1,2,3,4,5,6,7,8,9,10,11,12,13,14,15,16,17,18,19,20,21,22],[0,1,2,3,4,5,6,7,8,9,10,11,12,13,14,15,16,17,18,19,20,21,22,23],[0,1,2,3,4,5,6,7,8,9,10,11,12,13,14,15,16,17,18,19,20,21,22,23,24],[0,1,2,3,4,5,6,7,8,9,10,11,12,13,14,15,16,17,18,19,20,21,22,23,24,25],[0,1,2,3,4,5,6,7,8,9,10,11,12,13,14,15,16,17,18,19,20,21,22,23,24,25,26],[0,1,2,3,4,5,6,7,8,9,10,11,12,13,14,15,16,17,18,19,20,21,22,23,24,25,26,27],[0,1,2,3,4,5,6,7,8,9,10,11,12,13,14,15,16,17,18,19,20,21,22,23,24,25,26,27,28],[0,1,2,3,4,5,6,7,8,9,10,11,12,13,14,15,16,17,18,19,20,21,22,23,24,25,26,27,28,29],[0,1,2,3,4,5,6,7,8,9,10,11,12,13,14,15,16,17,18,19,20,21,22,23,24,25,26,27,28,29,30],[0,1,2,3,4,5,6,7,8,9,10,11,12,13,14,15,16,17,18,19,20,21,22,23,24,25,26,27,28,29,30,31],[0,1,2,3,4,5,6,7,8,9,10,11,12,13,14,15,16,17,18,19,20,21,22,23,24,25,26,27,28,29,30,31,32],[0,1,2,3,4,5,6,7,8,9,10,11,12,13,14,15,16,17,18,19,20,21,22,23,24,25,26,27,28,29,30,31,32,33],[0,1,2,3,4,5,6,7,8,9,10,11,12,13,14,15,16,17,18,19,20,21,22,23,24,25,26,27,28,29,30,31,32,33,34],[0,1,2,3,4,5,6,7,8,9,10,11,12,13,14,15,16,17,18,19,20,21,22,23,24,25,26,27,28,29,30,31,32,33,34,35],[0,1,2,3,4,5,6,7,8,9,10,11,12,13,14,15,16,17,18,19,20,21,22,23,24,25,26,27,28,29,30,31,32,33,34,35,36],[0,1,2,3,4,5,6,7,8,9,10,11,12,13,14,15,16,17,18,19,20,21,22,23,24,25,26,27,28,29,30,31,32,33,34,35,36,37],[0,1,2,3,4,5,6,7,8,9,10,11,12,13,14,15,16,17,18,19,20,21,22,23,24,25,26,27,28,29,30,31,32,33,34,35,36,37,38],[0,1,2,3,4,5,6,7,8,9,10,11,12,13,14,15,16,17,18,19,20,21,22,23,24,25,26,27,28,29,30,31,32,33,34,35,36,37,38,39],[0,1,2,3,4,5,6,7,8,9,10,11,12,13,14,15,16,17,18,19,20,21,22,23,24,25,26,27,28,29,30,31,32,33,34,35,36,37,38,39,40],[0,1,2,3,4,5,6,7,8,9,10,11,12,13,14,15,16,17,18,19,20,21,22,23,24,25,26,27,28,29,30,31,32,33,34,35,36],[0,1,2,3,4,5,6,7,8,9,10,11,12,13,14,15,16,17,18,19,20,21,22,23,24,25,26,27,28,29,30,31,32,33,34,35,36,42],[0,1,2,3,4,5,6,7,8,9,10,11,12,13,14,15,16,17,18,19,20,21,22,23,24,25,26,27,28,29,30,31,32,33,34,35,36,42,43],[0,1,2,3,4,5,6,7,8,9,10,11,12,13,14,15,16,17,18,19,20,21,22,23,24,25,26,27,28,29,30,31,32,33,34,35,36,37,38,39,40,41,42,43,44],[0,1,2,3,4,5,6,7,8,9,10,11,12,13,14,15,16,17,18,19,20,21,22,23,24,25,26,27,28,29,30,31,32,33,34,35,36,37,38,39,40,41,42,43,44,45]] [1,3] (.rd 0 (.rd 2 (.ef 1 (.ag 2 (.ef 3 (.rd 4 (.rd 5 (.rd 6 (.rd 7 (.rd 8 (.rd 9 (.rd 10 (.rd 11 (.rd 12 (.rd 13 (.rd 14 (.rd 15 (.rd 16 (.rd 17 (.rd 18 (.rd 19 (.rd 20 (.rd 21 (.rd 22 (.rd 23 (.rd 24 (.rd 25 (.rd 26 (.rd 27 (.rd 28 (.rd 29 (.rd 30 (.rd 31 (.rd 32 (.rd 33 (.rd 34 (.rd 35 (.rd 36 (.rd 37 (.rd 38 (.rd 39 (.rd 40 (.rd 41 (.rd 42 (.rd 43 (.rd 44 (.rd 45 (.rd 46 (.fin)))))))))))))))))))))))))))))))))))))))))))) .non)) .non))) hk hS (fun w hS _=>?_)
    iterate 2 refine T ?_
    replace hS:=hS.pk [1] 0
    obtain ⟨q29,hq29,hI6⟩:=ao hI6
    refine eC hk (h:=ls P5 q7 _ hq29 hS) (k:=?_)
    rintro _ w ⟨B029,d029,rfl,hS⟩
    refine ⟨_,rfl,?_⟩
    replace hS:=hS.nz 5
    refine TA ?_
    replace hS:=hS.pk [0,2] 0
    obtain ⟨J30,hS,hJ30⟩:=S.lend (M:=[_,_]) hS
    obtain ⟨q31,hq31,hI6⟩:=ao hI6
    refine eC hk (h:=pI q29.1 B029 d029 r8 A8x0 c8x0 _ hq31 hS) (k:=?_)
    rintro _ w ⟨rfl,hS⟩
    refine ⟨_,rfl,?_⟩
    replace hS:=hJ30 _ _ hS
    replace hS:=hS.nz 5
    iterate 2 refine T ?_
    rcases bt (!q31) with hg5 | hg5
    ·refine rwV 4 (.bool (!q31)) (.bool true) (by rw [hg5]) ?_
     refine rwV 5 (.bool (!q31)) (.bool true) (by rw [hg5]) ?_
     replace hI6:=(bT hg5).symm.trans hI6
     refine oF 5 88 false [6,7,8] ?_
     iterate 2 refine T ?_
     refine oF 10 93 false [11,12,13,14,15,16,17,18] ?_
     iterate 2 refine T ?_
     refine oF 20 103 false [21,22,23,24,25,26] ?_
     iterate 2 refine T ?_
     refine oF 28 111 false [29,30,31,32,33,34] ?_
     iterate 2 refine T ?_
     refine oF 36 119 false [37,38,39,40,41,42,43,44,45] ?_
     refine T ?_
     refine rE [1,2,5,6,129] hk fun a hk=>?_
     refine cT hk ?_
     refine sg [] hk ?_
     refine T ?_
     refine rE [4] hk fun a hk=>?_
     refine wp_ret ?_
     replace hS:=hS.pk [] 5
     obtain rfl:=Option.some.inj hI6
     obtain rfl:=Option.some.inj ht
     exact rt1 hk (hR_ _ _ ⟨rfl,hS⟩)
    refine rwV 4 (.bool (!q31)) (.bool false) (by rw [hg5]) ?_
    refine rwV 5 (.bool (!q31)) (.bool false) (by rw [hg5]) ?_
    replace hI6:=(bF hg5).symm.trans hI6
    iterate 5 refine T ?_
    rcases dt ((((q28.length:Nat):Int):Int) ≠ 1) with ⟨he,hg10⟩ | ⟨he,hg10⟩
    ·rw [he]
     replace hI6:=(if_pos hg10).symm.trans hI6
     refine oF 10 93 false [11,12,13,14,15,16,17,18] ?_
     iterate 2 refine T ?_
     refine oF 20 103 false [21,22,23,24,25,26] ?_
     iterate 2 refine T ?_
     refine oF 28 111 false [29,30,31,32,33,34] ?_
     iterate 2 refine T ?_
     refine oF 36 119 false [37,38,39,40,41,42,43,44,45] ?_
     refine T ?_
     refine rE [1,2,5,6,129] hk fun a hk=>?_
     refine cT hk ?_
     refine sg [] hk ?_
     refine T ?_
     refine rE [4] hk fun a hk=>?_
     refine wp_ret ?_
     replace hS:=hS.pk [] 5
     obtain rfl:=Option.some.inj hI6
     obtain rfl:=Option.some.inj ht
     exact rt1 hk (hR_ _ _ ⟨rfl,hS⟩)
    rw [he]
    replace hI6:=(if_neg hg10).symm.trans hI6
    refine T ?_
    replace hS:=hS.fr 3
    replace hS:=hS.freeze
    obtain ⟨z32,hz32⟩:=cq (show 0 < q28.length by omega)
    replace hI6:=(am (fV hz32)).symm.trans hI6
    refine cX 0 hz32 hk hS (fun b33 o33 e33 hS hq33=>?_)
    replace hS:=hS.nz 4
    iterate 2 refine T ?_
    refine dF hq33 hk ?_
    refine T ?_
    refine LD 3 hk hS ?_
    iterate 3 refine T ?_
    rcases dt ((z32.hd.adv:Int) ≠ c.id) with ⟨he,hg20⟩ | ⟨he,hg20⟩
    ·rw [he]
     replace hI6:=(if_pos hg20).symm.trans hI6
     refine oF 20 103 false [21,22,23,24,25,26] ?_
     iterate 2 refine T ?_
     refine oF 28 111 false [29,30,31,32,33,34] ?_
     iterate 2 refine T ?_
     refine oF 36 119 false [37,38,39,40,41,42,43,44,45] ?_
     refine T ?_
     refine rE [1,2,5,6,129] hk fun a hk=>?_
     refine cT hk ?_
     refine sg [] hk ?_
     refine T ?_
     refine rE [4] hk fun a hk=>?_
     refine wp_ret ?_
     replace hS:=hS.pk [] 4
     replace hS:=hS.dropI.dropI.dropI
     obtain rfl:=Option.some.inj hI6
     obtain rfl:=Option.some.inj ht
     exact rt1 hk (hR_ _ _ ⟨rfl,hS⟩)
    rw [he]
    replace hI6:=(if_neg hg20).symm.trans hI6
    refine T ?_
    refine cX 2 hz32 hk hS (fun b34 o34 e34 hS hq34=>?_)
    replace hS:=hS.nz 4
    iterate 2 refine T ?_
    refine dF hq34 hk ?_
    iterate 3 refine T ?_
    rcases dt ((z32.hd.kind:Int) ≠ 1) with ⟨he,hg28⟩ | ⟨he,hg28⟩
    ·rw [he]
     replace hI6:=(if_pos hg28).symm.trans hI6
     refine oF 28 111 false [29,30,31,32,33,34] ?_
     iterate 2 refine T ?_
     refine oF 36 119 false [37,38,39,40,41,42,43,44,45] ?_
     refine T ?_
     refine rE [1,2,5,6,129] hk fun a hk=>?_
     refine cT hk ?_
     refine sg [] hk ?_
     refine T ?_
     refine rE [4] hk fun a hk=>?_
     refine wp_ret ?_
     replace hS:=hS.pk [] 4
     replace hS:=hS.dropI.dropI.dropI.dropI.dropI
     obtain rfl:=Option.some.inj hI6
     obtain rfl:=Option.some.inj ht
     exact rt1 hk (hR_ _ _ ⟨rfl,hS⟩)
    rw [he]
    replace hI6:=(if_neg hg28).symm.trans hI6
    refine T ?_
    refine cX 4 hz32 hk hS (fun b35 o35 e35 hS hq35=>?_)
    replace hS:=hS.nz 4
    iterate 2 refine T ?_
    refine dF0 hq35 hk ?_
    iterate 3 refine T ?_
    rcases dt ((20:Int) < z32.hd.age) with ⟨he,hg36⟩ | ⟨he,hg36⟩
    ·rw [he]
     replace hI6:=(if_pos hg36).symm.trans hI6
     refine oF 36 119 false [37,38,39,40,41,42,43,44,45] ?_
     refine T ?_
     refine rE [1,2,5,6,129] hk fun a hk=>?_
     refine cT hk ?_
     refine sg [] hk ?_
     refine T ?_
     refine rE [4] hk fun a hk=>?_
     refine wp_ret ?_
     replace hS:=hS.pk [] 4
     replace hS:=hS.dropI.dropI.dropI.dropI.dropI.dropI.dropI
     obtain rfl:=Option.some.inj hI6
     obtain rfl:=Option.some.inj ht
     exact rt1 hk (hR_ _ _ ⟨rfl,hS⟩)
    rw [he]
    replace hI6:=(if_neg hg36).symm.trans hI6
    refine T ?_
    refine cX 6 hz32 hk hS (fun b36 o36 e36 hS hq36=>?_)
    replace hS:=hS.nz 4
    refine T ?_
    refine dF hq36 hk ?_
    iterate 2 refine T ?_
    refine LD 3 hk hS ?_
    iterate 3 refine T ?_
    refine rE [1,2,5,6,129] hk fun a hk=>?_
    refine cD hk (fun hc129=>?_) (fun hc129=>?_)
    ·replace hI6:=(if_pos hc129).symm.trans hI6
     refine sg [] hk ?_
     refine T ?_
     refine rE [4] hk fun a hk=>?_
     refine wp_ret ?_
     replace hS:=hS.pk [] 4
     replace hS:=hS.dropI.dropI.dropI.dropI.dropI.dropI.dropI.dropI.dropI
     obtain rfl:=Option.some.inj hI6
     obtain rfl:=Option.some.inj ht
     exact rt1 hk (hR_ _ _ ⟨rfl,hS⟩)
    replace hI6:=(if_neg hc129).symm.trans hI6
    refine wp_skip ?_
    refine rgL [] hk ?_
    refine T ?_
    refine dA hk ?_
    refine T ?_
    refine rE [1,2,5,6] hk fun a hk=>?_
    replace hS:=hS.pk [2,2] 2
    replace hS:=hS.dropI.dropI.dropI.dropI.dropI.dropI.dropI.dropI.dropI
    exact ⟨⟨k6 + 1,q29.2,by omega,hI6,hk.to,hS⟩,zU hk.g hmu6 (by omega)⟩
   obtain rfl:k6 = (List.range (ticks).toNat).length:=by (first | omega | (simp only [List.length_range] at *;omega))
   rw [ax (Nat.le_refl _)] at hI6
   refine wp_exit ?_
   obtain rfl:=Option.some.inj hI6
   exact ⟨_,rfl,hk.to,hS⟩
  rintro a w ⟨r6,hx,hk,hS⟩
  replace ht:=(fC hx).symm.trans ht
  refine sg [] hk ?_
  refine T ?_
  refine rE [4] hk fun a hk=>?_
  refine wp_ret ?_
  replace hS:=hS.pk [] 2
  obtain rfl:=Option.some.inj ht
  exact rt1 hk (hR_ _ _ ⟨rfl,hS⟩)
end
section
open Go.Shelf Go.Lib
open Go.Sort hiding Below
def hlP (id prio dr:Int):PkV:=⟨1,id,2,8,prio,dr,0,[],false,false,false,0,[],[],[],[]⟩
def hlB (prio dr:Int):List Int:=[0,2,0,prio % 256,0,0,0,8] ++ aX 4 dr ++ [0,0,0,0]
def hlR (id prio dr:Int):List Int:=[2,1,0,40] ++ aX 4 id ++ [0,0,0,0,0,0,0,0,0,0,0,0,0,0,0,0] ++ hlB prio dr
theorem ke (prio dr:Int):(hlB prio dr).length = 16:=by simp [hlB,bm]
theorem uc (id prio dr:Int):(hlR id prio dr).length = 40:=by simp [hlR,bm,ke]
theorem ub (id prio dr:Int):Bys (hlR id prio dr):=by
  intro z hz
  unfold hlR hlB at hz
  simp only [List.mem_append,List.mem_cons,List.not_mem_nil,or_false] at hz
  rcases hz with ((hz | hz) | hz) | (hz | hz) | hz
  · omega
  · exact i7 _ _ z hz
  · omega
  · omega
  · exact i7 _ _ z hz
  · omega
theorem xi (id prio dr:Int) (h1:1 ≤ id∧id ≤ 15) (h2:0 ≤ prio∧prio ≤ 255) (h3:0 ≤ dr∧dr ≤ 63):kq (hlP id prio dr) = some true:=by
  have e1:kd ⟨2,8,prio,dr,0,[]⟩ = some true:=by
    unfold kd bJ
    dsimp only
    rw [if_pos (by omega),if_pos (by omega),if_pos h2.1,if_pos h3.1,if_pos (by omega),decide_eq_true h2.2,decide_eq_true h3.2]
    rfl
  have e2:bJ id 1 15 = true:=by unfold bJ;rw [if_pos h1.1,decide_eq_true h1.2]
  have e3:i9 (hlP id prio dr) (hlP id prio dr) = true:=by
    unfold i9
    simp only [if_true,if_pos]
    rfl
  unfold kq
  rw [if_pos (show (hlP id prio dr).kind = 1 from rfl)]
  show aJ (kd ⟨2,8,prio,dr,0,[]⟩) _ = _
  rw [av e1]
  show cond (bJ id 1 15) (some (i9 (hlP id prio dr) (hlP id prio dr))) (some false) = _
  rw [e2,e3];rfl
theorem yL (id prio dr:Int):my (hlP id prio dr) = some (hlB prio dr):=by
  simp [my,hlP,hlB,aj,aX,bQ,dq,bw]
theorem xf (id prio dr:Int):ml (hlP id prio dr) = some (hlB prio dr):=by
  simp [ml,hlP,hlB,aX]
theorem yE (b:List Int) (h:b.length = 40):(eG b 12).1 = cc b 12:=by
  unfold eG cc
  rw [if_neg (by decide),if_neg (by decide),if_neg (by rw [h];decide),if_neg (by rw [h];decide),Int.emod_emod]
set_option maxRecDepth 100000 in
theorem zS (id prio dr:Int) (h1:1 ≤ id∧id ≤ 15) (h2:0 ≤ prio∧prio ≤ 255) (h3:0 ≤ dr∧dr ≤ 63):ny (hlP id prio dr) = some (cc (hlR id prio dr) 12,0):=by
  unfold ny
  rw [xi id prio dr h1 h2 h3,av rfl]
  simp only [cond_true]
  rw [yL,av rfl]
  have e:bQ (aj 1 [2,1] ++ aj 2 [24 + (((hlB prio dr).length:Nat):Int)] ++ aj 4 [id,0] ++ aj 2 [0,0]) 4 [0,0] ++ hlB prio dr = hlR id prio dr:=by
    rw [ke]
    simp [hlR,bQ,aj,aX,dq]
  have e5:(aj 1 [2,(hlP id prio dr).kind] ++ aj 2 [24 + (((hlB prio dr).length:Nat):Int)] ++ aj 4 [(hlP id prio dr).frm,0] ++ aj 2 [0,0]).length ≤ 100000:=by
    simp [aj,bm]
  have e6:=ke prio dr
  have e7:=uc id prio dr
  have e8:=congrArg List.length e
  rw [List.length_append,e7] at e8
  rw [if_pos (by omega),if_pos e5,if_pos (by decide)]
  simp only [bw]
  rw [if_pos (show (bQ (aj 1 [2,(hlP id prio dr).kind] ++ aj 2 [24 + (((hlB prio dr).length:Nat):Int)] ++ aj 4 [(hlP id prio dr).frm,0] ++ aj 2 [0,0]) 4 [0,0]).length + (hlB prio dr).length ≤ 100000 from (by have:=e8;exact Nat.le_trans (Nat.le_of_eq this) (by omega)))]
  have e9:lj (hlB prio dr) (bQ (aj 1 [2,(hlP id prio dr).kind] ++ aj 2 [24 + (((hlB prio dr).length:Nat):Int)] ++ aj 4 [(hlP id prio dr).frm,0] ++ aj 2 [0,0]) 4 [0,0]) = some (hlR id prio dr):=by
    unfold lj
    have e0:bQ (aj 1 [2,(hlP id prio dr).kind] ++ aj 2 [24 + (((hlB prio dr).length:Nat):Int)] ++ aj 4 [(hlP id prio dr).frm,0] ++ aj 2 [0,0]) 4 [0,0] ++ hlB prio dr = hlR id prio dr:=e
    rw [e0,e7];rfl
  rw [av e9,if_pos (ub id prio dr),if_pos (by omega),yE _ e7]
set_option maxRecDepth 100000 in
theorem xh (id prio dr:Int) (h1:1 ≤ id∧id ≤ 15) (h2:0 ≤ prio∧prio ≤ 255) (h3:0 ≤ dr∧dr ≤ 63):fx (hlP id prio dr) = some (cc (hlR id prio dr) 12):=by
  unfold fx
  rw [xf,av rfl]
  have e:[2,(hlP id prio dr).kind % 256] ++ aX 2 (24 + (((hlB prio dr).length:Nat):Int)) ++ aX 4 (hlP id prio dr).frm ++ [0,0,0,0,0,0,0,0,0,0,0,0,0,0,0,0] ++ hlB prio dr = hlR id prio dr:=by
    rw [ke]
    simp [hlR,hlP,aX]
  have e6:=ke prio dr
  have e7:=uc id prio dr
  have e8:=congrArg List.length e
  rw [e7,List.length_append] at e8
  have e9:ic (hlP id prio dr) (hlB prio dr) = some (hlR id prio dr):=by
    unfold ic
    rw [e,e7];rfl
  rw [if_pos (by omega),if_pos (by simp),if_pos (by simp [bm]),if_pos (by simp [bm]),if_pos (by omega),av e9,if_pos (ub id prio dr),if_pos (by omega),if_pos (by omega),if_pos (by omega)]
  rfl
end
section
open Go.Shelf Go.Lib
open Go.Sort hiding Below
structure Lon where
  id:Int
  num:Int
  room:Int
  c:Nat → Option (Int × Int)
def ifN (a:Lon) (n:Nat) (pr:Int):IfV:=⟨a.id,pr,if pr = 0 then 2 else if n < 8 then 1 else 4,if pr = 0 then 0 else if n < 8 then 0 else a.id,0⟩
def Aa (a:Lon) (k:Nat):PeS:=⟨a.id,k,List.replicate 16 none⟩
def poN (a:Lon) (n k:Nat) (p:Int × Int):PoS:=⟨⟨k,p.1,p.2⟩,ifN a n p.1,Aa a k⟩
def aU (a:Lon) (n:Nat):List (Option PoS):=(List.range 4).map fun k=>(a.c k).map (poN a n k)
def vwN (a:Lon) (n k:Nat) (p:Int × Int):VwV:=⟨k,p.2,ifN a n p.1,[],[]⟩
def aR (a:Lon) (n:Nat) (ks:List Nat):List VwV:=ks.filterMap fun k=>(a.c k).map (vwN a n k)
theorem en (a:Lon) (n k:Nat) (hk:k < 4):aL (aU a n) (k:Int) = (a.c k).map (poN a n k):=by
  refine ip (by omega) ?_
  unfold aU
  rw [List.getElem?_map,List.getElem?_range (by omega)]
  rfl
theorem kV (a:Lon) (n:Nat) (pr:Int):(ifN a n pr).state ≠ 0:=by unfold ifN;dsimp only;split <;> (try split) <;> omega
theorem wt {a:Lon} {n k:Nat} {p:Int × Int} {s:RoS} (hs:s.ports = aU a n) (hk:k < 4) (hp:a.c k = some p):kw (k:Int) s = some (vwN a n k p):=by
  unfold kw
  rw [hs,en a n k hk,hp]
  rfl
theorem nU {a:Lon} {n:Nat} {s:RoS} (hs:s.ports = aU a n):∀ (ks:List Nat) (acc:List VwV),(∀ k ∈ ks,k < 4) → acc.length + ks.length ≤ 100000 → cv s ks acc = some (acc ++ aR a n ks)
  | [],acc,_,_=>by unfold cv aR;simp
  | k::ks,acc,hk,hl=>by
    have h4:=hk k (by simp)
    have hr:=fun j hj=>hk j (List.mem_cons_of_mem _ hj)
    simp only [List.length_cons] at hl
    unfold cv
    rw [hs,en a n k h4]
    cases hc:a.c k with
    | none=>
      show cv s ks acc = _
      rw [nU hs ks acc hr (by omega)]
      simp [aR,hc]
    | some p=>
      show (if (ifN a n p.1).state ≠ 0 then _ else _) = _
      rw [if_pos (kV a n p.1),av (wt hs h4 hc),if_pos (by omega),nU hs ks _ hr (by simp;omega)]
      simp [aR,hc]
theorem zp {a:Lon} {n:Nat} {s:RoS} (hs:s.ports = aU a n):gr s = some (aR a n (List.range 4)):=by
  unfold gr
  rw [av (nU hs (List.range 4) [] (by decide) (by decide))]
  rfl
theorem wz (lan:Int):kM lan [] = some ([],[]):=rfl
theorem pj {a:Lon} {n:Nat}:∀ (ks:List Nat) (s:RoS),s.ports = aU a n → s.later = [] → (∀ k ∈ ks,k < 4) → dw ks s = some s
  | [],s,_,_,_=>rfl
  | k::ks,s,hs,hl,hk=>by
    have h4:=hk k (by simp)
    have ih:=pj ks s hs hl (fun j hj=>hk j (List.mem_cons_of_mem _ hj))
    unfold dw
    rw [hs,en a n k h4]
    cases hc:a.c k with
    | none=>exact ih
    | some p=>
      show (if (ifN a n p.1).state = 0 then _ else _) = _
      rw [if_neg (kV a n p.1),hl,av (wz _)]
      show dw ks { s with ports:=aU a n,later:=[] } = _
      have e:({ s with ports:=aU a n,later:=[] }:RoS) = s:=by cases s;simp only at hl hs;rw [hl,hs]
      rw [e,ih]
theorem AE (me lan:Int):PeOk ⟨me,lan,List.replicate 16 none⟩:=by unfold PeOk;rfl
theorem uh {a:Lon} {n:Nat} {s:RoS} (hs:s.ports = aU a n) (hn:0 ≤ s.now∧s.now ≤ 1000000000000):∀ (ks:List Nat),(∀ k ∈ ks,k < 4) → fm s ks = some ()
  | [],_=>rfl
  | k::ks,hk=>by
    have h4:=hk k (by simp)
    have ih:=uh hs hn ks (fun j hj=>hk j (List.mem_cons_of_mem _ hj))
    unfold fm
    rw [hs,en a n k h4]
    cases hc:a.c k with
    | none=>exact ih
    | some p=>
      show (if 0 ≤ s.now∧s.now ≤ 1000000000000 then if PeOk (Aa a k) then _ else _ else _) = _
      rw [if_pos hn,if_pos (show PeOk (Aa a k) from AE _ _)]
      exact ih
theorem zT {a:Lon} {n:Nat} {s:RoS} (hs:s.ports = aU a n) (hn:0 ≤ s.now∧s.now ≤ 1000000000000):mz s = some ():=by
  unfold mz
  rw [av (uh hs hn (List.range 4) (by decide))]
theorem pc {a:Lon} {n:Nat} {s:RoS} (hs:s.ports = aU a n):∀ (ks:List Nat),(∀ k ∈ ks,k < 4) → dR s ks = some ()
  | [],_=>rfl
  | k::ks,hk=>by
    have h4:=hk k (by simp)
    have ih:=pc hs ks (fun j hj=>hk j (List.mem_cons_of_mem _ hj))
    unfold dR
    rw [hs,en a n k h4]
    cases hc:a.c k with
    | none=>exact ih
    | some p=>exact ih
theorem xY {a:Lon} {n:Nat} {s:RoS} (hs:s.ports = aU a n):jc s = some ():=by
  unfold jc
  rw [av (pc hs (List.range 4) (by decide))]
def tmN (kind:Int) (k:Nat):TmV:=⟨kind,k,0,⟨0,0,0⟩⟩
theorem zP (t kind:Int) {j k:Nat} (h:j < k):ltOf dD ⟨t,tmN kind k⟩ ⟨t,tmN kind j⟩ = false:=by
  have h1:¬ ((k:Int) < j):=by omega
  have h2:((j:Int) < k):=by omega
  simp [ltOf,dD,orF,bj,tmN,h1,h2]
theorem wP (t kind:Int) (ks:List Nat) (h:ks.Pairwise (· < ·)):(aW dD (ks.map fun k=>(⟨t,tmN kind k⟩:DuV))).map (·.t) = ks.map (tmN kind):=by
  rw [vF fz (fun a _ b _=>qG a b)]
  · rw [List.map_map];rfl
  · rw [List.pairwise_map]
    exact h.imp fun h=>zP t kind h
def frN (a:Lon) (n k:Nat) (p:Int × Int):FrV:=⟨k,a.id,0,cc (hlR a.id p.1 (aI k (ifN a n p.1).dr)) 12⟩
structure LonOk (a:Lon):Prop where
  id1:1 ≤ a.id
  id2:a.id ≤ 15
  ports:∀ k p,a.c k = some p → k < 4∧(0 ≤ p.1∧p.1 ≤ 255)∧1 ≤ p.2∧p.2 ≤ 100
theorem tT (k:Nat) (id:Int) (hk:k < 4) (h:1 ≤ id∧id ≤ 15):kN k id = 16 * k + id:=by
  have hi:id = 1 ∨ id = 2 ∨ id = 3 ∨ id = 4 ∨ id = 5 ∨ id = 6 ∨ id = 7 ∨ id = 8 ∨ id = 9 ∨ id = 10 ∨ id = 11 ∨ id = 12 ∨ id = 13 ∨ id = 14 ∨ id = 15:=by omega
  have:k = 0 ∨ k = 1 ∨ k = 2 ∨ k = 3:=by omega
  rcases this with rfl | rfl | rfl | rfl <;> rcases hi with rfl | rfl | rfl | rfl | rfl | rfl | rfl | rfl | rfl | rfl | rfl | rfl | rfl | rfl | rfl <;> decide +kernel
theorem As (a:Lon) (ha:LonOk a) (n k:Nat) (pr:Int) (hk:k < 4):0 ≤ aI k (ifN a n pr).dr∧aI k (ifN a n pr).dr ≤ 63:=by
  have h1:=ha.id1
  have h2:=ha.id2
  unfold aI ifN
  dsimp only
  split
  · omega
  · split at *
    · omega
    · split at *
      · omega
      · rw [tT k a.id hk ⟨h1,h2⟩];omega
theorem yK {a:Lon} (ha:LonOk a) {n k:Nat} {p:Int × Int} {s:RoS} (hi:s.id = a.id) (hs:s.ports = aU a n) (hp:a.c k = some p) (ho:s.out.length ≤ 1000):iI (k:Int) s = some { s with out:=s.out ++ [frN a n k p] }:=by
  have hk:=(ha.ports k p hp).1
  have hq:=zS a.id p.1 (aI k (ifN a n p.1).dr) ⟨ha.id1,ha.id2⟩ (ha.ports k p hp).2.1 (As a ha n k p.1 hk)
  have hl:aL s.ports (k:Int) = some (poN a n k p):=by rw [hs,en a n k hk,hp];rfl
  unfold iI
  rw [av hl]
  show aJ (kv k 0 ⟨1,0,2,8,p.1,aI k (ifN a n p.1).dr,aI k 0,[],false,false,false,0,[],[],[],[]⟩ s) _ = _
  have e:kv k 0 ⟨1,0,2,8,p.1,aI k (ifN a n p.1).dr,aI k 0,[],false,false,false,0,[],[],[],[]⟩ s = some { s with out:=s.out ++ [frN a n k p] }:=by
    have e0:ny ⟨1,s.id,2,8,p.1,aI k (ifN a n p.1).dr,aI k 0,[],false,false,false,0,[],[],[],[]⟩ = some (cc (hlR a.id p.1 (aI k (ifN a n p.1).dr)) 12,0):=by rw [hi];exact hq
    unfold kv
    rw [av e0]
    show (if (0:Int) = 0 then if s.out.length + 1 ≤ 100000 then some ({ s with out:=s.out ++ [⟨k,s.id,0,cc (hlR a.id p.1 (aI k (ifN a n p.1).dr)) 12⟩] }:RoS) else none else some s) = _
    rw [if_pos rfl,if_pos (by omega),hi]
    rfl
  rw [av e]
theorem kt {α β:Type} [DecidableEq α] {x:α} {v:β}:∀ {l:List (α × β)},au x l = none → aV x v l = l ++ [(x,v)]
  | [],_=>rfl
  | (y,u)::l,h=>by
    by_cases hy:x = y
    · unfold au at h;simp [hy] at h
    · have h':au x l = none:=by unfold au at h;simpa [hy] using h
      rw [ur hy,kt h'];rfl
theorem ve {a:Lon} (ha:LonOk a) {n k:Nat} {p:Int × Int} {s:RoS} (hi:s.id = a.id) (hs:s.ports = aU a n) (ht:s.talks = []) (hn:0 ≤ s.now∧s.now ≤ 100000) (hw:au (tmN 1 k) s.w = none) (hp:a.c k = some p) (ho:s.out.length ≤ 1000):iG (tmN 1 k) s = some { s with out:=s.out ++ [frN a n k p],w:=s.w ++ [(tmN 1 k,s.now + 2)] }:=by
  have hk:=(ha.ports k p hp).1
  have hl:aL s.ports (k:Int) = some (poN a n k p):=by rw [hs,en a n k hk,hp];rfl
  unfold iG
  rw [if_pos (show 0 ≤ (tmN 1 k).lan∧(tmN 1 k).lan < 4 by show 0 ≤ (k:Int)∧(k:Int) < 4;omega)]
  have e1:au (⟨(tmN 1 k).lan,(tmN 1 k).id⟩:WhV) s.talks = none:=by rw [ht];rfl
  rw [e1]
  simp only [ji]
  rw [if_pos (show (tmN 1 k).kind = 1 from rfl)]
  show aJ (aL s.ports (k:Int)) _ = _
  rw [av hl]
  show aJ (iI (k:Int) s) _ = _
  rw [av (yK ha hi hs hp ho)]
  show (if -4611686018427387904 ≤ s.now + 2∧s.now + 2 ≤ 4611686018427387904 then some ({ s with out:=s.out ++ [frN a n k p],w:=aV (tmN 1 k) (s.now + 2) s.w }:RoS) else none) = _
  rw [if_pos (by omega),kt hw]
theorem pO {kind:Int} {k:Nat} {l:List (TmV × Int)} (h:∀ x ∈ l,x.1 ≠ tmN kind k):au (tmN kind k) l = none:=by
  rw [gL]
  intro hm
  obtain ⟨x,hx,e⟩:=List.mem_map.1 hm
  exact h x hx e
theorem lC {a b:Int} {j k:Nat} (h:tmN a j = tmN b k):a = b∧j = k:=by
  unfold tmN at h
  simp only [TmV.mk.injEq] at h
  omega
theorem jF {a:Lon} (ha:LonOk a) {n:Nat}:∀ (ks:List Nat) (s:RoS),ks.Nodup → (∀ k ∈ ks,(a.c k).isSome) → s.id = a.id → s.ports = aU a n → s.talks = [] → 0 ≤ s.now∧s.now ≤ 100000 → (∀ k ∈ ks,∀ x ∈ s.w,x.1 ≠ tmN 1 k) → s.out.length + ks.length ≤ 900 →
    cj (ks.map (tmN 1)) s = some { s with out:=s.out ++ ks.filterMap (fun k=>(a.c k).map (frN a n k)),w:=s.w ++ ks.map fun k=>(tmN 1 k,s.now + 2) }
  | [],s,_,_,_,_,_,_,_,_=>by simp [cj]
  | k::ks,s,hnd,hsome,hi,hs,ht,hn,hw,ho=>by
    obtain ⟨p,hp⟩:=Option.isSome_iff_exists.1 (hsome k (by simp))
    simp only [List.length_cons] at ho
    have hnd':=List.nodup_cons.1 hnd
    show aJ (iG (tmN 1 k) s) _ = _
    rw [av (ve ha hi hs ht hn (pO (hw k (by simp))) hp (by omega))]
    rw [jF ha ks { s with out:=s.out ++ [frN a n k p],w:=s.w ++ [(tmN 1 k,s.now + 2)] } hnd'.2 (fun j hj=>hsome j (List.mem_cons_of_mem _ hj)) hi hs ht hn ?_ ?_]
    · simp [hp]
    · intro j hj x hx
      rcases List.mem_append.1 hx with hx | hx
      · exact hw j (List.mem_cons_of_mem _ hj) x hx
      · rw [List.mem_singleton.1 hx]
        intro e
        exact hnd'.1 ((lC e).2 ▸ hj)
    · simp only [List.length_append,List.length_singleton];omega
theorem sI (id pr:Int) (h1:1 ≤ id) (h2:0 < pr):fA id [⟨id,pr,0,0⟩] = (id,0):=by
  have h3:id ≠ 0:=by omega
  have h4:¬ (0:Int) = id:=by omega
  simp [fA,goF,qt,j3,cd0,hY,np,h2,h3,h4]
theorem wm (a:Lon) (ha:LonOk a) (pr:Int) (h:0 < pr):bG (ifN a 7 pr) 2 [] = (ifN a 8 pr,true):=by
  have e:dm (ifN a 7 pr) 2 [] = ifN a 8 pr:=by
    unfold dm ifN
    simp only [show pr ≠ 0 by omega,if_false]
    simp [cM,fQ,IfV.cand,sI a.id pr ha.id1 h]
  unfold bG
  rw [e]
  have:ifN a 8 pr ≠ ifN a 7 pr:=by
    unfold ifN
    simp [show pr ≠ 0 by omega]
  simp [this]
theorem yD {a:Lon} (ha:LonOk a) {k:Nat} {p:Int × Int} {s:RoS} (hl:aL s.ports (k:Int) = some (poN a 7 k p)) (hp:0 < p.1):iH (k:Int) 2 s = some { s with ports:=s.ports.set k (some (poN a 8 k p)) }:=by
  unfold iH
  rw [av hl]
  have e0:jk (poN a 7 k p).p = []:=rfl
  have e1:bG (poN a 7 k p).i 2 [] = (ifN a 8 p.1,true):=wm a ha p.1 hp
  rw [am e0,if_pos (by decide),am e1]
  rfl
theorem wQ {a:Lon} (ha:LonOk a) {k:Nat} {p:Int × Int} {s:RoS} (hk:k < 4) (ht:s.talks = []) (hl:aL s.ports (k:Int) = some (poN a 7 k p)) (hp:0 < p.1):iG (tmN 2 k) s = some { s with ports:=s.ports.set k (some (poN a 8 k p)) }:=by
  unfold iG
  rw [if_pos (show 0 ≤ (tmN 2 k).lan∧(tmN 2 k).lan < 4 by show 0 ≤ (k:Int)∧(k:Int) < 4;omega)]
  have e1:au (⟨(tmN 2 k).lan,(tmN 2 k).id⟩:WhV) s.talks = none:=by rw [ht];rfl
  rw [e1]
  simp only [ji]
  rw [if_neg (show ¬ (tmN 2 k).kind = 1 by show ¬ (2:Int) = 1;decide),if_pos (show (tmN 2 k).kind = 2 from rfl)]
  show aJ (aL s.ports (k:Int)) _ = _
  rw [av hl]
  show aJ (iH (k:Int) 2 s) _ = _
  rw [av (yD ha hl hp)]
def fJ (a:Lon) (d:Nat → Bool):List (Option PoS):=(List.range 4).map fun k=>(a.c k).map (poN a (if d k then 8 else 7) k)
theorem sX (a:Lon) (d:Nat → Bool) (k:Nat) (hk:k < 4):aL (fJ a d) (k:Int) = (a.c k).map (poN a (if d k then 8 else 7) k):=by
  refine ip (by omega) ?_
  unfold fJ
  rw [List.getElem?_map,List.getElem?_range (by omega)]
  rfl
theorem wb {a:Lon} {d:Nat → Bool} {k:Nat} {p:Int × Int} (hk:k < 4) (hp:a.c k = some p):(fJ a d).set k (some (poN a 8 k p)) = fJ a fun j=>decide (j = k) || d j:=by
  unfold fJ
  have h4:List.range 4 = [0,1,2,3]:=rfl
  rw [h4]
  have:k = 0 ∨ k = 1 ∨ k = 2 ∨ k = 3:=by omega
  rcases this with rfl | rfl | rfl | rfl <;> simp [hp]
theorem pm {a:Lon} (ha:LonOk a):∀ (ks:List Nat) (d:Nat → Bool) (s:RoS),ks.Nodup → (∀ k ∈ ks,d k = false∧∃ p,a.c k = some p∧0 < p.1) → s.ports = fJ a d → s.talks = [] →
    cj (ks.map (tmN 2)) s = some { s with ports:=fJ a fun j=>ks.contains j || d j }
  | [],d,s,_,_,hs,_=>by
    have:({ s with ports:=fJ a fun j=>([]:List Nat).contains j || d j }:RoS) = s:=by
      cases s
      simp only at hs
      subst hs
      simp
    rw [this];rfl
  | k::ks,d,s,hnd,hw,hs,ht=>by
    obtain ⟨hd,p,hp,hp0⟩:=hw k (by simp)
    have hk:=(ha.ports k p hp).1
    have hnd':=List.nodup_cons.1 hnd
    have hl:aL s.ports (k:Int) = some (poN a 7 k p):=by rw [hs,sX a d k hk,hp,hd];rfl
    show aJ (iG (tmN 2 k) s) _ = _
    rw [av (wQ ha hk ht hl hp0),pm ha ks (fun j=>decide (j = k) || d j) { s with ports:=s.ports.set k (some (poN a 8 k p)) } hnd'.2 ?_ ?_ ht]
    · congr 2
      refine congrArg (fJ a) (funext fun j=>?_)
      simp only [List.contains_cons]
      by_cases hj:j = k <;> cases ks.contains j <;> simp [hj]
    · intro j hj
      refine ⟨?_,(hw j (List.mem_cons_of_mem _ hj)).2⟩
      have:j ≠ k:=fun e=>hnd'.1 (e ▸ hj)
      simp [this,(hw j (List.mem_cons_of_mem _ hj)).1]
    · show s.ports.set k (some (poN a 8 k p)) = _
      rw [hs,wb hk hp]
def eh (a:Lon):List Nat:=(List.range 4).filter fun k=>(a.c k).isSome
def sb (o:Option (Int × Int)):Bool:=match o with | some p=>decide (0 < p.1) | none=>false
def ju (a:Lon):List Nat:=(List.range 4).filter fun k=>sb (a.c k)
theorem xl (a:Lon) (m n:Nat):ifN a m 0 = ifN a n 0:=rfl
theorem yM {a:Lon} {m n:Nat} (pr:Int) (hm:m < 8) (hn:n < 8):ifN a m pr = ifN a n pr:=by unfold ifN;rw [if_pos hm,if_pos hn,if_pos hm,if_pos hn]
theorem xk {a:Lon} {m n:Nat} (pr:Int) (hm:¬ m < 8) (hn:¬ n < 8):ifN a m pr = ifN a n pr:=by unfold ifN;rw [if_neg hm,if_neg hn,if_neg hm,if_neg hn]
theorem jQ {a:Lon} {m n:Nat} (hm:m < 8) (hn:n < 8):aU a m = aU a n:=by
  unfold aU poN
  simp only [yM _ hm hn]
theorem lZ {a:Lon} {m n:Nat} (hm:¬ m < 8) (hn:¬ n < 8):aU a m = aU a n:=by
  unfold aU poN
  simp only [xk _ hm hn]
theorem y8 {a:Lon} (ha:LonOk a):(fJ a fun j=>(ju a).contains j || false) = aU a 8:=by
  unfold fJ aU
  refine List.map_congr_left fun k hk=>?_
  cases hc:a.c k with
  | none=>rfl
  | some p=>
    by_cases hw:(ju a).contains k
    · simp only [hw,Bool.true_or,if_true]
    · simp only [hw,Bool.false_or]
      have h0:p.1 = 0:=by
        have h1:=(ha.ports k p hc).2.1
        rcases Int.lt_or_le 0 p.1 with h | h
        · exact absurd (by simp [ju,hc,sb,h];simpa using hk) hw
        · omega
      show some (poN a 7 k p) = some (poN a 8 k p)
      unfold poN
      rw [h0,xl a 7 8]
theorem yq {a:Lon} (ha:LonOk a) {s:RoS} (hs:s.ports = aU a 7) (ht:s.talks = []):cj ((ju a).map (tmN 2)) s = some { s with ports:=aU a 8 }:=by
  rw [pm ha (ju a) (fun _=>false) s ((List.nodup_range).filter _) ?_ hs ht,y8 ha]
  intro k hk
  refine ⟨rfl,?_⟩
  have:=(List.mem_filter.1 hk).2
  cases hc:a.c k with
  | none=>rw [hc] at this;cases this
  | some p=>rw [hc] at this;exact ⟨p,rfl,of_decide_eq_true this⟩
def kyN (a:Lon):KeyV:=⟨1,a.id,a.id⟩
def hZ (a:Lon) (ks:List Nat):List Lk:=ks.filterMap fun k=>(a.c k).map fun p=>⟨3,bf k 0,bf k a.id,p.2⟩
def lsW (a:Lon):LV:=⟨⟨0,1,a.id,a.id,0,0,0⟩,hZ a (List.range 4),[]⟩
theorem m0 (a:Lon) (n k:Nat) (p:Int × Int) (id:Int):fk (vwN a n k p) id = false:=rfl
theorem tJ (a:Lon) (n k:Nat) (p:Int × Int):ea a.id (vwN a n k p) = false:=by
  unfold ea
  rw [m0,m0]
  repeat' split
  all_goals rfl
theorem lv (a:Lon) (n:Nat):∀ (ks:List Nat) (acc:List Lk),acc.length + ks.length ≤ 4 → br a.id (aR a n ks) acc = acc ++ hZ a ks
  | [],acc,_=>by simp [aR,hZ,br]
  | k::ks,acc,hl=>by
    simp only [List.length_cons] at hl
    cases hc:a.c k with
    | none=>
      have ih:=lv a n ks acc (by omega)
      unfold aR hZ at *
      simp only [List.filterMap_cons,hc,Option.map_none]
      exact ih
    | some p=>
      have ih:=lv a n ks (acc ++ [⟨3,bf k 0,bf k a.id,p.2⟩]) (by simp;omega)
      have e1:aR a n (k::ks) = vwN a n k p::aR a n ks:=by simp [aR,hc]
      have e2:hZ a (k::ks) = ⟨3,bf k 0,bf k a.id,p.2⟩::hZ a ks:=by simp [hZ,hc]
      rw [e1,e2]
      unfold br
      rw [if_neg (show ¬ (vwN a n k p).i.state = 0 from kV a n p.1),if_neg (by omega),tJ]
      show br a.id (aR a n ks) (acc ++ [⟨3,bf k 0,bf k a.id,p.2⟩]) = _
      rw [ih];simp
theorem xN (a:Lon) (n:Nat):aN a.id (aR a n (List.range 4)) = lsW a:=by
  unfold aN bw
  rw [lv a n (List.range 4) [] (by decide)]
  rfl
theorem zV (a:Lon) (n k:Nat) (p:Int × Int):∃ l,kn (vwN a n k p) = some (l,false):=by
  unfold kn
  rw [m0]
  split
  · exact ⟨_,rfl⟩
  · exact ⟨_,rfl⟩
theorem sZ (a:Lon) (n:Nat):∀ (ks:List Nat) (acc:List (KeyV × LV)),fo (aR a n ks) acc = some acc
  | [],acc=>rfl
  | k::ks,acc=>by
    cases hc:a.c k with
    | none=>
      have e1:aR a n (k::ks) = aR a n ks:=by simp [aR,hc]
      rw [e1];exact sZ a n ks acc
    | some p=>
      have e1:aR a n (k::ks) = vwN a n k p::aR a n ks:=by simp [aR,hc]
      obtain ⟨l,h⟩:=zV a n k p
      rw [e1]
      unfold fo
      rw [av h]
      exact sZ a n ks acc
theorem ul {α:Type} [Inhabited α] {cf:α → α → Int} (h:SWO (ltOf cf)) (x:α):aW cf [x] = [x]:=List.perm_singleton.1 (i8 h [x])
def DbN (a:Lon) (l:List (KeyV × LV)):Prop:=l = [] ∨ ∃ x:LV,l = [(kyN a,x)]∧x.hd.adv = a.id∧ah x.hd = kyN a
theorem wC {a:Lon} {l:List (KeyV × LV)} (h:DbN a l):cS l = l.map (·.2):=by
  rcases h with rfl | ⟨x,rfl,_⟩
  · exact gp fE
  · exact ul fE x
theorem zY {a:Lon} {s:RoS} (hi:s.id = a.id) {l:List (KeyV × LV)} (h:DbN a l):ft s (l.map (·.2)) [kyN a] = some [kyN a]:=by
  rcases h with rfl | ⟨x,rfl,h1,h2⟩
  · rfl
  · show (if x.hd.adv = s.id then _ else _) = _
    rw [if_pos (by rw [h1,hi]),h2]
    have:ka [kyN a] (kyN a) = true:=by simp [ka,ms,gh,exE]
    rw [this]
    rfl
theorem xE {a:Lon} {n:Nat} {s r:RoS} (hi:s.id = a.id) (hs:s.ports = aU a n) (hd:dz s.db) (hl:DbN a s.db.l)
    (hp:eb (kyN a) (lsW a) true (aR a n (List.range 4)) s = some r):lu s = some r:=by
  have hvl:(aR a n (List.range 4)).length ≤ 4:=by unfold aR;exact List.length_filterMap_le _ _
  have hll:s.db.l.length ≤ 1:=by rcases hl with h | ⟨x,h,_⟩ <;> rw [h] <;> simp
  have e1:aN s.id (aR a n (List.range 4)) = lsW a:=by rw [hi];exact xN a n
  unfold lu
  rw [av (zp hs),if_pos (by omega),am e1,av (sZ a n (List.range 4) _)]
  have e2:aV (ah (lsW a).hd) (lsW a) ([]:List (KeyV × LV)) = [(kyN a,lsW a)]:=rfl
  rw [e2,if_pos (by simp)]
  have e3:(([(kyN a,lsW a)]:List (KeyV × LV)).foldr (fun e x=>gq e.1 e.2 x) []) = [kyN a]:=rfl
  rw [am e3,if_pos hd,if_pos (by omega),am (wC hl),av (zY hi hl),if_pos (by simp),ul gi]
  have e4:au (kyN a) [(kyN a,lsW a)] = some (lsW a):=by simp [au]
  have e5:fv (aR a n (List.range 4)) [(kyN a,lsW a)] [kyN a] s = some r:=by
    unfold fv
    rw [e4]
    show aJ (eb (kyN a) (lsW a) true (aR a n (List.range 4)) s) _ = _
    rw [av hp]
    rfl
  rw [av e5]
end
def dd (c:CoV):Lon:=⟨c.id,Old.numF c.boot,Old.roomF c.room,fun k=>(c.ports.find? fun z:PtV=>decide (z.lan = (k:Int))).map fun z=>(z.prio,z.cost)⟩
theorem xM (r:Int):1 ≤ Old.roomF r:=by unfold Old.roomF;split <;> (try split) <;> omega
theorem kU (k:Int):∀ (l:List PtV),l.Pairwise (fun x y=>x.lan ≠ y.lan) → (l.filter fun z:PtV=>decide (z.lan = k)) = (l.find? fun z:PtV=>decide (z.lan = k)).toList
  | [],_=>rfl
  | z::l,h=>by
    have h':=List.pairwise_cons.1 h
    by_cases hz:z.lan = k
    · have:(l.filter fun z:PtV=>decide (z.lan = k)) = []:=by
        rw [List.filter_eq_nil_iff]
        intro y hy
        have:=h'.1 y hy
        simp;omega
      simp [hz,this]
    · simp [hz,kU k l h'.2]
theorem mJ (id:Int):∀ (l:List Old.PtV) (s t:Old.RoS),Old.addsF id l s = some t → (∀ x ∈ l,Old.portOk x.lan x.prio x.cost)
  | [],s,t,h=>fun x hx=>by cases hx
  | x::l,s,t,h=>by
    unfold Old.addsF at h
    split at h
    · rename_i hc
      intro y hy
      rcases List.mem_cons.1 hy with rfl | hy
      · exact hc.1
      · exact mJ id l _ t h y hy
    · cases h
theorem oi (id:Int):∀ (l:List Old.PtV) (s t:Old.RoS),Old.addsF id l s = some t → t = { s with ports:=t.ports }
  | [],s,t,h=>by cases h;rfl
  | x::l,s,t,h=>by
    unfold Old.addsF at h
    split at h
    · have:=oi id l _ t h
      rw [this];rfl
    · cases h
theorem mK (id:Int):∀ (l:List Old.PtV) (s t:Old.RoS),Old.addsF id l s = some t → s.ports.length = 4 →
    t.ports.length = 4∧(∀ x ∈ l,s.ports[x.lan.toNat]? = some none)∧l.Pairwise (fun x y=>x.lan ≠ y.lan)∧∀ k:Nat,k < 4 → t.ports[k]? = match l.find? (fun z:Old.PtV=>decide (z.lan = (k:Int))) with | some x=>some (some (Old.port0 id x)) | none=>s.ports[k]?
  | [],s,t,h,h4=>by
    cases h
    exact ⟨h4,(fun x hx=>by cases hx),List.Pairwise.nil,fun k hk=>rfl⟩
  | x::l,s,t,h,h4=>by
    have hok:=mJ id (x::l) s t h
    unfold Old.addsF at h
    split at h
    · rename_i hc
      have hx:=hc.1
      unfold Old.portOk at hx
      have hlen:(Old.addP id s x).ports.length = 4:=by simp [Old.addP,h4]
      obtain ⟨i1,i2,i3,i4⟩:=mK id l _ t h hlen
      have hat:∀ j:Nat,(Old.addP id s x).ports[j]? = if x.lan.toNat = j then some (some (Old.port0 id x)) else s.ports[j]?:=by
        intro j
        show (s.ports.set x.lan.toNat (some (Old.port0 id x)))[j]? = _
        rw [List.getElem?_set]
        by_cases hj:x.lan.toNat = j
        · rw [if_pos hj,if_pos hj,if_pos (by omega)]
        · rw [if_neg hj,if_neg hj]
      have hne:∀ y ∈ l,x.lan ≠ y.lan:=by
        intro y hy e
        have:=i2 y hy
        rw [hat,if_pos (by rw [e])] at this
        cases this
      refine ⟨i1,fun y hy=>?_,List.pairwise_cons.2 ⟨hne,i3⟩,fun k hk=>?_⟩
      · rcases List.mem_cons.1 hy with rfl | hy
        · exact hc.2
        · have h1:=i2 y hy
          have h2:=hok y (List.mem_cons_of_mem _ hy)
          unfold Old.portOk at h2
          rw [hat,if_neg (by have:=hne y hy;omega)] at h1
          exact h1
      · rw [i4 k hk,hat]
        by_cases hxk:x.lan = (k:Int)
        · have hf:l.find? (fun z:Old.PtV=>decide (z.lan = (k:Int))) = none:=by
            rw [List.find?_eq_none]
            intro y hy
            have:=hne y hy
            simp;omega
          rw [hf]
          simp [hxk]
        · have:¬ x.lan.toNat = k:=by omega
          simp [hxk,this]
    · cases h
section
open Go.Shelf Go.Lib
open Go.Sort hiding Below
structure LsN (a:Lon) (q age:Int) (x:LV):Prop where
  age:x.hd.age = age
  kind:x.hd.kind = 1
  id:x.hd.id = a.id
  adv:x.hd.adv = a.id
  seq:x.hd.seq = q
  links:x.links = hZ a (List.range 4)
  mem:x.mem = []
theorem LsN.key {a:Lon} {q age:Int} {x:LV} (h:LsN a q age x):ah x.hd = kyN a:=by
  unfold ah kyN;rw [h.kind,h.id,h.adv]
theorem mv (a:Lon):(hZ a (List.range 4)).length ≤ 4:=List.length_filterMap_le _ _
theorem ez {a:Lon} {q age:Int} {x:LV} (h:LsN a q age x):LsN a q age (bE x):=by
  unfold bE
  split
  · exact ⟨h.age,h.kind,h.id,h.adv,h.seq,h.links,h.mem⟩
  · exact h
theorem zN {a:Lon} {q age:Int} {x:LV} (h:LsN a q age x) (ha:age < 60):LsN a q (age + 1) (fw x):=by
  have h1:=h.age
  unfold fw
  rw [if_neg (by omega)]
  exact ⟨by show x.hd.age + 1 = _;omega,h.kind,h.id,h.adv,h.seq,h.links,h.mem⟩
theorem mQ {a:Lon} {q age:Int} {x:LV} (h:LsN a q age x) (h0:0 ≤ age∧age ≤ 60) (room:Int):dz ⟨room,[(kyN a,x)]⟩:=by
  intro y hy
  rw [List.mem_singleton.1 hy]
  have h1:=mv a
  refine ⟨⟨⟨?_,?_⟩,?_⟩,h.key.symm⟩
  · rw [h.links];omega
  · rw [h.mem];simp
  · unfold cP;rw [h.age];exact h0
theorem lQ (m:List Lk):∀ (xs:List Lk) (k:Nat),m.drop k = xs → el m xs k = .ok ()
  | [],k,_=>rfl
  | z::xs,k,h=>by
    have h1:m[k]? = some z:=by
      have:(m.drop k)[0]? = some z:=by rw [h];rfl
      rw [List.getElem?_drop] at this
      exact this
    have h2:m.drop (k + 1) = xs:=by rw [← List.drop_drop,h];rfl
    unfold el
    have h3:m.getD k ⟨0,0,0,0⟩ = z:=by rw [List.getD_eq_getElem?_getD,h1];rfl
    rw [am h3,if_neg (by simp),lQ m xs (k + 1) h2]
theorem wS (l:List Lk):bD l l = true:=by
  unfold bD
  rw [if_neg (by simp),lQ l l 0 rfl]
  rfl
theorem st (l:List Lk) (h h':HD):fI ⟨h,l,[]⟩ ⟨h',l,[]⟩ = true:=by
  unfold fI
  rw [wS]
  rfl
theorem wZ {a:Lon} {q age:Int} {x:LV} (h:LsN a q age x) (room:Int):bh (kyN a) ⟨room,[(kyN a,x)]⟩ = (x,true):=by
  unfold bh
  have:au (kyN a) [(kyN a,x)] = some x:=by simp [au]
  rw [this]
  rfl
theorem vK {a:Lon} {q age:Int} {x:LV} (h:LsN a q age x) (h0:0 ≤ age∧age < 20) {s:RoS} {vs:List VwV} (hd:s.db = ⟨a.room,[(kyN a,x)]⟩):eb (kyN a) (lsW a) true vs s = some s:=by
  unfold eb
  rw [hd,if_pos (mQ h ⟨h0.1,by omega⟩ a.room),am (wZ h a.room)]
  have e:∀ (m:MiV),m.is = true → m.wanted = true → m.hhd.age < 20 → m.hlinks = m.wlinks → m.hmem = [] → m.wmem = [] → cH m s.now = some ((⟨(⟨0,0,0,0,0,0,0⟩:HD),[],[]⟩:LV),0):=by
    intro m h1 h2 h3 h4 h5 h6
    have e4:eR m = some (decide (m.hhd.age ≠ 60)):=by unfold eR;rw [h1];rfl
    have e6:dQ m = some true:=by
      unfold dQ
      rw [h1]
      show (if m.hhd.age < 20 then _ else _) = _
      rw [if_pos h3,h4,h5,h6,st]
    unfold cH
    rw [av e4,h2]
    show aJ (dQ m) _ = _
    rw [av e6]
    rfl
  rw [av (e _ rfl rfl (by show x.hd.age < 20;rw [h.age];exact h0.2) (by show x.links = (lsW a).links;rw [h.links];rfl) h.mem rfl)]
  have e12:∀ l:LV,gW s (l,0) = some (true,s):=fun l=>rfl
  rw [av (e12 _)]
  rfl
theorem uS:∀ (k:_root_.Fin 4) (i:_root_.Fin 16),bf (k.val:Int) (i.val:Int) = 16 * (k.val:Int) + (i.val:Int):=by decide +kernel
theorem qm (k:Nat) (id:Int) (hk:k < 4) (h:0 ≤ id∧id ≤ 15):bf k id = 16 * k + id:=by
  have:=uS ⟨k,hk⟩ ⟨id.toNat,by omega⟩
  simpa [Int.toNat_of_nonneg h.1] using this
theorem qW {a:Lon} (ha:LonOk a):gJ (hZ a (List.range 4)) = true:=by
  unfold gJ
  rw [Bool.and_eq_true]
  refine ⟨List.all_eq_true.2 fun x hx=>?_,decide_eq_true (mv a)⟩
  unfold hZ at hx
  obtain ⟨k,hk,hx⟩:=List.mem_filterMap.1 hx
  cases hc:a.c k with
  | none=>rw [hc] at hx;cases hx
  | some p=>
    rw [hc] at hx
    have hp:=ha.ports k p hc
    have h1:=ha.id1
    have h2:=ha.id2
    obtain rfl:=Option.some.inj hx
    refine decide_eq_true ?_
    unfold ix
    dsimp only
    rw [qm k 0 hp.1 ⟨by omega,by omega⟩,qm k a.id hp.1 ⟨by omega,h2⟩]
    have:=hp.1
    have:=hp.2.2
    omega
theorem za {a:Lon} (ha:LonOk a) {q age:Int} {x:LV} (h:LsN a q age x) (h0:0 ≤ age∧age ≤ 60) (hq:-2147483647 ≤ q∧q ≤ 2147483647):eY x = true:=by
  have h1:=ha.id1
  have h2:=ha.id2
  unfold eY
  rw [if_pos h.kind,h.id,h.adv,h.mem,h.links,qW ha]
  have:jM x.hd:=by unfold jM;rw [h.age,h.kind,h.adv,h.seq];omega
  rw [decide_eq_true this]
  simp
theorem lz (h:HD) (frm:Int) (a:Lon) (n:Nat):∀ (ks:List Nat) (acc:List SpV),(∀ z ∈ acc,z.listed = []∧z.sent = false) → ∀ z ∈ ci h (-1) 0 (aR a n ks) acc,z.listed = []∧z.sent = false
  | [],acc,hacc=>hacc
  | k::ks,acc,hacc=>by
    cases hc:a.c k with
    | none=>
      have e1:aR a n (k::ks) = aR a n ks:=by simp [aR,hc]
      rw [e1];exact lz h frm a n ks acc hacc
    | some p=>
      have e1:aR a n (k::ks) = vwN a n k p::aR a n ks:=by simp [aR,hc]
      rw [e1]
      unfold ci
      rw [if_neg (by decide)]
      refine lz h frm a n ks _ fun z hz=>?_
      rcases List.mem_append.1 hz with hz | hz
      · exact hacc z hz
      · rw [List.mem_singleton.1 hz]
        have e:∀ v:VwV,v.peers = [] → (bv h false 0 v).listed = []∧(bv h false 0 v).sent = false:=by
          intro v hv
          unfold bv
          rw [hv]
          simp [bI,bw]
        exact e _ rfl
theorem oP:∀ (l:List SpV),(∀ z ∈ l,z.listed = []∧z.sent = false) → cJ l = some ()
  | [],_=>rfl
  | z::l,h=>by
    obtain ⟨h1,h2⟩:=h z (by simp)
    unfold cJ
    rw [h1,h2]
    exact oP l fun y hy=>h y (List.mem_cons_of_mem _ hy)
theorem vN (a:Lon) (n:Nat) (x:LV) (hx:cP x.hd) {s:RoS} (hl:s.lists = []) (ht:s.talks = []):∃ l,ep x (-1) 0 (aR a n (List.range 4)) s = some (l,s):=by
  have hvl:(aR a n (List.range 4)).length ≤ 4:=by unfold aR;exact List.length_filterMap_le _ _
  have hvs:∀ v ∈ aR a n (List.range 4),v.peers.length ≤ 100000∧∀ x ∈ v.wants,cP x.hd:=by
    intro v hv
    unfold aR at hv
    obtain ⟨k,_,hv⟩:=List.mem_filterMap.1 hv
    cases hc:a.c k with
    | none=>rw [hc] at hv;cases hv
    | some p=>
      rw [hc] at hv
      obtain rfl:=Option.some.inj hv
      exact ⟨by simp [vwN],fun y hy=>by cases hy⟩
  refine ⟨da x.hd (-1) 0 (aR a n (List.range 4)),?_⟩
  unfold ep
  rw [hl,ht,if_pos (by simp),if_pos hx,if_pos hvs,if_pos (by omega)]
  have e:cJ (da x.hd (-1) 0 (aR a n (List.range 4))) = some ():=
    oP _ (lz x.hd 0 a n (List.range 4) [] fun z hz=>by cases hz)
  rw [am rfl,av e,if_pos (by rfl)]
  have e2:({ s with lists:=bM [] (ah x.hd),talks:=[] }:RoS) = s:=by cases s;simp only at hl ht;subst hl ht;rfl
  exact congrArg (fun r=>some (_,r)) e2
def ls0 (a:Lon) (q:Int):LV:=⟨⟨0,1,a.id,a.id,q,0,0⟩,hZ a (List.range 4),[]⟩
theorem ui (a:Lon) (q:Int):LsN a q 0 (ls0 a q):=⟨rfl,rfl,rfl,rfl,rfl,rfl,rfl⟩
theorem yj (a:Lon) (m:MiV) (q:Int) (h1:m.whd = (lsW a).hd) (h2:m.wlinks = hZ a (List.range 4)) (h3:m.wmem = []):gm m q = some (bE (ls0 a q),1):=by
  have h4:=mv a
  have e:eQ ⟨m.whd,m.wlinks,m.wmem⟩ = some ⟨(lsW a).hd,hZ a (List.range 4),[]⟩:=by
    unfold eQ
    rw [h1,h2,h3]
    show (if (hZ a (List.range 4)).length ≤ 100000 then if ([]:List Int).length ≤ 100000 then _ else _ else _) = _
    rw [if_pos (by omega),if_pos (by simp)]
  unfold gm
  rw [av e]
  show (if (hZ a (List.range 4)).length ≤ 5000 then if ([]:List Int).length ≤ 5000 then _ else _ else _) = _
  rw [if_pos (by omega),if_pos (by simp)]
  rfl
theorem zz {a:Lon} (ha:LonOk a) {q:Int} {L:LV} (hL:LsN a q 0 L) (hq:-2147483647 ≤ q∧q ≤ 2147483647) {l:List (KeyV × LV)} (hl:(l = []∧1 ≤ a.room) ∨ ∃ x,l = [(kyN a,x)]):ej L ⟨a.room,l⟩ = (0,⟨a.room,[(kyN a,bE L)]⟩):=by
  unfold ej
  rw [za ha hL ⟨by omega,by omega⟩ hq,hL.key]
  rcases hl with ⟨rfl,hr⟩ | ⟨x,rfl⟩
  · show (if (((0:Nat):Int):Int) = a.room then _ else _) = _
    rw [if_neg (by omega)]
    rfl
  · have e:au (kyN a) [(kyN a,x)] = some x:=by simp [au]
    show ji (au (kyN a) [(kyN a,x)]) _ _ = _
    rw [e]
    show ((0:Int),(⟨a.room,aV (kyN a) (bE L) [(kyN a,x)]⟩:DbS)) = _
    simp [aV]
def miN (a:Lon) (g:LV × Bool) (o:Option ToV):MiV:=⟨(lsW a).hd,(lsW a).links,(lsW a).mem,true,g.1.hd,g.1.links,g.1.mem,g.2,(o.getD to0).seq,(o.getD to0).at_,o.isSome⟩
theorem oR {a:Lon} (ha:LonOk a) {n:Nat} {s:RoS} {q:Int} {L:LV} {g:LV × Bool} (hd:dz s.db) (hg:bh (kyN a) s.db = g) (hP:cH (miN a g (au (kyN a) s.mine)) s.now = some (L,1)) (hL:LsN a q 0 L)
    (hput:ej L s.db = (0,⟨a.room,[(kyN a,bE L)]⟩)) (hl:s.lists = []) (ht:s.talks = []):
    eb (kyN a) (lsW a) true (aR a n (List.range 4)) s = some { s with db:=⟨a.room,[(kyN a,bE L)]⟩,mine:=aV (kyN a) (⟨q,s.now⟩:ToV) s.mine }:=by
  have h4:=mv a
  have hx:=ez hL
  have hdb:=mQ hx ⟨by omega,by omega⟩ a.room
  unfold eb
  rw [if_pos hd,am hg]
  show aJ (cH (miN a g (au (kyN a) s.mine)) s.now) _ = _
  rw [av hP]
  have e12:gW s (L,1) = some (false,{ s with db:=⟨a.room,[(kyN a,bE L)]⟩ }):=by
    unfold gW
    show (if (1:Int) ≠ 1 then _ else if L.links.length ≤ 5000 then if L.mem.length ≤ 5000 then bw (ej L s.db) _ else none else none) = _
    rw [if_neg (by simp),if_pos (by rw [hL.links];omega),if_pos (by rw [hL.mem];simp),am hput]
    rfl
  rw [av e12]
  show (if dz ⟨a.room,[(kyN a,bE L)]⟩ then bw (bh (kyN a) ⟨a.room,[(kyN a,bE L)]⟩) _ else none) = _
  rw [if_pos hdb,am (wZ hx a.room)]
  have hq:(⟨L.hd.seq,s.now⟩:ToV) = ⟨q,s.now⟩:=by rw [hL.seq]
  obtain ⟨l,hp⟩:=vN a n (bE L) (by unfold cP;rw [hx.age];omega) (s:={ s with db:=⟨a.room,[(kyN a,bE L)]⟩,mine:=aV (kyN a) (⟨q,s.now⟩:ToV) s.mine }) hl ht
  show aJ (ep (bE L) (-1) 0 (aR a n (List.range 4)) { s with db:=⟨a.room,[(kyN a,bE L)]⟩,mine:=aV (kyN a) (⟨L.hd.seq,s.now⟩:ToV) s.mine }) _ = _
  rw [hq,av hp]
theorem tn {a:Lon} (ha:LonOk a) {n:Nat} {s:RoS} (hr:1 ≤ a.room) (hd:s.db = ⟨a.room,[]⟩) (hm:s.mine = []) (hl:s.lists = []) (ht:s.talks = []):
    eb (kyN a) (lsW a) true (aR a n (List.range 4)) s = some { s with db:=⟨a.room,[(kyN a,bE (bE (ls0 a (-2147483647))))]⟩,mine:=[(kyN a,⟨-2147483647,s.now⟩)] }:=by
  have hL:=ez (ui a (-2147483647))
  have hP:cH (miN a (⟨⟨0,0,0,0,0,0,0⟩,[],[]⟩,false) none) s.now = some (bE (ls0 a (-2147483647)),1):=by
    unfold cH
    have e4:eR (miN a (⟨⟨0,0,0,0,0,0,0⟩,[],[]⟩,false) none) = some false:=rfl
    have e6:dQ (miN a (⟨⟨0,0,0,0,0,0,0⟩,[],[]⟩,false) none) = some false:=rfl
    have e8:iz (miN a (⟨⟨0,0,0,0,0,0,0⟩,[],[]⟩,false) none) s.now = some false:=rfl
    have e10:de (miN a (⟨⟨0,0,0,0,0,0,0⟩,[],[]⟩,false) none) = (to0.seq,false):=rfl
    have e11:gQ (miN a (⟨⟨0,0,0,0,0,0,0⟩,[],[]⟩,false) none) (to0.seq,false) = some true:=rfl
    have w:(miN a (⟨⟨0,0,0,0,0,0,0⟩,[],[]⟩,false) none).wanted = true:=rfl
    rw [av e4,w]
    simp only [cond_true]
    rw [av e6]
    simp only [cond_false]
    rw [av e8]
    simp only [cond_false]
    rw [am e10,av e11]
    simp only [cond_true]
    rw [av (yj a _ (-2147483647) rfl rfl rfl)]
  have hdo:dz s.db:=by rw [hd];intro y hy;cases hy
  have hg:bh (kyN a) s.db = (⟨⟨0,0,0,0,0,0,0⟩,[],[]⟩,false):=by rw [hd];rfl
  have hmm:au (kyN a) s.mine = none:=by rw [hm];rfl
  rw [oR ha hdo hg (by rw [hmm];exact hP) hL (by rw [hd];exact zz ha hL ⟨by omega,by omega⟩ (.inl ⟨rfl,hr⟩)) hl ht,hm]
  rfl
theorem vJ {a:Lon} (ha:LonOk a) {n:Nat} {s:RoS} {q at_:Int} {x:LV} (h:LsN a q 20 x) (hq:-2147483647 ≤ q∧q < 2147483646) (hd:s.db = ⟨a.room,[(kyN a,x)]⟩) (hm:s.mine = [(kyN a,⟨q,at_⟩)]) (hn:2 ≤ s.now - at_∧s.now - at_ ≤ 100000) (hl:s.lists = []) (ht:s.talks = []):
    eb (kyN a) (lsW a) true (aR a n (List.range 4)) s = some { s with db:=⟨a.room,[(kyN a,bE (bE (ls0 a (q + 1))))]⟩,mine:=[(kyN a,⟨q + 1,s.now⟩)] }:=by
  have hL:=ez (ui a (q + 1))
  have hP:cH (miN a (x,true) (some ⟨q,at_⟩)) s.now = some (bE (ls0 a (q + 1)),1):=by
    unfold cH
    have e4:eR (miN a (x,true) (some ⟨q,at_⟩)) = some true:=by
      show some (decide (x.hd.age ≠ 60)) = _
      rw [h.age];rfl
    have e6:dQ (miN a (x,true) (some ⟨q,at_⟩)) = some false:=by
      show (if x.hd.age < 20 then _ else some false) = _
      rw [if_neg (by rw [h.age];omega)]
    have e8:iz (miN a (x,true) (some ⟨q,at_⟩)) s.now = some false:=by
      show (if -4611686018427387904 ≤ s.now - at_∧s.now - at_ ≤ 4611686018427387904 then some (decide (s.now - at_ < 2)) else none) = _
      rw [if_pos (by omega),decide_eq_false (by omega)]
    have e10:de (miN a (x,true) (some ⟨q,at_⟩)) = (q,true):=by
      show (max x.hd.seq q,true) = _
      rw [h.seq,Int.max_self]
    have e11:gQ (miN a (x,true) (some ⟨q,at_⟩)) (q,true) = some false:=by
      show (if (2147483647:Int) ≤ q then some (!true) else some false) = _
      rw [if_neg (by omega)]
    have w:(miN a (x,true) (some ⟨q,at_⟩)).wanted = true:=rfl
    rw [av e4,w]
    simp only [cond_true]
    rw [av e6]
    simp only [cond_false]
    rw [av e8]
    simp only [cond_false]
    rw [am e10,av e11]
    simp only [cond_false]
    rw [if_pos (show q < 2147483647 by omega),if_pos (by omega),av (yj a _ (q + 1) rfl rfl rfl)]
  have hdo:dz s.db:=by rw [hd];exact mQ h ⟨by omega,by omega⟩ a.room
  have hg:bh (kyN a) s.db = (x,true):=by rw [hd];exact wZ h a.room
  have hmm:au (kyN a) s.mine = some ⟨q,at_⟩:=by rw [hm];simp [au]
  rw [oR ha hdo hg (by rw [hmm];exact hP) hL (by rw [hd];exact zz ha hL ⟨by omega,by omega⟩ (.inr ⟨x,rfl⟩)) hl ht,hm]
  simp [aV]
theorem zR {a:Lon} {q age:Int} {x:LV} (h:LsN a q age x) (h0:age < 60):jd [x] = some []:=by
  have e:eW [x] [] = some []:=by
    show (if x.hd.age = 60 then _ else some []) = _
    rw [if_neg (by rw [h.age];omega)]
  have e2:aW dC ([]:List KeyV) = []:=gp ck
  unfold jd
  rw [av e,if_pos (by simp),e2]
  rfl
theorem tH (room:Int):bZ ⟨room,[]⟩ = ([],⟨room,[]⟩):=by
  unfold bZ hX nS
  exact congrArg (fun z=>(z,_)) (gp ck)
theorem yi {a:Lon} {q age:Int} {x:LV} (h:LsN a q age x) (h0:age < 59) (room:Int):bZ ⟨room,[(kyN a,x)]⟩ = ([],⟨room,[(kyN a,fw x)]⟩):=by
  unfold bZ hX nS
  have e:([(kyN a,x)].filter fun e=>decide (e.2.hd.age = 59)) = []:=by
    have:¬ x.hd.age = 59:=by rw [h.age];omega
    simp [this]
  rw [e]
  exact congrArg (fun z=>(z,_)) (gp ck)
theorem uK {a:Lon} {n m:Nat} {s s4 s5:RoS} {d':DbS} {due:List TmV} {rest:List (TmV × Int)} {q age:Int} {x:LV} (hs:s.ports = aU a n) (hla:s.later = []) (hn:0 ≤ s.now∧s.now ≤ 1000) (hlen:s.db.l.length ≤ 1) (hdo:dz s.db) (htk:bZ s.db = ([],d'))
    (hw:s.w.length ≤ 100) (hdue:bg (s.now + 1) s.w = (due,rest)) (h35:cj due { s with now:=s.now + 1,db:=d',w:=rest } = some s4) (hp4:s4.ports = aU a m) (hn4:s4.now = s.now + 1) (hown:lu s4 = some s5)
    (hp5:s5.ports = aU a m) (hdb:s5.db = ⟨a.room,[(kyN a,x)]⟩) (hx:LsN a q age x) (h0:0 ≤ age∧age < 60):eJ s = some s5:=by
  have e4:dw (List.range 4) { s with now:=s.now + 1 } = some { s with now:=s.now + 1 }:=pj (List.range 4) _ hs hla (by decide)
  unfold eJ
  rw [if_pos (by omega),av e4]
  show (if s.db.l.length ≤ 100000 then if dz s.db then bw (bZ s.db) _ else none else none) = _
  rw [if_pos (by omega),if_pos hdo,am htk]
  have e16:gY [] { s with now:=s.now + 1,db:=d' } = some { s with now:=s.now + 1,db:=d' }:=rfl
  rw [av e16]
  show (if s.w.length ≤ 100000 then bw (bg (s.now + 1) s.w) _ else none) = _
  rw [if_pos (by omega),am hdue]
  show aJ (cj due { s with now:=s.now + 1,db:=d',w:=rest }) _ = _
  rw [av h35,av (zT hp4 (by rw [hn4];omega)),av hown,hdb,if_pos (mQ hx ⟨h0.1,by omega⟩ a.room),if_pos (by simp)]
  have eall:cS [(kyN a,x)] = [x]:=wC (.inr ⟨x,rfl,hx.adv,hx.key⟩)
  rw [am eall,av (zR hx h0.2)]
  have e47:eq [] s5 = some s5:=rfl
  rw [av e47,av (xY hp5)]
def m8 (n:Nat):Int:=if n % 2 = 1 then n + 2 else n + 1
def wtN (a:Lon) (n:Nat):List (TmV × Int):=if n < 8 then (ju a).map (fun k=>(tmN 2 k,(8:Int))) else []
def wN (a:Lon) (n:Nat):List (TmV × Int):=wtN a n ++ (eh a).map fun k=>(tmN 1 k,m8 n)
theorem t7 {c t:Int} (kind:Int) (h:c ≤ t) (ks:List Nat):((ks.map fun k=>(tmN kind k,c)).filter fun p=>decide (p.2 ≤ t)) = ks.map fun k=>(tmN kind k,c):=by
  rw [List.filter_eq_self]
  intro p hp
  obtain ⟨k,_,rfl⟩:=List.mem_map.1 hp
  exact decide_eq_true h
theorem j8 {c t:Int} (kind:Int) (h:¬ c ≤ t) (ks:List Nat):((ks.map fun k=>(tmN kind k,c)).filter fun p=>decide (p.2 ≤ t)) = []:=by
  rw [List.filter_eq_nil_iff]
  intro p hp
  obtain ⟨k,_,rfl⟩:=List.mem_map.1 hp
  simp [h]
theorem t6 {c t:Int} (kind:Int) (h:c ≤ t) (ks:List Nat):((ks.map fun k=>(tmN kind k,c)).filter fun p=>!decide (p.2 ≤ t)) = []:=by
  rw [List.filter_eq_nil_iff]
  intro p hp
  obtain ⟨k,_,rfl⟩:=List.mem_map.1 hp
  simp [h]
theorem j7 {c t:Int} (kind:Int) (h:¬ c ≤ t) (ks:List Nat):((ks.map fun k=>(tmN kind k,c)).filter fun p=>!decide (p.2 ≤ t)) = ks.map fun k=>(tmN kind k,c):=by
  rw [List.filter_eq_self]
  intro p hp
  obtain ⟨k,_,rfl⟩:=List.mem_map.1 hp
  simp [h]
theorem ly {p:Nat → Bool}:((List.range 4).filter p).Pairwise (· < ·):=List.pairwise_lt_range.filter _
theorem pD (t kind:Int) (ks:List Nat) (h:ks.Pairwise (· < ·)):(aW dD ((ks.map fun k=>(tmN kind k,t)).map fun p=>(⟨p.2,p.1⟩:DuV))).map (·.t) = ks.map (tmN kind):=by
  rw [List.map_map]
  exact wP t kind ks h
theorem qH:(aW dD ([]:List DuV)).map (·.t) = []:=by rw [gp fz];rfl
theorem yC {a:Lon} {n:Nat} (h:n % 2 = 1) (h7:n ≠ 7):bg ((n:Int) + 1) (wN a n) = ([],wN a n):=by
  unfold bg wN wtN m8
  rw [if_pos h,List.filter_append,List.filter_append,j8 1 (by omega),j7 1 (by omega)]
  split
  · rw [j8 2 (by omega),j7 2 (by omega)]
    exact congrArg (fun z=>(z,_)) qH
  · exact congrArg (fun z=>(z,_)) qH
theorem vf {a:Lon}:bg (8:Int) (wN a 7) = ((ju a).map (tmN 2),(eh a).map fun k=>(tmN 1 k,(9:Int))):=by
  unfold bg wN wtN
  rw [if_pos (by decide),show m8 7 = 9 from rfl,List.filter_append,List.filter_append,j8 1 (by omega),j7 1 (by omega),t7 2 (by omega),t6 2 (by omega),List.append_nil,List.nil_append]
  exact congrArg (fun z=>(z,_)) (pD 8 2 (ju a) ly)
theorem wO {a:Lon} {n:Nat} (h:n % 2 = 0):bg ((n:Int) + 1) (wN a n) = ((eh a).map (tmN 1),wtN a n):=by
  unfold bg wN
  have e:m8 n = (n:Int) + 1:=by unfold m8;rw [if_neg (by omega)]
  have e1:((wtN a n).filter fun p=>decide (p.2 ≤ (n:Int) + 1)) = []∧((wtN a n).filter fun p=>!decide (p.2 ≤ (n:Int) + 1)) = wtN a n:=by
    unfold wtN
    split
    · exact ⟨j8 2 (by omega) _,j7 2 (by omega) _⟩
    · exact ⟨rfl,rfl⟩
  rw [e,List.filter_append,List.filter_append,t7 1 (by omega),t6 1 (by omega),e1.1,e1.2,List.append_nil,List.nil_append]
  exact congrArg (fun z=>(z,_)) (pD _ 1 (eh a) ly)
end
section
open Go.Shelf Go.Lib
open Go.Sort hiding Below
def jj (n:Nat):Int:=-2147483647 + (((n - 1) / 20:Nat):Int)
def atN (n:Nat):Int:=1 + 20 * (((n - 1) / 20:Nat):Int)
def ei (n:Nat):Int:=(((n - 1) % 20:Nat):Int)
structure StN (a:Lon) (n:Nat) (s:RoS):Prop where
  id:s.id = a.id
  now:s.now = n
  ports:s.ports = aU a n
  talks:s.talks = []
  lists:s.lists = []
  later:s.later = []
  w:s.w = wN a n
  mine:s.mine = [(kyN a,⟨jj n,atN n⟩)]
  db:∃ x,s.db = ⟨a.room,[(kyN a,x)]⟩∧LsN a (jj n) (ei n) x
theorem yb {a:Lon} (ha:LonOk a) {n m:Nat} (h1:1 ≤ n) (h2:n ≤ 300) {s:RoS} {x:LV} (hi:s.id = a.id) (hs:s.ports = aU a m) (ht:s.talks = []) (hl:s.lists = []) (hn:s.now = ((n + 1:Nat):Int)) (hm:s.mine = [(kyN a,⟨jj n,atN n⟩)]) (hd:s.db = ⟨a.room,[(kyN a,x)]⟩) (hx:LsN a (jj n) (ei n + 1) x):
    ∃ y,lu s = some { s with db:=⟨a.room,[(kyN a,y)]⟩,mine:=[(kyN a,⟨jj (n + 1),atN (n + 1)⟩)] }∧LsN a (jj (n + 1)) (ei (n + 1)) y:=by
  have hage:0 ≤ ei n∧ei n ≤ 19:=by unfold ei;omega
  have hdo:dz s.db:=by rw [hd];exact mQ hx ⟨by omega,by omega⟩ a.room
  have hDb:DbN a s.db.l:=by rw [hd];exact .inr ⟨x,rfl,hx.adv,hx.key⟩
  by_cases hc:ei n + 1 < 20
  · have e1:jj (n + 1) = jj n:=by unfold jj ei at *;omega
    have e2:atN (n + 1) = atN n:=by unfold atN ei at *;omega
    have e3:ei (n + 1) = ei n + 1:=by unfold ei at *;omega
    refine ⟨x,?_,by rw [e1,e3];exact hx⟩
    rw [xE hi hs hdo hDb (vK hx ⟨by omega,hc⟩ hd),e1,e2]
    cases s
    simp only at hm hd
    rw [hm,hd]
  · have e0:ei n + 1 = 20:=by omega
    have e1:jj (n + 1) = jj n + 1:=by unfold jj ei at *;omega
    have e2:atN (n + 1) = s.now:=by rw [hn];unfold atN ei at *;omega
    have e3:ei (n + 1) = 0:=by unfold ei at *;omega
    have e4:2 ≤ s.now - atN n∧s.now - atN n ≤ 100000:=by rw [hn];unfold atN ei at *;omega
    have e5:-2147483647 ≤ jj n∧jj n < 2147483646:=by unfold jj;omega
    rw [e0] at hx
    refine ⟨_,?_,by rw [e1,e3];exact ez (ez (ui a (jj n + 1)))⟩
    rw [xE hi hs hdo hDb (vJ ha hx e5 hd hm e4 hl ht),e1,e2]
def lh (a:Lon) (t:Nat):List FrV:=if t % 2 = 1 then (eh a).filterMap (fun k=>(a.c k).map (frN a t k)) else []
theorem nB (a:Lon):(eh a).length ≤ 4:=List.length_filter_le _ _
theorem An (a:Lon) (n:Nat):(wN a n).length ≤ 8:=by
  have h1:=nB a
  have h2:(ju a).length ≤ 4:=List.length_filter_le _ _
  unfold wN wtN
  rw [List.length_append,List.length_map]
  split
  · rw [List.length_map];omega
  · simp;omega
theorem oT {a:Lon} {k:Nat} (h:k ∈ eh a):(a.c k).isSome:=(List.mem_filter.1 h).2
theorem Ak {a:Lon} (ha:LonOk a) {n:Nat} (h1:1 ≤ n) (h2:n ≤ 300) {s:RoS} (h:StN a n s) (ho:s.out = []):∃ s',eJ s = some s'∧StN a (n + 1) s'∧s'.out = lh a (n + 1):=by
  obtain ⟨x,hd,hx⟩:=h.db
  have hage:0 ≤ ei n∧ei n ≤ 19:=by unfold ei;omega
  have hage':0 ≤ ei (n + 1)∧ei (n + 1) ≤ 19:=by unfold ei;omega
  have hnow:=h.now
  have hup:=zN hx (by omega)
  have htk:bZ s.db = ([],⟨a.room,[(kyN a,fw x)]⟩):=by rw [hd];exact yi hx (by omega) a.room
  have hdo:dz s.db:=by rw [hd];exact mQ hx ⟨by omega,by omega⟩ a.room
  have hlen:s.db.l.length ≤ 1:=by rw [hd];simp
  have hwl:s.w.length ≤ 100:=by rw [h.w];have:=An a n;omega
  have hnn:s.now + 1 = ((n + 1:Nat):Int):=by rw [hnow];rfl
  have key:∀ (due:List TmV) (rest:List (TmV × Int)) (s4:RoS),bg (s.now + 1) s.w = (due,rest) → cj due { s with now:=s.now + 1,db:=⟨a.room,[(kyN a,fw x)]⟩,w:=rest } = some s4 →
      s4.id = s.id → s4.now = s.now + 1 → s4.ports = aU a (n + 1) → s4.talks = [] → s4.lists = [] → s4.later = [] → s4.w = wN a (n + 1) → s4.mine = s.mine → s4.db = ⟨a.room,[(kyN a,fw x)]⟩ → s4.out = lh a (n + 1) → ∃ s',eJ s = some s'∧StN a (n + 1) s'∧s'.out = lh a (n + 1):=by
    intro due rest s4 hdue h35 q1 q2 q3 q4 q5 q6 q7 q8 q9 q10
    obtain ⟨y,hown,hy⟩:=yb ha h1 h2 (q1.trans h.id) q3 q4 q5 (q2.trans hnn) (q8.trans h.mine) q9 hup
    refine ⟨_,uK h.ports h.later (by rw [hnow];omega) hlen hdo htk hwl hdue h35 q3 q2 hown q3 rfl hy ⟨hage'.1,by omega⟩,?_,q10⟩
    exact ⟨q1.trans h.id,q2.trans hnn,q3,q4,q5,q6,q7,rfl,y,rfl,hy⟩
  have hdN:(s.now + 1:Int) = (n:Int) + 1:=by rw [hnow]
  rcases Nat.mod_two_eq_zero_or_one n with hev | hodd
  · have hports:aU a n = aU a (n + 1):=by
      by_cases h8:n < 8
      · exact jQ h8 (by omega)
      · exact lZ h8 (by omega)
    have hwt:wtN a n = wtN a (n + 1):=by
      unfold wtN
      by_cases h8:n < 8
      · rw [if_pos h8,if_pos (show n + 1 < 8 by omega)]
      · rw [if_neg h8,if_neg (show ¬ n + 1 < 8 by omega)]
    have hdue:=wO (a:=a) hev
    have hf:=jF ha (n:=n + 1) (eh a) { s with now:=s.now + 1,db:=⟨a.room,[(kyN a,fw x)]⟩,w:=wtN a n } (List.nodup_range.filter _) (fun k hk=>oT hk) h.id (h.ports.trans hports) h.talks (by show 0 ≤ s.now + 1∧s.now + 1 ≤ 100000;rw [hnow];omega)
      (by
        intro k hk y hy e
        have hy':y ∈ wtN a n:=hy
        unfold wtN at hy'
        split at hy'
        · obtain ⟨j,_,rfl⟩:=List.mem_map.1 hy'
          have:=(lC e).1
          omega
        · cases hy')
      (by show s.out.length + _ ≤ _;rw [ho];have:=nB a;simp;omega)
    refine key _ _ _ (by rw [hdN,h.w];exact hdue) hf rfl rfl (h.ports.trans hports) h.talks h.lists h.later ?_ rfl rfl ?_
    · show wtN a n ++ (eh a).map (fun k=>(tmN 1 k,s.now + 1 + 2)) = wN a (n + 1)
      unfold wN
      rw [hwt,hnow]
      have:m8 (n + 1) = (n:Int) + 1 + 2:=by unfold m8;rw [if_pos (by omega)];omega
      rw [this]
    · show s.out ++ (eh a).filterMap (fun k=>(a.c k).map (frN a (n + 1) k)) = lh a (n + 1)
      unfold lh
      rw [ho,if_pos (by omega)];rfl
  · have hout:lh a (n + 1) = []:=by unfold lh;rw [if_neg (by omega)]
    have hhel:m8 (n + 1) = (n:Int) + 2:=by unfold m8;rw [if_neg (by omega)];omega
    by_cases h7:n = 7
    · subst h7
      have hw:=yq ha (s:={ s with now:=s.now + 1,db:=⟨a.room,[(kyN a,fw x)]⟩,w:=(eh a).map fun k=>(tmN 1 k,(9:Int)) }) h.ports h.talks
      refine key _ _ _ (by rw [hdN,h.w];exact vf) hw rfl rfl rfl h.talks h.lists h.later ?_ rfl rfl ?_
      · show (eh a).map (fun k=>(tmN 1 k,(9:Int))) = wN a 8
        unfold wN wtN
        rw [if_neg (by decide)]
        rfl
      · show s.out = _
        rw [ho,hout]
    · have hports:aU a n = aU a (n + 1):=by
        by_cases h8:n < 8
        · exact jQ h8 (by omega)
        · exact lZ h8 (by omega)
      have hwN:wN a n = wN a (n + 1):=by
        have e1:m8 n = (n:Int) + 2:=by unfold m8;rw [if_pos hodd]
        have e2:wtN a n = wtN a (n + 1):=by
          unfold wtN
          by_cases h8:n < 8
          · rw [if_pos h8,if_pos (show n + 1 < 8 by omega)]
          · rw [if_neg h8,if_neg (show ¬ n + 1 < 8 by omega)]
        unfold wN
        rw [e1,hhel,e2]
      refine key [] (wN a n) { s with now:=s.now + 1,db:=⟨a.room,[(kyN a,fw x)]⟩,w:=wN a n } (by rw [hdN,h.w];exact yC hodd h7) rfl rfl rfl (h.ports.trans hports) h.talks h.lists h.later hwN rfl rfl ?_
      show s.out = _
      rw [ho,hout]
def w0N (a:Lon) (ks:List Nat):List (TmV × Int):=ks.flatMap fun k=>match a.c k with | none=>[] | some p=>(tmN 1 k,(1:Int))::if 0 < p.1 then [(tmN 2 k,(8:Int))] else []
theorem zG (a:Lon):∀ ks:List Nat,((w0N a ks).filter fun p=>decide (p.2 ≤ 1)) = (ks.filter fun k=>(a.c k).isSome).map fun k=>(tmN 1 k,(1:Int))
  | []=>rfl
  | k::ks=>by
    have ih:=zG a ks
    unfold w0N at *
    rw [List.flatMap_cons,List.filter_append,ih,List.filter_cons]
    cases hc:a.c k with
    | none=>simp
    | some p=>
      by_cases hp:0 < p.1 <;> simp [hp]
theorem yo (a:Lon):∀ ks:List Nat,((w0N a ks).filter fun p=>!decide (p.2 ≤ 1)) = (ks.filter fun k=>sb (a.c k)).map fun k=>(tmN 2 k,(8:Int))
  | []=>rfl
  | k::ks=>by
    have ih:=yo a ks
    unfold w0N at *
    rw [List.flatMap_cons,List.filter_append,ih,List.filter_cons]
    cases hc:a.c k with
    | none=>simp [sb]
    | some p=>
      by_cases hp:0 < p.1 <;> simp [hp,sb]
theorem vd {a:Lon}:bg (1:Int) (w0N a (List.range 4)) = ((eh a).map (tmN 1),wtN a 0):=by
  unfold bg
  rw [zG,yo]
  exact congrArg (fun z=>(z,_)) (pD 1 1 (eh a) ly)
structure St0 (a:Lon) (s:RoS):Prop where
  id:s.id = a.id
  now:s.now = 0
  ports:s.ports = aU a 0
  talks:s.talks = []
  lists:s.lists = []
  later:s.later = []
  w:s.w = w0N a (List.range 4)
  mine:s.mine = []
  db:s.db = ⟨a.room,[]⟩
  out:s.out = []
theorem Am (a:Lon):(w0N a (List.range 4)).length ≤ 8:=by
  have h:∀ ks:List Nat,(w0N a ks).length ≤ 2 * ks.length:=by
    intro ks
    induction ks with
    | nil=>simp [w0N]
    | cons k ks ih=>
      unfold w0N at *
      rw [List.flatMap_cons,List.length_append,List.length_cons]
      have:(match a.c k with | none=>[] | some p=>(tmN 1 k,(1:Int))::if 0 < p.1 then [(tmN 2 k,(8:Int))] else []).length ≤ 2:=by
        cases a.c k with
        | none=>simp
        | some p=>by_cases hp:0 < p.1 <;> simp [hp]
      omega
  exact h (List.range 4)
theorem yF {a:Lon} (ha:LonOk a) (hr:1 ≤ a.room) {s:RoS} (h:St0 a s):∃ s',eJ s = some s'∧StN a 1 s'∧s'.out = lh a 1:=by
  have hports:aU a 0 = aU a 1:=jQ (by omega) (by omega)
  have hf:=jF ha (n:=1) (eh a) { s with now:=s.now + 1,db:=⟨a.room,[]⟩,w:=wtN a 0 } (List.nodup_range.filter _) (fun k hk=>oT hk) h.id (h.ports.trans hports) h.talks (by show 0 ≤ s.now + 1∧s.now + 1 ≤ 100000;rw [h.now];omega)
    (by
      intro k hk y hy e
      have hy':y ∈ (ju a).map (fun k=>(tmN 2 k,(8:Int))):=hy
      obtain ⟨j,_,rfl⟩:=List.mem_map.1 hy'
      have:=(lC e).1
      omega)
    (by show s.out.length + _ ≤ _;rw [h.out];have:=nB a;simp;omega)
  have hdo:dz s.db:=by rw [h.db];intro y hy;cases hy
  have hL:=ez (ez (ui a (-2147483647)))
  have hwl:s.w.length ≤ 100:=by rw [h.w];have:=Am a;omega
  have hown:=xE (a:=a) (n:=1) (s:={ s with now:=s.now + 1,db:=⟨a.room,[]⟩,w:=wtN a 0 ++ (eh a).map (fun k=>(tmN 1 k,s.now + 1 + 2)),out:=s.out ++ (eh a).filterMap (fun k=>(a.c k).map (frN a 1 k)) }) h.id (h.ports.trans hports) (by intro y hy;cases hy) (.inl rfl)
    (tn ha (n:=1) hr rfl h.mine h.lists h.talks)
  refine ⟨_,uK (n:=0) (m:=1) h.ports h.later (by rw [h.now];omega) (by rw [h.db];simp) hdo (by rw [h.db];exact tH a.room) hwl (by rw [h.now,h.w];exact vd) hf (h.ports.trans hports) rfl hown (h.ports.trans hports) rfl hL ⟨by omega,by omega⟩,?_,?_⟩
  · refine ⟨h.id,?_,h.ports.trans hports,h.talks,h.lists,h.later,?_,?_,_,rfl,hL⟩
    · show s.now + 1 = _;rw [h.now];rfl
    · show wtN a 0 ++ (eh a).map (fun k=>(tmN 1 k,s.now + 1 + 2)) = wN a 1
      rw [h.now];rfl
    · show [(kyN a,(⟨-2147483647,s.now + 1⟩:ToV))] = _
      rw [h.now];rfl
  · show s.out ++ _ = _
    rw [h.out];rfl
end
theorem ow {α:Type} {m xs:List α} {k:Nat} {z:α} (h:m.drop k = z::xs):m[k]? = some z∧m.drop (k + 1) = xs:=by
  constructor
  · have:(m.drop k)[0]? = some z:=by rw [h];rfl
    rw [List.getElem?_drop] at this
    exact this
  · rw [← List.drop_drop,h];rfl
theorem uD (m:List Int):∀ (xs:List Int) (k:Nat),m.drop k = xs → gv m xs k = some (.ok ())
  | [],k,_=>rfl
  | z::xs,k,h=>by
    obtain ⟨h1,h2⟩:=ow h
    unfold gv
    have h3:m.getD k 0 = z:=by rw [List.getD_eq_getElem?_getD,h1];rfl
    rw [am h3,if_neg (by simp),uD m xs (k + 1) h2]
theorem wa (l:List Int):mD l l = some true:=by
  unfold mD
  rw [if_neg (by simp),av (uD l l 0 rfl)]
  rfl
theorem oC (m:List FrV):∀ (xs:List FrV) (k:Nat),m.drop k = xs → eM m xs k = some (.ok ())
  | [],k,_=>rfl
  | z::xs,k,h=>by
    obtain ⟨h1,h2⟩:=ow h
    unfold eM
    have h3:m.getD k ⟨0,0,0,[]⟩ = z:=by rw [List.getD_eq_getElem?_getD,h1];rfl
    rw [am h3,if_neg (by simp),if_neg (by simp),if_neg (by simp),av (wa z.bs)]
    simp only [cond_true]
    exact oC m xs (k + 1) h2
theorem qP (l:List FrV):gg l l = some true:=by
  unfold gg
  rw [if_neg (by simp),av (oC l l 0 rfl)]
  rfl
def drW (id:Int) (k6 k8:Nat) (z:PtV):Int:=if (8:Int) < (k6:Int) + 1 then if 0 < z.prio then kN k8 id else 0 else 0
def frW (id:Int) (k6 k8:Nat) (z:PtV):FrV:=⟨k8,id,0,cc (hlR id z.prio (drW id k6 k8 z)) 12⟩
theorem pn (c:CoV) (k6 k8:Nat) (h:(k6 + 1) % 2 = 0):∀ (l:List PtV) (acc:List FrV),cQ c k6 k8 l acc = some acc
  | [],acc=>rfl
  | z::l,acc=>by
    have e:gd k6 k8 z = some true:=by
      unfold gd
      by_cases hz:(z.lan:Int) ≠ k8
      · rw [if_pos hz]
      · rw [if_neg hz,decide_eq_true (by omega)]
    unfold cQ
    rw [av e]
    simp only [cond_true]
    exact pn c k6 k8 h l acc
theorem nW (c:CoV) (k6 k8:Nat) (h:(k6 + 1) % 2 = 1) (hid:1 ≤ c.id∧c.id ≤ 15) (hk:k8 < 4):∀ (l:List PtV) (acc:List FrV),(∀ z ∈ l,0 ≤ z.prio∧z.prio ≤ 255) → acc.length + l.length ≤ 1000 → cQ c k6 k8 l acc = some (acc ++ (l.filter fun z:PtV=>decide (z.lan = (k8:Int))).map (frW c.id k6 k8))
  | [],acc,_,_=>by simp [cQ]
  | z::l,acc,hp,hl=>by
    have hp':=hp z (by simp)
    have hr:=fun y hy=>hp y (List.mem_cons_of_mem _ hy)
    simp only [List.length_cons] at hl
    have e:gd k6 k8 z = some (decide (z.lan ≠ k8)):=by
      unfold gd
      by_cases hz:(z.lan:Int) ≠ k8
      · rw [if_pos hz,decide_eq_true hz]
      · rw [if_neg hz,decide_eq_false (by omega),decide_eq_false hz]
    unfold cQ
    rw [av e]
    by_cases hz:z.lan = k8
    · rw [decide_eq_false (by simp [hz])]
      simp only [cond_false]
      have hdr:0 ≤ drW c.id k6 k8 z∧drW c.id k6 k8 z ≤ 63:=by
        unfold drW
        split
        · split
          · rw [tT k8 c.id hk hid];omega
          · omega
        · omega
      have hb:=xh c.id z.prio (drW c.id k6 k8 z) hid hp' hdr
      have key:cQ c k6 k8 l (acc ++ [frW c.id k6 k8 z]) = some (acc ++ ((z::l).filter fun z:PtV=>decide (z.lan = (k8:Int))).map (frW c.id k6 k8)):=by
        rw [nW c k6 k8 h hid hk l _ hr (by simp;omega)]
        simp [hz]
      by_cases h8:(8:Int) < (k6:Int) + 1
      · rw [if_pos h8]
        have e14:kP c k8 z = some (drW c.id k6 k8 z):=by
          unfold kP drW
          rw [if_pos h8]
          split <;> rfl
        rw [av e14]
        have hb':fx ⟨1,c.id,2,8,z.prio,drW c.id k6 k8 z,0,[],false,false,false,0,[],[],[],[]⟩ = some (cc (hlR c.id z.prio (drW c.id k6 k8 z)) 12):=hb
        rw [av hb',if_pos (by omega)]
        exact key
      · rw [if_neg h8]
        have e0:drW c.id k6 k8 z = 0:=by unfold drW;rw [if_neg h8]
        have hb':fx ⟨1,c.id,2,8,z.prio,0,0,[],false,false,false,0,[],[],[],[]⟩ = some (cc (hlR c.id z.prio (drW c.id k6 k8 z)) 12):=by rw [e0] at hb ⊢;exact hb
        rw [av hb',if_pos (by omega)]
        exact key
    · rw [decide_eq_true hz]
      simp only [cond_true]
      rw [nW c k6 k8 h hid hk l acc hr (by omega)]
      simp [hz]
theorem nX (c:CoV) (k6:Nat) (h:(k6 + 1) % 2 = 0):∀ (ks:List Nat) (acc:List FrV),d4 c k6 ks acc = some acc
  | [],acc=>rfl
  | k::ks,acc=>by
    unfold d4
    rw [av (pn c k6 k h c.ports acc)]
    exact nX c k6 h ks acc
theorem po (c:CoV) (k6:Nat) (h:(k6 + 1) % 2 = 1) (hid:1 ≤ c.id∧c.id ≤ 15) (hp:∀ z ∈ c.ports,0 ≤ z.prio∧z.prio ≤ 255) (hl:c.ports.length ≤ 8):∀ (ks:List Nat) (acc:List FrV),(∀ k ∈ ks,k < 4) → acc.length + 8 * ks.length ≤ 100 →
    d4 c k6 ks acc = some (acc ++ ks.flatMap fun k:Nat=>(c.ports.filter fun z:PtV=>decide (z.lan = (k:Int))).map (frW c.id k6 k))
  | [],acc,_,_=>by simp [d4]
  | k::ks,acc,hk,ha=>by
    simp only [List.length_cons] at ha
    unfold d4
    rw [av (nW c k6 k h hid (hk k (by simp)) c.ports acc hp (by omega))]
    have hlen:((c.ports.filter fun z:PtV=>decide (z.lan = (k:Int))).map (frW c.id k6 k)).length ≤ 8:=by
      rw [List.length_map];exact Nat.le_trans (List.length_filter_le _ _) hl
    rw [po c k6 h hid hp hl ks _ (fun j hj=>hk j (List.mem_cons_of_mem _ hj)) (by rw [List.length_append];omega)]
    simp
theorem yB (a:Lon) (k6 k:Nat) (z:PtV) (hid:1 ≤ a.id) (hp:0 ≤ z.prio) (h:(k6 + 1) % 2 = 1):drW a.id k6 k z = aI k (ifN a (k6 + 1) z.prio).dr:=by
  unfold drW aI ifN
  dsimp only
  by_cases h0:z.prio = 0
  · rw [if_pos h0,if_pos rfl]
    split
    · rw [if_neg (by omega)]
    · rfl
  · rw [if_neg h0]
    by_cases h8:k6 + 1 < 8
    · rw [if_pos h8,if_pos rfl,if_neg (by omega)]
    · rw [if_neg h8,if_neg (show ¬ a.id = 0 by omega),if_pos (show (8:Int) < (k6:Int) + 1 by omega),if_pos (show 0 < z.prio by omega)]
theorem yH (a:Lon) (k6 k:Nat) (z:PtV) (hid:1 ≤ a.id) (hp:0 ≤ z.prio) (h:(k6 + 1) % 2 = 1):frW a.id k6 k z = frN a (k6 + 1) k (z.prio,z.cost):=by
  unfold frW frN
  rw [yB a k6 k z hid hp h]
theorem tM:tL = some true:=by decide +kernel
def nk (a:Lon) (up:Bool) (k:Nat) (p:Int × Int):Old.PoS:=⟨k,p.1,p.2,if up then ifN a 0 p.1 else ⟨a.id,p.1,0,0,0⟩,Old.peers0 a.id k⟩
def cg (a:Lon) (n:Nat):List (Option Old.PoS):=(List.range 4).map fun k=>(a.c k).map (nk a (decide (k < n)) k)
theorem zl (a:Lon) (pr:Int) (h:0 ≤ pr):dm ⟨a.id,pr,0,0,0⟩ 0 [] = ifN a 0 pr:=by
  unfold dm
  rw [if_neg (by decide)]
  have e:cM (0:Int) 0 = 1:=by decide
  show (if cM (0:Int) 0 = 1 then dH ⟨a.id,pr,0,0,0⟩ else _) = _
  rw [if_pos e]
  unfold dH ifN
  dsimp only
  by_cases h0:pr = 0
  · subst h0;simp
  · rw [if_neg (show ¬ pr ≤ 0 by omega),if_neg h0,if_neg h0,if_pos (by decide),if_pos (by decide)]
theorem zF {a:Lon} (ha:LonOk a) {t:Old.RoS} (hn:t.now = 0) (hp:t.ports = cg a 0) (hw:t.w = []):∀ k:Nat,k ≤ 4 → Old.upsF k t = { t with ports:=cg a k,w:=w0N a (List.range k) }
  | 0,_=>by
    show t = _
    cases t
    simp only at hp hw
    subst hp;subst hw
    rfl
  | k + 1,hk=>by
    have ih:=zF ha hn hp hw k (by omega)
    unfold Old.upsF
    rw [ih]
    have hat:(cg a k)[k]? = some ((a.c k).map (nk a false k)):=by
      unfold cg
      rw [List.getElem?_map,List.getElem?_range (by omega)]
      simp
    have hrest:∀ o:Option Old.PoS,o = (a.c k).map (nk a true k) → (cg a k).set k o = cg a (k + 1):=by
      intro o ho
      subst ho
      unfold cg
      have h4:List.range 4 = [0,1,2,3]:=rfl
      rw [h4]
      have:k = 0 ∨ k = 1 ∨ k = 2 ∨ k = 3:=by omega
      rcases this with rfl | rfl | rfl | rfl <;> simp
    have hw1:w0N a (List.range (k + 1)) = w0N a (List.range k) ++ w0N a [k]:=by
      unfold w0N
      rw [List.range_succ,List.flatMap_append]
    have hfree:∀ (kind:Int),au (tmN kind k) (w0N a (List.range k)) = none:=by
      intro kind
      refine pO fun x hx e=>?_
      unfold w0N at hx
      obtain ⟨j,hj,hx⟩:=List.mem_flatMap.1 hx
      have hj:=List.mem_range.1 hj
      cases hc:a.c j with
      | none=>rw [hc] at hx;cases hx
      | some p=>
        rw [hc] at hx
        rcases List.mem_cons.1 hx with rfl | hx
        · have:=(lC e).2;omega
        · split at hx
          · rw [List.mem_singleton.1 hx] at e
            have:=(lC e).2;omega
          · cases hx
    cases hc:a.c k with
    | none=>
      have hw2:w0N a [k] = []:=by simp [w0N,hc]
      rw [hc] at hat
      simp only [Option.map_none] at hat
      have e:=hrest none (by rw [hc];rfl)
      have e2:(cg a k).set k none = cg a k:=by
        have hlt:=(List.getElem?_eq_some_iff.1 hat).1
        have hg:=(List.getElem?_eq_some_iff.1 hat).2
        rw [← hg,List.set_getElem_self]
      rw [e2] at e
      simp only [hat]
      rw [hw1,hw2,List.append_nil,e]
    | some p=>
      have hw2:w0N a [k] = (tmN 1 k,(1:Int))::if 0 < p.1 then [(tmN 2 k,(8:Int))] else []:=by simp [w0N,hc]
      rw [hc] at hat
      simp only [Option.map_some] at hat
      obtain ⟨_,⟨hpr,_⟩,_⟩:=ha.ports k p hc
      have e:=hrest (some (nk a true k p)) (by rw [hc];rfl)
      simp only [hat]
      unfold Old.upF
      have es:dm (nk a false k p).i 0 [] = ifN a 0 p.1:=zl a p.1 hpr
      dsimp only
      rw [es]
      have eo:({ nk a false k p with i:=ifN a 0 p.1 }:Old.PoS) = nk a true k p:=rfl
      rw [eo,e,hn]
      have ew:Old.armF (0 + 1) [Old.tmr 1 (nk a false k p).lan 0] (w0N a (List.range k)) = w0N a (List.range k) ++ [(tmN 1 k,1)]:=by
        show aV (tmN 1 k) (0 + 1) (w0N a (List.range k)) = _
        rw [kt (hfree 1)];rfl
      rw [ew,hw1,hw2]
      by_cases h0:0 < p.1
      · have e1:(ifN a 0 p.1).state = 1:=by unfold ifN;dsimp only;rw [if_neg (show ¬ p.1 = 0 by omega),if_pos (by decide)]
        have e3:au (tmN 2 k) (w0N a (List.range k) ++ [(tmN 1 k,(1:Int))]) = none:=by
          refine pO fun x hx e=>?_
          rcases List.mem_append.1 hx with hx | hx
          · have h2:=hfree 2
            rw [gL] at h2
            exact h2 (List.mem_map.2 ⟨x,hx,e⟩)
          · rw [List.mem_singleton.1 hx] at e
            have:=(lC e).1;omega
        have e4:Old.armF (0 + 8) [Old.tmr 2 (nk a false k p).lan 0] (w0N a (List.range k) ++ [(tmN 1 k,1)]) = w0N a (List.range k) ++ [(tmN 1 k,1)] ++ [(tmN 2 k,8)]:=by
          show aV (tmN 2 k) (0 + 8) _ = _
          rw [kt e3];rfl
        rw [if_pos e1,e4,if_pos h0,List.append_assoc]
        rfl
      · have e1:¬ (ifN a 0 p.1).state = 1:=by unfold ifN;dsimp only;rw [if_pos (show p.1 = 0 by omega)];decide
        rw [if_neg e1,if_neg h0]
theorem Aw {c:CoV} {s:RoS} (h:gc c.id c.boot c.room c.ports = some s):
    LonOk (dd c)∧St0 (dd c) s∧c.ports.Pairwise (fun x y=>x.lan ≠ y.lan)∧(1 ≤ c.id∧c.id ≤ 15)∧∀ z ∈ c.ports,Old.portOk z.lan z.prio z.cost:=by
  unfold gc at h
  cases e:Old.newF c.id c.boot c.room (c.ports.map jq) with
  | none=>rw [e] at h;cases h
  | some u=>
    rw [e] at h
    simp only [Option.map_some,Option.some.injEq] at h
    subst h
    unfold Old.newF at e
    split at e
    · cases e
    rename_i hid
    cases e2:Old.addsF c.id (c.ports.map jq) (Old.ro0 c.id c.boot c.room) with
    | none=>rw [e2] at e;cases e
    | some t=>
      rw [e2] at e
      simp only [Option.map_some,Option.some.injEq] at e
      subst e
      have hok:=mJ _ _ _ _ e2
      have hsame:=oi _ _ _ _ e2
      obtain ⟨h4,_,hpw,hat⟩:=mK _ _ _ _ e2 rfl
      have hid':1 ≤ c.id∧c.id ≤ 15:=by omega
      have hok':∀ z ∈ c.ports,Old.portOk z.lan z.prio z.cost:=fun z hz=>hok (jq z) (List.mem_map_of_mem hz)
      have hpw':c.ports.Pairwise (fun x y=>x.lan ≠ y.lan):=by
        rw [List.pairwise_map] at hpw
        exact hpw
      have hL:LonOk (dd c):=by
        refine ⟨hid'.1,hid'.2,fun k p hc=>?_⟩
        unfold dd at hc
        dsimp only at hc
        cases hf:c.ports.find? fun z:PtV=>decide (z.lan = (k:Int)) with
        | none=>rw [hf] at hc;cases hc
        | some z=>
          rw [hf] at hc
          cases hc
          have h1:=List.mem_of_find?_eq_some hf
          have h2:z.lan = (k:Int):=by have h2:=List.find?_some hf;exact of_decide_eq_true h2
          have h3:=hok' z h1
          unfold Old.portOk at h3
          dsimp only
          omega
      have hports:t.ports = cg (dd c) 0:=by
        apply List.ext_getElem?
        intro k
        rcases Nat.lt_or_ge k 4 with hk | hk
        · rw [hat k hk]
          unfold cg
          rw [List.getElem?_map,List.getElem?_range hk]
          have hz:(Old.ro0 c.id c.boot c.room).ports[k]? = some none:=by
            have:k = 0 ∨ k = 1 ∨ k = 2 ∨ k = 3:=by omega
            rcases this with rfl | rfl | rfl | rfl <;> rfl
          rw [hz,List.find?_map]
          have hcomp:((fun z:Old.PtV=>decide (z.lan = (k:Int))) ∘ jq) = fun z:PtV=>decide (z.lan = (k:Int)):=rfl
          rw [hcomp]
          show _ = some ((((c.ports.find? fun z:PtV=>decide (z.lan = (k:Int))).map fun z=>(z.prio,z.cost))).map _)
          cases hf:c.ports.find? fun z:PtV=>decide (z.lan = (k:Int)) with
          | none=>rfl
          | some z=>
            have h2:z.lan = (k:Int):=by have h2:=List.find?_some hf;exact of_decide_eq_true h2
            show some (some (Old.port0 c.id (jq z))) = some (some (nk (dd c) false k (z.prio,z.cost)))
            unfold Old.port0 nk jq
            dsimp only
            rw [h2]
            rfl
        · rw [List.getElem?_eq_none (by omega),List.getElem?_eq_none (by simp [cg];omega)]
      have htnow:t.now = 0:=by rw [hsame];rfl
      have htw:t.w = []:=by rw [hsame];rfl
      have hu:=zF hL htnow hports htw 4 (by omega)
      refine ⟨hL,?_,hpw',hid',hok'⟩
      rw [hu]
      have hp4:(cg (dd c) 4).map (Option.map conv) = aU (dd c) 0:=by
        unfold cg aU
        rw [List.map_map]
        refine List.map_congr_left fun k hk=>?_
        have hk':k < 4:=List.mem_range.1 hk
        show Option.map conv (Option.map _ _) = _
        rw [Option.map_map,decide_eq_true hk']
        rfl
      exact ⟨by rw [hsame];rfl,htnow,hp4,rfl,by rw [hsame];rfl,by rw [hsame];rfl,rfl,rfl,by rw [hsame];rfl,rfl⟩
theorem sc {c:CoV} {k6:Nat} (hpw:c.ports.Pairwise (fun x y=>x.lan ≠ y.lan)) (hid:1 ≤ c.id) (hok:∀ z ∈ c.ports,0 ≤ z.prio) (h:(k6 + 1) % 2 = 1):∀ ks:List Nat,
    (ks.flatMap fun k:Nat=>(c.ports.filter fun z:PtV=>decide (z.lan = (k:Int))).map (frW c.id k6 k)) = (ks.filter fun k=>((dd c).c k).isSome).filterMap (fun k=>((dd c).c k).map (frN (dd c) (k6 + 1) k))
  | []=>rfl
  | k::ks=>by
    have ih:=sc hpw hid hok h ks
    rw [List.flatMap_cons,ih,kU _ _ hpw,List.filter_cons]
    have hc:(dd c).c k = (c.ports.find? fun z:PtV=>decide (z.lan = (k:Int))).map fun z=>(z.prio,z.cost):=rfl
    cases hf:c.ports.find? fun z:PtV=>decide (z.lan = (k:Int)) with
    | none=>rw [hf] at hc;rw [hc];rfl
    | some z=>
      rw [hf] at hc
      have h1:=List.mem_of_find?_eq_some hf
      simp only [hc,Option.map_some,Option.isSome_some,if_true,List.filterMap_cons,Option.toList_some,List.map_cons,List.map_nil]
      have hfs:=yH (dd c) k6 k z hid (hok z h1) h
      have hid2:(dd c).id = c.id:=rfl
      rw [hid2] at hfs
      rw [hfs]
      rfl
theorem qO (k:Int) (f:PtV → Int):∀ (l:List PtV),(∀ z ∈ l,0 ≤ z.lan∧z.lan ≤ 3) → (l.filter fun z=>decide (z.lan = ((0:Nat):Int))).length + (l.filter fun z=>decide (z.lan = ((1:Nat):Int))).length + (l.filter fun z=>decide (z.lan = ((2:Nat):Int))).length + (l.filter fun z=>decide (z.lan = ((3:Nat):Int))).length = l.length
  | [],_=>rfl
  | z::l,h=>by
    have ih:=qO k f l fun y hy=>h y (List.mem_cons_of_mem _ hy)
    have hz:=h z (by simp)
    have:z.lan = ((0:Nat):Int) ∨ z.lan = ((1:Nat):Int) ∨ z.lan = ((2:Nat):Int) ∨ z.lan = ((3:Nat):Int):=by omega
    rcases this with e | e | e | e <;> simp only [List.filter_cons,e] <;> simp <;> simp at ih <;> omega
theorem vw {c:CoV} (hpw:c.ports.Pairwise (fun x y=>x.lan ≠ y.lan)) (hok:∀ z ∈ c.ports,0 ≤ z.lan∧z.lan ≤ 3):(hZ (dd c) (List.range 4)).length = c.ports.length:=by
  have h:=qO 0 (fun z=>z.lan) c.ports hok
  simp only [kU _ _ hpw] at h
  rw [← h]
  unfold hZ
  have h4:List.range 4 = [0,1,2,3]:=rfl
  rw [h4]
  have hc:∀ k:Nat,(dd c).c k = (c.ports.find? fun z:PtV=>decide (z.lan = (k:Int))).map fun z=>(z.prio,z.cost):=fun _=>rfl
  simp only [List.filterMap_cons,List.filterMap_nil,hc]
  cases (c.ports.find? fun z:PtV=>decide (z.lan = ((0:Nat):Int))) <;> cases (c.ports.find? fun z:PtV=>decide (z.lan = ((1:Nat):Int))) <;> cases (c.ports.find? fun z:PtV=>decide (z.lan = ((2:Nat):Int))) <;> cases (c.ports.find? fun z:PtV=>decide (z.lan = ((3:Nat):Int))) <;> rfl
def StA (a:Lon) (n:Nat) (s:RoS):Prop:=(n = 0 → St0 a s)∧(1 ≤ n → StN a n s)
theorem qq {c:CoV} (hL:LonOk (dd c)) (hpw:c.ports.Pairwise (fun x y=>x.lan ≠ y.lan)) (hid:1 ≤ c.id∧c.id ≤ 15) (hok:∀ z ∈ c.ports,Old.portOk z.lan z.prio z.cost) (h8:c.ports.length ≤ 8):∀ (m k:Nat) (s:RoS),StA (dd c) k s → s.out = [] → k + m ≤ 255 →
    ∃ r,ib c (List.range' k m) s = some (.ok r)
  | 0,k,s,_,_,_=>⟨s,rfl⟩
  | m + 1,k,s,hs,ho,hkm=>by
    have hstep:∃ s',eJ s = some s'∧StN (dd c) (k + 1) s'∧s'.out = lh (dd c) (k + 1):=by
      rcases Nat.eq_zero_or_pos k with h | h
      · subst h
        exact yF hL (xM c.room) (hs.1 rfl)
      · exact Ak hL h (by omega) (hs.2 h) ho
    obtain ⟨s',ht,hS,hout⟩:=hstep
    obtain ⟨x,hd,hx⟩:=hS.db
    have hage:0 ≤ ei (k + 1)∧ei (k + 1) ≤ 19:=by unfold ei;omega
    have hok1:∀ z ∈ c.ports,0 ≤ z.prio∧z.prio ≤ 255:=fun z hz=>by have:=hok z hz;unfold Old.portOk at this;omega
    have hok2:∀ z ∈ c.ports,0 ≤ z.lan∧z.lan ≤ 3:=fun z hz=>by have:=hok z hz;unfold Old.portOk at this;omega
    have hwant:d4 c k (List.range 4) [] = some (lh (dd c) (k + 1)):=by
      rcases Nat.mod_two_eq_zero_or_one (k + 1) with he | hodd
      · rw [nX c k he]
        unfold lh
        rw [if_neg (by omega)]
      · rw [po c k hodd hid hok1 h8 (List.range 4) [] (by decide) (by decide),sc hpw hid.1 (fun z hz=>(hok1 z hz).1) hodd]
        unfold lh
        rw [if_pos hodd]
        rfl
    have hdo:dz s'.db:=by rw [hd];exact mQ hx ⟨by omega,by omega⟩ _
    have hls:mB s' = some [x]:=by
      unfold mB
      rw [if_pos hdo,if_pos (by rw [hd];simp)]
      have:cS s'.db.l = [x]:=by
        rw [hd]
        exact wC (a:=dd c) (.inr ⟨x,rfl,hx.adv,hx.key⟩)
      rw [this]
      rfl
    obtain ⟨r,hr⟩:=qq hL hpw hid hok h8 m (k + 1) { s' with out:=[] } ⟨fun h=>by omega,fun _=>⟨hS.id,hS.now,hS.ports,hS.talks,hS.lists,hS.later,hS.w,hS.mine,x,hd,hx⟩⟩ rfl (by omega)
    refine ⟨r,?_⟩
    rw [List.range'_succ]
    unfold ib
    rw [av ht,av hwant,av hls]
    have ho2:nJ s' = some (s'.out,{ s' with out:=[] }):=rfl
    rw [av ho2]
    show aJ (gg s'.out (lh (dd c) (k + 1))) _ = _
    rw [hout,av (qP _)]
    have hlen:x.links.length = c.ports.length:=by rw [hx.links];exact vw hpw hok2
    simp only [Bool.not_true,cond_false]
    rw [if_neg (by simp)]
    show bw x _ = _
    unfold bw
    dsimp only
    rw [if_neg (by rw [hx.adv];exact fun h=>h rfl),if_neg (by rw [hx.kind];decide),if_neg (by rw [hx.age];omega),if_neg (by rw [hlen];exact fun h=>h rfl)]
    exact hr
theorem sv (c:CoV) (ticks:Int) (h0:0 ≤ ticks∧ticks ≤ 255):su c ticks = some true:=by
  unfold su
  rw [av tM,cond_true]
  unfold j4
  cases hn:gc c.id c.boot c.room c.ports with
  | none=>rfl
  | some s=>
    obtain ⟨hL,hS,hpw,hid,hok⟩:=Aw hn
    show (if (8:Int) < ((c.ports.length:Nat):Int) then _ else _) = _
    by_cases h8:(8:Int) < ((c.ports.length:Nat):Int)
    · rw [if_pos h8]
    rw [if_neg h8]
    obtain ⟨r,hr⟩:=qq hL hpw hid hok (by omega) ticks.toNat 0 s ⟨fun _=>hS,fun h=>by omega⟩ hS.out (by omega)
    rw [List.range_eq_range',av hr]
    rfl
section
open Go.RowKit Go.ChangeShapes Go.WideShapes
instance:Inhabited PtV:=⟨⟨0,0,0⟩⟩
theorem RowAt.reads {α:Type} {cells:α → List Value} {size:Nat} {w:World} {A:Option Addr} {n:Nat} {l:List α} (hc:∀ a,(cells a).length = size) (hs:0 < size) (h:RowAt cells size w A n l):Reads w w.heap.size size A n (ab cells l):=by
  obtain ⟨h1,h2⟩:=h
  refine ⟨by rw [be cells size hc,h1],fun hp=>?_⟩
  obtain ⟨b,off,e,hb,hq⟩:=h2 hp
  refine ⟨b,off,e,hb,fun j u hu=>?_⟩
  have hj:j < l.length * size:=by have:=(List.getElem?_eq_some_iff.1 hu).1;rwa [be cells size hc] at this
  have hk:j / size < l.length:=Nat.div_lt_of_lt_mul (by rwa [Nat.mul_comm] at hj)
  have hr:j % size < size:=Nat.mod_lt _ hs
  have e1:j / size * size + j % size = j:=by rw [Nat.mul_comm];exact Nat.div_add_mod j size
  have h3:=mC cells size hc l (j / size) (j % size) l[j / size] (List.getElem?_eq_getElem hk) hr
  rw [e1,hu] at h3
  have h4:=hq (j / size) l[j / size] (List.getElem?_eq_getElem hk) (j % size) u h3.symm
  rw [Nat.add_assoc,e1] at h4
  exact h4
theorem oc3:Tryz.prog.cellsOf 3 = 1:=by kernel_rfl
theorem AD:Tryz.prog.underlying 26 = some (.struct (Tryz.prog.fieldsOf 26)):=by kernel_rfl
theorem AA:(Tryz.prog.fieldsOf 26).toList.map (fun f=>(f.type,f.offset)) = [(3,0),(3,1),(3,2)]:=by kernel_rfl
theorem Ay:Tryz.prog.cellsOf 26 = 3:=by kernel_rfl
theorem AO:Tryz.prog.cellsOf 22 = 1:=by kernel_rfl
theorem AC:Tryz.prog.underlying 24 = some (.struct (Tryz.prog.fieldsOf 24)):=by kernel_rfl
theorem Az:(Tryz.prog.fieldsOf 24).toList.map (fun f=>(f.type,f.offset)) = [(3,0),(3,1),(3,2),(22,3)]:=by kernel_rfl
theorem AP:Tryz.prog.cellsOf 24 = 4:=by kernel_rfl
section
variable {H:Type} {enc:TypeId × Value → H} {w:World} {base:Nat} {sp:Nat → Bool} {held:Bool}
set_option maxRecDepth 100000 in
theorem lk {m:Nat} {cs:List Value} {x:DataW H × List MemPlace} (h:DataW.trod enc Tryz.prog w base sp held m 26 cs = some x):∃ z:PtV,cs = z.cells∧True:=by
  obtain ⟨n,fld⟩:=jt AD AA h
  have hl:cs.length = 3:=by
    obtain ⟨_,_,_,_,hl,_,_⟩:=DataW.trod_struct AD h
    rwa [Ay] at hl
  match cs,hl with
  | [x0,x1,x2],_=>
    obtain ⟨y0,h0⟩:=fld 0 3 0 rfl
    rw [oc3] at h0
    simp only [List.drop_zero,List.drop_succ_cons,List.take_succ_cons,List.take_zero] at h0
    obtain ⟨k0,e0,_,v0⟩:=DataW.trod_int Tryz.underlying3 h0
    simp only [List.cons.injEq,and_true] at e0
    subst e0
    obtain ⟨y1,h1⟩:=fld 1 3 1 rfl
    rw [oc3] at h1
    simp only [List.drop_zero,List.drop_succ_cons,List.take_succ_cons,List.take_zero] at h1
    obtain ⟨k1,e1,_,v1⟩:=DataW.trod_int Tryz.underlying3 h1
    simp only [List.cons.injEq,and_true] at e1
    subst e1
    obtain ⟨y2,h2⟩:=fld 2 3 2 rfl
    rw [oc3] at h2
    simp only [List.drop_zero,List.drop_succ_cons,List.take_succ_cons,List.take_zero] at h2
    obtain ⟨k2,e2,_,v2⟩:=DataW.trod_int Tryz.underlying3 h2
    simp only [List.cons.injEq,and_true] at e2
    subst e2
    exact ⟨⟨k0,k1,k2⟩,rfl,trivial⟩
def zt (w:World) (c:CoV) (p:SlP):Prop:=c.ports.length ≤ p.c∧p.c ≤ 9223372036854775807∧Reads w w.heap.size 3 p.A c.ports.length (ab PtV.cells c.ports)
set_option maxRecDepth 100000 in
theorem conf_open {m:Nat} {cs:List Value} {x:DataW H × List MemPlace} (h:DataW.trod enc Tryz.prog w base sp held m 24 cs = some x):∃ (v:CoV) (p:SlP),cs = [.int .i64 v.id,.int .i64 v.boot,.int .i64 v.room,.slice p.A v.ports.length p.c]∧zt w v p:=by
  obtain ⟨n,fld⟩:=jt AC Az h
  have hl:cs.length = 4:=by
    obtain ⟨_,_,_,_,hl,_,_⟩:=DataW.trod_struct AC h
    rwa [AP] at hl
  match cs,hl with
  | [x0,x1,x2,x3],_=>
    obtain ⟨y0,h0⟩:=fld 0 3 0 rfl
    rw [oc3] at h0
    simp only [List.drop_zero,List.drop_succ_cons,List.take_succ_cons,List.take_zero] at h0
    obtain ⟨k0,e0,_,v0⟩:=DataW.trod_int Tryz.underlying3 h0
    simp only [List.cons.injEq,and_true] at e0
    subst e0
    obtain ⟨y1,h1⟩:=fld 1 3 1 rfl
    rw [oc3] at h1
    simp only [List.drop_zero,List.drop_succ_cons,List.take_succ_cons,List.take_zero] at h1
    obtain ⟨k1,e1,_,v1⟩:=DataW.trod_int Tryz.underlying3 h1
    simp only [List.cons.injEq,and_true] at e1
    subst e1
    obtain ⟨y2,h2⟩:=fld 2 3 2 rfl
    rw [oc3] at h2
    simp only [List.drop_zero,List.drop_succ_cons,List.take_succ_cons,List.take_zero] at h2
    obtain ⟨k2,e2,_,v2⟩:=DataW.trod_int Tryz.underlying3 h2
    simp only [List.cons.injEq,and_true] at e2
    subst e2
    obtain ⟨y3,h3⟩:=fld 3 22 3 rfl
    rw [AO] at h3
    simp only [List.drop_zero,List.drop_succ_cons,List.take_succ_cons,List.take_zero] at h3
    obtain ⟨A3,n3,c3,rfl⟩:=rQ Tryz.underlying22 h3
    obtain ⟨l3,hr3,ok3⟩:=vW PtV.cells (fun _=>True) 22 26 3 Tryz.underlying22 Ay (by omega) PtV.cells_len' (fun _ _ _ _ h=>lk h) h3
    have hn3:=hr3.1
    subst hn3
    exact by
      obtain ⟨hl3,hc3,_⟩:=mb (fu:=8) (ks:=[some .i64,some .i64,some .i64]) Tryz.underlying22 (by kernel_rfl) (by simp) h3
      unfold maxLen at hc3
      exact ⟨⟨k0,k1,k2,l3⟩,⟨A3,c3⟩,rfl,hl3,by omega,hr3.reads PtV.cells_len' (by omega)⟩
end
def rulesArr:Array Value:=(([0,0,0,0,1,1,1,1,1,3,1,1,1,2,2,2,6,2,0,1,2,2,3,1,3,3,6,3,2,2,3,3,4,0,4,4,4,5,0,5,4,5,6,0,6,4,6,7,0,3,0,6,8,0,0]:List Int).map (Value.int .i64)).toArray
end
section
open Go.RowKit Go.ChangeShapes Go.WideShapes
theorem u8_wf1 {n:Int} (h:(Lit.int .u8 n).wf = true):0 ≤ n∧n ≤ 255:=by
  have hm:IntKind.u8.min = 0:=rfl
  have hM:IntKind.u8.max = 255:=rfl
  simpa [Lit.wf,hm,hM] using h
theorem alone_walk (c:CoV) (q:SlP) (ticks:Int) (htk:0 ≤ ticks∧ticks ≤ 255) (W:World) (h:zt W c q):
    Calls Tryz.prog 4 #[.agg #[i6 c.id,i6 c.boot,i6 c.room,.slice q.A c.ports.length q.c],.int .u8 ticks] W (fun r w'=>r = .returned (.bool true)∧Below W.heap.size W w'):=by
  obtain ⟨h1,h2,h3⟩:=h
  refine (uV (κ:=kap W) (L:=[]) (I:=[cA W W.heap.size]) c q ticks W htk (sv c ticks htk) ((S.start W).addRd h1 h2 h3)).mono ?_
  rintro r w' ⟨rfl,hS⟩
  exact ⟨rfl,hS.old (by simp)⟩
end
end Go.Proofs.YtehpdklphhmbgaaGreatDoor
