/-
  Part 5 of what lies behind the statement: the model of the program in words of its own, and its walks. No conditions of its own.
-/
import Derived.Test.YtehpdklphhmbgaaGreatDoorPl4
namespace Go.Proofs.YtehpdklphhmbgaaGreatDoor
open Go.RowKit
set_option linter.unusedVariables false
set_option linter.unusedSimpArgs false
section
set_option maxRecDepth 100000
set_option maxHeartbeats 8000000
def kv (lan:Int) (dst:Int) (p:PkV) (s:RoS):Option (RoS):=aJ (ny (⟨p.kind,s.id,p.every,p.dead,p.prio,p.dr,p.bdr,p.seen,p.init,p.more,p.master,p.seq,p.heads,p.wants,p.lsas,p.acks⟩:PkV)) fun q4=>if (q4.2:Int) = 0 then if s.out.length + 1 ≤ 100000 then some ({ s with out:=s.out ++ [(⟨lan,s.id,dst,q4.1⟩:FrV)] }) else none else some s
theorem gX {κ:Kap} {L I:List Atom} (P:RoP) (lan:Int) (dst:Int) (p:PkV) (pp:SlP × SlP × SlP × SlP × SlP) (s:RoS) (W:World) {r_:RoS} (ht:(kv lan dst p s) = some r_) (hS:S κ (roA P s::L) (aa (.slice pp.1.A p.seen.length pp.1.c) 3 1 p.seen.length (aw p.seen)::aa (.slice pp.2.1.A p.heads.length pp.2.1.c) 63 7 p.heads.length (ab aH p.heads)::aa (.slice pp.2.2.1.A p.wants.length pp.2.2.1.c) 111 3 p.wants.length (ab KeyV.cells p.wants)::crA lsFn 66 pp.2.2.2.1.A pp.2.2.2.1.c p.lsas::aa (.slice pp.2.2.2.2.A p.acks.length pp.2.2.2.2.c) 63 7 p.acks.length (ab aH p.acks)::I) W):
    Calls Tryz.prog 38 #[pt P.g 0,i6 lan,i6 dst,.agg #[i6 p.kind,i6 p.frm,i6 p.every,i6 p.dead,i6 p.prio,i6 p.dr,i6 p.bdr,.slice pp.1.A p.seen.length pp.1.c,.bool p.init,.bool p.more,.bool p.master,i6 p.seq,.slice pp.2.1.A p.heads.length pp.2.1.c,.slice pp.2.2.1.A p.wants.length pp.2.2.1.c,.slice pp.2.2.2.1.A p.lsas.length pp.2.2.2.1.c,.slice pp.2.2.2.2.A p.acks.length pp.2.2.2.2.c]] W (fun r w'=>r = .returned (.tuple #[])∧S κ (roA P r_::L) (aa (.slice pp.1.A p.seen.length pp.1.c) 3 1 p.seen.length (aw p.seen)::aa (.slice pp.2.1.A p.heads.length pp.2.1.c) 63 7 p.heads.length (ab aH p.heads)::aa (.slice pp.2.2.1.A p.wants.length pp.2.2.1.c) 111 3 p.wants.length (ab KeyV.cells p.wants)::crA lsFn 66 pp.2.2.2.1.A pp.2.2.2.1.c p.lsas::aa (.slice pp.2.2.2.2.A p.acks.length pp.2.2.2.2.c) 63 7 p.acks.length (ab aH p.acks)::I) w'):=by
 refine wK 39 Tryz.func38 (fun R_ hR_ a hk=>?_)
 refine sg [0] hk ?_
 refine eB hk hS (fun g2 w hS _=>?_)
 refine rE [0,1,2,7] hk fun a hk=>?_
 refine sg [5] hk ?_
 iterate 3 refine T ?_
 replace hS:=hS.fr 1
 obtain ⟨e3,hpl3,hS⟩:=ro_open hS
 refine LD 0 hk hS ?_
 refine T ?_
 refine eS 9 hk hS (fun w hS _=>?_)
 refine rE [0,1,2,7] hk fun a hk=>?_
 refine sg [1] hk ?_
 refine LDS 9 16 hk hS ?_
 obtain ⟨q4,hq4,ht⟩:=ao ht
 refine eC hk (h:=vI (⟨p.kind,s.id,p.every,p.dead,p.prio,p.dr,p.bdr,p.seen,p.init,p.more,p.master,p.seq,p.heads,p.wants,p.lsas,p.acks⟩:PkV) pp _ hq4 hS) (k:=?_)
 rintro _ w ⟨B04,d04,rfl,hS⟩
 refine ⟨_,rfl,?_⟩
 replace hS:=hS.nz 11
 iterate 5 refine T ?_
 refine rE [0,1,2,8,9] hk fun a hk=>?_
 refine sg [] hk ?_
 iterate 2 refine T ?_
 refine rE [0,1,2,8,21] hk fun a hk=>?_
 refine cD hk (fun hc21=>?_) (fun hc21=>?_)
 ·replace ht:=(if_pos hc21).symm.trans ht
  refine rgR [[],[],[1],[1,2],[1,2,3],[],[],[6],[6,7],[6,7,8],[],[],[5,6,7,8,9,10,11],[5,6,7,8,9,10,11,12],[1,2,3,4,5,6,7,8,9,10,11,12,13],[0,1,2,3,4,5,6,7,8,9,10,11,12,13,14],[0,1,2,3,4,5,6,7,8,9,10,11,12,13,14,15],[0,1,2,3,4,5,6,7,8,9,10,11,12,13,14,15,16]] [13,14,17] (.rd 0 (.rd 1 (.rd 2 (.rd 3 (.rd 4 (.rd 5 (.rd 6 (.rd 7 (.rd 8 (.rd 9 (.rd 10 (.rd 11 (.rd 12 (.ef 13 (.ag 0 (.ag 1 (.ag 2 (.ag 3 (.ag 4 (.ef 14 (.ag 0 (.rd 15 (.rd 16 (.ef 17 (.fin) .non)))) .non)))))) .non)))))))))))))) hk hS (fun w hS _=>?_)
  iterate 4 refine T ?_
  refine LD 1 hk hS ?_
  iterate 4 refine T ?_
  refine LD 1 hk hS ?_
  iterate 2 refine T ?_
  refine rD (.agg #[i6 lan,i6 s.id,i6 dst,.slice B04 q4.1.length d04]) (fun _ h_=>rk (af rfl (h_.prt hk) (by kernel_rfl))) ?_
  refine eF (fun a_ h_=>aZ (e:=58) (cells:=#[i6 lan,i6 s.id,i6 dst,.slice B04 q4.1.length d04]) hS (ae rfl) rfl (h_.prtL hk) fun g5 w hS _=>⟨_,rfl,?_⟩)
  iterate 4 refine TA ?_
  refine aG (fun _ h_=>rk (ld hS 2 rfl (h_.x hk))) ?_
  obtain ⟨hgd7,ht⟩:=gdE ht
  replace hS:=hS.pk [10,1] 0
  refine eF (fun a_ h_=>sA (bytes:=48) bW (⟨lan,s.id,dst,q4.1⟩:FrV) (⟨B04,d04⟩:SlP) hS (ae rfl) rfl (h_.x hk) (h_.x hk) (ay (hS.blk (i:=2) rfl) rfl) (by (try simp only [List.length_append,List.length_cons,List.length_nil,List.length_take,List.length_drop]);omega) fun A8 c8 w hS=>⟨_,rfl,?_⟩)
  replace hS:=hS.nz 11
  refine TA ?_
  iterate 2 refine T ?_
  refine eS 2 hk hS (fun w hS _=>?_)
  refine rE [] hk fun a hk=>?_
  replace hS:=hS.pk [2,2,2,2,2,2,2,2,0] 0
  replace hS:=ak (x:={ s with out:=s.out ++ [(⟨lan,s.id,dst,q4.1⟩:FrV)] }) (e:=⟨A8,c8⟩) hpl3 hS
  replace hS:=hS.pk [0] 2
  obtain rfl:=Option.some.inj ht
  exact rt0 hk (hR_ _ _ ⟨rfl,hS⟩)
 replace ht:=(if_neg hc21).symm.trans ht
 refine wp_skip ?_
 replace hS:=hS.pk [1,1,1,1,1,1,1,1,1] 0
 replace hS:=ak (x:=s) (e:=⟨e3.A,e3.c⟩) hpl3 hS
 replace hS:=hS.pk [0] 2
 obtain rfl:=Option.some.inj ht
 exact rt0 hk (hR_ _ _ ⟨rfl,hS⟩)
def nJ (s:RoS):Option ((List FrV) × RoS):=some (s.out,{ s with out:=[] })
theorem ls {κ:Kap} {L I:List Atom} (P:RoP) (s:RoS) (W:World) {r_:(List FrV) × RoS} (ht:(nJ s) = some r_) (hS:S κ (roA P s::L) (I) W):
    Calls Tryz.prog 18 #[pt P.g 0] W (fun r w'=>∃ B0 d0,r = .returned (.slice B0 r_.1.length d0)∧S κ (crA bW 58 B0 d0 r_.1::roA P r_.2::L) (I) w'):=by
 refine wK 14 Tryz.func18 (fun R_ hR_ a hk=>?_)
 refine sg [] hk ?_
 refine T ?_
 refine rE [0] hk fun a hk=>?_
 refine wp_seq ?_
 refine sg [] hk ?_
 refine T ?_
 refine rD (.bool false) (fun _ h_=>rk (aq rfl (h_.x hk) rfl (fun _=>by kernel_rfl) (fun _=>rfl))) ?_
 refine rE [0,5] hk fun a hk=>?_
 refine cF hk ?_
 refine wp_skip ?_
 refine sg [] hk ?_
 iterate 3 refine T ?_
 obtain ⟨e2,hpl2,hS⟩:=ro_open hS
 refine LD 0 hk hS ?_
 refine T ?_
 refine rE [0,3] hk fun a hk=>?_
 refine sg [3] hk ?_
 iterate 3 refine T ?_
 refine eS 0 hk hS (fun w hS _=>?_)
 refine rE [3] hk fun a hk=>?_
 refine sg [] hk ?_
 iterate 2 refine T ?_
 refine rE [2] hk fun a hk=>?_
 refine wp_ret ?_
 replace hS:=hS.crNil bW 58
 replace hS:=hS.nz 10
 replace hS:=hS.pk [1,1,1,1,1,1,1,1,0] 0
 replace hS:=ak (x:={ s with out:=[] }) (e:=⟨none,0⟩) hpl2 hS
 replace hS:=hS.pk [1,0] 0
 obtain rfl:=Option.some.inj ht
 exact rt1 hk (hR_ _ _ ⟨_,_,rfl,hS⟩)
def iI (pk:Int) (s:RoS):Option (RoS):=aJ (aL s.ports pk) fun x3=>bw (js x3.p) fun q7=>aJ (kv x3.pt.lan 0 (⟨1,0,2,8,x3.pt.prio,(aI x3.pt.lan x3.i.dr),(aI x3.pt.lan x3.i.bdr),q7,false,false,false,0,[],[],[],[]⟩:PkV) s) fun q10=>some q10
theorem rF {κ:Kap} {L I:List Atom} (P:RoP) (pg:Nat) (pk:Int) (s:RoS) (W:World) (hq_pg:aL P.pts pk = some pg) {r_:RoS} (ht:(iI pk s) = some r_) (hS:S κ (roA P s::L) (I) W):
    Calls Tryz.prog 112 #[pt P.g 0,pt pg 0] W (fun r w'=>r = .returned (.tuple #[])∧S κ (roA P r_::L) (I) w'):=by
 refine wK 47 Tryz.func112 (fun R_ hR_ a hk=>?_)
 refine wp_seq ?_
 refine rgR [[],[0],[0,1],[0,1,2],[0,1,2,3],[],[5],[5,6],[5,6,7],[5,6,7,8],[],[10],[10,11],[10,11,12],[10,11,12,13],[5,6,7,8,9,10,11,12,13,14],[],[16],[16,17],[16,17,18],[16,17,18,19],[],[21],[21,22],[21,22,23],[21,22,23,24],[5,6,7,8,9,10,11,12,13,14,15,16,17,18,19,20,21,22,23,24,25],[],[27],[27,28],[27,28,29],[5,6,7,8,9,10,11,12,13,14,15,16,17,18,19,20,21,22,23,24,25,26,27,28,29,30],[0,1,2,3,4,5,6,7,8,9,10,11,12,13,14,15,16,17,18,19,20,21,22,23,24,25,26,27,28,29,30,31],[],[0,1,2,3,4,5,6,7,8,9,10,11,12,13,14,15,16,17,18,19,20,21,22,23,24,25,26,27,28,29,30,31,32,33]] [15,26,31,33,34] (.rd 0 (.rd 1 (.rd 2 (.rd 3 (.rd 4 (.rd 5 (.rd 6 (.rd 7 (.rd 8 (.rd 9 (.rd 10 (.rd 11 (.rd 12 (.rd 13 (.rd 14 (.rd 16 (.rd 17 (.rd 18 (.rd 19 (.rd 20 (.rd 21 (.rd 22 (.rd 23 (.rd 24 (.rd 25 (.rd 27 (.rd 28 (.rd 29 (.rd 30 (.ef 15 (.ag 0 (.ag 1 (.ag 2 (.ag 3 (.ag 4 (.ag 16 (.ag 17 (.ag 18 (.ag 19 (.ag 20 (.ag 21 (.ag 22 (.ag 23 (.ag 24 (.ag 25 (.ag 27 (.ag 28 (.ag 29 (.ag 30 (.ef 26 (.ag 0 (.ag 1 (.ag 2 (.ag 3 (.ag 4 (.ag 27 (.ag 28 (.ag 29 (.ag 30 (.ef 31 (.ag 0 (.ag 1 (.ag 2 (.ag 3 (.ag 4 (.rd 32 (.ef 33 (.ag 0 (.ag 1 (.ag 2 (.ag 3 (.ag 4 (.ag 32 (.ef 34 (.fin) .non))))))) .non))))))) (.ef 33 (.ag 0 (.ag 1 (.ag 2 (.ag 3 (.ag 4 (.ag 27 (.ag 28 (.ag 29 (.ag 30 (.ef 31 (.ag 0 (.ag 1 (.ag 2 (.ag 3 (.ag 4 (.rd 32 (.ef 34 (.fin) .non))))))) .non)))))))))) .non))))))))))) (.ef 33 (.ag 0 (.ag 1 (.ag 2 (.ag 3 (.ag 4 (.ag 16 (.ag 17 (.ag 18 (.ag 19 (.ag 20 (.ag 21 (.ag 22 (.ag 23 (.ag 24 (.ag 25 (.ag 27 (.ag 28 (.ag 29 (.ag 30 (.ef 26 (.ag 0 (.ag 1 (.ag 2 (.ag 3 (.ag 4 (.ag 27 (.ag 28 (.ag 29 (.ag 30 (.ef 31 (.ag 0 (.ag 1 (.ag 2 (.ag 3 (.ag 4 (.rd 32 (.ef 34 (.fin) .non))))))) .non)))))))))) .non)))))))))))))))))))) .non))))))))))))))))))))) (.ef 33 (.ag 0 (.ag 1 (.ag 2 (.ag 3 (.ag 4 (.ag 5 (.ag 6 (.ag 7 (.ag 8 (.ag 9 (.ag 10 (.ag 11 (.ag 12 (.ag 13 (.ag 14 (.ag 16 (.ag 17 (.ag 18 (.ag 19 (.ag 20 (.ag 21 (.ag 22 (.ag 23 (.ag 24 (.ag 25 (.ag 27 (.ag 28 (.ag 29 (.ag 30 (.ef 15 (.ag 0 (.ag 1 (.ag 2 (.ag 3 (.ag 4 (.ag 16 (.ag 17 (.ag 18 (.ag 19 (.ag 20 (.ag 21 (.ag 22 (.ag 23 (.ag 24 (.ag 25 (.ag 27 (.ag 28 (.ag 29 (.ag 30 (.ef 26 (.ag 0 (.ag 1 (.ag 2 (.ag 3 (.ag 4 (.ag 27 (.ag 28 (.ag 29 (.ag 30 (.ef 31 (.ag 0 (.ag 1 (.ag 2 (.ag 3 (.ag 4 (.rd 32 (.ef 34 (.fin) .non))))))) .non)))))))))) .non)))))))))))))))))))) .non)))))))))))))))))))))))))))))) .non))))))))))))))))))))))))))))))) hk hS (fun w hS _=>?_)
 iterate 4 refine T ?_
 obtain ⟨e2,hpl2,hS⟩:=ro_open hS
 obtain ⟨x3,hs3,ht⟩:=ao ht
 replace hS:=hS.fr 1
 replace hS:=py hq_pg hs3 (by rw [du];first | assumption | (simpa using hpl2)) hS
 obtain ⟨e4,hS⟩:=dK hS
 refine LD 0 hk hS ?_
 iterate 4 refine T ?_
 refine LD 0 hk hS ?_
 iterate 4 refine T ?_
 refine LD 0 hk hS ?_
 iterate 4 refine T ?_
 refine LD 0 hk hS ?_
 iterate 4 refine T ?_
 refine LD 0 hk hS ?_
 iterate 3 refine T ?_
 refine LD 0 hk hS ?_
 refine efk ?_ ?_
 ·refine eC hk (h:=fL x3.pt.lan x3.i.dr _ hS) (k:=?_)
  rintro _ w ⟨rfl,hS⟩
  refine ⟨_,rfl,?_⟩
  replace hS:=hS.nz 11
  iterate 4 refine TA ?_
  refine aG (fun _ h_=>rk (ld hS 0 rfl (h_.x hk))) ?_
  iterate 4 refine TA ?_
  refine aG (fun _ h_=>rk (ld hS 0 rfl (h_.x hk))) ?_
  iterate 4 refine TA ?_
  refine aG (fun _ h_=>rk (ld hS 0 rfl (h_.x hk))) ?_
  iterate 3 refine TA ?_
  refine aG (fun _ h_=>rk (ld hS 0 rfl (h_.x hk))) ?_
  refine efk ?_ ?_
  ·refine eC hk (h:=fL x3.pt.lan x3.i.bdr _ hS) (k:=?_)
   rintro _ w ⟨rfl,hS⟩
   refine ⟨_,rfl,?_⟩
   replace hS:=hS.nz 11
   iterate 4 refine TA ?_
   refine aG (fun _ h_=>rk (ld hS 0 rfl (h_.x hk))) ?_
   iterate 3 refine TA ?_
   refine aG (fun _ h_=>rk (ld hS 0 rfl (h_.x hk))) ?_
   refine efk ?_ ?_
   ·replace hS:=hS.pk [1] 0
    refine eC hk (h:=gR e4 x3.p _ hS) (k:=?_)
    rintro _ w ⟨B07,d07,rfl,hS⟩
    refine ⟨_,rfl,?_⟩
    generalize hq7:js x3.p = q7 at hS ⊢
    replace ht:=(am hq7).symm.trans ht
    replace hS:=hS.nz 12
    iterate 4 refine TA ?_
    refine aG (fun _ h_=>rk (ld hS 2 rfl (h_.x hk))) ?_
    refine rD (.agg #[i6 2,i6 8,i6 x3.pt.prio,i6 (aI x3.pt.lan x3.i.dr),i6 (aI x3.pt.lan x3.i.bdr),.slice B07 q7.length d07]) (fun _ h_=>rk (af rfl (h_.prt hk) (by kernel_rfl))) ?_
    refine eA #[i6 0,i6 0,i6 0,i6 0,i6 0,.slice none 0 0] hS (fun g8 w hS _=>?_)
    iterate 4 refine TA ?_
    refine aG (fun _ h_=>rk (ld hS 3 rfl (h_.x hk))) ?_
    refine aG (fun _ h_=>rk (af rfl (h_.prt hk) (by kernel_rfl))) ?_
    refine eS 0 hk hS (fun w hS _=>?_)
    refine rE [0,1,4] hk fun a hk=>?_
    refine rgR [[],[],[1],[1,2],[1,2,3],[1,2,3,4],[],[6],[0,1,2,3,4,5,6,7]] [8] (.rd 0 (.rd 1 (.rd 2 (.rd 3 (.rd 4 (.rd 5 (.rd 6 (.rd 7 (.ef 8 (.fin) .non))))))))) hk hS (fun w hS _=>?_)
    iterate 5 refine T ?_
    refine LD 3 hk hS ?_
    refine LDS 0 6 hk hS ?_
    refine rD (.agg #[i6 1,i6 0,i6 2,i6 8,i6 x3.pt.prio,i6 (aI x3.pt.lan x3.i.dr),i6 (aI x3.pt.lan x3.i.bdr),.slice B07 q7.length d07,.bool false,.bool false,.bool false,i6 0,.slice none 0 0,.slice none 0 0,.slice none 0 0,.slice none 0 0]) (fun _ h_=>rk (af rfl (h_.prt hk) (by kernel_rfl))) ?_
    have hS:=hS.nilrow 63 7
    replace hS:=hS.nz 14
    have hS:=hS.nilrow 111 3
    replace hS:=hS.nz 15
    replace hS:=hS.crNil lsFn 66
    replace hS:=hS.nz 16
    replace hS:=hS.pk [6,5] 0
    replace hS:=aS (x:=x3) (e:=e4) hS
    replace hS:=hS.pk [0,5] 0
    replace hS:=bo hq_pg hs3 hS
    replace hS:=hS.pk [6,0,5,5,5,5,5,5,5] 0
    replace hS:=ak (x:=s) (e:=⟨e2.A,e2.c⟩) hpl2 hS
    replace hS:=hS.pk [5,3,2,1] 0
    obtain ⟨J9,hS,hJ9⟩:=S.lend (M:=[_,_,_,_]) hS
    replace hS:=hS.dupI 1
    replace hS:=hS.dupI 4
    replace hS:=hS.dupI 4
    replace hS:=hS.dupI 2
    replace hS:=hS.dupI 4
    obtain ⟨q10,hq10,ht⟩:=ao ht
    refine eC hk (h:=gX P x3.pt.lan 0 (⟨1,0,2,8,x3.pt.prio,(aI x3.pt.lan x3.i.dr),(aI x3.pt.lan x3.i.bdr),q7,false,false,false,0,[],[],[],[]⟩:PkV) (⟨⟨B07,d07⟩,⟨none,0⟩,⟨none,0⟩,⟨none,0⟩,⟨none,0⟩⟩:SlP × SlP × SlP × SlP × SlP) s _ hq10 hS) (k:=?_)
    rintro _ w ⟨rfl,hS⟩
    refine ⟨_,rfl,?_⟩
    replace hS:=hS.dropI.dropI.dropI.dropI.dropI
    replace hS:=hJ9 _ _ hS
    replace hS:=hS.nz 6
    refine rE [] hk fun a hk=>?_
    replace hS:=hS.pk [4] 5
    obtain rfl:=Option.some.inj ht
    exact rt0 hk (hR_ _ _ ⟨rfl,hS⟩)
   refine eA #[i6 0,i6 0,i6 0,i6 0,i6 0,.slice none 0 0] hS (fun g11 w hS _=>?_)
   iterate 4 refine TA ?_
   refine aG (fun _ h_=>rk (ld hS 1 rfl (h_.x hk))) ?_
   iterate 3 refine TA ?_
   refine aG (fun _ h_=>rk (ld hS 1 rfl (h_.x hk))) ?_
   replace hS:=hS.pk [2] 0
   refine eC hk (h:=gR e4 x3.p _ hS) (k:=?_)
   rintro _ w ⟨B012,d012,rfl,hS⟩
   refine ⟨_,rfl,?_⟩
   generalize hq12:js x3.p = q12 at hS ⊢
   replace ht:=(am hq12).symm.trans ht
   replace hS:=hS.nz 13
   iterate 4 refine TA ?_
   refine aG (fun _ h_=>rk (ld hS 3 rfl (h_.x hk))) ?_
   refine rD (.agg #[i6 2,i6 8,i6 x3.pt.prio,i6 (aI x3.pt.lan x3.i.dr),i6 (aI x3.pt.lan x3.i.bdr),.slice B012 q12.length d012]) (fun _ h_=>rk (af rfl (h_.prt hk) (by kernel_rfl))) ?_
   refine eS 2 hk hS (fun w hS _=>?_)
   refine rE [0,1,4] hk fun a hk=>?_
   refine rgR [[],[],[1],[1,2],[1,2,3],[1,2,3,4],[],[6],[0,1,2,3,4,5,6,7]] [8] (.rd 0 (.rd 1 (.rd 2 (.rd 3 (.rd 4 (.rd 5 (.rd 6 (.rd 7 (.ef 8 (.fin) .non))))))))) hk hS (fun w hS _=>?_)
   iterate 5 refine T ?_
   refine LD 3 hk hS ?_
   refine LDS 2 6 hk hS ?_
   refine rD (.agg #[i6 1,i6 0,i6 2,i6 8,i6 x3.pt.prio,i6 (aI x3.pt.lan x3.i.dr),i6 (aI x3.pt.lan x3.i.bdr),.slice B012 q12.length d012,.bool false,.bool false,.bool false,i6 0,.slice none 0 0,.slice none 0 0,.slice none 0 0,.slice none 0 0]) (fun _ h_=>rk (af rfl (h_.prt hk) (by kernel_rfl))) ?_
   have hS:=hS.nilrow 63 7
   replace hS:=hS.nz 14
   have hS:=hS.nilrow 111 3
   replace hS:=hS.nz 15
   replace hS:=hS.crNil lsFn 66
   replace hS:=hS.nz 16
   replace hS:=hS.pk [6,4] 0
   replace hS:=aS (x:=x3) (e:=e4) hS
   replace hS:=hS.pk [0,5] 0
   replace hS:=bo hq_pg hs3 hS
   replace hS:=hS.pk [6,0,5,5,5,5,5,5,5] 0
   replace hS:=ak (x:=s) (e:=⟨e2.A,e2.c⟩) hpl2 hS
   replace hS:=hS.pk [4,3,2,1] 0
   obtain ⟨J13,hS,hJ13⟩:=S.lend (M:=[_,_,_,_]) hS
   replace hS:=hS.dupI 1
   replace hS:=hS.dupI 4
   replace hS:=hS.dupI 4
   replace hS:=hS.dupI 2
   replace hS:=hS.dupI 4
   obtain ⟨q14,hq14,ht⟩:=ao ht
   refine eC hk (h:=gX P x3.pt.lan 0 (⟨1,0,2,8,x3.pt.prio,(aI x3.pt.lan x3.i.dr),(aI x3.pt.lan x3.i.bdr),q12,false,false,false,0,[],[],[],[]⟩:PkV) (⟨⟨B012,d012⟩,⟨none,0⟩,⟨none,0⟩,⟨none,0⟩,⟨none,0⟩⟩:SlP × SlP × SlP × SlP × SlP) s _ hq14 hS) (k:=?_)
   rintro _ w ⟨rfl,hS⟩
   refine ⟨_,rfl,?_⟩
   replace hS:=hS.dropI.dropI.dropI.dropI.dropI
   replace hS:=hJ13 _ _ hS
   replace hS:=hS.nz 6
   refine rE [] hk fun a hk=>?_
   replace hS:=hS.pk [4] 5
   obtain rfl:=Option.some.inj ht
   exact rt0 hk (hR_ _ _ ⟨rfl,hS⟩)
  refine eA #[i6 0,i6 0,i6 0,i6 0,i6 0,.slice none 0 0] hS (fun g15 w hS _=>?_)
  iterate 4 refine TA ?_
  refine aG (fun _ h_=>rk (ld hS 1 rfl (h_.x hk))) ?_
  iterate 4 refine TA ?_
  refine aG (fun _ h_=>rk (ld hS 1 rfl (h_.x hk))) ?_
  iterate 4 refine TA ?_
  refine aG (fun _ h_=>rk (ld hS 1 rfl (h_.x hk))) ?_
  iterate 3 refine TA ?_
  refine aG (fun _ h_=>rk (ld hS 1 rfl (h_.x hk))) ?_
  refine eC hk (h:=fL x3.pt.lan x3.i.bdr _ hS) (k:=?_)
  rintro _ w ⟨rfl,hS⟩
  refine ⟨_,rfl,?_⟩
  replace hS:=hS.nz 12
  iterate 4 refine TA ?_
  refine aG (fun _ h_=>rk (ld hS 1 rfl (h_.x hk))) ?_
  iterate 3 refine TA ?_
  refine aG (fun _ h_=>rk (ld hS 1 rfl (h_.x hk))) ?_
  replace hS:=hS.pk [2] 0
  refine eC hk (h:=gR e4 x3.p _ hS) (k:=?_)
  rintro _ w ⟨B017,d017,rfl,hS⟩
  refine ⟨_,rfl,?_⟩
  generalize hq17:js x3.p = q17 at hS ⊢
  replace ht:=(am hq17).symm.trans ht
  replace hS:=hS.nz 13
  iterate 4 refine TA ?_
  refine aG (fun _ h_=>rk (ld hS 3 rfl (h_.x hk))) ?_
  refine rD (.agg #[i6 2,i6 8,i6 x3.pt.prio,i6 (aI x3.pt.lan x3.i.dr),i6 (aI x3.pt.lan x3.i.bdr),.slice B017 q17.length d017]) (fun _ h_=>rk (af rfl (h_.prt hk) (by kernel_rfl))) ?_
  refine eS 2 hk hS (fun w hS _=>?_)
  refine rE [0,1,4] hk fun a hk=>?_
  refine rgR [[],[],[1],[1,2],[1,2,3],[1,2,3,4],[],[6],[0,1,2,3,4,5,6,7]] [8] (.rd 0 (.rd 1 (.rd 2 (.rd 3 (.rd 4 (.rd 5 (.rd 6 (.rd 7 (.ef 8 (.fin) .non))))))))) hk hS (fun w hS _=>?_)
  iterate 5 refine T ?_
  refine LD 3 hk hS ?_
  refine LDS 2 6 hk hS ?_
  refine rD (.agg #[i6 1,i6 0,i6 2,i6 8,i6 x3.pt.prio,i6 (aI x3.pt.lan x3.i.dr),i6 (aI x3.pt.lan x3.i.bdr),.slice B017 q17.length d017,.bool false,.bool false,.bool false,i6 0,.slice none 0 0,.slice none 0 0,.slice none 0 0,.slice none 0 0]) (fun _ h_=>rk (af rfl (h_.prt hk) (by kernel_rfl))) ?_
  have hS:=hS.nilrow 63 7
  replace hS:=hS.nz 14
  have hS:=hS.nilrow 111 3
  replace hS:=hS.nz 15
  replace hS:=hS.crNil lsFn 66
  replace hS:=hS.nz 16
  replace hS:=hS.pk [6,4] 0
  replace hS:=aS (x:=x3) (e:=e4) hS
  replace hS:=hS.pk [0,5] 0
  replace hS:=bo hq_pg hs3 hS
  replace hS:=hS.pk [6,0,5,5,5,5,5,5,5] 0
  replace hS:=ak (x:=s) (e:=⟨e2.A,e2.c⟩) hpl2 hS
  replace hS:=hS.pk [4,3,2,1] 0
  obtain ⟨J18,hS,hJ18⟩:=S.lend (M:=[_,_,_,_]) hS
  replace hS:=hS.dupI 1
  replace hS:=hS.dupI 4
  replace hS:=hS.dupI 4
  replace hS:=hS.dupI 2
  replace hS:=hS.dupI 4
  obtain ⟨q19,hq19,ht⟩:=ao ht
  refine eC hk (h:=gX P x3.pt.lan 0 (⟨1,0,2,8,x3.pt.prio,(aI x3.pt.lan x3.i.dr),(aI x3.pt.lan x3.i.bdr),q17,false,false,false,0,[],[],[],[]⟩:PkV) (⟨⟨B017,d017⟩,⟨none,0⟩,⟨none,0⟩,⟨none,0⟩,⟨none,0⟩⟩:SlP × SlP × SlP × SlP × SlP) s _ hq19 hS) (k:=?_)
  rintro _ w ⟨rfl,hS⟩
  refine ⟨_,rfl,?_⟩
  replace hS:=hS.dropI.dropI.dropI.dropI.dropI
  replace hS:=hJ18 _ _ hS
  replace hS:=hS.nz 6
  refine rE [] hk fun a hk=>?_
  replace hS:=hS.pk [4] 5
  obtain rfl:=Option.some.inj ht
  exact rt0 hk (hR_ _ _ ⟨rfl,hS⟩)
 refine eA #[i6 0,i6 0,i6 0,i6 0,i6 0,.slice none 0 0] hS (fun g20 w hS _=>?_)
 iterate 4 refine TA ?_
 refine aG (fun _ h_=>rk (ld hS 1 rfl (h_.x hk))) ?_
 iterate 4 refine TA ?_
 refine aG (fun _ h_=>rk (ld hS 1 rfl (h_.x hk))) ?_
 iterate 4 refine TA ?_
 refine aG (fun _ h_=>rk (ld hS 1 rfl (h_.x hk))) ?_
 iterate 4 refine TA ?_
 refine aG (fun _ h_=>rk (ld hS 1 rfl (h_.x hk))) ?_
 iterate 4 refine TA ?_
 refine aG (fun _ h_=>rk (ld hS 1 rfl (h_.x hk))) ?_
 iterate 3 refine TA ?_
 refine aG (fun _ h_=>rk (ld hS 1 rfl (h_.x hk))) ?_
 refine eC hk (h:=fL x3.pt.lan x3.i.dr _ hS) (k:=?_)
 rintro _ w ⟨rfl,hS⟩
 refine ⟨_,rfl,?_⟩
 replace hS:=hS.nz 12
 iterate 4 refine TA ?_
 refine aG (fun _ h_=>rk (ld hS 1 rfl (h_.x hk))) ?_
 iterate 4 refine TA ?_
 refine aG (fun _ h_=>rk (ld hS 1 rfl (h_.x hk))) ?_
 iterate 4 refine TA ?_
 refine aG (fun _ h_=>rk (ld hS 1 rfl (h_.x hk))) ?_
 iterate 3 refine TA ?_
 refine aG (fun _ h_=>rk (ld hS 1 rfl (h_.x hk))) ?_
 refine eC hk (h:=fL x3.pt.lan x3.i.bdr _ hS) (k:=?_)
 rintro _ w ⟨rfl,hS⟩
 refine ⟨_,rfl,?_⟩
 replace hS:=hS.nz 12
 iterate 4 refine TA ?_
 refine aG (fun _ h_=>rk (ld hS 1 rfl (h_.x hk))) ?_
 iterate 3 refine TA ?_
 refine aG (fun _ h_=>rk (ld hS 1 rfl (h_.x hk))) ?_
 replace hS:=hS.pk [2] 0
 refine eC hk (h:=gR e4 x3.p _ hS) (k:=?_)
 rintro _ w ⟨B023,d023,rfl,hS⟩
 refine ⟨_,rfl,?_⟩
 generalize hq23:js x3.p = q23 at hS ⊢
 replace ht:=(am hq23).symm.trans ht
 replace hS:=hS.nz 13
 iterate 4 refine TA ?_
 refine aG (fun _ h_=>rk (ld hS 3 rfl (h_.x hk))) ?_
 refine rD (.agg #[i6 2,i6 8,i6 x3.pt.prio,i6 (aI x3.pt.lan x3.i.dr),i6 (aI x3.pt.lan x3.i.bdr),.slice B023 q23.length d023]) (fun _ h_=>rk (af rfl (h_.prt hk) (by kernel_rfl))) ?_
 refine eS 2 hk hS (fun w hS _=>?_)
 refine rE [0,1,4] hk fun a hk=>?_
 refine rgR [[],[],[1],[1,2],[1,2,3],[1,2,3,4],[],[6],[0,1,2,3,4,5,6,7]] [8] (.rd 0 (.rd 1 (.rd 2 (.rd 3 (.rd 4 (.rd 5 (.rd 6 (.rd 7 (.ef 8 (.fin) .non))))))))) hk hS (fun w hS _=>?_)
 iterate 5 refine T ?_
 refine LD 3 hk hS ?_
 refine LDS 2 6 hk hS ?_
 refine rD (.agg #[i6 1,i6 0,i6 2,i6 8,i6 x3.pt.prio,i6 (aI x3.pt.lan x3.i.dr),i6 (aI x3.pt.lan x3.i.bdr),.slice B023 q23.length d023,.bool false,.bool false,.bool false,i6 0,.slice none 0 0,.slice none 0 0,.slice none 0 0,.slice none 0 0]) (fun _ h_=>rk (af rfl (h_.prt hk) (by kernel_rfl))) ?_
 have hS:=hS.nilrow 63 7
 replace hS:=hS.nz 14
 have hS:=hS.nilrow 111 3
 replace hS:=hS.nz 15
 replace hS:=hS.crNil lsFn 66
 replace hS:=hS.nz 16
 replace hS:=hS.pk [6,4] 0
 replace hS:=aS (x:=x3) (e:=e4) hS
 replace hS:=hS.pk [0,5] 0
 replace hS:=bo hq_pg hs3 hS
 replace hS:=hS.pk [6,0,5,5,5,5,5,5,5] 0
 replace hS:=ak (x:=s) (e:=⟨e2.A,e2.c⟩) hpl2 hS
 replace hS:=hS.pk [4,3,2,1] 0
 obtain ⟨J24,hS,hJ24⟩:=S.lend (M:=[_,_,_,_]) hS
 replace hS:=hS.dupI 1
 replace hS:=hS.dupI 4
 replace hS:=hS.dupI 4
 replace hS:=hS.dupI 2
 replace hS:=hS.dupI 4
 obtain ⟨q25,hq25,ht⟩:=ao ht
 refine eC hk (h:=gX P x3.pt.lan 0 (⟨1,0,2,8,x3.pt.prio,(aI x3.pt.lan x3.i.dr),(aI x3.pt.lan x3.i.bdr),q23,false,false,false,0,[],[],[],[]⟩:PkV) (⟨⟨B023,d023⟩,⟨none,0⟩,⟨none,0⟩,⟨none,0⟩,⟨none,0⟩⟩:SlP × SlP × SlP × SlP × SlP) s _ hq25 hS) (k:=?_)
 rintro _ w ⟨rfl,hS⟩
 refine ⟨_,rfl,?_⟩
 replace hS:=hS.dropI.dropI.dropI.dropI.dropI
 replace hS:=hJ24 _ _ hS
 replace hS:=hS.nz 6
 refine rE [] hk fun a hk=>?_
 replace hS:=hS.pk [4] 5
 obtain rfl:=Option.some.inj ht
 exact rt0 hk (hR_ _ _ ⟨rfl,hS⟩)
def oZ:List PeV → Option (Unit)
  | []=>some ()
  | z8::xs8=>none
def tA:List PeV → Option (Unit)
  | []=>some ()
  | z11::xs11=>none
def kw (pk:Int) (s:RoS):Option (VwV):=aJ (aL s.ports pk) fun x4=>bw (fW x4.p) fun q6=>aJ (oZ q6) fun r8=>some (⟨x4.pt.lan,x4.pt.cost,x4.i,q6,[]⟩:VwV)
theorem nM {κ:Kap} {L I:List Atom} (P:RoP) (pg:Nat) (pk:Int) (s:RoS) (W:World) (hq_pg:aL P.pts pk = some pg) {r_:VwV} (ht:(kw pk s) = some r_) (hS:S κ (roA P s::L) (I) W):
    Calls Tryz.prog 36 #[pt P.g 0,pt pg 0] W (fun r w'=>∃ e0:SlP × SlP,r = .returned (.agg #[i6 r_.lan,i6 r_.cost,i6 r_.i.self,i6 r_.i.prio,i6 r_.i.state,i6 r_.i.dr,i6 r_.i.bdr,.slice e0.1.A r_.peers.length e0.1.c,.slice e0.2.A r_.wants.length e0.2.c])∧S κ (aa (.slice e0.1.A r_.peers.length e0.1.c) 90 7 r_.peers.length (ab PeV.cells r_.peers)::aa (.slice e0.2.A r_.wants.length e0.2.c) 186 8 r_.wants.length (ab WtV.cells r_.wants)::roA P s::L) (I) w'):=by
 refine wK 75 Tryz.func36 (fun R_ hR_ a hk=>?_)
 refine sg [0] hk ?_
 refine eA #[i6 0,i6 0,i6 0,i6 0,i6 0,i6 0,i6 0,.slice none 0 0,.slice none 0 0] hS (fun g2 w hS _=>?_)
 refine rE [0,1,4] hk fun a hk=>?_
 refine wp_seq ?_
 refine rgR [[],[0],[0,1],[0,1,2],[0,1,2,3],[],[5],[5,6],[5,6,7],[5,6,7,8],[],[10],[10,11],[10,11,12],[],[14],[14,15],[14,15,16],[14,15,16,17],[0,1,2,3,4,5,6,7,8,9,10,11,12,13,14,15,16,17,18],[],[0,1,2,3,4,5,6,7,8,9,10,11,12,13,14,15,16,17,18,19,20]] [18,20,21] (.rd 0 (.rd 1 (.rd 2 (.rd 3 (.rd 4 (.rd 5 (.rd 6 (.rd 7 (.rd 8 (.rd 9 (.rd 10 (.rd 11 (.rd 12 (.rd 13 (.rd 14 (.rd 15 (.rd 16 (.rd 17 (.ef 18 (.ag 0 (.ag 1 (.ag 2 (.ag 3 (.ag 4 (.ag 5 (.ag 6 (.ag 7 (.ag 8 (.ag 9 (.ag 10 (.ag 11 (.ag 12 (.ag 13 (.rd 19 (.ef 20 (.ag 0 (.ag 1 (.ag 2 (.ag 3 (.ag 4 (.ag 5 (.ag 6 (.ag 7 (.ag 8 (.ag 9 (.ag 10 (.ag 11 (.ag 12 (.ag 13 (.ag 19 (.ef 21 (.fin) .non)))))))))))))))) .non)))))))))))))))) (.ef 20 (.ag 0 (.ag 1 (.ag 2 (.ag 3 (.ag 4 (.ag 5 (.ag 6 (.ag 7 (.ag 8 (.ag 9 (.ag 10 (.ag 11 (.ag 12 (.ag 13 (.ag 14 (.ag 15 (.ag 16 (.ag 17 (.ef 18 (.ag 0 (.ag 1 (.ag 2 (.ag 3 (.ag 4 (.ag 5 (.ag 6 (.ag 7 (.ag 8 (.ag 9 (.ag 10 (.ag 11 (.ag 12 (.ag 13 (.rd 19 (.ef 21 (.fin) .non)))))))))))))))) .non))))))))))))))))))) .non)))))))))))))))))))) hk hS (fun w hS _=>?_)
 iterate 4 refine T ?_
 replace hS:=hS.fr 1
 obtain ⟨e3,hpl3,hS⟩:=ro_open hS
 obtain ⟨x4,hs4,ht⟩:=ao ht
 replace hS:=hS.fr 1
 replace hS:=py hq_pg hs4 (by rw [du];first | assumption | (simpa using hpl3)) hS
 obtain ⟨e5,hS⟩:=dK hS
 refine LD 0 hk hS ?_
 iterate 4 refine T ?_
 refine LD 0 hk hS ?_
 iterate 3 refine T ?_
 refine LDS 0 5 hk hS ?_
 iterate 3 refine T ?_
 refine LD 0 hk hS ?_
 refine efk ?_ ?_
 ·replace hS:=hS.pk [1] 0
  refine eC hk (h:=cu e5 x4.p _ hS) (k:=?_)
  rintro _ w ⟨B06,d06,rfl,hS⟩
  refine ⟨_,rfl,?_⟩
  generalize hq6:fW x4.p = q6 at hS ⊢
  replace ht:=(am hq6).symm.trans ht
  replace hS:=hS.nz 13
  iterate 4 refine TA ?_
  refine aG (fun _ h_=>rk (ld hS 2 rfl (h_.x hk))) ?_
  iterate 4 refine TA ?_
  refine aG (fun _ h_=>rk (ld hS 2 rfl (h_.x hk))) ?_
  iterate 3 refine TA ?_
  refine aG (fun _ h_=>rk (lbS 5 (hS.blk (i:=2) rfl) rfl (h_.x hk))) ?_
  refine rD (.agg #[i6 x4.pt.lan,i6 x4.pt.cost,i6 x4.i.self,i6 x4.i.prio,i6 x4.i.state,i6 x4.i.dr,i6 x4.i.bdr,.slice B06 q6.length d06,.slice none 0 0]) (fun _ h_=>rk (af rfl (h_.prt hk) (by kernel_rfl))) ?_
  refine eA #[i6 0,i6 0,i6 0,i6 0,i6 0,i6 0,i6 0,.slice none 0 0,.slice none 0 0] hS (fun g7 w hS _=>?_)
  iterate 4 refine TA ?_
  refine aG (fun _ h_=>rk (ld hS 3 rfl (h_.x hk))) ?_
  iterate 4 refine TA ?_
  refine aG (fun _ h_=>rk (ld hS 3 rfl (h_.x hk))) ?_
  iterate 3 refine TA ?_
  refine aG (fun _ h_=>rk (lbS 5 (hS.blk (i:=3) rfl) rfl (h_.x hk))) ?_
  refine aG (fun _ h_=>rk (af rfl (h_.prt hk) (by kernel_rfl))) ?_
  refine eS 0 hk hS (fun w hS _=>?_)
  refine rE [0,1,4,5] hk fun a hk=>?_
  refine wp_seq ?_
  refine sg [] hk ?_
  refine T ?_
  refine LD 0 hk hS ?_
  iterate 2 refine T ?_
  refine rE [0,1,4,5,32,33,34] hk fun a hk=>?_
  replace hS:=hS.pk [3,2] 0
  replace hS:=aS (x:=x4) (e:=e5) hS
  replace hS:=hS.pk [0,2] 0
  replace hS:=bo hq_pg hs4 hS
  replace hS:=hS.pk [3,0,2,2,2,2,2,2,2] 0
  replace hS:=ak (x:=s) (e:=⟨e3.A,e3.c⟩) hpl3 hS
  obtain ⟨r8,hr8,ht⟩:=ao ht
  refine aB (fun a_ w_=>Fr a_ 75 [(4,pt g2 0),(5,pt g7 0)]∧S κ (roA P s::ai g7 39 #[i6 x4.pt.lan,i6 x4.pt.cost,i6 x4.i.self,i6 x4.i.prio,i6 x4.i.state,i6 x4.i.dr,i6 x4.i.bdr,.slice B06 q6.length d06,.slice none 0 0]::aa (.slice B06 q6.length d06) 90 7 q6.length (ab PeV.cells q6)::ai g2 39 #[i6 0,i6 0,i6 0,i6 0,i6 0,i6 0,i6 0,.slice none 0 0,.slice none 0 0]::L) (I) w_) ?_ ?_
  ·refine wp_block ?_
   refine wp_loop (fun a_ w_=>∃ k8:Nat,(k8 ≤ (q6).length)∧oZ ((q6).drop k8) = some r8∧Fr a_ 75 [(0,pt P.g 0),(1,pt pg 0),(4,pt g2 0),(5,pt g7 0),(32,.slice B06 q6.length d06),(33,i6 ((q6.length:Nat):Int)),(34,i6 k8)]∧S κ (roA P s::ai g7 39 #[i6 x4.pt.lan,i6 x4.pt.cost,i6 x4.i.self,i6 x4.i.prio,i6 x4.i.state,i6 x4.i.dr,i6 x4.i.bdr,.slice B06 q6.length d06,.slice none 0 0]::aa (.slice B06 q6.length d06) 90 7 q6.length (ab PeV.cells q6)::ai g2 39 #[i6 0,i6 0,i6 0,i6 0,i6 0,i6 0,i6 0,.slice none 0 0,.slice none 0 0]::L) (I) w_) (fun a_ _=>(q6).length - (intOf (sl a_ 34)).toNat) ?_ ?_
   ·exact ⟨0,Nat.zero_le _,hr8,hk.to,hS⟩
   clear hk hS
   rintro aL8 w ⟨k8,hkl8,hI8,hk,hS⟩
   have hmu8:=hk.g (s:=34)
   have hlb8:=hS.rowB (i:=2) rfl
   refine sg [] hk ?_
   refine T ?_
   refine rE [0,1,4,5,32,33,34,35] hk fun a hk=>?_
   refine wp_seq ?_
   refine cD hk (fun hc35=>?_) (fun hc35=>?_)
   ·obtain ⟨z8,hz8⟩:=cq (show k8 < (q6).length by omega)
    rw [aF hz8] at hI8
    refine wp_skip ?_
    refine wp_seq ?_
    refine wp_block ?_
    refine wp_seq ?_
    cases hI8
   obtain rfl:k8 = (q6).length:=by omega
   rw [ax (Nat.le_refl _)] at hI8
   refine wp_exit ?_
   obtain rfl:=Option.some.inj hI8
   exact ⟨hk.to,hS⟩
  rintro a w ⟨hk,hS⟩
  refine sg [1] hk ?_
  refine LDS 1 9 hk hS ?_
  refine eS 3 hk hS (fun w hS _=>?_)
  refine rE [4] hk fun a hk=>?_
  refine wp_ret ?_
  have hCb:=hS.blk (i:=3) rfl
  have hS:=hS.nilrow 186 8
  replace hS:=hS.nz 5
  replace hS:=hS.pk [3,0,0] 2
  obtain rfl:=Option.some.inj ht
  exact rtC hk hCb (hR_ _ _ ⟨(⟨⟨B06,d06⟩,⟨none,0⟩⟩:SlP × SlP),rfl,hS⟩) Tryz.underlying39
 refine eA #[i6 0,i6 0,i6 0,i6 0,i6 0,i6 0,i6 0,.slice none 0 0,.slice none 0 0] hS (fun g9 w hS _=>?_)
 iterate 4 refine TA ?_
 refine aG (fun _ h_=>rk (ld hS 1 rfl (h_.x hk))) ?_
 iterate 4 refine TA ?_
 refine aG (fun _ h_=>rk (ld hS 1 rfl (h_.x hk))) ?_
 iterate 3 refine TA ?_
 refine aG (fun _ h_=>rk (lbS 5 (hS.blk (i:=1) rfl) rfl (h_.x hk))) ?_
 iterate 3 refine TA ?_
 refine aG (fun _ h_=>rk (ld hS 1 rfl (h_.x hk))) ?_
 replace hS:=hS.pk [2] 0
 refine eC hk (h:=cu e5 x4.p _ hS) (k:=?_)
 rintro _ w ⟨B010,d010,rfl,hS⟩
 refine ⟨_,rfl,?_⟩
 generalize hq10:fW x4.p = q10 at hS ⊢
 replace ht:=(am hq10).symm.trans ht
 replace hS:=hS.nz 14
 iterate 4 refine TA ?_
 refine aG (fun _ h_=>rk (ld hS 3 rfl (h_.x hk))) ?_
 iterate 4 refine TA ?_
 refine aG (fun _ h_=>rk (ld hS 3 rfl (h_.x hk))) ?_
 iterate 3 refine TA ?_
 refine aG (fun _ h_=>rk (lbS 5 (hS.blk (i:=3) rfl) rfl (h_.x hk))) ?_
 refine rD (.agg #[i6 x4.pt.lan,i6 x4.pt.cost,i6 x4.i.self,i6 x4.i.prio,i6 x4.i.state,i6 x4.i.dr,i6 x4.i.bdr,.slice B010 q10.length d010,.slice none 0 0]) (fun _ h_=>rk (af rfl (h_.prt hk) (by kernel_rfl))) ?_
 refine eS 2 hk hS (fun w hS _=>?_)
 refine rE [0,1,4,5] hk fun a hk=>?_
 refine wp_seq ?_
 refine sg [] hk ?_
 refine T ?_
 refine LD 2 hk hS ?_
 iterate 2 refine T ?_
 refine rE [0,1,4,5,32,33,34] hk fun a hk=>?_
 replace hS:=hS.pk [3,1] 0
 replace hS:=aS (x:=x4) (e:=e5) hS
 replace hS:=hS.pk [0,2] 0
 replace hS:=bo hq_pg hs4 hS
 replace hS:=hS.pk [3,0,2,2,2,2,2,2,2] 0
 replace hS:=ak (x:=s) (e:=⟨e3.A,e3.c⟩) hpl3 hS
 obtain ⟨r11,hr11,ht⟩:=ao ht
 refine aB (fun a_ w_=>Fr a_ 75 [(4,pt g2 0),(5,pt g9 0)]∧S κ (roA P s::aa (.slice B010 q10.length d010) 90 7 q10.length (ab PeV.cells q10)::ai g9 39 #[i6 x4.pt.lan,i6 x4.pt.cost,i6 x4.i.self,i6 x4.i.prio,i6 x4.i.state,i6 x4.i.dr,i6 x4.i.bdr,.slice B010 q10.length d010,.slice none 0 0]::ai g2 39 #[i6 0,i6 0,i6 0,i6 0,i6 0,i6 0,i6 0,.slice none 0 0,.slice none 0 0]::L) (I) w_) ?_ ?_
 ·refine wp_block ?_
  refine wp_loop (fun a_ w_=>∃ k11:Nat,(k11 ≤ (q10).length)∧tA ((q10).drop k11) = some r11∧Fr a_ 75 [(0,pt P.g 0),(1,pt pg 0),(4,pt g2 0),(5,pt g9 0),(32,.slice B010 q10.length d010),(33,i6 ((q10.length:Nat):Int)),(34,i6 k11)]∧S κ (roA P s::aa (.slice B010 q10.length d010) 90 7 q10.length (ab PeV.cells q10)::ai g9 39 #[i6 x4.pt.lan,i6 x4.pt.cost,i6 x4.i.self,i6 x4.i.prio,i6 x4.i.state,i6 x4.i.dr,i6 x4.i.bdr,.slice B010 q10.length d010,.slice none 0 0]::ai g2 39 #[i6 0,i6 0,i6 0,i6 0,i6 0,i6 0,i6 0,.slice none 0 0,.slice none 0 0]::L) (I) w_) (fun a_ _=>(q10).length - (intOf (sl a_ 34)).toNat) ?_ ?_
  ·exact ⟨0,Nat.zero_le _,hr11,hk.to,hS⟩
  clear hk hS
  rintro aL11 w ⟨k11,hkl11,hI11,hk,hS⟩
  have hmu11:=hk.g (s:=34)
  have hlb11:=hS.rowB (i:=1) rfl
  refine sg [] hk ?_
  refine T ?_
  refine rE [0,1,4,5,32,33,34,35] hk fun a hk=>?_
  refine wp_seq ?_
  refine cD hk (fun hc35=>?_) (fun hc35=>?_)
  ·obtain ⟨z11,hz11⟩:=cq (show k11 < (q10).length by omega)
   rw [aF hz11] at hI11
   refine wp_skip ?_
   refine wp_seq ?_
   refine wp_block ?_
   refine wp_seq ?_
   cases hI11
  obtain rfl:k11 = (q10).length:=by omega
  rw [ax (Nat.le_refl _)] at hI11
  refine wp_exit ?_
  obtain rfl:=Option.some.inj hI11
  exact ⟨hk.to,hS⟩
 rintro a w ⟨hk,hS⟩
 refine sg [1] hk ?_
 refine LDS 2 9 hk hS ?_
 refine eS 3 hk hS (fun w hS _=>?_)
 refine rE [4] hk fun a hk=>?_
 refine wp_ret ?_
 have hCb:=hS.blk (i:=3) rfl
 have hS:=hS.nilrow 186 8
 replace hS:=hS.nz 5
 replace hS:=hS.pk [2,0,0] 2
 obtain rfl:=Option.some.inj ht
 exact rtC hk hCb (hR_ _ _ ⟨(⟨⟨B010,d010⟩,⟨none,0⟩⟩:SlP × SlP),rfl,hS⟩) Tryz.underlying39
def cv (s:RoS):List Nat → (List VwV) → Option ((List VwV))
  | [],v3x0=>some v3x0
  | k3::xs3,v3x0=>ji (aL s.ports (k3:Int)) (cv s xs3 v3x0) fun x6=>if (x6.i.state:Int) ≠ 0 then aJ (kw (k3:Int) s) fun q8=>if v3x0.length + 1 ≤ 100000 then cv s xs3 (v3x0 ++ [q8]) else none else cv s xs3 v3x0
def gr (s:RoS):Option ((List VwV)):=aJ (cv s (List.range 4) []) fun r3=>some r3
theorem f0 {κ:Kap} {L I:List Atom} (P:RoP) (s:RoS) (W:World) {r_:(List VwV)} (ht:(gr s) = some r_) (hS:S κ (roA P s::L) (I) W):
    Calls Tryz.prog 43 #[pt P.g 0] W (fun r w'=>∃ B0 d0,r = .returned (.slice B0 r_.length d0)∧S κ (crA co 39 B0 d0 r_::roA P s::L) (I) w'):=by
 refine wK 31 Tryz.func43 (fun R_ hR_ a hk=>?_)
 refine sg [] hk ?_
 refine T ?_
 refine rE [0] hk fun a hk=>?_
 refine sg [] hk ?_
 refine T ?_
 refine rE [0,3] hk fun a hk=>?_
 refine wp_seq ?_
 refine sg [] hk ?_
 iterate 3 refine T ?_
 obtain ⟨e2,hpl2,hS⟩:=ro_open hS
 refine rD (.agg #[ptO P.p0,ptO P.p1,ptO P.p2,ptO P.p3]) (fun _ h_=>rk (eu (m:=3) (n:=4) rfl (h_.x hk) (by kernel_rfl) rfl (fun j u hj=>((hS.blk (i:=0) rfl).cell _).trans (mj (n:=4) (m:=3) rfl hj)))) ?_
 refine T ?_
 refine rE [0,3,9,10] hk fun a hk=>?_
 replace hS:=ak (x:=s) (e:=⟨e2.A,e2.c⟩) hpl2 hS
 obtain ⟨r3,hr3,ht⟩:=ao ht
 refine aB (fun a_ w_=>∃ A3x0 c3x0,Fr a_ 31 [(3,.slice A3x0 ((r3).length) c3x0)]∧S κ (crA co 39 A3x0 c3x0 r3::roA P s::L) (I) w_) ?_ ?_
 ·refine wp_block ?_
  refine wp_loop (fun a_ w_=>∃ k3:Nat,∃ v3x0:List VwV,∃ A3x0 c3x0,(k3 ≤ (List.range 4).length)∧cv s ((List.range 4).drop k3) v3x0 = some r3∧(v3x0.length ≤ k3)∧Fr a_ 31 [(0,pt P.g 0),(3,.slice A3x0 ((v3x0).length) c3x0),(9,.agg #[ptO P.p0,ptO P.p1,ptO P.p2,ptO P.p3]),(10,i6 k3)]∧S κ (crA co 39 A3x0 c3x0 v3x0::roA P s::L) (I) w_) (fun a_ _=>(List.range 4).length - (intOf (sl a_ 10)).toNat) ?_ ?_
  ·replace hS:=hS.crNil co 39
   replace hS:S κ (crA co 39 none 0 []::roA P s::L) (I) W:=hS
   exact ⟨0,[],_,_,Nat.zero_le _,hr3,Nat.zero_le _,hk.to,hS⟩
  clear hk hS
  rintro aL3 w ⟨k3,v3x0,A3x0,c3x0,hkl3,hI3,hcl3x0,hk,hS⟩
  have hmu3:=hk.g (s:=10)
  have hlb3:=List.length_range (n:=4)
  refine sg [] hk ?_
  refine T ?_
  refine rE [0,3,9,10,11] hk fun a hk=>?_
  refine wp_seq ?_
  refine cD hk (fun hc11=>?_) (fun hc11=>?_)
  ·have hklt:k3 < (List.range 4).length:=by simp only [List.length_range] at *;omega
   rw [aF (z:=k3) (by simp at hklt;simp [hklt])] at hI3
   refine wp_skip ?_
   refine wp_seq ?_
   refine wp_block ?_
   refine sg [] hk ?_
   have hix4:k3 < 4:=by simpa using hklt
   refine rD (ptO (aL P.pts (k3:Int))) (fun _ h_=>rk (et (n:=4) (e:=81) rfl (h_.x hk) (h_.x hk) (by kernel_rfl) (by kernel_rfl) (by kernel_rfl) (by omega) (yw (i:=(k3:Int)) (by omega) (by omega)))) ?_
   refine T ?_
   refine rE [0,3,5,9,10] hk fun a hk=>?_
   refine sg [] hk ?_
   refine T ?_
   replace hS:=hS.fr 1
   obtain ⟨e5,hpl5,hS⟩:=ro_open hS
   replace hS:=hS.fr 1
   rcases fh (k3:Int) (by rw [du];first | assumption | (simpa using hpl5)) hS with ⟨hq6,hs6,hS⟩ | ⟨g6,x6,hq6,hs6,hS⟩
   ·replace hI3:=(fG hs6).symm.trans hI3
    rw [hq6] at hk
    replace hk:Fr a 31 [(0,pt P.g 0),(3,.slice A3x0 ((v3x0).length) c3x0),(5,.pointer none),(9,.agg #[ptO P.p0,ptO P.p1,ptO P.p2,ptO P.p3]),(10,i6 k3)]:=hk
    refine rwV 0 (ptO (aL P.pts (k3:Int))) (.pointer none) (by rw [hq6];rfl) ?_
    refine rD (.bool false) (fun _ h_=>rk (aq rfl (h_.x hk) rfl (fun _=>by kernel_rfl) (fun _=>rfl))) ?_
    refine T ?_
    refine oF 2 15 true [3,4,5,6,7,8] ?_
    refine T ?_
    refine rE [0,3,5,9,10,22] hk fun a hk=>?_
    refine cF hk ?_
    refine wp_skip ?_
    refine rgL [] hk ?_
    refine dA hk ?_
    refine T ?_
    refine rE [0,3,9,10] hk fun a hk=>?_
    replace hS:=hS.pk [1,0,0,0,0,0,0,0,0] 0
    replace hS:=ak (x:=s) (e:=⟨e5.A,e5.c⟩) hpl5 hS
    replace hS:=hS.pk [1,0] 0
    exact ⟨⟨k3 + 1,v3x0,_,_,by omega,hI3,by (try simp only [List.length_append,List.length_cons,List.length_nil]);omega,hk.to,hS⟩,aP hk.g hmu3 (by omega)⟩
   ·replace hI3:=(fH hs6).symm.trans hI3
    rw [hq6] at hk
    replace hk:Fr a 31 [(0,pt P.g 0),(3,.slice A3x0 ((v3x0).length) c3x0),(5,pt g6 0),(9,.agg #[ptO P.p0,ptO P.p1,ptO P.p2,ptO P.p3]),(10,i6 k3)]:=hk
    refine rwV 0 (ptO (aL P.pts (k3:Int))) (pt g6 0) (by rw [hq6];rfl) ?_
    refine rD (.bool true) (fun _ h_=>rk (aq rfl (h_.x hk) rfl (fun _=>by kernel_rfl) (fun _=>rfl))) ?_
    iterate 5 refine T ?_
    obtain ⟨e7,hS⟩:=dK hS
    refine LD 0 hk hS ?_
    iterate 2 refine T ?_
    refine rE [0,3,5,9,10,22] hk fun a hk=>?_
    refine cD hk (fun hc22=>?_) (fun hc22=>?_)
    ·replace hI3:=(if_pos hc22).symm.trans hI3
     refine rgL [3,4,5] hk ?_
     iterate 3 refine T ?_
     replace hS:=aS (x:=x6) (e:=e7) hS
     replace hS:=bo hq6 hs6 hS
     replace hS:=hS.pk [1,0,0,0,0,0,0,0,0] 0
     replace hS:=ak (x:=s) (e:=⟨e5.A,e5.c⟩) hpl5 hS
     obtain ⟨q8,hq8,hI3⟩:=ao hI3
     refine eC hk (h:=nM P g6 (k3:Int) s _ hq6 hq8 hS) (k:=?_)
     rintro _ w ⟨e08,rfl,hS⟩
     refine ⟨_,rfl,?_⟩
     replace hS:=hS.nz 4
     refine eF (fun a_ h_=>aZ (e:=39) (cells:=#[i6 q8.lan,i6 q8.cost,i6 q8.i.self,i6 q8.i.prio,i6 q8.i.state,i6 q8.i.dr,i6 q8.i.bdr,.slice e08.1.A q8.peers.length e08.1.c,.slice e08.2.A q8.wants.length e08.2.c]) hS (ae rfl) rfl (h_.prtL hk) fun g9 w hS _=>⟨_,rfl,?_⟩)
     obtain ⟨hgd11,hI3⟩:=gdE hI3
     replace hS:=hS.pk [4,1,1] 0
     refine eF (fun a_ h_=>sA (bytes:=104) co q8 e08 hS (ae rfl) rfl (h_.x hk) (h_.x hk) (ay (hS.blk (i:=3) rfl) rfl) (by (try simp only [List.length_append,List.length_cons,List.length_nil,List.length_take,List.length_drop]);omega) fun A12 c12 w hS=>⟨_,rfl,?_⟩)
     replace hS:=hS.nz 3
     refine T ?_
     refine rE [0,3,9,10] hk fun a hk=>?_
     refine rgL [] hk ?_
     refine dA hk ?_
     refine T ?_
     refine rE [0,3,9,10] hk fun a hk=>?_
     replace hS:=hS.pk [0,1] 1
     exact ⟨⟨k3 + 1,(v3x0 ++ [q8]),_,_,by omega,hI3,by (try simp only [List.length_append,List.length_cons,List.length_nil]);omega,hk.to,hS⟩,aP hk.g hmu3 (by omega)⟩
    replace hI3:=(if_neg hc22).symm.trans hI3
    refine wp_skip ?_
    refine rgL [] hk ?_
    refine dA hk ?_
    refine T ?_
    refine rE [0,3,9,10] hk fun a hk=>?_
    replace hS:=aS (x:=x6) (e:=e7) hS
    replace hS:=bo hq6 hs6 hS
    replace hS:=hS.pk [1,0,0,0,0,0,0,0,0] 0
    replace hS:=ak (x:=s) (e:=⟨e5.A,e5.c⟩) hpl5 hS
    replace hS:=hS.pk [1,0] 0
    exact ⟨⟨k3 + 1,v3x0,_,_,by omega,hI3,by (try simp only [List.length_append,List.length_cons,List.length_nil]);omega,hk.to,hS⟩,aP hk.g hmu3 (by omega)⟩
  obtain rfl:k3 = (List.range 4).length:=by (first | omega | (simp only [List.length_range] at *;omega))
  rw [ax (Nat.le_refl _)] at hI3
  refine wp_exit ?_
  obtain rfl:=Option.some.inj hI3
  exact ⟨_,_,hk.to,hS⟩
 rintro a w ⟨A3x0,c3x0,hk,hS⟩
 refine sg [] hk ?_
 iterate 2 refine T ?_
 refine rE [2] hk fun a hk=>?_
 refine wp_ret ?_
 obtain rfl:=Option.some.inj ht
 exact rt1 hk (hR_ _ _ ⟨_,_,rfl,hS⟩)
end
section
set_option maxRecDepth 100000
set_option maxHeartbeats 8000000
theorem gM {P:RoP} {i:Int} (h:i < 0 ∨ 3 < i):aL P.pts i = none:=by
  unfold aL
  split
  · rw [List.getD_eq_getElem?_getD,List.getElem?_eq_none (by rw [du];omega)];rfl
  · rfl
def bG (i:IfV) (e:Int) (l:List CdV):IfV × Bool:=(dm i e l,decide (dm i e l ≠ i))
theorem jG {κ:Kap} {L I:List Atom} (i:IfV) (e:Int) (l:List CdV) (lA:Option Addr) (lc:Nat) (W:World) (hn:l.length ≤ 90000) (hS:S κ L (aa (.slice lA l.length lc) 161 4 l.length (ab CdV.cells l)::I) W):
    Calls Tryz.prog 32 #[.agg #[i6 i.self,i6 i.prio,i6 i.state,i6 i.dr,i6 i.bdr],i6 e,.slice lA l.length lc] W (fun r w'=>r = .returned (.tuple #[.agg #[i6 (((bG i e l).1).self),i6 (((bG i e l).1).prio),i6 (((bG i e l).1).state),i6 (((bG i e l).1).dr),i6 (((bG i e l).1).bdr)],.bool (bG i e l).2])∧S κ L (aa (.slice lA l.length lc) 161 4 l.length (ab CdV.cells l)::I) w'):=by
  refine (rU i e lA l.length lc l W hn (hS.rdI (i:=0) rfl)).mono ?_
  rintro r w' ⟨h1,h2⟩
  exact ⟨h1,hS.below h2⟩
def gh (x:KeyV):List KeyV → Nat → Except (Int) (Unit)
  | [],k3=>.ok ()
  | z3::xs3,k3=>if x = z3 then .error k3 else gh x xs3 (k3 + 1)
def ms (l:List KeyV) (x:KeyV):Int:=exE (gh x l 0) (fun e=>e) fun r3=>-1
theorem sR {κ:Kap} {L I:List Atom} (l:List KeyV) (lA:Option Addr) (lc:Nat) (x:KeyV) (W:World) (hS:S κ (L) (aa (.slice lA l.length lc) 111 3 l.length (ab KeyV.cells l)::I) W):
    Calls Tryz.prog 206 #[.slice lA l.length lc,.agg #[i6 x.kind,i6 x.id,i6 x.adv]] W (fun r w'=>r = .returned (i6 (ms l x))∧S κ (L) (aa (.slice lA l.length lc) 111 3 l.length (ab KeyV.cells l)::I) w'):=by
 generalize ht:(ms l x) = t_
 refine wK 19 Tryz.func206 (fun R_ hR_ a hk=>?_)
 refine sg [0] hk ?_
 refine eB hk hS (fun g2 w hS _=>?_)
 refine T ?_
 refine rE [0,3] hk fun a hk=>?_
 refine wp_seq ?_
 refine sg [] hk ?_
 iterate 3 refine T ?_
 refine rE [0,3,7,8] hk fun a hk=>?_
 obtain ⟨x3,hr3⟩:∃ y_,gh x l 0 = y_:=⟨_,rfl⟩
 refine aB (fun a_ w_=>∃ r3,x3 = .ok r3∧Fr a_ 19 []∧S κ (ai g2 111 #[i6 x.kind,i6 x.id,i6 x.adv]::L) (aa (.slice lA l.length lc) 111 3 l.length (ab KeyV.cells l)::I) w_) ?_ ?_
 ·refine wp_block ?_
  refine wp_loop (fun a_ w_=>∃ k3:Nat,(k3 ≤ (l).length)∧gh x ((l).drop k3) k3 = x3∧Fr a_ 19 [(0,.slice lA l.length lc),(3,pt g2 0),(7,i6 ((l.length:Nat):Int)),(8,i6 k3)]∧S κ (ai g2 111 #[i6 x.kind,i6 x.id,i6 x.adv]::L) (aa (.slice lA l.length lc) 111 3 l.length (ab KeyV.cells l)::I) w_) (fun a_ _=>(l).length - (intOf (sl a_ 8)).toNat) ?_ ?_
  ·exact ⟨0,Nat.zero_le _,hr3,hk.to,hS⟩
  clear hk hS
  rintro aL3 w ⟨k3,hkl3,hI3,hk,hS⟩
  have hmu3:=hk.g (s:=8)
  have hlb3:=hS.rowBI (i:=0) rfl
  refine sg [] hk ?_
  refine T ?_
  refine rE [0,3,7,8,9] hk fun a hk=>?_
  refine wp_seq ?_
  refine cD hk (fun hc9=>?_) (fun hc9=>?_)
  ·obtain ⟨z3,hz3⟩:=cq (show k3 < (l).length by omega)
   rw [aF hz3] at hI3
   refine wp_skip ?_
   refine wp_seq ?_
   refine wp_block ?_
   refine sg [] hk ?_
   iterate 2 refine T ?_
   refine rE [0,3,5,7,8] hk fun a hk=>?_
   refine wp_seq ?_
   refine rgR [[],[],[],[1,2],[1,2,3],[0,1,2,3,4]] [] (.rd 0 (.rd 1 (.rd 2 (.rd 3 (.rd 4 (.rd 5 (.fin))))))) hk hS (fun w hS _=>?_)
   refine LDS 0 3 hk hS ?_
   iterate 2 refine T ?_
   refine dX KeyV.cells_len' hk (hS.rdI (i:=0) rfl) (fun b4 o4 z4 hz4 hq4=>?_)
   obtain rfl:z3 = z4:=Option.some.inj (hz3.symm.trans hz4)
   refine dV 3 hq4 hk ?_
   refine rD (.bool (decide (x = z3))) (fun _ h_=>rk (aq rfl (h_.x hk) (h_.x hk) (fun _=>by first | rfl | kernel_rfl) (qk x z3))) ?_
   refine rE [0,3,5,7,8,16] hk fun a hk=>?_
   refine cD hk (fun hc16=>?_) (fun hc16=>?_)
   ·replace hI3:=(if_pos hc16).symm.trans hI3
    refine sg [] hk ?_
    iterate 2 refine T ?_
    refine rE [4] hk fun a hk=>?_
    refine wp_ret ?_
    replace hS:=hS.pk [] 1
    replace ht:=(fB hr3).symm.trans ht
    subst hI3
    subst ht
    exact rt1 hk (hR_ _ _ ⟨rfl,hS⟩)
   replace hI3:=(if_neg hc16).symm.trans hI3
   refine wp_skip ?_
   refine rgL [] hk ?_
   refine dA hk ?_
   refine T ?_
   refine rE [0,3,7,8] hk fun a hk=>?_
   exact ⟨⟨k3 + 1,by omega,hI3,hk.to,hS⟩,aP hk.g hmu3 (by omega)⟩
  obtain rfl:k3 = (l).length:=by omega
  rw [ax (Nat.le_refl _)] at hI3
  refine wp_exit ?_
  subst hI3
  exact ⟨_,rfl,hk.to,hS⟩
 rintro a w ⟨r3,hx,hk,hS⟩
 replace ht:=(fC (hr3.trans hx)).symm.trans ht
 refine sg [] hk ?_
 refine T ?_
 refine rE [4] hk fun a hk=>?_
 refine wp_ret ?_
 replace hS:=hS.pk [] 1
 subst ht
 exact rt1 hk (hR_ _ _ ⟨rfl,hS⟩)
def ka (l:List KeyV) (x:KeyV):Bool:=decide ((0:Int) ≤ (ms l x))
theorem sP {κ:Kap} {L I:List Atom} (l:List KeyV) (lA:Option Addr) (lc:Nat) (x:KeyV) (W:World) (hS:S κ (L) (aa (.slice lA l.length lc) 111 3 l.length (ab KeyV.cells l)::I) W):
    Calls Tryz.prog 124 #[.slice lA l.length lc,.agg #[i6 x.kind,i6 x.id,i6 x.adv]] W (fun r w'=>r = .returned (.bool (ka l x))∧S κ (L) (aa (.slice lA l.length lc) 111 3 l.length (ab KeyV.cells l)::I) w'):=by
 generalize ht:(ka l x) = t_
 refine wK 9 Tryz.func124 (fun R_ hR_ a hk=>?_)
 refine sg [0] hk ?_
 refine eB hk hS (fun g2 w hS _=>?_)
 refine T ?_
 refine rE [0,3] hk fun a hk=>?_
 refine sg [2] hk ?_
 refine T ?_
 refine LDS 0 3 hk hS ?_
 refine eC hk (h:=sR l lA lc x _ hS) (k:=?_)
 rintro _ w ⟨rfl,hS⟩
 refine ⟨_,rfl,?_⟩
 replace hS:=hS.nz 1
 iterate 2 refine T ?_
 refine rE [4] hk fun a hk=>?_
 refine wp_ret ?_
 replace hS:=hS.pk [] 1
 subst ht
 exact rt1 hk (hR_ _ _ ⟨rfl,hS⟩)
def qz (l:List KeyV):Option (Unit):=if (((l.length:Nat):Int):Int) < 2 then some () else none
theorem qA {κ:Kap} {L I:List Atom} (l:List KeyV) (lA:Option Addr) (lc:Nat) (W:World) {r_:Unit} (ht:(qz l) = some r_) (hS:S κ (L) (aa (.slice lA l.length lc) 111 3 l.length (ab KeyV.cells l)::I) W):
    Calls Tryz.prog 130 #[.slice lA l.length lc] W (fun r w'=>r = .returned (.slice lA l.length lc)∧S κ (L) (aa (.slice lA l.length lc) 111 3 l.length (ab KeyV.cells l)::I) w'):=by
 refine wK 61 Tryz.func130 (fun R_ hR_ a hk=>?_)
 refine sg [] hk ?_
 refine T ?_
 refine rE [0] hk fun a hk=>?_
 refine wp_seq ?_
 refine sg [] hk ?_
 iterate 3 refine T ?_
 refine rE [0,8] hk fun a hk=>?_
 refine cD hk (fun hc8=>?_) (fun hc8=>?_)
 ·replace ht:=(if_pos hc8).symm.trans ht
  refine sg [] hk ?_
  iterate 2 refine T ?_
  refine rE [2] hk fun a hk=>?_
  refine wp_ret ?_
  obtain rfl:=Option.some.inj ht
  exact rt1 hk (hR_ _ _ ⟨rfl,hS⟩)
 replace ht:=(if_neg hc8).symm.trans ht
 refine wp_skip ?_
 refine wp_seq ?_
 refine wp_seq ?_
 cases ht
def eW:List LV → (List KeyV) → Option ((List KeyV))
  | [],v2x0=>some v2x0
  | z2::xs2,v2x0=>if (z2.hd.age:Int) = 60 then if v2x0.length + 1 ≤ 100000 then eW xs2 (v2x0 ++ [(ah z2.hd)]) else none else eW xs2 v2x0
def jd (l:List LV):Option ((List KeyV)):=aJ (eW l []) fun r2=>if r2.length ≤ 100000 then aJ (qz (aW dC r2)) fun q12=>some (aW dC r2) else none
theorem qe {κ:Kap} {L I:List Atom} (l:List LV) (lA:Option Addr) (lc:Nat) (W:World) {r_:(List KeyV)} (ht:(jd l) = some r_) (hS:S κ (L) (crA lsFn 66 lA lc l::I) W):
    Calls Tryz.prog 48 #[.slice lA l.length lc] W (fun r w'=>∃ B0 d0,r = .returned (.slice B0 r_.length d0)∧S κ (aa (.slice B0 r_.length d0) 111 3 r_.length (ab KeyV.cells r_)::L) (crA lsFn 66 lA lc l::I) w'):=by
 refine wK 27 Tryz.func48 (fun R_ hR_ a hk=>?_)
 refine sg [] hk ?_
 refine T ?_
 refine rE [0] hk fun a hk=>?_
 refine sg [] hk ?_
 refine T ?_
 refine rE [0,3] hk fun a hk=>?_
 refine wp_seq ?_
 refine sg [] hk ?_
 iterate 3 refine T ?_
 refine rE [3,6,7,8] hk fun a hk=>?_
 obtain ⟨r2,hr2,ht⟩:=ao ht
 refine aB (fun a_ w_=>∃ A2x0 c2x0,Fr a_ 27 [(3,.slice A2x0 ((r2).length) c2x0)]∧S κ ((aa (.slice A2x0 ((r2).length) c2x0) 111 3 ((r2).length) (ab KeyV.cells r2))::L) (crA lsFn 66 lA lc l::I) w_) ?_ ?_
 ·refine wp_block ?_
  refine wp_loop (fun a_ w_=>∃ k2:Nat,∃ v2x0:List KeyV,∃ A2x0 c2x0,(k2 ≤ (l).length)∧eW ((l).drop k2) v2x0 = some r2∧(v2x0.length ≤ k2)∧Fr a_ 27 [(3,.slice A2x0 ((v2x0).length) c2x0),(6,.slice lA l.length lc),(7,i6 ((l.length:Nat):Int)),(8,i6 k2)]∧S κ ((aa (.slice A2x0 ((v2x0).length) c2x0) 111 3 ((v2x0).length) (ab KeyV.cells v2x0))::L) (crA lsFn 66 lA lc l::I) w_) (fun a_ _=>(l).length - (intOf (sl a_ 8)).toNat) ?_ ?_
  ·have hS:=hS.nilrow 111 3
   replace hS:S κ (aa (.slice none 0 0) 111 3 0 (ab KeyV.cells [])::L) (crA lsFn 66 lA lc l::I) W:=hS
   exact ⟨0,[],_,_,Nat.zero_le _,hr2,Nat.zero_le _,hk.to,hS⟩
  clear hk hS
  rintro aL2 w ⟨k2,v2x0,A2x0,c2x0,hkl2,hI2,hcl2x0,hk,hS⟩
  have hmu2:=hk.g (s:=8)
  have hlb2:=jl hS (i:=0)
  refine sg [] hk ?_
  refine T ?_
  refine rE [3,6,7,8,9] hk fun a hk=>?_
  refine wp_seq ?_
  refine cD hk (fun hc9=>?_) (fun hc9=>?_)
  ·obtain ⟨z2,hz2⟩:=cq (show k2 < (l).length by omega)
   rw [aF hz2] at hI2
   refine wp_skip ?_
   refine wp_seq ?_
   refine wp_block ?_
   refine sg [2,3] hk ?_
   refine cX 0 hz2 hk hS (fun b3 o3 e3 hS hq3=>?_)
   replace hS:=hS.nz 1
   refine dV 9 hq3 hk ?_
   refine eA #[i6 0,i6 0,i6 0,i6 0,i6 0,i6 0,i6 0,.slice none 0 0,.slice none 0 0] hS (fun g4 w hS _=>?_)
   refine eS 0 hk hS (fun w hS _=>?_)
   refine rE [3,5,6,7,8] hk fun a hk=>?_
   refine sg [] hk ?_
   iterate 2 refine T ?_
   refine LD 0 hk hS ?_
   refine T ?_
   refine rE [3,5,6,7,8,15] hk fun a hk=>?_
   refine cD hk (fun hc15=>?_) (fun hc15=>?_)
   ·replace hI2:=(if_pos hc15).symm.trans hI2
    refine rgL [3,4,5] hk ?_
    iterate 2 refine T ?_
    refine LDS 0 7 hk hS ?_
    refine eC hk (h:=ct z2.hd _ hS) (k:=?_)
    rintro _ w ⟨rfl,hS⟩
    refine ⟨_,rfl,?_⟩
    replace hS:=hS.nz 2
    refine eF (fun a_ h_=>aZ (e:=111) (cells:=#[i6 ((ah z2.hd).kind),i6 ((ah z2.hd).id),i6 ((ah z2.hd).adv)]) hS (ae rfl) rfl (h_.prtL hk) fun g6 w hS _=>⟨_,rfl,?_⟩)
    obtain ⟨hgd8,hI2⟩:=gdE hI2
    refine eF (fun a_ h_=>ia (bytes:=24) (ys:=[(ah z2.hd)]) KeyV.cells_fn hS 2 (ae rfl) rfl (h_.x hk) (h_.x hk) (ay (hS.blk (i:=0) rfl) rfl) (by (try simp only [List.length_append,List.length_cons,List.length_nil,List.length_take,List.length_drop]);omega) fun A7 c7 w hS=>⟨_,rfl,?_⟩)
    replace hS:=hS.nz 3
    refine T ?_
    refine rE [3,6,7,8] hk fun a hk=>?_
    refine rgL [] hk ?_
    refine dA hk ?_
    refine T ?_
    refine rE [3,6,7,8] hk fun a hk=>?_
    replace hS:=hS.pk [2] 2
    replace hS:=hS.dropI.dropI
    exact ⟨⟨k2 + 1,(v2x0 ++ [(ah z2.hd)]),_,_,by omega,hI2,by (try simp only [List.length_append,List.length_cons,List.length_nil]);omega,hk.to,hS⟩,aP hk.g hmu2 (by omega)⟩
   replace hI2:=(if_neg hc15).symm.trans hI2
   refine wp_skip ?_
   refine rgL [] hk ?_
   refine dA hk ?_
   refine T ?_
   refine rE [3,6,7,8] hk fun a hk=>?_
   replace hS:=hS.pk [1] 1
   replace hS:=hS.dropI.dropI
   exact ⟨⟨k2 + 1,v2x0,_,_,by omega,hI2,by (try simp only [List.length_append,List.length_cons,List.length_nil]);omega,hk.to,hS⟩,aP hk.g hmu2 (by omega)⟩
  obtain rfl:k2 = (l).length:=by omega
  rw [ax (Nat.le_refl _)] at hI2
  refine wp_exit ?_
  obtain rfl:=Option.some.inj hI2
  exact ⟨_,_,hk.to,hS⟩
 rintro a w ⟨A2x0,c2x0,hk,hS⟩
 refine sg [1] hk ?_
 refine T ?_
 obtain ⟨hgd9,ht⟩:=gdE ht
 refine eC hk (h:=x9 _ _ _ (by omega) hS) (k:=?_)
 rintro _ w ⟨rfl,hS⟩
 refine ⟨_,rfl,?_⟩
 have hpq10:=bK ck r2
 replace hS:=hS.nz 1
 refine rE [3] hk fun a hk=>?_
 replace hk:Fr a 27 [(3,.slice A2x0 ((aW dC r2).length) c2x0)]:=by simpa only [bK ck] using hk
 refine sg [1] hk ?_
 refine T ?_
 obtain ⟨J11,hS,hJ11⟩:=S.lend (M:=[_]) hS
 obtain ⟨q12,hq12,ht⟩:=ao ht
 refine eC hk (h:=qA (aW dC r2) A2x0 c2x0 _ hq12 hS) (k:=?_)
 rintro _ w ⟨rfl,hS⟩
 refine ⟨_,rfl,?_⟩
 replace hS:=hJ11 _ _ hS
 replace hS:=hS.nz 1
 refine T ?_
 refine rE [2] hk fun a hk=>?_
 refine wp_ret ?_
 obtain rfl:=Option.some.inj ht
 exact rt1 hk (hR_ _ _ ⟨_,_,rfl,hS⟩)
end
section
set_option maxRecDepth 100000
set_option maxHeartbeats 8000000
theorem wR (x y:KeyV) (w:World):(binOp .eql 111 (.agg x.cells.toArray) (.agg y.cells.toArray)).run Tryz.prog w = .ok (.bool (decide (x = y))) w:=by
  obtain ⟨a1,a2,a3⟩:=x
  obtain ⟨b1,b2,b3⟩:=y
  dsimp only [KeyV.cells]
  go_simp
  repeat' split
  all_goals simp_all
theorem rN {κ:Kap} {L I:List Atom} (g:Nat) (k:KeyV) (l:List (EnV × Int)) (W:World) (hS:S κ ((cO g l)::L) (I) W):
    Calls Tryz.prog 50 #[pt g 0,.agg #[i6 k.kind,i6 k.id,i6 k.adv]] W (fun r w'=>r = .returned (.bool (l.any fun p=>decide (p.1.k = k)))∧S κ (cO g l::L) I w'):=by
 obtain ⟨m,hS⟩:=pb hS
 have hln:=hS.mapNodup (i:=1) rfl
 refine wK 21 Tryz.func50 (fun R_ hR_ a hk=>?_)
 refine sg [0] hk ?_
 refine eB hk hS (fun g3 w3 hS3 _=>?_)
 clear hS
 refine T ?_
 refine rE [0,3,4] hk ?_
 clear hk
 intro a2 hk
 refine wp_seq ?_
 refine sg [] hk ?_
 refine T ?_
 refine rD (.bool false) (fun _ h_=>rk (aq rfl (h_.x hk) rfl (fun _=>by kernel_rfl) (fun _=>rfl))) ?_
 refine rE [0,3,4,7] hk ?_
 clear hk
 intro a4 hk
 refine cF hk ?_
 refine wp_skip ?_
 refine wp_seq ?_
 refine sg [4] hk ?_
 iterate 3 refine T ?_
 refine LD 1 hk hS3 ?_
 refine eF (fun a_ h_=>fP (k:=223) (e:=3) 2 hS3 (ae rfl) rfl (h_.x hk) fun r6 w6 hS6=>⟨_,rfl,?_⟩)
 clear h_ a_ hS3
 replace hS6:=hS6.nz 3
 refine rE [3,4,12] hk ?_
 clear hk
 intro a5 hk
 refine wp_block ?_
 refine wp_loop (fun a_ w_=>∃ d:List EnV,(d.Nodup)∧(∀ x ∈ d,x ∈ l.map (·.1))∧(∀ p ∈ l,p.1 ∈ d → ¬ p.1.k = k)∧Fr a_ 21 [(3,pt g3 0),(4,.bool false),(12,pt r6 0)]∧S κ (ai g 221 #[.map (some m)]::(bx enE eN m r6 l d)::ai g3 111 #[i6 k.kind,i6 k.id,i6 k.adv]::L) (I) w_) (fun _ w_=>l.length - (w_.iterSeen r6).size) ?_ ?_
 ·replace hS6:=hS6.fr 2
  replace hS6:=hS6.fr 2
  exact ⟨[],List.nodup_nil,(fun x hx=>by cases hx),(fun p hp hd=>by cases hd),hk.to,hS6⟩
 clear hk hS6
 rintro a7 w7 ⟨d,hc0_0,hc0_1,hc0_2,hk,hS7⟩
 have hmu0:=S.rangeLen hS7 (i:=1) rfl
 refine sg [0] hk ?_
 refine eF (fun a_ h_=>g0 1 hS7 (ae rfl) rfl (h_.x hk) (fun hall=>⟨_,rfl,?_⟩) (fun p w9 hp hpd hS9=>⟨_,rfl,?_⟩))
 ·clear h_ a_
  refine T ?_
  refine rE [3,4,12,13,14] hk ?_
  clear hk
  intro a8 hk
  refine wp_seq ?_
  refine cF hk ?_
  refine wp_exit ?_
  refine sg [] hk ?_
  refine T ?_
  refine rE [4] hk ?_
  clear hk
  intro a10 hk
  refine wp_ret ?_
  refine rt1 hk (hR_ _ _ ?_)
  replace hS7:=hS7.fr 2
  replace hS7:=hS7.drop
  replace hS7:=hS7.fr 1
  replace hS7:=hS7.fr 1
  have hSe:=S.rangeEnd hS7 (i:=1) rfl
  replace hSe:S κ (ai g 221 #[.map (some m)]::bq enE eN m l::L) (I) w7:=hSe
  refine ⟨?_,fN hSe⟩
  congr 2;symm
  exact List.any_eq_false.2 fun q hq=>by simpa using hc0_2 q hq (hall q hq)
 clear h_ a_ hS7
 replace hS9:=hS9.nz 3
 refine T ?_
 refine rE [3,4,12,13,14] hk ?_
 clear hk
 intro a8 hk
 refine wp_seq ?_
 refine cT hk ?_
 refine wp_skip ?_
 refine wp_block ?_
 refine wp_seq ?_
 have hdl:d.length + 1 ≤ l.length:=by have h1:=eH (l:=p.1::d) (m:=l.map (·.1)) (List.nodup_cons.2 ⟨hpd,hc0_0⟩) (fun x hx=>by rcases List.mem_cons.1 hx with rfl | hx;exact List.mem_map_of_mem hp;exact hc0_1 x hx);simpa using h1
 refine rgL [2,3] hk ?_
 refine rD (.tuple #[.agg #[i6 p.1.lan,i6 p.1.id,i6 p.1.k.kind,i6 p.1.k.id,i6 p.1.k.adv],i6 p.2]) (fun _ h_=>rk (er (ek:=enE) (ev:=eN) (x:=p.1) (u:=p.2) hS9 (i:=1) rfl hp rfl (h_.x hk))) ?_
 refine T ?_
 refine eA #[i6 0,i6 0,i6 0,i6 0,i6 0] hS9 (fun g12 w12 hS12 _=>?_)
 clear hS9
 refine eS 0 hk hS12 (fun w13 hS13 _=>?_)
 clear hS12
 refine rE [3,4,5,12,13,14,15,16] hk ?_
 clear hk
 intro a11 hk
 refine sg [] hk ?_
 refine T ?_
 refine LDS 0 3 hk hS13 ?_
 refine LDS 3 3 hk hS13 ?_
 refine rD (.bool (decide (p.1.k = k))) (fun _ h_=>rk (aq rfl (h_.x hk) (h_.x hk) (fun _=>by kernel_rfl) (wR p.1.k k))) ?_
 refine rE [3,4,5,12,13,14,15,16,17,18,19,20] hk ?_
 clear hk
 intro a14 hk
 refine cD hk (fun hc20=>?_) (fun hc20=>?_)
 ·refine sg [] hk ?_
  refine T ?_
  refine rE [3,4,5,12,13,14,15,16,17,18,19] hk ?_
  clear hk
  intro a15 hk
  refine wp_ret ?_
  refine rt1 hk (hR_ _ _ ?_)
  replace hS13:=hS13.fr 3
  replace hS13:=hS13.fr 1
  replace hS13:=hS13.drop.drop
  replace hS13:=hS13.fr 1
  replace hS13:=hS13.fr 1
  have hSe:=S.rangeEnd hS13 (i:=1) rfl
  replace hSe:S κ (ai g 221 #[.map (some m)]::bq enE eN m l::L) (I) w13:=hSe
  refine ⟨?_,fN hSe⟩
  congr 2;symm
  exact List.any_eq_true.2 ⟨p,hp,decide_eq_true hc20⟩
 refine wp_skip ?_
 replace hS13:=hS13.drop
 replace hS13:=hS13.fr 2
 replace hS13:=hS13.fr 2
 replace hS13:=hS13.fr 2
 have hmuE:=S.rangeLen hS13 (i:=1) rfl
 refine ⟨⟨p.1::d,List.nodup_cons.2 ⟨hpd,hc0_0⟩,(fun x hx=>by rcases List.mem_cons.1 hx with rfl | hx;exact List.mem_map_of_mem hp;exact hc0_1 x hx),(fun q hq hd=>by rcases List.mem_cons.1 hd with e | hd;rw [leftL_keep.pair_eq hln hq hp e];exact hc20;exact hc0_2 q hq hd),hk.to,hS13⟩,?_⟩
 show l.length - (w13.iterSeen r6).size < l.length - (w7.iterSeen r6).size
 rw [hmuE,hmu0]
 simp only [List.length_cons]
 omega
theorem nP {κ:Kap} {L I:List Atom} (g f:Nat) (cap:Array Value) (pr:EnV → Bool) (l:List (EnV × Int)) (W:World) (hl:l.length ≤ 100000) (hcl:∀ (L':List Atom) w z,S κ L' I w → Calls Tryz.prog f (#[.agg z.cells.toArray] ++ cap) w fun r w'=>r = .returned (.bool (pr z))∧Below w.heap.size w w') (hfn:∀ xs w,(callFunc f xs).run Tryz.prog w = .ok (.enter f xs) w) (hS:S κ ((cO g l)::L) (I) W):
    Calls Tryz.prog 173 #[pt g 0,.func (.func f) #[] cap] W (fun r w'=>∃ k:Int,r = .returned (.int .i64 k)∧S κ (cO g (l.filter fun p=>!pr p.1)::L) I w'):=by
 obtain ⟨m,hS⟩:=pb hS
 have hln:=hS.mapNodup (i:=1) rfl
 refine wK 30 Tryz.func173 (fun R_ hR_ a hk=>?_)
 refine sg [] hk ?_
 refine T ?_
 refine rE [0,1,4] hk ?_
 clear hk
 intro a2 hk
 refine sg [] hk ?_
 refine T ?_
 refine rE [0,1,4,5] hk ?_
 clear hk
 intro a3 hk
 refine wp_seq ?_
 refine sg [] hk ?_
 refine T ?_
 refine rD (.bool false) (fun _ h_=>rk (aq rfl (h_.x hk) rfl (fun _=>by kernel_rfl) (fun _=>rfl))) ?_
 refine rE [0,1,4,5,8] hk ?_
 clear hk
 intro a4 hk
 refine cF hk ?_
 refine wp_skip ?_
 refine wp_seq ?_
 refine sg [4] hk ?_
 iterate 3 refine T ?_
 refine LD 0 hk hS ?_
 refine eF (fun a_ h_=>fP (k:=223) (e:=3) 1 hS (ae rfl) rfl (h_.x hk) fun r6 w6 hS6=>⟨_,rfl,?_⟩)
 clear h_ a_ hS
 replace hS6:=hS6.nz 2
 refine rE [0,1,4,5,14] hk ?_
 clear hk
 intro a5 hk
 refine wp_block ?_
 refine wp_loop (fun a_ w_=>∃ d:List EnV,∃ k:Nat,(d.Nodup)∧(∀ x ∈ d,x ∈ l.map (·.1))∧(k ≤ d.length)∧Fr a_ 30 [(0,pt g 0),(1,.func (.func f) #[] cap),(4,i6 0),(5,i6 k),(14,pt r6 0)]∧S κ (ai g 221 #[.map (some m)]::(bx enE eN m r6 (fD (fun p=>pr p.1) d l) d)::L) (I) w_) (fun _ w_=>l.length - (w_.iterSeen r6).size) ?_ ?_
 ·have hSn3:S κ (ai g 221 #[.map (some m)]::(bx enE eN m r6 (fD (fun p=>pr p.1) [] l) [])::L) (I) w6:=by rw [vq];exact hS6
  replace hSn3:=hSn3.fr 1
  replace hSn3:=hSn3.fr 1
  exact ⟨[],0,List.nodup_nil,(fun x hx=>by cases hx),Nat.zero_le _,hk.to,hSn3⟩
 clear hk hS6
 rintro a7 w7 ⟨d,k,hc0_0,hc0_1,hc0_2,hk,hS7⟩
 have hmu0:=S.rangeLen hS7 (i:=1) rfl
 refine sg [0] hk ?_
 refine eF (fun a_ h_=>g0 1 hS7 (ae rfl) rfl (h_.x hk) (fun hall=>⟨_,rfl,?_⟩) (fun p w9 hp hpd hS9=>⟨_,rfl,?_⟩))
 ·clear h_ a_
  refine T ?_
  refine rE [0,1,4,5,14,15,16] hk ?_
  clear hk
  intro a8 hk
  refine wp_seq ?_
  refine cF hk ?_
  refine wp_exit ?_
  refine sg [] hk ?_
  iterate 2 refine T ?_
  refine rE [4] hk ?_
  clear hk
  intro a10 hk
  refine wp_ret ?_
  refine rt1 hk (hR_ _ _ ?_)
  replace hS7:=hS7.fr 1
  replace hS7:=hS7.fr 1
  have hSe:=S.rangeEnd hS7 (i:=1) rfl
  rw [vo hall] at hSe
  exact ⟨_,rfl,fN hSe⟩
 clear h_ a_ hS7
 replace hS9:=hS9.nz 2
 refine T ?_
 refine rE [0,1,4,5,14,15,16] hk ?_
 clear hk
 intro a8 hk
 refine wp_seq ?_
 refine cT hk ?_
 refine wp_skip ?_
 refine wp_block ?_
 refine wp_seq ?_
 have hdl:d.length + 1 ≤ l.length:=by have h1:=eH (l:=p.1::d) (m:=l.map (·.1)) (List.nodup_cons.2 ⟨hpd,hc0_0⟩) (fun x hx=>by rcases List.mem_cons.1 hx with rfl | hx;exact List.mem_map_of_mem (gj hp);exact hc0_1 x hx);simpa using h1
 refine rgL [2,3] hk ?_
 refine rD (.tuple #[.agg #[i6 p.1.lan,i6 p.1.id,i6 p.1.k.kind,i6 p.1.k.id,i6 p.1.k.adv],i6 p.2]) (fun _ h_=>rk (er (ek:=enE) (ev:=eN) (x:=p.1) (u:=p.2) hS9 (i:=1) rfl hp rfl (h_.x hk))) ?_
 refine T ?_
 refine eA #[i6 0,i6 0,i6 0,i6 0,i6 0] hS9 (fun g12 w12 hS12 _=>?_)
 clear hS9
 refine eS 0 hk hS12 (fun w13 hS13 _=>?_)
 clear hS12
 refine rE [0,1,4,5,6,14,15,16,17,18] hk ?_
 clear hk
 intro a11 hk
 refine sg [2] hk ?_
 refine T ?_
 refine LDS 0 5 hk hS13 ?_
 refine eV hk (h:=(hcl _ _ p.1 hS13)) (k:=?_) (hf:=(hfn _ _))
 rintro e w15 ⟨rfl,hb15⟩
 refine ⟨_,rfl,?_⟩
 have hS15:=hS13.below hb15
 clear hS13 hb15
 refine rE [0,1,4,5,6,14,15,16,17,18,19,20,21] hk ?_
 clear hk
 intro a14 hk
 refine cB hk (fun hc21=>?_) (fun hc21=>?_)
 ·refine wp_seq ?_
  refine rgR [[],[0],[0,1],[0,1,2],[],[0,1,2,3,4]] [5] (.rd 0 (.rd 1 (.rd 2 (.rd 3 (.rd 4 (.ef 5 (.fin) .non)))))) hk hS15 (fun w16 hS16 _=>?_)
  clear hS15
  iterate 3 refine T ?_
  refine LD 1 hk hS16 ?_
  refine LDS 0 5 hk hS16 ?_
  refine eF (fun a_ h_=>pe (E:=3) 2 p.1 zQ hS16 (ae rfl) rfl (h_.x hk) (h_.x hk) fun w17 hS17=>⟨_,rfl,?_⟩)
  clear h_ a_ hS16
  replace hS17:=hS17.nz 3
  refine rE [0,1,4,5,6,14,15,16,17,18,19,20,22,23,24,25,26] hk ?_
  clear hk
  intro a16 hk
  refine rgL [] hk ?_
  refine T ?_
  refine rD (i6 (k + 1)) (fun _ h_=>rk (aD rfl (h_.x hk) rfl (by omega) rfl)) ?_
  refine T ?_
  refine rE [0,1,4,5,6,14,15,16,17,18,19,20,22,23,24,25,26,27,28] hk ?_
  clear hk
  intro a18 hk
  replace hS17:=hS17.drop
  replace hS17:=hS17.fr 1
  replace hS17:=hS17.fr 1
  rw [sU hln (gj hp) hc21] at hS17
  have hmuE:=S.rangeLen hS17 (i:=1) rfl
  refine ⟨⟨p.1::d,k + 1,List.nodup_cons.2 ⟨hpd,hc0_0⟩,(fun x hx=>by rcases List.mem_cons.1 hx with rfl | hx;exact List.mem_map_of_mem (gj hp);exact hc0_1 x hx),by simp only [List.length_cons];omega,hk.to,hS17⟩,?_⟩
  show l.length - (w17.iterSeen r6).size < l.length - (w7.iterSeen r6).size
  rw [hmuE,hmu0]
  simp only [List.length_cons]
  omega
 refine wp_skip ?_
 replace hS15:=hS15.drop
 replace hS15:=hS15.fr 1
 replace hS15:=hS15.fr 1
 rw [← leftL_keep hln (gj hp) hc21] at hS15
 have hmuE:=S.rangeLen hS15 (i:=1) rfl
 refine ⟨⟨p.1::d,k,List.nodup_cons.2 ⟨hpd,hc0_0⟩,(fun x hx=>by rcases List.mem_cons.1 hx with rfl | hx;exact List.mem_map_of_mem (gj hp);exact hc0_1 x hx),by simp only [List.length_cons];omega,hk.to,hS15⟩,?_⟩
 show l.length - (w15.iterSeen r6).size < l.length - (w7.iterSeen r6).size
 rw [hmuE,hmu0]
 simp only [List.length_cons]
 omega
theorem vZ (z:EnV) (k:KeyV) (b:Nat) (W:World) (hb:Blk W b 111 #[i6 k.kind,i6 k.id,i6 k.adv]):
    Calls Tryz.prog 190 #[.agg #[i6 z.lan,i6 z.id,i6 z.k.kind,i6 z.k.id,i6 z.k.adv],pt b 0] W (fun r w'=>r = .returned (.bool (decide (z.k = k)))∧Below W.heap.size W w'):=by
 have hS:=S.start W
 refine wK 8 Tryz.func190 (fun R_ hR_ a hk=>?_)
 refine sg [0] hk ?_
 refine eB hk hS (fun g3 w3 hS3 _=>?_)
 clear hS
 refine T ?_
 refine rE [1,2,3] hk ?_
 clear hk
 intro a2 hk
 refine sg [] hk ?_
 refine T ?_
 refine LDS 0 3 hk hS3 ?_
 refine rD (.agg #[i6 k.kind,i6 k.id,i6 k.adv]) (fun _ h_=>rk (lbS 3 (hb.below (hS3.old (by simp)) hb.lt) rfl (h_.x hk))) ?_
 refine rD (.bool (decide (z.k = k))) (fun _ h_=>rk (aq rfl (h_.x hk) (h_.x hk) (fun _=>by kernel_rfl) (wR z.k k))) ?_
 refine T ?_
 refine rE [3] hk ?_
 clear hk
 intro a4 hk
 refine wp_ret ?_
 refine rt1 hk (hR_ _ _ ?_)
 exact ⟨rfl,(hS3.old (by simp))⟩
theorem qb {κ:Kap} {L I:List Atom} (g:Nat) (k:KeyV) (l:List (EnV × Int)) (W:World) (hl:l.length ≤ 100000) (hS:S κ ((cO g l)::L) (I) W):
    Calls Tryz.prog 105 #[pt g 0,.agg #[i6 k.kind,i6 k.id,i6 k.adv]] W (fun r w'=>∃ n:Int,r = .returned (.int .i64 n)∧S κ (cO g (l.filter fun p=>!decide (p.1.k = k))::L) I w'):=by
 refine wK 8 Tryz.func105 (fun R_ hR_ a hk=>?_)
 refine sg [0] hk ?_
 refine eB hk hS (fun g3 w3 hS3 _=>?_)
 clear hS
 refine T ?_
 refine rE [0,3,4] hk ?_
 clear hk
 intro a2 hk
 refine sg [2] hk ?_
 refine T ?_
 refine rD (.func (.func 190) #[] #[pt g3 0]) (fun _ h_=>rk (bu rfl (by simp) (h_.map hk))) ?_
 have hSp:=hS3
 clear hS3
 replace hSp:=hSp.freeze
 refine eC hk (h:=nP g 190 #[pt g3 0] (fun z=>decide (z.k = k)) l _ hl (fun L' w z h=>vZ z k _ w (h.blkI (i:=0) rfl)) (fun _ _=>by kernel_rfl) hSp) (k:=?_)
 rintro e_ w5 ⟨k5,rfl,hS5⟩
 refine ⟨_,rfl,?_⟩
 clear hSp
 replace hS5:=hS5.dropI
 replace hS5:=hS5.nz 1
 refine T ?_
 refine rE [4] hk ?_
 clear hk
 intro a4 hk
 refine wp_ret ?_
 refine rt1 hk (hR_ _ _ ?_)
 exact ⟨_,rfl,hS5⟩
def bM (l:List (EnV × Int)) (k:KeyV):List (EnV × Int):=l.filter fun p=>!decide (p.1.k = k)
end
section
set_option maxRecDepth 100000
set_option maxHeartbeats 8000000
instance {h:HD}:Decidable (cP h):=by unfold cP;infer_instance
instance {x:LV}:Decidable (zL x):=by unfold zL;infer_instance
instance {d:DbS}:Decidable (dz d):=by unfold dz;infer_instance
def AH (lan:Int):Unit:=if (lan:Int) < 0 then () else if (3:Int) < lan then () else ()
theorem xJ {κ:Kap} {L I:List Atom} (P:RoP) (lan:Int) (s:RoS) (W:World) (hS:S κ (roA P s::L) (I) W):
    Calls Tryz.prog 27 #[pt P.g 0,i6 lan] W (fun r w'=>r = .returned (ptO (aL P.pts lan))∧S κ (roA P s::L) (I) w'):=by
 generalize ht:(AH lan) = t_
 refine wK 21 Tryz.func27 (fun R_ hR_ a hk=>?_)
 refine sg [] hk ?_
 refine T ?_
 refine rE [0,1] hk fun a hk=>?_
 refine wp_seq ?_
 refine sg [] hk ?_
 refine T ?_
 refine rD (.bool false) (fun _ h_=>rk (aq rfl (h_.x hk) rfl (fun _=>by kernel_rfl) (fun _=>rfl))) ?_
 iterate 5 refine T ?_
 rcases dt ((lan:Int) < 0) with ⟨he,hg6⟩ | ⟨he,hg6⟩
 ·rw [he]
  replace ht:=(if_pos hg6).symm.trans ht
  refine oF 6 11 false [7,8] ?_
  refine T ?_
  refine rE [0,1,14] hk fun a hk=>?_
  refine cT hk ?_
  refine sg [] hk ?_
  refine T ?_
  refine rE [4] hk fun a hk=>?_
  refine wp_ret ?_
  subst ht
  exact rt1 hk (hR_ _ _ ⟨(by first | (rw [gM (by omega)];done) | (rw [gM (by omega)];rfl)),hS⟩)
 rw [he]
 replace ht:=(if_neg hg6).symm.trans ht
 iterate 3 refine T ?_
 refine rE [0,1,14] hk fun a hk=>?_
 refine cD hk (fun hc14=>?_) (fun hc14=>?_)
 ·replace ht:=(if_pos hc14).symm.trans ht
  refine sg [] hk ?_
  refine T ?_
  refine rE [4] hk fun a hk=>?_
  refine wp_ret ?_
  subst ht
  exact rt1 hk (hR_ _ _ ⟨(by first | (rw [gM (by omega)];done) | (rw [gM (by omega)];rfl)),hS⟩)
 replace ht:=(if_neg hc14).symm.trans ht
 refine wp_skip ?_
 refine sg [] hk ?_
 iterate 4 refine T ?_
 refine rD (pt P.g (3 + lan.toNat)) (fun _ h_=>rk (gZ (n:=4) (size:=1) rfl (h_.x hk) (h_.x hk) (by kernel_rfl) (show 0 ≤ lan∧lan < 4 by omega) (by omega))) ?_
 obtain ⟨e2,hpl2,hS⟩:=ro_open hS
 refine rD (ptO (aL P.pts lan)) (fun _ h_=>rk (bB rfl (h_.x hk) (by kernel_rfl) (zu (hS.blk (i:=0) rfl) (show 0 ≤ lan∧lan < 4 by omega).1 (show 0 ≤ lan∧lan < 4 by omega).2 rfl rfl rfl rfl))) ?_
 refine T ?_
 refine rE [4] hk fun a hk=>?_
 refine wp_ret ?_
 replace hS:=ak (x:=s) (e:=⟨e2.A,e2.c⟩) hpl2 hS
 subst ht
 exact rt1 hk (hR_ _ _ ⟨rfl,hS⟩)
def oY (lan:Int) (s:RoS):Option (VwV × Bool):=ji (aL s.ports lan) (some ((⟨0,0,(⟨0,0,0,0,0⟩:IfV),[],[]⟩:VwV),false)) fun x5=>aJ (kw lan s) fun q6=>some (q6,true)
theorem qa {κ:Kap} {L I:List Atom} (P:RoP) (lan:Int) (s:RoS) (W:World) {r_:VwV × Bool} (ht:(oY lan s) = some r_) (hS:S κ (roA P s::L) (I) W):
    Calls Tryz.prog 12 #[pt P.g 0,i6 lan] W (fun r w'=>∃ e0:SlP × SlP,r = .returned (.tuple #[.agg #[i6 r_.1.lan,i6 r_.1.cost,i6 r_.1.i.self,i6 r_.1.i.prio,i6 r_.1.i.state,i6 r_.1.i.dr,i6 r_.1.i.bdr,.slice e0.1.A r_.1.peers.length e0.1.c,.slice e0.2.A r_.1.wants.length e0.2.c],.bool r_.2])∧S κ (aa (.slice e0.1.A r_.1.peers.length e0.1.c) 90 7 r_.1.peers.length (ab PeV.cells r_.1.peers)::aa (.slice e0.2.A r_.1.wants.length e0.2.c) 186 8 r_.1.wants.length (ab WtV.cells r_.1.wants)::roA P s::L) (I) w'):=by
 refine wK 16 Tryz.func12 (fun R_ hR_ a hk=>?_)
 refine sg [0] hk ?_
 refine eA #[i6 0,i6 0,i6 0,i6 0,i6 0,i6 0,i6 0,.slice none 0 0,.slice none 0 0] hS (fun g2 w hS _=>?_)
 refine T ?_
 refine rE [0,1,4] hk fun a hk=>?_
 refine sg [2] hk ?_
 iterate 2 refine T ?_
 replace hS:=hS.pk [1] 0
 refine eC hk (h:=xJ P lan s _ hS) (k:=?_)
 rintro _ w ⟨rfl,hS⟩
 refine ⟨_,rfl,?_⟩
 replace hS:=hS.nz 2
 refine T ?_
 refine rE [0,4,6] hk fun a hk=>?_
 refine wp_seq ?_
 refine sg [] hk ?_
 refine T ?_
 obtain ⟨e4,hpl4,hS⟩:=ro_open hS
 replace hS:=hS.fr 1
 rcases fh lan (by rw [du];first | assumption | (simpa using hpl4)) hS with ⟨hq5,hs5,hS⟩ | ⟨g5,x5,hq5,hs5,hS⟩
 ·replace ht:=(fG hs5).symm.trans ht
  rw [hq5] at hk
  replace hk:Fr a 16 [(0,pt P.g 0),(4,pt g2 0),(6,.pointer none)]:=hk.to
  refine rwV 0 (ptO (aL P.pts lan)) (.pointer none) (by rw [hq5];rfl) ?_
  refine rD (.bool true) (fun _ h_=>rk (aq rfl (h_.x hk) rfl (fun _=>by kernel_rfl) (fun _=>rfl))) ?_
  refine rE [0,4,6,11] hk fun a hk=>?_
  refine cT hk ?_
  refine sg [1] hk ?_
  refine rD (.agg #[i6 0,i6 0,i6 0,i6 0,i6 0,i6 0,i6 0,.slice none 0 0,.slice none 0 0]) (fun _ h_=>rk (af rfl (h_.prt hk) (by kernel_rfl))) ?_
  refine eS 9 hk hS (fun w hS _=>?_)
  refine T ?_
  refine rE [4,5] hk fun a hk=>?_
  refine wp_ret ?_
  have hCb:=hS.blk (i:=9) rfl
  replace hS:=hS.pk [1,0,0,0,0,0,0,0,0] 0
  replace hS:=ak (x:=s) (e:=⟨e4.A,e4.c⟩) hpl4 hS
  have hS:=hS.nilrow 90 7
  replace hS:=hS.nz 3
  have hS:=hS.nilrow 186 8
  replace hS:=hS.nz 4
  replace hS:=hS.pk [1,0,0] 1
  obtain rfl:=Option.some.inj ht
  exact gs hk hCb (hR_ _ _ ⟨(⟨⟨none,0⟩,⟨none,0⟩⟩:SlP × SlP),rfl,hS⟩) Tryz.underlying39
 ·replace ht:=(fH hs5).symm.trans ht
  rw [hq5] at hk
  replace hk:Fr a 16 [(0,pt P.g 0),(4,pt g2 0),(6,pt g5 0)]:=hk.to
  refine rwV 0 (ptO (aL P.pts lan)) (pt g5 0) (by rw [hq5];rfl) ?_
  refine rD (.bool false) (fun _ h_=>rk (aq rfl (h_.x hk) rfl (fun _=>by kernel_rfl) (fun _=>rfl))) ?_
  refine rE [0,4,6,11] hk fun a hk=>?_
  refine cF hk ?_
  refine wp_skip ?_
  refine sg [2,3] hk ?_
  iterate 2 refine T ?_
  replace hS:=bo hq5 hs5 hS
  replace hS:=hS.pk [1,0,0,0,0,0,0,0,0] 0
  replace hS:=ak (x:=s) (e:=⟨e4.A,e4.c⟩) hpl4 hS
  obtain ⟨q6,hq6,ht⟩:=ao ht
  refine eC hk (h:=nM P g5 lan s _ hq5 hq6 hS) (k:=?_)
  rintro _ w ⟨e06,rfl,hS⟩
  refine ⟨_,rfl,?_⟩
  replace hS:=hS.nz 4
  refine eS 3 hk hS (fun w hS _=>?_)
  refine T ?_
  refine rE [4,5] hk fun a hk=>?_
  refine wp_ret ?_
  have hCb:=hS.blk (i:=3) rfl
  replace hS:=hS.pk [0,0,0] 1
  obtain rfl:=Option.some.inj ht
  exact gs hk hCb (hR_ _ _ ⟨e06,rfl,hS⟩) Tryz.underlying39
def mB (s:RoS):Option ((List LV)):=if dz s.db then if s.db.l.length ≤ 100000 then bw (cS s.db.l) fun q3=>some q3 else none else none
theorem tz {κ:Kap} {L I:List Atom} (P:RoP) (s:RoS) (W:World) {r_:(List LV)} (ht:(mB s) = some r_) (hS:S κ (roA P s::L) (I) W):
    Calls Tryz.prog 16 #[pt P.g 0] W (fun r w'=>∃ B0 d0,r = .returned (.slice B0 r_.length d0)∧S κ (crA lsFn 66 B0 d0 r_::roA P s::L) (I) w'):=by
 refine wK 10 Tryz.func16 (fun R_ hR_ a hk=>?_)
 refine sg [] hk ?_
 refine T ?_
 refine rE [0] hk fun a hk=>?_
 refine wp_seq ?_
 refine sg [] hk ?_
 refine T ?_
 refine rD (.bool false) (fun _ h_=>rk (aq rfl (h_.x hk) rfl (fun _=>by kernel_rfl) (fun _=>rfl))) ?_
 refine rE [0,4] hk fun a hk=>?_
 refine cF hk ?_
 refine wp_skip ?_
 refine sg [4] hk ?_
 iterate 3 refine T ?_
 obtain ⟨e2,hpl2,hS⟩:=ro_open hS
 refine LD 0 hk hS ?_
 replace hS:=hS.pk [4] 0
 obtain ⟨hgd4,ht⟩:=gdE ht
 obtain ⟨hgd5,ht⟩:=gdE ht
 refine eC hk (h:=kS P.dg s.db _ hgd4 hgd5 hS) (k:=?_)
 rintro _ w ⟨B03,d03,rfl,hS⟩
 refine ⟨_,rfl,?_⟩
 generalize hq3:cS s.db.l = q3 at hS ⊢
 replace ht:=(am hq3).symm.trans ht
 replace hS:=hS.nz 10
 refine T ?_
 refine rE [2] hk fun a hk=>?_
 refine wp_ret ?_
 replace hS:=hS.pk [2,2,2,2,1,1,1,1,1] 0
 replace hS:=ak (x:=s) (e:=⟨e2.A,e2.c⟩) hpl2 hS
 replace hS:=hS.pk [1,0] 0
 obtain rfl:=Option.some.inj ht
 exact rt1 hk (hR_ _ _ ⟨_,_,rfl,hS⟩)
def l5:List PeV → Option (Unit)
  | []=>some ()
  | z11::xs11=>none
def rA:List PeV → Option (Unit)
  | []=>some ()
  | z20::xs20=>none
def rB:List PeV → Option (Unit)
  | []=>some ()
  | z30::xs30=>none
def iH (pk:Int) (ev:Int) (s:RoS):Option (RoS):=aJ (aL s.ports pk) fun x3=>bw (jk x3.p) fun q5=>if q5.length ≤ 90000 then bw (bG x3.i ev q5) fun q7=>cond q7.2 (bw (fW x3.p) fun q10=>aJ (l5 q10) fun r11=>some ({ s with ports:=s.ports.set (pk).toNat (some ({ x3 with i:=q7.1 })) })) (some s) else none
theorem rC {κ:Kap} {L I:List Atom} (P:RoP) (pg:Nat) (pk:Int) (ev:Int) (s:RoS) (W:World) (hq_pg:aL P.pts pk = some pg) {r_:RoS} (ht:(iH pk ev s) = some r_) (hS:S κ (roA P s::L) (I) W):
    Calls Tryz.prog 28 #[pt P.g 0,pt pg 0,i6 ev] W (fun r w'=>r = .returned (.tuple #[])∧S κ (roA P r_::L) (I) w'):=by
 refine wK 46 Tryz.func28 (fun R_ hR_ a hk=>?_)
 refine wp_seq ?_
 refine rgR [[],[0],[0,1],[0,1,2],[],[],[5],[5,6],[5,6,7],[5,6,7,8],[0,1,2,3,4,5,6,7,8,9],[0,1,2,3,4,5,6,7,8,9,10],[0,1,2,3,4,5,6,7,8,9,10,11],[0,1,2,3,4,5,6,7,8,9,10,11],[],[0,1,2,3,4,5,6,7,8,9,10,11,12,14],[0,1,2,3,4,5,6,7,8,9,10,11,12,13,14,15]] [9,10,14,15] (.rd 0 (.rd 1 (.rd 2 (.rd 3 (.rd 4 (.rd 5 (.rd 6 (.rd 7 (.rd 8 (.ef 9 (.ag 0 (.ag 1 (.ag 2 (.ag 3 (.ag 4 (.ef 10 (.rd 11 (.rd 12 (.rd 13 (.ef 14 (.ag 11 (.ag 12 (.ag 13 (.ef 15 (.ag 13 (.rd 16 (.fin))) .non)))) .non)))) (.ef 14 (.ag 0 (.ag 1 (.ag 2 (.ag 3 (.ag 4 (.ef 10 (.rd 11 (.rd 12 (.rd 13 (.ef 15 (.ag 13 (.rd 16 (.fin))) .non)))) .non)))))) .non))))))) (.ef 14 (.ag 0 (.ag 1 (.ag 2 (.ag 3 (.ag 4 (.ag 5 (.ag 6 (.ag 7 (.ag 8 (.ef 9 (.ag 0 (.ag 1 (.ag 2 (.ag 3 (.ag 4 (.ef 10 (.rd 11 (.rd 12 (.rd 13 (.ef 15 (.ag 13 (.rd 16 (.fin))) .non)))) .non)))))) .non)))))))))) .non))))))))))) hk hS (fun w hS _=>?_)
 iterate 3 refine T ?_
 obtain ⟨e2,hpl2,hS⟩:=ro_open hS
 obtain ⟨x3,hs3,ht⟩:=ao ht
 replace hS:=hS.fr 1
 replace hS:=py hq_pg hs3 (by rw [du];first | assumption | (simpa using hpl2)) hS
 obtain ⟨e4,hS⟩:=dK hS
 refine LDS 0 5 hk hS ?_
 iterate 4 refine T ?_
 refine LD 0 hk hS ?_
 refine efk ?_ ?_
 ·replace hS:=hS.pk [1] 0
  refine eC hk (h:=iB e4 x3.p _ hS) (k:=?_)
  rintro _ w ⟨B05,d05,rfl,hS⟩
  refine ⟨_,rfl,?_⟩
  generalize hq5:jk x3.p = q5 at hS ⊢
  replace ht:=(am hq5).symm.trans ht
  replace hS:=hS.nz 12
  iterate 3 refine TA ?_
  refine aG (fun _ h_=>rk (lbS 5 (hS.blk (i:=2) rfl) rfl (h_.x hk))) ?_
  refine TA ?_
  refine efk ?_ ?_
  ·obtain ⟨J6,hS,hJ6⟩:=S.lend (M:=[_]) hS
   obtain ⟨hgd8,ht⟩:=gdE ht
   refine eC hk (h:=jG x3.i ev q5 B05 d05 _ hgd8 hS) (k:=?_)
   rintro _ w ⟨rfl,hS⟩
   refine ⟨_,rfl,?_⟩
   generalize hq7:bG x3.i ev q5 = q7 at hS ⊢
   replace ht:=(am hq7).symm.trans ht
   replace hS:=hJ6 _ _ hS
   replace hS:=hS.nz 12
   iterate 3 refine T ?_
   refine eA #[i6 0,i6 0,i6 0,i6 0,i6 0] hS (fun g9 w hS _=>?_)
   iterate 3 refine TA ?_
   refine eS 0 hk hS (fun w hS _=>?_)
   refine TA ?_
   refine T ?_
   refine rE [0,1,6,7] hk fun a hk=>?_
   refine wp_seq ?_
   refine sg [] hk ?_
   iterate 2 refine T ?_
   refine rE [0,1,6,25] hk fun a hk=>?_
   refine cB hk (fun hc25=>?_) (fun hc25=>?_)
   ·replace hc25:=nbt hc25
    replace ht:=(bF hc25).symm.trans ht
    refine wp_ret ?_
    replace hS:=hS.pk [3,2] 0
    replace hS:=aS (x:=x3) (e:=e4) hS
    replace hS:=hS.pk [0,2] 0
    replace hS:=bo hq_pg hs3 hS
    replace hS:=hS.pk [3,0,2,2,2,2,2,2,2] 0
    replace hS:=ak (x:=s) (e:=⟨e2.A,e2.c⟩) hpl2 hS
    replace hS:=hS.pk [0] 2
    obtain rfl:=Option.some.inj ht
    exact rt0 hk (hR_ _ _ ⟨rfl,hS⟩)
   replace hc25:=nbf hc25
   replace ht:=(bT hc25).symm.trans ht
   refine wp_skip ?_
   refine sg [4] hk ?_
   refine T ?_
   refine LDS 0 5 hk hS ?_
   iterate 2 refine T ?_
   refine eS 3 hk hS (fun w hS _=>?_)
   refine rE [0,1] hk fun a hk=>?_
   refine sg [4] hk ?_
   iterate 3 refine T ?_
   refine LD 3 hk hS ?_
   replace hS:=hS.pk [2] 0
   refine eC hk (h:=cu e4 x3.p _ hS) (k:=?_)
   rintro _ w ⟨B010,d010,rfl,hS⟩
   refine ⟨_,rfl,?_⟩
   generalize hq10:fW x3.p = q10 at hS ⊢
   replace ht:=(am hq10).symm.trans ht
   replace hS:=hS.nz 14
   iterate 2 refine T ?_
   refine rE [0,1,34,35,36] hk fun a hk=>?_
   replace hS:=hS.pk [4,1] 0
   replace hS:=aS (x:={ x3 with i:=q7.1 }) (e:=e4) hS
   replace hS:=hS.pk [0,3] 0
   replace hS:=jZ (y:={ x3 with i:=q7.1 }) hq_pg hs3 hS
   have hs12:=k7 ({ x3 with i:=q7.1 }) hs3
   replace hS:=hS.pk [4,0,3,3,3,3,3,3,3] 0
   replace hS:=ak (x:={ s with ports:=s.ports.set (pk).toNat (some ({ x3 with i:=q7.1 })) }) (e:=⟨e2.A,e2.c⟩) (by first | assumption | simpa using hpl2) hS
   obtain ⟨r11,hr11,ht⟩:=ao ht
   refine aB (fun a_ w_=>Fr a_ 46 []∧S κ ((roA P ({ s with ports:=s.ports.set (pk).toNat (some ({ x3 with i:=q7.1 })) }))::aa (.slice B010 q10.length d010) 90 7 q10.length (ab PeV.cells q10)::ai g9 35 #[i6 q7.1.self,i6 q7.1.prio,i6 q7.1.state,i6 q7.1.dr,i6 q7.1.bdr]::aa (.slice B05 q5.length d05) 161 4 q5.length (ab CdV.cells q5)::L) (I) w_) ?_ ?_
   ·refine wp_block ?_
    refine wp_loop (fun a_ w_=>∃ k11:Nat,(k11 ≤ (q10).length)∧l5 ((q10).drop k11) = some r11∧Fr a_ 46 [(0,pt P.g 0),(1,pt pg 0),(34,.slice B010 q10.length d010),(35,i6 ((q10.length:Nat):Int)),(36,i6 k11)]∧S κ ((roA P ({ s with ports:=s.ports.set (pk).toNat (some ({ x3 with i:=q7.1 })) }))::aa (.slice B010 q10.length d010) 90 7 q10.length (ab PeV.cells q10)::ai g9 35 #[i6 q7.1.self,i6 q7.1.prio,i6 q7.1.state,i6 q7.1.dr,i6 q7.1.bdr]::aa (.slice B05 q5.length d05) 161 4 q5.length (ab CdV.cells q5)::L) (I) w_) (fun a_ _=>(q10).length - (intOf (sl a_ 36)).toNat) ?_ ?_
    ·exact ⟨0,Nat.zero_le _,hr11,hk.to,hS⟩
    clear hk hS
    rintro aL11 w ⟨k11,hkl11,hI11,hk,hS⟩
    have hmu11:=hk.g (s:=36)
    have hlb11:=hS.rowB (i:=1) rfl
    refine sg [] hk ?_
    refine T ?_
    refine rE [0,1,34,35,36,37] hk fun a hk=>?_
    refine wp_seq ?_
    refine cD hk (fun hc37=>?_) (fun hc37=>?_)
    ·obtain ⟨z11,hz11⟩:=cq (show k11 < (q10).length by omega)
     rw [aF hz11] at hI11
     refine wp_skip ?_
     refine wp_seq ?_
     refine wp_block ?_
     refine sg [2,3] hk ?_
     refine dX PeV.cells_len' hk (hS.rd (i:=1) rfl) (fun b13 o13 z13 hz13 hq13=>?_)
     obtain rfl:z11 = z13:=Option.some.inj (hz11.symm.trans hz13)
     refine dV 7 hq13 hk ?_
     refine eA #[i6 0,i6 0,i6 0,i6 0,i6 0,.bool false,i6 0] hS (fun g14 w hS _=>?_)
     refine eS 0 hk hS (fun w hS _=>?_)
     refine rE [0,1,9,34,35,36] hk fun a hk=>?_
     cases hI11
    obtain rfl:k11 = (q10).length:=by omega
    rw [ax (Nat.le_refl _)] at hI11
    refine wp_exit ?_
    obtain rfl:=Option.some.inj hI11
    exact ⟨hk.to,hS⟩
   rintro a w ⟨hk,hS⟩
   replace hS:=hS.pk [0] 3
   obtain rfl:=Option.some.inj ht
   exact rt0 hk (hR_ _ _ ⟨rfl,hS⟩)
  refine eA #[i6 0,i6 0,i6 0,i6 0,i6 0] hS (fun g15 w hS _=>?_)
  iterate 3 refine TA ?_
  refine aG (fun _ h_=>rk (lbS 5 (hS.blk (i:=3) rfl) rfl (h_.x hk))) ?_
  refine TA ?_
  replace hS:=hS.pk [1] 0
  obtain ⟨J16,hS,hJ16⟩:=S.lend (M:=[_]) hS
  obtain ⟨hgd18,ht⟩:=gdE ht
  refine eC hk (h:=jG x3.i ev q5 B05 d05 _ hgd18 hS) (k:=?_)
  rintro _ w ⟨rfl,hS⟩
  refine ⟨_,rfl,?_⟩
  generalize hq17:bG x3.i ev q5 = q17 at hS ⊢
  replace ht:=(am hq17).symm.trans ht
  replace hS:=hJ16 _ _ hS
  replace hS:=hS.nz 13
  iterate 3 refine T ?_
  refine eS 1 hk hS (fun w hS _=>?_)
  refine TA ?_
  refine T ?_
  refine rE [0,1,6,7] hk fun a hk=>?_
  refine wp_seq ?_
  refine sg [] hk ?_
  iterate 2 refine T ?_
  refine rE [0,1,6,25] hk fun a hk=>?_
  refine cB hk (fun hc25=>?_) (fun hc25=>?_)
  ·replace hc25:=nbt hc25
   replace ht:=(bF hc25).symm.trans ht
   refine wp_ret ?_
   replace hS:=hS.pk [3,2] 0
   replace hS:=aS (x:=x3) (e:=e4) hS
   replace hS:=hS.pk [0,2] 0
   replace hS:=bo hq_pg hs3 hS
   replace hS:=hS.pk [3,0,2,2,2,2,2,2,2] 0
   replace hS:=ak (x:=s) (e:=⟨e2.A,e2.c⟩) hpl2 hS
   replace hS:=hS.pk [0] 2
   obtain rfl:=Option.some.inj ht
   exact rt0 hk (hR_ _ _ ⟨rfl,hS⟩)
  replace hc25:=nbf hc25
  replace ht:=(bT hc25).symm.trans ht
  refine wp_skip ?_
  refine sg [4] hk ?_
  refine T ?_
  refine LDS 1 5 hk hS ?_
  iterate 2 refine T ?_
  refine eS 3 hk hS (fun w hS _=>?_)
  refine rE [0,1] hk fun a hk=>?_
  refine sg [4] hk ?_
  iterate 3 refine T ?_
  refine LD 3 hk hS ?_
  replace hS:=hS.pk [2] 0
  refine eC hk (h:=cu e4 x3.p _ hS) (k:=?_)
  rintro _ w ⟨B019,d019,rfl,hS⟩
  refine ⟨_,rfl,?_⟩
  generalize hq19:fW x3.p = q19 at hS ⊢
  replace ht:=(am hq19).symm.trans ht
  replace hS:=hS.nz 14
  iterate 2 refine T ?_
  refine rE [0,1,34,35,36] hk fun a hk=>?_
  replace hS:=hS.pk [4,1] 0
  replace hS:=aS (x:={ x3 with i:=q17.1 }) (e:=e4) hS
  replace hS:=hS.pk [0,3] 0
  replace hS:=jZ (y:={ x3 with i:=q17.1 }) hq_pg hs3 hS
  have hs21:=k7 ({ x3 with i:=q17.1 }) hs3
  replace hS:=hS.pk [4,0,3,3,3,3,3,3,3] 0
  replace hS:=ak (x:={ s with ports:=s.ports.set (pk).toNat (some ({ x3 with i:=q17.1 })) }) (e:=⟨e2.A,e2.c⟩) (by first | assumption | simpa using hpl2) hS
  obtain ⟨r20,hr20,ht⟩:=ao ht
  refine aB (fun a_ w_=>Fr a_ 46 []∧S κ ((roA P ({ s with ports:=s.ports.set (pk).toNat (some ({ x3 with i:=q17.1 })) }))::aa (.slice B019 q19.length d019) 90 7 q19.length (ab PeV.cells q19)::aa (.slice B05 q5.length d05) 161 4 q5.length (ab CdV.cells q5)::ai g15 35 #[i6 q17.1.self,i6 q17.1.prio,i6 q17.1.state,i6 q17.1.dr,i6 q17.1.bdr]::L) (I) w_) ?_ ?_
  ·refine wp_block ?_
   refine wp_loop (fun a_ w_=>∃ k20:Nat,(k20 ≤ (q19).length)∧rA ((q19).drop k20) = some r20∧Fr a_ 46 [(0,pt P.g 0),(1,pt pg 0),(34,.slice B019 q19.length d019),(35,i6 ((q19.length:Nat):Int)),(36,i6 k20)]∧S κ ((roA P ({ s with ports:=s.ports.set (pk).toNat (some ({ x3 with i:=q17.1 })) }))::aa (.slice B019 q19.length d019) 90 7 q19.length (ab PeV.cells q19)::aa (.slice B05 q5.length d05) 161 4 q5.length (ab CdV.cells q5)::ai g15 35 #[i6 q17.1.self,i6 q17.1.prio,i6 q17.1.state,i6 q17.1.dr,i6 q17.1.bdr]::L) (I) w_) (fun a_ _=>(q19).length - (intOf (sl a_ 36)).toNat) ?_ ?_
   ·exact ⟨0,Nat.zero_le _,hr20,hk.to,hS⟩
   clear hk hS
   rintro aL20 w ⟨k20,hkl20,hI20,hk,hS⟩
   have hmu20:=hk.g (s:=36)
   have hlb20:=hS.rowB (i:=1) rfl
   refine sg [] hk ?_
   refine T ?_
   refine rE [0,1,34,35,36,37] hk fun a hk=>?_
   refine wp_seq ?_
   refine cD hk (fun hc37=>?_) (fun hc37=>?_)
   ·obtain ⟨z20,hz20⟩:=cq (show k20 < (q19).length by omega)
    rw [aF hz20] at hI20
    refine wp_skip ?_
    refine wp_seq ?_
    refine wp_block ?_
    refine sg [2,3] hk ?_
    refine dX PeV.cells_len' hk (hS.rd (i:=1) rfl) (fun b22 o22 z22 hz22 hq22=>?_)
    obtain rfl:z20 = z22:=Option.some.inj (hz20.symm.trans hz22)
    refine dV 7 hq22 hk ?_
    refine eA #[i6 0,i6 0,i6 0,i6 0,i6 0,.bool false,i6 0] hS (fun g23 w hS _=>?_)
    refine eS 0 hk hS (fun w hS _=>?_)
    refine rE [0,1,9,34,35,36] hk fun a hk=>?_
    cases hI20
   obtain rfl:k20 = (q19).length:=by omega
   rw [ax (Nat.le_refl _)] at hI20
   refine wp_exit ?_
   obtain rfl:=Option.some.inj hI20
   exact ⟨hk.to,hS⟩
  rintro a w ⟨hk,hS⟩
  replace hS:=hS.pk [0] 3
  obtain rfl:=Option.some.inj ht
  exact rt0 hk (hR_ _ _ ⟨rfl,hS⟩)
 refine eA #[i6 0,i6 0,i6 0,i6 0,i6 0] hS (fun g24 w hS _=>?_)
 iterate 3 refine TA ?_
 refine aG (fun _ h_=>rk (lbS 5 (hS.blk (i:=1) rfl) rfl (h_.x hk))) ?_
 iterate 4 refine TA ?_
 refine aG (fun _ h_=>rk (ld hS 1 rfl (h_.x hk))) ?_
 replace hS:=hS.pk [2] 0
 refine eC hk (h:=iB e4 x3.p _ hS) (k:=?_)
 rintro _ w ⟨B025,d025,rfl,hS⟩
 refine ⟨_,rfl,?_⟩
 generalize hq25:jk x3.p = q25 at hS ⊢
 replace ht:=(am hq25).symm.trans ht
 replace hS:=hS.nz 13
 iterate 3 refine TA ?_
 refine aG (fun _ h_=>rk (lbS 5 (hS.blk (i:=3) rfl) rfl (h_.x hk))) ?_
 refine TA ?_
 obtain ⟨J26,hS,hJ26⟩:=S.lend (M:=[_]) hS
 obtain ⟨hgd28,ht⟩:=gdE ht
 refine eC hk (h:=jG x3.i ev q25 B025 d025 _ hgd28 hS) (k:=?_)
 rintro _ w ⟨rfl,hS⟩
 refine ⟨_,rfl,?_⟩
 generalize hq27:bG x3.i ev q25 = q27 at hS ⊢
 replace ht:=(am hq27).symm.trans ht
 replace hS:=hJ26 _ _ hS
 replace hS:=hS.nz 13
 iterate 3 refine T ?_
 refine eS 2 hk hS (fun w hS _=>?_)
 refine TA ?_
 refine T ?_
 refine rE [0,1,6,7] hk fun a hk=>?_
 refine wp_seq ?_
 refine sg [] hk ?_
 iterate 2 refine T ?_
 refine rE [0,1,6,25] hk fun a hk=>?_
 refine cB hk (fun hc25=>?_) (fun hc25=>?_)
 ·replace hc25:=nbt hc25
  replace ht:=(bF hc25).symm.trans ht
  refine wp_ret ?_
  replace hS:=hS.pk [3,1] 0
  replace hS:=aS (x:=x3) (e:=e4) hS
  replace hS:=hS.pk [0,2] 0
  replace hS:=bo hq_pg hs3 hS
  replace hS:=hS.pk [3,0,2,2,2,2,2,2,2] 0
  replace hS:=ak (x:=s) (e:=⟨e2.A,e2.c⟩) hpl2 hS
  replace hS:=hS.pk [0] 2
  obtain rfl:=Option.some.inj ht
  exact rt0 hk (hR_ _ _ ⟨rfl,hS⟩)
 replace hc25:=nbf hc25
 replace ht:=(bT hc25).symm.trans ht
 refine wp_skip ?_
 refine sg [4] hk ?_
 refine T ?_
 refine LDS 2 5 hk hS ?_
 iterate 2 refine T ?_
 refine eS 3 hk hS (fun w hS _=>?_)
 refine rE [0,1] hk fun a hk=>?_
 refine sg [4] hk ?_
 iterate 3 refine T ?_
 refine LD 3 hk hS ?_
 replace hS:=hS.pk [1] 0
 refine eC hk (h:=cu e4 x3.p _ hS) (k:=?_)
 rintro _ w ⟨B029,d029,rfl,hS⟩
 refine ⟨_,rfl,?_⟩
 generalize hq29:fW x3.p = q29 at hS ⊢
 replace ht:=(am hq29).symm.trans ht
 replace hS:=hS.nz 14
 iterate 2 refine T ?_
 refine rE [0,1,34,35,36] hk fun a hk=>?_
 replace hS:=hS.pk [4,1] 0
 replace hS:=aS (x:={ x3 with i:=q27.1 }) (e:=e4) hS
 replace hS:=hS.pk [0,3] 0
 replace hS:=jZ (y:={ x3 with i:=q27.1 }) hq_pg hs3 hS
 have hs31:=k7 ({ x3 with i:=q27.1 }) hs3
 replace hS:=hS.pk [4,0,3,3,3,3,3,3,3] 0
 replace hS:=ak (x:={ s with ports:=s.ports.set (pk).toNat (some ({ x3 with i:=q27.1 })) }) (e:=⟨e2.A,e2.c⟩) (by first | assumption | simpa using hpl2) hS
 obtain ⟨r30,hr30,ht⟩:=ao ht
 refine aB (fun a_ w_=>Fr a_ 46 []∧S κ ((roA P ({ s with ports:=s.ports.set (pk).toNat (some ({ x3 with i:=q27.1 })) }))::aa (.slice B029 q29.length d029) 90 7 q29.length (ab PeV.cells q29)::aa (.slice B025 q25.length d025) 161 4 q25.length (ab CdV.cells q25)::ai g24 35 #[i6 q27.1.self,i6 q27.1.prio,i6 q27.1.state,i6 q27.1.dr,i6 q27.1.bdr]::L) (I) w_) ?_ ?_
 ·refine wp_block ?_
  refine wp_loop (fun a_ w_=>∃ k30:Nat,(k30 ≤ (q29).length)∧rB ((q29).drop k30) = some r30∧Fr a_ 46 [(0,pt P.g 0),(1,pt pg 0),(34,.slice B029 q29.length d029),(35,i6 ((q29.length:Nat):Int)),(36,i6 k30)]∧S κ ((roA P ({ s with ports:=s.ports.set (pk).toNat (some ({ x3 with i:=q27.1 })) }))::aa (.slice B029 q29.length d029) 90 7 q29.length (ab PeV.cells q29)::aa (.slice B025 q25.length d025) 161 4 q25.length (ab CdV.cells q25)::ai g24 35 #[i6 q27.1.self,i6 q27.1.prio,i6 q27.1.state,i6 q27.1.dr,i6 q27.1.bdr]::L) (I) w_) (fun a_ _=>(q29).length - (intOf (sl a_ 36)).toNat) ?_ ?_
  ·exact ⟨0,Nat.zero_le _,hr30,hk.to,hS⟩
  clear hk hS
  rintro aL30 w ⟨k30,hkl30,hI30,hk,hS⟩
  have hmu30:=hk.g (s:=36)
  have hlb30:=hS.rowB (i:=1) rfl
  refine sg [] hk ?_
  refine T ?_
  refine rE [0,1,34,35,36,37] hk fun a hk=>?_
  refine wp_seq ?_
  refine cD hk (fun hc37=>?_) (fun hc37=>?_)
  ·obtain ⟨z30,hz30⟩:=cq (show k30 < (q29).length by omega)
   rw [aF hz30] at hI30
   refine wp_skip ?_
   refine wp_seq ?_
   refine wp_block ?_
   refine sg [2,3] hk ?_
   refine dX PeV.cells_len' hk (hS.rd (i:=1) rfl) (fun b32 o32 z32 hz32 hq32=>?_)
   obtain rfl:z30 = z32:=Option.some.inj (hz30.symm.trans hz32)
   refine dV 7 hq32 hk ?_
   refine eA #[i6 0,i6 0,i6 0,i6 0,i6 0,.bool false,i6 0] hS (fun g33 w hS _=>?_)
   refine eS 0 hk hS (fun w hS _=>?_)
   refine rE [0,1,9,34,35,36] hk fun a hk=>?_
   cases hI30
  obtain rfl:k30 = (q29).length:=by omega
  rw [ax (Nat.le_refl _)] at hI30
  refine wp_exit ?_
  obtain rfl:=Option.some.inj hI30
  exact ⟨hk.to,hS⟩
 rintro a w ⟨hk,hS⟩
 replace hS:=hS.pk [0] 3
 obtain rfl:=Option.some.inj ht
 exact rt0 hk (hR_ _ _ ⟨rfl,hS⟩)
def uw (s:RoS):Option (Bool):=aJ (gr s) fun q2=>some (wG q2)
theorem tw {κ:Kap} {L I:List Atom} (P:RoP) (s:RoS) (W:World) {r_:Bool} (ht:(uw s) = some r_) (hS:S κ (roA P s::L) (I) W):
    Calls Tryz.prog 51 #[pt P.g 0] W (fun r w'=>r = .returned (.bool r_)∧S κ (roA P s::L) (I) w'):=by
 refine wK 6 Tryz.func51 (fun R_ hR_ a hk=>?_)
 refine sg [] hk ?_
 refine T ?_
 refine rE [0] hk fun a hk=>?_
 refine sg [1,2] hk ?_
 refine T ?_
 obtain ⟨q2,hq2,ht⟩:=ao ht
 refine eC hk (h:=f0 P s _ hq2 hS) (k:=?_)
 rintro _ w ⟨B02,d02,rfl,hS⟩
 refine ⟨_,rfl,?_⟩
 replace hS:=hS.nz 2
 obtain ⟨J3,hS,hJ3⟩:=S.lend (M:=[_]) hS
 refine eC hk (h:=wH q2 B02 d02 _ hS) (k:=?_)
 rintro _ w ⟨rfl,hS⟩
 refine ⟨_,rfl,?_⟩
 replace hS:=hJ3 _ _ hS
 replace hS:=hS.nz 2
 refine T ?_
 refine rE [2] hk fun a hk=>?_
 refine wp_ret ?_
 replace hS:=hS.pk [1] 1
 obtain rfl:=Option.some.inj ht
 exact rt1 hk (hR_ _ _ ⟨rfl,hS⟩)
def jr:List Int → Option (Unit)
  | []=>some ()
  | z16::xs16=>none
def cJ:List SpV → Option (Unit)
  | []=>some ()
  | z13::xs13=>aJ (jr z13.listed) fun r16=>cond z13.sent (none) (cJ xs13)
def ep (x:LV) (lan:Int) (frm:Int) (vs:List VwV) (s:RoS):Option ((List SpV) × RoS):=if s.lists.length ≤ 100000 then if cP x.hd then if ∀ v ∈ vs,v.peers.length ≤ 100000∧∀ x ∈ v.wants,cP x.hd then if vs.length ≤ 100000 then bw (da x.hd lan frm vs) fun q8=>aJ (cJ q8) fun r13=>if (({ s with lists:=(bM s.lists (ah x.hd)) }).talks).isEmpty = true then some (q8,({ s with lists:=(bM s.lists (ah x.hd)) })) else none else none else none else none else none
theorem cK {κ:Kap} {L I:List Atom} (P:RoP) (x:LV) (xp:LP) (lan:Int) (frm:Int) (vs:List VwV) (vsA:Option Addr) (vsc:Nat) (s:RoS) (W:World) {r_:(List SpV) × RoS} (ht:(ep x lan frm vs s) = some r_) (hS:S κ (roA P s::L) (aa (.slice xp.A x.links.length xp.c) 230 4 x.links.length (ab Lk.cells x.links)::aa (.slice xp.B x.mem.length xp.d) 3 1 x.mem.length (aw x.mem)::crA co 39 vsA vsc vs::I) W):
    Calls Tryz.prog 42 #[pt P.g 0,.agg #[i6 x.hd.age,i6 x.hd.kind,i6 x.hd.id,i6 x.hd.adv,i6 x.hd.seq,i6 x.hd.sum,i6 x.hd.long,.slice xp.A x.links.length xp.c,.slice xp.B x.mem.length xp.d],i6 lan,i6 frm,.slice vsA vs.length vsc] W (fun r w'=>∃ B0 d0,r = .returned (.slice B0 r_.1.length d0)∧S κ (crA mh 200 B0 d0 r_.1::roA P r_.2::L) (aa (.slice xp.A x.links.length xp.c) 230 4 x.links.length (ab Lk.cells x.links)::aa (.slice xp.B x.mem.length xp.d) 3 1 x.mem.length (aw x.mem)::crA co 39 vsA vsc vs::I) w'):=by
 refine wK 88 Tryz.func42 (fun R_ hR_ a hk=>?_)
 refine sg [0] hk ?_
 refine eB hk hS (fun g2 w hS _=>?_)
 refine T ?_
 refine rE [0,2,3,4,6] hk fun a hk=>?_
 refine sg [2,3,4] hk ?_
 refine T ?_
 refine LDS 0 7 hk hS ?_
 refine eC hk (h:=ct x.hd _ hS) (k:=?_)
 rintro _ w ⟨rfl,hS⟩
 refine ⟨_,rfl,?_⟩
 replace hS:=hS.nz 2
 refine eA #[i6 0,i6 0,i6 0] hS (fun g4 w hS _=>?_)
 refine eS 0 hk hS (fun w hS _=>?_)
 refine rE [0,2,3,4,6,11] hk fun a hk=>?_
 refine wp_seq ?_
 refine rgR [[],[0],[0,1],[0,1,2],[],[0,1,2,3,4]] [5] (.rd 0 (.rd 1 (.rd 2 (.rd 3 (.rd 4 (.ef 5 (.fin) .non)))))) hk hS (fun w hS _=>?_)
 iterate 3 refine T ?_
 replace hS:=hS.fr 2
 obtain ⟨e5,hpl5,hS⟩:=ro_open hS
 refine LD 0 hk hS ?_
 refine LDS 9 3 hk hS ?_
 replace hS:=hS.pk [6] 0
 obtain ⟨hgd7,ht⟩:=gdE ht
 refine eC hk (h:=qb P.lg (ah x.hd) s.lists _ hgd7 hS) (k:=?_)
 rintro _ w ⟨n06,rfl,hS⟩
 refine ⟨_,rfl,?_⟩
 replace hS:=hS.nz 11
 refine rE [0,2,3,4,6,11] hk fun a hk=>?_
 refine sg [5] hk ?_
 refine T ?_
 refine LDS 10 7 hk hS ?_
 iterate 3 refine T ?_
 replace hS:=hS.dupI 2
 obtain ⟨hgd9,ht⟩:=gdE ht
 obtain ⟨hgd10,ht⟩:=gdE ht
 obtain ⟨hgd11,ht⟩:=gdE ht
 refine eC hk (h:=mS x.hd lan frm vs vsA vsc _ hgd9 hgd10 hgd11 hS) (k:=?_)
 rintro _ w ⟨B08,d08,rfl,hS⟩
 refine ⟨_,rfl,?_⟩
 generalize hq8:da x.hd lan frm vs = q8 at hS ⊢
 replace ht:=(am hq8).symm.trans ht
 replace hS:=hS.dropI
 replace hS:=hS.nz 12
 refine T ?_
 refine rE [0,6,11,12] hk fun a hk=>?_
 refine wp_seq ?_
 refine sg [] hk ?_
 iterate 3 refine T ?_
 refine rE [0,6,11,12,34,35,36] hk fun a hk=>?_
 obtain ⟨J12,hS,hJ12⟩:=S.lend (M:=[_]) hS
 replace hS:=hS.pk [1,1,1,1,1,1,0,0,0] 0
 replace hS:=ak (x:={ s with lists:=(bM s.lists (ah x.hd)) }) (e:=⟨e5.A,e5.c⟩) hpl5 hS
 obtain ⟨r13,hr13,ht⟩:=ao ht
 refine aB (fun a_ w_=>Fr a_ 88 [(0,pt P.g 0),(6,pt g2 0),(12,.slice B08 q8.length d08)]∧S κ ((roA P ({ s with lists:=(bM s.lists (ah x.hd)) }))::ai g4 111 #[i6 ((ah x.hd).kind),i6 ((ah x.hd).id),i6 ((ah x.hd).adv)]::ai g2 66 #[i6 x.hd.age,i6 x.hd.kind,i6 x.hd.id,i6 x.hd.adv,i6 x.hd.seq,i6 x.hd.sum,i6 x.hd.long,.slice xp.A x.links.length xp.c,.slice xp.B x.mem.length xp.d]::L) (crA mh 200 B08 d08 q8::J12::aa (.slice xp.A x.links.length xp.c) 230 4 x.links.length (ab Lk.cells x.links)::aa (.slice xp.B x.mem.length xp.d) 3 1 x.mem.length (aw x.mem)::crA co 39 vsA vsc vs::I) w_) ?_ ?_
 ·refine wp_block ?_
  refine wp_loop (fun a_ w_=>∃ k13:Nat,(k13 ≤ (q8).length)∧cJ ((q8).drop k13) = some r13∧Fr a_ 88 [(0,pt P.g 0),(6,pt g2 0),(11,pt g4 0),(12,.slice B08 q8.length d08),(34,.slice B08 q8.length d08),(35,i6 ((q8.length:Nat):Int)),(36,i6 k13)]∧S κ ((roA P ({ s with lists:=(bM s.lists (ah x.hd)) }))::ai g4 111 #[i6 ((ah x.hd).kind),i6 ((ah x.hd).id),i6 ((ah x.hd).adv)]::ai g2 66 #[i6 x.hd.age,i6 x.hd.kind,i6 x.hd.id,i6 x.hd.adv,i6 x.hd.seq,i6 x.hd.sum,i6 x.hd.long,.slice xp.A x.links.length xp.c,.slice xp.B x.mem.length xp.d]::L) (crA mh 200 B08 d08 q8::J12::aa (.slice xp.A x.links.length xp.c) 230 4 x.links.length (ab Lk.cells x.links)::aa (.slice xp.B x.mem.length xp.d) 3 1 x.mem.length (aw x.mem)::crA co 39 vsA vsc vs::I) w_) (fun a_ _=>(q8).length - (intOf (sl a_ 36)).toNat) ?_ ?_
  ·exact ⟨0,Nat.zero_le _,hr13,hk.to,hS⟩
  clear hk hS
  rintro aL13 w ⟨k13,hkl13,hI13,hk,hS⟩
  have hmu13:=hk.g (s:=36)
  have hlb13:=jl hS (i:=0)
  refine sg [] hk ?_
  refine T ?_
  refine rE [0,6,11,12,34,35,36,37] hk fun a hk=>?_
  refine wp_seq ?_
  refine cD hk (fun hc37=>?_) (fun hc37=>?_)
  ·obtain ⟨z13,hz13⟩:=cq (show k13 < (q8).length by omega)
   rw [aF hz13] at hI13
   refine wp_skip ?_
   refine wp_seq ?_
   refine wp_block ?_
   refine sg [2,3] hk ?_
   refine cX 0 hz13 hk hS (fun b14 o14 e14 hS hq14=>?_)
   replace hS:=hS.nz 3
   refine dV 4 hq14 hk ?_
   refine eA #[i6 0,.slice none 0 0,.bool false,i6 0] hS (fun g15 w hS _=>?_)
   refine eS 0 hk hS (fun w hS _=>?_)
   refine rE [0,6,11,12,14,34,35,36] hk fun a hk=>?_
   refine wp_seq ?_
   refine sg [] hk ?_
   refine T ?_
   refine LD 0 hk hS ?_
   iterate 2 refine T ?_
   refine rE [0,6,11,12,14,34,35,36,41,42,43] hk fun a hk=>?_
   obtain ⟨r16,hr16,hI13⟩:=ao hI13
   refine aB (fun a_ w_=>Fr a_ 88 [(0,pt P.g 0),(6,pt g2 0),(11,pt g4 0),(12,.slice B08 q8.length d08),(14,pt g15 0),(34,.slice B08 q8.length d08),(35,i6 ((q8.length:Nat):Int)),(36,i6 k13)]∧S κ (ai g15 200 #[i6 z13.lan,.slice e14.A z13.listed.length e14.c,.bool z13.sent,i6 z13.dst]::(roA P ({ s with lists:=(bM s.lists (ah x.hd)) }))::ai g4 111 #[i6 ((ah x.hd).kind),i6 ((ah x.hd).id),i6 ((ah x.hd).adv)]::ai g2 66 #[i6 x.hd.age,i6 x.hd.kind,i6 x.hd.id,i6 x.hd.adv,i6 x.hd.seq,i6 x.hd.sum,i6 x.hd.long,.slice xp.A x.links.length xp.c,.slice xp.B x.mem.length xp.d]::L) (aa (.slice e14.A z13.listed.length e14.c) 3 1 z13.listed.length (aw z13.listed)::crA mh 200 B08 d08 q8::J12::aa (.slice xp.A x.links.length xp.c) 230 4 x.links.length (ab Lk.cells x.links)::aa (.slice xp.B x.mem.length xp.d) 3 1 x.mem.length (aw x.mem)::crA co 39 vsA vsc vs::I) w_) ?_ ?_
   ·refine wp_block ?_
    refine wp_loop (fun a_ w_=>∃ k16:Nat,(k16 ≤ (z13.listed).length)∧jr ((z13.listed).drop k16) = some r16∧Fr a_ 88 [(0,pt P.g 0),(6,pt g2 0),(11,pt g4 0),(12,.slice B08 q8.length d08),(14,pt g15 0),(34,.slice B08 q8.length d08),(35,i6 ((q8.length:Nat):Int)),(36,i6 k13),(41,.slice e14.A z13.listed.length e14.c),(42,i6 ((z13.listed.length:Nat):Int)),(43,i6 k16)]∧S κ (ai g15 200 #[i6 z13.lan,.slice e14.A z13.listed.length e14.c,.bool z13.sent,i6 z13.dst]::(roA P ({ s with lists:=(bM s.lists (ah x.hd)) }))::ai g4 111 #[i6 ((ah x.hd).kind),i6 ((ah x.hd).id),i6 ((ah x.hd).adv)]::ai g2 66 #[i6 x.hd.age,i6 x.hd.kind,i6 x.hd.id,i6 x.hd.adv,i6 x.hd.seq,i6 x.hd.sum,i6 x.hd.long,.slice xp.A x.links.length xp.c,.slice xp.B x.mem.length xp.d]::L) (aa (.slice e14.A z13.listed.length e14.c) 3 1 z13.listed.length (aw z13.listed)::crA mh 200 B08 d08 q8::J12::aa (.slice xp.A x.links.length xp.c) 230 4 x.links.length (ab Lk.cells x.links)::aa (.slice xp.B x.mem.length xp.d) 3 1 x.mem.length (aw x.mem)::crA co 39 vsA vsc vs::I) w_) (fun a_ _=>(z13.listed).length - (intOf (sl a_ 43)).toNat) ?_ ?_
    ·exact ⟨0,Nat.zero_le _,hr16,hk.to,hS⟩
    clear hk hS
    rintro aL16 w ⟨k16,hkl16,hI16,hk,hS⟩
    have hmu16:=hk.g (s:=43)
    have hlb16:=hS.rowBI (i:=0) rfl
    refine sg [] hk ?_
    refine T ?_
    refine rE [0,6,11,12,14,34,35,36,41,42,43,44] hk fun a hk=>?_
    refine wp_seq ?_
    refine cD hk (fun hc44=>?_) (fun hc44=>?_)
    ·obtain ⟨z16,hz16⟩:=cq (show k16 < (z13.listed).length by omega)
     rw [aF hz16] at hI16
     refine wp_skip ?_
     refine wp_seq ?_
     refine wp_block ?_
     refine sg [] hk ?_
     refine dN hk (hS.rdI (i:=0) rfl) (fun b17 o17 z17 hz17 hq17=>?_)
     obtain rfl:z16 = z17:=Option.some.inj (hz16.symm.trans hz17)
     refine dF0 hq17 hk ?_
     refine T ?_
     refine rE [0,6,11,12,14,16,34,35,36,41,42,43] hk fun a hk=>?_
     cases hI16
    obtain rfl:k16 = (z13.listed).length:=by omega
    rw [ax (Nat.le_refl _)] at hI16
    refine wp_exit ?_
    obtain rfl:=Option.some.inj hI16
    exact ⟨hk.to,hS⟩
   rintro a w ⟨hk,hS⟩
   refine sg [] hk ?_
   refine T ?_
   refine LD 0 hk hS ?_
   refine rE [0,6,11,12,14,34,35,36,61] hk fun a hk=>?_
   refine cB hk (fun hc61=>?_) (fun hc61=>?_)
   ·replace hI13:=(bT hc61).symm.trans hI13
    cases hI13
   replace hI13:=(bF hc61).symm.trans hI13
   refine wp_skip ?_
   refine rgL [] hk ?_
   refine dA hk ?_
   refine T ?_
   refine rE [0,6,11,12,34,35,36] hk fun a hk=>?_
   replace hS:=hS.pk [1,1,1] 1
   replace hS:=hS.dropI
   exact ⟨⟨k13 + 1,by omega,hI13,hk.to,hS⟩,aP hk.g hmu13 (by omega)⟩
  obtain rfl:k13 = (q8).length:=by omega
  rw [ax (Nat.le_refl _)] at hI13
  refine wp_exit ?_
  obtain rfl:=Option.some.inj hI13
  exact ⟨hk.to,hS⟩
 rintro a w ⟨hk,hS⟩
 replace hS:=hJ12 _ _ hS
 replace hS:=hS.nz 4
 refine wp_seq ?_
 refine sg [4] hk ?_
 iterate 3 refine T ?_
 replace hS:=hS.fr 1
 obtain ⟨e18,hpl18,hS⟩:=ro_open hS
 refine LD 0 hk hS ?_
 replace hS:=hS.fr 2
 obtain ⟨q19,hq19,hS⟩:=cd (F:=taMF) hS
 obtain ⟨hgd20,ht⟩:=gdE ht
 obtain rfl:q19 = []:=by cases q19 with | nil=>rfl | cons _ _=>(rw [List.isEmpty_iff.1 hgd20] at hq19;cases hq19)
 refine eF (fun a_ h_=>fP (k:=157) (e:=179) 0 hS (ae rfl) rfl (h_.x hk) fun r21q w hS=>⟨_,rfl,?_⟩)
 replace hS:=hS.nz 13
 refine rE [6,12,75] hk fun a hk=>?_
 refine wp_block ?_
 refine wp_loop (fun a_ w_=>Fr a_ 88 [(6,pt g2 0),(12,.slice B08 q8.length d08),(75,pt r21q 0)]∧S κ ((bx taMF.ek taMF.ev P.tm r21q [] [])::(dI taMF [])::(ai P.g 102 #[i6 (({ s with lists:=(bM s.lists (ah x.hd)) }).id),i6 (({ s with lists:=(bM s.lists (ah x.hd)) }).now),i6 (({ s with lists:=(bM s.lists (ah x.hd)) }).number),ptO P.p0,ptO P.p1,ptO P.p2,ptO P.p3,.map (some P.tm),.map (some P.mm),pt P.dg 0,pt P.wg 0,pt P.lg 0,pt P.ag 0,.slice e18.A (({ s with lists:=(bM s.lists (ah x.hd)) }).out.length) e18.c])::(jY di P.pts (({ s with lists:=(bM s.lists (ah x.hd)) }).ports))::(bq dZ ed P.mm (({ s with lists:=(bM s.lists (ah x.hd)) }).mine))::(dbA P.dg (({ s with lists:=(bM s.lists (ah x.hd)) }).db))::(bz P.wg (({ s with lists:=(bM s.lists (ah x.hd)) }).w))::(cO P.lg (({ s with lists:=(bM s.lists (ah x.hd)) }).lists))::(dL P.ag (({ s with lists:=(bM s.lists (ah x.hd)) }).later))::(crA bW 58 e18.A e18.c (({ s with lists:=(bM s.lists (ah x.hd)) }).out))::crA mh 200 B08 d08 q8::ai g4 111 #[i6 ((ah x.hd).kind),i6 ((ah x.hd).id),i6 ((ah x.hd).adv)]::ai g2 66 #[i6 x.hd.age,i6 x.hd.kind,i6 x.hd.id,i6 x.hd.adv,i6 x.hd.seq,i6 x.hd.sum,i6 x.hd.long,.slice xp.A x.links.length xp.c,.slice xp.B x.mem.length xp.d]::L) (aa (.slice xp.A x.links.length xp.c) 230 4 x.links.length (ab Lk.cells x.links)::aa (.slice xp.B x.mem.length xp.d) 3 1 x.mem.length (aw x.mem)::crA co 39 vsA vsc vs::I) w_) (fun _ _=>0) ?_ ?_
 ·exact ⟨hk.to,hS⟩
 clear hk hS
 rintro a w ⟨hk,hS⟩
 refine sg [0] hk ?_
 refine eF (fun a_ h_=>g0 0 hS (ae rfl) rfl (h_.x hk) (fun hall=>⟨_,rfl,?_⟩) (fun p22 w hp22 hpd22 hS=>absurd hp22 List.not_mem_nil))
 refine T ?_
 refine rE [6,12,75,77] hk fun a hk=>?_
 refine wp_seq ?_
 refine cF hk ?_
 refine wp_exit ?_
 replace hS:=hS.rangeEnd (i:=0) rfl
 replace hS:=hS.nz 13
 refine sg [] hk ?_
 iterate 2 refine T ?_
 refine rE [10] hk fun a hk=>?_
 refine wp_ret ?_
 replace hS:=bd (F:=taMF) hq19 hS
 replace hS:=hS.pk [1,1,0,0,0,0,0,0,0] 0
 replace hS:=ak (x:=({ s with lists:=(bM s.lists (ah x.hd)) })) (e:=⟨e18.A,e18.c⟩) hpl18 hS
 replace hS:=hS.pk [1,0] 2
 obtain rfl:=Option.some.inj ht
 exact rt1 hk (hR_ _ _ ⟨_,_,rfl,hS⟩)
def nI:List Int → Option (Unit)
  | []=>some ()
  | z11::xs11=>none
def fm (s:RoS):List Nat → Option (Unit)
  | []=>some ()
  | k3::xs3=>ji (aL s.ports (k3:Int)) (fm s xs3) fun x6=>if 0 ≤ s.now∧s.now ≤ 1000000000000 then if PeOk x6.p then bw (ne s.now x6.p) fun q8=>aJ (nI q8) fun r11=>fm s xs3 else none else none
def mz (s:RoS):Option (Unit):=aJ (fm s (List.range 4)) fun r3=>some ()
theorem tx {κ:Kap} {L I:List Atom} (P:RoP) (s:RoS) (W:World) {r_:Unit} (ht:(mz s) = some r_) (hS:S κ (roA P s::L) (I) W):
    Calls Tryz.prog 46 #[pt P.g 0] W (fun r w'=>r = .returned (.tuple #[])∧S κ (roA P s::L) (I) w'):=by
 refine wK 35 Tryz.func46 (fun R_ hR_ a hk=>?_)
 refine sg [] hk ?_
 iterate 3 refine T ?_
 obtain ⟨e2,hpl2,hS⟩:=ro_open hS
 refine rD (.agg #[ptO P.p0,ptO P.p1,ptO P.p2,ptO P.p3]) (fun _ h_=>rk (eu (m:=3) (n:=4) rfl (h_.x hk) (by kernel_rfl) rfl (fun j u hj=>((hS.blk (i:=0) rfl).cell _).trans (mj (n:=4) (m:=3) rfl hj)))) ?_
 refine T ?_
 refine rE [0,9,10] hk fun a hk=>?_
 replace hS:=ak (x:=s) (e:=⟨e2.A,e2.c⟩) hpl2 hS
 obtain ⟨r3,hr3,ht⟩:=ao ht
 refine aB (fun a_ w_=>Fr a_ 35 []∧S κ (roA P s::L) (I) w_) ?_ ?_
 ·refine wp_block ?_
  refine wp_loop (fun a_ w_=>∃ k3:Nat,(k3 ≤ (List.range 4).length)∧fm s ((List.range 4).drop k3) = some r3∧Fr a_ 35 [(0,pt P.g 0),(9,.agg #[ptO P.p0,ptO P.p1,ptO P.p2,ptO P.p3]),(10,i6 k3)]∧S κ (roA P s::L) (I) w_) (fun a_ _=>(List.range 4).length - (intOf (sl a_ 10)).toNat) ?_ ?_
  ·exact ⟨0,Nat.zero_le _,hr3,hk.to,hS⟩
  clear hk hS
  rintro aL3 w ⟨k3,hkl3,hI3,hk,hS⟩
  have hmu3:=hk.g (s:=10)
  have hlb3:=List.length_range (n:=4)
  refine sg [] hk ?_
  refine T ?_
  refine rE [0,9,10,11] hk fun a hk=>?_
  refine wp_seq ?_
  refine cD hk (fun hc11=>?_) (fun hc11=>?_)
  ·have hklt:k3 < (List.range 4).length:=by simp only [List.length_range] at *;omega
   rw [aF (z:=k3) (by simp at hklt;simp [hklt])] at hI3
   refine wp_skip ?_
   refine wp_seq ?_
   refine wp_block ?_
   refine sg [] hk ?_
   have hix4:k3 < 4:=by simpa using hklt
   refine rD (ptO (aL P.pts (k3:Int))) (fun _ h_=>rk (et (n:=4) (e:=81) rfl (h_.x hk) (h_.x hk) (by kernel_rfl) (by kernel_rfl) (by kernel_rfl) (by omega) (yw (i:=(k3:Int)) (by omega) (by omega)))) ?_
   refine T ?_
   refine rE [0,3,9,10] hk fun a hk=>?_
   refine wp_seq ?_
   refine sg [] hk ?_
   refine T ?_
   obtain ⟨e5,hpl5,hS⟩:=ro_open hS
   replace hS:=hS.fr 1
   rcases fh (k3:Int) (by rw [du];first | assumption | (simpa using hpl5)) hS with ⟨hq6,hs6,hS⟩ | ⟨g6,x6,hq6,hs6,hS⟩
   ·replace hI3:=(fG hs6).symm.trans hI3
    rw [hq6] at hk
    replace hk:Fr a 35 [(0,pt P.g 0),(3,.pointer none),(9,.agg #[ptO P.p0,ptO P.p1,ptO P.p2,ptO P.p3]),(10,i6 k3)]:=hk.to
    refine rwV 0 (ptO (aL P.pts (k3:Int))) (.pointer none) (by rw [hq6];rfl) ?_
    refine rD (.bool true) (fun _ h_=>rk (aq rfl (h_.x hk) rfl (fun _=>by kernel_rfl) (fun _=>rfl))) ?_
    refine rE [0,3,9,10,14] hk fun a hk=>?_
    refine cT hk ?_
    refine wp_exit ?_
    refine rgL [] hk ?_
    refine dA hk ?_
    refine T ?_
    refine rE [0,9,10] hk fun a hk=>?_
    replace hS:=hS.pk [1,0,0,0,0,0,0,0,0] 0
    replace hS:=ak (x:=s) (e:=⟨e5.A,e5.c⟩) hpl5 hS
    exact ⟨⟨k3 + 1,by omega,hI3,hk.to,hS⟩,aP hk.g hmu3 (by omega)⟩
   ·replace hI3:=(fH hs6).symm.trans hI3
    rw [hq6] at hk
    replace hk:Fr a 35 [(0,pt P.g 0),(3,pt g6 0),(9,.agg #[ptO P.p0,ptO P.p1,ptO P.p2,ptO P.p3]),(10,i6 k3)]:=hk.to
    refine rwV 0 (ptO (aL P.pts (k3:Int))) (pt g6 0) (by rw [hq6];rfl) ?_
    refine rD (.bool false) (fun _ h_=>rk (aq rfl (h_.x hk) rfl (fun _=>by kernel_rfl) (fun _=>rfl))) ?_
    refine rE [0,3,9,10,14] hk fun a hk=>?_
    refine cF hk ?_
    refine wp_skip ?_
    refine wp_seq ?_
    refine rgR [[],[0],[0,1],[0,1,2],[],[4],[4,5],[4,5,6],[0,1,2,3,4,5,6,7],[0,1,2,3,4,5,6,7,8],[]] [8] (.rd 0 (.rd 1 (.rd 2 (.rd 3 (.rd 4 (.rd 5 (.rd 6 (.rd 7 (.rd 10 (.ef 8 (.rd 9 (.ag 10 (.fin))) .non)))))))))) hk hS (fun w hS _=>?_)
    iterate 3 refine T ?_
    obtain ⟨e7,hS⟩:=dK hS
    refine LD 0 hk hS ?_
    iterate 3 refine T ?_
    refine LD 3 hk hS ?_
    refine T ?_
    replace hS:=hS.pk [1] 0
    obtain ⟨hgd9,hI3⟩:=gdE hI3
    obtain ⟨hgd10,hI3⟩:=gdE hI3
    refine eC hk (h:=tf e7 x6.p _ s.now hgd9 hgd10 hS) (k:=?_)
    rintro _ w ⟨B08,d08,rfl,hS⟩
    refine ⟨_,rfl,?_⟩
    generalize hq8:ne s.now x6.p = q8 at hS ⊢
    replace hI3:=(am hq8).symm.trans hI3
    replace hS:=hS.nz 12
    refine T ?_
    refine TA ?_
    refine rE [0,3,9,10,23,24,25] hk fun a hk=>?_
    replace hS:=hS.pk [2,1] 0
    replace hS:=aS (x:=x6) (e:=e7) hS
    replace hS:=hS.pk [0,1] 0
    replace hS:=bo hq6 hs6 hS
    replace hS:=hS.pk [2,0,1,1,1,1,1,1,1] 0
    replace hS:=ak (x:=s) (e:=⟨e5.A,e5.c⟩) hpl5 hS
    obtain ⟨r11,hr11,hI3⟩:=ao hI3
    refine aB (fun a_ w_=>Fr a_ 35 [(0,pt P.g 0),(9,.agg #[ptO P.p0,ptO P.p1,ptO P.p2,ptO P.p3]),(10,i6 k3)]∧S κ (roA P s::aa (.slice B08 q8.length d08) 3 1 q8.length (aw q8)::L) (I) w_) ?_ ?_
    ·refine wp_block ?_
     refine wp_loop (fun a_ w_=>∃ k11:Nat,(k11 ≤ (q8).length)∧nI ((q8).drop k11) = some r11∧Fr a_ 35 [(0,pt P.g 0),(3,pt g6 0),(9,.agg #[ptO P.p0,ptO P.p1,ptO P.p2,ptO P.p3]),(10,i6 k3),(23,.slice B08 q8.length d08),(24,i6 ((q8.length:Nat):Int)),(25,i6 k11)]∧S κ (roA P s::aa (.slice B08 q8.length d08) 3 1 q8.length (aw q8)::L) (I) w_) (fun a_ _=>(q8).length - (intOf (sl a_ 25)).toNat) ?_ ?_
     ·exact ⟨0,Nat.zero_le _,hr11,hk.to,hS⟩
     clear hk hS
     rintro aL11 w ⟨k11,hkl11,hI11,hk,hS⟩
     have hmu11:=hk.g (s:=25)
     have hlb11:=hS.rowB (i:=1) rfl
     refine sg [] hk ?_
     refine T ?_
     refine rE [0,3,9,10,23,24,25,26] hk fun a hk=>?_
     refine wp_seq ?_
     refine cD hk (fun hc26=>?_) (fun hc26=>?_)
     ·obtain ⟨z11,hz11⟩:=cq (show k11 < (q8).length by omega)
      rw [aF hz11] at hI11
      refine wp_skip ?_
      refine wp_seq ?_
      refine wp_block ?_
      refine sg [] hk ?_
      refine dN hk (hS.rd (i:=1) rfl) (fun b12 o12 z12 hz12 hq12=>?_)
      obtain rfl:z11 = z12:=Option.some.inj (hz11.symm.trans hz12)
      refine dF0 hq12 hk ?_
      refine T ?_
      refine rE [0,3,5,9,10,23,24,25] hk fun a hk=>?_
      cases hI11
     obtain rfl:k11 = (q8).length:=by omega
     rw [ax (Nat.le_refl _)] at hI11
     refine wp_exit ?_
     obtain rfl:=Option.some.inj hI11
     exact ⟨hk.to,hS⟩
    rintro a w ⟨hk,hS⟩
    refine rgL [] hk ?_
    refine dA hk ?_
    refine T ?_
    refine rE [0,9,10] hk fun a hk=>?_
    replace hS:=hS.pk [0] 1
    exact ⟨⟨k3 + 1,by omega,hI3,hk.to,hS⟩,aP hk.g hmu3 (by omega)⟩
  obtain rfl:k3 = (List.range 4).length:=by (first | omega | (simp only [List.length_range] at *;omega))
  rw [ax (Nat.le_refl _)] at hI3
  refine wp_exit ?_
  obtain rfl:=Option.some.inj hI3
  exact ⟨hk.to,hS⟩
 rintro a w ⟨hk,hS⟩
 obtain rfl:=Option.some.inj ht
 exact rt0 hk (hR_ _ _ ⟨rfl,hS⟩)
def iG (t:TmV) (s:RoS):Option (RoS):=if 0 ≤ t.lan∧t.lan < 4 then ji (au (⟨t.lan,t.id⟩:WhV) s.talks) (if (t.kind:Int) = 1 then aJ (aL s.ports t.lan) fun x7=>aJ (iI t.lan s) fun q8=>if -4611686018427387904 ≤ q8.now + 2∧q8.now + 2 ≤ 4611686018427387904 then some ({ q8 with w:=(je (q8.now + 2) [t] q8.w) }) else none else if (t.kind:Int) = 2 then aJ (aL s.ports t.lan) fun x14=>aJ (iH t.lan 2 s) fun q15=>some q15 else some s) fun v6=>none else none
theorem vU {κ:Kap} {L I:List Atom} (P:RoP) (t:TmV) (s:RoS) (W:World) {r_:RoS} (ht:(iG t s) = some r_) (hS:S κ (roA P s::L) (I) W):
    Calls Tryz.prog 45 #[pt P.g 0,.agg #[i6 t.kind,i6 t.lan,i6 t.id,i6 t.k.kind,i6 t.k.id,i6 t.k.adv]] W (fun r w'=>r = .returned (.tuple #[])∧S κ (roA P r_::L) (I) w'):=by
 refine wK 118 Tryz.func45 (fun R_ hR_ a hk=>?_)
 refine sg [0] hk ?_
 refine eB hk hS (fun g2 w hS _=>?_)
 refine rE [0,3] hk fun a hk=>?_
 refine wp_seq ?_
 refine rgR [[],[],[1],[0],[0,3],[0,1,2,3,4],[0,1,2,3,4,5],[],[7],[7,8],[7,8,9],[],[11],[],[13],[11,12,13,14],[7,8,9,10,11,12,13,14,15],[0,1,2,3,4,5,6],[0,1,2,3,4,5,6,7,8,9,10,11,12,13,14,15,16,17]] [] (.rd 0 (.rd 1 (.rd 2 (.rd 3 (.rd 4 (.rd 5 (.rd 6 (.rd 7 (.rd 8 (.rd 9 (.rd 10 (.rd 11 (.rd 12 (.rd 13 (.rd 14 (.rd 15 (.rd 16 (.rd 17 (.rd 18 (.fin)))))))))))))))))))) hk hS (fun w hS _=>?_)
 iterate 2 refine T ?_
 refine LD 0 hk hS ?_
 iterate 2 refine T ?_
 obtain ⟨hgd3,ht⟩:=gdE ht
 refine rD (pt P.g (3 + t.lan.toNat)) (fun _ h_=>rk (gZ (n:=4) (size:=1) rfl (h_.x hk) (h_.x hk) (by kernel_rfl) hgd3 (by omega))) ?_
 replace hS:=hS.fr 1
 obtain ⟨e4,hpl4,hS⟩:=ro_open hS
 refine rD (ptO (aL P.pts t.lan)) (fun _ h_=>rk (bB rfl (h_.x hk) (by kernel_rfl) (zu (hS.blk (i:=0) rfl) hgd3.1 hgd3.2 rfl rfl rfl rfl))) ?_
 iterate 3 refine T ?_
 refine LD 0 hk hS ?_
 refine T ?_
 refine LD 9 hk hS ?_
 refine T ?_
 refine LD 9 hk hS ?_
 refine rD (.agg #[i6 t.lan,i6 t.id]) (fun _ h_=>rk (af rfl (h_.prt hk) (by kernel_rfl))) ?_
 replace hS:=hS.fr 2
 obtain ⟨q5,hq5,hS⟩:=cd (F:=taMF) hS
 rcases hl6:au (⟨t.lan,t.id⟩:WhV) q5 with _ | ⟨v6,p6⟩
 ·replace ht:=(fG (ir hq5 hl6)).symm.trans ht
  refine rD (.pointer none) (fun _ h_=>rk (lw (E:=179) (z:=(.pointer none)) (⟨t.lan,t.id⟩:WhV) zq (hS.mapAt (i:=0) rfl) rfl (h_.x hk) (h_.x hk) (by rw [hl6];rfl))) ?_
  iterate 2 refine T ?_
  refine rE [0,3,4,5] hk fun a hk=>?_
  refine wp_block ?_
  refine sg [] hk ?_
  refine T ?_
  refine LD 10 hk hS ?_
  iterate 2 refine T ?_
  refine rE [0,3,4,5,23] hk fun a hk=>?_
  refine cD hk (fun hc23=>?_) (fun hc23=>?_)
  ·replace ht:=(if_pos hc23).symm.trans ht
   refine sg [2] hk ?_
   iterate 2 refine T ?_
   obtain ⟨x7,hs7,ht⟩:=ao ht
   replace hS:=hS.fr 3
   obtain ⟨g7,hq7,hS⟩:=sw hs7 (by rw [du];first | assumption | (simpa using hpl4)) hS
   rw [hq7] at hk
   replace hk:Fr a 118 [(0,pt P.g 0),(3,pt g2 0),(4,pt g7 0),(5,.pointer none)]:=hk.to
   refine rwV 1 (ptO (aL P.pts t.lan)) (pt g7 0) (by rw [hq7];rfl) ?_
   ·replace hS:=bo hq7 hs7 hS
    replace hS:=hS.pk [1,1] 0
    replace hS:=bd (F:=taMF) hq5 hS
    replace hS:=hS.pk [2,1,0,0,0,0,0,0,0] 0
    replace hS:=ak (x:=s) (e:=⟨e4.A,e4.c⟩) hpl4 hS
    obtain ⟨q8,hq8,ht⟩:=ao ht
    refine eC hk (h:=rF P g7 t.lan s _ hq7 hq8 hS) (k:=?_)
    rintro _ w ⟨rfl,hS⟩
    refine ⟨_,rfl,?_⟩
    replace hS:=hS.nz 2
    refine rE [0,3] hk fun a hk=>?_
    refine rgR [[],[0],[0,1],[0,1,2],[],[4],[4,5],[4,5,6],[4,5,6,7],[],[9],[0,1,2,3,4,5,6,7,8,9,10]] [10,11] (.rd 0 (.rd 1 (.rd 2 (.rd 3 (.rd 4 (.rd 5 (.rd 6 (.rd 7 (.rd 8 (.rd 9 (.ef 10 (.ag 0 (.ag 1 (.ag 2 (.ag 3 (.ag 4 (.ag 5 (.ag 6 (.ag 7 (.ag 8 (.ef 11 (.fin) .non)))))))))) .non))))))))))) hk hS (fun w hS _=>?_)
    iterate 3 refine T ?_
    obtain ⟨e9,hpl9,hS⟩:=ro_open hS
    refine LD 0 hk hS ?_
    iterate 3 refine T ?_
    refine LD 0 hk hS ?_
    obtain ⟨hgd10,ht⟩:=gdE ht
    refine dA hk ?_
    refine LDS 9 6 hk hS ?_
    refine eF (fun a_ h_=>aZ (e:=121) (cells:=#[i6 t.kind,i6 t.lan,i6 t.id,i6 t.k.kind,i6 t.k.id,i6 t.k.adv]) hS (ae rfl) rfl (h_.prtL hk) fun g11 w hS _=>⟨_,rfl,?_⟩)
    iterate 3 refine TA ?_
    refine aG (fun _ h_=>rk (ld hS 1 rfl (h_.x hk))) ?_
    iterate 3 refine TA ?_
    refine aG (fun _ h_=>rk (ld hS 1 rfl (h_.x hk))) ?_
    refine aG (fun _ h_=>rk (aD rfl (h_.x hk) (h_.x hk) (by omega) rfl)) ?_
    replace hS:S κ (aa (.slice (some ⟨g11,0,none⟩) 1 1) 121 6 1 (ab TmV.cells [t])::ai P.g 102 #[i6 q8.id,i6 q8.now,i6 q8.number,ptO P.p0,ptO P.p1,ptO P.p2,ptO P.p3,.map (some P.tm),.map (some P.mm),pt P.dg 0,pt P.wg 0,pt P.lg 0,pt P.ag 0,.slice e9.A q8.out.length e9.c]::(jY di P.pts q8.ports)::(fS taMF P.tm q8.talks)::bq dZ ed P.mm q8.mine::(dbA P.dg q8.db)::(bz P.wg q8.w)::(cO P.lg q8.lists)::(dL P.ag q8.later)::crA bW 58 e9.A e9.c q8.out::ai g2 121 #[i6 t.kind,i6 t.lan,i6 t.id,i6 t.k.kind,i6 t.k.id,i6 t.k.adv]::L) (I) w:=hS.litRow rfl (by decide)
    obtain ⟨J12,hS,hJ12⟩:=S.lend (M:=[_]) hS
    replace hS:=hS.pk [5] 0
    refine eC hk (h:=qg P.wg (q8.now + 2) [t] (some ⟨g11,0,none⟩) 1 q8.w _ hS) (k:=?_)
    rintro _ w ⟨rfl,hS⟩
    refine ⟨_,rfl,?_⟩
    replace hS:=hJ12 _ _ hS
    replace hS:=hS.nz 11
    refine rE [] hk fun a hk=>?_
    replace hS:=hS.pk [2,2,2,2,2,1,1,1,1] 0
    replace hS:=ak (x:={ q8 with w:=(je (q8.now + 2) [t] q8.w) }) (e:=⟨e9.A,e9.c⟩) hpl9 hS
    replace hS:=hS.pk [0] 2
    obtain rfl:=Option.some.inj ht
    exact rt0 hk (hR_ _ _ ⟨rfl,hS⟩)
  replace ht:=(if_neg hc23).symm.trans ht
  refine sg [] hk ?_
  refine T ?_
  refine LD 10 hk hS ?_
  iterate 2 refine T ?_
  refine rE [0,3,4,5,42] hk fun a hk=>?_
  refine cD hk (fun hc42=>?_) (fun hc42=>?_)
  ·replace ht:=(if_pos hc42).symm.trans ht
   refine rgL [2] hk ?_
   iterate 2 refine T ?_
   obtain ⟨x14,hs14,ht⟩:=ao ht
   replace hS:=hS.fr 3
   obtain ⟨g14,hq14,hS⟩:=sw hs14 (by rw [du];first | assumption | (simpa using hpl4)) hS
   rw [hq14] at hk
   replace hk:Fr a 118 [(0,pt P.g 0),(3,pt g2 0),(4,pt g14 0),(5,.pointer none)]:=hk.to
   refine rwV 1 (ptO (aL P.pts t.lan)) (pt g14 0) (by rw [hq14];rfl) ?_
   ·replace hS:=bo hq14 hs14 hS
    replace hS:=hS.pk [1,1] 0
    replace hS:=bd (F:=taMF) hq5 hS
    replace hS:=hS.pk [2,1,0,0,0,0,0,0,0] 0
    replace hS:=ak (x:=s) (e:=⟨e4.A,e4.c⟩) hpl4 hS
    obtain ⟨q15,hq15,ht⟩:=ao ht
    refine eC hk (h:=rC P g14 t.lan 2 s _ hq14 hq15 hS) (k:=?_)
    rintro _ w ⟨rfl,hS⟩
    refine ⟨_,rfl,?_⟩
    replace hS:=hS.nz 2
    refine rE [] hk fun a hk=>?_
    replace hS:=hS.pk [0] 1
    obtain rfl:=Option.some.inj ht
    exact rt0 hk (hR_ _ _ ⟨rfl,hS⟩)
  replace ht:=(if_neg hc42).symm.trans ht
  refine sg [] hk ?_
  refine T ?_
  refine rD (.bool true) (fun _ h_=>rk (aq rfl (h_.x hk) rfl (fun _=>by kernel_rfl) (fun _=>rfl))) ?_
  refine T ?_
  refine rE [0,3,4,5,49] hk fun a hk=>?_
  refine cT hk ?_
  refine wp_skip ?_
  replace hS:=bd (F:=taMF) hq5 hS
  replace hS:=hS.pk [1,1,0,0,0,0,0,0,0] 0
  replace hS:=ak (x:=s) (e:=⟨e4.A,e4.c⟩) hpl4 hS
  replace hS:=hS.pk [0] 1
  obtain rfl:=Option.some.inj ht
  exact rt0 hk (hR_ _ _ ⟨rfl,hS⟩)
 ·replace ht:=(fH (cC hq5 hl6)).symm.trans ht
  cases ht
def gW (s:RoS) (q10:LV × Int):Option (Bool × RoS):=if (q10.2:Int) ≠ 1 then if (q10.2:Int) ≠ 2 then some (true,s) else if q10.1.links.length ≤ 5000 then if q10.1.mem.length ≤ 5000 then bw (ej q10.1 s.db) fun q14=>some (decide ((q14.1:Int) ≠ 0),{ s with db:=q14.2 }) else none else none else if q10.1.links.length ≤ 5000 then if q10.1.mem.length ≤ 5000 then bw (ej q10.1 s.db) fun q18=>some (decide ((q18.1:Int) ≠ 0),{ s with db:=q18.2 }) else none else none
def eb (k:KeyV) (x:LV) (is:Bool) (vs:List VwV) (s:RoS):Option (RoS):=if dz s.db then bw (bh k s.db) fun q6=>aJ (cH (⟨x.hd,x.links,x.mem,is,q6.1.hd,q6.1.links,q6.1.mem,q6.2,((au k s.mine).getD to0).seq,((au k s.mine).getD to0).at_,(au k s.mine).isSome⟩:MiV) s.now) fun q10=>aJ (gW s q10) fun r12=>cond r12.1 (some r12.2) (if dz r12.2.db then bw (bh k r12.2.db) fun q22=>aJ (ep q22.1 (-1) 0 vs ({ r12.2 with mine:=aV k (⟨q10.1.hd.seq,r12.2.now⟩:ToV) r12.2.mine })) fun q26=>some q26.2 else none) else none
theorem nK {κ:Kap} {L I:List Atom} (P:RoP) (k:KeyV) (x:LV) (xp:LP) (is:Bool) (vs:List VwV) (vsA:Option Addr) (vsc:Nat) (s:RoS) (W:World) {r_:RoS} (ht:(eb k x is vs s) = some r_) (hS:S κ (roA P s::L) (aa (.slice xp.A x.links.length xp.c) 230 4 x.links.length (ab Lk.cells x.links)::aa (.slice xp.B x.mem.length xp.d) 3 1 x.mem.length (aw x.mem)::crA co 39 vsA vsc vs::I) W):
    Calls Tryz.prog 128 #[pt P.g 0,.agg #[i6 k.kind,i6 k.id,i6 k.adv],.agg #[i6 x.hd.age,i6 x.hd.kind,i6 x.hd.id,i6 x.hd.adv,i6 x.hd.seq,i6 x.hd.sum,i6 x.hd.long,.slice xp.A x.links.length xp.c,.slice xp.B x.mem.length xp.d],.bool is,.slice vsA vs.length vsc] W (fun r w'=>r = .returned (.tuple #[])∧S κ (roA P r_::L) (aa (.slice xp.A x.links.length xp.c) 230 4 x.links.length (ab Lk.cells x.links)::aa (.slice xp.B x.mem.length xp.d) 3 1 x.mem.length (aw x.mem)::crA co 39 vsA vsc vs::I) w'):=by
 refine wK 98 Tryz.func128 (fun R_ hR_ a hk=>?_)
 refine sg [0,1] hk ?_
 refine eB hk hS (fun g2 w hS _=>?_)
 refine eB hk hS (fun g3 w hS _=>?_)
 refine rE [0,3,4,6,7] hk fun a hk=>?_
 refine sg [3,4] hk ?_
 refine LDS 0 9 hk hS ?_
 refine T ?_
 refine rD (.agg #[i6 x.hd.age,i6 x.hd.kind,i6 x.hd.id,i6 x.hd.adv,i6 x.hd.seq,i6 x.hd.sum,i6 x.hd.long,.slice xp.A x.links.length xp.c,.slice xp.B x.mem.length xp.d,.bool is,i6 0,i6 0,i6 0,i6 0,i6 0,i6 0,i6 0,.slice none 0 0,.slice none 0 0,.bool false,i6 0,i6 0,.bool false]) (fun _ h_=>rk (af rfl (h_.prt hk) (by kernel_rfl))) ?_
 refine eA #[i6 0,i6 0,i6 0,i6 0,i6 0,i6 0,i6 0,.slice none 0 0,.slice none 0 0,.bool false,i6 0,i6 0,i6 0,i6 0,i6 0,i6 0,i6 0,.slice none 0 0,.slice none 0 0,.bool false,i6 0,i6 0,.bool false] hS (fun g4 w hS _=>?_)
 refine eS 0 hk hS (fun w hS _=>?_)
 refine rE [0,4,6,10] hk fun a hk=>?_
 refine wp_seq ?_
 refine rgR [[],[0],[0,1],[0,1,2],[],[0,1,2,3,4],[0,1,2,3,4,5],[0,1,2,3,4,5,6],[0,1,2,3,4,5,6],[0,1,2,3,4,5,6,7],[0,1,2,3,4,5,6,7,9],[0,1,2,3,4,5,6,7,8,9,10],[0,1,2,3,4,5,6,7,8,9,10,11]] [5,10,12] (.rd 0 (.rd 1 (.rd 2 (.rd 3 (.rd 4 (.ef 5 (.rd 6 (.rd 7 (.rd 8 (.rd 9 (.ef 10 (.ag 8 (.rd 11 (.ef 12 (.fin) .non))) .non))))) .non)))))) hk hS (fun w hS _=>?_)
 iterate 3 refine T ?_
 replace hS:=hS.fr 3
 obtain ⟨e5,hpl5,hS⟩:=ro_open hS
 refine LD 0 hk hS ?_
 refine LDS 11 3 hk hS ?_
 replace hS:=hS.pk [4] 0
 obtain ⟨hgd7,ht⟩:=gdE ht
 refine eC hk (h:=dM P.dg k s.db _ hgd7 hS) (k:=?_)
 rintro _ w ⟨e06,rfl,hS⟩
 refine ⟨_,rfl,?_⟩
 generalize hq6:bh k s.db = q6 at hS ⊢
 replace ht:=(am hq6).symm.trans ht
 replace hS:=hS.nz 14
 iterate 4 refine T ?_
 refine eS 11 hk hS (fun w hS _=>?_)
 refine TA ?_
 refine T ?_
 refine eS 11 hk hS (fun w hS _=>?_)
 refine rE [0,4,6,10] hk fun a hk=>?_
 refine wp_seq ?_
 refine rgR [[],[0],[0,1],[0,1,2],[],[0,1,2,3,4],[0,1,2,3,4,5],[0,1,2,3,4,5,6],[0,1,2,3,4,5,6],[],[0,1,2,3,4,5,6,7,9],[0,1,2,3,4,5,6,7,8,9,10]] [9,10] (.rd 0 (.rd 1 (.rd 2 (.rd 3 (.rd 4 (.rd 5 (.rd 6 (.rd 7 (.rd 8 (.ef 9 (.ag 0 (.ag 1 (.ag 2 (.ag 3 (.ag 4 (.ag 5 (.ag 6 (.ag 7 (.ag 8 (.ef 10 (.ag 8 (.rd 11 (.fin))) .non)))))))))) .non)))))))))) hk hS (fun w hS _=>?_)
 iterate 3 refine T ?_
 refine LD 3 hk hS ?_
 refine LDS 13 3 hk hS ?_
 refine rD (.tuple #[.agg #[i6 (((au k s.mine).getD to0).seq),i6 (((au k s.mine).getD to0).at_)],.bool ((au k s.mine).isSome)]) (fun _ h_=>rk (bH (E:=305) (z:=(.agg #[i6 0,i6 0])) k bY (hS.mapAt (i:=6) rfl) rfl (h_.x hk) (h_.x hk) (by cases (au k s.mine) <;> rfl))) ?_
 iterate 3 refine T ?_
 refine eA #[i6 0,i6 0] hS (fun g8 w hS _=>?_)
 iterate 3 refine TA ?_
 refine aG (fun _ h_=>rk (ld hS 4 rfl (h_.x hk))) ?_
 refine aG (fun _ h_=>rk (lbS 3 (hS.blk (i:=14) rfl) rfl (h_.x hk))) ?_
 refine aG (fun _ h_=>rk (bH (E:=305) (z:=(.agg #[i6 0,i6 0])) k bY (hS.mapAt (i:=7) rfl) rfl (h_.x hk) (h_.x hk) (by cases (au k s.mine) <;> rfl))) ?_
 iterate 3 refine TA ?_
 refine eS 0 hk hS (fun w hS _=>?_)
 refine TA ?_
 refine T ?_
 refine rE [0,4,6,10,11,12] hk fun a hk=>?_
 refine wp_seq ?_
 refine rgR [[],[0],[],[2],[],[0,1],[0,1,5],[0,1,2,3,5,6],[0,1,2,3,5,6,7],[0,1,2,3,4,5,6,7,8],[0,1,2,3,4,5,6,7,8,9]] [6,8,10] (.rd 0 (.rd 1 (.rd 2 (.rd 3 (.rd 4 (.rd 5 (.ef 6 (.ag 2 (.ag 3 (.ag 4 (.rd 7 (.ef 8 (.ag 4 (.rd 9 (.ef 10 (.fin) .non))) .non))))) .non))))))) hk hS (fun w hS _=>?_)
 refine T ?_
 refine LD 0 hk hS ?_
 refine T ?_
 refine LD 0 hk hS ?_
 iterate 2 refine T ?_
 refine eS 12 hk hS (fun w hS _=>?_)
 refine TA ?_
 refine aG (fun _ h_=>rk (ld hS 0 rfl (h_.x hk))) ?_
 refine TA ?_
 refine T ?_
 refine eS 12 hk hS (fun w hS _=>?_)
 refine TA ?_
 refine T ?_
 refine eS 12 hk hS (fun w hS _=>?_)
 refine rE [0,4,6,10] hk fun a hk=>?_
 refine wp_seq ?_
 refine rgR [[],[],[1],[1,2],[1,2,3],[0,1,2,3,4],[0,1,2,3,4,5],[0,1,2,3,4,5,6],[0,1,2,3,4,5,6],[],[0,1,2,3,4,5,6,7,9],[0,1,2,3,4,5,6,7,8,9,10]] [5,9,10] (.rd 0 (.rd 1 (.rd 2 (.rd 3 (.rd 4 (.ef 5 (.rd 6 (.rd 7 (.rd 8 (.ef 9 (.ag 6 (.ag 7 (.ag 8 (.ef 10 (.ag 8 (.rd 11 (.fin))) .non)))) .non)))) (.ef 9 (.ag 0 (.ag 1 (.ag 2 (.ag 3 (.ag 4 (.ef 5 (.rd 6 (.rd 7 (.rd 8 (.ef 10 (.ag 8 (.rd 11 (.fin))) .non)))) .non)))))) .non))))))) hk hS (fun w hS _=>?_)
 refine LDS 12 23 hk hS ?_
 iterate 3 refine T ?_
 refine LD 4 hk hS ?_
 refine efk ?_ ?_
 ·replace hS:=hS.pk [1,1] 0
  obtain ⟨J9,hS,hJ9⟩:=S.lend (M:=[_,_]) hS
  replace hS:=hS.dupI 1
  replace hS:=hS.dupI 1
  replace hS:=hS.dupI 6
  replace hS:=hS.dupI 6
  obtain ⟨q10,hq10,ht⟩:=ao ht
  refine eC hk (h:=ko (⟨x.hd,x.links,x.mem,is,q6.1.hd,q6.1.links,q6.1.mem,q6.2,((au k s.mine).getD to0).seq,((au k s.mine).getD to0).at_,(au k s.mine).isSome⟩:MiV) (⟨⟨xp.A,xp.c⟩,⟨xp.B,xp.d⟩,⟨e06.A,e06.c⟩,⟨e06.B,e06.d⟩⟩:SlP × SlP × SlP × SlP) s.now _ hq10 hS) (k:=?_)
  rintro _ w ⟨e010,rfl,hS⟩
  refine ⟨_,rfl,?_⟩
  replace hS:=hS.dropI.dropI.dropI.dropI
  replace hS:=hJ9 _ _ hS
  replace hS:=hS.nz 17
  iterate 3 refine T ?_
  refine eA #[i6 0,i6 0,i6 0,i6 0,i6 0,i6 0,i6 0,.slice none 0 0,.slice none 0 0] hS (fun g11 w hS _=>?_)
  iterate 3 refine TA ?_
  refine eS 0 hk hS (fun w hS _=>?_)
  refine TA ?_
  refine T ?_
  refine rE [0,4,6,13,14] hk fun a hk=>?_
  refine wp_seq ?_
  refine wp_seq ?_
  obtain ⟨r12,hr12,ht⟩:=ao ht
  refine aB (fun a_ w_=>Fr a_ 98 [(0,pt P.g 0),(4,.slice vsA vs.length vsc),(6,pt g2 0),(13,pt g11 0),(71,.bool r12.1)]∧S κ (roA P r12.2::ai g11 66 #[i6 q10.1.hd.age,i6 q10.1.hd.kind,i6 q10.1.hd.id,i6 q10.1.hd.adv,i6 q10.1.hd.seq,i6 q10.1.hd.sum,i6 q10.1.hd.long,.slice e010.A q10.1.links.length e010.c,.slice e010.B q10.1.mem.length e010.d]::aa (.slice e06.A q6.1.links.length e06.c) 230 4 q6.1.links.length (ab Lk.cells q6.1.links)::aa (.slice e06.B q6.1.mem.length e06.d) 3 1 q6.1.mem.length (aw q6.1.mem)::aa (.slice e010.A q10.1.links.length e010.c) 230 4 q10.1.links.length (ab Lk.cells q10.1.links)::aa (.slice e010.B q10.1.mem.length e010.d) 3 1 q10.1.mem.length (aw q10.1.mem)::(ai g8 305 #[i6 (((au k s.mine).getD to0).seq),i6 (((au k s.mine).getD to0).at_)])::(ai g4 303 #[i6 x.hd.age,i6 x.hd.kind,i6 x.hd.id,i6 x.hd.adv,i6 x.hd.seq,i6 x.hd.sum,i6 x.hd.long,.slice xp.A x.links.length xp.c,.slice xp.B x.mem.length xp.d,.bool is,i6 q6.1.hd.age,i6 q6.1.hd.kind,i6 q6.1.hd.id,i6 q6.1.hd.adv,i6 q6.1.hd.seq,i6 q6.1.hd.sum,i6 q6.1.hd.long,.slice e06.A q6.1.links.length e06.c,.slice e06.B q6.1.mem.length e06.d,.bool q6.2,i6 (((au k s.mine).getD to0).seq),i6 (((au k s.mine).getD to0).at_),.bool ((au k s.mine).isSome)])::ai g3 66 #[i6 x.hd.age,i6 x.hd.kind,i6 x.hd.id,i6 x.hd.adv,i6 x.hd.seq,i6 x.hd.sum,i6 x.hd.long,.slice xp.A x.links.length xp.c,.slice xp.B x.mem.length xp.d]::ai g2 111 #[i6 k.kind,i6 k.id,i6 k.adv]::L) (aa (.slice xp.A x.links.length xp.c) 230 4 x.links.length (ab Lk.cells x.links)::aa (.slice xp.B x.mem.length xp.d) 3 1 x.mem.length (aw x.mem)::crA co 39 vsA vsc vs::I) w_) ?_ ?_
  ·have hI12:=hr12
   refine rgR [[],[0],[0,1],[0,1,2],[0,1,2,3],[0,1,2,3,4],[0,1,2,3,4,5],[0,1,2,3,4,5,6],[0,1,2,3,4,5,6,7],[0,1,2,3,4,5,6,7,8],[0,1,2,3,4,5,6,7,8,9],[0,1,2,3,4,5,6],[0,1,2,3,4,5,6,7,8,9,10,11],[0,1,2,3,4,5,6,7,8,9,10,11,12],[0,1,2,3,4,5,6,7,8,9,10,11,12,13]] [12] (.rd 0 (.rd 1 (.rd 2 (.rd 3 (.rd 4 (.rd 5 (.rd 6 (.rd 7 (.rd 8 (.rd 9 (.rd 10 (.rd 11 (.ef 12 (.rd 13 (.rd 14 (.fin))) .non))))))))))))) hk hS (fun w hS _=>?_)
   iterate 3 refine T ?_
   rcases dt ((q10.2:Int) ≠ 1) with ⟨he,hg2⟩ | ⟨he,hg2⟩
   ·rw [he]
    replace hI12:=(if_pos hg2).symm.trans hI12
    iterate 4 refine T ?_
    rcases dt ((q10.2:Int) ≠ 2) with ⟨he,hg6⟩ | ⟨he,hg6⟩
    ·rw [he]
     replace hI12:=(if_pos hg6).symm.trans hI12
     refine oF 6 63 false [7,8,9,10,11] ?_
     refine oE 6 63 false ?_
     refine oF 6 63 false [13] ?_
     refine T ?_
     refine rE [0,4,6,13,71] hk fun a hk=>?_
     replace hS:=hS.pk [7,7,7,7,6,6,6,6,6] 0
     replace hS:=ak (x:=s) (e:=⟨e5.A,e5.c⟩) hpl5 hS
     obtain rfl:=Option.some.inj hI12
     exact ⟨hk.to,hS⟩
    rw [he]
    replace hI12:=(if_neg hg6).symm.trans hI12
    iterate 3 refine T ?_
    refine LD 7 hk hS ?_
    refine LDS 0 9 hk hS ?_
    replace hS:=hS.pk [3,3] 0
    obtain ⟨J13,hS,hJ13⟩:=S.lend (M:=[_,_]) hS
    replace hS:=hS.pk [4] 0
    obtain ⟨hgd15,hI12⟩:=gdE hI12
    obtain ⟨hgd16,hI12⟩:=gdE hI12
    refine eC hk (h:=iR P.dg q10.1 e010 s.db _ hgd15 hgd16 hS) (k:=?_)
    rintro _ w ⟨rfl,hS⟩
    refine ⟨_,rfl,?_⟩
    generalize hq14:ej q10.1 s.db = q14 at hS ⊢
    replace hI12:=(am hq14).symm.trans hI12
    replace hS:=hJ13 _ _ hS
    replace hS:=hS.nz 18
    iterate 2 refine T ?_
    refine rE [0,4,6,13,71] hk fun a hk=>?_
    replace hS:=hS.pk [7,7,7,7,2,6,6,6,6] 0
    replace hS:=ak (x:={ s with db:=q14.2 }) (e:=⟨e5.A,e5.c⟩) hpl5 hS
    replace hS:=hS.pk [0,2,2,2,0,0,0,0,0,0] 0
    obtain rfl:=Option.some.inj hI12
    exact ⟨hk.to,hS⟩
   rw [he]
   replace hI12:=(if_neg hg2).symm.trans hI12
   refine oF 2 59 true [3,4] ?_
   iterate 5 refine T ?_
   refine LD 7 hk hS ?_
   refine LDS 0 9 hk hS ?_
   replace hS:=hS.pk [3,3] 0
   obtain ⟨J17,hS,hJ17⟩:=S.lend (M:=[_,_]) hS
   replace hS:=hS.pk [4] 0
   obtain ⟨hgd19,hI12⟩:=gdE hI12
   obtain ⟨hgd20,hI12⟩:=gdE hI12
   refine eC hk (h:=iR P.dg q10.1 e010 s.db _ hgd19 hgd20 hS) (k:=?_)
   rintro _ w ⟨rfl,hS⟩
   refine ⟨_,rfl,?_⟩
   generalize hq18:ej q10.1 s.db = q18 at hS ⊢
   replace hI12:=(am hq18).symm.trans hI12
   replace hS:=hJ17 _ _ hS
   replace hS:=hS.nz 18
   iterate 2 refine T ?_
   refine rE [0,4,6,13,71] hk fun a hk=>?_
   replace hS:=hS.pk [7,7,7,7,2,6,6,6,6] 0
   replace hS:=ak (x:={ s with db:=q18.2 }) (e:=⟨e5.A,e5.c⟩) hpl5 hS
   replace hS:=hS.pk [0,2,2,2,0,0,0,0,0,0] 0
   obtain rfl:=Option.some.inj hI12
   exact ⟨hk.to,hS⟩
  rintro a w ⟨hk,hS⟩
  refine cB hk (fun hc71=>?_) (fun hc71=>?_)
  ·replace ht:=(bT hc71).symm.trans ht
   refine wp_ret ?_
   replace hS:=hS.pk [0] 9
   obtain rfl:=Option.some.inj ht
   exact rt0 hk (hR_ _ _ ⟨rfl,hS⟩)
  replace ht:=(bF hc71).symm.trans ht
  refine wp_skip ?_
  refine wp_seq ?_
  refine rgR [[],[0],[0,1],[0,1,2],[],[],[5],[5,6],[],[8],[8,9],[8,9,10],[5,6,7,8,9,10,11],[0,1,2,3,4,5,6,7,8,9,10,11,12]] [13] (.rd 0 (.rd 1 (.rd 2 (.rd 3 (.rd 4 (.rd 5 (.rd 6 (.rd 7 (.rd 8 (.rd 9 (.rd 10 (.rd 11 (.rd 12 (.ef 13 (.fin) .non)))))))))))))) hk hS (fun w hS _=>?_)
  iterate 3 refine T ?_
  obtain ⟨e21,hpl21,hS⟩:=ro_open hS
  refine LD 0 hk hS ?_
  refine LDS 17 3 hk hS ?_
  iterate 2 refine T ?_
  refine LD 9 hk hS ?_
  iterate 3 refine T ?_
  refine LD 0 hk hS ?_
  refine rD (.agg #[i6 q10.1.hd.seq,i6 r12.2.now]) (fun _ h_=>rk (af rfl (h_.prt hk) (by kernel_rfl))) ?_
  refine eF (fun a_ h_=>cL (ev:=ed) (E:=305) 3 k (⟨q10.1.hd.seq,r12.2.now⟩:ToV) bY hS (ae rfl) (.inl rfl) (h_.x hk) (h_.x hk) (h_.x hk) fun w hS=>⟨_,rfl,?_⟩)
  replace hS:=hS.nz 18
  refine rE [0,4,6] hk fun a hk=>?_
  refine wp_seq ?_
  refine rgR [[],[0],[0,1],[0,1,2],[],[0,1,2,3,4],[0,1,2,3,4,5],[0,1,2,3,4,5,6],[0,1,2,3,4,5,6],[],[0,1,2,3,4,5,6,7,9],[0,1,2,3,4,5,6,7,8,9,10]] [5,9,10] (.rd 0 (.rd 1 (.rd 2 (.rd 3 (.rd 4 (.ef 5 (.rd 6 (.rd 7 (.rd 8 (.ef 9 (.ag 6 (.ag 7 (.ag 8 (.ef 10 (.ag 8 (.rd 11 (.fin))) .non)))) .non)))) (.ef 9 (.ag 0 (.ag 1 (.ag 2 (.ag 3 (.ag 4 (.ef 5 (.rd 6 (.rd 7 (.rd 8 (.ef 10 (.ag 8 (.rd 11 (.fin))) .non)))) .non)))))) .non))))))) hk hS (fun w hS _=>?_)
  iterate 3 refine T ?_
  refine LD 0 hk hS ?_
  refine LDS 17 3 hk hS ?_
  refine efk ?_ ?_
  ·replace hS:=hS.pk [4] 0
   obtain ⟨hgd23,ht⟩:=gdE ht
   refine eC hk (h:=dM P.dg k r12.2.db _ hgd23 hS) (k:=?_)
   rintro _ w ⟨e022,rfl,hS⟩
   refine ⟨_,rfl,?_⟩
   generalize hq22:bh k r12.2.db = q22 at hS ⊢
   replace ht:=(am hq22).symm.trans ht
   replace hS:=hS.nz 20
   iterate 3 refine T ?_
   refine eA #[i6 0,i6 0,i6 0,i6 0,i6 0,i6 0,i6 0,.slice none 0 0,.slice none 0 0] hS (fun g24 w hS _=>?_)
   iterate 3 refine TA ?_
   refine eS 0 hk hS (fun w hS _=>?_)
   refine TA ?_
   refine T ?_
   refine rE [0,4,15] hk fun a hk=>?_
   refine rgL [3] hk ?_
   refine T ?_
   refine LDS 0 9 hk hS ?_
   refine T ?_
   replace hS:=hS.pk [4,4,4,4,3,3,3,3,3] 0
   replace hS:=ak (x:={ r12.2 with mine:=aV k (⟨q10.1.hd.seq,r12.2.now⟩:ToV) r12.2.mine }) (e:=⟨e21.A,e21.c⟩) hpl21 hS
   replace hS:=hS.pk [2,2] 0
   obtain ⟨J25,hS,hJ25⟩:=S.lend (M:=[_,_]) hS
   replace hS:=hS.dupI 5
   replace hS:=hS.dupI 2
   replace hS:=hS.dupI 2
   obtain ⟨q26,hq26,ht⟩:=ao ht
   refine eC hk (h:=cK P q22.1 e022 (-1) 0 vs vsA vsc ({ r12.2 with mine:=aV k (⟨q10.1.hd.seq,r12.2.now⟩:ToV) r12.2.mine }) _ hq26 hS) (k:=?_)
   rintro _ w ⟨B026,d026,rfl,hS⟩
   refine ⟨_,rfl,?_⟩
   replace hS:=hS.dropI.dropI.dropI
   replace hS:=hJ25 _ _ hS
   replace hS:=hS.nz 14
   refine rE [] hk fun a hk=>?_
   replace hS:=hS.pk [3] 13
   obtain rfl:=Option.some.inj ht
   exact rt0 hk (hR_ _ _ ⟨rfl,hS⟩)
  refine eA #[i6 0,i6 0,i6 0,i6 0,i6 0,i6 0,i6 0,.slice none 0 0,.slice none 0 0] hS (fun g27 w hS _=>?_)
  iterate 3 refine TA ?_
  refine aG (fun _ h_=>rk (ld hS 1 rfl (h_.x hk))) ?_
  refine aG (fun _ h_=>rk (lbS 3 (hS.blk (i:=18) rfl) rfl (h_.x hk))) ?_
  replace hS:=hS.pk [5] 0
  obtain ⟨hgd29,ht⟩:=gdE ht
  refine eC hk (h:=dM P.dg k r12.2.db _ hgd29 hS) (k:=?_)
  rintro _ w ⟨e028,rfl,hS⟩
  refine ⟨_,rfl,?_⟩
  generalize hq28:bh k r12.2.db = q28 at hS ⊢
  replace ht:=(am hq28).symm.trans ht
  replace hS:=hS.nz 21
  iterate 3 refine T ?_
  refine eS 3 hk hS (fun w hS _=>?_)
  refine TA ?_
  refine T ?_
  refine rE [0,4,15] hk fun a hk=>?_
  refine rgL [3] hk ?_
  refine T ?_
  refine LDS 3 9 hk hS ?_
  refine T ?_
  replace hS:=hS.pk [4,4,4,4,2,3,3,3,3] 0
  replace hS:=ak (x:={ r12.2 with mine:=aV k (⟨q10.1.hd.seq,r12.2.now⟩:ToV) r12.2.mine }) (e:=⟨e21.A,e21.c⟩) hpl21 hS
  replace hS:=hS.pk [1,1] 0
  obtain ⟨J30,hS,hJ30⟩:=S.lend (M:=[_,_]) hS
  replace hS:=hS.dupI 5
  replace hS:=hS.dupI 2
  replace hS:=hS.dupI 2
  obtain ⟨q31,hq31,ht⟩:=ao ht
  refine eC hk (h:=cK P q28.1 e028 (-1) 0 vs vsA vsc ({ r12.2 with mine:=aV k (⟨q10.1.hd.seq,r12.2.now⟩:ToV) r12.2.mine }) _ hq31 hS) (k:=?_)
  rintro _ w ⟨B031,d031,rfl,hS⟩
  refine ⟨_,rfl,?_⟩
  replace hS:=hS.dropI.dropI.dropI
  replace hS:=hJ30 _ _ hS
  replace hS:=hS.nz 14
  refine rE [] hk fun a hk=>?_
  replace hS:=hS.pk [3] 13
  obtain rfl:=Option.some.inj ht
  exact rt0 hk (hR_ _ _ ⟨rfl,hS⟩)
 refine eA #[i6 0,i6 0,i6 0,i6 0,i6 0,i6 0,i6 0,.slice none 0 0,.slice none 0 0] hS (fun g32 w hS _=>?_)
 refine aG (fun _ h_=>rk (lbS 23 (hS.blk (i:=13) rfl) rfl (h_.x hk))) ?_
 iterate 3 refine TA ?_
 refine aG (fun _ h_=>rk (ld hS 5 rfl (h_.x hk))) ?_
 replace hS:=hS.pk [2,2] 0
 obtain ⟨J33,hS,hJ33⟩:=S.lend (M:=[_,_]) hS
 replace hS:=hS.dupI 1
 replace hS:=hS.dupI 1
 replace hS:=hS.dupI 6
 replace hS:=hS.dupI 6
 obtain ⟨q34,hq34,ht⟩:=ao ht
 refine eC hk (h:=ko (⟨x.hd,x.links,x.mem,is,q6.1.hd,q6.1.links,q6.1.mem,q6.2,((au k s.mine).getD to0).seq,((au k s.mine).getD to0).at_,(au k s.mine).isSome⟩:MiV) (⟨⟨xp.A,xp.c⟩,⟨xp.B,xp.d⟩,⟨e06.A,e06.c⟩,⟨e06.B,e06.d⟩⟩:SlP × SlP × SlP × SlP) s.now _ hq34 hS) (k:=?_)
 rintro _ w ⟨e034,rfl,hS⟩
 refine ⟨_,rfl,?_⟩
 replace hS:=hS.dropI.dropI.dropI.dropI
 replace hS:=hJ33 _ _ hS
 replace hS:=hS.nz 18
 iterate 3 refine T ?_
 refine eS 4 hk hS (fun w hS _=>?_)
 refine TA ?_
 refine T ?_
 refine rE [0,4,6,13,14] hk fun a hk=>?_
 refine wp_seq ?_
 refine wp_seq ?_
 obtain ⟨r35,hr35,ht⟩:=ao ht
 refine aB (fun a_ w_=>Fr a_ 98 [(0,pt P.g 0),(4,.slice vsA vs.length vsc),(6,pt g2 0),(13,pt g32 0),(71,.bool r35.1)]∧S κ (roA P r35.2::aa (.slice e06.A q6.1.links.length e06.c) 230 4 q6.1.links.length (ab Lk.cells q6.1.links)::aa (.slice e06.B q6.1.mem.length e06.d) 3 1 q6.1.mem.length (aw q6.1.mem)::aa (.slice e034.A q34.1.links.length e034.c) 230 4 q34.1.links.length (ab Lk.cells q34.1.links)::aa (.slice e034.B q34.1.mem.length e034.d) 3 1 q34.1.mem.length (aw q34.1.mem)::ai g32 66 #[i6 q34.1.hd.age,i6 q34.1.hd.kind,i6 q34.1.hd.id,i6 q34.1.hd.adv,i6 q34.1.hd.seq,i6 q34.1.hd.sum,i6 q34.1.hd.long,.slice e034.A q34.1.links.length e034.c,.slice e034.B q34.1.mem.length e034.d]::(ai g8 305 #[i6 (((au k s.mine).getD to0).seq),i6 (((au k s.mine).getD to0).at_)])::(ai g4 303 #[i6 x.hd.age,i6 x.hd.kind,i6 x.hd.id,i6 x.hd.adv,i6 x.hd.seq,i6 x.hd.sum,i6 x.hd.long,.slice xp.A x.links.length xp.c,.slice xp.B x.mem.length xp.d,.bool is,i6 q6.1.hd.age,i6 q6.1.hd.kind,i6 q6.1.hd.id,i6 q6.1.hd.adv,i6 q6.1.hd.seq,i6 q6.1.hd.sum,i6 q6.1.hd.long,.slice e06.A q6.1.links.length e06.c,.slice e06.B q6.1.mem.length e06.d,.bool q6.2,i6 (((au k s.mine).getD to0).seq),i6 (((au k s.mine).getD to0).at_),.bool ((au k s.mine).isSome)])::ai g3 66 #[i6 x.hd.age,i6 x.hd.kind,i6 x.hd.id,i6 x.hd.adv,i6 x.hd.seq,i6 x.hd.sum,i6 x.hd.long,.slice xp.A x.links.length xp.c,.slice xp.B x.mem.length xp.d]::ai g2 111 #[i6 k.kind,i6 k.id,i6 k.adv]::L) (aa (.slice xp.A x.links.length xp.c) 230 4 x.links.length (ab Lk.cells x.links)::aa (.slice xp.B x.mem.length xp.d) 3 1 x.mem.length (aw x.mem)::crA co 39 vsA vsc vs::I) w_) ?_ ?_
 ·have hI35:=hr35
  refine rgR [[],[0],[0,1],[0,1,2],[0,1,2,3],[0,1,2,3,4],[0,1,2,3,4,5],[0,1,2,3,4,5,6],[0,1,2,3,4,5,6,7],[0,1,2,3,4,5,6,7,8],[0,1,2,3,4,5,6,7,8,9],[0,1,2,3,4,5,6],[0,1,2,3,4,5,6,7,8,9,10,11],[0,1,2,3,4,5,6,7,8,9,10,11,12],[0,1,2,3,4,5,6,7,8,9,10,11,12,13]] [12] (.rd 0 (.rd 1 (.rd 2 (.rd 3 (.rd 4 (.rd 5 (.rd 6 (.rd 7 (.rd 8 (.rd 9 (.rd 10 (.rd 11 (.ef 12 (.rd 13 (.rd 14 (.fin))) .non))))))))))))) hk hS (fun w hS _=>?_)
  iterate 3 refine T ?_
  rcases dt ((q34.2:Int) ≠ 1) with ⟨he,hg2⟩ | ⟨he,hg2⟩
  ·rw [he]
   replace hI35:=(if_pos hg2).symm.trans hI35
   iterate 4 refine T ?_
   rcases dt ((q34.2:Int) ≠ 2) with ⟨he,hg6⟩ | ⟨he,hg6⟩
   ·rw [he]
    replace hI35:=(if_pos hg6).symm.trans hI35
    refine oF 6 63 false [7,8,9,10,11] ?_
    refine oE 6 63 false ?_
    refine oF 6 63 false [13] ?_
    refine T ?_
    refine rE [0,4,6,13,71] hk fun a hk=>?_
    replace hS:=hS.pk [7,7,7,7,6,6,6,6,6] 0
    replace hS:=ak (x:=s) (e:=⟨e5.A,e5.c⟩) hpl5 hS
    obtain rfl:=Option.some.inj hI35
    exact ⟨hk.to,hS⟩
   rw [he]
   replace hI35:=(if_neg hg6).symm.trans hI35
   iterate 3 refine T ?_
   refine LD 7 hk hS ?_
   refine LDS 4 9 hk hS ?_
   replace hS:=hS.pk [2,2] 0
   obtain ⟨J36,hS,hJ36⟩:=S.lend (M:=[_,_]) hS
   replace hS:=hS.pk [4] 0
   obtain ⟨hgd38,hI35⟩:=gdE hI35
   obtain ⟨hgd39,hI35⟩:=gdE hI35
   refine eC hk (h:=iR P.dg q34.1 e034 s.db _ hgd38 hgd39 hS) (k:=?_)
   rintro _ w ⟨rfl,hS⟩
   refine ⟨_,rfl,?_⟩
   generalize hq37:ej q34.1 s.db = q37 at hS ⊢
   replace hI35:=(am hq37).symm.trans hI35
   replace hS:=hJ36 _ _ hS
   replace hS:=hS.nz 18
   iterate 2 refine T ?_
   refine rE [0,4,6,13,71] hk fun a hk=>?_
   replace hS:=hS.pk [7,7,7,7,2,6,6,6,6] 0
   replace hS:=ak (x:={ s with db:=q37.2 }) (e:=⟨e5.A,e5.c⟩) hpl5 hS
   replace hS:=hS.pk [0,2,2,0,0,0,0,0,0,0] 0
   obtain rfl:=Option.some.inj hI35
   exact ⟨hk.to,hS⟩
  rw [he]
  replace hI35:=(if_neg hg2).symm.trans hI35
  refine oF 2 59 true [3,4] ?_
  iterate 5 refine T ?_
  refine LD 7 hk hS ?_
  refine LDS 4 9 hk hS ?_
  replace hS:=hS.pk [2,2] 0
  obtain ⟨J40,hS,hJ40⟩:=S.lend (M:=[_,_]) hS
  replace hS:=hS.pk [4] 0
  obtain ⟨hgd42,hI35⟩:=gdE hI35
  obtain ⟨hgd43,hI35⟩:=gdE hI35
  refine eC hk (h:=iR P.dg q34.1 e034 s.db _ hgd42 hgd43 hS) (k:=?_)
  rintro _ w ⟨rfl,hS⟩
  refine ⟨_,rfl,?_⟩
  generalize hq41:ej q34.1 s.db = q41 at hS ⊢
  replace hI35:=(am hq41).symm.trans hI35
  replace hS:=hJ40 _ _ hS
  replace hS:=hS.nz 18
  iterate 2 refine T ?_
  refine rE [0,4,6,13,71] hk fun a hk=>?_
  replace hS:=hS.pk [7,7,7,7,2,6,6,6,6] 0
  replace hS:=ak (x:={ s with db:=q41.2 }) (e:=⟨e5.A,e5.c⟩) hpl5 hS
  replace hS:=hS.pk [0,2,2,0,0,0,0,0,0,0] 0
  obtain rfl:=Option.some.inj hI35
  exact ⟨hk.to,hS⟩
 rintro a w ⟨hk,hS⟩
 refine cB hk (fun hc71=>?_) (fun hc71=>?_)
 ·replace ht:=(bT hc71).symm.trans ht
  refine wp_ret ?_
  replace hS:=hS.pk [0] 9
  obtain rfl:=Option.some.inj ht
  exact rt0 hk (hR_ _ _ ⟨rfl,hS⟩)
 replace ht:=(bF hc71).symm.trans ht
 refine wp_skip ?_
 refine wp_seq ?_
 refine rgR [[],[0],[0,1],[0,1,2],[],[],[5],[5,6],[],[8],[8,9],[8,9,10],[5,6,7,8,9,10,11],[0,1,2,3,4,5,6,7,8,9,10,11,12]] [13] (.rd 0 (.rd 1 (.rd 2 (.rd 3 (.rd 4 (.rd 5 (.rd 6 (.rd 7 (.rd 8 (.rd 9 (.rd 10 (.rd 11 (.rd 12 (.ef 13 (.fin) .non)))))))))))))) hk hS (fun w hS _=>?_)
 iterate 3 refine T ?_
 obtain ⟨e44,hpl44,hS⟩:=ro_open hS
 refine LD 0 hk hS ?_
 refine LDS 17 3 hk hS ?_
 iterate 2 refine T ?_
 refine LD 13 hk hS ?_
 iterate 3 refine T ?_
 refine LD 0 hk hS ?_
 refine rD (.agg #[i6 q34.1.hd.seq,i6 r35.2.now]) (fun _ h_=>rk (af rfl (h_.prt hk) (by kernel_rfl))) ?_
 refine eF (fun a_ h_=>cL (ev:=ed) (E:=305) 3 k (⟨q34.1.hd.seq,r35.2.now⟩:ToV) bY hS (ae rfl) (.inl rfl) (h_.x hk) (h_.x hk) (h_.x hk) fun w hS=>⟨_,rfl,?_⟩)
 replace hS:=hS.nz 18
 refine rE [0,4,6] hk fun a hk=>?_
 refine wp_seq ?_
 refine rgR [[],[0],[0,1],[0,1,2],[],[0,1,2,3,4],[0,1,2,3,4,5],[0,1,2,3,4,5,6],[0,1,2,3,4,5,6],[],[0,1,2,3,4,5,6,7,9],[0,1,2,3,4,5,6,7,8,9,10]] [5,9,10] (.rd 0 (.rd 1 (.rd 2 (.rd 3 (.rd 4 (.ef 5 (.rd 6 (.rd 7 (.rd 8 (.ef 9 (.ag 6 (.ag 7 (.ag 8 (.ef 10 (.ag 8 (.rd 11 (.fin))) .non)))) .non)))) (.ef 9 (.ag 0 (.ag 1 (.ag 2 (.ag 3 (.ag 4 (.ef 5 (.rd 6 (.rd 7 (.rd 8 (.ef 10 (.ag 8 (.rd 11 (.fin))) .non)))) .non)))))) .non))))))) hk hS (fun w hS _=>?_)
 iterate 3 refine T ?_
 refine LD 0 hk hS ?_
 refine LDS 17 3 hk hS ?_
 refine efk ?_ ?_
 ·replace hS:=hS.pk [4] 0
  obtain ⟨hgd46,ht⟩:=gdE ht
  refine eC hk (h:=dM P.dg k r35.2.db _ hgd46 hS) (k:=?_)
  rintro _ w ⟨e045,rfl,hS⟩
  refine ⟨_,rfl,?_⟩
  generalize hq45:bh k r35.2.db = q45 at hS ⊢
  replace ht:=(am hq45).symm.trans ht
  replace hS:=hS.nz 20
  iterate 3 refine T ?_
  refine eA #[i6 0,i6 0,i6 0,i6 0,i6 0,i6 0,i6 0,.slice none 0 0,.slice none 0 0] hS (fun g47 w hS _=>?_)
  iterate 3 refine TA ?_
  refine eS 0 hk hS (fun w hS _=>?_)
  refine TA ?_
  refine T ?_
  refine rE [0,4,15] hk fun a hk=>?_
  refine rgL [3] hk ?_
  refine T ?_
  refine LDS 0 9 hk hS ?_
  refine T ?_
  replace hS:=hS.pk [4,4,4,4,3,3,3,3,3] 0
  replace hS:=ak (x:={ r35.2 with mine:=aV k (⟨q34.1.hd.seq,r35.2.now⟩:ToV) r35.2.mine }) (e:=⟨e44.A,e44.c⟩) hpl44 hS
  replace hS:=hS.pk [2,2] 0
  obtain ⟨J48,hS,hJ48⟩:=S.lend (M:=[_,_]) hS
  replace hS:=hS.dupI 5
  replace hS:=hS.dupI 2
  replace hS:=hS.dupI 2
  obtain ⟨q49,hq49,ht⟩:=ao ht
  refine eC hk (h:=cK P q45.1 e045 (-1) 0 vs vsA vsc ({ r35.2 with mine:=aV k (⟨q34.1.hd.seq,r35.2.now⟩:ToV) r35.2.mine }) _ hq49 hS) (k:=?_)
  rintro _ w ⟨B049,d049,rfl,hS⟩
  refine ⟨_,rfl,?_⟩
  replace hS:=hS.dropI.dropI.dropI
  replace hS:=hJ48 _ _ hS
  replace hS:=hS.nz 14
  refine rE [] hk fun a hk=>?_
  replace hS:=hS.pk [3] 13
  obtain rfl:=Option.some.inj ht
  exact rt0 hk (hR_ _ _ ⟨rfl,hS⟩)
 refine eA #[i6 0,i6 0,i6 0,i6 0,i6 0,i6 0,i6 0,.slice none 0 0,.slice none 0 0] hS (fun g50 w hS _=>?_)
 iterate 3 refine TA ?_
 refine aG (fun _ h_=>rk (ld hS 1 rfl (h_.x hk))) ?_
 refine aG (fun _ h_=>rk (lbS 3 (hS.blk (i:=18) rfl) rfl (h_.x hk))) ?_
 replace hS:=hS.pk [5] 0
 obtain ⟨hgd52,ht⟩:=gdE ht
 refine eC hk (h:=dM P.dg k r35.2.db _ hgd52 hS) (k:=?_)
 rintro _ w ⟨e051,rfl,hS⟩
 refine ⟨_,rfl,?_⟩
 generalize hq51:bh k r35.2.db = q51 at hS ⊢
 replace ht:=(am hq51).symm.trans ht
 replace hS:=hS.nz 21
 iterate 3 refine T ?_
 refine eS 3 hk hS (fun w hS _=>?_)
 refine TA ?_
 refine T ?_
 refine rE [0,4,15] hk fun a hk=>?_
 refine rgL [3] hk ?_
 refine T ?_
 refine LDS 3 9 hk hS ?_
 refine T ?_
 replace hS:=hS.pk [4,4,4,4,2,3,3,3,3] 0
 replace hS:=ak (x:={ r35.2 with mine:=aV k (⟨q34.1.hd.seq,r35.2.now⟩:ToV) r35.2.mine }) (e:=⟨e44.A,e44.c⟩) hpl44 hS
 replace hS:=hS.pk [1,1] 0
 obtain ⟨J53,hS,hJ53⟩:=S.lend (M:=[_,_]) hS
 replace hS:=hS.dupI 5
 replace hS:=hS.dupI 2
 replace hS:=hS.dupI 2
 obtain ⟨q54,hq54,ht⟩:=ao ht
 refine eC hk (h:=cK P q51.1 e051 (-1) 0 vs vsA vsc ({ r35.2 with mine:=aV k (⟨q34.1.hd.seq,r35.2.now⟩:ToV) r35.2.mine }) _ hq54 hS) (k:=?_)
 rintro _ w ⟨B054,d054,rfl,hS⟩
 refine ⟨_,rfl,?_⟩
 replace hS:=hS.dropI.dropI.dropI
 replace hS:=hJ53 _ _ hS
 replace hS:=hS.nz 14
 refine rE [] hk fun a hk=>?_
 replace hS:=hS.pk [3] 13
 obtain rfl:=Option.some.inj ht
 exact rt0 hk (hR_ _ _ ⟨rfl,hS⟩)
end
section
set_option maxRecDepth 100000
set_option maxHeartbeats 8000000
def bZ (d:DbS):List KeyV × DbS:=(hX d.l,⟨d.room,nS d.l⟩)
theorem qD {κ:Kap} {L I:List Atom} (g:Nat) (d:DbS) (W:World) (hn:d.l.length ≤ 100000) (ha:dz d) (hS:S κ (dbA g d::L) I W):
    Calls Tryz.prog 40 #[pt g 0] W (fun r w'=>∃ B0 d0,r = .returned (.slice B0 (bZ d).1.length d0)∧S κ (aa (.slice B0 (bZ d).1.length d0) 111 3 (bZ d).1.length (ab KeyV.cells (bZ d).1)::dbA g (bZ d).2::L) I w'):=sF g d W hn ha hS
theorem tj {α:Type} {es l:List α} (h:es.Perm l) (hl:l.length ≤ 1):es = l:=by
  match l,hl with
  | [],_=>exact h.eq_nil
  | [a],_=>exact List.perm_singleton.1 h
def fo:List VwV → (List (KeyV × LV)) → Option ((List (KeyV × LV)))
  | [],v13x0=>some v13x0
  | z13::xs13,v13x0=>aJ (kn z13) fun q17=>cond q17.2 (fo xs13 (aV (ah q17.1.hd) q17.1 v13x0)) (fo xs13 v13x0)
def gq (k31:KeyV) (v31:LV) (v30x0:List KeyV):(List KeyV):=v30x0 ++ [k31]
def ft (s:RoS):List LV → (List KeyV) → Option ((List KeyV))
  | [],v40x0=>some v40x0
  | z40::xs40,v40x0=>if (z40.hd.adv:Int) = s.id then cond (ka v40x0 (ah z40.hd)) (ft s xs40 v40x0) (if v40x0.length + 1 ≤ 100000 then ft s xs40 (v40x0 ++ [(ah z40.hd)]) else none) else ft s xs40 v40x0
def fv (q2:(List VwV)) (r13:(List (KeyV × LV))):List KeyV → RoS → Option (RoS)
  | [],v53x0=>some v53x0
  | z53::xs53,v53x0=>ji (au z53 r13) (aJ (eb z53 (⟨(⟨0,0,0,0,0,0,0⟩:HD),[],[]⟩:LV) false q2 v53x0) fun q64=>fv q2 r13 xs53 q64) fun v61=>aJ (eb z53 v61 true q2 v53x0) fun q67=>fv q2 r13 xs53 q67
def lu (s:RoS):Option (RoS):=aJ (gr s) fun q2=>if q2.length ≤ 100000 then bw (aN s.id q2) fun q6=>aJ (fo q2 (aV (ah q6.hd) q6 [])) fun r13=>if r13.length ≤ 1 then bw (r13.foldr (fun e x=>gq e.1 e.2 x) []) fun r30=>if dz s.db then if s.db.l.length ≤ 100000 then bw (cS s.db.l) fun q36=>aJ (ft s q36 r30) fun r40=>if r40.length ≤ 100000 then aJ (fv q2 r13 (aW dc r40) s) fun r53=>some r53 else none else none else none else none else none
theorem vV {κ:Kap} {L I:List Atom} (P:RoP) (s:RoS) (W:World) {r_:RoS} (ht:(lu s) = some r_) (hS:S κ (roA P s::L) (I) W):
    Calls Tryz.prog 47 #[pt P.g 0] W (fun r w'=>r = .returned (.tuple #[])∧S κ (roA P r_::L) (I) w'):=by
 refine wK 117 Tryz.func47 (fun R_ hR_ a hk=>?_)
 refine sg [1] hk ?_
 refine T ?_
 obtain ⟨q2,hq2,ht⟩:=ao ht
 refine eC hk (h:=f0 P s _ hq2 hS) (k:=?_)
 rintro _ w ⟨B02,d02,rfl,hS⟩
 refine ⟨_,rfl,?_⟩
 replace hS:=hS.nz 2
 refine T ?_
 refine rE [0,2] hk fun a hk=>?_
 refine sg [0] hk ?_
 refine eF (fun a_ h_=>bV (α:=KeyV) (β:=LV × LP) lsMF.ek lsMF.ev hS (ae rfl) rfl fun g3 w hS _=>⟨_,rfl,?_⟩)
 replace hS:=kj hS
 refine T ?_
 refine rE [0,2,3] hk fun a hk=>?_
 refine sg [5,6,7] hk ?_
 iterate 3 refine T ?_
 replace hS:=hS.fr 2
 obtain ⟨e4,hpl4,hS⟩:=ro_open hS
 refine LD 0 hk hS ?_
 refine T ?_
 replace hS:=hS.pk [10] 0
 obtain ⟨J5,hS,hJ5⟩:=S.lend (M:=[_]) hS
 obtain ⟨hgd7,ht⟩:=gdE ht
 refine eC hk (h:=no s.id q2 B02 d02 _ hgd7 hS) (k:=?_)
 rintro _ w ⟨e06,rfl,hS⟩
 refine ⟨_,rfl,?_⟩
 generalize hq6:aN s.id q2 = q6 at hS ⊢
 replace ht:=(am hq6).symm.trans ht
 replace hS:=hJ5 _ _ hS
 replace hS:=hS.nz 13
 refine eA #[i6 0,i6 0,i6 0,i6 0,i6 0,i6 0,i6 0,.slice none 0 0,.slice none 0 0] hS (fun g8 w hS _=>?_)
 refine eS 0 hk hS (fun w hS _=>?_)
 refine rE [0,2,3,4] hk fun a hk=>?_
 refine wp_seq ?_
 refine rgR [[],[],[1],[1,2],[],[0,1,2,3,4]] [3,5] (.rd 0 (.rd 1 (.rd 2 (.rd 4 (.ef 3 (.ag 0 (.ag 4 (.ef 5 (.fin) .non))) .non))))) hk hS (fun w hS _=>?_)
 iterate 2 refine T ?_
 refine LDS 0 7 hk hS ?_
 refine LDS 0 9 hk hS ?_
 refine eC hk (h:=ct q6.hd _ hS) (k:=?_)
 rintro _ w ⟨rfl,hS⟩
 refine ⟨_,rfl,?_⟩
 replace hS:=hS.nz 14
 refine TA ?_
 refine aG (fun _ h_=>rk (lbS 9 (hS.blk (i:=0) rfl) rfl (h_.x hk))) ?_
 replace hS:=hS.fr 13
 obtain ⟨q10,hq10,hS⟩:=cd (F:=lsMF) hS
 refine eF (fun a_ h_=>cL (ev:=lsMF.ev) (E:=66) 0 (ah q6.hd) (q6,e06) bY hS (ae rfl) (.inl rfl) (h_.x hk) (h_.x hk) (h_.x hk) fun w hS=>⟨_,rfl,?_⟩)
 replace hS:=hS.nz 15
 replace hS:=hS.pk [4,4,1] 0
 replace hS:=mw (F:=lsMF) (x:=(ah q6.hd)) (v:=q6) (p:=e06) hS
 have hq11:=gk hq10 (ah q6.hd) q6 e06
 replace hS:=hS.pk [1,0] 0
 replace hS:=bd (F:=lsMF) hq11 hS
 refine rE [0,2,3] hk fun a hk=>?_
 refine wp_seq ?_
 refine sg [] hk ?_
 iterate 3 refine T ?_
 refine rE [0,2,3,32,33,34] hk fun a hk=>?_
 replace hS:=hS.fr 2
 obtain ⟨J12,hS,hJ12⟩:=S.lend (M:=[_]) hS
 replace hS:=hS.pk [2,2,2,2,2,2,2,2,2] 0
 replace hS:=ak (x:=s) (e:=⟨e4.A,e4.c⟩) hpl4 hS
 obtain ⟨r13,hr13,ht⟩:=ao ht
 refine aB (fun a_ w_=>Fr a_ 117 [(0,pt P.g 0),(2,.slice B02 q2.length d02),(3,.map (some g3))]∧S κ (roA P s::(fS lsMF g3 r13)::ai g8 66 #[i6 q6.hd.age,i6 q6.hd.kind,i6 q6.hd.id,i6 q6.hd.adv,i6 q6.hd.seq,i6 q6.hd.sum,i6 q6.hd.long,.slice e06.A q6.links.length e06.c,.slice e06.B q6.mem.length e06.d]::L) (crA co 39 B02 d02 q2::J12::I) w_) ?_ ?_
 ·refine wp_block ?_
  refine wp_loop (fun a_ w_=>∃ k13:Nat,∃ v13x0:List (KeyV × LV),(k13 ≤ (q2).length)∧fo ((q2).drop k13) v13x0 = some r13∧Fr a_ 117 [(0,pt P.g 0),(2,.slice B02 q2.length d02),(3,.map (some g3)),(32,.slice B02 q2.length d02),(33,i6 ((q2.length:Nat):Int)),(34,i6 k13)]∧S κ (roA P s::(fS lsMF g3 v13x0)::ai g8 66 #[i6 q6.hd.age,i6 q6.hd.kind,i6 q6.hd.id,i6 q6.hd.adv,i6 q6.hd.seq,i6 q6.hd.sum,i6 q6.hd.long,.slice e06.A q6.links.length e06.c,.slice e06.B q6.mem.length e06.d]::L) (crA co 39 B02 d02 q2::J12::I) w_) (fun a_ _=>(q2).length - (intOf (sl a_ 34)).toNat) ?_ ?_
  ·exact ⟨0,(aV (ah q6.hd) q6 []),Nat.zero_le _,hr13,hk.to,hS⟩
  clear hk hS
  rintro aL13 w ⟨k13,v13x0,hkl13,hI13,hk,hS⟩
  have hmu13:=hk.g (s:=34)
  have hlb13:=jl hS (i:=0)
  refine sg [] hk ?_
  refine T ?_
  refine rE [0,2,3,32,33,34,35] hk fun a hk=>?_
  refine wp_seq ?_
  refine cD hk (fun hc35=>?_) (fun hc35=>?_)
  ·obtain ⟨z13,hz13⟩:=cq (show k13 < (q2).length by omega)
   rw [aF hz13] at hI13
   refine wp_skip ?_
   refine wp_seq ?_
   refine wp_block ?_
   refine sg [2,3] hk ?_
   refine cX 0 hz13 hk hS (fun b14 o14 e14 hS hq14=>?_)
   replace hS:=hS.nz 3
   refine dV 9 hq14 hk ?_
   refine eA #[i6 0,i6 0,i6 0,i6 0,i6 0,i6 0,i6 0,.slice none 0 0,.slice none 0 0] hS (fun g15 w hS _=>?_)
   refine eS 0 hk hS (fun w hS _=>?_)
   refine rE [0,2,3,6,32,33,34] hk fun a hk=>?_
   refine wp_seq ?_
   refine rgR [[],[0],[0,1],[0,1,2],[],[0,1,2,3,4],[0,1,2,3,4,5],[0,1,2,3,4,5,6],[0,1,2,3,4,5,6],[],[0,1,2,3,4,5,6,7,9],[0,1,2,3,4,5,6,7,8,9,10]] [5,9,10] (.rd 0 (.rd 1 (.rd 2 (.rd 3 (.rd 4 (.ef 5 (.rd 6 (.rd 7 (.rd 8 (.ef 9 (.ag 6 (.ag 7 (.ag 8 (.ef 10 (.ag 8 (.rd 11 (.fin))) .non)))) .non)))) (.ef 9 (.ag 0 (.ag 1 (.ag 2 (.ag 3 (.ag 4 (.ef 5 (.rd 6 (.rd 7 (.rd 8 (.ef 10 (.ag 8 (.rd 11 (.fin))) .non)))) .non)))))) .non))))))) hk hS (fun w hS _=>?_)
   iterate 3 refine T ?_
   replace hS:=hS.fr 1
   obtain ⟨e16,hpl16,hS⟩:=ro_open hS
   refine LD 0 hk hS ?_
   refine LDS 9 9 hk hS ?_
   refine efk ?_ ?_
   ·obtain ⟨q17,hq17,hI13⟩:=ao hI13
    refine eC hk (h:=lW s.id z13 e14 _ hq17 hS) (k:=?_)
    rintro _ w ⟨e017,rfl,hS⟩
    refine ⟨_,rfl,?_⟩
    replace hS:=hS.nz 14
    iterate 3 refine T ?_
    refine eA #[i6 0,i6 0,i6 0,i6 0,i6 0,i6 0,i6 0,.slice none 0 0,.slice none 0 0] hS (fun g18 w hS _=>?_)
    iterate 3 refine TA ?_
    refine eS 0 hk hS (fun w hS _=>?_)
    refine TA ?_
    refine T ?_
    refine rE [0,2,3,7,8,32,33,34] hk fun a hk=>?_
    refine sg [] hk ?_
    refine T ?_
    refine rE [0,2,3,7,32,33,34,47] hk fun a hk=>?_
    refine cB hk (fun hc47=>?_) (fun hc47=>?_)
    ·replace hI13:=(bT hc47).symm.trans hI13
     refine rgR [[],[],[1],[1,2],[],[0,1,2,3,4]] [3,5] (.rd 0 (.rd 1 (.rd 2 (.rd 4 (.ef 3 (.ag 0 (.ag 4 (.ef 5 (.fin) .non))) .non))))) hk hS (fun w hS _=>?_)
     iterate 2 refine T ?_
     refine LDS 0 7 hk hS ?_
     refine LDS 0 9 hk hS ?_
     refine eC hk (h:=ct q17.1.hd _ hS) (k:=?_)
     rintro _ w ⟨rfl,hS⟩
     refine ⟨_,rfl,?_⟩
     replace hS:=hS.nz 15
     refine TA ?_
     refine aG (fun _ h_=>rk (lbS 9 (hS.blk (i:=0) rfl) rfl (h_.x hk))) ?_
     replace hS:=hS.fr 13
     obtain ⟨q20,hq20,hS⟩:=cd (F:=lsMF) hS
     refine eF (fun a_ h_=>cL (ev:=lsMF.ev) (E:=66) 0 (ah q17.1.hd) (q17.1,e017) bY hS (ae rfl) (.inl rfl) (h_.x hk) (h_.x hk) (h_.x hk) fun w hS=>⟨_,rfl,?_⟩)
     replace hS:=hS.nz 16
     replace hS:=hS.pk [3,3,1] 0
     replace hS:=mw (F:=lsMF) (x:=(ah q17.1.hd)) (v:=q17.1) (p:=e017) hS
     have hq21:=gk hq20 (ah q17.1.hd) q17.1 e017
     replace hS:=hS.pk [1,0] 0
     replace hS:=bd (F:=lsMF) hq21 hS
     refine rE [0,2,3,32,33,34] hk fun a hk=>?_
     refine rgL [] hk ?_
     refine dA hk ?_
     refine T ?_
     refine rE [0,2,3,32,33,34] hk fun a hk=>?_
     replace hS:=hS.pk [2,2,2,2,2,2,2,2,2] 0
     replace hS:=ak (x:=s) (e:=⟨e16.A,e16.c⟩) hpl16 hS
     replace hS:=hS.pk [0,0,2] 2
     replace hS:=hS.dropI.dropI
     exact ⟨⟨k13 + 1,(aV (ah q17.1.hd) q17.1 v13x0),by omega,hI13,hk.to,hS⟩,aP hk.g hmu13 (by omega)⟩
    replace hI13:=(bF hc47).symm.trans hI13
    refine wp_skip ?_
    refine rgL [] hk ?_
    refine dA hk ?_
    refine T ?_
    refine rE [0,2,3,32,33,34] hk fun a hk=>?_
    replace hS:=hS.pk [3,3,3,3,3,3,3,3,3] 0
    replace hS:=ak (x:=s) (e:=⟨e16.A,e16.c⟩) hpl16 hS
    replace hS:=hS.pk [0,4,4] 4
    replace hS:=hS.dropI.dropI
    exact ⟨⟨k13 + 1,v13x0,by omega,hI13,hk.to,hS⟩,aP hk.g hmu13 (by omega)⟩
   refine eA #[i6 0,i6 0,i6 0,i6 0,i6 0,i6 0,i6 0,.slice none 0 0,.slice none 0 0] hS (fun g22 w hS _=>?_)
   iterate 3 refine TA ?_
   refine aG (fun _ h_=>rk (ld hS 1 rfl (h_.x hk))) ?_
   refine aG (fun _ h_=>rk (lbS 9 (hS.blk (i:=10) rfl) rfl (h_.x hk))) ?_
   obtain ⟨q23,hq23,hI13⟩:=ao hI13
   refine eC hk (h:=lW s.id z13 e14 _ hq23 hS) (k:=?_)
   rintro _ w ⟨e023,rfl,hS⟩
   refine ⟨_,rfl,?_⟩
   replace hS:=hS.nz 15
   iterate 3 refine T ?_
   refine eS 2 hk hS (fun w hS _=>?_)
   refine TA ?_
   refine T ?_
   refine rE [0,2,3,7,8,32,33,34] hk fun a hk=>?_
   refine sg [] hk ?_
   refine T ?_
   refine rE [0,2,3,7,32,33,34,47] hk fun a hk=>?_
   refine cB hk (fun hc47=>?_) (fun hc47=>?_)
   ·replace hI13:=(bT hc47).symm.trans hI13
    refine rgR [[],[],[1],[1,2],[],[0,1,2,3,4]] [3,5] (.rd 0 (.rd 1 (.rd 2 (.rd 4 (.ef 3 (.ag 0 (.ag 4 (.ef 5 (.fin) .non))) .non))))) hk hS (fun w hS _=>?_)
    iterate 2 refine T ?_
    refine LDS 2 7 hk hS ?_
    refine LDS 2 9 hk hS ?_
    refine eC hk (h:=ct q23.1.hd _ hS) (k:=?_)
    rintro _ w ⟨rfl,hS⟩
    refine ⟨_,rfl,?_⟩
    replace hS:=hS.nz 15
    refine TA ?_
    refine aG (fun _ h_=>rk (lbS 9 (hS.blk (i:=2) rfl) rfl (h_.x hk))) ?_
    replace hS:=hS.fr 13
    obtain ⟨q25,hq25,hS⟩:=cd (F:=lsMF) hS
    refine eF (fun a_ h_=>cL (ev:=lsMF.ev) (E:=66) 0 (ah q23.1.hd) (q23.1,e023) bY hS (ae rfl) (.inl rfl) (h_.x hk) (h_.x hk) (h_.x hk) fun w hS=>⟨_,rfl,?_⟩)
    replace hS:=hS.nz 16
    replace hS:=hS.pk [2,2,1] 0
    replace hS:=mw (F:=lsMF) (x:=(ah q23.1.hd)) (v:=q23.1) (p:=e023) hS
    have hq26:=gk hq25 (ah q23.1.hd) q23.1 e023
    replace hS:=hS.pk [1,0] 0
    replace hS:=bd (F:=lsMF) hq26 hS
    refine rE [0,2,3,32,33,34] hk fun a hk=>?_
    refine rgL [] hk ?_
    refine dA hk ?_
    refine T ?_
    refine rE [0,2,3,32,33,34] hk fun a hk=>?_
    replace hS:=hS.pk [2,2,2,2,2,2,2,2,2] 0
    replace hS:=ak (x:=s) (e:=⟨e16.A,e16.c⟩) hpl16 hS
    replace hS:=hS.pk [0,0,2] 2
    replace hS:=hS.dropI.dropI
    exact ⟨⟨k13 + 1,(aV (ah q23.1.hd) q23.1 v13x0),by omega,hI13,hk.to,hS⟩,aP hk.g hmu13 (by omega)⟩
   replace hI13:=(bF hc47).symm.trans hI13
   refine wp_skip ?_
   refine rgL [] hk ?_
   refine dA hk ?_
   refine T ?_
   refine rE [0,2,3,32,33,34] hk fun a hk=>?_
   replace hS:=hS.pk [3,3,3,3,3,3,3,3,3] 0
   replace hS:=ak (x:=s) (e:=⟨e16.A,e16.c⟩) hpl16 hS
   replace hS:=hS.pk [0,4,4] 4
   replace hS:=hS.dropI.dropI
   exact ⟨⟨k13 + 1,v13x0,by omega,hI13,hk.to,hS⟩,aP hk.g hmu13 (by omega)⟩
  obtain rfl:k13 = (q2).length:=by omega
  rw [ax (Nat.le_refl _)] at hI13
  refine wp_exit ?_
  obtain rfl:=Option.some.inj hI13
  exact ⟨hk.to,hS⟩
 rintro a w ⟨hk,hS⟩
 replace hS:=hJ12 _ _ hS
 replace hS:=hS.nz 4
 refine sg [] hk ?_
 refine T ?_
 refine rE [0,2,3,9] hk fun a hk=>?_
 refine wp_seq ?_
 refine sg [1] hk ?_
 refine T ?_
 replace hS:=hS.fr 2
 obtain ⟨q27,hq27,hS⟩:=cd (F:=lsMF) hS
 obtain ⟨hgd28,ht⟩:=gdE ht
 refine eF (fun a_ h_=>fP (k:=111) (e:=66) 0 hS (ae rfl) rfl (h_.x hk) fun r29q w hS=>⟨_,rfl,?_⟩)
 replace hS:=hS.nz 5
 refine rE [0,2,3,9,55] hk fun a hk=>?_
 refine aB (fun a_ w_=>∃ eo30:List (KeyV × LV),∃ r30,∃ A30x0 c30x0,(eo30.Perm r13)∧((r13).map (·.1)).Nodup∧eo30.foldr (fun e x=>gq e.1 e.2 x) [] = r30∧(r30.length ≤ (r13).length)∧Fr a_ 117 [(0,pt P.g 0),(2,.slice B02 q2.length d02),(3,.map (some g3)),(9,.slice A30x0 ((r30).length) c30x0)]∧S κ ((aa (.slice A30x0 ((r30).length) c30x0) 111 3 ((r30).length) (ab KeyV.cells r30))::bq lsMF.ek lsMF.ev g3 q27::(dI lsMF q27)::crA co 39 B02 d02 q2::roA P s::ai g8 66 #[i6 q6.hd.age,i6 q6.hd.kind,i6 q6.hd.id,i6 q6.hd.adv,i6 q6.hd.seq,i6 q6.hd.sum,i6 q6.hd.long,.slice e06.A q6.links.length e06.c,.slice e06.B q6.mem.length e06.d]::L) (I) w_) ?_ ?_
 ·refine wp_block ?_
  refine wp_loop (fun a_ w_=>∃ es30:List (KeyV × (LV × LP)),∃ v30x0:List KeyV,∃ A30x0 c30x0,((es30.map (·.1)).Nodup)∧(∀ e ∈ es30,e ∈ q27)∧((MFn.out es30).foldr (fun e x=>gq e.1 e.2 x) [] = v30x0)∧(v30x0.length ≤ es30.length)∧Fr a_ 117 [(0,pt P.g 0),(2,.slice B02 q2.length d02),(3,.map (some g3)),(9,.slice A30x0 ((v30x0).length) c30x0),(55,pt r29q 0)]∧S κ ((aa (.slice A30x0 ((v30x0).length) c30x0) 111 3 ((v30x0).length) (ab KeyV.cells v30x0))::(bx lsMF.ek lsMF.ev g3 r29q q27 (es30.map (·.1)))::(dI lsMF q27)::crA co 39 B02 d02 q2::roA P s::ai g8 66 #[i6 q6.hd.age,i6 q6.hd.kind,i6 q6.hd.id,i6 q6.hd.adv,i6 q6.hd.seq,i6 q6.hd.sum,i6 q6.hd.long,.slice e06.A q6.links.length e06.c,.slice e06.B q6.mem.length e06.d]::L) (I) w_) (fun _ w_=>q27.length - (w_.iterSeen r29q).size) ?_ ?_
  ·have hS:=hS.nilrow 111 3
   replace hS:=hS.nz 6
   exact ⟨[],[],_,_,List.nodup_nil,(fun e h=>by cases h),rfl,Nat.le_refl _,hk.to,hS⟩
  clear hk hS
  rintro aL30 w ⟨es30,v30x0,A30x0,c30x0,hn30,hsub30,hf30,hln30x0,hk,hS⟩
  have hmu30:=S.rangeLen hS (i:=1) rfl
  have hnl30:=S.rangeNodup hS (i:=1) rfl
  have hel30:=iL hn30 hsub30
  have hmq30:=ki hq27
  refine sg [0] hk ?_
  refine eF (fun a_ h_=>g0 1 hS (ae rfl) rfl (h_.x hk) (fun hall=>⟨_,rfl,?_⟩) (fun p31 w hp31 hpd31 hS=>⟨_,rfl,?_⟩))
  ·refine T ?_
   refine rE [0,2,3,9,55,57] hk fun a hk=>?_
   refine wp_seq ?_
   refine cF hk ?_
   refine wp_exit ?_
   replace hS:=hS.rangeEnd (i:=1) rfl
   replace hS:=hS.nz 6
   exact ⟨MFn.out es30,_,_,_,rl hq27 (kC hn30 hsub30 hall hnl30),td hq27 hnl30,hf30,xD hq27 (Nat.le_trans hln30x0 hel30),hk.to,hS⟩
  obtain ⟨k31,v31,e31⟩:=p31
  replace hS:=hS.nz 6
  replace hS:=hS.fr 2
  obtain ⟨R31,hS,hR31⟩:=xy (F:=lsMF) hp31 hS
  replace hS:=hS.nz 8
  obtain ⟨x30,hI30⟩:∃ y_,gq k31 v31 v30x0 = y_:=⟨_,rfl⟩
  have hs30:=hI30
  refine T ?_
  refine rE [0,2,3,9,55,57] hk fun a hk=>?_
  refine wp_seq ?_
  refine cT hk ?_
  refine wp_skip ?_
  refine wp_block ?_
  refine sg [2,3] hk ?_
  refine rD (.tuple #[.agg #[i6 k31.kind,i6 k31.id,i6 k31.adv],.agg #[i6 v31.hd.age,i6 v31.hd.kind,i6 v31.hd.id,i6 v31.hd.adv,i6 v31.hd.seq,i6 v31.hd.sum,i6 v31.hd.long,.slice e31.A v31.links.length e31.c,.slice e31.B v31.mem.length e31.d]]) (fun _ h_=>rk (er (ek:=lsMF.ek) (ev:=lsMF.ev) (x:=k31) (u:=(v31,e31)) hS (i:=4) rfl hp31 rfl (h_.x hk))) ?_
  refine T ?_
  refine eA #[i6 0,i6 0,i6 0] hS (fun g32 w hS _=>?_)
  refine eS 0 hk hS (fun w hS _=>?_)
  refine rE [0,2,3,9,10,55] hk fun a hk=>?_
  refine rgL [2,3] hk ?_
  refine T ?_
  refine LDS 0 3 hk hS ?_
  refine eF (fun a_ h_=>aZ (e:=111) (cells:=#[i6 k31.kind,i6 k31.id,i6 k31.adv]) hS (ae rfl) rfl (h_.prtL hk) fun g33 w hS _=>⟨_,rfl,?_⟩)
  refine eF (fun a_ h_=>ia (bytes:=24) (ys:=[k31]) KeyV.cells_fn hS 5 (ae rfl) rfl (h_.x hk) (h_.x hk) (ay (hS.blk (i:=0) rfl) rfl) (by (try simp only [List.length_append,List.length_cons,List.length_nil,List.length_take,List.length_drop]);omega) fun A34 c34 w hS=>⟨_,rfl,?_⟩)
  replace hS:=hS.nz 10
  refine T ?_
  refine rE [0,2,3,9,55] hk fun a hk=>?_
  replace hS:=hS.pk [2,2,2] 0
  replace hS:=hR31 _ _ _ hS
  replace hS:=hS.pk [3,3,0,2,2,2] 2
  have hmuE:=S.rangeLen hS (i:=1) rfl
  subst hI30
  exact ⟨⟨(k31,v31,e31)::es30,(v30x0 ++ [k31]),_,_,List.nodup_cons.2 ⟨hpd31,hn30⟩,eU hp31 hsub30,(by rw [MFn.out,List.map_cons,List.foldr_cons];unfold MFn.out at hf30;rw [hf30];exact hs30),by (try simp only [List.length_append,List.length_cons,List.length_nil]);omega,hk.to,hS⟩,jK hmu30 hmuE hn30 hsub30 hp31 hpd31⟩
 rintro a w ⟨eo30,r30,A30x0,c30x0,hpm30,hnd30,hr30,hrl30x0,hk,hS⟩
 have he_:=(tj hpm30 hgd28).symm
 subst he_
 replace ht:=(am hr30).symm.trans ht
 refine wp_seq ?_
 refine sg [4] hk ?_
 iterate 3 refine T ?_
 replace hS:=hS.fr 4
 obtain ⟨e35,hpl35,hS⟩:=ro_open hS
 refine LD 0 hk hS ?_
 replace hS:=hS.pk [4] 0
 obtain ⟨hgd37,ht⟩:=gdE ht
 obtain ⟨hgd38,ht⟩:=gdE ht
 refine eC hk (h:=kS P.dg s.db _ hgd37 hgd38 hS) (k:=?_)
 rintro _ w ⟨B036,d036,rfl,hS⟩
 refine ⟨_,rfl,?_⟩
 generalize hq36:cS s.db.l = q36 at hS ⊢
 replace ht:=(am hq36).symm.trans ht
 replace hS:=hS.nz 15
 iterate 2 refine T ?_
 refine rE [0,2,3,9,68,69,70] hk fun a hk=>?_
 obtain ⟨J39,hS,hJ39⟩:=S.lend (M:=[_]) hS
 replace hS:=hS.pk [1,1,1,1,0,0,0,0,0] 0
 replace hS:=ak (x:=s) (e:=⟨e35.A,e35.c⟩) hpl35 hS
 replace hS:=hS.pk [2,2] 0
 replace hS:=bd (F:=lsMF) hq27 hS
 obtain ⟨r40,hr40,ht⟩:=ao ht
 refine aB (fun a_ w_=>∃ A40x0 c40x0,Fr a_ 117 [(0,pt P.g 0),(2,.slice B02 q2.length d02),(3,.map (some g3)),(9,.slice A40x0 ((r40).length) c40x0)]∧S κ ((fS lsMF g3 r13)::roA P s::(aa (.slice A40x0 ((r40).length) c40x0) 111 3 ((r40).length) (ab KeyV.cells r40))::crA co 39 B02 d02 q2::ai g8 66 #[i6 q6.hd.age,i6 q6.hd.kind,i6 q6.hd.id,i6 q6.hd.adv,i6 q6.hd.seq,i6 q6.hd.sum,i6 q6.hd.long,.slice e06.A q6.links.length e06.c,.slice e06.B q6.mem.length e06.d]::L) (crA lsFn 66 B036 d036 q36::J39::I) w_) ?_ ?_
 ·refine wp_block ?_
  refine wp_loop (fun a_ w_=>∃ k40:Nat,∃ v40x0:List KeyV,∃ A40x0 c40x0,(k40 ≤ (q36).length)∧ft s ((q36).drop k40) v40x0 = some r40∧Fr a_ 117 [(0,pt P.g 0),(2,.slice B02 q2.length d02),(3,.map (some g3)),(9,.slice A40x0 ((v40x0).length) c40x0),(68,.slice B036 q36.length d036),(69,i6 ((q36.length:Nat):Int)),(70,i6 k40)]∧S κ ((fS lsMF g3 r13)::roA P s::(aa (.slice A40x0 ((v40x0).length) c40x0) 111 3 ((v40x0).length) (ab KeyV.cells v40x0))::crA co 39 B02 d02 q2::ai g8 66 #[i6 q6.hd.age,i6 q6.hd.kind,i6 q6.hd.id,i6 q6.hd.adv,i6 q6.hd.seq,i6 q6.hd.sum,i6 q6.hd.long,.slice e06.A q6.links.length e06.c,.slice e06.B q6.mem.length e06.d]::L) (crA lsFn 66 B036 d036 q36::J39::I) w_) (fun a_ _=>(q36).length - (intOf (sl a_ 70)).toNat) ?_ ?_
  ·exact ⟨0,r30,_,_,Nat.zero_le _,hr40,hk.to,hS⟩
  clear hk hS
  rintro aL40 w ⟨k40,v40x0,A40x0,c40x0,hkl40,hI40,hk,hS⟩
  have hmu40:=hk.g (s:=70)
  have hlb40:=jl hS (i:=0)
  refine sg [] hk ?_
  refine T ?_
  refine rE [0,2,3,9,68,69,70,71] hk fun a hk=>?_
  refine wp_seq ?_
  refine cD hk (fun hc71=>?_) (fun hc71=>?_)
  ·obtain ⟨z40,hz40⟩:=cq (show k40 < (q36).length by omega)
   rw [aF hz40] at hI40
   refine wp_skip ?_
   refine wp_seq ?_
   refine wp_block ?_
   refine sg [2,3] hk ?_
   refine cX 0 hz40 hk hS (fun b41 o41 e41 hS hq41=>?_)
   replace hS:=hS.nz 5
   refine dV 9 hq41 hk ?_
   refine eA #[i6 0,i6 0,i6 0,i6 0,i6 0,i6 0,i6 0,.slice none 0 0,.slice none 0 0] hS (fun g42 w hS _=>?_)
   refine eS 0 hk hS (fun w hS _=>?_)
   refine rE [0,2,3,9,12,68,69,70] hk fun a hk=>?_
   refine sg [2,3,4] hk ?_
   refine T ?_
   refine LDS 0 7 hk hS ?_
   refine eC hk (h:=ct z40.hd _ hS) (k:=?_)
   rintro _ w ⟨rfl,hS⟩
   refine ⟨_,rfl,?_⟩
   replace hS:=hS.nz 6
   refine eA #[i6 0,i6 0,i6 0] hS (fun g44 w hS _=>?_)
   refine eS 0 hk hS (fun w hS _=>?_)
   refine rE [0,2,3,9,12,13,68,69,70] hk fun a hk=>?_
   refine wp_seq ?_
   refine rgR [[],[0],[0,1],[],[3],[3,4],[3,4,5],[0,1,2,3,4,5,6],[0,1,2,3,4,5,6,7],[0,1,2,3,4,5,6,7,8],[0,1,2,3,4,5,6,7,8],[0,1,2,3,4,5,6,7,8,9,10],[0,1,2,3,4,5,6,7,8,9,10,11],[0,1,2,3,4,5,6,7,8,9,10,11,12]] [11] (.rd 0 (.rd 1 (.rd 2 (.rd 3 (.rd 4 (.rd 5 (.rd 6 (.rd 7 (.rd 8 (.rd 9 (.rd 10 (.ef 11 (.rd 12 (.rd 13 (.fin))) .non)))))))))))) hk hS (fun w hS _=>?_)
   iterate 2 refine T ?_
   refine LD 1 hk hS ?_
   iterate 3 refine T ?_
   replace hS:=hS.fr 3
   obtain ⟨e45,hpl45,hS⟩:=ro_open hS
   refine LD 0 hk hS ?_
   iterate 2 refine T ?_
   rcases dt ((z40.hd.adv:Int) = s.id) with ⟨he,hg8⟩ | ⟨he,hg8⟩
   ·rw [he]
    replace hI40:=(if_pos hg8).symm.trans hI40
    refine T ?_
    refine LDS 9 3 hk hS ?_
    replace hS:=hS.pk [12] 0
    obtain ⟨J46,hS,hJ46⟩:=S.lend (M:=[_]) hS
    refine eC hk (h:=sP v40x0 A40x0 c40x0 (ah z40.hd) _ hS) (k:=?_)
    rintro _ w ⟨rfl,hS⟩
    refine ⟨_,rfl,?_⟩
    replace hS:=hJ46 _ _ hS
    replace hS:=hS.nz 15
    iterate 2 refine T ?_
    refine rE [0,2,3,9,13,68,69,70,90] hk fun a hk=>?_
    refine cB hk (fun hc90=>?_) (fun hc90=>?_)
    ·replace hc90:=nbt hc90
     replace hI40:=(bF hc90).symm.trans hI40
     refine rgL [2,3] hk ?_
     refine T ?_
     refine LDS 10 3 hk hS ?_
     refine eF (fun a_ h_=>aZ (e:=111) (cells:=#[i6 ((ah z40.hd).kind),i6 ((ah z40.hd).id),i6 ((ah z40.hd).adv)]) hS (ae rfl) rfl (h_.prtL hk) fun g48 w hS _=>⟨_,rfl,?_⟩)
     obtain ⟨hgd50,hI40⟩:=gdE hI40
     refine eF (fun a_ h_=>ia (bytes:=24) (ys:=[(ah z40.hd)]) KeyV.cells_fn hS 1 (ae rfl) rfl (h_.x hk) (h_.x hk) (ay (hS.blk (i:=0) rfl) rfl) (by (try simp only [List.length_append,List.length_cons,List.length_nil,List.length_take,List.length_drop]);omega) fun A49 c49 w hS=>⟨_,rfl,?_⟩)
     replace hS:=hS.nz 16
     refine T ?_
     refine rE [0,2,3,9,68,69,70] hk fun a hk=>?_
     refine rgL [] hk ?_
     refine dA hk ?_
     refine T ?_
     refine rE [0,2,3,9,68,69,70] hk fun a hk=>?_
     replace hS:=hS.pk [2,2,2,2,2,2,2,2,2] 0
     replace hS:=ak (x:=s) (e:=⟨e45.A,e45.c⟩) hpl45 hS
     replace hS:=hS.pk [5,0,1,3,3] 3
     replace hS:=hS.dropI.dropI
     exact ⟨⟨k40 + 1,(v40x0 ++ [(ah z40.hd)]),_,_,by omega,hI40,hk.to,hS⟩,aP hk.g hmu40 (by omega)⟩
    replace hc90:=nbf hc90
    replace hI40:=(bT hc90).symm.trans hI40
    refine wp_skip ?_
    refine rgL [] hk ?_
    refine dA hk ?_
    refine T ?_
    refine rE [0,2,3,9,68,69,70] hk fun a hk=>?_
    replace hS:=hS.pk [1,1,1,1,1,1,1,1,1] 0
    replace hS:=ak (x:=s) (e:=⟨e45.A,e45.c⟩) hpl45 hS
    replace hS:=hS.pk [4,0,0,2,2] 2
    replace hS:=hS.dropI.dropI
    exact ⟨⟨k40 + 1,v40x0,_,_,by omega,hI40,hk.to,hS⟩,aP hk.g hmu40 (by omega)⟩
   rw [he]
   replace hI40:=(if_neg hg8).symm.trans hI40
   refine oF 8 85 true [9,10] ?_
   refine oE 8 85 true ?_
   refine oF 8 85 true [12] ?_
   refine T ?_
   refine rE [0,2,3,9,13,68,69,70,90] hk fun a hk=>?_
   refine cF hk ?_
   refine wp_skip ?_
   refine rgL [] hk ?_
   refine dA hk ?_
   refine T ?_
   refine rE [0,2,3,9,68,69,70] hk fun a hk=>?_
   replace hS:=ak (x:=s) (e:=⟨e45.A,e45.c⟩) hpl45 hS
   replace hS:=hS.pk [3,0,2,2,2] 2
   replace hS:=hS.dropI.dropI
   exact ⟨⟨k40 + 1,v40x0,_,_,by omega,hI40,hk.to,hS⟩,aP hk.g hmu40 (by omega)⟩
  obtain rfl:k40 = (q36).length:=by omega
  rw [ax (Nat.le_refl _)] at hI40
  refine wp_exit ?_
  obtain rfl:=Option.some.inj hI40
  exact ⟨_,_,hk.to,hS⟩
 rintro a w ⟨A40x0,c40x0,hk,hS⟩
 replace hS:=hJ39 _ _ hS
 replace hS:=hS.nz 6
 refine sg [1] hk ?_
 refine T ?_
 obtain ⟨hgd51,ht⟩:=gdE ht
 replace hS:=hS.fr 3
 refine eC hk (h:=zj _ _ _ (by omega) hS) (k:=?_)
 rintro _ w ⟨rfl,hS⟩
 refine ⟨_,rfl,?_⟩
 have hpq52:=bK gi r40
 replace hS:=hS.nz 6
 refine rE [0,2,3,9] hk fun a hk=>?_
 replace hk:Fr a 117 [(0,pt P.g 0),(2,.slice B02 q2.length d02),(3,.map (some g3)),(9,.slice A40x0 ((aW dc r40).length) c40x0)]:=by simpa only [bK gi] using hk
 refine sg [] hk ?_
 iterate 3 refine T ?_
 refine rE [0,2,3,98,99,100] hk fun a hk=>?_
 obtain ⟨r53,hr53,ht⟩:=ao ht
 refine aB (fun a_ w_=>Fr a_ 117 []∧S κ ((aa (.slice A40x0 ((aW dc r40).length) c40x0) 111 3 ((aW dc r40).length) (ab KeyV.cells (aW dc r40)))::crA lsFn 66 B036 d036 q36::(fS lsMF g3 r13)::roA P r53::crA co 39 B02 d02 q2::ai g8 66 #[i6 q6.hd.age,i6 q6.hd.kind,i6 q6.hd.id,i6 q6.hd.adv,i6 q6.hd.seq,i6 q6.hd.sum,i6 q6.hd.long,.slice e06.A q6.links.length e06.c,.slice e06.B q6.mem.length e06.d]::L) (I) w_) ?_ ?_
 ·refine wp_block ?_
  refine wp_loop (fun a_ w_=>∃ k53:Nat,∃ v53x0:RoS,(k53 ≤ (aW dc r40).length)∧fv q2 r13 ((aW dc r40).drop k53) v53x0 = some r53∧Fr a_ 117 [(0,pt P.g 0),(2,.slice B02 q2.length d02),(3,.map (some g3)),(98,.slice A40x0 ((aW dc r40).length) c40x0),(99,i6 (((aW dc r40).length:Nat):Int)),(100,i6 k53)]∧S κ ((aa (.slice A40x0 ((aW dc r40).length) c40x0) 111 3 ((aW dc r40).length) (ab KeyV.cells (aW dc r40)))::crA lsFn 66 B036 d036 q36::(fS lsMF g3 r13)::roA P v53x0::crA co 39 B02 d02 q2::ai g8 66 #[i6 q6.hd.age,i6 q6.hd.kind,i6 q6.hd.id,i6 q6.hd.adv,i6 q6.hd.seq,i6 q6.hd.sum,i6 q6.hd.long,.slice e06.A q6.links.length e06.c,.slice e06.B q6.mem.length e06.d]::L) (I) w_) (fun a_ _=>(aW dc r40).length - (intOf (sl a_ 100)).toNat) ?_ ?_
  ·exact ⟨0,s,Nat.zero_le _,hr53,hk.to,hS⟩
  clear hk hS
  rintro aL53 w ⟨k53,v53x0,hkl53,hI53,hk,hS⟩
  have hmu53:=hk.g (s:=100)
  have hlb53:=hS.rowB (i:=0) rfl
  refine sg [] hk ?_
  refine T ?_
  refine rE [0,2,3,98,99,100,101] hk fun a hk=>?_
  refine wp_seq ?_
  refine cD hk (fun hc101=>?_) (fun hc101=>?_)
  ·obtain ⟨z53,hz53⟩:=cq (show k53 < (aW dc r40).length by omega)
   rw [aF hz53] at hI53
   refine wp_skip ?_
   refine wp_seq ?_
   refine wp_block ?_
   refine sg [2,3] hk ?_
   refine dX KeyV.cells_len' hk (hS.rd (i:=0) rfl) (fun b58 o58 z58 hz58 hq58=>?_)
   obtain rfl:z53 = z58:=Option.some.inj (hz53.symm.trans hz58)
   refine dV 3 hq58 hk ?_
   refine eA #[i6 0,i6 0,i6 0] hS (fun g59 w hS _=>?_)
   refine eS 0 hk hS (fun w hS _=>?_)
   refine rE [0,2,3,15,98,99,100] hk fun a hk=>?_
   refine sg [6,7] hk ?_
   refine T ?_
   refine LDS 0 3 hk hS ?_
   replace hS:=hS.fr 3
   obtain ⟨q60,hq60,hS⟩:=cd (F:=lsMF) hS
   rcases hl61:au z53 q60 with _ | ⟨v61,p61⟩
   ·replace hI53:=(fG (ir hq60 hl61)).symm.trans hI53
    refine rD (.tuple #[.agg #[i6 0,i6 0,i6 0,i6 0,i6 0,i6 0,i6 0,.slice none 0 0,.slice none 0 0],.bool false]) (fun _ h_=>rk (bH (E:=66) (z:=(.agg #[i6 0,i6 0,i6 0,i6 0,i6 0,i6 0,i6 0,.slice none 0 0,.slice none 0 0])) z53 bY (hS.mapAt (i:=0) rfl) rfl (h_.x hk) (h_.x hk) (by rw [hl61];rfl))) ?_
    iterate 3 refine T ?_
    refine eA #[i6 0,i6 0,i6 0,i6 0,i6 0,i6 0,i6 0,.slice none 0 0,.slice none 0 0] hS (fun g62 w hS _=>?_)
    refine eS 0 hk hS (fun w hS _=>?_)
    refine T ?_
    refine rE [0,2,3,15,16,17,98,99,100] hk fun a hk=>?_
    refine rgL [5] hk ?_
    refine T ?_
    refine LDS 3 3 hk hS ?_
    refine LDS 0 9 hk hS ?_
    iterate 2 refine T ?_
    have hS:=hS.nilrow 230 4
    replace hS:=hS.nz 10
    have hS:=hS.nilrow 3 1
    replace hS:=hS.nz 11
    replace hS:=hS.pk [1,0,7] 0
    obtain ⟨J63,hS,hJ63⟩:=S.lend (M:=[_,_,_]) hS
    replace hS:=hS.pk [6] 0
    obtain ⟨q64,hq64,hI53⟩:=ao hI53
    refine eC hk (h:=nK P z53 (⟨(⟨0,0,0,0,0,0,0⟩:HD),[],[]⟩:LV) (⟨none,0,none,0⟩:LP) false q2 B02 d02 v53x0 _ hq64 hS) (k:=?_)
    rintro _ w ⟨rfl,hS⟩
    refine ⟨_,rfl,?_⟩
    replace hS:=hJ63 _ _ hS
    replace hS:=hS.nz 11
    refine rE [0,2,3,98,99,100] hk fun a hk=>?_
    refine rgL [] hk ?_
    refine dA hk ?_
    refine T ?_
    refine rE [0,2,3,98,99,100] hk fun a hk=>?_
    replace hS:=hS.pk [5,5] 0
    replace hS:=bd (F:=lsMF) hq60 hS
    replace hS:=hS.pk [7,7,0,3,2,4] 4
    exact ⟨⟨k53 + 1,q64,by omega,hI53,hk.to,hS⟩,aP hk.g hmu53 (by omega)⟩
   ·replace hI53:=(fH (cC hq60 hl61)).symm.trans hI53
    replace hS:=hS.fr 1
    replace hS:=pR (F:=lsMF) hl61 hS
    replace hS:=hS.nz 10
    refine rD (.tuple #[.agg #[i6 v61.hd.age,i6 v61.hd.kind,i6 v61.hd.id,i6 v61.hd.adv,i6 v61.hd.seq,i6 v61.hd.sum,i6 v61.hd.long,.slice p61.A v61.links.length p61.c,.slice p61.B v61.mem.length p61.d],.bool true]) (fun _ h_=>rk (bH (E:=66) (z:=(.agg #[i6 0,i6 0,i6 0,i6 0,i6 0,i6 0,i6 0,.slice none 0 0,.slice none 0 0])) z53 bY (hS.mapAt (i:=3) rfl) rfl (h_.x hk) (h_.x hk) (by rw [hl61];rfl))) ?_
    iterate 3 refine T ?_
    refine eA #[i6 0,i6 0,i6 0,i6 0,i6 0,i6 0,i6 0,.slice none 0 0,.slice none 0 0] hS (fun g65 w hS _=>?_)
    refine eS 0 hk hS (fun w hS _=>?_)
    refine T ?_
    refine rE [0,2,3,15,16,17,98,99,100] hk fun a hk=>?_
    refine rgL [5] hk ?_
    refine T ?_
    refine LDS 5 3 hk hS ?_
    refine LDS 0 9 hk hS ?_
    iterate 2 refine T ?_
    replace hS:=hS.pk [1,1,7] 0
    obtain ⟨J66,hS,hJ66⟩:=S.lend (M:=[_,_,_]) hS
    replace hS:=hS.pk [6] 0
    obtain ⟨q67,hq67,hI53⟩:=ao hI53
    refine eC hk (h:=nK P z53 v61 p61 true q2 B02 d02 v53x0 _ hq67 hS) (k:=?_)
    rintro _ w ⟨rfl,hS⟩
    refine ⟨_,rfl,?_⟩
    replace hS:=hJ66 _ _ hS
    replace hS:=hS.nz 11
    refine rE [0,2,3,98,99,100] hk fun a hk=>?_
    refine rgL [] hk ?_
    refine dA hk ?_
    refine T ?_
    refine rE [0,2,3,98,99,100] hk fun a hk=>?_
    replace hS:=hS.pk [0,0,3] 0
    replace hS:=iq (F:=lsMF) (x:=z53) (v:=v61) (p:=p61) hS
    replace hS:=hS.pk [4] 0
    replace hS:=jJ (ku (v':=(v61,p61)) rfl hl61) hS
    have hq68:=nj (p':=p61) hq60 hl61
    replace hS:=bd (F:=lsMF) hq68 hS
    replace hS:=hS.pk [5,5,0,1,0,2] 2
    exact ⟨⟨k53 + 1,q67,by omega,hI53,hk.to,hS⟩,aP hk.g hmu53 (by omega)⟩
  obtain rfl:k53 = (aW dc r40).length:=by omega
  rw [ax (Nat.le_refl _)] at hI53
  refine wp_exit ?_
  obtain rfl:=Option.some.inj hI53
  exact ⟨hk.to,hS⟩
 rintro a w ⟨hk,hS⟩
 replace hS:=hS.pk [3] 5
 obtain rfl:=Option.some.inj ht
 exact rt0 hk (hR_ _ _ ⟨rfl,hS⟩)
def l6:List PeV → Option (Unit)
  | []=>some ()
  | z9::xs9=>none
def dR (s:RoS):List Nat → Option (Unit)
  | []=>some ()
  | k3::xs3=>ji (aL s.ports (k3:Int)) (dR s xs3) fun x6=>bw (fW x6.p) fun q8=>aJ (l6 q8) fun r9=>dR s xs3
def jc (s:RoS):Option (Unit):=aJ (dR s (List.range 4)) fun r3=>some ()
theorem p9 {κ:Kap} {L I:List Atom} (P:RoP) (s:RoS) (W:World) {r_:Unit} (ht:(jc s) = some r_) (hS:S κ (roA P s::L) (I) W):
    Calls Tryz.prog 53 #[pt P.g 0] W (fun r w'=>r = .returned (.tuple #[])∧S κ (roA P s::L) (I) w'):=by
 refine wK 94 Tryz.func53 (fun R_ hR_ a hk=>?_)
 refine sg [] hk ?_
 iterate 3 refine T ?_
 obtain ⟨e2,hpl2,hS⟩:=ro_open hS
 refine rD (.agg #[ptO P.p0,ptO P.p1,ptO P.p2,ptO P.p3]) (fun _ h_=>rk (eu (m:=3) (n:=4) rfl (h_.x hk) (by kernel_rfl) rfl (fun j u hj=>((hS.blk (i:=0) rfl).cell _).trans (mj (n:=4) (m:=3) rfl hj)))) ?_
 refine T ?_
 refine rE [0,10,11] hk fun a hk=>?_
 replace hS:=ak (x:=s) (e:=⟨e2.A,e2.c⟩) hpl2 hS
 obtain ⟨r3,hr3,ht⟩:=ao ht
 refine aB (fun a_ w_=>Fr a_ 94 []∧S κ (roA P s::L) (I) w_) ?_ ?_
 ·refine wp_block ?_
  refine wp_loop (fun a_ w_=>∃ k3:Nat,(k3 ≤ (List.range 4).length)∧dR s ((List.range 4).drop k3) = some r3∧Fr a_ 94 [(0,pt P.g 0),(10,.agg #[ptO P.p0,ptO P.p1,ptO P.p2,ptO P.p3]),(11,i6 k3)]∧S κ (roA P s::L) (I) w_) (fun a_ _=>(List.range 4).length - (intOf (sl a_ 11)).toNat) ?_ ?_
  ·exact ⟨0,Nat.zero_le _,hr3,hk.to,hS⟩
  clear hk hS
  rintro aL3 w ⟨k3,hkl3,hI3,hk,hS⟩
  have hmu3:=hk.g (s:=11)
  have hlb3:=List.length_range (n:=4)
  refine sg [] hk ?_
  refine T ?_
  refine rE [0,10,11,12] hk fun a hk=>?_
  refine wp_seq ?_
  refine cD hk (fun hc12=>?_) (fun hc12=>?_)
  ·have hklt:k3 < (List.range 4).length:=by simp only [List.length_range] at *;omega
   rw [aF (z:=k3) (by simp at hklt;simp [hklt])] at hI3
   refine wp_skip ?_
   refine wp_seq ?_
   refine wp_block ?_
   refine sg [] hk ?_
   have hix4:k3 < 4:=by simpa using hklt
   refine rD (ptO (aL P.pts (k3:Int))) (fun _ h_=>rk (et (n:=4) (e:=81) rfl (h_.x hk) (h_.x hk) (by kernel_rfl) (by kernel_rfl) (by kernel_rfl) (by omega) (yw (i:=(k3:Int)) (by omega) (by omega)))) ?_
   refine T ?_
   refine rE [0,3,10,11] hk fun a hk=>?_
   refine wp_seq ?_
   refine sg [] hk ?_
   refine T ?_
   obtain ⟨e5,hpl5,hS⟩:=ro_open hS
   replace hS:=hS.fr 1
   rcases fh (k3:Int) (by rw [du];first | assumption | (simpa using hpl5)) hS with ⟨hq6,hs6,hS⟩ | ⟨g6,x6,hq6,hs6,hS⟩
   ·replace hI3:=(fG hs6).symm.trans hI3
    rw [hq6] at hk
    replace hk:Fr a 94 [(0,pt P.g 0),(3,.pointer none),(10,.agg #[ptO P.p0,ptO P.p1,ptO P.p2,ptO P.p3]),(11,i6 k3)]:=hk.to
    refine rwV 0 (ptO (aL P.pts (k3:Int))) (.pointer none) (by rw [hq6];rfl) ?_
    refine rD (.bool true) (fun _ h_=>rk (aq rfl (h_.x hk) rfl (fun _=>by kernel_rfl) (fun _=>rfl))) ?_
    refine rE [0,3,10,11,15] hk fun a hk=>?_
    refine cT hk ?_
    refine wp_exit ?_
    refine rgL [] hk ?_
    refine dA hk ?_
    refine T ?_
    refine rE [0,10,11] hk fun a hk=>?_
    replace hS:=hS.pk [1,0,0,0,0,0,0,0,0] 0
    replace hS:=ak (x:=s) (e:=⟨e5.A,e5.c⟩) hpl5 hS
    exact ⟨⟨k3 + 1,by omega,hI3,hk.to,hS⟩,aP hk.g hmu3 (by omega)⟩
   ·replace hI3:=(fH hs6).symm.trans hI3
    rw [hq6] at hk
    replace hk:Fr a 94 [(0,pt P.g 0),(3,pt g6 0),(10,.agg #[ptO P.p0,ptO P.p1,ptO P.p2,ptO P.p3]),(11,i6 k3)]:=hk.to
    refine rwV 0 (ptO (aL P.pts (k3:Int))) (pt g6 0) (by rw [hq6];rfl) ?_
    refine rD (.bool false) (fun _ h_=>rk (aq rfl (h_.x hk) rfl (fun _=>by kernel_rfl) (fun _=>rfl))) ?_
    refine rE [0,3,10,11,15] hk fun a hk=>?_
    refine cF hk ?_
    refine wp_skip ?_
    refine sg [4] hk ?_
    iterate 3 refine T ?_
    obtain ⟨e7,hS⟩:=dK hS
    refine LD 0 hk hS ?_
    replace hS:=hS.pk [1] 0
    refine eC hk (h:=cu e7 x6.p _ hS) (k:=?_)
    rintro _ w ⟨B08,d08,rfl,hS⟩
    refine ⟨_,rfl,?_⟩
    generalize hq8:fW x6.p = q8 at hS ⊢
    replace hI3:=(am hq8).symm.trans hI3
    replace hS:=hS.nz 12
    iterate 2 refine T ?_
    refine rE [0,3,10,11,20,21,22] hk fun a hk=>?_
    replace hS:=hS.pk [2,1] 0
    replace hS:=aS (x:=x6) (e:=e7) hS
    replace hS:=hS.pk [0,1] 0
    replace hS:=bo hq6 hs6 hS
    replace hS:=hS.pk [2,0,1,1,1,1,1,1,1] 0
    replace hS:=ak (x:=s) (e:=⟨e5.A,e5.c⟩) hpl5 hS
    obtain ⟨r9,hr9,hI3⟩:=ao hI3
    refine aB (fun a_ w_=>Fr a_ 94 [(0,pt P.g 0),(10,.agg #[ptO P.p0,ptO P.p1,ptO P.p2,ptO P.p3]),(11,i6 k3)]∧S κ (roA P s::aa (.slice B08 q8.length d08) 90 7 q8.length (ab PeV.cells q8)::L) (I) w_) ?_ ?_
    ·refine wp_block ?_
     refine wp_loop (fun a_ w_=>∃ k9:Nat,(k9 ≤ (q8).length)∧l6 ((q8).drop k9) = some r9∧Fr a_ 94 [(0,pt P.g 0),(3,pt g6 0),(10,.agg #[ptO P.p0,ptO P.p1,ptO P.p2,ptO P.p3]),(11,i6 k3),(20,.slice B08 q8.length d08),(21,i6 ((q8.length:Nat):Int)),(22,i6 k9)]∧S κ (roA P s::aa (.slice B08 q8.length d08) 90 7 q8.length (ab PeV.cells q8)::L) (I) w_) (fun a_ _=>(q8).length - (intOf (sl a_ 22)).toNat) ?_ ?_
     ·exact ⟨0,Nat.zero_le _,hr9,hk.to,hS⟩
     clear hk hS
     rintro aL9 w ⟨k9,hkl9,hI9,hk,hS⟩
     have hmu9:=hk.g (s:=22)
     have hlb9:=hS.rowB (i:=1) rfl
     refine sg [] hk ?_
     refine T ?_
     refine rE [0,3,10,11,20,21,22,23] hk fun a hk=>?_
     refine wp_seq ?_
     refine cD hk (fun hc23=>?_) (fun hc23=>?_)
     ·obtain ⟨z9,hz9⟩:=cq (show k9 < (q8).length by omega)
      rw [aF hz9] at hI9
      refine wp_skip ?_
      refine wp_seq ?_
      refine wp_block ?_
      refine wp_seq ?_
      cases hI9
     obtain rfl:k9 = (q8).length:=by omega
     rw [ax (Nat.le_refl _)] at hI9
     refine wp_exit ?_
     obtain rfl:=Option.some.inj hI9
     exact ⟨hk.to,hS⟩
    rintro a w ⟨hk,hS⟩
    refine rgL [] hk ?_
    refine dA hk ?_
    refine T ?_
    refine rE [0,10,11] hk fun a hk=>?_
    replace hS:=hS.pk [0] 1
    exact ⟨⟨k3 + 1,by omega,hI3,hk.to,hS⟩,aP hk.g hmu3 (by omega)⟩
  obtain rfl:k3 = (List.range 4).length:=by (first | omega | (simp only [List.length_range] at *;omega))
  rw [ax (Nat.le_refl _)] at hI3
  refine wp_exit ?_
  obtain rfl:=Option.some.inj hI3
  exact ⟨hk.to,hS⟩
 rintro a w ⟨hk,hS⟩
 obtain rfl:=Option.some.inj ht
 exact rt0 hk (hR_ _ _ ⟨rfl,hS⟩)
def nL:List HsV → Option (Unit)
  | []=>some ()
  | z11::xs11=>none
def dw:List Nat → RoS → Option (RoS)
  | [],v4x0=>some v4x0
  | k4::xs4,v4x0=>ji (aL v4x0.ports (k4:Int)) (dw xs4 v4x0) fun x7=>if (x7.i.state:Int) = 0 then dw xs4 v4x0 else aJ (kM x7.pt.lan v4x0.later) fun q9=>aJ (nL q9.1) fun r11=>dw xs4 ({ v4x0 with later:=q9.2 })
def gY:List KeyV → RoS → Option (RoS)
  | [],v16x0=>some v16x0
  | z16::xs16,v16x0=>if dz v16x0.db then bw (bh z16 v16x0.db) fun q20=>aJ (gr v16x0) fun q23=>aJ (ep q20.1 (-1) 0 q23 v16x0) fun q25=>gY xs16 q25.2 else none
def cj:List TmV → RoS → Option (RoS)
  | [],v35x0=>some v35x0
  | z35::xs35,v35x0=>aJ (iG z35 v35x0) fun q38=>cj xs35 q38
def eq:List KeyV → RoS → Option (RoS)
  | [],v47x0=>some v47x0
  | z47::xs47,v47x0=>cond (!((v47x0.lists.any fun p=>decide (p.1.k = z47)))) (aJ (uw v47x0) fun q52=>cond q52 (eq xs47 v47x0) (if dz v47x0.db then bw (j5 z47 v47x0.db) fun q54=>eq xs47 ({ v47x0 with db:=q54.2 }) else none)) (eq xs47 v47x0)
def eJ (s:RoS):Option (RoS):=if -4611686018427387904 ≤ s.now + 1∧s.now + 1 ≤ 4611686018427387904 then aJ (dw (List.range 4) ({ s with now:=s.now + 1 })) fun r4=>if r4.db.l.length ≤ 100000 then if dz r4.db then bw (bZ r4.db) fun q13=>aJ (gY q13.1 ({ r4 with db:=q13.2 })) fun r16=>if r16.w.length ≤ 100000 then bw (bg r16.now r16.w) fun q33=>aJ (cj q33.1 ({ r16 with w:=q33.2 })) fun r35=>aJ (mz r35) fun q39=>aJ (lu r35) fun q40=>if dz q40.db then if q40.db.l.length ≤ 100000 then bw (cS q40.db.l) fun q42=>aJ (jd q42) fun q46=>aJ (eq q46 q40) fun r47=>aJ (jc r47) fun q56=>some r47 else none else none else none else none else none else none
theorem jR {κ:Kap} {L I:List Atom} (P:RoP) (s:RoS) (W:World) {r_:RoS} (ht:(eJ s) = some r_) (hS:S κ (roA P s::L) (I) W):
    Calls Tryz.prog 13 #[pt P.g 0] W (fun r w'=>r = .returned (.tuple #[])∧S κ (roA P r_::L) (I) w'):=by
 refine wK 150 Tryz.func13 (fun R_ hR_ a hk=>?_)
 refine wp_seq ?_
 refine sg [] hk ?_
 refine T ?_
 refine rD (.bool false) (fun _ h_=>rk (aq rfl (h_.x hk) rfl (fun _=>by kernel_rfl) (fun _=>rfl))) ?_
 refine rE [0,15] hk fun a hk=>?_
 refine cF hk ?_
 refine wp_skip ?_
 refine sg [7] hk ?_
 iterate 3 refine T ?_
 obtain ⟨e2,hpl2,hS⟩:=ro_open hS
 refine LD 0 hk hS ?_
 obtain ⟨hgd3,ht⟩:=gdE ht
 refine dA hk ?_
 iterate 2 refine T ?_
 refine eS 0 hk hS (fun w hS _=>?_)
 refine rE [0] hk fun a hk=>?_
 refine wp_seq ?_
 refine sg [] hk ?_
 iterate 3 refine T ?_
 refine rD (.agg #[ptO P.p0,ptO P.p1,ptO P.p2,ptO P.p3]) (fun _ h_=>rk (eu (m:=3) (n:=4) rfl (h_.x hk) (by kernel_rfl) rfl (fun j u hj=>((hS.blk (i:=0) rfl).cell _).trans (mj (n:=4) (m:=3) rfl hj)))) ?_
 refine T ?_
 refine rE [0,26,27] hk fun a hk=>?_
 replace hS:=ak (x:={ s with now:=s.now + 1 }) (e:=⟨e2.A,e2.c⟩) hpl2 hS
 obtain ⟨r4,hr4,ht⟩:=ao ht
 refine aB (fun a_ w_=>Fr a_ 150 [(0,pt P.g 0)]∧S κ (roA P r4::L) (I) w_) ?_ ?_
 ·refine wp_block ?_
  refine wp_loop (fun a_ w_=>∃ k4:Nat,∃ v4x0:RoS,(k4 ≤ (List.range 4).length)∧dw ((List.range 4).drop k4) v4x0 = some r4∧Fr a_ 150 [(0,pt P.g 0),(26,.agg #[ptO P.p0,ptO P.p1,ptO P.p2,ptO P.p3]),(27,i6 k4)]∧S κ (roA P v4x0::L) (I) w_) (fun a_ _=>(List.range 4).length - (intOf (sl a_ 27)).toNat) ?_ ?_
  ·exact ⟨0,({ s with now:=s.now + 1 }),Nat.zero_le _,hr4,hk.to,hS⟩
  clear hk hS
  rintro aL4 w ⟨k4,v4x0,hkl4,hI4,hk,hS⟩
  have hmu4:=hk.g (s:=27)
  have hlb4:=List.length_range (n:=4)
  refine sg [] hk ?_
  refine T ?_
  refine rE [0,26,27,28] hk fun a hk=>?_
  refine wp_seq ?_
  refine cD hk (fun hc28=>?_) (fun hc28=>?_)
  ·have hklt:k4 < (List.range 4).length:=by simp only [List.length_range] at *;omega
   rw [aF (z:=k4) (by simp at hklt;simp [hklt])] at hI4
   refine wp_skip ?_
   refine wp_seq ?_
   refine wp_block ?_
   refine sg [] hk ?_
   have hix5:k4 < 4:=by simpa using hklt
   refine rD (ptO (aL P.pts (k4:Int))) (fun _ h_=>rk (et (n:=4) (e:=81) rfl (h_.x hk) (h_.x hk) (by kernel_rfl) (by kernel_rfl) (by kernel_rfl) (by omega) (yw (i:=(k4:Int)) (by omega) (by omega)))) ?_
   refine T ?_
   refine rE [0,3,26,27] hk fun a hk=>?_
   refine wp_seq ?_
   refine sg [] hk ?_
   refine T ?_
   obtain ⟨e6,hpl6,hS⟩:=ro_open hS
   replace hS:=hS.fr 1
   rcases fh (k4:Int) (by rw [du];first | assumption | (simpa using hpl6)) hS with ⟨hq7,hs7,hS⟩ | ⟨g7,x7,hq7,hs7,hS⟩
   ·replace hI4:=(fG hs7).symm.trans hI4
    rw [hq7] at hk
    replace hk:Fr a 150 [(0,pt P.g 0),(3,.pointer none),(26,.agg #[ptO P.p0,ptO P.p1,ptO P.p2,ptO P.p3]),(27,i6 k4)]:=hk.to
    refine rwV 0 (ptO (aL P.pts (k4:Int))) (.pointer none) (by rw [hq7];rfl) ?_
    refine rD (.bool true) (fun _ h_=>rk (aq rfl (h_.x hk) rfl (fun _=>by kernel_rfl) (fun _=>rfl))) ?_
    refine T ?_
    refine oF 2 32 false [3,4,5,6,7,8] ?_
    refine T ?_
    refine rE [0,3,26,27,39] hk fun a hk=>?_
    refine cT hk ?_
    refine wp_exit ?_
    refine rgL [] hk ?_
    refine dA hk ?_
    refine T ?_
    refine rE [0,26,27] hk fun a hk=>?_
    replace hS:=hS.pk [1,0,0,0,0,0,0,0,0] 0
    replace hS:=ak (x:=v4x0) (e:=⟨e6.A,e6.c⟩) hpl6 hS
    exact ⟨⟨k4 + 1,v4x0,by omega,hI4,hk.to,hS⟩,aP hk.g hmu4 (by omega)⟩
   ·replace hI4:=(fH hs7).symm.trans hI4
    rw [hq7] at hk
    replace hk:Fr a 150 [(0,pt P.g 0),(3,pt g7 0),(26,.agg #[ptO P.p0,ptO P.p1,ptO P.p2,ptO P.p3]),(27,i6 k4)]:=hk.to
    refine rwV 0 (ptO (aL P.pts (k4:Int))) (pt g7 0) (by rw [hq7];rfl) ?_
    refine rD (.bool false) (fun _ h_=>rk (aq rfl (h_.x hk) rfl (fun _=>by kernel_rfl) (fun _=>rfl))) ?_
    iterate 5 refine T ?_
    obtain ⟨e8,hS⟩:=dK hS
    refine LD 0 hk hS ?_
    iterate 2 refine T ?_
    refine rE [0,3,26,27,39] hk fun a hk=>?_
    refine cD hk (fun hc39=>?_) (fun hc39=>?_)
    ·replace hI4:=(if_pos hc39).symm.trans hI4
     refine wp_exit ?_
     refine rgL [] hk ?_
     refine dA hk ?_
     refine T ?_
     refine rE [0,26,27] hk fun a hk=>?_
     replace hS:=aS (x:=x7) (e:=e8) hS
     replace hS:=bo hq7 hs7 hS
     replace hS:=hS.pk [1,0,0,0,0,0,0,0,0] 0
     replace hS:=ak (x:=v4x0) (e:=⟨e6.A,e6.c⟩) hpl6 hS
     exact ⟨⟨k4 + 1,v4x0,by omega,hI4,hk.to,hS⟩,aP hk.g hmu4 (by omega)⟩
    replace hI4:=(if_neg hc39).symm.trans hI4
    refine wp_skip ?_
    refine wp_seq ?_
    refine rgR [[],[0],[0,1],[0,1,2],[],[4],[4,5],[4,5,6],[4,5,6,7],[0,1,2,3,4,5,6,7,8],[0,1,2,3,4,5,6,7,8,9],[]] [9] (.rd 0 (.rd 1 (.rd 2 (.rd 3 (.rd 4 (.rd 5 (.rd 6 (.rd 7 (.rd 8 (.rd 11 (.ef 9 (.rd 10 (.ag 11 (.fin))) .non))))))))))) hk hS (fun w hS _=>?_)
    iterate 3 refine T ?_
    refine LD 3 hk hS ?_
    iterate 4 refine T ?_
    refine LD 0 hk hS ?_
    refine T ?_
    replace hS:=hS.pk [9] 0
    obtain ⟨q9,hq9,hI4⟩:=ao hI4
    refine eC hk (h:=px P.ag x7.pt.lan v4x0.later _ hq9 hS) (k:=?_)
    rintro _ w ⟨B09,d09,rfl,hS⟩
    refine ⟨_,rfl,?_⟩
    replace hS:=hS.nz 12
    refine T ?_
    refine TA ?_
    refine rE [0,3,26,27,49,50,51] hk fun a hk=>?_
    obtain ⟨J10,hS,hJ10⟩:=S.lend (M:=[_]) hS
    replace hS:=hS.pk [1,1] 0
    replace hS:=aS (x:=x7) (e:=e8) hS
    replace hS:=hS.pk [0,1] 0
    replace hS:=bo hq7 hs7 hS
    replace hS:=hS.pk [2,0,1,1,1,1,1,0,0] 0
    replace hS:=ak (x:={ v4x0 with later:=q9.2 }) (e:=⟨e6.A,e6.c⟩) hpl6 hS
    obtain ⟨r11,hr11,hI4⟩:=ao hI4
    refine aB (fun a_ w_=>Fr a_ 150 [(0,pt P.g 0),(26,.agg #[ptO P.p0,ptO P.p1,ptO P.p2,ptO P.p3]),(27,i6 k4)]∧S κ (roA P ({ v4x0 with later:=q9.2 })::L) (crA xj 50 B09 d09 q9.1::J10::I) w_) ?_ ?_
    ·refine wp_block ?_
     refine wp_loop (fun a_ w_=>∃ k11:Nat,(k11 ≤ (q9.1).length)∧nL ((q9.1).drop k11) = some r11∧Fr a_ 150 [(0,pt P.g 0),(3,pt g7 0),(26,.agg #[ptO P.p0,ptO P.p1,ptO P.p2,ptO P.p3]),(27,i6 k4),(49,.slice B09 q9.1.length d09),(50,i6 ((q9.1.length:Nat):Int)),(51,i6 k11)]∧S κ (roA P ({ v4x0 with later:=q9.2 })::L) (crA xj 50 B09 d09 q9.1::J10::I) w_) (fun a_ _=>(q9.1).length - (intOf (sl a_ 51)).toNat) ?_ ?_
     ·exact ⟨0,Nat.zero_le _,hr11,hk.to,hS⟩
     clear hk hS
     rintro aL11 w ⟨k11,hkl11,hI11,hk,hS⟩
     have hmu11:=hk.g (s:=51)
     have hlb11:=jl hS (i:=0)
     refine sg [] hk ?_
     refine T ?_
     refine rE [0,3,26,27,49,50,51,52] hk fun a hk=>?_
     refine wp_seq ?_
     refine cD hk (fun hc52=>?_) (fun hc52=>?_)
     ·obtain ⟨z11,hz11⟩:=cq (show k11 < (q9.1).length by omega)
      rw [aF hz11] at hI11
      refine wp_skip ?_
      refine wp_seq ?_
      refine wp_block ?_
      refine wp_seq ?_
      cases hI11
     obtain rfl:k11 = (q9.1).length:=by omega
     rw [ax (Nat.le_refl _)] at hI11
     refine wp_exit ?_
     obtain rfl:=Option.some.inj hI11
     exact ⟨hk.to,hS⟩
    rintro a w ⟨hk,hS⟩
    replace hS:=hJ10 _ _ hS
    replace hS:=hS.nz 2
    refine rgL [] hk ?_
    refine dA hk ?_
    refine T ?_
    refine rE [0,26,27] hk fun a hk=>?_
    replace hS:=hS.pk [1] 1
    exact ⟨⟨k4 + 1,({ v4x0 with later:=q9.2 }),by omega,hI4,hk.to,hS⟩,aP hk.g hmu4 (by omega)⟩
  obtain rfl:k4 = (List.range 4).length:=by (first | omega | (simp only [List.length_range] at *;omega))
  rw [ax (Nat.le_refl _)] at hI4
  refine wp_exit ?_
  obtain rfl:=Option.some.inj hI4
  exact ⟨hk.to,hS⟩
 rintro a w ⟨hk,hS⟩
 refine wp_seq ?_
 refine sg [4] hk ?_
 iterate 3 refine T ?_
 obtain ⟨e12,hpl12,hS⟩:=ro_open hS
 refine LD 0 hk hS ?_
 replace hS:=hS.pk [4] 0
 obtain ⟨hgd14,ht⟩:=gdE ht
 obtain ⟨hgd15,ht⟩:=gdE ht
 refine eC hk (h:=qD P.dg r4.db _ hgd14 hgd15 hS) (k:=?_)
 rintro _ w ⟨B013,d013,rfl,hS⟩
 refine ⟨_,rfl,?_⟩
 generalize hq13:bZ r4.db = q13 at hS ⊢
 replace ht:=(am hq13).symm.trans ht
 replace hS:=hS.nz 10
 iterate 2 refine T ?_
 refine rE [0,75,76,77] hk fun a hk=>?_
 replace hS:=hS.pk [2,2,2,2,1,1,1,1,1] 0
 replace hS:=ak (x:={ r4 with db:=q13.2 }) (e:=⟨e12.A,e12.c⟩) hpl12 hS
 obtain ⟨r16,hr16,ht⟩:=ao ht
 refine aB (fun a_ w_=>Fr a_ 150 [(0,pt P.g 0)]∧S κ (roA P r16::aa (.slice B013 q13.1.length d013) 111 3 q13.1.length (ab KeyV.cells q13.1)::L) (I) w_) ?_ ?_
 ·refine wp_block ?_
  refine wp_loop (fun a_ w_=>∃ k16:Nat,∃ v16x0:RoS,(k16 ≤ (q13.1).length)∧gY ((q13.1).drop k16) v16x0 = some r16∧Fr a_ 150 [(0,pt P.g 0),(75,.slice B013 q13.1.length d013),(76,i6 ((q13.1.length:Nat):Int)),(77,i6 k16)]∧S κ (roA P v16x0::aa (.slice B013 q13.1.length d013) 111 3 q13.1.length (ab KeyV.cells q13.1)::L) (I) w_) (fun a_ _=>(q13.1).length - (intOf (sl a_ 77)).toNat) ?_ ?_
  ·exact ⟨0,({ r4 with db:=q13.2 }),Nat.zero_le _,hr16,hk.to,hS⟩
  clear hk hS
  rintro aL16 w ⟨k16,v16x0,hkl16,hI16,hk,hS⟩
  have hmu16:=hk.g (s:=77)
  have hlb16:=hS.rowB (i:=1) rfl
  refine sg [] hk ?_
  refine T ?_
  refine rE [0,75,76,77,78] hk fun a hk=>?_
  refine wp_seq ?_
  refine cD hk (fun hc78=>?_) (fun hc78=>?_)
  ·obtain ⟨z16,hz16⟩:=cq (show k16 < (q13.1).length by omega)
   rw [aF hz16] at hI16
   refine wp_skip ?_
   refine wp_seq ?_
   refine wp_block ?_
   refine sg [2,3] hk ?_
   refine dX KeyV.cells_len' hk (hS.rd (i:=1) rfl) (fun b17 o17 z17 hz17 hq17=>?_)
   obtain rfl:z16 = z17:=Option.some.inj (hz16.symm.trans hz17)
   refine dV 3 hq17 hk ?_
   refine eA #[i6 0,i6 0,i6 0] hS (fun g18 w hS _=>?_)
   refine eS 0 hk hS (fun w hS _=>?_)
   refine rE [0,7,75,76,77] hk fun a hk=>?_
   refine wp_seq ?_
   refine rgR [[],[0],[0,1],[0,1,2],[],[0,1,2,3,4],[0,1,2,3,4,5],[0,1,2,3,4,5,6],[0,1,2,3,4,5,6],[],[0,1,2,3,4,5,6,7,9],[0,1,2,3,4,5,6,7,8,9,10]] [5,9,10] (.rd 0 (.rd 1 (.rd 2 (.rd 3 (.rd 4 (.ef 5 (.rd 6 (.rd 7 (.rd 8 (.ef 9 (.ag 6 (.ag 7 (.ag 8 (.ef 10 (.ag 8 (.rd 11 (.fin))) .non)))) .non)))) (.ef 9 (.ag 0 (.ag 1 (.ag 2 (.ag 3 (.ag 4 (.ef 5 (.rd 6 (.rd 7 (.rd 8 (.ef 10 (.ag 8 (.rd 11 (.fin))) .non)))) .non)))))) .non))))))) hk hS (fun w hS _=>?_)
   iterate 3 refine T ?_
   replace hS:=hS.fr 1
   obtain ⟨e19,hpl19,hS⟩:=ro_open hS
   refine LD 0 hk hS ?_
   refine LDS 9 3 hk hS ?_
   refine efk ?_ ?_
   ·replace hS:=hS.pk [4] 0
    obtain ⟨hgd21,hI16⟩:=gdE hI16
    refine eC hk (h:=dM P.dg z16 v16x0.db _ hgd21 hS) (k:=?_)
    rintro _ w ⟨e020,rfl,hS⟩
    refine ⟨_,rfl,?_⟩
    generalize hq20:bh z16 v16x0.db = q20 at hS ⊢
    replace hI16:=(am hq20).symm.trans hI16
    replace hS:=hS.nz 13
    iterate 3 refine T ?_
    refine eA #[i6 0,i6 0,i6 0,i6 0,i6 0,i6 0,i6 0,.slice none 0 0,.slice none 0 0] hS (fun g22 w hS _=>?_)
    iterate 3 refine TA ?_
    refine eS 0 hk hS (fun w hS _=>?_)
    refine TA ?_
    refine T ?_
    refine rE [0,8,75,76,77] hk fun a hk=>?_
    refine rgR [[],[],[],[2],[0,1,2,3]] [3,4] (.rd 0 (.rd 1 (.rd 2 (.ef 3 (.ag 0 (.ag 1 (.ef 4 (.fin) .non))) .non)))) hk hS (fun w hS _=>?_)
    refine T ?_
    refine LDS 0 9 hk hS ?_
    refine T ?_
    replace hS:=hS.pk [4,4,4,4,3,3,3,3,3] 0
    replace hS:=ak (x:=v16x0) (e:=⟨e19.A,e19.c⟩) hpl19 hS
    obtain ⟨q23,hq23,hI16⟩:=ao hI16
    refine eC hk (h:=f0 P v16x0 _ hq23 hS) (k:=?_)
    rintro _ w ⟨B023,d023,rfl,hS⟩
    refine ⟨_,rfl,?_⟩
    replace hS:=hS.nz 7
    refine TA ?_
    refine aG (fun _ h_=>rk (lbS 9 (hS.blk (i:=2) rfl) rfl (h_.x hk))) ?_
    replace hS:=hS.pk [3,3,0] 0
    obtain ⟨J24,hS,hJ24⟩:=S.lend (M:=[_,_,_]) hS
    obtain ⟨q25,hq25,hI16⟩:=ao hI16
    refine eC hk (h:=cK P q20.1 e020 (-1) 0 q23 B023 d023 v16x0 _ hq25 hS) (k:=?_)
    rintro _ w ⟨B025,d025,rfl,hS⟩
    refine ⟨_,rfl,?_⟩
    replace hS:=hJ24 _ _ hS
    replace hS:=hS.nz 8
    refine rE [0,75,76,77] hk fun a hk=>?_
    refine rgL [] hk ?_
    refine dA hk ?_
    refine T ?_
    refine rE [0,75,76,77] hk fun a hk=>?_
    replace hS:=hS.pk [4,6] 6
    exact ⟨⟨k16 + 1,q25.2,by omega,hI16,hk.to,hS⟩,aP hk.g hmu16 (by omega)⟩
   refine eA #[i6 0,i6 0,i6 0,i6 0,i6 0,i6 0,i6 0,.slice none 0 0,.slice none 0 0] hS (fun g26 w hS _=>?_)
   iterate 3 refine TA ?_
   refine aG (fun _ h_=>rk (ld hS 1 rfl (h_.x hk))) ?_
   refine aG (fun _ h_=>rk (lbS 3 (hS.blk (i:=10) rfl) rfl (h_.x hk))) ?_
   replace hS:=hS.pk [5] 0
   obtain ⟨hgd28,hI16⟩:=gdE hI16
   refine eC hk (h:=dM P.dg z16 v16x0.db _ hgd28 hS) (k:=?_)
   rintro _ w ⟨e027,rfl,hS⟩
   refine ⟨_,rfl,?_⟩
   generalize hq27:bh z16 v16x0.db = q27 at hS ⊢
   replace hI16:=(am hq27).symm.trans hI16
   replace hS:=hS.nz 14
   iterate 3 refine T ?_
   refine eS 3 hk hS (fun w hS _=>?_)
   refine TA ?_
   refine T ?_
   refine rE [0,8,75,76,77] hk fun a hk=>?_
   refine rgR [[],[],[],[2],[0,1,2,3]] [3,4] (.rd 0 (.rd 1 (.rd 2 (.ef 3 (.ag 0 (.ag 1 (.ef 4 (.fin) .non))) .non)))) hk hS (fun w hS _=>?_)
   refine T ?_
   refine LDS 3 9 hk hS ?_
   refine T ?_
   replace hS:=hS.pk [4,4,4,4,2,3,3,3,3] 0
   replace hS:=ak (x:=v16x0) (e:=⟨e19.A,e19.c⟩) hpl19 hS
   obtain ⟨q29,hq29,hI16⟩:=ao hI16
   refine eC hk (h:=f0 P v16x0 _ hq29 hS) (k:=?_)
   rintro _ w ⟨B029,d029,rfl,hS⟩
   refine ⟨_,rfl,?_⟩
   replace hS:=hS.nz 7
   refine TA ?_
   refine aG (fun _ h_=>rk (lbS 9 (hS.blk (i:=4) rfl) rfl (h_.x hk))) ?_
   replace hS:=hS.pk [2,2,0] 0
   obtain ⟨J30,hS,hJ30⟩:=S.lend (M:=[_,_,_]) hS
   obtain ⟨q31,hq31,hI16⟩:=ao hI16
   refine eC hk (h:=cK P q27.1 e027 (-1) 0 q29 B029 d029 v16x0 _ hq31 hS) (k:=?_)
   rintro _ w ⟨B031,d031,rfl,hS⟩
   refine ⟨_,rfl,?_⟩
   replace hS:=hJ30 _ _ hS
   replace hS:=hS.nz 8
   refine rE [0,75,76,77] hk fun a hk=>?_
   refine rgL [] hk ?_
   refine dA hk ?_
   refine T ?_
   refine rE [0,75,76,77] hk fun a hk=>?_
   replace hS:=hS.pk [4,6] 6
   exact ⟨⟨k16 + 1,q31.2,by omega,hI16,hk.to,hS⟩,aP hk.g hmu16 (by omega)⟩
  obtain rfl:k16 = (q13.1).length:=by omega
  rw [ax (Nat.le_refl _)] at hI16
  refine wp_exit ?_
  obtain rfl:=Option.some.inj hI16
  exact ⟨hk.to,hS⟩
 rintro a w ⟨hk,hS⟩
 refine wp_seq ?_
 refine wp_seq ?_
 refine rgR [[],[0],[0,1],[0,1,2],[],[4],[4,5],[4,5,6],[0,1,2,3,4,5,6,7],[0,1,2,3,4,5,6,7,8],[]] [8] (.rd 0 (.rd 1 (.rd 2 (.rd 3 (.rd 4 (.rd 5 (.rd 6 (.rd 7 (.rd 10 (.ef 8 (.rd 9 (.ag 10 (.fin))) .non)))))))))) hk hS (fun w hS _=>?_)
 iterate 3 refine T ?_
 obtain ⟨e32,hpl32,hS⟩:=ro_open hS
 refine LD 0 hk hS ?_
 iterate 3 refine T ?_
 refine LD 0 hk hS ?_
 refine T ?_
 replace hS:=hS.pk [5] 0
 obtain ⟨hgd34,ht⟩:=gdE ht
 refine eC hk (h:=qi P.wg r16.now r16.w _ hgd34 hS) (k:=?_)
 rintro _ w ⟨B033,d033,rfl,hS⟩
 refine ⟨_,rfl,?_⟩
 generalize hq33:bg r16.now r16.w = q33 at hS ⊢
 replace ht:=(am hq33).symm.trans ht
 replace hS:=hS.nz 11
 refine T ?_
 refine TA ?_
 refine rE [0,104,105,106] hk fun a hk=>?_
 replace hS:=hS.pk [2,2,2,2,2,1,1,1,1] 0
 replace hS:=ak (x:={ r16 with w:=q33.2 }) (e:=⟨e32.A,e32.c⟩) hpl32 hS
 obtain ⟨r35,hr35,ht⟩:=ao ht
 refine aB (fun a_ w_=>Fr a_ 150 [(0,pt P.g 0)]∧S κ (roA P r35::aa (.slice B033 q33.1.length d033) 121 6 q33.1.length (ab TmV.cells q33.1)::aa (.slice B013 q13.1.length d013) 111 3 q13.1.length (ab KeyV.cells q13.1)::L) (I) w_) ?_ ?_
 ·refine wp_block ?_
  refine wp_loop (fun a_ w_=>∃ k35:Nat,∃ v35x0:RoS,(k35 ≤ (q33.1).length)∧cj ((q33.1).drop k35) v35x0 = some r35∧Fr a_ 150 [(0,pt P.g 0),(104,.slice B033 q33.1.length d033),(105,i6 ((q33.1.length:Nat):Int)),(106,i6 k35)]∧S κ (roA P v35x0::aa (.slice B033 q33.1.length d033) 121 6 q33.1.length (ab TmV.cells q33.1)::aa (.slice B013 q13.1.length d013) 111 3 q13.1.length (ab KeyV.cells q13.1)::L) (I) w_) (fun a_ _=>(q33.1).length - (intOf (sl a_ 106)).toNat) ?_ ?_
  ·exact ⟨0,({ r16 with w:=q33.2 }),Nat.zero_le _,hr35,hk.to,hS⟩
  clear hk hS
  rintro aL35 w ⟨k35,v35x0,hkl35,hI35,hk,hS⟩
  have hmu35:=hk.g (s:=106)
  have hlb35:=hS.rowB (i:=1) rfl
  refine sg [] hk ?_
  refine T ?_
  refine rE [0,104,105,106,107] hk fun a hk=>?_
  refine wp_seq ?_
  refine cD hk (fun hc107=>?_) (fun hc107=>?_)
  ·obtain ⟨z35,hz35⟩:=cq (show k35 < (q33.1).length by omega)
   rw [aF hz35] at hI35
   refine wp_skip ?_
   refine wp_seq ?_
   refine wp_block ?_
   refine sg [2,3] hk ?_
   refine dX TmV.cells_len' hk (hS.rd (i:=1) rfl) (fun b36 o36 z36 hz36 hq36=>?_)
   obtain rfl:z35 = z36:=Option.some.inj (hz35.symm.trans hz36)
   refine dV 6 hq36 hk ?_
   refine eA #[i6 0,i6 0,i6 0,i6 0,i6 0,i6 0] hS (fun g37 w hS _=>?_)
   refine eS 0 hk hS (fun w hS _=>?_)
   refine rE [0,11,104,105,106] hk fun a hk=>?_
   refine rgL [2] hk ?_
   refine T ?_
   refine LDS 0 6 hk hS ?_
   replace hS:=hS.pk [1] 0
   obtain ⟨q38,hq38,hI35⟩:=ao hI35
   refine eC hk (h:=vU P z35 v35x0 _ hq38 hS) (k:=?_)
   rintro _ w ⟨rfl,hS⟩
   refine ⟨_,rfl,?_⟩
   replace hS:=hS.nz 4
   refine rE [0,104,105,106] hk fun a hk=>?_
   refine rgL [] hk ?_
   refine dA hk ?_
   refine T ?_
   refine rE [0,104,105,106] hk fun a hk=>?_
   replace hS:=hS.pk [0,1,1] 1
   exact ⟨⟨k35 + 1,q38,by omega,hI35,hk.to,hS⟩,aP hk.g hmu35 (by omega)⟩
  obtain rfl:k35 = (q33.1).length:=by omega
  rw [ax (Nat.le_refl _)] at hI35
  refine wp_exit ?_
  obtain rfl:=Option.some.inj hI35
  exact ⟨hk.to,hS⟩
 rintro a w ⟨hk,hS⟩
 refine sg [1] hk ?_
 refine T ?_
 obtain ⟨q39,hq39,ht⟩:=ao ht
 refine eC hk (h:=tx P r35 _ hq39 hS) (k:=?_)
 rintro _ w ⟨rfl,hS⟩
 refine ⟨_,rfl,?_⟩
 replace hS:=hS.nz 3
 refine rE [0] hk fun a hk=>?_
 refine sg [1] hk ?_
 refine T ?_
 obtain ⟨q40,hq40,ht⟩:=ao ht
 refine eC hk (h:=vV P r35 _ hq40 hS) (k:=?_)
 rintro _ w ⟨rfl,hS⟩
 refine ⟨_,rfl,?_⟩
 replace hS:=hS.nz 3
 refine rE [0] hk fun a hk=>?_
 refine wp_seq ?_
 refine sg [4,5] hk ?_
 iterate 3 refine T ?_
 obtain ⟨e41,hpl41,hS⟩:=ro_open hS
 refine LD 0 hk hS ?_
 replace hS:=hS.pk [4] 0
 obtain ⟨hgd43,ht⟩:=gdE ht
 obtain ⟨hgd44,ht⟩:=gdE ht
 refine eC hk (h:=kS P.dg q40.db _ hgd43 hgd44 hS) (k:=?_)
 rintro _ w ⟨B042,d042,rfl,hS⟩
 refine ⟨_,rfl,?_⟩
 generalize hq42:cS q40.db.l = q42 at hS ⊢
 replace ht:=(am hq42).symm.trans ht
 replace hS:=hS.nz 12
 obtain ⟨J45,hS,hJ45⟩:=S.lend (M:=[_]) hS
 obtain ⟨q46,hq46,ht⟩:=ao ht
 refine eC hk (h:=qe q42 B042 d042 _ hq46 hS) (k:=?_)
 rintro _ w ⟨B046,d046,rfl,hS⟩
 refine ⟨_,rfl,?_⟩
 replace hS:=hJ45 _ _ hS
 replace hS:=hS.nz 13
 iterate 2 refine T ?_
 refine rE [0,123,124,125] hk fun a hk=>?_
 replace hS:=hS.pk [3,3,3,3,2,2,2,2,2] 0
 replace hS:=ak (x:=q40) (e:=⟨e41.A,e41.c⟩) hpl41 hS
 obtain ⟨r47,hr47,ht⟩:=ao ht
 refine aB (fun a_ w_=>Fr a_ 150 [(0,pt P.g 0)]∧S κ (roA P r47::crA lsFn 66 B042 d042 q42::aa (.slice B046 q46.length d046) 111 3 q46.length (ab KeyV.cells q46)::aa (.slice B033 q33.1.length d033) 121 6 q33.1.length (ab TmV.cells q33.1)::aa (.slice B013 q13.1.length d013) 111 3 q13.1.length (ab KeyV.cells q13.1)::L) (I) w_) ?_ ?_
 ·refine wp_block ?_
  refine wp_loop (fun a_ w_=>∃ k47:Nat,∃ v47x0:RoS,(k47 ≤ (q46).length)∧eq ((q46).drop k47) v47x0 = some r47∧Fr a_ 150 [(0,pt P.g 0),(123,.slice B046 q46.length d046),(124,i6 ((q46.length:Nat):Int)),(125,i6 k47)]∧S κ (roA P v47x0::crA lsFn 66 B042 d042 q42::aa (.slice B046 q46.length d046) 111 3 q46.length (ab KeyV.cells q46)::aa (.slice B033 q33.1.length d033) 121 6 q33.1.length (ab TmV.cells q33.1)::aa (.slice B013 q13.1.length d013) 111 3 q13.1.length (ab KeyV.cells q13.1)::L) (I) w_) (fun a_ _=>(q46).length - (intOf (sl a_ 125)).toNat) ?_ ?_
  ·exact ⟨0,q40,Nat.zero_le _,hr47,hk.to,hS⟩
  clear hk hS
  rintro aL47 w ⟨k47,v47x0,hkl47,hI47,hk,hS⟩
  have hmu47:=hk.g (s:=125)
  have hlb47:=hS.rowB (i:=2) rfl
  refine sg [] hk ?_
  refine T ?_
  refine rE [0,123,124,125,126] hk fun a hk=>?_
  refine wp_seq ?_
  refine cD hk (fun hc126=>?_) (fun hc126=>?_)
  ·obtain ⟨z47,hz47⟩:=cq (show k47 < (q46).length by omega)
   rw [aF hz47] at hI47
   refine wp_skip ?_
   refine wp_seq ?_
   refine wp_block ?_
   refine sg [2,3] hk ?_
   refine dX KeyV.cells_len' hk (hS.rd (i:=2) rfl) (fun b48 o48 z48 hz48 hq48=>?_)
   obtain rfl:z47 = z48:=Option.some.inj (hz47.symm.trans hz48)
   refine dV 3 hq48 hk ?_
   refine eA #[i6 0,i6 0,i6 0] hS (fun g49 w hS _=>?_)
   refine eS 0 hk hS (fun w hS _=>?_)
   refine rE [0,13,123,124,125] hk fun a hk=>?_
   refine wp_seq ?_
   refine rgR [[],[0],[0,1],[0,1,2],[],[0,1,2,3,4],[0,1,2,3,4,5],[0,1,2,3,4,5,6],[0,1,2,3,4,5,6,7],[0,1,2,3,4,5,6,7,8],[0,1,2,3,4,5,6,7,8,9],[0,1,2,3,4,5,6,7,8,9,10]] [5,9] (.rd 0 (.rd 1 (.rd 2 (.rd 3 (.rd 4 (.ef 5 (.rd 6 (.rd 7 (.rd 8 (.ef 9 (.rd 10 (.rd 11 (.fin))) .non)))) .non)))))) hk hS (fun w hS _=>?_)
   iterate 3 refine T ?_
   replace hS:=hS.fr 1
   obtain ⟨e50,hpl50,hS⟩:=ro_open hS
   refine LD 0 hk hS ?_
   refine LDS 9 3 hk hS ?_
   replace hS:=hS.pk [6] 0
   refine eC hk (h:=rN P.lg z47 v47x0.lists _ hS) (k:=?_)
   rintro _ w ⟨rfl,hS⟩
   refine ⟨_,rfl,?_⟩
   replace hS:=hS.nz 14
   iterate 2 refine T ?_
   rcases bt (!((v47x0.lists.any fun p=>decide (p.1.k = z47)))) with hg7 | hg7
   ·refine rwV 6 (.bool (!((v47x0.lists.any fun p=>decide (p.1.k = z47))))) (.bool true) (by rw [hg7]) ?_
    refine rwV 7 (.bool (!((v47x0.lists.any fun p=>decide (p.1.k = z47))))) (.bool true) (by rw [hg7]) ?_
    replace hI47:=(bT hg7).symm.trans hI47
    refine T ?_
    replace hS:=hS.pk [1,1,1,1,1,1,0,0,0] 0
    replace hS:=ak (x:=v47x0) (e:=⟨e50.A,e50.c⟩) hpl50 hS
    obtain ⟨q52,hq52,hI47⟩:=ao hI47
    refine eC hk (h:=tw P v47x0 _ hq52 hS) (k:=?_)
    rintro _ w ⟨rfl,hS⟩
    refine ⟨_,rfl,?_⟩
    replace hS:=hS.nz 6
    iterate 2 refine T ?_
    refine rE [0,13,123,124,125,140] hk fun a hk=>?_
    refine cB hk (fun hc140=>?_) (fun hc140=>?_)
    ·replace hc140:=nbt hc140
     replace hI47:=(bF hc140).symm.trans hI47
     refine rgR [[],[0],[0,1],[0,1,2],[],[0,1,2,3,4]] [5] (.rd 0 (.rd 1 (.rd 2 (.rd 3 (.rd 4 (.ef 5 (.fin) .non)))))) hk hS (fun w hS _=>?_)
     iterate 3 refine T ?_
     obtain ⟨e53,hpl53,hS⟩:=ro_open hS
     refine LD 0 hk hS ?_
     refine LDS 9 3 hk hS ?_
     replace hS:=hS.pk [4] 0
     obtain ⟨hgd55,hI47⟩:=gdE hI47
     refine eC hk (h:=sD P.dg z47 v47x0.db _ hgd55 hS) (k:=?_)
     rintro _ w ⟨rfl,hS⟩
     refine ⟨_,rfl,?_⟩
     generalize hq54:j5 z47 v47x0.db = q54 at hS ⊢
     replace hI47:=(am hq54).symm.trans hI47
     replace hS:=hS.nz 14
     refine rE [0,123,124,125] hk fun a hk=>?_
     refine rgL [] hk ?_
     refine dA hk ?_
     refine T ?_
     refine rE [0,123,124,125] hk fun a hk=>?_
     replace hS:=hS.pk [1,1,1,1,0,0,0,0,0] 0
     replace hS:=ak (x:={ v47x0 with db:=q54.2 }) (e:=⟨e53.A,e53.c⟩) hpl53 hS
     replace hS:=hS.pk [0,1,1,1,1] 1
     exact ⟨⟨k47 + 1,({ v47x0 with db:=q54.2 }),by omega,hI47,hk.to,hS⟩,aP hk.g hmu47 (by omega)⟩
    replace hc140:=nbf hc140
    replace hI47:=(bT hc140).symm.trans hI47
    refine wp_skip ?_
    refine rgL [] hk ?_
    refine dA hk ?_
    refine T ?_
    refine rE [0,123,124,125] hk fun a hk=>?_
    replace hS:=hS.pk [0,1,1,1,1] 1
    exact ⟨⟨k47 + 1,v47x0,by omega,hI47,hk.to,hS⟩,aP hk.g hmu47 (by omega)⟩
   refine rwV 6 (.bool (!((v47x0.lists.any fun p=>decide (p.1.k = z47))))) (.bool false) (by rw [hg7]) ?_
   refine rwV 7 (.bool (!((v47x0.lists.any fun p=>decide (p.1.k = z47))))) (.bool false) (by rw [hg7]) ?_
   replace hI47:=(bF hg7).symm.trans hI47
   refine oF 7 136 true [8] ?_
   refine oE 7 136 true ?_
   refine oF 7 136 true [10] ?_
   refine T ?_
   refine rE [0,13,123,124,125,140] hk fun a hk=>?_
   refine cF hk ?_
   refine wp_skip ?_
   refine rgL [] hk ?_
   refine dA hk ?_
   refine T ?_
   refine rE [0,123,124,125] hk fun a hk=>?_
   replace hS:=hS.pk [1,1,1,1,1,1,0,0,0] 0
   replace hS:=ak (x:=v47x0) (e:=⟨e50.A,e50.c⟩) hpl50 hS
   replace hS:=hS.pk [0,1,1,1,1] 1
   exact ⟨⟨k47 + 1,v47x0,by omega,hI47,hk.to,hS⟩,aP hk.g hmu47 (by omega)⟩
  obtain rfl:k47 = (q46).length:=by omega
  rw [ax (Nat.le_refl _)] at hI47
  refine wp_exit ?_
  obtain rfl:=Option.some.inj hI47
  exact ⟨hk.to,hS⟩
 rintro a w ⟨hk,hS⟩
 refine rgL [1] hk ?_
 refine T ?_
 obtain ⟨q56,hq56,ht⟩:=ao ht
 refine eC hk (h:=p9 P r47 _ hq56 hS) (k:=?_)
 rintro _ w ⟨rfl,hS⟩
 refine ⟨_,rfl,?_⟩
 replace hS:=hS.nz 5
 refine rE [] hk fun a hk=>?_
 replace hS:=hS.pk [0] 4
 obtain rfl:=Option.some.inj ht
 exact rt0 hk (hR_ _ _ ⟨rfl,hS⟩)
end
set_option maxRecDepth 100000
set_option maxHeartbeats 8000000
namespace Old
theorem kK {κ:Kap} {L I:List Atom}  (W:World) (hS:S κ (L) (I) W):
    Calls Tryz.prog 82 #[] W (fun r w'=>∃ g,r = .returned (pt g 0)∧S κ (bz g []::L) I w'):=by
 refine wK 4 Tryz.func82 (fun R_ hR_ a hk=>?_)
 refine sg [] hk ?_
 refine T ?_
 refine rE [0] hk ?_
 clear hk
 intro a2 hk
 refine sg [0,2] hk ?_
 refine eF (fun a_ h_=>bV (α:=TmV) (β:=Int) tmE eN hS (ae rfl) rfl fun g4 w4 hS4 hb4=>⟨_,rfl,?_⟩)
 clear h_ a_ hS
 clear hb4
 refine rD (.agg #[.map (some g4)]) (fun _ h_=>rk (af rfl (h_.prt hk) (by kernel_rfl))) ?_
 refine eB hk hS4 (fun g5 w5 hS5 _=>?_)
 clear hS4
 refine T ?_
 refine rE [0] hk ?_
 clear hk
 intro a3 hk
 refine wp_ret ?_
 refine rt1 hk (hR_ _ _ ?_)
 exact ⟨_,rfl,eX hS5⟩
theorem l9 {κ:Kap} {L I:List Atom}  (W:World) (hS:S κ (L) (I) W):
    Calls Tryz.prog 83 #[] W (fun r w'=>∃ g,r = .returned (pt g 0)∧S κ (cO g []::L) I w'):=by
 refine wK 4 Tryz.func83 (fun R_ hR_ a hk=>?_)
 refine sg [] hk ?_
 refine T ?_
 refine rE [0] hk ?_
 clear hk
 intro a2 hk
 refine sg [0,2] hk ?_
 refine eF (fun a_ h_=>bV (α:=EnV) (β:=Int) enE eN hS (ae rfl) rfl fun g4 w4 hS4 hb4=>⟨_,rfl,?_⟩)
 clear h_ a_ hS
 clear hb4
 refine rD (.agg #[.map (some g4)]) (fun _ h_=>rk (af rfl (h_.prt hk) (by kernel_rfl))) ?_
 refine eB hk hS4 (fun g5 w5 hS5 _=>?_)
 clear hS4
 refine T ?_
 refine rE [0] hk ?_
 clear hk
 intro a3 hk
 refine wp_ret ?_
 refine rt1 hk (hR_ _ _ ?_)
 exact ⟨_,rfl,fN hS5⟩
theorem lH {κ:Kap} {L I:List Atom}  (W:World) (hS:S κ (L) (I) W):
    Calls Tryz.prog 84 #[] W (fun r w'=>∃ g,r = .returned (pt g 0)∧S κ (dL g []::L) I w'):=by
 refine wK 4 Tryz.func84 (fun R_ hR_ a hk=>?_)
 refine sg [] hk ?_
 refine T ?_
 refine rE [0] hk ?_
 clear hk
 intro a2 hk
 refine sg [0,2] hk ?_
 refine eF (fun a_ h_=>bV (α:=Int) (β:=List HD × SlP) hdMF.ek hdMF.ev hS (ae rfl) rfl fun g4 w4 hS4 hb4=>⟨_,rfl,?_⟩)
 clear h_ a_ hS
 clear hb4
 refine rD (.agg #[.map (some g4)]) (fun _ h_=>rk (af rfl (h_.prt hk) (by kernel_rfl))) ?_
 refine eB hk hS4 (fun g5 w5 hS5 _=>?_)
 clear hS4
 refine T ?_
 refine rE [0] hk ?_
 clear hk
 intro a3 hk
 refine wp_ret ?_
 refine rt1 hk (hR_ _ _ ?_)
 exact ⟨_,rfl,gC ((kj (F:=hdMF) (hS5.perm (List.Perm.swap _ _ _))).perm (List.Perm.swap _ _ _))⟩
def roomF (room:Int):Int:=if 40 < (if (1:Int) > room then 1 else room) then 40 else (if (1:Int) > room then 1 else room)
theorem vc {κ:Kap} {L I:List Atom} (room:Int) (W:World) (hS:S κ (L) (I) W):
    Calls Tryz.prog 81 #[i6 room] W (fun r w'=>∃ g,r = .returned (pt g 0)∧S κ (dbA g ⟨roomF room,[]⟩::L) I w'):=by
 refine wK 9 Tryz.func81 (fun R_ hR_ a hk=>?_)
 refine sg [] hk ?_
 refine T ?_
 refine rE [0,2] hk ?_
 clear hk
 intro a2 hk
 refine sg [3,5] hk ?_
 refine T ?_
 refine rD (i6 (if (1:Int) > room then 1 else room)) (fun _ h_=>rk (rM rfl (h_.x hk) rfl rfl)) ?_
 refine rD (i6 (roomF room)) (fun _ h_=>rk (xS rfl (h_.x hk) rfl rfl)) ?_
 refine eF (fun a_ h_=>bV (α:=KeyV) (β:=LV × LP) lsMF.ek lsMF.ev hS (ae rfl) rfl fun g4 w4 hS4 hb4=>⟨_,rfl,?_⟩)
 clear h_ a_ hS
 clear hb4
 refine rD (.agg #[i6 (roomF room),.map (some g4)]) (fun _ h_=>rk (af rfl (h_.prt hk) (by kernel_rfl))) ?_
 refine eB hk hS4 (fun g5 w5 hS5 _=>?_)
 clear hS4
 refine T ?_
 refine rE [2] hk ?_
 clear hk
 intro a3 hk
 refine wp_ret ?_
 refine rt1 hk (hR_ _ _ ?_)
 exact ⟨_,rfl,d7 (d:=⟨roomF room,[]⟩) ((kj (F:=lsMF) (hS5.perm (List.Perm.swap _ _ _))).perm (List.Perm.swap _ _ _))⟩
theorem S.nothing {κ:Kap} {L I:List Atom} {w:World} (h:S κ L I w):S κ (iA none::L) I w:=S.pure_close trivial (S.sep_close (l:=[]) h)
theorem S.nothings {κ:Kap} {I:List Atom} {w:World}:∀ (n:Nat) {L:List Atom},S κ L I w → S κ (List.replicate n (iA none) ++ L) I w
  | 0,_,h=>h
  | n + 1,_,h=>S.nothing (S.nothings n h)
theorem tg {κ:Kap} {L I:List Atom} {w:World} {a:Atom} (h:S κ (a::L) I w):S κ (a::bi ((List.replicate 16 (none:Option (Nat × PeV))).map iA)::L) I w:=by
  rw [List.map_replicate]
  have h1:=S.nothings 16 h
  exact (S.sep_close h1).perm (List.Perm.swap _ _ _)
theorem pV {κ:Kap} {L I:List Atom} (self lan:Int) (W:World) (hS:S κ (L) (I) W):
    Calls Tryz.prog 33 #[i6 self,i6 lan] W (fun r w'=>∃ g,r = .returned (pt g 0)∧S κ (bC g ⟨self,lan,List.replicate 16 none⟩::L) I w'):=by
 refine wK 9 Tryz.func33 (fun R_ hR_ a hk=>?_)
 refine sg [] hk ?_
 refine T ?_
 refine rE [0,1,4] hk ?_
 clear hk
 intro a2 hk
 refine sg [3] hk ?_
 iterate 2 refine T ?_
 refine rD (.agg #[i6 self,i6 lan,.pointer none,.pointer none,.pointer none,.pointer none,.pointer none,.pointer none,.pointer none,.pointer none,.pointer none,.pointer none,.pointer none,.pointer none,.pointer none,.pointer none,.pointer none,.pointer none]) (fun _ h_=>rk (af rfl (h_.prt hk) (by kernel_rfl))) ?_
 refine eB hk hS (fun g4 w4 hS4 _=>?_)
 clear hS
 refine T ?_
 refine rE [4] hk ?_
 clear hk
 intro a3 hk
 refine wp_ret ?_
 refine rt1 hk (hR_ _ _ ?_)
 exact ⟨_,rfl,lX (p:=⟨self,lan,List.replicate 16 none⟩) (q:=List.replicate 16 none) rfl rfl (tg hS4)⟩
def armF (tick:Int) (ts:List TmV) (l:List (TmV × Int)):List (TmV × Int):=ts.foldl (fun l t=>aV t tick l) l
theorem uW {tick:Int} {ts:List TmV} {l:List (TmV × Int)} {k:Nat} {z:TmV} (hz:ts[k]? = some z):aV z tick (armF tick (ts.take k) l) = armF tick (ts.take (k + 1)) l:=by
  rw [bp ts k z hz,armF,armF,List.foldl_append];rfl
theorem TmV.cells_len (x:TmV):x.cells.length = 6:=rfl
theorem zm {w:World} {B n:Nat} {A:Option Addr} {l:List TmV} (h:Reads w B 6 A n (ab TmV.cells l)):l.length = n:=by have:=h.1;rw [be TmV.cells 6 TmV.cells_len] at this;omega
theorem tW {κ:Kap} {L I:List Atom} (g n c:Nat) (tick:Int) (A:Option Addr) (ts:List TmV) (l:List (TmV × Int)) (W:World) (hn:n ≤ 100000) (hS:S κ ((bz g l)::L) (aa (.slice A n c) 121 6 n (ab TmV.cells ts)::I) W):
    Calls Tryz.prog 87 #[pt g 0,i6 tick,.slice A n c] W (fun r w'=>r = .returned (.tuple #[])∧S κ (bz g (armF tick ts l)::L) (aa (.slice A n c) 121 6 n (ab TmV.cells ts)::I) w'):=by
 obtain ⟨m,hS⟩:=hU hS
 refine wK 23 Tryz.func87 (fun R_ hR_ a hk=>?_)
 refine wp_seq ?_
 refine sg [] hk ?_
 refine T ?_
 refine rD (.bool false) (fun _ h_=>rk (aq rfl (h_.x hk) rfl (fun _=>by kernel_rfl) (fun _=>rfl))) ?_
 refine rE [0,1,2,9] hk ?_
 clear hk
 intro a2 hk
 refine cF hk ?_
 refine wp_skip ?_
 refine sg [] hk ?_
 iterate 3 refine T ?_
 refine rE [0,1,10,11,12] hk ?_
 clear hk
 intro a3 hk
 refine wp_block ?_
 refine wp_loop (fun a_ w_=>∃ k:Nat,(k ≤ n)∧Fr a_ 23 [(0,pt g 0),(1,i6 tick),(10,.slice A n c),(11,i6 n),(12,i6 k)]∧S κ (ai g 175 #[.map (some m)]::bq tmE eN m (armF tick (ts.take k) l)::L) (aa (.slice A n c) 121 6 n (ab TmV.cells ts)::I) w_) (fun a_ _=>n - (intOf (sl a_ 12)).toNat) ?_ ?_
 ·exact ⟨0,Nat.zero_le _,hk.to,hS⟩
 clear hk hS
 rintro a4 w4 ⟨k,hc0_0,hk,hS4⟩
 have hmu0:=hk.g (s:=12)
 refine sg [] hk ?_
 refine T ?_
 refine rE [0,1,10,11,12,13] hk ?_
 clear hk
 intro a5 hk
 refine wp_seq ?_
 refine cD hk (fun hc13=>?_) (fun hc13=>?_)
 ·refine wp_skip ?_
  refine wp_seq ?_
  refine wp_block ?_
  refine sg [2,3] hk ?_
  obtain ⟨b7,o7,z7,hA7,hb7,hz7,hq7⟩:=Reads.row_at TmV.cells 6 TmV.cells_len (k:=k) (hS4.rdI (i:=0) rfl) (by decide) (by omega)
  refine rD (pt b7 (o7 + k * 6)) (fun _ h_=>rk (az (size:=6) rfl (h_.x hk) hA7 (h_.x hk) (by kernel_rfl) (by omega) (by simp))) ?_
  refine rD (.agg #[i6 z7.kind,i6 z7.lan,i6 z7.id,i6 z7.k.kind,i6 z7.k.id,i6 z7.k.adv]) (fun _ h_=>rk (dT (size:=6) (cs:=TmV.cells z7) rfl (h_.x hk) (by kernel_rfl) rfl hq7)) ?_
  refine eA #[i6 0,i6 0,i6 0,i6 0,i6 0,i6 0] hS4 (fun g8 w8 hS8 _=>?_)
  clear hS4
  refine eS 0 hk hS8 (fun w9 hS9 _=>?_)
  clear hS8
  refine rE [0,1,7,10,11,12,14,15] hk ?_
  clear hk
  intro a6 hk
  refine rgR [[],[0],[0,1],[0,1,2],[],[],[0,1,2,3,4,5]] [6] (.rd 0 (.rd 1 (.rd 2 (.rd 3 (.rd 4 (.rd 5 (.ef 6 (.fin) .non))))))) hk hS9 (fun w10 hS10 _=>?_)
  clear hS9
  iterate 3 refine T ?_
  refine LD 1 hk hS10 ?_
  refine LDS 0 6 hk hS10 ?_
  refine T ?_
  refine eF (fun a_ h_=>cL (E:=3) 2 z7 tick tI hS10 (ae rfl) (.inl rfl) (h_.x hk) (h_.x hk) (h_.x hk) fun w11 hS11=>⟨_,rfl,?_⟩)
  clear h_ a_ hS10
  replace hS11:=hS11.nz 3
  refine rE [0,1,7,10,11,12,14,15,16,17,18,19,20,21] hk ?_
  clear hk
  intro a10 hk
  refine rgL [] hk ?_
  refine rD (i6 (k + 1)) (fun _ h_=>rk (aD rfl (h_.x hk) rfl (by omega) rfl)) ?_
  refine T ?_
  refine rE [0,1,7,10,11,12,14,15,16,17,18,19,20,21,22] hk ?_
  clear hk
  intro a12 hk
  rw [uW hz7] at hS11
  have hSd:=hS11.drop
  refine ⟨⟨k + 1,by omega,hk.to,hSd⟩,?_⟩
  show n - (intOf (sl a12 12)).toNat < n - (intOf (sl a4 12)).toNat
  rw [show sl a12 12 = _ from hk.g,show sl a4 12 = _ from hmu0]
  simp only [intOf]
  omega
 refine wp_exit ?_
 show bodyPost _ _ _ .ret _ _
 refine rt0 hk (hR_ _ _ ?_)
 obtain rfl:k = n:=by omega
 have hln:=zm (hS4.rdI (i:=0) rfl)
 rw [List.take_of_length_le (by omega)] at hS4
 exact ⟨rfl,(eX hS4)⟩
def portOk (lan prio cost:Int):Prop:=0 ≤ lan∧lan ≤ 3∧0 ≤ prio∧prio ≤ 255∧1 ≤ cost∧cost ≤ 100
instance (lan prio cost:Int):Decidable (portOk lan prio cost):=by unfold portOk;infer_instance
theorem oa (lan prio cost:Int) (W:World):
    Calls Tryz.prog 26 #[.agg #[i6 lan,i6 prio,i6 cost]] W (fun r w'=>r = .returned (.bool (decide (portOk lan prio cost)))∧Below W.heap.size W w'):=by
 have hS:=S.start W
 refine wK 31 Tryz.func26 (fun R_ hR_ a hk=>?_)
 refine sg [0] hk ?_
 refine eB hk hS (fun g3 w3 hS3 _=>?_)
 clear hS
 refine T ?_
 refine rE [1,2] hk ?_
 clear hk
 intro a2 hk
 refine sg [] hk ?_
 refine T ?_
 refine LD 0 hk hS3 ?_
 iterate 2 refine T ?_
 rcases dt ((0:Int) ≤ lan) with ⟨he,hg3⟩ | ⟨he,hg3⟩
 ·rw [he]
  clear he
  refine T ?_
  refine LD 0 hk hS3 ?_
  iterate 3 refine T ?_
  rcases dt ((lan:Int) ≤ 3) with ⟨he,hg8⟩ | ⟨he,hg8⟩
  ·rw [he]
   clear he
   refine T ?_
   refine LD 0 hk hS3 ?_
   iterate 3 refine T ?_
   rcases dt ((0:Int) ≤ prio) with ⟨he,hg13⟩ | ⟨he,hg13⟩
   ·rw [he]
    clear he
    refine T ?_
    refine LD 0 hk hS3 ?_
    iterate 3 refine T ?_
    rcases dt ((prio:Int) ≤ 255) with ⟨he,hg18⟩ | ⟨he,hg18⟩
    ·rw [he]
     clear he
     refine T ?_
     refine LD 0 hk hS3 ?_
     iterate 3 refine T ?_
     rcases dt ((1:Int) ≤ cost) with ⟨he,hg23⟩ | ⟨he,hg23⟩
     ·rw [he]
      clear he
      refine T ?_
      refine LD 0 hk hS3 ?_
      iterate 3 refine T ?_
      refine rE [2] hk ?_
      clear hk
      intro a4 hk
      refine wp_ret ?_
      refine rt1 hk (hR_ _ _ ?_)
      refine ⟨?_,(hS3.old (by simp))⟩
      congr 2
      first | (rw [decide_eq_decide];unfold portOk;omega) | exact (decide_eq_false (by unfold portOk;omega)).symm | exact (decide_eq_true (by unfold portOk;omega)).symm
     rw [he]
     clear he
     refine oF 23 26 true [24,25,26] ?_
     iterate 2 refine T ?_
     refine rE [2] hk ?_
     clear hk
     intro a4 hk
     refine wp_ret ?_
     refine rt1 hk (hR_ _ _ ?_)
     refine ⟨?_,(hS3.old (by simp))⟩
     congr 2
     first | (rw [decide_eq_decide];unfold portOk;omega) | exact (decide_eq_false (by unfold portOk;omega)).symm | exact (decide_eq_true (by unfold portOk;omega)).symm
    rw [he]
    clear he
    refine oF 18 21 true [19,20,21] ?_
    iterate 2 refine T ?_
    refine oF 23 26 true [24,25,26] ?_
    iterate 2 refine T ?_
    refine rE [2] hk ?_
    clear hk
    intro a4 hk
    refine wp_ret ?_
    refine rt1 hk (hR_ _ _ ?_)
    refine ⟨?_,(hS3.old (by simp))⟩
    congr 2
    first | (rw [decide_eq_decide];unfold portOk;omega) | exact (decide_eq_false (by unfold portOk;omega)).symm | exact (decide_eq_true (by unfold portOk;omega)).symm
   rw [he]
   clear he
   refine oF 13 16 true [14,15,16] ?_
   iterate 2 refine T ?_
   refine oF 18 21 true [19,20,21] ?_
   iterate 2 refine T ?_
   refine oF 23 26 true [24,25,26] ?_
   iterate 2 refine T ?_
   refine rE [2] hk ?_
   clear hk
   intro a4 hk
   refine wp_ret ?_
   refine rt1 hk (hR_ _ _ ?_)
   refine ⟨?_,(hS3.old (by simp))⟩
   congr 2
   first | (rw [decide_eq_decide];unfold portOk;omega) | exact (decide_eq_false (by unfold portOk;omega)).symm | exact (decide_eq_true (by unfold portOk;omega)).symm
  rw [he]
  clear he
  refine oF 8 11 true [9,10,11] ?_
  iterate 2 refine T ?_
  refine oF 13 16 true [14,15,16] ?_
  iterate 2 refine T ?_
  refine oF 18 21 true [19,20,21] ?_
  iterate 2 refine T ?_
  refine oF 23 26 true [24,25,26] ?_
  iterate 2 refine T ?_
  refine rE [2] hk ?_
  clear hk
  intro a4 hk
  refine wp_ret ?_
  refine rt1 hk (hR_ _ _ ?_)
  refine ⟨?_,(hS3.old (by simp))⟩
  congr 2
  first | (rw [decide_eq_decide];unfold portOk;omega) | exact (decide_eq_false (by unfold portOk;omega)).symm | exact (decide_eq_true (by unfold portOk;omega)).symm
 rw [he]
 clear he
 refine oF 3 6 true [4,5,6] ?_
 iterate 2 refine T ?_
 refine oF 8 11 true [9,10,11] ?_
 iterate 2 refine T ?_
 refine oF 13 16 true [14,15,16] ?_
 iterate 2 refine T ?_
 refine oF 18 21 true [19,20,21] ?_
 iterate 2 refine T ?_
 refine oF 23 26 true [24,25,26] ?_
 iterate 2 refine T ?_
 refine rE [2] hk ?_
 clear hk
 intro a4 hk
 refine wp_ret ?_
 refine rt1 hk (hR_ _ _ ?_)
 refine ⟨?_,(hS3.old (by simp))⟩
 congr 2
 first | (rw [decide_eq_decide];unfold portOk;omega) | exact (decide_eq_false (by unfold portOk;omega)).symm | exact (decide_eq_true (by unfold portOk;omega)).symm
end Old
namespace Old
structure PoS where
  lan:Int
  prio:Int
  cost:Int
  i:IfV
  p:PeS
structure FrV where
  lan:Int
  frm:Int
  dst:Int
  bs:List Int
structure SlP where
  A:Option Addr
  c:Nat
def frC (x:FrV × SlP):List Value:=[.int .i64 x.1.lan,.int .i64 x.1.frm,.int .i64 x.1.dst,.slice x.2.A x.1.bs.length x.2.c]
def outA (v:SlP) (l:List FrV):Atom:=exA fun q:List (FrV × SlP)=>fK (q.map (·.1) = l)
  (bi (aa (.slice v.A l.length v.c) 58 4 l.length (ab frC q)::q.map (fun x=>aa (.slice x.2.A x.1.bs.length x.2.c) 5 1 x.1.bs.length (u8s x.1.bs))))
structure DdV where
  init:Bool
  more:Bool
  master:Bool
  seq:Int
  heads:List HD
structure ExS where
  self:Int
  other:Int
  seq:Int
  agreed:Bool
  leads:Bool
  done:Bool
  last:Bool × Bool × Bool × Int
  said:DdV
  s:Option (List HD × Int)
structure TaS where
  x:ExS
  w:List (KeyV × HD)
  asked:List KeyV
def xa (h:HD):Value:=.agg (aH h).toArray
def Ai (T size:Nat) {α:Type} (cells:α → List Value) (v:SlP) (l:List α):Atom:=aa (.slice v.A l.length v.c) T size l.length (ab cells l)
def ye:Option Nat → Option (List HD × Int) → Atom
  | some g,some (l,k)=>exA fun v:SlP=>bi [ai g 407 #[.slice v.A l.length v.c,.int .i64 k],Ai 63 7 aH v l]
  | none,none=>bi []
  | _,_=>fK False (bi [])
def ptO:Option Nat → Value
  | none=>.pointer none
  | some a=>.pointer (some ⟨a,0,none⟩)
def wT (g:Nat) (x:ExS):Atom:=exA fun v:SlP=>exA fun sp:Option Nat=>bi [ai g 292 #[.int .i64 x.self,.int .i64 x.other,.int .i64 x.seq,.bool x.agreed,.bool x.leads,.bool x.done,.bool x.last.1,.bool x.last.2.1,.bool x.last.2.2.1,.int .i64 x.last.2.2.2,
  .bool x.said.init,.bool x.said.more,.bool x.said.master,.int .i64 x.said.seq,.slice v.A x.said.heads.length v.c,ptO sp],Ai 63 7 aH v x.said.heads,ye sp x.s]
def tN (g:Nat) (l:List (KeyV × HD)):Atom:=exA fun m=>bi [ai g 271 #[.map (some m)],bq dZ xa m l]
def yh (a:Nat) (t:TaS):Atom:=exA fun xg=>exA fun wg=>exA fun v:SlP=>bi [ai a 183 #[.pointer (some ⟨xg,0,none⟩),.pointer (some ⟨wg,0,none⟩),.slice v.A t.asked.length v.c],wT xg t.x,tN wg t.w,Ai 111 3 KeyV.cells v t.asked]
def sf (x:Int × Int):Value:=.agg #[.int .i64 x.1,.int .i64 x.2]
def tS (a:Nat):Value:=.pointer (some ⟨a,0,none⟩)
def talksA (m:Nat) (l:List ((Int × Int) × TaS)):Atom:=exA fun q:List ((Int × Int) × Nat × TaS)=>fK (q.map (fun x=>(x.1,x.2.2)) = l) (bi (bq sf (fun x:Nat × TaS=>tS x.1) m q::q.map (fun x=>yh x.2.1 x.2.2)))
def ed (x:Int × Int):Value:=.agg #[.int .i64 x.1,.int .i64 x.2]
def di (a:Nat) (x:PoS):Atom:=exA fun pg=>bi [ai a 85 #[.int .i64 x.lan,.int .i64 x.prio,.int .i64 x.cost,.int .i64 x.i.self,.int .i64 x.i.prio,.int .i64 x.i.state,.int .i64 x.i.dr,.int .i64 x.i.bdr,.pointer (some ⟨pg,0,none⟩)],bC pg x.p]
def portO:Option (Nat × PoS) → Atom
  | none=>bi []
  | some (a,x)=>di a x
structure RoS where
  id:Int
  now:Int
  number:Int
  ports:List (Option PoS)
  talks:List ((Int × Int) × TaS)
  mine:List (KeyV × Int × Int)
  db:DbS
  w:List (TmV × Int)
  lists:List (EnV × Int)
  later:List (Int × List HD)
  out:List FrV
structure RoP where
  g:Nat
  pts:List (Option Nat)
  tm:Nat
  mm:Nat
  dg:Nat
  wg:Nat
  lg:Nat
  ag:Nat
def roCells (p:RoP) (s:RoS) (v:SlP):Array Value:=(Value.int .i64 s.id::.int .i64 s.now::.int .i64 s.number::p.pts.map ptO ++ [Value.map (some p.tm),.map (some p.mm),.pointer (some ⟨p.dg,0,none⟩),.pointer (some ⟨p.wg,0,none⟩),.pointer (some ⟨p.lg,0,none⟩),.pointer (some ⟨p.ag,0,none⟩),.slice v.A s.out.length v.c]).toArray
def zipO:List (Option Nat) → List (Option PoS) → List (Option (Nat × PoS))
  | some a::l,some x::m=>some (a,x)::zipO l m
  | _::l,_::m=>none::zipO l m
  | _,_=>[]
def kL (p:RoP) (s:RoS):Prop:=p.pts.length = 4∧s.ports.length = 4∧p.pts.map Option.isSome = s.ports.map Option.isSome
def portsA (p:RoP) (s:RoS):Atom:=bi ((zipO p.pts s.ports).map portO)
def roA (p:RoP) (s:RoS):Atom:=exA fun v:SlP=>fK (kL p s) (bi [ai p.g 102 (roCells p s v),portsA p s,talksA p.tm s.talks,bq dZ ed p.mm s.mine,dbA p.dg s.db,bz p.wg s.w,cO p.lg s.lists,dL p.ag s.later,outA v s.out])
section
variable {κ:Kap} {L I:List Atom} {w:World} {p:RoP} {s:RoS}
theorem ro_open (h:S κ (roA p s::L) I w):∃ v,kL p s∧S κ (ai p.g 102 (roCells p s v)::portsA p s::talksA p.tm s.talks::bq dZ ed p.mm s.mine::dbA p.dg s.db::bz p.wg s.w::cO p.lg s.lists::dL p.ag s.later::outA v s.out::L) I w:=by
  obtain ⟨v,h⟩:=h.ex_open
  obtain ⟨h1,h2⟩:=h.pure_open
  exact ⟨v,h1,h2.sep_open⟩
theorem ak {v:SlP} (hf:kL p s) (h:S κ (ai p.g 102 (roCells p s v)::portsA p s::talksA p.tm s.talks::bq dZ ed p.mm s.mine::dbA p.dg s.db::bz p.wg s.w::cO p.lg s.lists::dL p.ag s.later::outA v s.out::L) I w):S κ (roA p s::L) I w:=by
  unfold roA
  refine S.ex_close v ?_
  refine S.pure_close hf ?_
  exact S.sep_close (l:=[_,_,_,_,_,_,_,_,_]) h
theorem lk {a:Nat} {x:PoS} (h:S κ (di a x::L) I w):∃ pg,S κ (ai a 85 #[.int .i64 x.lan,.int .i64 x.prio,.int .i64 x.cost,.int .i64 x.i.self,.int .i64 x.i.prio,.int .i64 x.i.state,.int .i64 x.i.dr,.int .i64 x.i.bdr,.pointer (some ⟨pg,0,none⟩)]::bC pg x.p::L) I w:=by
  obtain ⟨pg,h⟩:=h.ex_open
  exact ⟨pg,h.sep_open⟩
theorem jP {a pg:Nat} {x:PoS} (h:S κ (ai a 85 #[.int .i64 x.lan,.int .i64 x.prio,.int .i64 x.cost,.int .i64 x.i.self,.int .i64 x.i.prio,.int .i64 x.i.state,.int .i64 x.i.dr,.int .i64 x.i.bdr,.pointer (some ⟨pg,0,none⟩)]::bC pg x.p::L) I w):S κ (di a x::L) I w:=by
  unfold di
  refine S.ex_close pg ?_
  exact S.sep_close (l:=[_,_]) h
theorem yY (h:S κ L I w):S κ (outA ⟨none,0⟩ []::L) I w:=by
  unfold outA
  refine S.ex_close [] ?_
  refine S.pure_close rfl ?_
  refine S.sep_close (l:=[_]) ?_
  exact h.nilrow _ _
theorem wq {m:Nat} (h:S κ (bq sf (fun x:Nat × TaS=>tS x.1) m ([]:List ((Int × Int) × Nat × TaS))::L) I w):S κ (talksA m []::L) I w:=by
  unfold talksA
  refine S.ex_close [] ?_
  refine S.pure_close rfl ?_
  exact S.sep_close (l:=[_]) h
theorem uN {l:List (Option Nat)} {m:List (Option PoS)} {k a:Nat} {x:PoS} (h1:l[k]? = some (some a)) (h2:m[k]? = some (some x)):(zipO l m)[k]? = some (some (a,x)):=by
  induction l generalizing m k with
  | nil=>simp at h1
  | cons b l ih=>
    cases m with
    | nil=>simp at h2
    | cons y m=>
      cases k with
      | zero=>
        simp only [List.getElem?_cons_zero,Option.some.injEq] at h1 h2
        subst h1;subst h2;rfl
      | succ k=>
        have:=ih (m:=m) (k:=k) (by simpa using h1) (by simpa using h2)
        cases b <;> cases y <;> simpa [zipO] using this
theorem yu {l:List (Option Nat)} {m:List (Option PoS)} {k a:Nat} {x y:PoS} (h1:l[k]? = some (some a)) (h2:m[k]? = some (some x)):(zipO l m).set k (some (a,y)) = zipO l (m.set k (some y)):=by
  induction l generalizing m k with
  | nil=>simp at h1
  | cons b l ih=>
    cases m with
    | nil=>simp at h2
    | cons z m=>
      cases k with
      | zero=>
        simp only [List.getElem?_cons_zero,Option.some.injEq] at h1 h2
        subst h1;subst h2;rfl
      | succ k=>
        have:=ih (m:=m) (k:=k) (by simpa using h1) (by simpa using h2)
        cases b <;> cases z <;> simpa [zipO] using this
theorem xF {k a:Nat} {x:PoS} (h1:p.pts[k]? = some (some a)) (h2:s.ports[k]? = some (some x)) (h:S κ (portsA p s::L) I w):S κ (di a x::bi (((zipO p.pts s.ports).map portO).eraseIdx k)::L) I w:=
  S.sep_at h (by rw [List.getElem?_map,uN h1 h2];rfl)
theorem oS {k a:Nat} {x y:PoS} (h1:p.pts[k]? = some (some a)) (h2:s.ports[k]? = some (some x)) (h:S κ (di a y::bi (((zipO p.pts s.ports).map portO).eraseIdx k)::L) I w):S κ (portsA p { s with ports:=s.ports.set k (some y) }::L) I w:=by
  have h3:=S.sep_put (c:=di a y) h (show ((zipO p.pts s.ports).map portO)[k]? = some (di a x) by rw [List.getElem?_map,uN h1 h2];rfl)
  have e:((zipO p.pts s.ports).map portO).set k (di a y) = (zipO p.pts (s.ports.set k (some y))).map portO:=by
    rw [← yu h1 h2,List.map_set];rfl
  rw [e] at h3
  exact h3
end
end Old
namespace Old
theorem AM {α:Type} {l:List α} (h:l.length = 4):∃ a b c d,l = [a,b,c,d]:=by
  match l,h with
  | [a,b,c,d],_=>exact ⟨a,b,c,d,rfl⟩
def tmr (kind lan id:Int):TmV:=⟨kind,lan,id,⟨0,0,0⟩⟩
def upF (k:Nat) (x:PoS) (s:RoS):RoS:=
  let i:=dm x.i 0 []
  let w:=armF (s.now + 1) [tmr 1 x.lan 0] s.w
  { s with ports:=s.ports.set k (some { x with i:=i }),w:=if i.state = 1 then armF (s.now + 8) [tmr 2 x.lan 0] w else w }
theorem rS {α:Type} {l:List (Option α)} {k:Nat} {x y:α} (h:l[k]? = some (some x)):(l.set k (some y)).map Option.isSome = l.map Option.isSome:=by
  rw [List.map_set]
  have h1:(l.map Option.isSome)[k]? = some true:=by rw [List.getElem?_map,h];rfl
  apply List.ext_getElem?
  intro j
  rw [List.getElem?_set]
  split
  · rename_i e;subst e
    split
    · rw [h1];rfl
    · rename_i hn;rw [List.getElem?_eq_none (by omega)] at h1;cases h1
  · rfl
set_option maxRecDepth 100000 in
set_option maxHeartbeats 8000000 in
theorem Al {κ:Kap} {L I:List Atom} (p:RoP) (s:RoS) (k ap:Nat) (x:PoS) (W:World) (hpk:p.pts[k]? = some (some ap)) (hx:s.ports[k]? = some (some x)) (hnow:0 ≤ s.now∧s.now ≤ 1000000000000) (hS:S κ (roA p s::L) (I) W):
    Calls Tryz.prog 29 #[pt p.g 0,pt ap 0] W (fun r w'=>r = .returned (.tuple #[])∧S κ (roA p (upF k x s)::L) I w'):=by
 obtain ⟨v,hF,hS⟩:=ro_open hS
 obtain ⟨hp4,hs4,hsame⟩:=id hF
 obtain ⟨p0,p1,p2,p3,hpts⟩:=AM hp4
 have hro:roCells p s v = #[i6 s.id,i6 s.now,i6 s.number,ptO p0,ptO p1,ptO p2,ptO p3,.map (some p.tm),.map (some p.mm),pt p.dg 0,pt p.wg 0,pt p.lg 0,pt p.ag 0,.slice v.A s.out.length v.c]:=by unfold roCells;rw [hpts];rfl
 rw [hro] at hS
 replace hS:=xF hpk hx (hS.front (i:=1) rfl)
 obtain ⟨pg,hS⟩:=lk hS
 refine wK 55 Tryz.func29 (fun R_ hR_ a hk=>?_)
 refine sg [5,11] hk ?_
 iterate 4 refine T ?_
 refine LDS 0 5 hk hS ?_
 refine eCb hk hS (h:=rU x.i 0 none 0 0 [] _ (by omega) Reads.none_) (k:=fun w3 hS3 _=>?_)
 clear hS
 iterate 5 refine T ?_
 refine eS 0 hk hS3 (fun w4 hS4 _=>?_)
 clear hS3
 refine rE [0,1] hk ?_
 clear hk
 intro a2 hk
 refine wp_seq ?_
 refine rgR [[],[0],[0,1],[0,1,2],[],[4],[4,5],[4,5,6],[4,5,6,7],[],[9],[9,10],[9,10,11],[9,10,11,12],[9,10,11,12,13],[9,10,11,12,13,14],[0,1,2,3,4,5,6,7,8,9,10,11,12,13,14,15]] [15,16] (.rd 0 (.rd 1 (.rd 2 (.rd 3 (.rd 4 (.rd 5 (.rd 6 (.rd 7 (.rd 8 (.rd 9 (.rd 10 (.rd 11 (.rd 12 (.rd 13 (.rd 14 (.ef 15 (.ag 0 (.ag 1 (.ag 2 (.ag 3 (.ag 4 (.ag 5 (.ag 6 (.ag 7 (.ag 8 (.ef 16 (.fin) .non)))))))))) .non)))))))))))))))) hk hS4 (fun w5 hS5 _=>?_)
 clear hS4
 iterate 3 refine T ?_
 refine LD 3 hk hS5 ?_
 iterate 3 refine T ?_
 refine LD 3 hk hS5 ?_
 refine rD (i6 (s.now + 1)) (fun _ h_=>rk (aD rfl (h_.x hk) rfl (by omega) rfl)) ?_
 iterate 4 refine T ?_
 refine LD 0 hk hS5 ?_
 refine rD (.agg #[i6 1,i6 x.lan,i6 0,i6 0,i6 0,i6 0]) (fun _ h_=>rk (af rfl (h_.prt hk) (by kernel_rfl))) ?_
 refine eF (fun a_ h_=>aZ (e:=121) (cells:=#[i6 1,i6 x.lan,i6 0,i6 0,i6 0,i6 0]) hS5 (ae rfl) rfl (h_.prtL hk) fun g6 w6 hS6 hb6=>⟨_,rfl,?_⟩)
 clear h_ a_ hS5
 clear hb6
 have hSr:S κ (aa (.slice (some ⟨g6,0,none⟩) 1 1) 121 6 1 (ab TmV.cells [tmr 1 x.lan 0])::ai ap 85 #[i6 x.lan,i6 x.prio,i6 x.cost,i6 ((dm x.i 0 []).self),i6 ((dm x.i 0 []).prio),i6 ((dm x.i 0 []).state),i6 ((dm x.i 0 []).dr),i6 ((dm x.i 0 []).bdr),pt pg 0]::bC pg x.p::(bi (((zipO p.pts s.ports).map portO).eraseIdx k))::ai p.g 102 #[i6 s.id,i6 s.now,i6 s.number,ptO p0,ptO p1,ptO p2,ptO p3,.map (some p.tm),.map (some p.mm),pt p.dg 0,pt p.wg 0,pt p.lg 0,pt p.ag 0,.slice v.A s.out.length v.c]::(talksA p.tm s.talks)::bq dZ ed p.mm s.mine::(dbA p.dg s.db)::(bz p.wg s.w)::(cO p.lg s.lists)::(dL p.ag s.later)::(outA v s.out)::L) (I) w6:=hS6.litRow rfl (by decide)
 clear hS6
 have hS6:=hSr
 clear hSr
 iterate 3 refine TA ?_
 refine aG (fun _ h_=>rk (ld hS6 4 rfl (h_.x hk))) ?_
 iterate 3 refine TA ?_
 refine aG (fun _ h_=>rk (ld hS6 4 rfl (h_.x hk))) ?_
 refine aG (fun _ h_=>rk (aD rfl (h_.x hk) rfl (by omega) rfl)) ?_
 have hSp:=hS6
 clear hS6
 replace hSp:=hSp.freeze
 replace hSp:=hSp.fr 7
 refine eC hk (h:=tW p.wg 1 _ _ _ [tmr 1 x.lan 0] _ _ (by omega) hSp) (k:=?_)
 rintro e_ w7 ⟨rfl,hS7⟩
 refine ⟨_,rfl,?_⟩
 clear hSp
 replace hS7:=hS7.dropI
 replace hS7:=hS7.nz 11
 refine rE [0,1] hk ?_
 clear hk
 intro a5 hk
 refine sg [] hk ?_
 iterate 4 refine T ?_
 refine LD 1 hk hS7 ?_
 refine T ?_
 refine rE [0,1,37] hk ?_
 clear hk
 intro a8 hk
 refine cD hk (fun hc37=>?_) (fun hc37=>?_)
 ·refine rgR [[],[0],[0,1],[0,1,2],[],[4],[4,5],[4,5,6],[4,5,6,7],[],[9],[9,10],[9,10,11],[9,10,11,12],[9,10,11,12,13],[9,10,11,12,13,14],[0,1,2,3,4,5,6,7,8,9,10,11,12,13,14,15]] [15,16] (.rd 0 (.rd 1 (.rd 2 (.rd 3 (.rd 4 (.rd 5 (.rd 6 (.rd 7 (.rd 8 (.rd 9 (.rd 10 (.rd 11 (.rd 12 (.rd 13 (.rd 14 (.ef 15 (.ag 0 (.ag 1 (.ag 2 (.ag 3 (.ag 4 (.ag 5 (.ag 6 (.ag 7 (.ag 8 (.ef 16 (.fin) .non)))))))))) .non)))))))))))))))) hk hS7 (fun w9 hS9 _=>?_)
  clear hS7
  iterate 3 refine T ?_
  refine LD 4 hk hS9 ?_
  iterate 3 refine T ?_
  refine LD 4 hk hS9 ?_
  refine rD (i6 (s.now + 8)) (fun _ h_=>rk (aD rfl (h_.x hk) rfl (by omega) rfl)) ?_
  iterate 4 refine T ?_
  refine LD 1 hk hS9 ?_
  refine rD (.agg #[i6 2,i6 x.lan,i6 0,i6 0,i6 0,i6 0]) (fun _ h_=>rk (af rfl (h_.prt hk) (by kernel_rfl))) ?_
  refine eF (fun a_ h_=>aZ (e:=121) (cells:=#[i6 2,i6 x.lan,i6 0,i6 0,i6 0,i6 0]) hS9 (ae rfl) rfl (h_.prtL hk) fun g10 w10 hS10 hb10=>⟨_,rfl,?_⟩)
  clear h_ a_ hS9
  clear hb10
  have hSr:S κ (aa (.slice (some ⟨g10,0,none⟩) 1 1) 121 6 1 (ab TmV.cells [tmr 2 x.lan 0])::(bz p.wg (armF (s.now + 1) [tmr 1 x.lan 0] s.w))::ai ap 85 #[i6 x.lan,i6 x.prio,i6 x.cost,i6 ((dm x.i 0 []).self),i6 ((dm x.i 0 []).prio),i6 ((dm x.i 0 []).state),i6 ((dm x.i 0 []).dr),i6 ((dm x.i 0 []).bdr),pt pg 0]::bC pg x.p::(bi (((zipO p.pts s.ports).map portO).eraseIdx k))::ai p.g 102 #[i6 s.id,i6 s.now,i6 s.number,ptO p0,ptO p1,ptO p2,ptO p3,.map (some p.tm),.map (some p.mm),pt p.dg 0,pt p.wg 0,pt p.lg 0,pt p.ag 0,.slice v.A s.out.length v.c]::(talksA p.tm s.talks)::bq dZ ed p.mm s.mine::(dbA p.dg s.db)::(cO p.lg s.lists)::(dL p.ag s.later)::(outA v s.out)::L) (I) w10:=hS10.litRow rfl (by decide)
  clear hS10
  have hS10:=hSr
  clear hSr
  iterate 3 refine TA ?_
  refine aG (fun _ h_=>rk (ld hS10 5 rfl (h_.x hk))) ?_
  iterate 3 refine TA ?_
  refine aG (fun _ h_=>rk (ld hS10 5 rfl (h_.x hk))) ?_
  refine aG (fun _ h_=>rk (aD rfl (h_.x hk) rfl (by omega) rfl)) ?_
  have hSp:=hS10
  clear hS10
  replace hSp:=hSp.freeze
  refine eC hk (h:=tW p.wg 1 _ _ _ [tmr 2 x.lan 0] _ _ (by omega) hSp) (k:=?_)
  rintro e_ w11 ⟨rfl,hS11⟩
  refine ⟨_,rfl,?_⟩
  clear hSp
  replace hS11:=hS11.dropI
  replace hS11:=hS11.nz 11
  refine rE [] hk ?_
  clear hk
  intro a9 hk
  show bodyPost _ _ _ .ret _ _
  refine rt0 hk (hR_ _ _ ?_)
  replace hS11:=hS11.fr 10
  replace hS11:=hS11.fr 10
  replace hS11:=hS11.fr 10
  replace hS11:=hS11.fr 3
  replace hS11:=hS11.fr 10
  replace hS11:=hS11.fr 10
  replace hS11:=hS11.fr 10
  replace hS11:=hS11.fr 10
  replace hS11:=hS11.fr 10
  replace hS11:=hS11.fr 10
  replace hS11:=hS11.fr 10
  have hc1:=oS hpk hx (jP (x:={ x with i:=(dm x.i 0 []) }) hS11)
  replace hc1:=hc1.fr 1
  have hF2:kL p (upF k x s):=⟨hp4,by simp only [upF,List.length_set];exact hs4,by simp only [upF];rw [hsame];exact (rS hx).symm⟩
  have e:(upF k x s).w = (armF (s.now + 8) [tmr 2 x.lan 0] (armF (s.now + 1) [tmr 1 x.lan 0] s.w)):=by simp only [upF];rw [if_pos hc37]
  rw [← e] at hc1
  have e3:roCells p (upF k x s) v = #[i6 s.id,i6 s.now,i6 s.number,ptO p0,ptO p1,ptO p2,ptO p3,.map (some p.tm),.map (some p.mm),pt p.dg 0,pt p.wg 0,pt p.lg 0,pt p.ag 0,.slice v.A s.out.length v.c]:=hro
  exact ⟨rfl,ak (v:=v) hF2 (by rw [e3];exact hc1)⟩
 refine wp_skip ?_
 show bodyPost _ _ _ .ret _ _
 refine rt0 hk (hR_ _ _ ?_)
 replace hS7:=hS7.fr 10
 replace hS7:=hS7.fr 10
 replace hS7:=hS7.fr 10
 replace hS7:=hS7.fr 3
 replace hS7:=hS7.fr 10
 replace hS7:=hS7.fr 10
 replace hS7:=hS7.fr 10
 replace hS7:=hS7.fr 10
 replace hS7:=hS7.fr 10
 replace hS7:=hS7.fr 10
 replace hS7:=hS7.fr 10
 have hc1:=oS hpk hx (jP (x:={ x with i:=(dm x.i 0 []) }) hS7)
 replace hc1:=hc1.fr 1
 have hF2:kL p (upF k x s):=⟨hp4,by simp only [upF,List.length_set];exact hs4,by simp only [upF];rw [hsame];exact (rS hx).symm⟩
 have e:(upF k x s).w = (armF (s.now + 1) [tmr 1 x.lan 0] s.w):=by simp only [upF];rw [if_neg hc37]
 rw [← e] at hc1
 have e3:roCells p (upF k x s) v = #[i6 s.id,i6 s.now,i6 s.number,ptO p0,ptO p1,ptO p2,ptO p3,.map (some p.tm),.map (some p.mm),pt p.dg 0,pt p.wg 0,pt p.lg 0,pt p.ag 0,.slice v.A s.out.length v.c]:=hro
 exact ⟨rfl,ak (v:=v) hF2 (by rw [e3];exact hc1)⟩
end Old
namespace Old
structure PtV where
  lan:Int
  prio:Int
  cost:Int
def PtV.cells (x:PtV):List Value:=[.int .i64 x.lan,.int .i64 x.prio,.int .i64 x.cost]
theorem PtV.cells_len (x:PtV):x.cells.length = 3:=rfl
theorem du {w:World} {B n:Nat} {A:Option Addr} {l:List PtV} (h:Reads w B 3 A n (ab PtV.cells l)):l.length = n:=by have:=h.1;rw [be PtV.cells 3 PtV.cells_len] at this;omega
def numF (boot:Int):Int:=IntKind.i64.wrap (boot * 65536)
def peers0 (self lan:Int):PeS:=⟨self,lan,List.replicate 16 none⟩
def port0 (id:Int) (x:PtV):PoS:=⟨x.lan,x.prio,x.cost,⟨id,x.prio,0,0,0⟩,peers0 id x.lan⟩
def ro0 (id boot room:Int):RoS:=⟨id,0,numF boot,[none,none,none,none],[],[],⟨roomF room,[]⟩,[],[],[],[]⟩
def mH (s:RoS) (x:PtV):Prop:=portOk x.lan x.prio x.cost∧s.ports[x.lan.toNat]? = some none
instance (s:RoS) (x:PtV):Decidable (s.ports[x.lan.toNat]? = some none):=by
  cases h:s.ports[x.lan.toNat]? with
  | none=>exact isFalse (by simp)
  | some o=>cases o with
    | none=>exact isTrue rfl
    | some y=>exact isFalse (by simp)
instance (s:RoS) (x:PtV):Decidable (mH s x):=by unfold mH;infer_instance
def addP (id:Int) (s:RoS) (x:PtV):RoS:={ s with ports:=s.ports.set x.lan.toNat (some (port0 id x)) }
def addsF (id:Int):List PtV → RoS → Option RoS
  | [],s=>some s
  | x::l,s=>if mH s x then addsF id l (addP id s x) else none
theorem jx (id:Int) (x:PtV):∀ (l:List PtV) (s:RoS),addsF id (l ++ [x]) s = (addsF id l s).bind fun t=>if mH t x then some (addP id t x) else none
  | [],s=>by simp [addsF]
  | y::l,s=>by
    simp only [List.cons_append,addsF]
    split
    · exact jx id x l _
    · rfl
theorem mI (id:Int):∀ (l m:List PtV) (s:RoS),addsF id l s = none → addsF id (l ++ m) s = none
  | [],m,s,h=>by cases h
  | y::l,m,s,h=>by
    simp only [List.cons_append,addsF] at h ⊢
    split
    · rename_i hc;rw [if_pos hc] at h;exact mI id l m _ h
    · rfl
theorem uT {id:Int} {l:List PtV} {k:Nat} {x:PtV} {s t:RoS} (h:addsF id (l.take k) s = some t) (hx:l[k]? = some x) (ho:mH t x):addsF id (l.take (k + 1)) s = some (addP id t x):=by
  rw [bp l k x hx,jx,h];simp [ho]
theorem qn {id:Int} {l:List PtV} {k:Nat} {x:PtV} {s t:RoS} (h:addsF id (l.take k) s = some t) (hx:l[k]? = some x) (ho:¬ mH t x):addsF id l s = none:=by
  have h1:addsF id (l.take (k + 1)) s = none:=by rw [bp l k x hx,jx,h];simp [ho]
  have:=mI id (l.take (k + 1)) (l.drop (k + 1)) s h1
  rwa [List.take_append_drop] at this
def upsF:Nat → RoS → RoS
  | 0,s=>s
  | k + 1,s=>match (upsF k s).ports[k]? with
    | some (some x)=>upF k x (upsF k s)
    | _=>upsF k s
def newF (id boot room:Int) (l:List PtV):Option RoS:=if id < 1 ∨ 15 < id then none else (addsF id l (ro0 id boot room)).map (upsF 4)
theorem qo {id:Int}:∀ {l:List PtV} {s t:RoS},addsF id l s = some t → t.now = s.now∧t.ports.length = s.ports.length
  | [],s,t,h=>by cases h;exact ⟨rfl,rfl⟩
  | x::l,s,t,h=>by
    unfold addsF at h
    split at h
    · obtain ⟨h1,h2⟩:=qo h
      exact ⟨h1,by rw [h2];simp [addP]⟩
    · cases h
theorem uM:∀ (k:Nat) (s:RoS),(upsF k s).now = s.now∧(upsF k s).ports.length = s.ports.length
  | 0,s=>⟨rfl,rfl⟩
  | k + 1,s=>by
    have ih:=uM k s
    unfold upsF
    split
    · exact ⟨ih.1,by simp only [upF,List.length_set];exact ih.2⟩
    · exact ih
theorem ym {k:Nat} {s:RoS} {x:PoS} (h:(upsF k s).ports[k]? = some (some x)):upsF (k + 1) s = upF k x (upsF k s):=by
  simp only [upsF,h]
theorem yl {k:Nat} {s:RoS} (h:∀ x,(upsF k s).ports[k]? ≠ some (some x)):upsF (k + 1) s = upsF k s:=by
  simp only [upsF]
theorem oz {p:RoP} {s:RoS} (h:kL p s) {k a:Nat} (ha:p.pts[k]? = some (some a)):∃ x,s.ports[k]? = some (some x):=by
  have h1:(p.pts.map Option.isSome)[k]? = some true:=by rw [List.getElem?_map,ha];rfl
  rw [h.2.2,List.getElem?_map] at h1
  cases hs:s.ports[k]? with
  | none=>rw [hs] at h1;cases h1
  | some o=>cases o with
    | none=>rw [hs] at h1;cases h1
    | some x=>exact ⟨x,rfl⟩
theorem oy {p:RoP} {s:RoS} (h:kL p s) {k:Nat} (ha:p.pts[k]? = some none):s.ports[k]? = some none:=by
  have h1:(p.pts.map Option.isSome)[k]? = some false:=by rw [List.getElem?_map,ha];rfl
  rw [h.2.2,List.getElem?_map] at h1
  cases hs:s.ports[k]? with
  | none=>rw [hs] at h1;cases h1
  | some o=>cases o with
    | none=>rfl
    | some x=>rw [hs] at h1;cases h1
theorem zC {p:RoP} {s:RoS} {v:SlP} {k:Nat} {o:Option Nat} (h:p.pts[k]? = some o) (h4:p.pts.length = 4):(roCells p s v)[3 + k]? = some (ptO o):=by
  have hpk:k < p.pts.length:=(List.getElem?_eq_some_iff.1 h).1
  unfold roCells
  rw [List.getElem?_toArray,Nat.add_comm]
  simp only [List.cons_append,List.getElem?_cons_succ]
  rw [List.getElem?_append_left (by simpa using hpk),List.getElem?_map,h];rfl
theorem Ah {p:RoP} {s:RoS} {v:SlP} {k a:Nat} (hpk:k < p.pts.length):(roCells p s v).setIfInBounds (3 + k) (.pointer (some ⟨a,0,none⟩)) = roCells { p with pts:=p.pts.set k (some a) } s v:=by
  unfold roCells
  rw [Nat.add_comm]
  simp only [List.setIfInBounds_toArray,List.cons_append,List.set_cons_succ]
  rw [List.set_append_left _ _ (by simpa using hpk),List.map_set];rfl
theorem ze {p:RoP} {s:RoS} {v:SlP} (h4:p.pts.length = 4):(roCells p s v).size = 14:=by simp [roCells,h4]
theorem yt {l:List (Option Nat)} {m:List (Option PoS)} {k a:Nat} {y:PoS} (h1:l[k]? = some none) (h2:m[k]? = some none):(zipO l m)[k]? = some none∧(zipO l m).set k (some (a,y)) = zipO (l.set k (some a)) (m.set k (some y)):=by
  induction l generalizing m k with
  | nil=>simp at h1
  | cons b l ih=>
    cases m with
    | nil=>simp at h2
    | cons z m=>
      cases k with
      | zero=>
        simp only [List.getElem?_cons_zero,Option.some.injEq] at h1 h2
        subst h1;subst h2;exact ⟨rfl,rfl⟩
      | succ k=>
        have:=ih (m:=m) (k:=k) (by simpa using h1) (by simpa using h2)
        cases b <;> cases z <;> simpa [zipO] using this
theorem vL {κ:Kap} {L I:List Atom} {w:World} {p:RoP} {s:RoS} {k a:Nat} {y:PoS} (h1:p.pts[k]? = some none) (h2:s.ports[k]? = some none) (h:S κ (di a y::portsA p s::L) I w):S κ (portsA { p with pts:=p.pts.set k (some a) } { s with ports:=s.ports.set k (some y) }::L) I w:=by
  obtain ⟨e1,e2⟩:=yt (a:=a) (y:=y) h1 h2
  have hi:((zipO p.pts s.ports).map portO)[k]? = some (portO none):=by rw [List.getElem?_map,e1];rfl
  have h3:=S.sep_at (h.perm (List.Perm.swap _ _ _)) hi
  have h4:=(h3.drop.perm (List.Perm.swap _ _ _))
  have h5:=S.sep_put (c:=di a y) h4 hi
  have e:((zipO p.pts s.ports).map portO).set k (di a y) = (zipO (p.pts.set k (some a)) (s.ports.set k (some y))).map portO:=by
    rw [← e2,List.map_set];rfl
  rw [e] at h5
  exact h5
theorem wV {p:RoP} {s:RoS} {k a:Nat} {y:PoS} (h:kL p s) (hpk:k < 4):kL { p with pts:=p.pts.set k (some a) } { s with ports:=s.ports.set k (some y) }:=by
  obtain ⟨h1,h2,h3⟩:=h
  refine ⟨by simpa using h1,by simpa using h2,?_⟩
  simp only [List.map_set,h3];rfl
theorem xL {κ:Kap} {L I:List Atom} {w:World} {g tm mm dg wg lg ag:Nat} {id boot room:Int}
    (h:S κ (ai g 102 #[.int .i64 id,.int .i64 0,.int .i64 (numF boot),.pointer none,.pointer none,.pointer none,.pointer none,.map (some tm),.map (some mm),.pointer (some ⟨dg,0,none⟩),.pointer (some ⟨wg,0,none⟩),.pointer (some ⟨lg,0,none⟩),.pointer (some ⟨ag,0,none⟩),.slice none 0 0] ::
      dL ag []::cO lg []::bz wg []::dbA dg ⟨roomF room,[]⟩::bq dZ ed mm ([]:List (KeyV × Int × Int))::bq sf (fun x:Nat × TaS=>tS x.1) tm ([]:List ((Int × Int) × Nat × TaS))::L) I w):
    S κ (roA ⟨g,[none,none,none,none],tm,mm,dg,wg,lg,ag⟩ (ro0 id boot room)::L) I w:=by
  have h1:=wq (h.front (i:=6) rfl)
  have h2:S κ (portsA ⟨g,[none,none,none,none],tm,mm,dg,wg,lg,ag⟩ (ro0 id boot room)::outA ⟨none,0⟩ []::talksA tm []::_) I w:=S.sep_close (l:=[bi [],bi [],bi [],bi []]) (S.sep_close (l:=[]) (S.sep_close (l:=[]) (S.sep_close (l:=[]) (S.sep_close (l:=[]) (yY h1)))))
  have h3:=h2.front (i:=1) rfl
  have h4:=h3.front (i:=4) rfl
  have h5:=h4.front (i:=5) rfl
  have h6:=h5.front (i:=6) rfl
  have h7:=h6.front (i:=7) rfl
  have h8:=h7.front (i:=8) rfl
  have h9:=h8.front (i:=7) rfl
  have h10:=h9.front (i:=7) rfl
  have h11:=h10.front (i:=8) rfl
  exact ak (v:=⟨none,0⟩) ⟨rfl,rfl,rfl⟩ (h11)
theorem Ag {w:World} {p:RoP} {s:RoS} {v:SlP} {T:Nat} (h:Blk w p.g T (roCells p s v)) (h4:p.pts.length = 4):∀ j u,(p.pts.map ptO)[j]? = some u → w.cell? ⟨p.g,3 + j,none⟩ = some u:=by
  intro j u hj
  rw [List.getElem?_map] at hj
  obtain ⟨o,h1,rfl⟩:=Option.map_eq_some_iff.1 hj
  rw [h.cell];exact zC h1 h4
theorem zd {κ:Kap} {L I:List Atom} {w:World} {p:RoP} {s:RoS} (h:S κ (roA p s::L) I w):kL p s:=(ro_open h).elim fun _ h=>h.1
theorem zf {p:RoP} {s:RoS} {k:Nat} {o:Option Nat} (hF:kL p (upsF k s)) (ho:p.pts[k]? = some o) (h:o.isSome = false):upsF (k + 1) s = upsF k s:=by
  cases o with
  | some a=>cases h
  | none=>exact yl (fun x hx=>by rw [oy hF ho] at hx;cases hx)
theorem tQ {p:RoP} {s:RoS} {x:PtV} {o:Option Nat} (hF:kL p s) (ho:p.pts[x.lan.toNat]? = some o) (h:o.isSome = true):¬ mH s x:=by
  cases o with
  | none=>cases h
  | some a=>
    obtain ⟨y,hy⟩:=oz hF ho
    intro hc
    rw [hc.2] at hy;cases hy
theorem tR {p:RoP} {s:RoS} {x:PtV} {o:Option Nat} (hF:kL p s) (ho:p.pts[x.lan.toNat]? = some o) (h:o.isSome = false):s.ports[x.lan.toNat]? = some none:=by
  cases o with
  | some a=>cases h
  | none=>exact oy hF ho
theorem vm {α:Type} {o:Option α} (h:o.isSome = false):o = none:=by cases o <;> simp_all
set_option maxRecDepth 100000 in
set_option maxHeartbeats 8000000 in
theorem roNew_any (id boot room:Int) (A:Option Addr) (n c:Nat) (l:List PtV) (W:World) (hn:n ≤ 9223372036854775807) (hR:Reads W W.heap.size 3 A n (ab PtV.cells l)):
    Calls Tryz.prog 25 #[i6 id,i6 boot,i6 room,.slice A n c] W (fun r w'=>(newF id boot room l = none∧r = .returned (.pointer none)∧Below W.heap.size W w') ∨ ∃ s p,newF id boot room l = some s∧r = .returned (pt p.g 0)∧S (kap W) [roA p s] [cA W W.heap.size] w'):=by
 have hS:=S.start W
 refine wK 83 Tryz.func25 (fun R_ hR_ a hk=>?_)
 refine sg [] hk ?_
 refine T ?_
 refine rE [0,1,2,3,8] hk ?_
 clear hk
 intro a2 hk
 refine wp_seq ?_
 refine sg [] hk ?_
 iterate 3 refine T ?_
 rcases dt ((id:Int) < 1) with ⟨he,hg2⟩ | ⟨he,hg2⟩
 ·rw [he]
  clear he
  refine oF 2 16 false [3,4] ?_
  refine T ?_
  refine rE [0,1,2,3,8,19] hk ?_
  clear hk
  intro a3 hk
  refine cT hk ?_
  refine sg [] hk ?_
  refine T ?_
  refine rE [0,1,2,3,8] hk ?_
  clear hk
  intro a4 hk
  refine wp_ret ?_
  refine rt1 hk (hR_ _ _ ?_)
  exact .inl ⟨by unfold newF;rw [if_pos (by omega)],rfl,(hS.old (by simp))⟩
 rw [he]
 clear he
 iterate 3 refine T ?_
 refine rE [0,1,2,3,8,19] hk ?_
 clear hk
 intro a3 hk
 refine cD hk (fun hc19=>?_) (fun hc19=>?_)
 ·refine sg [] hk ?_
  refine T ?_
  refine rE [0,1,2,3,8] hk ?_
  clear hk
  intro a5 hk
  refine wp_ret ?_
  refine rt1 hk (hR_ _ _ ?_)
  exact .inl ⟨by unfold newF;rw [if_pos (by omega)],rfl,(hS.old (by simp))⟩
 refine wp_skip ?_
 refine sg [3,4,6,7,8,9,11] hk ?_
 iterate 2 refine T ?_
 refine rD (i6 (numF boot)) (fun _ h_=>rk (aq rfl (h_.x hk) rfl (fun _=>rfl) (fun _=>rfl))) ?_
 refine eF (fun a_ h_=>bV (α:=(Int × Int)) (β:=(Nat × TaS)) sf (fun x:Nat × TaS=>tS x.1) hS (ae rfl) rfl fun g7 w7 hS7 hb7=>⟨_,rfl,?_⟩)
 clear h_ a_ hS
 clear hb7
 refine eF (fun a_ h_=>bV (α:=KeyV) (β:=(Int × Int)) dZ ed hS7 (ae rfl) rfl fun g8 w8 hS8 hb8=>⟨_,rfl,?_⟩)
 clear h_ a_ hS7
 clear hb8
 refine T ?_
 have hSp:=hS8
 clear hS8
 refine eC hk (h:=vc (κ:=kap W) room _ hSp) (k:=?_)
 rintro e_ w9 ⟨g9,rfl,hS9⟩
 refine ⟨_,rfl,?_⟩
 clear hSp
 replace hS9:=hS9.nz 3
 have hSp:=hS9
 clear hS9
 refine eC hk (h:=kK (κ:=kap W) _ hSp) (k:=?_)
 rintro e_ w10 ⟨g10,rfl,hS10⟩
 refine ⟨_,rfl,?_⟩
 clear hSp
 replace hS10:=hS10.nz 4
 have hSp:=hS10
 clear hS10
 refine eC hk (h:=l9 (κ:=kap W) _ hSp) (k:=?_)
 rintro e_ w11 ⟨g11,rfl,hS11⟩
 refine ⟨_,rfl,?_⟩
 clear hSp
 replace hS11:=hS11.nz 5
 have hSp:=hS11
 clear hS11
 refine eC hk (h:=lH (κ:=kap W) _ hSp) (k:=?_)
 rintro e_ w12 ⟨g12,rfl,hS12⟩
 refine ⟨_,rfl,?_⟩
 clear hSp
 replace hS12:=hS12.nz 6
 refine rD (.agg #[i6 id,i6 0,i6 (numF boot),.pointer none,.pointer none,.pointer none,.pointer none,.map (some g7),.map (some g8),pt g9 0,pt g10 0,pt g11 0,pt g12 0,.slice none 0 0]) (fun _ h_=>rk (af rfl (h_.prt hk) (by kernel_rfl))) ?_
 refine eB hk hS12 (fun g13 w13 hS13 _=>?_)
 clear hS12
 refine T ?_
 refine rE [0,3,8,9] hk ?_
 clear hk
 intro a6 hk
 replace hS13:=hS13.fr 6
 replace hS13:=hS13.fr 6
 replace hS13:=hS13.fr 6
 replace hS13:=hS13.fr 6
 replace hS13:=hS13.fr 6
 replace hS13:=hS13.fr 6
 replace hS13:=hS13.fr 6
 have hSn:=xL hS13
 clear hS13
 refine wp_seq ?_
 refine sg [] hk ?_
 iterate 3 refine T ?_
 refine rE [0,8,9,32,33,34] hk ?_
 clear hk
 intro a14 hk
 refine wp_block ?_
 refine wp_loop (fun a_ w_=>∃ k:Nat,∃ p:RoP,∃ s:RoS,(k ≤ n)∧(addsF id (l.take k) (ro0 id boot room) = some s)∧Fr a_ 83 [(0,i6 id),(8,.pointer none),(9,pt p.g 0),(32,.slice A n c),(33,i6 n),(34,i6 k)]∧S (kap W) (roA p s::[]) ((cA W W.heap.size)::[]) w_) (fun a_ _=>n - (intOf (sl a_ 34)).toNat) ?_ ?_
 ·exact ⟨0,⟨g13,[none,none,none,none],g7,g8,g9,g10,g11,g12⟩,_,Nat.zero_le _,rfl,hk.to,hSn⟩
 clear hk hSn
 rintro a15 w15 ⟨k,p,s,hc0_0,hc0_1,hk,hS15⟩
 have hmu0:=hk.g (s:=34)
 refine sg [] hk ?_
 refine T ?_
 refine rE [0,8,9,32,33,34,35] hk ?_
 clear hk
 intro a16 hk
 refine wp_seq ?_
 refine cD hk (fun hc35=>?_) (fun hc35=>?_)
 ·refine wp_skip ?_
  refine wp_seq ?_
  refine wp_block ?_
  refine sg [2,3] hk ?_
  obtain ⟨b18,o18,z18,hA18,hb18,hz18,hq18⟩:=Reads.row_at PtV.cells 3 PtV.cells_len (k:=k) (Reads.old hR (hS15.old (by simp))) (by decide) (by omega)
  refine rD (pt b18 (o18 + k * 3)) (fun _ h_=>rk (az (size:=3) rfl (h_.x hk) hA18 (h_.x hk) (by kernel_rfl) (by omega) (by simp))) ?_
  refine rD (.agg #[i6 z18.lan,i6 z18.prio,i6 z18.cost]) (fun _ h_=>rk (dT (size:=3) (cs:=PtV.cells z18) rfl (h_.x hk) (by kernel_rfl) rfl hq18)) ?_
  refine eA #[i6 0,i6 0,i6 0] hS15 (fun g19 w19 hS19 _=>?_)
  clear hS15
  refine eS 0 hk hS19 (fun w20 hS20 _=>?_)
  clear hS19
  refine rE [0,8,9,11,32,33,34,36,37] hk ?_
  clear hk
  intro a17 hk
  refine wp_seq ?_
  refine wp_seq ?_
  obtain ⟨v,hF,hSo⟩:=ro_open (hS20.front (i:=1) rfl)
  clear hS20
  have hS20:S (kap W) (ai p.g 102 (roCells p s v)::(portsA p s)::(talksA p.tm s.talks)::bq dZ ed p.mm s.mine::(dbA p.dg s.db)::(bz p.wg s.w)::(cO p.lg s.lists)::(dL p.ag s.later)::(outA v s.out)::ai g19 26 #[i6 z18.lan,i6 z18.prio,i6 z18.cost]::[]) ((cA W W.heap.size)::[]) w20:=hSo
  clear hSo
  refine rgR [[],[0],[0,1],[0,1,2],[0,1,2,3],[0,1,2,3],[0,1,2,3,5],[0,1,2,3,4],[0,1,2,3,4,7],[0,1,2,3,4,5,6,7,8],[0,1,2,3,4,5,6,7,8,9],[0,1,2,3,4,5,6,7,8,9,10],[0,1,2,3,4,5,6,7,8,9,10,11]] [1] (.rd 0 (.ef 1 (.rd 2 (.rd 3 (.rd 4 (.rd 5 (.rd 6 (.rd 7 (.rd 8 (.rd 9 (.rd 10 (.rd 11 (.rd 12 (.fin)))))))))))) .non)) hk hS20 (fun w21 hS21 _=>?_)
  clear hS20
  refine LDS 9 3 hk hS21 ?_
  refine eCb hk hS21 (h:=oa z18.lan z18.prio z18.cost _) (k:=fun w22 hS22 _=>?_)
  clear hS21
  iterate 2 refine T ?_
  rcases nt (portOk z18.lan z18.prio z18.cost) with ⟨he,hg3⟩ | ⟨he,hg3⟩
  ·rw [he]
   clear he
   refine oF 3 41 false [4,5,6,7,8,9,10,11] ?_
   refine T ?_
   refine rE [0,8,9,11,32,33,34,36,37,38,39,40,41,50] hk ?_
   clear hk
   intro a21 hk
   refine cT hk ?_
   refine sg [] hk ?_
   refine T ?_
   refine rE [0,8,9,11,32,33,34,36,37,38,39,40,41,50] hk ?_
   clear hk
   intro a23 hk
   refine wp_ret ?_
   refine rt1 hk (hR_ _ _ ?_)
   exact .inl ⟨by unfold newF;rw [if_neg (by omega),qn hc0_1 hz18 (by first | exact fun h=>hg3 h.1 | exact tQ hF ho hc50)];rfl,rfl,(hS22.old (by simp))⟩
  rw [he]
  clear he
  iterate 2 refine T ?_
  refine LD 9 hk hS22 ?_
  iterate 2 refine T ?_
  refine rD (pt p.g (3 + z18.lan.toNat)) (fun _ h_=>bL (h_.on 3 41) (gZ (n:=4) (size:=1) rfl (h_.x hk) (h_.x hk) (by kernel_rfl) ⟨hg3.1,by have:=hg3.2.1;omega⟩ (by omega))) ?_
  obtain ⟨o,ho⟩:∃ o,p.pts[z18.lan.toNat]? = some o:=⟨_,List.getElem?_eq_getElem (by rw [hF.1];have:=hg3.1;have:=hg3.2.1;omega)⟩
  refine rD (ptO o) (fun _ h_=>bL (h_.on 3 41) (bB rfl (h_.x hk) (by kernel_rfl) (((hS22.blk (i:=0) rfl).cell _).trans (zC ho hF.1)))) ?_
  refine rD (.bool o.isSome) (fun _ h_=>bL (h_.on 3 41) (aq rfl (h_.x hk) rfl (fun _=>by cases o <;> kernel_rfl) (fun _=>by cases o <;> rfl))) ?_
  refine T ?_
  refine rE [0,8,9,11,32,33,34,36,37,38,39,40,41,42,43,44,45,46,47,48,49,50] hk ?_
  clear hk
  intro a21 hk
  refine cB hk (fun hc50=>?_) (fun hc50=>?_)
  ·rw [hc50] at hk
   refine sg [] hk ?_
   refine T ?_
   refine rE [0,8,9,11,32,33,34,36,37,38,39,40,41,42,43,44,45,46,47,48,49] hk ?_
   clear hk
   intro a24 hk
   refine wp_ret ?_
   refine rt1 hk (hR_ _ _ ?_)
   exact .inl ⟨by unfold newF;rw [if_neg (by omega),qn hc0_1 hz18 (by first | exact fun h=>hg3 h.1 | exact tQ hF ho hc50)];rfl,rfl,(hS22.old (by simp))⟩
  rw [hc50] at hk
  obtain rfl:=vm hc50
  refine wp_skip ?_
  refine rgR [[],[],[1],[],[],[],[5],[4,5,6],[],[],[9],[8,9,10],[3,4,5,6,7,8,9,10,11],[3,4,5,6,7,8,9,10,11,12],[0],[0,14],[0,1,2,3,4,5,6,7,8,9,10,11,12,13,14,15],[0,1,2,3,4,5,6,7,8,9,10,11,12,13,14,15,16]] [11,13,17] (.rd 0 (.rd 1 (.rd 2 (.rd 3 (.rd 4 (.rd 5 (.rd 6 (.rd 7 (.rd 8 (.rd 9 (.rd 10 (.rd 14 (.rd 15 (.ef 11 (.ag 0 (.ag 1 (.ag 2 (.ag 3 (.ag 4 (.ag 5 (.ag 6 (.ag 7 (.rd 12 (.ag 14 (.ag 15 (.ef 13 (.ag 0 (.ag 1 (.ag 2 (.ag 14 (.ag 15 (.rd 16 (.ef 17 (.fin) .non))))))) .non)))))))))))) .non)))))))))))))) hk hS22 (fun w25 hS25 _=>?_)
  clear hS22
  iterate 2 refine T ?_
  refine LD 9 hk hS25 ?_
  refine LDS 9 3 hk hS25 ?_
  iterate 2 refine T ?_
  refine LD 9 hk hS25 ?_
  refine rD (.agg #[i6 id,i6 z18.prio,i6 0,i6 0,i6 0]) (fun _ h_=>rk (af rfl (h_.prt hk) (by kernel_rfl))) ?_
  iterate 2 refine T ?_
  refine LD 9 hk hS25 ?_
  iterate 2 refine T ?_
  have hSp:=hS25
  clear hS25
  refine eC hk (h:=pV (κ:=kap W) id z18.lan _ hSp) (k:=?_)
  rintro e_ w26 ⟨g26,rfl,hS26⟩
  refine ⟨_,rfl,?_⟩
  clear hSp
  replace hS26:=hS26.nz 11
  iterate 2 refine TA ?_
  refine aG (fun _ h_=>rk (ld hS26 10 rfl (h_.x hk))) ?_
  refine aG (fun _ h_=>rk (lbS 3 (hS26.blk (i:=10) rfl) rfl (h_.x hk))) ?_
  iterate 2 refine TA ?_
  refine aG (fun _ h_=>rk (ld hS26 10 rfl (h_.x hk))) ?_
  refine aG (fun _ h_=>rk (af rfl (h_.prt hk) (by kernel_rfl))) ?_
  refine rD (.agg #[i6 z18.lan,i6 z18.prio,i6 z18.cost,i6 id,i6 z18.prio,i6 0,i6 0,i6 0,pt g26 0]) (fun _ h_=>rk (af rfl (h_.prt hk) (by kernel_rfl))) ?_
  iterate 2 refine TA ?_
  refine eB hk hS26 (fun g27 w27 hS27 _=>?_)
  clear hS26
  iterate 2 refine TA ?_
  refine aG (fun _ h_=>rk (ld hS27 11 rfl (h_.x hk))) ?_
  iterate 2 refine TA ?_
  refine rD (pt p.g (3 + z18.lan.toNat)) (fun _ h_=>rk (gZ (n:=4) (size:=1) rfl (h_.x hk) (h_.x hk) (by kernel_rfl) ⟨hg3.1,by have:=hg3.2.1;omega⟩ (by omega))) ?_
  have hlz:=hg3.1
  have hlz2:=hg3.2.1
  refine eF (fun a_ h_=>uH (k:=3 + z18.lan.toNat) (u:=pt g27 0) 2 hS27 rfl (ae rfl) rfl (h_.x hk) (h_.x hk) rfl (by kernel_rfl) (by rw [ze hF.1];omega) rfl fun w28 hS28 _=>⟨_,rfl,?_⟩)
  clear h_ a_ hS27
  rw [Ah (by rw [hF.1];omega)] at hS28
  replace hS28:=hS28.nz 12
  refine rE [0,8,9,11,32,33,34,36,37,38,39,40,41,42,43,44,45,46,47,48,49,51,52,53,54,55,56,57,58,59,60,61,62,63,64,65,66,67] hk ?_
  clear hk
  intro a25 hk
  refine rgL [] hk ?_
  refine rD (i6 (k + 1)) (fun _ h_=>rk (aD rfl (h_.x hk) rfl (by omega) rfl)) ?_
  refine T ?_
  refine rE [0,8,9,11,32,33,34,36,37,38,39,40,41,42,43,44,45,46,47,48,49,51,52,53,54,55,56,57,58,59,60,61,62,63,64,65,66,67,68] hk ?_
  clear hk
  intro a29 hk
  replace hS28:=hS28.fr 11
  replace hS28:=hS28.drop
  replace hS28:=hS28.fr 10
  replace hS28:=hS28.fr 10
  replace hS28:=hS28.fr 10
  replace hS28:=hS28.fr 10
  replace hS28:=hS28.fr 10
  replace hS28:=hS28.fr 10
  replace hS28:=hS28.fr 10
  replace hS28:=hS28.fr 9
  replace hS28:=hS28.fr 10
  replace hS28:=hS28.fr 10
  replace hS28:=hS28.fr 10
  have hS1:=vL (y:=port0 id z18) ho (tR hF ho rfl) (jP (x:=port0 id z18) hS28)
  replace hS1:=hS1.front (i:=1) rfl
  have hS2:=ak (p:={ p with pts:=p.pts.set z18.lan.toNat (some g27) }) (s:=addP id s z18) (v:=v) (wV hF (by omega)) hS1
  refine ⟨⟨k + 1,{ p with pts:=p.pts.set z18.lan.toNat (some g27) },addP id s z18,by omega,uT hc0_1 hz18 ⟨hg3,tR hF ho rfl⟩,hk.to,hS2⟩,?_⟩
  show n - (intOf (sl a29 34)).toNat < n - (intOf (sl a15 34)).toNat
  rw [show sl a29 34 = _ from hk.g,show sl a15 34 = _ from hmu0]
  simp only [intOf]
  omega
 refine wp_exit ?_
 refine wp_seq ?_
 refine wp_seq ?_
 obtain rfl:k = n:=by omega
 rw [List.take_of_length_le (by have:=du hR;omega)] at hc0_1
 obtain ⟨v,hF,hSo⟩:=ro_open (hS15.front (i:=0) rfl)
 clear hS15
 have hS15:S (kap W) (ai p.g 102 (roCells p s v)::(portsA p s)::(talksA p.tm s.talks)::bq dZ ed p.mm s.mine::(dbA p.dg s.db)::(bz p.wg s.w)::(cO p.lg s.lists)::(dL p.ag s.later)::(outA v s.out)::[]) ((cA W W.heap.size)::[]) w15:=hSo
 clear hSo
 refine rgL [] hk ?_
 iterate 3 refine T ?_
 refine rD (.agg (p.pts.map ptO).toArray) (fun _ h_=>rk (eu (n:=4) rfl (h_.x hk) (by kernel_rfl) (by rw [List.length_map];exact hF.1) (Ag (hS15.blk (i:=0) rfl) hF.1))) ?_
 refine T ?_
 refine rE [8,9,72,73] hk ?_
 clear hk
 intro a30 hk
 replace hS15:=hS15.fr 8
 replace hS15:=hS15.fr 8
 replace hS15:=hS15.fr 8
 replace hS15:=hS15.fr 8
 replace hS15:=hS15.fr 8
 replace hS15:=hS15.fr 8
 replace hS15:=hS15.fr 8
 replace hS15:=hS15.fr 8
 replace hS15:=hS15.fr 8
 have hSc:=ak hF hS15
 clear hS15
 have hz4:=hF.1
 have hnw:=(qo hc0_1).1
 refine wp_block ?_
 refine wp_loop (fun a_ w_=>∃ k_:Nat,(k_ ≤ 4)∧Fr a_ 83 [(8,.pointer none),(9,pt p.g 0),(72,.agg (p.pts.map ptO).toArray),(73,i6 k_)]∧S (kap W) (roA p (upsF k_ s)::[]) ((cA W W.heap.size)::[]) w_) (fun a_ _=>4 - (intOf (sl a_ 73)).toNat) ?_ ?_
 ·exact ⟨0,Nat.zero_le _,hk.to,hSc⟩
 clear hk hSc
 rintro a31 w31 ⟨k_,hc2_0,hk,hS31⟩
 have hmu2:=hk.g (s:=73)
 refine sg [] hk ?_
 refine T ?_
 refine rE [8,9,72,73,74] hk ?_
 clear hk
 intro a32 hk
 refine wp_seq ?_
 refine cD hk (fun hc74=>?_) (fun hc74=>?_)
 ·refine wp_skip ?_
  refine wp_seq ?_
  refine wp_block ?_
  refine sg [] hk ?_
  have hFk:=zd hS31
  obtain ⟨o2,ho2⟩:∃ o,p.pts[k_]? = some o:=⟨_,List.getElem?_eq_getElem (by omega)⟩
  refine rD (ptO o2) (fun _ h_=>rk (et (n:=4) (e:=81) rfl (h_.x hk) (h_.x hk) (by kernel_rfl) (by kernel_rfl) (by kernel_rfl) (by omega) (show (p.pts.map ptO).toArray[((k_:Int)).toNat]? = some (ptO o2) by rw [Int.toNat_natCast,List.getElem?_toArray,List.getElem?_map,ho2];rfl))) ?_
  refine T ?_
  refine rE [8,9,13,72,73,75] hk ?_
  clear hk
  intro a33 hk
  refine sg [] hk ?_
  refine T ?_
  refine rD (.bool o2.isSome) (fun _ h_=>rk (aq rfl (h_.x hk) rfl (fun _=>by cases o2 <;> kernel_rfl) (fun _=>by cases o2 <;> rfl))) ?_
  refine rE [8,9,13,72,73,75,76,77] hk ?_
  clear hk
  intro a34 hk
  refine cB hk (fun hc77=>?_) (fun hc77=>?_)
  ·obtain ⟨ap,rfl⟩:=Option.isSome_iff_exists.1 hc77
   replace hk:Fr a34 83 [(8,.pointer none),(9,pt p.g 0),(13,pt ap 0),(72,.agg (p.pts.map ptO).toArray),(73,i6 k_)]:=hk.to
   obtain ⟨x,hx⟩:=oz hFk ho2
   refine rgL [2] hk ?_
   iterate 2 refine T ?_
   have hSp:=hS31
   clear hS31
   refine eC hk (h:=Al p (upsF k_ s) k_ ap x _ ho2 hx (by rw [(uM k_ s).1,hnw];show (0:Int) ≤ 0∧(0:Int) ≤ 1000000000000;omega) hSp) (k:=?_)
   rintro e_ w36 ⟨rfl,hS36⟩
   refine ⟨_,rfl,?_⟩
   clear hSp
   replace hS36:=hS36.nz 1
   rw [← ym hx] at hS36
   refine rE [8,9,13,72,73,78,79] hk ?_
   clear hk
   intro a35 hk
   refine rgL [] hk ?_
   refine rD (i6 (k_ + 1)) (fun _ h_=>rk (aD rfl (h_.x hk) rfl (by omega) rfl)) ?_
   refine T ?_
   refine rE [8,9,13,72,73,78,79,81] hk ?_
   clear hk
   intro a37 hk
   refine ⟨⟨k_ + 1,by omega,hk.to,hS36⟩,?_⟩
   show 4 - (intOf (sl a37 73)).toNat < 4 - (intOf (sl a31 73)).toNat
   rw [show sl a37 73 = _ from hk.g,show sl a31 73 = _ from hmu2]
   simp only [intOf]
   omega
  refine wp_skip ?_
  refine rgL [] hk ?_
  refine rD (i6 (k_ + 1)) (fun _ h_=>rk (aD rfl (h_.x hk) rfl (by omega) rfl)) ?_
  refine T ?_
  refine rE [8,9,13,72,73,75,76,81] hk ?_
  clear hk
  intro a38 hk
  rw [← zf hFk ho2 hc77] at hS31
  refine ⟨⟨k_ + 1,by omega,hk.to,hS31⟩,?_⟩
  show 4 - (intOf (sl a38 73)).toNat < 4 - (intOf (sl a31 73)).toNat
  rw [show sl a38 73 = _ from hk.g,show sl a31 73 = _ from hmu2]
  simp only [intOf]
  omega
 refine wp_exit ?_
 refine sg [] hk ?_
 iterate 2 refine T ?_
 refine rE [8] hk ?_
 clear hk
 intro a39 hk
 refine wp_ret ?_
 refine rt1 hk (hR_ _ _ ?_)
 obtain rfl:k_ = 4:=by omega
 exact .inr ⟨upsF 4 s,p,by unfold newF;rw [if_neg (by omega),hc0_1];rfl,rfl,hS31⟩
end Old
section
theorem u9 {w w':World} {p:Addr} (h:w'.heap[p.block]? = w.heap[p.block]?):w'.cell? p = w.cell? p:=by
  unfold World.cell?;rw [h]
def rdA (A:Option Addr) (c size n:Nat) (xs:List Value):Atom where
  holds w fp:=(xs.length = n * size∧n ≤ c∧c ≤ 9223372036854775807)∧((n = 0∧fp = []) ∨ ∃ b off,A = some ⟨b,off,none⟩∧fp = [b]∧b < w.heap.size∧∀ j u,xs[j]? = some u → w.cell? ⟨b,off + j,none⟩ = some u)
  loc:=fun {w w' fp} h hb=>by
    obtain ⟨h1,h2⟩:=h
    refine ⟨h1,?_⟩
    rcases h2 with h2 | ⟨b,off,e,hf,hlt,hc⟩
    · exact .inl h2
    · have hbb:=hb b (by rw [hf];simp)
      refine .inr ⟨b,off,e,hf,?_,fun j u hu=>?_⟩
      · rw [Array.getElem?_eq_getElem hlt] at hbb
        exact (Array.getElem?_eq_some_iff.1 hbb).1
      · rw [u9 hbb];exact hc j u hu
  dom:=fun {w fp} h b hb=>by
    obtain ⟨h1,h2⟩:=h
    rcases h2 with ⟨_,hf⟩ | ⟨b',off,e,hf,hlt,hc⟩
    · rw [hf] at hb;cases hb
    · rw [hf] at hb;rw [List.mem_singleton.1 hb];exact hlt
section
variable {κ:Kap} {L I:List Atom} {w:World} {A:Option Addr} {c size n i:Nat} {xs:List Value}
theorem nF (h:S κ L I w) (hi:I[i]? = some (rdA A c size n xs)):(xs.length = n * size∧n ≤ c∧c ≤ 9223372036854775807)∧Reads w w.heap.size size A n xs:=by
  obtain ⟨hk,fp,hs,hI⟩:=h
  obtain ⟨f,⟨h1,h2⟩,_⟩:=hI _ (List.mem_of_getElem? hi)
  refine ⟨h1,h1.1,fun hpos=>?_⟩
  rcases h2 with ⟨h0,_⟩ | ⟨b,off,e,_,hlt,hc⟩
  · omega
  · exact ⟨b,off,e,hlt,hc⟩
theorem S.rdR (h:S κ L I w) (hi:I[i]? = some (rdA A c size n xs)):Reads w w.heap.size size A n xs:=(nF h hi).2
theorem S.rdLen (h:S κ L I w) (hi:I[i]? = some (rdA A c size n xs)):n ≤ 9223372036854775807:=Nat.le_trans (nF h hi).1.2.1 (nF h hi).1.2.2
theorem S.addRd (h:S κ [] I w) (h1:n ≤ c) (h2:c ≤ 9223372036854775807) (hr:Reads w w.heap.size size A n xs):S κ [] (rdA A c size n xs::I) w:=by
  obtain ⟨hk,fp,hs,hI⟩:=h
  obtain rfl:fp = []:=hs
  refine ⟨hk,[],rfl,fun i hi=>?_⟩
  rcases List.mem_cons.1 hi with rfl | hi
  · obtain ⟨hl,hc⟩:=hr
    rcases Nat.eq_zero_or_pos n with h0 | h0
    · exact ⟨[],⟨⟨hl,h1,h2⟩,.inl ⟨h0,rfl⟩⟩,fun b hb=>by cases hb⟩
    · obtain ⟨b,off,e,hlt,hcc⟩:=hc h0
      exact ⟨[b],⟨⟨hl,h1,h2⟩,.inr ⟨b,off,e,rfl,hlt,hcc⟩⟩,fun b hb h=>by cases h⟩
  · exact hI i hi
end
end
section
theorem S.join {κ:Kap} {L I M:List Atom} {w w':World} (h1:S κ L I w) (h2:S (kap w) M [cA w w.heap.size] w'):S κ (M ++ L) I w':=by
  obtain ⟨hk1,fp1,s1,i1⟩:=h1
  obtain ⟨hk2,fp2,s2,i2⟩:=h2
  obtain ⟨f,⟨hf,hsz,hb⟩,hdis⟩:=i2 (cA w w.heap.size) (by simp)
  have hfar:∀ b ∈ fp2,w.heap.size ≤ b:=fun b hb2=>by
    rcases Nat.lt_or_ge b w.heap.size with h | h
    · exact absurd hb2 (hdis b (by rw [hf];exact List.mem_range.2 h))
    · exact h
  refine ⟨hk2.trans hk1,fp2 ++ fp1,Sep.app.2 ⟨fp2,fp1,rfl,fun b h3 h4=>?_,s2,s1.loc (fun b hb'=>hb b (s1.dom b hb'))⟩,fun i hi=>?_⟩
  · have h5:=hfar b h3
    have h6:=s1.dom b h4
    omega
  · obtain ⟨g,h3,h4⟩:=i1 i hi
    refine ⟨g,i.loc h3 (fun b hm=>hb b (i.dom h3 b hm)),fun b hb2 hc=>?_⟩
    rcases List.mem_append.1 hc with h | h
    · have h5:=hfar b h
      have h6:=i.dom h3 b hb2
      omega
    · exact h4 b hb2 h
def tb {α β:Type} (F:β → α → Atom):Option β → Option α → Atom
  | some P,some x=>F P x
  | none,none=>bi []
  | _,_=>fK False (bi [])
def ptR:Option RoP → Value
  | none=>.pointer none
  | some P=>pt P.g 0
section
variable {κ:Kap} {L I:List Atom} {w:World}
theorem nl {α β:Type} {F:β → α → Atom} {o:Option β} {s:Option α} (h:S κ (tb F o s::L) I w):(o = none∧s = none∧S κ L I w) ∨ ∃ P x,o = some P∧s = some x∧S κ (F P x::L) I w:=by
  cases o with
  | none=>
    cases s with
    | none=>exact .inl ⟨rfl,rfl,S.sep_open (l:=[]) h⟩
    | some x=>exact absurd h.pure_open.1 id
  | some P=>
    cases s with
    | none=>exact absurd h.pure_open.1 id
    | some x=>exact .inr ⟨P,x,rfl,rfl,h⟩
theorem vB {α β:Type} {F:β → α → Atom} {o:Option β} {s:Option α} {x:α} (hs:s = some x) (h:S κ (tb F o s::L) I w):∃ P,o = some P∧S κ (F P x::L) I w:=by
  rcases nl h with ⟨_,b,_⟩ | ⟨P,y,a,b,h5⟩
  · rw [hs] at b;cases b
  · rw [hs] at b;cases b;exact ⟨P,a,h5⟩
theorem vA {α β:Type} {F:β → α → Atom} (h:S κ L I w):S κ (tb F (none:Option β) (none:Option α)::L) I w:=S.sep_close (l:=[]) h
theorem rc {α β γ δ:Type} [DecidableEq α] [DecidableEq γ] {ek:α → Value} {ev:β → Value} (ek':γ → Value) (ev':δ → Value) {m:Nat} (h:S κ (bq ek ev m ([]:List (α × β))::L) I w):S κ (bq ek' ev' m ([]:List (γ × δ))::L) I w:=
  h.imp fun w f ⟨h1,es,c,h2,h3⟩=>⟨h1,es,c,h2,⟨h3.ents,List.nodup_nil,h3.rise,h3.late⟩⟩
end
def conv (x:Old.PoS):PoS:=⟨⟨x.lan,x.prio,x.cost⟩,x.i,x.p⟩
def jq (x:PtV):Old.PtV:=⟨x.lan,x.prio,x.cost⟩
def wJ (s:Old.RoS):RoS:=⟨s.id,s.now,s.number,s.ports.map (Option.map conv),[],[],s.db,s.w,s.lists,s.later,[]⟩
def gc (id boot room:Int) (l:List PtV):Option RoS:=(Old.newF id boot room (l.map jq)).map wJ
theorem nA:∀ (qs:List (Option Nat)) (l:List (Option Old.PoS)),qs.map Option.isSome = l.map Option.isSome → (Old.zipO qs l).map Old.portO = List.zipWith (kl di) qs (l.map (Option.map conv))
  | [],[],_=>rfl
  | a::qs,x::l,h=>by
    simp only [List.map_cons,List.cons.injEq] at h
    have ih:=nA qs l h.2
    cases a with
    | none=>cases x with
      | none=>simp only [Old.zipO,List.map_cons,List.zipWith_cons_cons,ih];rfl
      | some x=>cases h.1
    | some a=>cases x with
      | none=>cases h.1
      | some x=>simp only [Old.zipO,List.map_cons,List.zipWith_cons_cons,ih];rfl
  | [],x::l,h=>by simp at h
  | a::qs,[],h=>by simp at h
theorem yG {α:Type}:∀ {l:List α},l.length = 4 → ∃ a b c d,l = [a,b,c,d]
  | [a,b,c,d],_=>⟨a,b,c,d,rfl⟩
theorem oD:∀ (k:Nat) (s:Old.RoS),s.talks = []∧s.mine = []∧s.out = [] → (Old.upsF k s).talks = []∧(Old.upsF k s).mine = []∧(Old.upsF k s).out = []
  | 0,s,h=>h
  | k + 1,s,h=>by
    have ih:=oD k s h
    unfold Old.upsF
    split
    · exact ih
    · exact ih
theorem mY (id:Int):∀ (l:List Old.PtV) (s t:Old.RoS),s.talks = []∧s.mine = []∧s.out = [] → Old.addsF id l s = some t → t.talks = []∧t.mine = []∧t.out = []
  | [],s,t,h,e=>by cases e;exact h
  | x::l,s,t,h,e=>by
    unfold Old.addsF at e
    split at e
    · exact mY id l (Old.addP id s x) t h e
    · cases e
theorem vk {id boot room:Int} {l:List Old.PtV} {s:Old.RoS} (h:Old.newF id boot room l = some s):s.talks = []∧s.mine = []∧s.out = []:=by
  unfold Old.newF at h
  split at h
  · cases h
  · cases e:Old.addsF id l (Old.ro0 id boot room) with
    | none=>rw [e] at h;cases h
    | some t=>
      rw [e] at h
      simp only [Option.map_some,Option.some.injEq] at h
      rw [← h]
      exact oD 4 t (mY id l _ t ⟨rfl,rfl,rfl⟩ e)
theorem zb {κ:Kap} {L I:List Atom} {w:World} {p:Old.RoP} {s:Old.RoS} (hf:s.talks = []∧s.mine = []∧s.out = []) (h:S κ (Old.roA p s::L) I w):∃ P:RoP,P.g = p.g∧S κ (roA P (wJ s)::L) I w:=by
  obtain ⟨v,hF,h⟩:=Old.ro_open h
  obtain ⟨h4,hs4,hsame⟩:=id hF
  obtain ⟨q0,q1,q2,q3,hq⟩:=yG h4
  refine ⟨⟨p.g,q0,q1,q2,q3,p.tm,p.mm,p.dg,p.wg,p.lg,p.ag⟩,rfl,?_⟩
  obtain ⟨f1,f2,f3⟩:=hf
  refine ak (e:=⟨v.A,v.c⟩) (by show (s.ports.map (Option.map conv)).length = 4;rw [List.length_map];exact hs4) ?_
  have e1:Old.roCells p s v = #[i6 s.id,i6 s.now,i6 s.number,ptO q0,ptO q1,ptO q2,ptO q3,.map (some p.tm),.map (some p.mm),pt p.dg 0,pt p.wg 0,pt p.lg 0,pt p.ag 0,.slice v.A s.out.length v.c]:=by
    have:∀ o:Option Nat,Old.ptO o = ptO o:=fun o=>by cases o <;> rfl
    unfold Old.roCells;rw [hq];simp only [List.map_cons,List.map_nil,this];rfl
  have e2:Old.portsA p s = jY di [q0,q1,q2,q3] (s.ports.map (Option.map conv)):=by
    unfold Old.portsA jY
    rw [nA p.pts s.ports hsame,hq]
  rw [e1,e2,f2,f3] at h
  rw [f1] at h
  -- what they are about: nothing
  have h:=h.fr 2
  unfold Old.talksA at h
  obtain ⟨q,h⟩:=h.ex_open
  obtain ⟨hq0,h⟩:=h.pure_open
  obtain rfl:q = []:=by cases q with
    | nil=>rfl
    | cons a q=>cases hq0
  have h:=S.sep_open (l:=[_]) h
  have h:=kj (F:=taMF) (rc taMF.ek taMF.ev h)
  have h:=h.fr 3
  have h:=rc dZ ed h
  have h:=h.fr 8
  unfold Old.outA at h
  obtain ⟨q,h⟩:=h.ex_open
  obtain ⟨hq1,h⟩:=h.pure_open
  obtain rfl:q = []:=by cases q with
    | nil=>rfl
    | cons a q=>cases hq1
  have h:=S.sep_open (l:=[_]) h
  have h:S κ (crA bW 58 v.A v.c []::_) I w:=S.ex_close (f:=crQ bW 58 v.A v.c []) [] (S.pure_close rfl (S.sep_close (l:=[_]) h))
  exact h.pk [3,3,2,1,1,1,1,1,0] 0
theorem xO (l:List PtV):ab PtV.cells l = ab Old.PtV.cells (l.map jq):=by
  unfold ab
  rw [List.flatMap_map]
  rfl
theorem xK {κ:Kap} {L I:List Atom} (id boot room:Int) (l:List PtV) (lA:Option Addr) (lc:Nat) (W:World) (hn:l.length ≤ 9223372036854775807) (hR:Reads W W.heap.size 3 lA l.length (ab PtV.cells l)) (hS:S κ L I W):
    Calls Tryz.prog 25 #[i6 id,i6 boot,i6 room,.slice lA l.length lc] W (fun r w'=>∃ o0:Option RoP,r = .returned (ptR o0)∧S κ (tb roA o0 (gc id boot room l)::L) I w'):=by
  have hR:Reads W W.heap.size 3 lA l.length (ab Old.PtV.cells (l.map jq)):=by rw [← xO];exact hR
  refine (Old.roNew_any id boot room lA l.length lc (l.map jq) W hn hR).mono ?_
  rintro r w' (⟨h1,h2,h3⟩ | ⟨s,p,h1,h2,h3⟩)
  · refine ⟨none,h2,?_⟩
    unfold gc;rw [h1]
    exact vA (hS.below h3)
  · obtain ⟨P,hP,h4⟩:=zb (vk h1) h3
    refine ⟨some P,by rw [h2];show _ = Ending.returned (pt P.g 0);rw [hP],?_⟩
    unfold gc;rw [h1]
    exact S.join (M:=[roA P (wJ s)]) hS h4
theorem Af {κ:Kap} {L I:List Atom} (id boot room:Int) (l:List PtV) (lA:Option Addr) (lc:Nat) (W:World) (hn:l.length ≤ 100000) (hS:S κ L (aa (.slice lA l.length lc) 26 3 l.length (ab PtV.cells l)::I) W):
    Calls Tryz.prog 25 #[i6 id,i6 boot,i6 room,.slice lA l.length lc] W (fun r w'=>∃ o0:Option RoP,r = .returned (ptR o0)∧S κ (tb roA o0 (gc id boot room l)::L) (aa (.slice lA l.length lc) 26 3 l.length (ab PtV.cells l)::I) w'):=
  xK id boot room l lA lc W (by omega) (hS.rdI (i:=0) rfl) hS
theorem Ae {κ:Kap} {L I:List Atom} (id boot room:Int) (l:List PtV) (lA:Option Addr) (lc:Nat) (W:World) (hS:S κ L (rdA lA lc 3 l.length (ab PtV.cells l)::I) W):
    Calls Tryz.prog 25 #[i6 id,i6 boot,i6 room,.slice lA l.length lc] W (fun r w'=>∃ o0:Option RoP,r = .returned (ptR o0)∧S κ (tb roA o0 (gc id boot room l)::L) (rdA lA lc 3 l.length (ab PtV.cells l)::I) w'):=
  xK id boot room l lA lc W (hS.rdLen (i:=0) rfl) (hS.rdR (i:=0) rfl) hS
end
end Go.Proofs.YtehpdklphhmbgaaGreatDoor
