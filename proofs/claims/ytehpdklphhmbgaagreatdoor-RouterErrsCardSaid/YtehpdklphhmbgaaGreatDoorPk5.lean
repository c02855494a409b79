/-
  Part 5 of what lies behind the statement: the model of the program in words of its own, and its walks. No conditions of its own.
-/
import Derived.Test.YtehpdklphhmbgaaGreatDoorPk4
namespace Go.Proofs.YtehpdklphhmbgaaGreatDoor
open Go.RowKit
set_option linter.unusedVariables false
set_option linter.unusedSimpArgs false
section
def rxmtNewF:((List (EnV × Int))):=[]
set_option maxRecDepth 100000 in
set_option maxHeartbeats 8000000 in
theorem rxmtNew_any {κ:Kap} {L I:List Atom}  (W:World) (hS:S κ (L) (I) W):
    Calls Tryz.prog 83 #[] W (fun r w'=>∃ G0:Nat,r = .returned (pt G0 0)∧S κ ((rxmtA G0 rxmtNewF)::L) (I) w'):=by
 generalize ht:rxmtNewF = t_
 refine wK 4 Tryz.func83 (fun R_ hR_ a hk=>?_)
 refine wp_seq ?_
 refine rgL [] hk ?_
 refine T ?_
 refine rE [] hk fun a hk=>?_
 refine wp_seq ?_
 refine rgL [0,2] hk ?_
 refine eF (fun a_ h_=>st_makeMap (α:=EnV) (β:=Int) enE intE hS (on_none rfl) rfl fun g2 w hS _=>⟨_,rfl,?_⟩)
 refine rD (.agg #[.map (some g2)]) (fun _ h_=>rk (run_build rfl (h_.prt hk) (by kernel_rfl))) ?_
 refine eB hk hS (fun g3 w hS _=>?_)
 refine T ?_
 refine rE [0] hk fun a hk=>?_
 refine wp_ret ?_
 replace hS:=rxmt_close hS
 subst ht
 exact rt1 hk (hR_ _ _ ⟨_,rfl,hS⟩)
theorem putL_len {α β:Type} [DecidableEq α] (x:α) (u:β):∀ l:List (α × β),(putL x u l).length ≤ l.length + 1
  | []=>Nat.le_refl _
  | (k,v)::l=>by
    unfold putL
    split
    · simp
    · have:=putL_len x u l;simp only [List.length_cons];omega
end
section
set_option maxRecDepth 100000
set_option maxHeartbeats 8000000
def roSendF (lan:Int) (dst:Int) (p:PkV) (s:RoS):Option (RoS):=optB (pkPutF (⟨p.kind,s.id,p.every,p.dead,p.prio,p.dr,p.bdr,p.seen,p.init,p.more,p.master,p.seq,p.heads,p.wants,p.lsas,p.acks⟩:PkV)) fun q4=>if (q4.2:Int) = 0 then if s.out.length + 1 ≤ 100000 then some ({ s with out:=s.out ++ [(⟨lan,s.id,dst,q4.1⟩:FrV)] }) else none else some s
theorem roSend_any {κ:Kap} {L I:List Atom} (P:RoP) (lan:Int) (dst:Int) (p:PkV) (pp:SlP × SlP × SlP × SlP × SlP) (s:RoS) (W:World) {r_:RoS} (ht:(roSendF lan dst p s) = some r_) (hS:S κ (roA P s::L) (rowA (.slice pp.1.A p.seen.length pp.1.c) 3 1 p.seen.length (ints p.seen)::rowA (.slice pp.2.1.A p.heads.length pp.2.1.c) 63 7 p.heads.length (rowC headC p.heads)::rowA (.slice pp.2.2.1.A p.wants.length pp.2.2.1.c) 111 3 p.wants.length (rowC KeyV.cells p.wants)::crA lsFn 66 pp.2.2.2.1.A pp.2.2.2.1.c p.lsas::rowA (.slice pp.2.2.2.2.A p.acks.length pp.2.2.2.2.c) 63 7 p.acks.length (rowC headC p.acks)::I) W):
    Calls Tryz.prog 38 #[pt P.g 0,i6 lan,i6 dst,.agg #[i6 p.kind,i6 p.frm,i6 p.every,i6 p.dead,i6 p.prio,i6 p.dr,i6 p.bdr,.slice pp.1.A p.seen.length pp.1.c,.bool p.init,.bool p.more,.bool p.master,i6 p.seq,.slice pp.2.1.A p.heads.length pp.2.1.c,.slice pp.2.2.1.A p.wants.length pp.2.2.1.c,.slice pp.2.2.2.1.A p.lsas.length pp.2.2.2.1.c,.slice pp.2.2.2.2.A p.acks.length pp.2.2.2.2.c]] W (fun r w'=>r = .returned (.tuple #[])∧S κ (roA P r_::L) (rowA (.slice pp.1.A p.seen.length pp.1.c) 3 1 p.seen.length (ints p.seen)::rowA (.slice pp.2.1.A p.heads.length pp.2.1.c) 63 7 p.heads.length (rowC headC p.heads)::rowA (.slice pp.2.2.1.A p.wants.length pp.2.2.1.c) 111 3 p.wants.length (rowC KeyV.cells p.wants)::crA lsFn 66 pp.2.2.2.1.A pp.2.2.2.1.c p.lsas::rowA (.slice pp.2.2.2.2.A p.acks.length pp.2.2.2.2.c) 63 7 p.acks.length (rowC headC p.acks)::I) w'):=by
 refine wK 39 Tryz.func38 (fun R_ hR_ a hk=>?_)
 refine wp_seq ?_
 refine rgL [0] hk ?_
 refine eB hk hS (fun g2 w hS _=>?_)
 refine rE [0,1,2,7] hk fun a hk=>?_
 refine wp_seq ?_
 refine rgL [5] hk ?_
 iterate 3 refine T ?_
 replace hS:=hS.fr 1
 obtain ⟨e3,hpl3,hS⟩:=ro_open hS
 refine LD 0 hk hS ?_
 refine T ?_
 refine eS 9 hk hS (fun w hS _=>?_)
 refine rE [0,1,2,7] hk fun a hk=>?_
 refine wp_seq ?_
 refine rgL [1] hk ?_
 refine LDS 9 16 hk hS ?_
 obtain ⟨q4,hq4,ht⟩:=optB_s ht
 refine eC hk (h:=pkPut_any (⟨p.kind,s.id,p.every,p.dead,p.prio,p.dr,p.bdr,p.seen,p.init,p.more,p.master,p.seq,p.heads,p.wants,p.lsas,p.acks⟩:PkV) pp _ hq4 hS) (k:=?_)
 rintro _ w ⟨B04,d04,rfl,hS⟩
 refine ⟨_,rfl,?_⟩
 replace hS:=hS.nz 11
 iterate 5 refine T ?_
 refine rE [0,1,2,8,9] hk fun a hk=>?_
 refine wp_seq ?_
 refine rgL [] hk ?_
 iterate 2 refine T ?_
 refine rE [0,1,2,8,21] hk fun a hk=>?_
 refine cD hk (fun hc21=>?_) (fun hc21=>?_)
 ·replace ht:=(if_pos hc21).symm.trans ht
  refine rgR [[],[],[1],[1,2],[1,2,3],[],[],[6],[6,7],[6,7,8],[],[],[5,6,7,8,9,10,11],[5,6,7,8,9,10,11,12],[1,2,3,4,5,6,7,8,9,10,11,12,13],[0,1,2,3,4,5,6,7,8,9,10,11,12,13,14],[0,1,2,3,4,5,6,7,8,9,10,11,12,13,14,15],[0,1,2,3,4,5,6,7,8,9,10,11,12,13,14,15,16]] [13,14,17] (.rd 0 (.rd 1 (.rd 2 (.rd 3 (.rd 4 (.rd 5 (.rd 6 (.rd 7 (.rd 8 (.rd 9 (.rd 10 (.rd 11 (.rd 12 (.ef 13 (.ag 0 (.ag 1 (.ag 2 (.ag 3 (.ag 4 (.ef 14 (.ag 0 (.rd 15 (.rd 16 (.ef 17 (.fin) .non)))) .non)))))) .non)))))))))))))) hk hS (fun w hS _=>?_)
  iterate 4 refine T ?_
  refine LD 1 hk hS ?_
  iterate 4 refine T ?_
  refine LD 1 hk hS ?_
  iterate 2 refine T ?_
  refine rD (.agg #[i6 lan,i6 s.id,i6 dst,.slice B04 q4.1.length d04]) (fun _ h_=>rk (run_build rfl (h_.prt hk) (by kernel_rfl))) ?_
  refine eF (fun a_ h_=>st_lit (e:=58) (cells:=#[i6 lan,i6 s.id,i6 dst,.slice B04 q4.1.length d04]) hS (on_none rfl) rfl (h_.prtL hk) fun g5 w hS _=>⟨_,rfl,?_⟩)
  iterate 4 refine TA ?_
  refine aG (fun _ h_=>rk (ld hS 2 rfl (h_.x hk))) ?_
  obtain ⟨hgd7,ht⟩:=gdE ht
  replace hS:=hS.pk [10,1] 0
  refine eF (fun a_ h_=>capL (bytes:=48) frFn (⟨lan,s.id,dst,q4.1⟩:FrV) (⟨B04,d04⟩:SlP) hS (on_none rfl) rfl (h_.x hk) (h_.x hk) (reads_blk (hS.blk (i:=2) rfl) rfl) (by (try simp only [List.length_append,List.length_cons,List.length_nil,List.length_take,List.length_drop]);omega) fun A8 c8 w hS=>⟨_,rfl,?_⟩)
  replace hS:S κ (crA frFn 58 A8 c8 (s.out ++ [(⟨lan,s.id,dst,q4.1⟩:FrV)])::blkA g5 58 #[i6 lan,i6 s.id,i6 dst,.slice B04 q4.1.length d04]::blkA P.g 102 #[i6 s.id,i6 s.now,i6 s.number,ptO P.p0,ptO P.p1,ptO P.p2,ptO P.p3,.map (some P.tm),.map (some P.mm),pt P.dg 0,pt P.wg 0,pt P.lg 0,pt P.ag 0,.slice e3.A s.out.length e3.c]::(arrA portA P.pts s.ports)::(mobA taMF P.tm s.talks)::mapA keyE toldE P.mm s.mine::(dbA P.dg s.db)::(wheelA P.wg s.w)::(rxmtA P.lg s.lists)::(acksA P.ag s.later)::blkA g2 56 #[i6 p.kind,i6 s.id,i6 p.every,i6 p.dead,i6 p.prio,i6 p.dr,i6 p.bdr,.slice pp.1.A p.seen.length pp.1.c,.bool p.init,.bool p.more,.bool p.master,i6 p.seq,.slice pp.2.1.A p.heads.length pp.2.1.c,.slice pp.2.2.1.A p.wants.length pp.2.2.1.c,.slice pp.2.2.2.1.A p.lsas.length pp.2.2.2.1.c,.slice pp.2.2.2.2.A p.acks.length pp.2.2.2.2.c]::L) (rowA (.slice pp.1.A p.seen.length pp.1.c) 3 1 p.seen.length (ints p.seen)::rowA (.slice pp.2.1.A p.heads.length pp.2.1.c) 63 7 p.heads.length (rowC headC p.heads)::rowA (.slice pp.2.2.1.A p.wants.length pp.2.2.1.c) 111 3 p.wants.length (rowC KeyV.cells p.wants)::crA lsFn 66 pp.2.2.2.1.A pp.2.2.2.1.c p.lsas::rowA (.slice pp.2.2.2.2.A p.acks.length pp.2.2.2.2.c) 63 7 p.acks.length (rowC headC p.acks)::I) w:=hS
  refine TA ?_
  iterate 2 refine T ?_
  refine eS 2 hk hS (fun w hS _=>?_)
  refine rE [] hk fun a hk=>?_
  replace hS:=hS.pk [2,2,2,2,2,2,2,2,0] 0
  replace hS:=ro_close (x:={ s with out:=s.out ++ [(⟨lan,s.id,dst,q4.1⟩:FrV)] }) (e:=⟨A8,c8⟩) hpl3 hS
  replace hS:=hS.pk [0] 2
  obtain rfl:=Option.some.inj ht
  exact rt0 hk (hR_ _ _ ⟨rfl,hS⟩)
 replace ht:=(if_neg hc21).symm.trans ht
 refine wp_skip ?_
 replace hS:=hS.pk [1,1,1,1,1,1,1,1,1] 0
 replace hS:=ro_close (x:=s) (e:=⟨e3.A,e3.c⟩) hpl3 hS
 replace hS:=hS.pk [0] 2
 obtain rfl:=Option.some.inj ht
 exact rt0 hk (hR_ _ _ ⟨rfl,hS⟩)
def roOutF (s:RoS):Option ((List FrV) × RoS):=some (s.out,{ s with out:=[] })
theorem roOut_any {κ:Kap} {L I:List Atom} (P:RoP) (s:RoS) (W:World) {r_:(List FrV) × RoS} (ht:(roOutF s) = some r_) (hS:S κ (roA P s::L) (I) W):
    Calls Tryz.prog 18 #[pt P.g 0] W (fun r w'=>∃ B0 d0,r = .returned (.slice B0 r_.1.length d0)∧S κ (crA frFn 58 B0 d0 r_.1::roA P r_.2::L) (I) w'):=by
 refine wK 14 Tryz.func18 (fun R_ hR_ a hk=>?_)
 refine wp_seq ?_
 refine rgL [] hk ?_
 refine T ?_
 refine rE [0] hk fun a hk=>?_
 refine wp_seq ?_
 refine wp_seq ?_
 refine rgL [] hk ?_
 refine T ?_
 refine rD (.bool false) (fun _ h_=>rk (run_bin2 rfl (h_.x hk) rfl (fun _=>by kernel_rfl) (fun _=>rfl))) ?_
 refine rE [0,5] hk fun a hk=>?_
 refine cF hk ?_
 refine wp_skip ?_
 refine wp_seq ?_
 refine rgL [] hk ?_
 iterate 3 refine T ?_
 obtain ⟨e2,hpl2,hS⟩:=ro_open hS
 refine LD 0 hk hS ?_
 refine T ?_
 refine rE [0,3] hk fun a hk=>?_
 refine wp_seq ?_
 refine rgL [3] hk ?_
 iterate 3 refine T ?_
 refine eS 0 hk hS (fun w hS _=>?_)
 refine rE [3] hk fun a hk=>?_
 refine wp_seq ?_
 refine rgL [] hk ?_
 iterate 2 refine T ?_
 refine rE [2] hk fun a hk=>?_
 refine wp_ret ?_
 replace hS:=hS.crNil frFn 58
 replace hS:S κ (crA frFn 58 none 0 []::blkA P.g 102 #[i6 s.id,i6 s.now,i6 s.number,ptO P.p0,ptO P.p1,ptO P.p2,ptO P.p3,.map (some P.tm),.map (some P.mm),pt P.dg 0,pt P.wg 0,pt P.lg 0,pt P.ag 0,.slice none 0 0]::(arrA portA P.pts s.ports)::(mobA taMF P.tm s.talks)::mapA keyE toldE P.mm s.mine::(dbA P.dg s.db)::(wheelA P.wg s.w)::(rxmtA P.lg s.lists)::(acksA P.ag s.later)::crA frFn 58 e2.A e2.c s.out::L) (I) w:=hS
 replace hS:=hS.pk [1,1,1,1,1,1,1,1,0] 0
 replace hS:=ro_close (x:={ s with out:=[] }) (e:=⟨none,0⟩) hpl2 hS
 replace hS:=hS.pk [1,0] 0
 obtain rfl:=Option.some.inj ht
 exact rt1 hk (hR_ _ _ ⟨_,_,rfl,hS⟩)
def roGreetF (pk:Int) (s:RoS):Option (RoS):=optB (lookP s.ports pk) fun x3=>letP (seenL x3.p) fun q7=>optB (roSendF x3.pt.lan 0 (⟨1,0,2,8,x3.pt.prio,(roAddrF x3.pt.lan x3.i.dr),(roAddrF x3.pt.lan x3.i.bdr),q7,false,false,false,0,[],[],[],[]⟩:PkV) s) fun q10=>some q10
theorem roGreet_any {κ:Kap} {L I:List Atom} (P:RoP) (pg:Nat) (pk:Int) (s:RoS) (W:World) (hq_pg:lookP P.pts pk = some pg) {r_:RoS} (ht:(roGreetF pk s) = some r_) (hS:S κ (roA P s::L) (I) W):
    Calls Tryz.prog 112 #[pt P.g 0,pt pg 0] W (fun r w'=>r = .returned (.tuple #[])∧S κ (roA P r_::L) (I) w'):=by
 refine wK 47 Tryz.func112 (fun R_ hR_ a hk=>?_)
 refine wp_seq ?_
 refine rgR [[],[0],[0,1],[0,1,2],[0,1,2,3],[],[5],[5,6],[5,6,7],[5,6,7,8],[],[10],[10,11],[10,11,12],[10,11,12,13],[5,6,7,8,9,10,11,12,13,14],[],[16],[16,17],[16,17,18],[16,17,18,19],[],[21],[21,22],[21,22,23],[21,22,23,24],[5,6,7,8,9,10,11,12,13,14,15,16,17,18,19,20,21,22,23,24,25],[],[27],[27,28],[27,28,29],[5,6,7,8,9,10,11,12,13,14,15,16,17,18,19,20,21,22,23,24,25,26,27,28,29,30],[0,1,2,3,4,5,6,7,8,9,10,11,12,13,14,15,16,17,18,19,20,21,22,23,24,25,26,27,28,29,30,31],[],[0,1,2,3,4,5,6,7,8,9,10,11,12,13,14,15,16,17,18,19,20,21,22,23,24,25,26,27,28,29,30,31,32,33]] [15,26,31,33,34] (.rd 0 (.rd 1 (.rd 2 (.rd 3 (.rd 4 (.rd 5 (.rd 6 (.rd 7 (.rd 8 (.rd 9 (.rd 10 (.rd 11 (.rd 12 (.rd 13 (.rd 14 (.rd 16 (.rd 17 (.rd 18 (.rd 19 (.rd 20 (.rd 21 (.rd 22 (.rd 23 (.rd 24 (.rd 25 (.rd 27 (.rd 28 (.rd 29 (.rd 30 (.ef 15 (.ag 0 (.ag 1 (.ag 2 (.ag 3 (.ag 4 (.ag 16 (.ag 17 (.ag 18 (.ag 19 (.ag 20 (.ag 21 (.ag 22 (.ag 23 (.ag 24 (.ag 25 (.ag 27 (.ag 28 (.ag 29 (.ag 30 (.ef 26 (.ag 0 (.ag 1 (.ag 2 (.ag 3 (.ag 4 (.ag 27 (.ag 28 (.ag 29 (.ag 30 (.ef 31 (.ag 0 (.ag 1 (.ag 2 (.ag 3 (.ag 4 (.rd 32 (.ef 33 (.ag 0 (.ag 1 (.ag 2 (.ag 3 (.ag 4 (.ag 32 (.ef 34 (.fin) .non))))))) .non))))))) (.ef 33 (.ag 0 (.ag 1 (.ag 2 (.ag 3 (.ag 4 (.ag 27 (.ag 28 (.ag 29 (.ag 30 (.ef 31 (.ag 0 (.ag 1 (.ag 2 (.ag 3 (.ag 4 (.rd 32 (.ef 34 (.fin) .non))))))) .non)))))))))) .non))))))))))) (.ef 33 (.ag 0 (.ag 1 (.ag 2 (.ag 3 (.ag 4 (.ag 16 (.ag 17 (.ag 18 (.ag 19 (.ag 20 (.ag 21 (.ag 22 (.ag 23 (.ag 24 (.ag 25 (.ag 27 (.ag 28 (.ag 29 (.ag 30 (.ef 26 (.ag 0 (.ag 1 (.ag 2 (.ag 3 (.ag 4 (.ag 27 (.ag 28 (.ag 29 (.ag 30 (.ef 31 (.ag 0 (.ag 1 (.ag 2 (.ag 3 (.ag 4 (.rd 32 (.ef 34 (.fin) .non))))))) .non)))))))))) .non)))))))))))))))))))) .non))))))))))))))))))))) (.ef 33 (.ag 0 (.ag 1 (.ag 2 (.ag 3 (.ag 4 (.ag 5 (.ag 6 (.ag 7 (.ag 8 (.ag 9 (.ag 10 (.ag 11 (.ag 12 (.ag 13 (.ag 14 (.ag 16 (.ag 17 (.ag 18 (.ag 19 (.ag 20 (.ag 21 (.ag 22 (.ag 23 (.ag 24 (.ag 25 (.ag 27 (.ag 28 (.ag 29 (.ag 30 (.ef 15 (.ag 0 (.ag 1 (.ag 2 (.ag 3 (.ag 4 (.ag 16 (.ag 17 (.ag 18 (.ag 19 (.ag 20 (.ag 21 (.ag 22 (.ag 23 (.ag 24 (.ag 25 (.ag 27 (.ag 28 (.ag 29 (.ag 30 (.ef 26 (.ag 0 (.ag 1 (.ag 2 (.ag 3 (.ag 4 (.ag 27 (.ag 28 (.ag 29 (.ag 30 (.ef 31 (.ag 0 (.ag 1 (.ag 2 (.ag 3 (.ag 4 (.rd 32 (.ef 34 (.fin) .non))))))) .non)))))))))) .non)))))))))))))))))))) .non)))))))))))))))))))))))))))))) .non))))))))))))))))))))))))))))))) hk hS (fun w hS _=>?_)
 iterate 4 refine T ?_
 obtain ⟨e2,hpl2,hS⟩:=ro_open hS
 obtain ⟨x3,hs3,ht⟩:=optB_s ht
 replace hS:=hS.fr 1
 replace hS:=arr_at' hq_pg hs3 (by rw [pts_len];first | assumption | (simpa using hpl2)) hS
 obtain ⟨e4,hS⟩:=portA_open hS
 refine LD 0 hk hS ?_
 iterate 4 refine T ?_
 refine LD 0 hk hS ?_
 iterate 4 refine T ?_
 refine LD 0 hk hS ?_
 iterate 4 refine T ?_
 refine LD 0 hk hS ?_
 iterate 4 refine T ?_
 refine LD 0 hk hS ?_
 iterate 3 refine T ?_
 refine LD 0 hk hS ?_
 refine efk ?_ ?_
 ·refine eC hk (h:=roAddr_any x3.pt.lan x3.i.dr _ hS) (k:=?_)
  rintro _ w ⟨rfl,hS⟩
  refine ⟨_,rfl,?_⟩
  replace hS:=hS.nz 11
  iterate 4 refine TA ?_
  refine aG (fun _ h_=>rk (ld hS 0 rfl (h_.x hk))) ?_
  iterate 4 refine TA ?_
  refine aG (fun _ h_=>rk (ld hS 0 rfl (h_.x hk))) ?_
  iterate 4 refine TA ?_
  refine aG (fun _ h_=>rk (ld hS 0 rfl (h_.x hk))) ?_
  iterate 3 refine TA ?_
  refine aG (fun _ h_=>rk (ld hS 0 rfl (h_.x hk))) ?_
  refine efk ?_ ?_
  ·refine eC hk (h:=roAddr_any x3.pt.lan x3.i.bdr _ hS) (k:=?_)
   rintro _ w ⟨rfl,hS⟩
   refine ⟨_,rfl,?_⟩
   replace hS:=hS.nz 11
   iterate 4 refine TA ?_
   refine aG (fun _ h_=>rk (ld hS 0 rfl (h_.x hk))) ?_
   iterate 3 refine TA ?_
   refine aG (fun _ h_=>rk (ld hS 0 rfl (h_.x hk))) ?_
   refine efk ?_ ?_
   ·replace hS:=hS.pk [1] 0
    refine eC hk (h:=peersSeenC e4 x3.p _ hS) (k:=?_)
    rintro _ w ⟨B07,d07,rfl,hS⟩
    refine ⟨_,rfl,?_⟩
    generalize hq7:seenL x3.p = q7 at hS ⊢
    replace ht:=(letP_eq hq7).symm.trans ht
    replace hS:=hS.nz 12
    iterate 4 refine TA ?_
    refine aG (fun _ h_=>rk (ld hS 2 rfl (h_.x hk))) ?_
    refine rD (.agg #[i6 2,i6 8,i6 x3.pt.prio,i6 (roAddrF x3.pt.lan x3.i.dr),i6 (roAddrF x3.pt.lan x3.i.bdr),.slice B07 q7.length d07]) (fun _ h_=>rk (run_build rfl (h_.prt hk) (by kernel_rfl))) ?_
    refine eA #[i6 0,i6 0,i6 0,i6 0,i6 0,.slice none 0 0] hS (fun g8 w hS _=>?_)
    iterate 4 refine TA ?_
    refine aG (fun _ h_=>rk (ld hS 3 rfl (h_.x hk))) ?_
    refine aG (fun _ h_=>rk (run_build rfl (h_.prt hk) (by kernel_rfl))) ?_
    refine eS 0 hk hS (fun w hS _=>?_)
    refine rE [0,1,4] hk fun a hk=>?_
    refine rgR [[],[],[1],[1,2],[1,2,3],[1,2,3,4],[],[6],[0,1,2,3,4,5,6,7]] [8] (.rd 0 (.rd 1 (.rd 2 (.rd 3 (.rd 4 (.rd 5 (.rd 6 (.rd 7 (.ef 8 (.fin) .non))))))))) hk hS (fun w hS _=>?_)
    iterate 5 refine T ?_
    refine LD 3 hk hS ?_
    refine LDS 0 6 hk hS ?_
    refine rD (.agg #[i6 1,i6 0,i6 2,i6 8,i6 x3.pt.prio,i6 (roAddrF x3.pt.lan x3.i.dr),i6 (roAddrF x3.pt.lan x3.i.bdr),.slice B07 q7.length d07,.bool false,.bool false,.bool false,i6 0,.slice none 0 0,.slice none 0 0,.slice none 0 0,.slice none 0 0]) (fun _ h_=>rk (run_build rfl (h_.prt hk) (by kernel_rfl))) ?_
    have hS:=hS.nilrow 63 7
    replace hS:S κ (rowA (.slice none 0 0) 63 7 0 (rowC headC [])::blkA g8 46 #[i6 2,i6 8,i6 x3.pt.prio,i6 (roAddrF x3.pt.lan x3.i.dr),i6 (roAddrF x3.pt.lan x3.i.bdr),.slice B07 q7.length d07]::rowA (.slice B07 q7.length d07) 3 1 q7.length (ints q7)::peersA e4 x3.p::blkA pg 85 #[i6 x3.pt.lan,i6 x3.pt.prio,i6 x3.pt.cost,i6 x3.i.self,i6 x3.i.prio,i6 x3.i.state,i6 x3.i.dr,i6 x3.i.bdr,pt e4 0]::(arrH portA P.pts s.ports ((pk).toNat))::blkA P.g 102 #[i6 s.id,i6 s.now,i6 s.number,ptO P.p0,ptO P.p1,ptO P.p2,ptO P.p3,.map (some P.tm),.map (some P.mm),pt P.dg 0,pt P.wg 0,pt P.lg 0,pt P.ag 0,.slice e2.A s.out.length e2.c]::(mobA taMF P.tm s.talks)::mapA keyE toldE P.mm s.mine::(dbA P.dg s.db)::(wheelA P.wg s.w)::(rxmtA P.lg s.lists)::(acksA P.ag s.later)::crA frFn 58 e2.A e2.c s.out::L) (I) w:=hS
    have hS:=hS.nilrow 111 3
    replace hS:S κ (rowA (.slice none 0 0) 111 3 0 (rowC KeyV.cells [])::rowA (.slice none 0 0) 63 7 0 (rowC headC [])::blkA g8 46 #[i6 2,i6 8,i6 x3.pt.prio,i6 (roAddrF x3.pt.lan x3.i.dr),i6 (roAddrF x3.pt.lan x3.i.bdr),.slice B07 q7.length d07]::rowA (.slice B07 q7.length d07) 3 1 q7.length (ints q7)::peersA e4 x3.p::blkA pg 85 #[i6 x3.pt.lan,i6 x3.pt.prio,i6 x3.pt.cost,i6 x3.i.self,i6 x3.i.prio,i6 x3.i.state,i6 x3.i.dr,i6 x3.i.bdr,pt e4 0]::(arrH portA P.pts s.ports ((pk).toNat))::blkA P.g 102 #[i6 s.id,i6 s.now,i6 s.number,ptO P.p0,ptO P.p1,ptO P.p2,ptO P.p3,.map (some P.tm),.map (some P.mm),pt P.dg 0,pt P.wg 0,pt P.lg 0,pt P.ag 0,.slice e2.A s.out.length e2.c]::(mobA taMF P.tm s.talks)::mapA keyE toldE P.mm s.mine::(dbA P.dg s.db)::(wheelA P.wg s.w)::(rxmtA P.lg s.lists)::(acksA P.ag s.later)::crA frFn 58 e2.A e2.c s.out::L) (I) w:=hS
    replace hS:=hS.crNil lsFn 66
    replace hS:S κ (crA lsFn 66 none 0 []::rowA (.slice none 0 0) 111 3 0 (rowC KeyV.cells [])::rowA (.slice none 0 0) 63 7 0 (rowC headC [])::blkA g8 46 #[i6 2,i6 8,i6 x3.pt.prio,i6 (roAddrF x3.pt.lan x3.i.dr),i6 (roAddrF x3.pt.lan x3.i.bdr),.slice B07 q7.length d07]::rowA (.slice B07 q7.length d07) 3 1 q7.length (ints q7)::peersA e4 x3.p::blkA pg 85 #[i6 x3.pt.lan,i6 x3.pt.prio,i6 x3.pt.cost,i6 x3.i.self,i6 x3.i.prio,i6 x3.i.state,i6 x3.i.dr,i6 x3.i.bdr,pt e4 0]::(arrH portA P.pts s.ports ((pk).toNat))::blkA P.g 102 #[i6 s.id,i6 s.now,i6 s.number,ptO P.p0,ptO P.p1,ptO P.p2,ptO P.p3,.map (some P.tm),.map (some P.mm),pt P.dg 0,pt P.wg 0,pt P.lg 0,pt P.ag 0,.slice e2.A s.out.length e2.c]::(mobA taMF P.tm s.talks)::mapA keyE toldE P.mm s.mine::(dbA P.dg s.db)::(wheelA P.wg s.w)::(rxmtA P.lg s.lists)::(acksA P.ag s.later)::crA frFn 58 e2.A e2.c s.out::L) (I) w:=hS
    replace hS:=hS.pk [6,5] 0
    replace hS:=portA_close (x:=x3) (e:=e4) hS
    replace hS:=hS.pk [0,5] 0
    replace hS:=arr_fill' hq_pg hs3 hS
    replace hS:=hS.pk [6,0,5,5,5,5,5,5,5] 0
    replace hS:=ro_close (x:=s) (e:=⟨e2.A,e2.c⟩) hpl2 hS
    replace hS:=hS.pk [5,3,2,1] 0
    obtain ⟨J9,hS,hJ9⟩:=S.lend (M:=[_,_,_,_]) hS
    replace hS:=hS.dupI 1
    replace hS:=hS.dupI 4
    replace hS:=hS.dupI 4
    replace hS:=hS.dupI 2
    replace hS:=hS.dupI 4
    obtain ⟨q10,hq10,ht⟩:=optB_s ht
    refine eC hk (h:=roSend_any P x3.pt.lan 0 (⟨1,0,2,8,x3.pt.prio,(roAddrF x3.pt.lan x3.i.dr),(roAddrF x3.pt.lan x3.i.bdr),q7,false,false,false,0,[],[],[],[]⟩:PkV) (⟨⟨B07,d07⟩,⟨none,0⟩,⟨none,0⟩,⟨none,0⟩,⟨none,0⟩⟩:SlP × SlP × SlP × SlP × SlP) s _ hq10 hS) (k:=?_)
    rintro _ w ⟨rfl,hS⟩
    refine ⟨_,rfl,?_⟩
    replace hS:=hS.dropI.dropI.dropI.dropI.dropI
    replace hS:=hJ9 _ _ hS
    replace hS:=hS.nz 6
    refine rE [] hk fun a hk=>?_
    replace hS:=hS.pk [4] 5
    obtain rfl:=Option.some.inj ht
    exact rt0 hk (hR_ _ _ ⟨rfl,hS⟩)
   refine eA #[i6 0,i6 0,i6 0,i6 0,i6 0,.slice none 0 0] hS (fun g11 w hS _=>?_)
   iterate 4 refine TA ?_
   refine aG (fun _ h_=>rk (ld hS 1 rfl (h_.x hk))) ?_
   iterate 3 refine TA ?_
   refine aG (fun _ h_=>rk (ld hS 1 rfl (h_.x hk))) ?_
   replace hS:=hS.pk [2] 0
   refine eC hk (h:=peersSeenC e4 x3.p _ hS) (k:=?_)
   rintro _ w ⟨B012,d012,rfl,hS⟩
   refine ⟨_,rfl,?_⟩
   generalize hq12:seenL x3.p = q12 at hS ⊢
   replace ht:=(letP_eq hq12).symm.trans ht
   replace hS:=hS.nz 13
   iterate 4 refine TA ?_
   refine aG (fun _ h_=>rk (ld hS 3 rfl (h_.x hk))) ?_
   refine rD (.agg #[i6 2,i6 8,i6 x3.pt.prio,i6 (roAddrF x3.pt.lan x3.i.dr),i6 (roAddrF x3.pt.lan x3.i.bdr),.slice B012 q12.length d012]) (fun _ h_=>rk (run_build rfl (h_.prt hk) (by kernel_rfl))) ?_
   refine eS 2 hk hS (fun w hS _=>?_)
   refine rE [0,1,4] hk fun a hk=>?_
   refine rgR [[],[],[1],[1,2],[1,2,3],[1,2,3,4],[],[6],[0,1,2,3,4,5,6,7]] [8] (.rd 0 (.rd 1 (.rd 2 (.rd 3 (.rd 4 (.rd 5 (.rd 6 (.rd 7 (.ef 8 (.fin) .non))))))))) hk hS (fun w hS _=>?_)
   iterate 5 refine T ?_
   refine LD 3 hk hS ?_
   refine LDS 2 6 hk hS ?_
   refine rD (.agg #[i6 1,i6 0,i6 2,i6 8,i6 x3.pt.prio,i6 (roAddrF x3.pt.lan x3.i.dr),i6 (roAddrF x3.pt.lan x3.i.bdr),.slice B012 q12.length d012,.bool false,.bool false,.bool false,i6 0,.slice none 0 0,.slice none 0 0,.slice none 0 0,.slice none 0 0]) (fun _ h_=>rk (run_build rfl (h_.prt hk) (by kernel_rfl))) ?_
   have hS:=hS.nilrow 63 7
   replace hS:S κ (rowA (.slice none 0 0) 63 7 0 (rowC headC [])::rowA (.slice B012 q12.length d012) 3 1 q12.length (ints q12)::peersA e4 x3.p::blkA g11 46 #[i6 2,i6 8,i6 x3.pt.prio,i6 (roAddrF x3.pt.lan x3.i.dr),i6 (roAddrF x3.pt.lan x3.i.bdr),.slice B012 q12.length d012]::blkA pg 85 #[i6 x3.pt.lan,i6 x3.pt.prio,i6 x3.pt.cost,i6 x3.i.self,i6 x3.i.prio,i6 x3.i.state,i6 x3.i.dr,i6 x3.i.bdr,pt e4 0]::(arrH portA P.pts s.ports ((pk).toNat))::blkA P.g 102 #[i6 s.id,i6 s.now,i6 s.number,ptO P.p0,ptO P.p1,ptO P.p2,ptO P.p3,.map (some P.tm),.map (some P.mm),pt P.dg 0,pt P.wg 0,pt P.lg 0,pt P.ag 0,.slice e2.A s.out.length e2.c]::(mobA taMF P.tm s.talks)::mapA keyE toldE P.mm s.mine::(dbA P.dg s.db)::(wheelA P.wg s.w)::(rxmtA P.lg s.lists)::(acksA P.ag s.later)::crA frFn 58 e2.A e2.c s.out::L) (I) w:=hS
   have hS:=hS.nilrow 111 3
   replace hS:S κ (rowA (.slice none 0 0) 111 3 0 (rowC KeyV.cells [])::rowA (.slice none 0 0) 63 7 0 (rowC headC [])::rowA (.slice B012 q12.length d012) 3 1 q12.length (ints q12)::peersA e4 x3.p::blkA g11 46 #[i6 2,i6 8,i6 x3.pt.prio,i6 (roAddrF x3.pt.lan x3.i.dr),i6 (roAddrF x3.pt.lan x3.i.bdr),.slice B012 q12.length d012]::blkA pg 85 #[i6 x3.pt.lan,i6 x3.pt.prio,i6 x3.pt.cost,i6 x3.i.self,i6 x3.i.prio,i6 x3.i.state,i6 x3.i.dr,i6 x3.i.bdr,pt e4 0]::(arrH portA P.pts s.ports ((pk).toNat))::blkA P.g 102 #[i6 s.id,i6 s.now,i6 s.number,ptO P.p0,ptO P.p1,ptO P.p2,ptO P.p3,.map (some P.tm),.map (some P.mm),pt P.dg 0,pt P.wg 0,pt P.lg 0,pt P.ag 0,.slice e2.A s.out.length e2.c]::(mobA taMF P.tm s.talks)::mapA keyE toldE P.mm s.mine::(dbA P.dg s.db)::(wheelA P.wg s.w)::(rxmtA P.lg s.lists)::(acksA P.ag s.later)::crA frFn 58 e2.A e2.c s.out::L) (I) w:=hS
   replace hS:=hS.crNil lsFn 66
   replace hS:S κ (crA lsFn 66 none 0 []::rowA (.slice none 0 0) 111 3 0 (rowC KeyV.cells [])::rowA (.slice none 0 0) 63 7 0 (rowC headC [])::rowA (.slice B012 q12.length d012) 3 1 q12.length (ints q12)::peersA e4 x3.p::blkA g11 46 #[i6 2,i6 8,i6 x3.pt.prio,i6 (roAddrF x3.pt.lan x3.i.dr),i6 (roAddrF x3.pt.lan x3.i.bdr),.slice B012 q12.length d012]::blkA pg 85 #[i6 x3.pt.lan,i6 x3.pt.prio,i6 x3.pt.cost,i6 x3.i.self,i6 x3.i.prio,i6 x3.i.state,i6 x3.i.dr,i6 x3.i.bdr,pt e4 0]::(arrH portA P.pts s.ports ((pk).toNat))::blkA P.g 102 #[i6 s.id,i6 s.now,i6 s.number,ptO P.p0,ptO P.p1,ptO P.p2,ptO P.p3,.map (some P.tm),.map (some P.mm),pt P.dg 0,pt P.wg 0,pt P.lg 0,pt P.ag 0,.slice e2.A s.out.length e2.c]::(mobA taMF P.tm s.talks)::mapA keyE toldE P.mm s.mine::(dbA P.dg s.db)::(wheelA P.wg s.w)::(rxmtA P.lg s.lists)::(acksA P.ag s.later)::crA frFn 58 e2.A e2.c s.out::L) (I) w:=hS
   replace hS:=hS.pk [6,4] 0
   replace hS:=portA_close (x:=x3) (e:=e4) hS
   replace hS:=hS.pk [0,5] 0
   replace hS:=arr_fill' hq_pg hs3 hS
   replace hS:=hS.pk [6,0,5,5,5,5,5,5,5] 0
   replace hS:=ro_close (x:=s) (e:=⟨e2.A,e2.c⟩) hpl2 hS
   replace hS:=hS.pk [4,3,2,1] 0
   obtain ⟨J13,hS,hJ13⟩:=S.lend (M:=[_,_,_,_]) hS
   replace hS:=hS.dupI 1
   replace hS:=hS.dupI 4
   replace hS:=hS.dupI 4
   replace hS:=hS.dupI 2
   replace hS:=hS.dupI 4
   obtain ⟨q14,hq14,ht⟩:=optB_s ht
   refine eC hk (h:=roSend_any P x3.pt.lan 0 (⟨1,0,2,8,x3.pt.prio,(roAddrF x3.pt.lan x3.i.dr),(roAddrF x3.pt.lan x3.i.bdr),q12,false,false,false,0,[],[],[],[]⟩:PkV) (⟨⟨B012,d012⟩,⟨none,0⟩,⟨none,0⟩,⟨none,0⟩,⟨none,0⟩⟩:SlP × SlP × SlP × SlP × SlP) s _ hq14 hS) (k:=?_)
   rintro _ w ⟨rfl,hS⟩
   refine ⟨_,rfl,?_⟩
   replace hS:=hS.dropI.dropI.dropI.dropI.dropI
   replace hS:=hJ13 _ _ hS
   replace hS:=hS.nz 6
   refine rE [] hk fun a hk=>?_
   replace hS:=hS.pk [4] 5
   obtain rfl:=Option.some.inj ht
   exact rt0 hk (hR_ _ _ ⟨rfl,hS⟩)
  refine eA #[i6 0,i6 0,i6 0,i6 0,i6 0,.slice none 0 0] hS (fun g15 w hS _=>?_)
  iterate 4 refine TA ?_
  refine aG (fun _ h_=>rk (ld hS 1 rfl (h_.x hk))) ?_
  iterate 4 refine TA ?_
  refine aG (fun _ h_=>rk (ld hS 1 rfl (h_.x hk))) ?_
  iterate 4 refine TA ?_
  refine aG (fun _ h_=>rk (ld hS 1 rfl (h_.x hk))) ?_
  iterate 3 refine TA ?_
  refine aG (fun _ h_=>rk (ld hS 1 rfl (h_.x hk))) ?_
  refine eC hk (h:=roAddr_any x3.pt.lan x3.i.bdr _ hS) (k:=?_)
  rintro _ w ⟨rfl,hS⟩
  refine ⟨_,rfl,?_⟩
  replace hS:=hS.nz 12
  iterate 4 refine TA ?_
  refine aG (fun _ h_=>rk (ld hS 1 rfl (h_.x hk))) ?_
  iterate 3 refine TA ?_
  refine aG (fun _ h_=>rk (ld hS 1 rfl (h_.x hk))) ?_
  replace hS:=hS.pk [2] 0
  refine eC hk (h:=peersSeenC e4 x3.p _ hS) (k:=?_)
  rintro _ w ⟨B017,d017,rfl,hS⟩
  refine ⟨_,rfl,?_⟩
  generalize hq17:seenL x3.p = q17 at hS ⊢
  replace ht:=(letP_eq hq17).symm.trans ht
  replace hS:=hS.nz 13
  iterate 4 refine TA ?_
  refine aG (fun _ h_=>rk (ld hS 3 rfl (h_.x hk))) ?_
  refine rD (.agg #[i6 2,i6 8,i6 x3.pt.prio,i6 (roAddrF x3.pt.lan x3.i.dr),i6 (roAddrF x3.pt.lan x3.i.bdr),.slice B017 q17.length d017]) (fun _ h_=>rk (run_build rfl (h_.prt hk) (by kernel_rfl))) ?_
  refine eS 2 hk hS (fun w hS _=>?_)
  refine rE [0,1,4] hk fun a hk=>?_
  refine rgR [[],[],[1],[1,2],[1,2,3],[1,2,3,4],[],[6],[0,1,2,3,4,5,6,7]] [8] (.rd 0 (.rd 1 (.rd 2 (.rd 3 (.rd 4 (.rd 5 (.rd 6 (.rd 7 (.ef 8 (.fin) .non))))))))) hk hS (fun w hS _=>?_)
  iterate 5 refine T ?_
  refine LD 3 hk hS ?_
  refine LDS 2 6 hk hS ?_
  refine rD (.agg #[i6 1,i6 0,i6 2,i6 8,i6 x3.pt.prio,i6 (roAddrF x3.pt.lan x3.i.dr),i6 (roAddrF x3.pt.lan x3.i.bdr),.slice B017 q17.length d017,.bool false,.bool false,.bool false,i6 0,.slice none 0 0,.slice none 0 0,.slice none 0 0,.slice none 0 0]) (fun _ h_=>rk (run_build rfl (h_.prt hk) (by kernel_rfl))) ?_
  have hS:=hS.nilrow 63 7
  replace hS:S κ (rowA (.slice none 0 0) 63 7 0 (rowC headC [])::rowA (.slice B017 q17.length d017) 3 1 q17.length (ints q17)::peersA e4 x3.p::blkA g15 46 #[i6 2,i6 8,i6 x3.pt.prio,i6 (roAddrF x3.pt.lan x3.i.dr),i6 (roAddrF x3.pt.lan x3.i.bdr),.slice B017 q17.length d017]::blkA pg 85 #[i6 x3.pt.lan,i6 x3.pt.prio,i6 x3.pt.cost,i6 x3.i.self,i6 x3.i.prio,i6 x3.i.state,i6 x3.i.dr,i6 x3.i.bdr,pt e4 0]::(arrH portA P.pts s.ports ((pk).toNat))::blkA P.g 102 #[i6 s.id,i6 s.now,i6 s.number,ptO P.p0,ptO P.p1,ptO P.p2,ptO P.p3,.map (some P.tm),.map (some P.mm),pt P.dg 0,pt P.wg 0,pt P.lg 0,pt P.ag 0,.slice e2.A s.out.length e2.c]::(mobA taMF P.tm s.talks)::mapA keyE toldE P.mm s.mine::(dbA P.dg s.db)::(wheelA P.wg s.w)::(rxmtA P.lg s.lists)::(acksA P.ag s.later)::crA frFn 58 e2.A e2.c s.out::L) (I) w:=hS
  have hS:=hS.nilrow 111 3
  replace hS:S κ (rowA (.slice none 0 0) 111 3 0 (rowC KeyV.cells [])::rowA (.slice none 0 0) 63 7 0 (rowC headC [])::rowA (.slice B017 q17.length d017) 3 1 q17.length (ints q17)::peersA e4 x3.p::blkA g15 46 #[i6 2,i6 8,i6 x3.pt.prio,i6 (roAddrF x3.pt.lan x3.i.dr),i6 (roAddrF x3.pt.lan x3.i.bdr),.slice B017 q17.length d017]::blkA pg 85 #[i6 x3.pt.lan,i6 x3.pt.prio,i6 x3.pt.cost,i6 x3.i.self,i6 x3.i.prio,i6 x3.i.state,i6 x3.i.dr,i6 x3.i.bdr,pt e4 0]::(arrH portA P.pts s.ports ((pk).toNat))::blkA P.g 102 #[i6 s.id,i6 s.now,i6 s.number,ptO P.p0,ptO P.p1,ptO P.p2,ptO P.p3,.map (some P.tm),.map (some P.mm),pt P.dg 0,pt P.wg 0,pt P.lg 0,pt P.ag 0,.slice e2.A s.out.length e2.c]::(mobA taMF P.tm s.talks)::mapA keyE toldE P.mm s.mine::(dbA P.dg s.db)::(wheelA P.wg s.w)::(rxmtA P.lg s.lists)::(acksA P.ag s.later)::crA frFn 58 e2.A e2.c s.out::L) (I) w:=hS
  replace hS:=hS.crNil lsFn 66
  replace hS:S κ (crA lsFn 66 none 0 []::rowA (.slice none 0 0) 111 3 0 (rowC KeyV.cells [])::rowA (.slice none 0 0) 63 7 0 (rowC headC [])::rowA (.slice B017 q17.length d017) 3 1 q17.length (ints q17)::peersA e4 x3.p::blkA g15 46 #[i6 2,i6 8,i6 x3.pt.prio,i6 (roAddrF x3.pt.lan x3.i.dr),i6 (roAddrF x3.pt.lan x3.i.bdr),.slice B017 q17.length d017]::blkA pg 85 #[i6 x3.pt.lan,i6 x3.pt.prio,i6 x3.pt.cost,i6 x3.i.self,i6 x3.i.prio,i6 x3.i.state,i6 x3.i.dr,i6 x3.i.bdr,pt e4 0]::(arrH portA P.pts s.ports ((pk).toNat))::blkA P.g 102 #[i6 s.id,i6 s.now,i6 s.number,ptO P.p0,ptO P.p1,ptO P.p2,ptO P.p3,.map (some P.tm),.map (some P.mm),pt P.dg 0,pt P.wg 0,pt P.lg 0,pt P.ag 0,.slice e2.A s.out.length e2.c]::(mobA taMF P.tm s.talks)::mapA keyE toldE P.mm s.mine::(dbA P.dg s.db)::(wheelA P.wg s.w)::(rxmtA P.lg s.lists)::(acksA P.ag s.later)::crA frFn 58 e2.A e2.c s.out::L) (I) w:=hS
  replace hS:=hS.pk [6,4] 0
  replace hS:=portA_close (x:=x3) (e:=e4) hS
  replace hS:=hS.pk [0,5] 0
  replace hS:=arr_fill' hq_pg hs3 hS
  replace hS:=hS.pk [6,0,5,5,5,5,5,5,5] 0
  replace hS:=ro_close (x:=s) (e:=⟨e2.A,e2.c⟩) hpl2 hS
  replace hS:=hS.pk [4,3,2,1] 0
  obtain ⟨J18,hS,hJ18⟩:=S.lend (M:=[_,_,_,_]) hS
  replace hS:=hS.dupI 1
  replace hS:=hS.dupI 4
  replace hS:=hS.dupI 4
  replace hS:=hS.dupI 2
  replace hS:=hS.dupI 4
  obtain ⟨q19,hq19,ht⟩:=optB_s ht
  refine eC hk (h:=roSend_any P x3.pt.lan 0 (⟨1,0,2,8,x3.pt.prio,(roAddrF x3.pt.lan x3.i.dr),(roAddrF x3.pt.lan x3.i.bdr),q17,false,false,false,0,[],[],[],[]⟩:PkV) (⟨⟨B017,d017⟩,⟨none,0⟩,⟨none,0⟩,⟨none,0⟩,⟨none,0⟩⟩:SlP × SlP × SlP × SlP × SlP) s _ hq19 hS) (k:=?_)
  rintro _ w ⟨rfl,hS⟩
  refine ⟨_,rfl,?_⟩
  replace hS:=hS.dropI.dropI.dropI.dropI.dropI
  replace hS:=hJ18 _ _ hS
  replace hS:=hS.nz 6
  refine rE [] hk fun a hk=>?_
  replace hS:=hS.pk [4] 5
  obtain rfl:=Option.some.inj ht
  exact rt0 hk (hR_ _ _ ⟨rfl,hS⟩)
 refine eA #[i6 0,i6 0,i6 0,i6 0,i6 0,.slice none 0 0] hS (fun g20 w hS _=>?_)
 iterate 4 refine TA ?_
 refine aG (fun _ h_=>rk (ld hS 1 rfl (h_.x hk))) ?_
 iterate 4 refine TA ?_
 refine aG (fun _ h_=>rk (ld hS 1 rfl (h_.x hk))) ?_
 iterate 4 refine TA ?_
 refine aG (fun _ h_=>rk (ld hS 1 rfl (h_.x hk))) ?_
 iterate 4 refine TA ?_
 refine aG (fun _ h_=>rk (ld hS 1 rfl (h_.x hk))) ?_
 iterate 4 refine TA ?_
 refine aG (fun _ h_=>rk (ld hS 1 rfl (h_.x hk))) ?_
 iterate 3 refine TA ?_
 refine aG (fun _ h_=>rk (ld hS 1 rfl (h_.x hk))) ?_
 refine eC hk (h:=roAddr_any x3.pt.lan x3.i.dr _ hS) (k:=?_)
 rintro _ w ⟨rfl,hS⟩
 refine ⟨_,rfl,?_⟩
 replace hS:=hS.nz 12
 iterate 4 refine TA ?_
 refine aG (fun _ h_=>rk (ld hS 1 rfl (h_.x hk))) ?_
 iterate 4 refine TA ?_
 refine aG (fun _ h_=>rk (ld hS 1 rfl (h_.x hk))) ?_
 iterate 4 refine TA ?_
 refine aG (fun _ h_=>rk (ld hS 1 rfl (h_.x hk))) ?_
 iterate 3 refine TA ?_
 refine aG (fun _ h_=>rk (ld hS 1 rfl (h_.x hk))) ?_
 refine eC hk (h:=roAddr_any x3.pt.lan x3.i.bdr _ hS) (k:=?_)
 rintro _ w ⟨rfl,hS⟩
 refine ⟨_,rfl,?_⟩
 replace hS:=hS.nz 12
 iterate 4 refine TA ?_
 refine aG (fun _ h_=>rk (ld hS 1 rfl (h_.x hk))) ?_
 iterate 3 refine TA ?_
 refine aG (fun _ h_=>rk (ld hS 1 rfl (h_.x hk))) ?_
 replace hS:=hS.pk [2] 0
 refine eC hk (h:=peersSeenC e4 x3.p _ hS) (k:=?_)
 rintro _ w ⟨B023,d023,rfl,hS⟩
 refine ⟨_,rfl,?_⟩
 generalize hq23:seenL x3.p = q23 at hS ⊢
 replace ht:=(letP_eq hq23).symm.trans ht
 replace hS:=hS.nz 13
 iterate 4 refine TA ?_
 refine aG (fun _ h_=>rk (ld hS 3 rfl (h_.x hk))) ?_
 refine rD (.agg #[i6 2,i6 8,i6 x3.pt.prio,i6 (roAddrF x3.pt.lan x3.i.dr),i6 (roAddrF x3.pt.lan x3.i.bdr),.slice B023 q23.length d023]) (fun _ h_=>rk (run_build rfl (h_.prt hk) (by kernel_rfl))) ?_
 refine eS 2 hk hS (fun w hS _=>?_)
 refine rE [0,1,4] hk fun a hk=>?_
 refine rgR [[],[],[1],[1,2],[1,2,3],[1,2,3,4],[],[6],[0,1,2,3,4,5,6,7]] [8] (.rd 0 (.rd 1 (.rd 2 (.rd 3 (.rd 4 (.rd 5 (.rd 6 (.rd 7 (.ef 8 (.fin) .non))))))))) hk hS (fun w hS _=>?_)
 iterate 5 refine T ?_
 refine LD 3 hk hS ?_
 refine LDS 2 6 hk hS ?_
 refine rD (.agg #[i6 1,i6 0,i6 2,i6 8,i6 x3.pt.prio,i6 (roAddrF x3.pt.lan x3.i.dr),i6 (roAddrF x3.pt.lan x3.i.bdr),.slice B023 q23.length d023,.bool false,.bool false,.bool false,i6 0,.slice none 0 0,.slice none 0 0,.slice none 0 0,.slice none 0 0]) (fun _ h_=>rk (run_build rfl (h_.prt hk) (by kernel_rfl))) ?_
 have hS:=hS.nilrow 63 7
 replace hS:S κ (rowA (.slice none 0 0) 63 7 0 (rowC headC [])::rowA (.slice B023 q23.length d023) 3 1 q23.length (ints q23)::peersA e4 x3.p::blkA g20 46 #[i6 2,i6 8,i6 x3.pt.prio,i6 (roAddrF x3.pt.lan x3.i.dr),i6 (roAddrF x3.pt.lan x3.i.bdr),.slice B023 q23.length d023]::blkA pg 85 #[i6 x3.pt.lan,i6 x3.pt.prio,i6 x3.pt.cost,i6 x3.i.self,i6 x3.i.prio,i6 x3.i.state,i6 x3.i.dr,i6 x3.i.bdr,pt e4 0]::(arrH portA P.pts s.ports ((pk).toNat))::blkA P.g 102 #[i6 s.id,i6 s.now,i6 s.number,ptO P.p0,ptO P.p1,ptO P.p2,ptO P.p3,.map (some P.tm),.map (some P.mm),pt P.dg 0,pt P.wg 0,pt P.lg 0,pt P.ag 0,.slice e2.A s.out.length e2.c]::(mobA taMF P.tm s.talks)::mapA keyE toldE P.mm s.mine::(dbA P.dg s.db)::(wheelA P.wg s.w)::(rxmtA P.lg s.lists)::(acksA P.ag s.later)::crA frFn 58 e2.A e2.c s.out::L) (I) w:=hS
 have hS:=hS.nilrow 111 3
 replace hS:S κ (rowA (.slice none 0 0) 111 3 0 (rowC KeyV.cells [])::rowA (.slice none 0 0) 63 7 0 (rowC headC [])::rowA (.slice B023 q23.length d023) 3 1 q23.length (ints q23)::peersA e4 x3.p::blkA g20 46 #[i6 2,i6 8,i6 x3.pt.prio,i6 (roAddrF x3.pt.lan x3.i.dr),i6 (roAddrF x3.pt.lan x3.i.bdr),.slice B023 q23.length d023]::blkA pg 85 #[i6 x3.pt.lan,i6 x3.pt.prio,i6 x3.pt.cost,i6 x3.i.self,i6 x3.i.prio,i6 x3.i.state,i6 x3.i.dr,i6 x3.i.bdr,pt e4 0]::(arrH portA P.pts s.ports ((pk).toNat))::blkA P.g 102 #[i6 s.id,i6 s.now,i6 s.number,ptO P.p0,ptO P.p1,ptO P.p2,ptO P.p3,.map (some P.tm),.map (some P.mm),pt P.dg 0,pt P.wg 0,pt P.lg 0,pt P.ag 0,.slice e2.A s.out.length e2.c]::(mobA taMF P.tm s.talks)::mapA keyE toldE P.mm s.mine::(dbA P.dg s.db)::(wheelA P.wg s.w)::(rxmtA P.lg s.lists)::(acksA P.ag s.later)::crA frFn 58 e2.A e2.c s.out::L) (I) w:=hS
 replace hS:=hS.crNil lsFn 66
 replace hS:S κ (crA lsFn 66 none 0 []::rowA (.slice none 0 0) 111 3 0 (rowC KeyV.cells [])::rowA (.slice none 0 0) 63 7 0 (rowC headC [])::rowA (.slice B023 q23.length d023) 3 1 q23.length (ints q23)::peersA e4 x3.p::blkA g20 46 #[i6 2,i6 8,i6 x3.pt.prio,i6 (roAddrF x3.pt.lan x3.i.dr),i6 (roAddrF x3.pt.lan x3.i.bdr),.slice B023 q23.length d023]::blkA pg 85 #[i6 x3.pt.lan,i6 x3.pt.prio,i6 x3.pt.cost,i6 x3.i.self,i6 x3.i.prio,i6 x3.i.state,i6 x3.i.dr,i6 x3.i.bdr,pt e4 0]::(arrH portA P.pts s.ports ((pk).toNat))::blkA P.g 102 #[i6 s.id,i6 s.now,i6 s.number,ptO P.p0,ptO P.p1,ptO P.p2,ptO P.p3,.map (some P.tm),.map (some P.mm),pt P.dg 0,pt P.wg 0,pt P.lg 0,pt P.ag 0,.slice e2.A s.out.length e2.c]::(mobA taMF P.tm s.talks)::mapA keyE toldE P.mm s.mine::(dbA P.dg s.db)::(wheelA P.wg s.w)::(rxmtA P.lg s.lists)::(acksA P.ag s.later)::crA frFn 58 e2.A e2.c s.out::L) (I) w:=hS
 replace hS:=hS.pk [6,4] 0
 replace hS:=portA_close (x:=x3) (e:=e4) hS
 replace hS:=hS.pk [0,5] 0
 replace hS:=arr_fill' hq_pg hs3 hS
 replace hS:=hS.pk [6,0,5,5,5,5,5,5,5] 0
 replace hS:=ro_close (x:=s) (e:=⟨e2.A,e2.c⟩) hpl2 hS
 replace hS:=hS.pk [4,3,2,1] 0
 obtain ⟨J24,hS,hJ24⟩:=S.lend (M:=[_,_,_,_]) hS
 replace hS:=hS.dupI 1
 replace hS:=hS.dupI 4
 replace hS:=hS.dupI 4
 replace hS:=hS.dupI 2
 replace hS:=hS.dupI 4
 obtain ⟨q25,hq25,ht⟩:=optB_s ht
 refine eC hk (h:=roSend_any P x3.pt.lan 0 (⟨1,0,2,8,x3.pt.prio,(roAddrF x3.pt.lan x3.i.dr),(roAddrF x3.pt.lan x3.i.bdr),q23,false,false,false,0,[],[],[],[]⟩:PkV) (⟨⟨B023,d023⟩,⟨none,0⟩,⟨none,0⟩,⟨none,0⟩,⟨none,0⟩⟩:SlP × SlP × SlP × SlP × SlP) s _ hq25 hS) (k:=?_)
 rintro _ w ⟨rfl,hS⟩
 refine ⟨_,rfl,?_⟩
 replace hS:=hS.dropI.dropI.dropI.dropI.dropI
 replace hS:=hJ24 _ _ hS
 replace hS:=hS.nz 6
 refine rE [] hk fun a hk=>?_
 replace hS:=hS.pk [4] 5
 obtain rfl:=Option.some.inj ht
 exact rt0 hk (hR_ _ _ ⟨rfl,hS⟩)
def roViewFL8:List PeV → Option (Unit)
  | []=>some ()
  | z8::xs8=>none
def roViewFL11:List PeV → Option (Unit)
  | []=>some ()
  | z11::xs11=>none
def roViewF (pk:Int) (s:RoS):Option (VwV):=optB (lookP s.ports pk) fun x4=>letP (peAll x4.p) fun q6=>optB (roViewFL8 q6) fun r8=>some (⟨x4.pt.lan,x4.pt.cost,x4.i,q6,[]⟩:VwV)
theorem roView_any {κ:Kap} {L I:List Atom} (P:RoP) (pg:Nat) (pk:Int) (s:RoS) (W:World) (hq_pg:lookP P.pts pk = some pg) {r_:VwV} (ht:(roViewF pk s) = some r_) (hS:S κ (roA P s::L) (I) W):
    Calls Tryz.prog 36 #[pt P.g 0,pt pg 0] W (fun r w'=>∃ e0:SlP × SlP,r = .returned (.agg #[i6 r_.lan,i6 r_.cost,i6 r_.i.self,i6 r_.i.prio,i6 r_.i.state,i6 r_.i.dr,i6 r_.i.bdr,.slice e0.1.A r_.peers.length e0.1.c,.slice e0.2.A r_.wants.length e0.2.c])∧S κ (rowA (.slice e0.1.A r_.peers.length e0.1.c) 90 7 r_.peers.length (rowC PeV.cells r_.peers)::rowA (.slice e0.2.A r_.wants.length e0.2.c) 186 8 r_.wants.length (rowC WtV.cells r_.wants)::roA P s::L) (I) w'):=by
 refine wK 75 Tryz.func36 (fun R_ hR_ a hk=>?_)
 refine wp_seq ?_
 refine rgL [0] hk ?_
 refine eA #[i6 0,i6 0,i6 0,i6 0,i6 0,i6 0,i6 0,.slice none 0 0,.slice none 0 0] hS (fun g2 w hS _=>?_)
 refine rE [0,1,4] hk fun a hk=>?_
 refine wp_seq ?_
 refine rgR [[],[0],[0,1],[0,1,2],[0,1,2,3],[],[5],[5,6],[5,6,7],[5,6,7,8],[],[10],[10,11],[10,11,12],[],[14],[14,15],[14,15,16],[14,15,16,17],[0,1,2,3,4,5,6,7,8,9,10,11,12,13,14,15,16,17,18],[],[0,1,2,3,4,5,6,7,8,9,10,11,12,13,14,15,16,17,18,19,20]] [18,20,21] (.rd 0 (.rd 1 (.rd 2 (.rd 3 (.rd 4 (.rd 5 (.rd 6 (.rd 7 (.rd 8 (.rd 9 (.rd 10 (.rd 11 (.rd 12 (.rd 13 (.rd 14 (.rd 15 (.rd 16 (.rd 17 (.ef 18 (.ag 0 (.ag 1 (.ag 2 (.ag 3 (.ag 4 (.ag 5 (.ag 6 (.ag 7 (.ag 8 (.ag 9 (.ag 10 (.ag 11 (.ag 12 (.ag 13 (.rd 19 (.ef 20 (.ag 0 (.ag 1 (.ag 2 (.ag 3 (.ag 4 (.ag 5 (.ag 6 (.ag 7 (.ag 8 (.ag 9 (.ag 10 (.ag 11 (.ag 12 (.ag 13 (.ag 19 (.ef 21 (.fin) .non)))))))))))))))) .non)))))))))))))))) (.ef 20 (.ag 0 (.ag 1 (.ag 2 (.ag 3 (.ag 4 (.ag 5 (.ag 6 (.ag 7 (.ag 8 (.ag 9 (.ag 10 (.ag 11 (.ag 12 (.ag 13 (.ag 14 (.ag 15 (.ag 16 (.ag 17 (.ef 18 (.ag 0 (.ag 1 (.ag 2 (.ag 3 (.ag 4 (.ag 5 (.ag 6 (.ag 7 (.ag 8 (.ag 9 (.ag 10 (.ag 11 (.ag 12 (.ag 13 (.rd 19 (.ef 21 (.fin) .non)))))))))))))))) .non))))))))))))))))))) .non)))))))))))))))))))) hk hS (fun w hS _=>?_)
 iterate 4 refine T ?_
 replace hS:=hS.fr 1
 obtain ⟨e3,hpl3,hS⟩:=ro_open hS
 obtain ⟨x4,hs4,ht⟩:=optB_s ht
 replace hS:=hS.fr 1
 replace hS:=arr_at' hq_pg hs4 (by rw [pts_len];first | assumption | (simpa using hpl3)) hS
 obtain ⟨e5,hS⟩:=portA_open hS
 refine LD 0 hk hS ?_
 iterate 4 refine T ?_
 refine LD 0 hk hS ?_
 iterate 3 refine T ?_
 refine LDS 0 5 hk hS ?_
 iterate 3 refine T ?_
 refine LD 0 hk hS ?_
 refine efk ?_ ?_
 ·replace hS:=hS.pk [1] 0
  refine eC hk (h:=peersAll_any e5 x4.p _ hS) (k:=?_)
  rintro _ w ⟨B06,d06,rfl,hS⟩
  refine ⟨_,rfl,?_⟩
  generalize hq6:peAll x4.p = q6 at hS ⊢
  replace ht:=(letP_eq hq6).symm.trans ht
  replace hS:=hS.nz 13
  iterate 4 refine TA ?_
  refine aG (fun _ h_=>rk (ld hS 2 rfl (h_.x hk))) ?_
  iterate 4 refine TA ?_
  refine aG (fun _ h_=>rk (ld hS 2 rfl (h_.x hk))) ?_
  iterate 3 refine TA ?_
  refine aG (fun _ h_=>rk (lbS 5 (hS.blk (i:=2) rfl) rfl (h_.x hk))) ?_
  refine rD (.agg #[i6 x4.pt.lan,i6 x4.pt.cost,i6 x4.i.self,i6 x4.i.prio,i6 x4.i.state,i6 x4.i.dr,i6 x4.i.bdr,.slice B06 q6.length d06,.slice none 0 0]) (fun _ h_=>rk (run_build rfl (h_.prt hk) (by kernel_rfl))) ?_
  refine eA #[i6 0,i6 0,i6 0,i6 0,i6 0,i6 0,i6 0,.slice none 0 0,.slice none 0 0] hS (fun g7 w hS _=>?_)
  iterate 4 refine TA ?_
  refine aG (fun _ h_=>rk (ld hS 3 rfl (h_.x hk))) ?_
  iterate 4 refine TA ?_
  refine aG (fun _ h_=>rk (ld hS 3 rfl (h_.x hk))) ?_
  iterate 3 refine TA ?_
  refine aG (fun _ h_=>rk (lbS 5 (hS.blk (i:=3) rfl) rfl (h_.x hk))) ?_
  refine aG (fun _ h_=>rk (run_build rfl (h_.prt hk) (by kernel_rfl))) ?_
  refine eS 0 hk hS (fun w hS _=>?_)
  refine rE [0,1,4,5] hk fun a hk=>?_
  refine wp_seq ?_
  refine wp_seq ?_
  refine rgL [] hk ?_
  refine T ?_
  refine LD 0 hk hS ?_
  iterate 2 refine T ?_
  refine rE [0,1,4,5,32,33,34] hk fun a hk=>?_
  replace hS:=hS.pk [3,2] 0
  replace hS:=portA_close (x:=x4) (e:=e5) hS
  replace hS:=hS.pk [0,2] 0
  replace hS:=arr_fill' hq_pg hs4 hS
  replace hS:=hS.pk [3,0,2,2,2,2,2,2,2] 0
  replace hS:=ro_close (x:=s) (e:=⟨e3.A,e3.c⟩) hpl3 hS
  obtain ⟨r8,hr8,ht⟩:=optB_s ht
  refine wp_cut (fun a_ w_=>Fr a_ 75 [(4,pt g2 0),(5,pt g7 0)]∧S κ (roA P s::blkA g7 39 #[i6 x4.pt.lan,i6 x4.pt.cost,i6 x4.i.self,i6 x4.i.prio,i6 x4.i.state,i6 x4.i.dr,i6 x4.i.bdr,.slice B06 q6.length d06,.slice none 0 0]::rowA (.slice B06 q6.length d06) 90 7 q6.length (rowC PeV.cells q6)::blkA g2 39 #[i6 0,i6 0,i6 0,i6 0,i6 0,i6 0,i6 0,.slice none 0 0,.slice none 0 0]::L) (I) w_) ?_ ?_
  ·refine wp_block ?_
   refine wp_loop (fun a_ w_=>∃ k8:Nat,(k8 ≤ (q6).length)∧roViewFL8 ((q6).drop k8) = some r8∧Fr a_ 75 [(0,pt P.g 0),(1,pt pg 0),(4,pt g2 0),(5,pt g7 0),(32,.slice B06 q6.length d06),(33,i6 ((q6.length:Nat):Int)),(34,i6 k8)]∧S κ (roA P s::blkA g7 39 #[i6 x4.pt.lan,i6 x4.pt.cost,i6 x4.i.self,i6 x4.i.prio,i6 x4.i.state,i6 x4.i.dr,i6 x4.i.bdr,.slice B06 q6.length d06,.slice none 0 0]::rowA (.slice B06 q6.length d06) 90 7 q6.length (rowC PeV.cells q6)::blkA g2 39 #[i6 0,i6 0,i6 0,i6 0,i6 0,i6 0,i6 0,.slice none 0 0,.slice none 0 0]::L) (I) w_) (fun a_ _=>(q6).length - (intOf (sl a_ 34)).toNat) ?_ ?_
   ·exact ⟨0,Nat.zero_le _,hr8,hk.to,hS⟩
   clear hk hS
   rintro aL8 w ⟨k8,hkl8,hI8,hk,hS⟩
   have hmu8:=hk.g (s:=34)
   have hlb8:=hS.rowB (i:=2) rfl
   refine wp_seq ?_
   refine rgL [] hk ?_
   refine T ?_
   refine rE [0,1,4,5,32,33,34,35] hk fun a hk=>?_
   refine wp_seq ?_
   refine cD hk (fun hc35=>?_) (fun hc35=>?_)
   ·obtain ⟨z8,hz8⟩:=at_k (show k8 < (q6).length by omega)
    rw [drop_at hz8] at hI8
    refine wp_skip ?_
    refine wp_seq ?_
    refine wp_block ?_
    refine wp_seq ?_
    cases hI8
   obtain rfl:k8 = (q6).length:=by omega
   rw [drop_all (Nat.le_refl _)] at hI8
   refine wp_exit ?_
   obtain rfl:=Option.some.inj hI8
   exact ⟨hk.to,hS⟩
  rintro a w ⟨hk,hS⟩
  refine wp_seq ?_
  refine rgL [1] hk ?_
  refine LDS 1 9 hk hS ?_
  refine eS 3 hk hS (fun w hS _=>?_)
  refine rE [4] hk fun a hk=>?_
  refine wp_ret ?_
  have hCb:=hS.blk (i:=3) rfl
  have hS:=hS.nilrow 186 8
  replace hS:S κ (rowA (.slice none 0 0) 186 8 0 (rowC WtV.cells [])::roA P s::blkA g7 39 #[i6 x4.pt.lan,i6 x4.pt.cost,i6 x4.i.self,i6 x4.i.prio,i6 x4.i.state,i6 x4.i.dr,i6 x4.i.bdr,.slice B06 q6.length d06,.slice none 0 0]::rowA (.slice B06 q6.length d06) 90 7 q6.length (rowC PeV.cells q6)::blkA g2 39 #[i6 x4.pt.lan,i6 x4.pt.cost,i6 x4.i.self,i6 x4.i.prio,i6 x4.i.state,i6 x4.i.dr,i6 x4.i.bdr,.slice B06 q6.length d06,.slice none 0 0]::L) (I) w:=hS
  replace hS:=hS.pk [3,0,0] 2
  obtain rfl:=Option.some.inj ht
  exact rtC hk hCb (hR_ _ _ ⟨(⟨⟨B06,d06⟩,⟨none,0⟩⟩:SlP × SlP),rfl,hS⟩) Tryz.underlying39
 refine eA #[i6 0,i6 0,i6 0,i6 0,i6 0,i6 0,i6 0,.slice none 0 0,.slice none 0 0] hS (fun g9 w hS _=>?_)
 iterate 4 refine TA ?_
 refine aG (fun _ h_=>rk (ld hS 1 rfl (h_.x hk))) ?_
 iterate 4 refine TA ?_
 refine aG (fun _ h_=>rk (ld hS 1 rfl (h_.x hk))) ?_
 iterate 3 refine TA ?_
 refine aG (fun _ h_=>rk (lbS 5 (hS.blk (i:=1) rfl) rfl (h_.x hk))) ?_
 iterate 3 refine TA ?_
 refine aG (fun _ h_=>rk (ld hS 1 rfl (h_.x hk))) ?_
 replace hS:=hS.pk [2] 0
 refine eC hk (h:=peersAll_any e5 x4.p _ hS) (k:=?_)
 rintro _ w ⟨B010,d010,rfl,hS⟩
 refine ⟨_,rfl,?_⟩
 generalize hq10:peAll x4.p = q10 at hS ⊢
 replace ht:=(letP_eq hq10).symm.trans ht
 replace hS:=hS.nz 14
 iterate 4 refine TA ?_
 refine aG (fun _ h_=>rk (ld hS 3 rfl (h_.x hk))) ?_
 iterate 4 refine TA ?_
 refine aG (fun _ h_=>rk (ld hS 3 rfl (h_.x hk))) ?_
 iterate 3 refine TA ?_
 refine aG (fun _ h_=>rk (lbS 5 (hS.blk (i:=3) rfl) rfl (h_.x hk))) ?_
 refine rD (.agg #[i6 x4.pt.lan,i6 x4.pt.cost,i6 x4.i.self,i6 x4.i.prio,i6 x4.i.state,i6 x4.i.dr,i6 x4.i.bdr,.slice B010 q10.length d010,.slice none 0 0]) (fun _ h_=>rk (run_build rfl (h_.prt hk) (by kernel_rfl))) ?_
 refine eS 2 hk hS (fun w hS _=>?_)
 refine rE [0,1,4,5] hk fun a hk=>?_
 refine wp_seq ?_
 refine wp_seq ?_
 refine rgL [] hk ?_
 refine T ?_
 refine LD 2 hk hS ?_
 iterate 2 refine T ?_
 refine rE [0,1,4,5,32,33,34] hk fun a hk=>?_
 replace hS:=hS.pk [3,1] 0
 replace hS:=portA_close (x:=x4) (e:=e5) hS
 replace hS:=hS.pk [0,2] 0
 replace hS:=arr_fill' hq_pg hs4 hS
 replace hS:=hS.pk [3,0,2,2,2,2,2,2,2] 0
 replace hS:=ro_close (x:=s) (e:=⟨e3.A,e3.c⟩) hpl3 hS
 obtain ⟨r11,hr11,ht⟩:=optB_s ht
 refine wp_cut (fun a_ w_=>Fr a_ 75 [(4,pt g2 0),(5,pt g9 0)]∧S κ (roA P s::rowA (.slice B010 q10.length d010) 90 7 q10.length (rowC PeV.cells q10)::blkA g9 39 #[i6 x4.pt.lan,i6 x4.pt.cost,i6 x4.i.self,i6 x4.i.prio,i6 x4.i.state,i6 x4.i.dr,i6 x4.i.bdr,.slice B010 q10.length d010,.slice none 0 0]::blkA g2 39 #[i6 0,i6 0,i6 0,i6 0,i6 0,i6 0,i6 0,.slice none 0 0,.slice none 0 0]::L) (I) w_) ?_ ?_
 ·refine wp_block ?_
  refine wp_loop (fun a_ w_=>∃ k11:Nat,(k11 ≤ (q10).length)∧roViewFL11 ((q10).drop k11) = some r11∧Fr a_ 75 [(0,pt P.g 0),(1,pt pg 0),(4,pt g2 0),(5,pt g9 0),(32,.slice B010 q10.length d010),(33,i6 ((q10.length:Nat):Int)),(34,i6 k11)]∧S κ (roA P s::rowA (.slice B010 q10.length d010) 90 7 q10.length (rowC PeV.cells q10)::blkA g9 39 #[i6 x4.pt.lan,i6 x4.pt.cost,i6 x4.i.self,i6 x4.i.prio,i6 x4.i.state,i6 x4.i.dr,i6 x4.i.bdr,.slice B010 q10.length d010,.slice none 0 0]::blkA g2 39 #[i6 0,i6 0,i6 0,i6 0,i6 0,i6 0,i6 0,.slice none 0 0,.slice none 0 0]::L) (I) w_) (fun a_ _=>(q10).length - (intOf (sl a_ 34)).toNat) ?_ ?_
  ·exact ⟨0,Nat.zero_le _,hr11,hk.to,hS⟩
  clear hk hS
  rintro aL11 w ⟨k11,hkl11,hI11,hk,hS⟩
  have hmu11:=hk.g (s:=34)
  have hlb11:=hS.rowB (i:=1) rfl
  refine wp_seq ?_
  refine rgL [] hk ?_
  refine T ?_
  refine rE [0,1,4,5,32,33,34,35] hk fun a hk=>?_
  refine wp_seq ?_
  refine cD hk (fun hc35=>?_) (fun hc35=>?_)
  ·obtain ⟨z11,hz11⟩:=at_k (show k11 < (q10).length by omega)
   rw [drop_at hz11] at hI11
   refine wp_skip ?_
   refine wp_seq ?_
   refine wp_block ?_
   refine wp_seq ?_
   cases hI11
  obtain rfl:k11 = (q10).length:=by omega
  rw [drop_all (Nat.le_refl _)] at hI11
  refine wp_exit ?_
  obtain rfl:=Option.some.inj hI11
  exact ⟨hk.to,hS⟩
 rintro a w ⟨hk,hS⟩
 refine wp_seq ?_
 refine rgL [1] hk ?_
 refine LDS 2 9 hk hS ?_
 refine eS 3 hk hS (fun w hS _=>?_)
 refine rE [4] hk fun a hk=>?_
 refine wp_ret ?_
 have hCb:=hS.blk (i:=3) rfl
 have hS:=hS.nilrow 186 8
 replace hS:S κ (rowA (.slice none 0 0) 186 8 0 (rowC WtV.cells [])::roA P s::rowA (.slice B010 q10.length d010) 90 7 q10.length (rowC PeV.cells q10)::blkA g9 39 #[i6 x4.pt.lan,i6 x4.pt.cost,i6 x4.i.self,i6 x4.i.prio,i6 x4.i.state,i6 x4.i.dr,i6 x4.i.bdr,.slice B010 q10.length d010,.slice none 0 0]::blkA g2 39 #[i6 x4.pt.lan,i6 x4.pt.cost,i6 x4.i.self,i6 x4.i.prio,i6 x4.i.state,i6 x4.i.dr,i6 x4.i.bdr,.slice B010 q10.length d010,.slice none 0 0]::L) (I) w:=hS
 replace hS:=hS.pk [2,0,0] 2
 obtain rfl:=Option.some.inj ht
 exact rtC hk hCb (hR_ _ _ ⟨(⟨⟨B010,d010⟩,⟨none,0⟩⟩:SlP × SlP),rfl,hS⟩) Tryz.underlying39
def roViewsFL3 (s:RoS):List Nat → (List VwV) → Option ((List VwV))
  | [],v3x0=>some v3x0
  | k3::xs3,v3x0=>optE (lookP s.ports (k3:Int)) (roViewsFL3 s xs3 v3x0) fun x6=>if (x6.i.state:Int) ≠ 0 then optB (roViewF (k3:Int) s) fun q8=>if v3x0.length + 1 ≤ 100000 then roViewsFL3 s xs3 (v3x0 ++ [q8]) else none else roViewsFL3 s xs3 v3x0
def roViewsF (s:RoS):Option ((List VwV)):=optB (roViewsFL3 s (List.range 4) []) fun r3=>some r3
theorem roViews_any {κ:Kap} {L I:List Atom} (P:RoP) (s:RoS) (W:World) {r_:(List VwV)} (ht:(roViewsF s) = some r_) (hS:S κ (roA P s::L) (I) W):
    Calls Tryz.prog 43 #[pt P.g 0] W (fun r w'=>∃ B0 d0,r = .returned (.slice B0 r_.length d0)∧S κ (crA vwFn 39 B0 d0 r_::roA P s::L) (I) w'):=by
 refine wK 31 Tryz.func43 (fun R_ hR_ a hk=>?_)
 refine wp_seq ?_
 refine rgL [] hk ?_
 refine T ?_
 refine rE [0] hk fun a hk=>?_
 refine wp_seq ?_
 refine rgL [] hk ?_
 refine T ?_
 refine rE [0,3] hk fun a hk=>?_
 refine wp_seq ?_
 refine wp_seq ?_
 refine rgL [] hk ?_
 iterate 3 refine T ?_
 obtain ⟨e2,hpl2,hS⟩:=ro_open hS
 refine rD (.agg #[ptO P.p0,ptO P.p1,ptO P.p2,ptO P.p3]) (fun _ h_=>rk (run_loadAV (m:=3) (n:=4) rfl (h_.x hk) (by kernel_rfl) rfl (fun j u hj=>((hS.blk (i:=0) rfl).cell _).trans (arrcell (n:=4) (m:=3) rfl hj)))) ?_
 refine T ?_
 refine rE [0,3,9,10] hk fun a hk=>?_
 replace hS:=ro_close (x:=s) (e:=⟨e2.A,e2.c⟩) hpl2 hS
 obtain ⟨r3,hr3,ht⟩:=optB_s ht
 refine wp_cut (fun a_ w_=>∃ A3x0 c3x0,Fr a_ 31 [(3,.slice A3x0 ((r3).length) c3x0)]∧S κ (crA vwFn 39 A3x0 c3x0 r3::roA P s::L) (I) w_) ?_ ?_
 ·refine wp_block ?_
  refine wp_loop (fun a_ w_=>∃ k3:Nat,∃ v3x0:List VwV,∃ A3x0 c3x0,(k3 ≤ (List.range 4).length)∧roViewsFL3 s ((List.range 4).drop k3) v3x0 = some r3∧(v3x0.length ≤ k3)∧Fr a_ 31 [(0,pt P.g 0),(3,.slice A3x0 ((v3x0).length) c3x0),(9,.agg #[ptO P.p0,ptO P.p1,ptO P.p2,ptO P.p3]),(10,i6 k3)]∧S κ (crA vwFn 39 A3x0 c3x0 v3x0::roA P s::L) (I) w_) (fun a_ _=>(List.range 4).length - (intOf (sl a_ 10)).toNat) ?_ ?_
  ·replace hS:=hS.crNil vwFn 39
   replace hS:S κ (crA vwFn 39 none 0 []::roA P s::L) (I) W:=hS
   exact ⟨0,[],_,_,Nat.zero_le _,hr3,Nat.zero_le _,hk.to,hS⟩
  clear hk hS
  rintro aL3 w ⟨k3,v3x0,A3x0,c3x0,hkl3,hI3,hcl3x0,hk,hS⟩
  have hmu3:=hk.g (s:=10)
  have hlb3:=List.length_range (n:=4)
  refine wp_seq ?_
  refine rgL [] hk ?_
  refine T ?_
  refine rE [0,3,9,10,11] hk fun a hk=>?_
  refine wp_seq ?_
  refine cD hk (fun hc11=>?_) (fun hc11=>?_)
  ·have hklt:k3 < (List.range 4).length:=by simp only [List.length_range] at *;omega
   rw [drop_at (z:=k3) (by simp at hklt;simp [hklt])] at hI3
   refine wp_skip ?_
   refine wp_seq ?_
   refine wp_block ?_
   refine wp_seq ?_
   refine rgL [] hk ?_
   have hix4:k3 < 4:=by simpa using hklt
   refine rD (ptO (lookP P.pts (k3:Int))) (fun _ h_=>rk (run_indexA (n:=4) (e:=81) rfl (h_.x hk) (h_.x hk) (by kernel_rfl) (by kernel_rfl) (by kernel_rfl) (by omega) (agg4 (i:=(k3:Int)) (by omega) (by omega)))) ?_
   refine T ?_
   refine rE [0,3,5,9,10] hk fun a hk=>?_
   refine wp_seq ?_
   refine rgL [] hk ?_
   refine T ?_
   replace hS:=hS.fr 1
   obtain ⟨e5,hpl5,hS⟩:=ro_open hS
   replace hS:=hS.fr 1
   rcases arr_cases (k3:Int) (by rw [pts_len];first | assumption | (simpa using hpl5)) hS with ⟨hq6,hs6,hS⟩ | ⟨g6,x6,hq6,hs6,hS⟩
   ·replace hI3:=(optE_n hs6).symm.trans hI3
    rw [hq6] at hk
    replace hk:Fr a 31 [(0,pt P.g 0),(3,.slice A3x0 ((v3x0).length) c3x0),(5,.pointer none),(9,.agg #[ptO P.p0,ptO P.p1,ptO P.p2,ptO P.p3]),(10,i6 k3)]:=hk
    refine rwV 0 (ptO (lookP P.pts (k3:Int))) (.pointer none) (by rw [hq6];rfl) ?_
    refine rD (.bool false) (fun _ h_=>rk (run_bin2 rfl (h_.x hk) rfl (fun _=>by kernel_rfl) (fun _=>rfl))) ?_
    refine T ?_
    refine oF 2 15 true [3,4,5,6,7,8] ?_
    refine T ?_
    refine rE [0,3,5,9,10,22] hk fun a hk=>?_
    refine cF hk ?_
    refine wp_skip ?_
    refine rgL [] hk ?_
    refine dA hk ?_
    refine T ?_
    refine rE [0,3,9,10] hk fun a hk=>?_
    replace hS:=hS.pk [1,0,0,0,0,0,0,0,0] 0
    replace hS:=ro_close (x:=s) (e:=⟨e5.A,e5.c⟩) hpl5 hS
    replace hS:=hS.pk [1,0] 0
    exact ⟨⟨k3 + 1,v3x0,_,_,by omega,hI3,by (try simp only [List.length_append,List.length_cons,List.length_nil]);omega,hk.to,hS⟩,mu_lt hk.g hmu3 (by omega)⟩
   ·replace hI3:=(optE_s hs6).symm.trans hI3
    rw [hq6] at hk
    replace hk:Fr a 31 [(0,pt P.g 0),(3,.slice A3x0 ((v3x0).length) c3x0),(5,pt g6 0),(9,.agg #[ptO P.p0,ptO P.p1,ptO P.p2,ptO P.p3]),(10,i6 k3)]:=hk
    refine rwV 0 (ptO (lookP P.pts (k3:Int))) (pt g6 0) (by rw [hq6];rfl) ?_
    refine rD (.bool true) (fun _ h_=>rk (run_bin2 rfl (h_.x hk) rfl (fun _=>by kernel_rfl) (fun _=>rfl))) ?_
    iterate 5 refine T ?_
    obtain ⟨e7,hS⟩:=portA_open hS
    refine LD 0 hk hS ?_
    iterate 2 refine T ?_
    refine rE [0,3,5,9,10,22] hk fun a hk=>?_
    refine cD hk (fun hc22=>?_) (fun hc22=>?_)
    ·replace hI3:=(if_pos hc22).symm.trans hI3
     refine rgL [3,4,5] hk ?_
     iterate 3 refine T ?_
     replace hS:=portA_close (x:=x6) (e:=e7) hS
     replace hS:=arr_fill' hq6 hs6 hS
     replace hS:=hS.pk [1,0,0,0,0,0,0,0,0] 0
     replace hS:=ro_close (x:=s) (e:=⟨e5.A,e5.c⟩) hpl5 hS
     obtain ⟨q8,hq8,hI3⟩:=optB_s hI3
     refine eC hk (h:=roView_any P g6 (k3:Int) s _ hq6 hq8 hS) (k:=?_)
     rintro _ w ⟨e08,rfl,hS⟩
     refine ⟨_,rfl,?_⟩
     replace hS:=hS.nz 4
     refine eF (fun a_ h_=>st_lit (e:=39) (cells:=#[i6 q8.lan,i6 q8.cost,i6 q8.i.self,i6 q8.i.prio,i6 q8.i.state,i6 q8.i.dr,i6 q8.i.bdr,.slice e08.1.A q8.peers.length e08.1.c,.slice e08.2.A q8.wants.length e08.2.c]) hS (on_none rfl) rfl (h_.prtL hk) fun g9 w hS _=>⟨_,rfl,?_⟩)
     obtain ⟨hgd11,hI3⟩:=gdE hI3
     replace hS:=hS.pk [4,1,1] 0
     refine eF (fun a_ h_=>capL (bytes:=104) vwFn q8 e08 hS (on_none rfl) rfl (h_.x hk) (h_.x hk) (reads_blk (hS.blk (i:=3) rfl) rfl) (by (try simp only [List.length_append,List.length_cons,List.length_nil,List.length_take,List.length_drop]);omega) fun A12 c12 w hS=>⟨_,rfl,?_⟩)
     replace hS:S κ (crA vwFn 39 A12 c12 (v3x0 ++ [q8])::blkA g9 39 #[i6 q8.lan,i6 q8.cost,i6 q8.i.self,i6 q8.i.prio,i6 q8.i.state,i6 q8.i.dr,i6 q8.i.bdr,.slice e08.1.A q8.peers.length e08.1.c,.slice e08.2.A q8.wants.length e08.2.c]::roA P s::L) (I) w:=hS
     refine T ?_
     refine rE [0,3,9,10] hk fun a hk=>?_
     refine rgL [] hk ?_
     refine dA hk ?_
     refine T ?_
     refine rE [0,3,9,10] hk fun a hk=>?_
     replace hS:=hS.pk [0,1] 1
     exact ⟨⟨k3 + 1,(v3x0 ++ [q8]),_,_,by omega,hI3,by (try simp only [List.length_append,List.length_cons,List.length_nil]);omega,hk.to,hS⟩,mu_lt hk.g hmu3 (by omega)⟩
    replace hI3:=(if_neg hc22).symm.trans hI3
    refine wp_skip ?_
    refine rgL [] hk ?_
    refine dA hk ?_
    refine T ?_
    refine rE [0,3,9,10] hk fun a hk=>?_
    replace hS:=portA_close (x:=x6) (e:=e7) hS
    replace hS:=arr_fill' hq6 hs6 hS
    replace hS:=hS.pk [1,0,0,0,0,0,0,0,0] 0
    replace hS:=ro_close (x:=s) (e:=⟨e5.A,e5.c⟩) hpl5 hS
    replace hS:=hS.pk [1,0] 0
    exact ⟨⟨k3 + 1,v3x0,_,_,by omega,hI3,by (try simp only [List.length_append,List.length_cons,List.length_nil]);omega,hk.to,hS⟩,mu_lt hk.g hmu3 (by omega)⟩
  obtain rfl:k3 = (List.range 4).length:=by (first | omega | (simp only [List.length_range] at *;omega))
  rw [drop_all (Nat.le_refl _)] at hI3
  refine wp_exit ?_
  obtain rfl:=Option.some.inj hI3
  exact ⟨_,_,hk.to,hS⟩
 rintro a w ⟨A3x0,c3x0,hk,hS⟩
 refine wp_seq ?_
 refine rgL [] hk ?_
 iterate 2 refine T ?_
 refine rE [2] hk fun a hk=>?_
 refine wp_ret ?_
 obtain rfl:=Option.some.inj ht
 exact rt1 hk (hR_ _ _ ⟨_,_,rfl,hS⟩)
end
section
set_option maxRecDepth 100000
set_option maxHeartbeats 8000000
theorem lookP_out4 {P:RoP} {i:Int} (h:i < 0 ∨ 3 < i):lookP P.pts i = none:=by
  unfold lookP
  split
  · rw [List.getD_eq_getElem?_getD,List.getElem?_eq_none (by rw [pts_len];omega)];rfl
  · rfl
def ifaceStepF (i:IfV) (e:Int) (l:List CdV):IfV × Bool:=(stepF i e l,decide (stepF i e l ≠ i))
theorem ifaceStepS {κ:Kap} {L I:List Atom} (i:IfV) (e:Int) (l:List CdV) (lA:Option Addr) (lc:Nat) (W:World) (hn:l.length ≤ 90000) (hS:S κ L (rowA (.slice lA l.length lc) 161 4 l.length (rowC CdV.cells l)::I) W):
    Calls Tryz.prog 32 #[.agg #[i6 i.self,i6 i.prio,i6 i.state,i6 i.dr,i6 i.bdr],i6 e,.slice lA l.length lc] W (fun r w'=>r = .returned (.tuple #[.agg #[i6 (((ifaceStepF i e l).1).self),i6 (((ifaceStepF i e l).1).prio),i6 (((ifaceStepF i e l).1).state),i6 (((ifaceStepF i e l).1).dr),i6 (((ifaceStepF i e l).1).bdr)],.bool (ifaceStepF i e l).2])∧S κ L (rowA (.slice lA l.length lc) 161 4 l.length (rowC CdV.cells l)::I) w'):=by
  refine (step_any i e lA l.length lc l W hn (hS.rdI (i:=0) rfl)).mono ?_
  rintro r w' ⟨h1,h2⟩
  exact ⟨h1,hS.below h2⟩
def idxKeyFL3 (x:KeyV):List KeyV → Nat → Except (Int) (Unit)
  | [],k3=>.ok ()
  | z3::xs3,k3=>if x = z3 then .error k3 else idxKeyFL3 x xs3 (k3 + 1)
def idxKeyF (l:List KeyV) (x:KeyV):Int:=exE (idxKeyFL3 x l 0) (fun e=>e) fun r3=>-1
theorem idxKey_any {κ:Kap} {L I:List Atom} (l:List KeyV) (lA:Option Addr) (lc:Nat) (x:KeyV) (W:World) (hS:S κ (L) (rowA (.slice lA l.length lc) 111 3 l.length (rowC KeyV.cells l)::I) W):
    Calls Tryz.prog 206 #[.slice lA l.length lc,.agg #[i6 x.kind,i6 x.id,i6 x.adv]] W (fun r w'=>r = .returned (i6 (idxKeyF l x))∧S κ (L) (rowA (.slice lA l.length lc) 111 3 l.length (rowC KeyV.cells l)::I) w'):=by
 generalize ht:(idxKeyF l x) = t_
 refine wK 19 Tryz.func206 (fun R_ hR_ a hk=>?_)
 refine wp_seq ?_
 refine rgL [0] hk ?_
 refine eB hk hS (fun g2 w hS _=>?_)
 refine T ?_
 refine rE [0,3] hk fun a hk=>?_
 refine wp_seq ?_
 refine wp_seq ?_
 refine rgL [] hk ?_
 iterate 3 refine T ?_
 refine rE [0,3,7,8] hk fun a hk=>?_
 obtain ⟨x3,hr3⟩:∃ y_,idxKeyFL3 x l 0 = y_:=⟨_,rfl⟩
 refine wp_cut (fun a_ w_=>∃ r3,x3 = .ok r3∧Fr a_ 19 []∧S κ (blkA g2 111 #[i6 x.kind,i6 x.id,i6 x.adv]::L) (rowA (.slice lA l.length lc) 111 3 l.length (rowC KeyV.cells l)::I) w_) ?_ ?_
 ·refine wp_block ?_
  refine wp_loop (fun a_ w_=>∃ k3:Nat,(k3 ≤ (l).length)∧idxKeyFL3 x ((l).drop k3) k3 = x3∧Fr a_ 19 [(0,.slice lA l.length lc),(3,pt g2 0),(7,i6 ((l.length:Nat):Int)),(8,i6 k3)]∧S κ (blkA g2 111 #[i6 x.kind,i6 x.id,i6 x.adv]::L) (rowA (.slice lA l.length lc) 111 3 l.length (rowC KeyV.cells l)::I) w_) (fun a_ _=>(l).length - (intOf (sl a_ 8)).toNat) ?_ ?_
  ·exact ⟨0,Nat.zero_le _,hr3,hk.to,hS⟩
  clear hk hS
  rintro aL3 w ⟨k3,hkl3,hI3,hk,hS⟩
  have hmu3:=hk.g (s:=8)
  have hlb3:=hS.rowBI (i:=0) rfl
  refine wp_seq ?_
  refine rgL [] hk ?_
  refine T ?_
  refine rE [0,3,7,8,9] hk fun a hk=>?_
  refine wp_seq ?_
  refine cD hk (fun hc9=>?_) (fun hc9=>?_)
  ·obtain ⟨z3,hz3⟩:=at_k (show k3 < (l).length by omega)
   rw [drop_at hz3] at hI3
   refine wp_skip ?_
   refine wp_seq ?_
   refine wp_block ?_
   refine wp_seq ?_
   refine rgL [] hk ?_
   iterate 2 refine T ?_
   refine rE [0,3,5,7,8] hk fun a hk=>?_
   refine wp_seq ?_
   refine rgR [[],[],[],[1,2],[1,2,3],[0,1,2,3,4]] [] (.rd 0 (.rd 1 (.rd 2 (.rd 3 (.rd 4 (.rd 5 (.fin))))))) hk hS (fun w hS _=>?_)
   refine LDS 0 3 hk hS ?_
   iterate 2 refine T ?_
   refine dX KeyV.cells_len' hk (hS.rdI (i:=0) rfl) (fun b4 o4 z4 hz4 hq4=>?_)
   obtain rfl:z3 = z4:=Option.some.inj (hz3.symm.trans hz4)
   refine dV 3 hq4 hk ?_
   refine rD (.bool (decide (x = z3))) (fun _ h_=>rk (run_bin2 rfl (h_.x hk) (h_.x hk) (fun _=>by first | rfl | kernel_rfl) (KeyV_eql x z3))) ?_
   refine rE [0,3,5,7,8,16] hk fun a hk=>?_
   refine cD hk (fun hc16=>?_) (fun hc16=>?_)
   ·replace hI3:=(if_pos hc16).symm.trans hI3
    refine wp_seq ?_
    refine rgL [] hk ?_
    iterate 2 refine T ?_
    refine rE [4] hk fun a hk=>?_
    refine wp_ret ?_
    replace hS:=hS.pk [] 1
    replace ht:=(exE_eq hr3).symm.trans ht
    subst hI3
    subst ht
    exact rt1 hk (hR_ _ _ ⟨rfl,hS⟩)
   replace hI3:=(if_neg hc16).symm.trans hI3
   refine wp_skip ?_
   refine rgL [] hk ?_
   refine dA hk ?_
   refine T ?_
   refine rE [0,3,7,8] hk fun a hk=>?_
   exact ⟨⟨k3 + 1,by omega,hI3,hk.to,hS⟩,mu_lt hk.g hmu3 (by omega)⟩
  obtain rfl:k3 = (l).length:=by omega
  rw [drop_all (Nat.le_refl _)] at hI3
  refine wp_exit ?_
  subst hI3
  exact ⟨_,rfl,hk.to,hS⟩
 rintro a w ⟨r3,hx,hk,hS⟩
 replace ht:=(exE_o (hr3.trans hx)).symm.trans ht
 refine wp_seq ?_
 refine rgL [] hk ?_
 refine T ?_
 refine rE [4] hk fun a hk=>?_
 refine wp_ret ?_
 replace hS:=hS.pk [] 1
 subst ht
 exact rt1 hk (hR_ _ _ ⟨rfl,hS⟩)
def hasKeyF (l:List KeyV) (x:KeyV):Bool:=decide ((0:Int) ≤ (idxKeyF l x))
theorem hasKey_any {κ:Kap} {L I:List Atom} (l:List KeyV) (lA:Option Addr) (lc:Nat) (x:KeyV) (W:World) (hS:S κ (L) (rowA (.slice lA l.length lc) 111 3 l.length (rowC KeyV.cells l)::I) W):
    Calls Tryz.prog 124 #[.slice lA l.length lc,.agg #[i6 x.kind,i6 x.id,i6 x.adv]] W (fun r w'=>r = .returned (.bool (hasKeyF l x))∧S κ (L) (rowA (.slice lA l.length lc) 111 3 l.length (rowC KeyV.cells l)::I) w'):=by
 generalize ht:(hasKeyF l x) = t_
 refine wK 9 Tryz.func124 (fun R_ hR_ a hk=>?_)
 refine wp_seq ?_
 refine rgL [0] hk ?_
 refine eB hk hS (fun g2 w hS _=>?_)
 refine T ?_
 refine rE [0,3] hk fun a hk=>?_
 refine wp_seq ?_
 refine rgL [2] hk ?_
 refine T ?_
 refine LDS 0 3 hk hS ?_
 refine eC hk (h:=idxKey_any l lA lc x _ hS) (k:=?_)
 rintro _ w ⟨rfl,hS⟩
 refine ⟨_,rfl,?_⟩
 replace hS:=hS.nz 1
 iterate 2 refine T ?_
 refine rE [4] hk fun a hk=>?_
 refine wp_ret ?_
 replace hS:=hS.pk [] 1
 subst ht
 exact rt1 hk (hR_ _ _ ⟨rfl,hS⟩)
def compactF (l:List KeyV):Option (Unit):=if (((l.length:Nat):Int):Int) < 2 then some () else none
theorem compact_any {κ:Kap} {L I:List Atom} (l:List KeyV) (lA:Option Addr) (lc:Nat) (W:World) {r_:Unit} (ht:(compactF l) = some r_) (hS:S κ (L) (rowA (.slice lA l.length lc) 111 3 l.length (rowC KeyV.cells l)::I) W):
    Calls Tryz.prog 130 #[.slice lA l.length lc] W (fun r w'=>r = .returned (.slice lA l.length lc)∧S κ (L) (rowA (.slice lA l.length lc) 111 3 l.length (rowC KeyV.cells l)::I) w'):=by
 refine wK 61 Tryz.func130 (fun R_ hR_ a hk=>?_)
 refine wp_seq ?_
 refine rgL [] hk ?_
 refine T ?_
 refine rE [0] hk fun a hk=>?_
 refine wp_seq ?_
 refine wp_seq ?_
 refine rgL [] hk ?_
 iterate 3 refine T ?_
 refine rE [0,8] hk fun a hk=>?_
 refine cD hk (fun hc8=>?_) (fun hc8=>?_)
 ·replace ht:=(if_pos hc8).symm.trans ht
  refine wp_seq ?_
  refine rgL [] hk ?_
  iterate 2 refine T ?_
  refine rE [2] hk fun a hk=>?_
  refine wp_ret ?_
  obtain rfl:=Option.some.inj ht
  exact rt1 hk (hR_ _ _ ⟨rfl,hS⟩)
 replace ht:=(if_neg hc8).symm.trans ht
 refine wp_skip ?_
 refine wp_seq ?_
 refine wp_seq ?_
 cases ht
def summGoneFL2:List LV → (List KeyV) → Option ((List KeyV))
  | [],v2x0=>some v2x0
  | z2::xs2,v2x0=>if (z2.hd.age:Int) = 60 then if v2x0.length + 1 ≤ 100000 then summGoneFL2 xs2 (v2x0 ++ [(keyOfHF z2.hd)]) else none else summGoneFL2 xs2 v2x0
def summGoneF (l:List LV):Option ((List KeyV)):=optB (summGoneFL2 l []) fun r2=>if r2.length ≤ 100000 then optB (compactF (pdqL keyF r2)) fun q12=>some (pdqL keyF r2) else none
theorem summGone_any {κ:Kap} {L I:List Atom} (l:List LV) (lA:Option Addr) (lc:Nat) (W:World) {r_:(List KeyV)} (ht:(summGoneF l) = some r_) (hS:S κ (L) (crA lsFn 66 lA lc l::I) W):
    Calls Tryz.prog 48 #[.slice lA l.length lc] W (fun r w'=>∃ B0 d0,r = .returned (.slice B0 r_.length d0)∧S κ (rowA (.slice B0 r_.length d0) 111 3 r_.length (rowC KeyV.cells r_)::L) (crA lsFn 66 lA lc l::I) w'):=by
 refine wK 27 Tryz.func48 (fun R_ hR_ a hk=>?_)
 refine wp_seq ?_
 refine rgL [] hk ?_
 refine T ?_
 refine rE [0] hk fun a hk=>?_
 refine wp_seq ?_
 refine rgL [] hk ?_
 refine T ?_
 refine rE [0,3] hk fun a hk=>?_
 refine wp_seq ?_
 refine wp_seq ?_
 refine rgL [] hk ?_
 iterate 3 refine T ?_
 refine rE [3,6,7,8] hk fun a hk=>?_
 obtain ⟨r2,hr2,ht⟩:=optB_s ht
 refine wp_cut (fun a_ w_=>∃ A2x0 c2x0,Fr a_ 27 [(3,.slice A2x0 ((r2).length) c2x0)]∧S κ ((rowA (.slice A2x0 ((r2).length) c2x0) 111 3 ((r2).length) (rowC KeyV.cells r2))::L) (crA lsFn 66 lA lc l::I) w_) ?_ ?_
 ·refine wp_block ?_
  refine wp_loop (fun a_ w_=>∃ k2:Nat,∃ v2x0:List KeyV,∃ A2x0 c2x0,(k2 ≤ (l).length)∧summGoneFL2 ((l).drop k2) v2x0 = some r2∧(v2x0.length ≤ k2)∧Fr a_ 27 [(3,.slice A2x0 ((v2x0).length) c2x0),(6,.slice lA l.length lc),(7,i6 ((l.length:Nat):Int)),(8,i6 k2)]∧S κ ((rowA (.slice A2x0 ((v2x0).length) c2x0) 111 3 ((v2x0).length) (rowC KeyV.cells v2x0))::L) (crA lsFn 66 lA lc l::I) w_) (fun a_ _=>(l).length - (intOf (sl a_ 8)).toNat) ?_ ?_
  ·have hS:=hS.nilrow 111 3
   replace hS:S κ (rowA (.slice none 0 0) 111 3 0 (rowC KeyV.cells [])::L) (crA lsFn 66 lA lc l::I) W:=hS
   exact ⟨0,[],_,_,Nat.zero_le _,hr2,Nat.zero_le _,hk.to,hS⟩
  clear hk hS
  rintro aL2 w ⟨k2,v2x0,A2x0,c2x0,hkl2,hI2,hcl2x0,hk,hS⟩
  have hmu2:=hk.g (s:=8)
  have hlb2:=crLen hS (i:=0)
  refine wp_seq ?_
  refine rgL [] hk ?_
  refine T ?_
  refine rE [3,6,7,8,9] hk fun a hk=>?_
  refine wp_seq ?_
  refine cD hk (fun hc9=>?_) (fun hc9=>?_)
  ·obtain ⟨z2,hz2⟩:=at_k (show k2 < (l).length by omega)
   rw [drop_at hz2] at hI2
   refine wp_skip ?_
   refine wp_seq ?_
   refine wp_block ?_
   refine wp_seq ?_
   refine rgL [2,3] hk ?_
   refine cX 0 hz2 hk hS (fun b3 o3 e3 hS hq3=>?_)
   replace hS:S κ ((rowA (.slice A2x0 ((v2x0).length) c2x0) 111 3 ((v2x0).length) (rowC KeyV.cells v2x0))::L) (rowA (.slice e3.A z2.links.length e3.c) 230 4 z2.links.length (rowC Lk.cells z2.links)::rowA (.slice e3.B z2.mem.length e3.d) 3 1 z2.mem.length (ints z2.mem)::crA lsFn 66 lA lc l::I) w:=hS
   refine dV 9 hq3 hk ?_
   refine eA #[i6 0,i6 0,i6 0,i6 0,i6 0,i6 0,i6 0,.slice none 0 0,.slice none 0 0] hS (fun g4 w hS _=>?_)
   refine eS 0 hk hS (fun w hS _=>?_)
   refine rE [3,5,6,7,8] hk fun a hk=>?_
   refine wp_seq ?_
   refine rgL [] hk ?_
   iterate 2 refine T ?_
   refine LD 0 hk hS ?_
   refine T ?_
   refine rE [3,5,6,7,8,15] hk fun a hk=>?_
   refine cD hk (fun hc15=>?_) (fun hc15=>?_)
   ·replace hI2:=(if_pos hc15).symm.trans hI2
    refine rgL [3,4,5] hk ?_
    iterate 2 refine T ?_
    refine LDS 0 7 hk hS ?_
    refine eC hk (h:=keyOfH_any z2.hd _ hS) (k:=?_)
    rintro _ w ⟨rfl,hS⟩
    refine ⟨_,rfl,?_⟩
    replace hS:=hS.nz 2
    refine eF (fun a_ h_=>st_lit (e:=111) (cells:=#[i6 ((keyOfHF z2.hd).kind),i6 ((keyOfHF z2.hd).id),i6 ((keyOfHF z2.hd).adv)]) hS (on_none rfl) rfl (h_.prtL hk) fun g6 w hS _=>⟨_,rfl,?_⟩)
    obtain ⟨hgd8,hI2⟩:=gdE hI2
    refine eF (fun a_ h_=>sapL (bytes:=24) (ys:=[(keyOfHF z2.hd)]) KeyV.cells_fn hS 2 (on_none rfl) rfl (h_.x hk) (h_.x hk) (reads_blk (hS.blk (i:=0) rfl) rfl) (by (try simp only [List.length_append,List.length_cons,List.length_nil,List.length_take,List.length_drop]);omega) fun A7 c7 w hS=>⟨_,rfl,?_⟩)
    replace hS:S κ (blkA g6 111 #[i6 ((keyOfHF z2.hd).kind),i6 ((keyOfHF z2.hd).id),i6 ((keyOfHF z2.hd).adv)]::blkA g4 66 #[i6 z2.hd.age,i6 z2.hd.kind,i6 z2.hd.id,i6 z2.hd.adv,i6 z2.hd.seq,i6 z2.hd.sum,i6 z2.hd.long,.slice e3.A z2.links.length e3.c,.slice e3.B z2.mem.length e3.d]::(rowA (.slice A7 ((v2x0 ++ [(keyOfHF z2.hd)]).length) c7) 111 3 ((v2x0 ++ [(keyOfHF z2.hd)]).length) (rowC KeyV.cells (v2x0 ++ [(keyOfHF z2.hd)])))::L) (rowA (.slice e3.A z2.links.length e3.c) 230 4 z2.links.length (rowC Lk.cells z2.links)::rowA (.slice e3.B z2.mem.length e3.d) 3 1 z2.mem.length (ints z2.mem)::crA lsFn 66 lA lc l::I) w:=hS
    refine T ?_
    refine rE [3,6,7,8] hk fun a hk=>?_
    refine rgL [] hk ?_
    refine dA hk ?_
    refine T ?_
    refine rE [3,6,7,8] hk fun a hk=>?_
    replace hS:=hS.pk [2] 2
    replace hS:=hS.dropI.dropI
    exact ⟨⟨k2 + 1,(v2x0 ++ [(keyOfHF z2.hd)]),_,_,by omega,hI2,by (try simp only [List.length_append,List.length_cons,List.length_nil]);omega,hk.to,hS⟩,mu_lt hk.g hmu2 (by omega)⟩
   replace hI2:=(if_neg hc15).symm.trans hI2
   refine wp_skip ?_
   refine rgL [] hk ?_
   refine dA hk ?_
   refine T ?_
   refine rE [3,6,7,8] hk fun a hk=>?_
   replace hS:=hS.pk [1] 1
   replace hS:=hS.dropI.dropI
   exact ⟨⟨k2 + 1,v2x0,_,_,by omega,hI2,by (try simp only [List.length_append,List.length_cons,List.length_nil]);omega,hk.to,hS⟩,mu_lt hk.g hmu2 (by omega)⟩
  obtain rfl:k2 = (l).length:=by omega
  rw [drop_all (Nat.le_refl _)] at hI2
  refine wp_exit ?_
  obtain rfl:=Option.some.inj hI2
  exact ⟨_,_,hk.to,hS⟩
 rintro a w ⟨A2x0,c2x0,hk,hS⟩
 refine wp_seq ?_
 refine rgL [1] hk ?_
 refine T ?_
 obtain ⟨hgd9,ht⟩:=gdE ht
 refine eC hk (h:=sortSumm _ _ _ (by omega) hS) (k:=?_)
 rintro _ w ⟨rfl,hS⟩
 refine ⟨_,rfl,?_⟩
 have hpq10:=pdqL_len keyF_swo r2
 replace hS:=hS.nz 1
 refine rE [3] hk fun a hk=>?_
 replace hk:Fr a 27 [(3,.slice A2x0 ((pdqL keyF r2).length) c2x0)]:=by simpa only [pdqL_len keyF_swo] using hk
 refine wp_seq ?_
 refine rgL [1] hk ?_
 refine T ?_
 obtain ⟨J11,hS,hJ11⟩:=S.lend (M:=[_]) hS
 obtain ⟨q12,hq12,ht⟩:=optB_s ht
 refine eC hk (h:=compact_any (pdqL keyF r2) A2x0 c2x0 _ hq12 hS) (k:=?_)
 rintro _ w ⟨rfl,hS⟩
 refine ⟨_,rfl,?_⟩
 replace hS:=hJ11 _ _ hS
 replace hS:=hS.nz 1
 refine T ?_
 refine rE [2] hk fun a hk=>?_
 refine wp_ret ?_
 obtain rfl:=Option.some.inj ht
 exact rt1 hk (hR_ _ _ ⟨_,_,rfl,hS⟩)
end
section
set_option maxRecDepth 100000
set_option maxHeartbeats 8000000
theorem eq_key (x y:KeyV) (w:World):(binOp .eql 111 (.agg x.cells.toArray) (.agg y.cells.toArray)).run Tryz.prog w = .ok (.bool (decide (x = y))) w:=by
  obtain ⟨a1,a2,a3⟩:=x
  obtain ⟨b1,b2,b3⟩:=y
  dsimp only [KeyV.cells]
  go_simp
  repeat' split
  all_goals simp_all
theorem rxmtHas_any {κ:Kap} {L I:List Atom} (g:Nat) (k:KeyV) (l:List (EnV × Int)) (W:World) (hS:S κ ((rxmtA g l)::L) (I) W):
    Calls Tryz.prog 50 #[pt g 0,.agg #[i6 k.kind,i6 k.id,i6 k.adv]] W (fun r w'=>r = .returned (.bool (l.any fun p=>decide (p.1.k = k)))∧S κ (rxmtA g l::L) I w'):=by
 obtain ⟨m,hS⟩:=rxmt_open hS
 have hln:=hS.mapNodup (i:=1) rfl
 refine wK 21 Tryz.func50 (fun R_ hR_ a hk=>?_)
 refine wp_seq ?_
 refine rgL [0] hk ?_
 refine eB hk hS (fun g3 w3 hS3 _=>?_)
 clear hS
 refine T ?_
 refine rE [0,3,4] hk ?_
 clear hk
 intro a2 hk
 refine wp_seq ?_
 refine wp_seq ?_
 refine rgL [] hk ?_
 refine T ?_
 refine rD (.bool false) (fun _ h_=>rk (run_bin2 rfl (h_.x hk) rfl (fun _=>by kernel_rfl) (fun _=>rfl))) ?_
 refine rE [0,3,4,7] hk ?_
 clear hk
 intro a4 hk
 refine cF hk ?_
 refine wp_skip ?_
 refine wp_seq ?_
 refine wp_seq ?_
 refine rgL [4] hk ?_
 iterate 3 refine T ?_
 refine LD 1 hk hS3 ?_
 refine eF (fun a_ h_=>st_range (k:=223) (e:=3) 2 hS3 (on_none rfl) rfl (h_.x hk) fun r6 w6 hS6=>⟨_,rfl,?_⟩)
 clear h_ a_ hS3
 replace hS6:=hS6.nz 3
 refine rE [3,4,12] hk ?_
 clear hk
 intro a5 hk
 refine wp_block ?_
 refine wp_loop (fun a_ w_=>∃ d:List EnV,(d.Nodup)∧(∀ x ∈ d,x ∈ l.map (·.1))∧(∀ p ∈ l,p.1 ∈ d → ¬ p.1.k = k)∧Fr a_ 21 [(3,pt g3 0),(4,.bool false),(12,pt r6 0)]∧S κ (blkA g 221 #[.map (some m)]::(rangeA enE intE m r6 l d)::blkA g3 111 #[i6 k.kind,i6 k.id,i6 k.adv]::L) (I) w_) (fun _ w_=>l.length - (w_.iterSeen r6).size) ?_ ?_
 ·replace hS6:=hS6.fr 2
  replace hS6:=hS6.fr 2
  exact ⟨[],List.nodup_nil,(fun x hx=>by cases hx),(fun p hp hd=>by cases hd),hk.to,hS6⟩
 clear hk hS6
 rintro a7 w7 ⟨d,hc0_0,hc0_1,hc0_2,hk,hS7⟩
 have hmu0:=S.rangeLen hS7 (i:=1) rfl
 refine wp_seq ?_
 refine rgL [0] hk ?_
 refine eF (fun a_ h_=>st_next 1 hS7 (on_none rfl) rfl (h_.x hk) (fun hall=>⟨_,rfl,?_⟩) (fun p w9 hp hpd hS9=>⟨_,rfl,?_⟩))
 ·clear h_ a_
  refine T ?_
  refine rE [3,4,12,13,14] hk ?_
  clear hk
  intro a8 hk
  refine wp_seq ?_
  refine cF hk ?_
  refine wp_exit ?_
  refine wp_seq ?_
  refine rgL [] hk ?_
  refine T ?_
  refine rE [4] hk ?_
  clear hk
  intro a10 hk
  refine wp_ret ?_
  refine rt1 hk (hR_ _ _ ?_)
  replace hS7:=hS7.fr 2
  replace hS7:=hS7.drop
  replace hS7:=hS7.fr 1
  replace hS7:=hS7.fr 1
  have hSe:=S.rangeEnd hS7 (i:=1) rfl
  replace hSe:S κ (blkA g 221 #[.map (some m)]::mapA enE intE m l::L) (I) w7:=hSe
  refine ⟨?_,rxmt_close hSe⟩
  congr 2;symm
  exact List.any_eq_false.2 fun q hq=>by simpa using hc0_2 q hq (hall q hq)
 clear h_ a_ hS7
 replace hS9:=hS9.nz 3
 refine T ?_
 refine rE [3,4,12,13,14] hk ?_
 clear hk
 intro a8 hk
 refine wp_seq ?_
 refine cT hk ?_
 refine wp_skip ?_
 refine wp_block ?_
 refine wp_seq ?_
 have hdl:d.length + 1 ≤ l.length:=by have h1:=nodup_sub_len (l:=p.1::d) (m:=l.map (·.1)) (List.nodup_cons.2 ⟨hpd,hc0_0⟩) (fun x hx=>by rcases List.mem_cons.1 hx with rfl | hx;exact List.mem_map_of_mem hp;exact hc0_1 x hx);simpa using h1
 refine rgL [2,3] hk ?_
 refine rD (.tuple #[.agg #[i6 p.1.lan,i6 p.1.id,i6 p.1.k.kind,i6 p.1.k.id,i6 p.1.k.adv],i6 p.2]) (fun _ h_=>rk (run_entryA (ek:=enE) (ev:=intE) (x:=p.1) (u:=p.2) hS9 (i:=1) rfl hp rfl (h_.x hk))) ?_
 refine T ?_
 refine eA #[i6 0,i6 0,i6 0,i6 0,i6 0] hS9 (fun g12 w12 hS12 _=>?_)
 clear hS9
 refine eS 0 hk hS12 (fun w13 hS13 _=>?_)
 clear hS12
 refine rE [3,4,5,12,13,14,15,16] hk ?_
 clear hk
 intro a11 hk
 refine wp_seq ?_
 refine rgL [] hk ?_
 refine T ?_
 refine LDS 0 3 hk hS13 ?_
 refine LDS 3 3 hk hS13 ?_
 refine rD (.bool (decide (p.1.k = k))) (fun _ h_=>rk (run_bin2 rfl (h_.x hk) (h_.x hk) (fun _=>by kernel_rfl) (eq_key p.1.k k))) ?_
 refine rE [3,4,5,12,13,14,15,16,17,18,19,20] hk ?_
 clear hk
 intro a14 hk
 refine cD hk (fun hc20=>?_) (fun hc20=>?_)
 ·refine wp_seq ?_
  refine rgL [] hk ?_
  refine T ?_
  refine rE [3,4,5,12,13,14,15,16,17,18,19] hk ?_
  clear hk
  intro a15 hk
  refine wp_ret ?_
  refine rt1 hk (hR_ _ _ ?_)
  replace hS13:=hS13.fr 3
  replace hS13:=hS13.fr 1
  replace hS13:=hS13.drop.drop
  replace hS13:=hS13.fr 1
  replace hS13:=hS13.fr 1
  have hSe:=S.rangeEnd hS13 (i:=1) rfl
  replace hSe:S κ (blkA g 221 #[.map (some m)]::mapA enE intE m l::L) (I) w13:=hSe
  refine ⟨?_,rxmt_close hSe⟩
  congr 2;symm
  exact List.any_eq_true.2 ⟨p,hp,decide_eq_true hc20⟩
 refine wp_skip ?_
 replace hS13:=hS13.drop
 replace hS13:=hS13.fr 2
 replace hS13:=hS13.fr 2
 replace hS13:=hS13.fr 2
 have hmuE:=S.rangeLen hS13 (i:=1) rfl
 refine ⟨⟨p.1::d,List.nodup_cons.2 ⟨hpd,hc0_0⟩,(fun x hx=>by rcases List.mem_cons.1 hx with rfl | hx;exact List.mem_map_of_mem hp;exact hc0_1 x hx),(fun q hq hd=>by rcases List.mem_cons.1 hd with e | hd;rw [leftL_keep.pair_eq hln hq hp e];exact hc20;exact hc0_2 q hq hd),hk.to,hS13⟩,?_⟩
 show l.length - (w13.iterSeen r6).size < l.length - (w7.iterSeen r6).size
 rw [hmuE,hmu0]
 simp only [List.length_cons]
 omega
theorem rxmtRemove_any {κ:Kap} {L I:List Atom} (g f:Nat) (cap:Array Value) (pr:EnV → Bool) (l:List (EnV × Int)) (W:World) (hl:l.length ≤ 100000) (hcl:∀ (L':List Atom) w z,S κ L' I w → Calls Tryz.prog f (#[.agg z.cells.toArray] ++ cap) w fun r w'=>r = .returned (.bool (pr z))∧Below w.heap.size w w') (hfn:∀ xs w,(callFunc f xs).run Tryz.prog w = .ok (.enter f xs) w) (hS:S κ ((rxmtA g l)::L) (I) W):
    Calls Tryz.prog 173 #[pt g 0,.func (.func f) #[] cap] W (fun r w'=>∃ k:Int,r = .returned (.int .i64 k)∧S κ (rxmtA g (l.filter fun p=>!pr p.1)::L) I w'):=by
 obtain ⟨m,hS⟩:=rxmt_open hS
 have hln:=hS.mapNodup (i:=1) rfl
 refine wK 30 Tryz.func173 (fun R_ hR_ a hk=>?_)
 refine wp_seq ?_
 refine rgL [] hk ?_
 refine T ?_
 refine rE [0,1,4] hk ?_
 clear hk
 intro a2 hk
 refine wp_seq ?_
 refine rgL [] hk ?_
 refine T ?_
 refine rE [0,1,4,5] hk ?_
 clear hk
 intro a3 hk
 refine wp_seq ?_
 refine wp_seq ?_
 refine rgL [] hk ?_
 refine T ?_
 refine rD (.bool false) (fun _ h_=>rk (run_bin2 rfl (h_.x hk) rfl (fun _=>by kernel_rfl) (fun _=>rfl))) ?_
 refine rE [0,1,4,5,8] hk ?_
 clear hk
 intro a4 hk
 refine cF hk ?_
 refine wp_skip ?_
 refine wp_seq ?_
 refine wp_seq ?_
 refine rgL [4] hk ?_
 iterate 3 refine T ?_
 refine LD 0 hk hS ?_
 refine eF (fun a_ h_=>st_range (k:=223) (e:=3) 1 hS (on_none rfl) rfl (h_.x hk) fun r6 w6 hS6=>⟨_,rfl,?_⟩)
 clear h_ a_ hS
 replace hS6:=hS6.nz 2
 refine rE [0,1,4,5,14] hk ?_
 clear hk
 intro a5 hk
 refine wp_block ?_
 refine wp_loop (fun a_ w_=>∃ d:List EnV,∃ k:Nat,(d.Nodup)∧(∀ x ∈ d,x ∈ l.map (·.1))∧(k ≤ d.length)∧Fr a_ 30 [(0,pt g 0),(1,.func (.func f) #[] cap),(4,i6 0),(5,i6 k),(14,pt r6 0)]∧S κ (blkA g 221 #[.map (some m)]::(rangeA enE intE m r6 (leftL (fun p=>pr p.1) d l) d)::L) (I) w_) (fun _ w_=>l.length - (w_.iterSeen r6).size) ?_ ?_
 ·have hSn3:S κ (blkA g 221 #[.map (some m)]::(rangeA enE intE m r6 (leftL (fun p=>pr p.1) [] l) [])::L) (I) w6:=by rw [leftL_nil];exact hS6
  replace hSn3:=hSn3.fr 1
  replace hSn3:=hSn3.fr 1
  exact ⟨[],0,List.nodup_nil,(fun x hx=>by cases hx),Nat.zero_le _,hk.to,hSn3⟩
 clear hk hS6
 rintro a7 w7 ⟨d,k,hc0_0,hc0_1,hc0_2,hk,hS7⟩
 have hmu0:=S.rangeLen hS7 (i:=1) rfl
 refine wp_seq ?_
 refine rgL [0] hk ?_
 refine eF (fun a_ h_=>st_next 1 hS7 (on_none rfl) rfl (h_.x hk) (fun hall=>⟨_,rfl,?_⟩) (fun p w9 hp hpd hS9=>⟨_,rfl,?_⟩))
 ·clear h_ a_
  refine T ?_
  refine rE [0,1,4,5,14,15,16] hk ?_
  clear hk
  intro a8 hk
  refine wp_seq ?_
  refine cF hk ?_
  refine wp_exit ?_
  refine wp_seq ?_
  refine rgL [] hk ?_
  iterate 2 refine T ?_
  refine rE [4] hk ?_
  clear hk
  intro a10 hk
  refine wp_ret ?_
  refine rt1 hk (hR_ _ _ ?_)
  replace hS7:=hS7.fr 1
  replace hS7:=hS7.fr 1
  have hSe:=S.rangeEnd hS7 (i:=1) rfl
  rw [leftL_all hall] at hSe
  exact ⟨_,rfl,rxmt_close hSe⟩
 clear h_ a_ hS7
 replace hS9:=hS9.nz 2
 refine T ?_
 refine rE [0,1,4,5,14,15,16] hk ?_
 clear hk
 intro a8 hk
 refine wp_seq ?_
 refine cT hk ?_
 refine wp_skip ?_
 refine wp_block ?_
 refine wp_seq ?_
 have hdl:d.length + 1 ≤ l.length:=by have h1:=nodup_sub_len (l:=p.1::d) (m:=l.map (·.1)) (List.nodup_cons.2 ⟨hpd,hc0_0⟩) (fun x hx=>by rcases List.mem_cons.1 hx with rfl | hx;exact List.mem_map_of_mem (leftL_mem hp);exact hc0_1 x hx);simpa using h1
 refine rgL [2,3] hk ?_
 refine rD (.tuple #[.agg #[i6 p.1.lan,i6 p.1.id,i6 p.1.k.kind,i6 p.1.k.id,i6 p.1.k.adv],i6 p.2]) (fun _ h_=>rk (run_entryA (ek:=enE) (ev:=intE) (x:=p.1) (u:=p.2) hS9 (i:=1) rfl hp rfl (h_.x hk))) ?_
 refine T ?_
 refine eA #[i6 0,i6 0,i6 0,i6 0,i6 0] hS9 (fun g12 w12 hS12 _=>?_)
 clear hS9
 refine eS 0 hk hS12 (fun w13 hS13 _=>?_)
 clear hS12
 refine rE [0,1,4,5,6,14,15,16,17,18] hk ?_
 clear hk
 intro a11 hk
 refine wp_seq ?_
 refine rgL [2] hk ?_
 refine T ?_
 refine LDS 0 5 hk hS13 ?_
 refine eV hk (h:=(hcl _ _ p.1 hS13)) (k:=?_) (hf:=(hfn _ _))
 rintro e w15 ⟨rfl,hb15⟩
 refine ⟨_,rfl,?_⟩
 have hS15:=hS13.below hb15
 clear hS13 hb15
 refine rE [0,1,4,5,6,14,15,16,17,18,19,20,21] hk ?_
 clear hk
 intro a14 hk
 refine cB hk (fun hc21=>?_) (fun hc21=>?_)
 ·refine wp_seq ?_
  refine rgR [[],[0],[0,1],[0,1,2],[],[0,1,2,3,4]] [5] (.rd 0 (.rd 1 (.rd 2 (.rd 3 (.rd 4 (.ef 5 (.fin) .non)))))) hk hS15 (fun w16 hS16 _=>?_)
  clear hS15
  iterate 3 refine T ?_
  refine LD 1 hk hS16 ?_
  refine LDS 0 5 hk hS16 ?_
  refine eF (fun a_ h_=>st_rngdel (E:=3) 2 p.1 en_key hS16 (on_none rfl) rfl (h_.x hk) (h_.x hk) fun w17 hS17=>⟨_,rfl,?_⟩)
  clear h_ a_ hS16
  replace hS17:=hS17.nz 3
  refine rE [0,1,4,5,6,14,15,16,17,18,19,20,22,23,24,25,26] hk ?_
  clear hk
  intro a16 hk
  refine rgL [] hk ?_
  refine T ?_
  refine rD (i6 (k + 1)) (fun _ h_=>rk (run_addI rfl (h_.x hk) rfl (by omega) rfl)) ?_
  refine T ?_
  refine rE [0,1,4,5,6,14,15,16,17,18,19,20,22,23,24,25,26,27,28] hk ?_
  clear hk
  intro a18 hk
  replace hS17:=hS17.drop
  replace hS17:=hS17.fr 1
  replace hS17:=hS17.fr 1
  rw [leftL_drop hln (leftL_mem hp) hc21] at hS17
  have hmuE:=S.rangeLen hS17 (i:=1) rfl
  refine ⟨⟨p.1::d,k + 1,List.nodup_cons.2 ⟨hpd,hc0_0⟩,(fun x hx=>by rcases List.mem_cons.1 hx with rfl | hx;exact List.mem_map_of_mem (leftL_mem hp);exact hc0_1 x hx),by simp only [List.length_cons];omega,hk.to,hS17⟩,?_⟩
  show l.length - (w17.iterSeen r6).size < l.length - (w7.iterSeen r6).size
  rw [hmuE,hmu0]
  simp only [List.length_cons]
  omega
 refine wp_skip ?_
 replace hS15:=hS15.drop
 replace hS15:=hS15.fr 1
 replace hS15:=hS15.fr 1
 rw [← leftL_keep hln (leftL_mem hp) hc21] at hS15
 have hmuE:=S.rangeLen hS15 (i:=1) rfl
 refine ⟨⟨p.1::d,k,List.nodup_cons.2 ⟨hpd,hc0_0⟩,(fun x hx=>by rcases List.mem_cons.1 hx with rfl | hx;exact List.mem_map_of_mem (leftL_mem hp);exact hc0_1 x hx),by simp only [List.length_cons];omega,hk.to,hS15⟩,?_⟩
 show l.length - (w15.iterSeen r6).size < l.length - (w7.iterSeen r6).size
 rw [hmuE,hmu0]
 simp only [List.length_cons]
 omega
theorem rxmtDrop1 (z:EnV) (k:KeyV) (b:Nat) (W:World) (hb:Blk W b 111 #[i6 k.kind,i6 k.id,i6 k.adv]):
    Calls Tryz.prog 190 #[.agg #[i6 z.lan,i6 z.id,i6 z.k.kind,i6 z.k.id,i6 z.k.adv],pt b 0] W (fun r w'=>r = .returned (.bool (decide (z.k = k)))∧Below W.heap.size W w'):=by
 have hS:=S.start W
 refine wK 8 Tryz.func190 (fun R_ hR_ a hk=>?_)
 refine wp_seq ?_
 refine rgL [0] hk ?_
 refine eB hk hS (fun g3 w3 hS3 _=>?_)
 clear hS
 refine T ?_
 refine rE [1,2,3] hk ?_
 clear hk
 intro a2 hk
 refine wp_seq ?_
 refine rgL [] hk ?_
 refine T ?_
 refine LDS 0 3 hk hS3 ?_
 refine rD (.agg #[i6 k.kind,i6 k.id,i6 k.adv]) (fun _ h_=>rk (lbS 3 (hb.below (hS3.old (by simp)) hb.lt) rfl (h_.x hk))) ?_
 refine rD (.bool (decide (z.k = k))) (fun _ h_=>rk (run_bin2 rfl (h_.x hk) (h_.x hk) (fun _=>by kernel_rfl) (eq_key z.k k))) ?_
 refine T ?_
 refine rE [3] hk ?_
 clear hk
 intro a4 hk
 refine wp_ret ?_
 refine rt1 hk (hR_ _ _ ?_)
 exact ⟨rfl,(hS3.old (by simp))⟩
theorem rxmtDrop_any {κ:Kap} {L I:List Atom} (g:Nat) (k:KeyV) (l:List (EnV × Int)) (W:World) (hl:l.length ≤ 100000) (hS:S κ ((rxmtA g l)::L) (I) W):
    Calls Tryz.prog 105 #[pt g 0,.agg #[i6 k.kind,i6 k.id,i6 k.adv]] W (fun r w'=>∃ n:Int,r = .returned (.int .i64 n)∧S κ (rxmtA g (l.filter fun p=>!decide (p.1.k = k))::L) I w'):=by
 refine wK 8 Tryz.func105 (fun R_ hR_ a hk=>?_)
 refine wp_seq ?_
 refine rgL [0] hk ?_
 refine eB hk hS (fun g3 w3 hS3 _=>?_)
 clear hS
 refine T ?_
 refine rE [0,3,4] hk ?_
 clear hk
 intro a2 hk
 refine wp_seq ?_
 refine rgL [2] hk ?_
 refine T ?_
 refine rD (.func (.func 190) #[] #[pt g3 0]) (fun _ h_=>rk (run_makeFunc rfl (by simp) (h_.map hk))) ?_
 have hSp:=hS3
 clear hS3
 replace hSp:=hSp.freeze
 refine eC hk (h:=rxmtRemove_any g 190 #[pt g3 0] (fun z=>decide (z.k = k)) l _ hl (fun L' w z h=>rxmtDrop1 z k _ w (h.blkI (i:=0) rfl)) (fun _ _=>by kernel_rfl) hSp) (k:=?_)
 rintro e_ w5 ⟨k5,rfl,hS5⟩
 refine ⟨_,rfl,?_⟩
 clear hSp
 replace hS5:=hS5.dropI
 replace hS5:=hS5.nz 1
 refine T ?_
 refine rE [4] hk ?_
 clear hk
 intro a4 hk
 refine wp_ret ?_
 refine rt1 hk (hR_ _ _ ?_)
 exact ⟨_,rfl,hS5⟩
def rxDropF (l:List (EnV × Int)) (k:KeyV):List (EnV × Int):=l.filter fun p=>!decide (p.1.k = k)
end
section
set_option maxRecDepth 100000
set_option maxHeartbeats 8000000
instance {h:HD}:Decidable (AgeOk h):=by unfold AgeOk;infer_instance
instance {x:LV}:Decidable (LsOk x):=by unfold LsOk;infer_instance
instance {d:DbS}:Decidable (DbOk d):=by unfold DbOk;infer_instance
def roAtF (lan:Int):Unit:=if (lan:Int) < 0 then () else if (3:Int) < lan then () else ()
theorem roAt_any {κ:Kap} {L I:List Atom} (P:RoP) (lan:Int) (s:RoS) (W:World) (hS:S κ (roA P s::L) (I) W):
    Calls Tryz.prog 27 #[pt P.g 0,i6 lan] W (fun r w'=>r = .returned (ptO (lookP P.pts lan))∧S κ (roA P s::L) (I) w'):=by
 generalize ht:(roAtF lan) = t_
 refine wK 21 Tryz.func27 (fun R_ hR_ a hk=>?_)
 refine wp_seq ?_
 refine rgL [] hk ?_
 refine T ?_
 refine rE [0,1] hk fun a hk=>?_
 refine wp_seq ?_
 refine wp_seq ?_
 refine rgL [] hk ?_
 refine T ?_
 refine rD (.bool false) (fun _ h_=>rk (run_bin2 rfl (h_.x hk) rfl (fun _=>by kernel_rfl) (fun _=>rfl))) ?_
 iterate 5 refine T ?_
 rcases dt ((lan:Int) < 0) with ⟨he,hg6⟩ | ⟨he,hg6⟩
 ·rw [he]
  replace ht:=(if_pos hg6).symm.trans ht
  refine oF 6 11 false [7,8] ?_
  refine T ?_
  refine rE [0,1,14] hk fun a hk=>?_
  refine cT hk ?_
  refine wp_seq ?_
  refine rgL [] hk ?_
  refine T ?_
  refine rE [4] hk fun a hk=>?_
  refine wp_ret ?_
  subst ht
  exact rt1 hk (hR_ _ _ ⟨(by first | (rw [lookP_out4 (by omega)];done) | (rw [lookP_out4 (by omega)];rfl)),hS⟩)
 rw [he]
 replace ht:=(if_neg hg6).symm.trans ht
 iterate 3 refine T ?_
 refine rE [0,1,14] hk fun a hk=>?_
 refine cD hk (fun hc14=>?_) (fun hc14=>?_)
 ·replace ht:=(if_pos hc14).symm.trans ht
  refine wp_seq ?_
  refine rgL [] hk ?_
  refine T ?_
  refine rE [4] hk fun a hk=>?_
  refine wp_ret ?_
  subst ht
  exact rt1 hk (hR_ _ _ ⟨(by first | (rw [lookP_out4 (by omega)];done) | (rw [lookP_out4 (by omega)];rfl)),hS⟩)
 replace ht:=(if_neg hc14).symm.trans ht
 refine wp_skip ?_
 refine wp_seq ?_
 refine rgL [] hk ?_
 iterate 4 refine T ?_
 refine rD (pt P.g (3 + lan.toNat)) (fun _ h_=>rk (run_indexP (n:=4) (size:=1) rfl (h_.x hk) (h_.x hk) (by kernel_rfl) (show 0 ≤ lan∧lan < 4 by omega) (by omega))) ?_
 obtain ⟨e2,hpl2,hS⟩:=ro_open hS
 refine rD (ptO (lookP P.pts lan)) (fun _ h_=>rk (run_load rfl (h_.x hk) (by kernel_rfl) (cell4 (hS.blk (i:=0) rfl) (show 0 ≤ lan∧lan < 4 by omega).1 (show 0 ≤ lan∧lan < 4 by omega).2 rfl rfl rfl rfl))) ?_
 refine T ?_
 refine rE [4] hk fun a hk=>?_
 refine wp_ret ?_
 replace hS:=ro_close (x:=s) (e:=⟨e2.A,e2.c⟩) hpl2 hS
 subst ht
 exact rt1 hk (hR_ _ _ ⟨rfl,hS⟩)
def roViewAtF (lan:Int) (s:RoS):Option (VwV × Bool):=optE (lookP s.ports lan) (some ((⟨0,0,(⟨0,0,0,0,0⟩:IfV),[],[]⟩:VwV),false)) fun x5=>optB (roViewF lan s) fun q6=>some (q6,true)
theorem roViewAt_any {κ:Kap} {L I:List Atom} (P:RoP) (lan:Int) (s:RoS) (W:World) {r_:VwV × Bool} (ht:(roViewAtF lan s) = some r_) (hS:S κ (roA P s::L) (I) W):
    Calls Tryz.prog 12 #[pt P.g 0,i6 lan] W (fun r w'=>∃ e0:SlP × SlP,r = .returned (.tuple #[.agg #[i6 r_.1.lan,i6 r_.1.cost,i6 r_.1.i.self,i6 r_.1.i.prio,i6 r_.1.i.state,i6 r_.1.i.dr,i6 r_.1.i.bdr,.slice e0.1.A r_.1.peers.length e0.1.c,.slice e0.2.A r_.1.wants.length e0.2.c],.bool r_.2])∧S κ (rowA (.slice e0.1.A r_.1.peers.length e0.1.c) 90 7 r_.1.peers.length (rowC PeV.cells r_.1.peers)::rowA (.slice e0.2.A r_.1.wants.length e0.2.c) 186 8 r_.1.wants.length (rowC WtV.cells r_.1.wants)::roA P s::L) (I) w'):=by
 refine wK 16 Tryz.func12 (fun R_ hR_ a hk=>?_)
 refine wp_seq ?_
 refine rgL [0] hk ?_
 refine eA #[i6 0,i6 0,i6 0,i6 0,i6 0,i6 0,i6 0,.slice none 0 0,.slice none 0 0] hS (fun g2 w hS _=>?_)
 refine T ?_
 refine rE [0,1,4] hk fun a hk=>?_
 refine wp_seq ?_
 refine rgL [2] hk ?_
 iterate 2 refine T ?_
 replace hS:=hS.pk [1] 0
 refine eC hk (h:=roAt_any P lan s _ hS) (k:=?_)
 rintro _ w ⟨rfl,hS⟩
 refine ⟨_,rfl,?_⟩
 replace hS:=hS.nz 2
 refine T ?_
 refine rE [0,4,6] hk fun a hk=>?_
 refine wp_seq ?_
 refine wp_seq ?_
 refine rgL [] hk ?_
 refine T ?_
 obtain ⟨e4,hpl4,hS⟩:=ro_open hS
 replace hS:=hS.fr 1
 rcases arr_cases lan (by rw [pts_len];first | assumption | (simpa using hpl4)) hS with ⟨hq5,hs5,hS⟩ | ⟨g5,x5,hq5,hs5,hS⟩
 ·replace ht:=(optE_n hs5).symm.trans ht
  rw [hq5] at hk
  replace hk:Fr a 16 [(0,pt P.g 0),(4,pt g2 0),(6,.pointer none)]:=hk.to
  refine rwV 0 (ptO (lookP P.pts lan)) (.pointer none) (by rw [hq5];rfl) ?_
  refine rD (.bool true) (fun _ h_=>rk (run_bin2 rfl (h_.x hk) rfl (fun _=>by kernel_rfl) (fun _=>rfl))) ?_
  refine rE [0,4,6,11] hk fun a hk=>?_
  refine cT hk ?_
  refine wp_seq ?_
  refine rgL [1] hk ?_
  refine rD (.agg #[i6 0,i6 0,i6 0,i6 0,i6 0,i6 0,i6 0,.slice none 0 0,.slice none 0 0]) (fun _ h_=>rk (run_build rfl (h_.prt hk) (by kernel_rfl))) ?_
  refine eS 9 hk hS (fun w hS _=>?_)
  refine T ?_
  refine rE [4,5] hk fun a hk=>?_
  refine wp_ret ?_
  have hCb:=hS.blk (i:=9) rfl
  replace hS:=hS.pk [1,0,0,0,0,0,0,0,0] 0
  replace hS:=ro_close (x:=s) (e:=⟨e4.A,e4.c⟩) hpl4 hS
  have hS:=hS.nilrow 90 7
  replace hS:S κ (rowA (.slice none 0 0) 90 7 0 (rowC PeV.cells [])::roA P s::blkA g2 39 #[i6 0,i6 0,i6 0,i6 0,i6 0,i6 0,i6 0,.slice none 0 0,.slice none 0 0]::L) (I) w:=hS
  have hS:=hS.nilrow 186 8
  replace hS:S κ (rowA (.slice none 0 0) 186 8 0 (rowC WtV.cells [])::rowA (.slice none 0 0) 90 7 0 (rowC PeV.cells [])::roA P s::blkA g2 39 #[i6 0,i6 0,i6 0,i6 0,i6 0,i6 0,i6 0,.slice none 0 0,.slice none 0 0]::L) (I) w:=hS
  replace hS:=hS.pk [1,0,0] 1
  obtain rfl:=Option.some.inj ht
  exact rtCT hk hCb (hR_ _ _ ⟨(⟨⟨none,0⟩,⟨none,0⟩⟩:SlP × SlP),rfl,hS⟩) Tryz.underlying39
 ·replace ht:=(optE_s hs5).symm.trans ht
  rw [hq5] at hk
  replace hk:Fr a 16 [(0,pt P.g 0),(4,pt g2 0),(6,pt g5 0)]:=hk.to
  refine rwV 0 (ptO (lookP P.pts lan)) (pt g5 0) (by rw [hq5];rfl) ?_
  refine rD (.bool false) (fun _ h_=>rk (run_bin2 rfl (h_.x hk) rfl (fun _=>by kernel_rfl) (fun _=>rfl))) ?_
  refine rE [0,4,6,11] hk fun a hk=>?_
  refine cF hk ?_
  refine wp_skip ?_
  refine wp_seq ?_
  refine rgL [2,3] hk ?_
  iterate 2 refine T ?_
  replace hS:=arr_fill' hq5 hs5 hS
  replace hS:=hS.pk [1,0,0,0,0,0,0,0,0] 0
  replace hS:=ro_close (x:=s) (e:=⟨e4.A,e4.c⟩) hpl4 hS
  obtain ⟨q6,hq6,ht⟩:=optB_s ht
  refine eC hk (h:=roView_any P g5 lan s _ hq5 hq6 hS) (k:=?_)
  rintro _ w ⟨e06,rfl,hS⟩
  refine ⟨_,rfl,?_⟩
  replace hS:=hS.nz 4
  refine eS 3 hk hS (fun w hS _=>?_)
  refine T ?_
  refine rE [4,5] hk fun a hk=>?_
  refine wp_ret ?_
  have hCb:=hS.blk (i:=3) rfl
  replace hS:=hS.pk [0,0,0] 1
  obtain rfl:=Option.some.inj ht
  exact rtCT hk hCb (hR_ _ _ ⟨e06,rfl,hS⟩) Tryz.underlying39
def roUpF (pk:Int) (s:RoS):Option (RoS):=optB (lookP s.ports pk) fun x3=>letP (ifaceStepF x3.i 0 []) fun q6=>if -4611686018427387904 ≤ s.now + 1∧s.now + 1 ≤ 4611686018427387904 then if (q6.1.state:Int) = 1 then if -4611686018427387904 ≤ s.now + 8∧s.now + 8 ≤ 4611686018427387904 then some ({ s with ports:=s.ports.set (pk).toNat (some ({ x3 with i:=q6.1 })),w:=(wheelArmF (s.now + 8) [(⟨2,x3.pt.lan,0,(⟨0,0,0⟩:KeyV)⟩:TmV)] (wheelArmF (s.now + 1) [(⟨1,x3.pt.lan,0,(⟨0,0,0⟩:KeyV)⟩:TmV)] s.w)) }) else none else some ({ s with ports:=s.ports.set (pk).toNat (some ({ x3 with i:=q6.1 })),w:=(wheelArmF (s.now + 1) [(⟨1,x3.pt.lan,0,(⟨0,0,0⟩:KeyV)⟩:TmV)] s.w) }) else none
theorem roUp_any {κ:Kap} {L I:List Atom} (P:RoP) (pg:Nat) (pk:Int) (s:RoS) (W:World) (hq_pg:lookP P.pts pk = some pg) {r_:RoS} (ht:(roUpF pk s) = some r_) (hS:S κ (roA P s::L) (I) W):
    Calls Tryz.prog 29 #[pt P.g 0,pt pg 0] W (fun r w'=>r = .returned (.tuple #[])∧S κ (roA P r_::L) (I) w'):=by
 refine wK 55 Tryz.func29 (fun R_ hR_ a hk=>?_)
 refine wp_seq ?_
 refine rgL [5,11] hk ?_
 iterate 4 refine T ?_
 obtain ⟨e2,hpl2,hS⟩:=ro_open hS
 obtain ⟨x3,hs3,ht⟩:=optB_s ht
 replace hS:=hS.fr 1
 replace hS:=arr_at' hq_pg hs3 (by rw [pts_len];first | assumption | (simpa using hpl2)) hS
 obtain ⟨e4,hS⟩:=portA_open hS
 refine LDS 0 5 hk hS ?_
 have hS:=hS.nilrow 161 4
 replace hS:S κ (rowA (.slice none 0 0) 161 4 0 (rowC CdV.cells [])::blkA pg 85 #[i6 x3.pt.lan,i6 x3.pt.prio,i6 x3.pt.cost,i6 x3.i.self,i6 x3.i.prio,i6 x3.i.state,i6 x3.i.dr,i6 x3.i.bdr,pt e4 0]::peersA e4 x3.p::(arrH portA P.pts s.ports ((pk).toNat))::blkA P.g 102 #[i6 s.id,i6 s.now,i6 s.number,ptO P.p0,ptO P.p1,ptO P.p2,ptO P.p3,.map (some P.tm),.map (some P.mm),pt P.dg 0,pt P.wg 0,pt P.lg 0,pt P.ag 0,.slice e2.A s.out.length e2.c]::(mobA taMF P.tm s.talks)::mapA keyE toldE P.mm s.mine::(dbA P.dg s.db)::(wheelA P.wg s.w)::(rxmtA P.lg s.lists)::(acksA P.ag s.later)::crA frFn 58 e2.A e2.c s.out::L) (I) W:=hS
 obtain ⟨J5,hS,hJ5⟩:=S.lend (M:=[_]) hS
 refine eC hk (h:=ifaceStepS x3.i 0 [] none 0 _ (by simp) hS) (k:=?_)
 rintro _ w ⟨rfl,hS⟩
 refine ⟨_,rfl,?_⟩
 generalize hq6:ifaceStepF x3.i 0 [] = q6 at hS ⊢
 replace ht:=(letP_eq hq6).symm.trans ht
 replace hS:=hJ5 _ _ hS
 replace hS:=hS.nz 12
 iterate 5 refine T ?_
 refine eS 1 hk hS (fun w hS _=>?_)
 refine rE [0,1] hk fun a hk=>?_
 refine wp_seq ?_
 refine rgR [[],[0],[0,1],[0,1,2],[],[4],[4,5],[4,5,6],[4,5,6,7],[],[9],[9,10],[9,10,11],[9,10,11,12],[9,10,11,12,13],[9,10,11,12,13,14],[0,1,2,3,4,5,6,7,8,9,10,11,12,13,14,15]] [15,16] (.rd 0 (.rd 1 (.rd 2 (.rd 3 (.rd 4 (.rd 5 (.rd 6 (.rd 7 (.rd 8 (.rd 9 (.rd 10 (.rd 11 (.rd 12 (.rd 13 (.rd 14 (.ef 15 (.ag 0 (.ag 1 (.ag 2 (.ag 3 (.ag 4 (.ag 5 (.ag 6 (.ag 7 (.ag 8 (.ef 16 (.fin) .non)))))))))) .non)))))))))))))))) hk hS (fun w hS _=>?_)
 iterate 3 refine T ?_
 refine LD 4 hk hS ?_
 iterate 3 refine T ?_
 refine LD 4 hk hS ?_
 obtain ⟨hgd7,ht⟩:=gdE ht
 refine dA hk ?_
 iterate 4 refine T ?_
 refine LD 1 hk hS ?_
 refine rD (.agg #[i6 1,i6 x3.pt.lan,i6 0,i6 0,i6 0,i6 0]) (fun _ h_=>rk (run_build rfl (h_.prt hk) (by kernel_rfl))) ?_
 refine eF (fun a_ h_=>st_lit (e:=121) (cells:=#[i6 1,i6 x3.pt.lan,i6 0,i6 0,i6 0,i6 0]) hS (on_none rfl) rfl (h_.prtL hk) fun g8 w hS _=>⟨_,rfl,?_⟩)
 iterate 3 refine TA ?_
 refine aG (fun _ h_=>rk (ld hS 5 rfl (h_.x hk))) ?_
 iterate 3 refine TA ?_
 refine aG (fun _ h_=>rk (ld hS 5 rfl (h_.x hk))) ?_
 refine aG (fun _ h_=>rk (run_addI rfl (h_.x hk) (h_.x hk) (by omega) rfl)) ?_
 replace hS:S κ ((rowA (.slice (some ⟨g8,0,none⟩) 1 1) 121 6 1 (rowC TmV.cells [(⟨1,x3.pt.lan,0,(⟨0,0,0⟩:KeyV)⟩:TmV)]))::rowA (.slice none 0 0) 161 4 0 (rowC CdV.cells [])::blkA pg 85 #[i6 x3.pt.lan,i6 x3.pt.prio,i6 x3.pt.cost,i6 q6.1.self,i6 q6.1.prio,i6 q6.1.state,i6 q6.1.dr,i6 q6.1.bdr,pt e4 0]::peersA e4 x3.p::(arrH portA P.pts s.ports ((pk).toNat))::blkA P.g 102 #[i6 s.id,i6 s.now,i6 s.number,ptO P.p0,ptO P.p1,ptO P.p2,ptO P.p3,.map (some P.tm),.map (some P.mm),pt P.dg 0,pt P.wg 0,pt P.lg 0,pt P.ag 0,.slice e2.A s.out.length e2.c]::(mobA taMF P.tm s.talks)::mapA keyE toldE P.mm s.mine::(dbA P.dg s.db)::(wheelA P.wg s.w)::(rxmtA P.lg s.lists)::(acksA P.ag s.later)::crA frFn 58 e2.A e2.c s.out::L) (I) w:=hS.litRow rfl (by decide)
 obtain ⟨J9,hS,hJ9⟩:=S.lend (M:=[_]) hS
 replace hS:=hS.pk [8] 0
 refine eC hk (h:=wheelArm_any P.wg (s.now + 1) [(⟨1,x3.pt.lan,0,(⟨0,0,0⟩:KeyV)⟩:TmV)] (some ⟨g8,0,none⟩) 1 s.w _ hS) (k:=?_)
 rintro _ w ⟨rfl,hS⟩
 refine ⟨_,rfl,?_⟩
 replace hS:=hJ9 _ _ hS
 replace hS:=hS.nz 13
 refine rE [0,1] hk fun a hk=>?_
 refine wp_seq ?_
 refine rgL [] hk ?_
 iterate 4 refine T ?_
 refine LD 3 hk hS ?_
 refine T ?_
 refine rE [0,1,37] hk fun a hk=>?_
 refine cD hk (fun hc37=>?_) (fun hc37=>?_)
 ·replace ht:=(if_pos hc37).symm.trans ht
  refine rgR [[],[0],[0,1],[0,1,2],[],[4],[4,5],[4,5,6],[4,5,6,7],[],[9],[9,10],[9,10,11],[9,10,11,12],[9,10,11,12,13],[9,10,11,12,13,14],[0,1,2,3,4,5,6,7,8,9,10,11,12,13,14,15]] [15,16] (.rd 0 (.rd 1 (.rd 2 (.rd 3 (.rd 4 (.rd 5 (.rd 6 (.rd 7 (.rd 8 (.rd 9 (.rd 10 (.rd 11 (.rd 12 (.rd 13 (.rd 14 (.ef 15 (.ag 0 (.ag 1 (.ag 2 (.ag 3 (.ag 4 (.ag 5 (.ag 6 (.ag 7 (.ag 8 (.ef 16 (.fin) .non)))))))))) .non)))))))))))))))) hk hS (fun w hS _=>?_)
  iterate 3 refine T ?_
  refine LD 6 hk hS ?_
  iterate 3 refine T ?_
  refine LD 6 hk hS ?_
  obtain ⟨hgd11,ht⟩:=gdE ht
  refine dA hk ?_
  iterate 4 refine T ?_
  refine LD 3 hk hS ?_
  refine rD (.agg #[i6 2,i6 x3.pt.lan,i6 0,i6 0,i6 0,i6 0]) (fun _ h_=>rk (run_build rfl (h_.prt hk) (by kernel_rfl))) ?_
  refine eF (fun a_ h_=>st_lit (e:=121) (cells:=#[i6 2,i6 x3.pt.lan,i6 0,i6 0,i6 0,i6 0]) hS (on_none rfl) rfl (h_.prtL hk) fun g12 w hS _=>⟨_,rfl,?_⟩)
  iterate 3 refine TA ?_
  refine aG (fun _ h_=>rk (ld hS 7 rfl (h_.x hk))) ?_
  iterate 3 refine TA ?_
  refine aG (fun _ h_=>rk (ld hS 7 rfl (h_.x hk))) ?_
  refine aG (fun _ h_=>rk (run_addI rfl (h_.x hk) (h_.x hk) (by omega) rfl)) ?_
  replace hS:S κ ((rowA (.slice (some ⟨g12,0,none⟩) 1 1) 121 6 1 (rowC TmV.cells [(⟨2,x3.pt.lan,0,(⟨0,0,0⟩:KeyV)⟩:TmV)]))::(rowA (.slice (some ⟨g8,0,none⟩) 1 1) 121 6 1 (rowC TmV.cells [(⟨1,x3.pt.lan,0,(⟨0,0,0⟩:KeyV)⟩:TmV)]))::(wheelA P.wg (wheelArmF (s.now + 1) [(⟨1,x3.pt.lan,0,(⟨0,0,0⟩:KeyV)⟩:TmV)] s.w))::rowA (.slice none 0 0) 161 4 0 (rowC CdV.cells [])::blkA pg 85 #[i6 x3.pt.lan,i6 x3.pt.prio,i6 x3.pt.cost,i6 q6.1.self,i6 q6.1.prio,i6 q6.1.state,i6 q6.1.dr,i6 q6.1.bdr,pt e4 0]::peersA e4 x3.p::(arrH portA P.pts s.ports ((pk).toNat))::blkA P.g 102 #[i6 s.id,i6 s.now,i6 s.number,ptO P.p0,ptO P.p1,ptO P.p2,ptO P.p3,.map (some P.tm),.map (some P.mm),pt P.dg 0,pt P.wg 0,pt P.lg 0,pt P.ag 0,.slice e2.A s.out.length e2.c]::(mobA taMF P.tm s.talks)::mapA keyE toldE P.mm s.mine::(dbA P.dg s.db)::(rxmtA P.lg s.lists)::(acksA P.ag s.later)::crA frFn 58 e2.A e2.c s.out::L) (I) w:=hS.litRow rfl (by decide)
  obtain ⟨J13,hS,hJ13⟩:=S.lend (M:=[_]) hS
  replace hS:=hS.pk [1] 0
  refine eC hk (h:=wheelArm_any P.wg (s.now + 8) [(⟨2,x3.pt.lan,0,(⟨0,0,0⟩:KeyV)⟩:TmV)] (some ⟨g12,0,none⟩) 1 (wheelArmF (s.now + 1) [(⟨1,x3.pt.lan,0,(⟨0,0,0⟩:KeyV)⟩:TmV)] s.w) _ hS) (k:=?_)
  rintro _ w ⟨rfl,hS⟩
  refine ⟨_,rfl,?_⟩
  replace hS:=hJ13 _ _ hS
  replace hS:=hS.nz 14
  refine rE [] hk fun a hk=>?_
  replace hS:=hS.pk [4,4] 0
  replace hS:=portA_close (x:={ x3 with i:=q6.1 }) (e:=e4) hS
  replace hS:=hS.pk [0,4] 0
  replace hS:=arr_fill (y:={ x3 with i:=q6.1 }) hq_pg hs3 hS
  have hs15:=lookP_set ({ x3 with i:=q6.1 }) hs3
  replace hS:=hS.pk [5,0,4,4,4,1,3,3,3] 0
  replace hS:=ro_close (x:={ s with ports:=s.ports.set (pk).toNat (some ({ x3 with i:=q6.1 })),w:=(wheelArmF (s.now + 8) [(⟨2,x3.pt.lan,0,(⟨0,0,0⟩:KeyV)⟩:TmV)] (wheelArmF (s.now + 1) [(⟨1,x3.pt.lan,0,(⟨0,0,0⟩:KeyV)⟩:TmV)] s.w)) }) (e:=⟨e2.A,e2.c⟩) (by first | assumption | simpa using hpl2) hS
  replace hS:=hS.pk [0] 3
  obtain rfl:=Option.some.inj ht
  exact rt0 hk (hR_ _ _ ⟨rfl,hS⟩)
 replace ht:=(if_neg hc37).symm.trans ht
 refine wp_skip ?_
 replace hS:=hS.pk [3,3] 0
 replace hS:=portA_close (x:={ x3 with i:=q6.1 }) (e:=e4) hS
 replace hS:=hS.pk [0,3] 0
 replace hS:=arr_fill (y:={ x3 with i:=q6.1 }) hq_pg hs3 hS
 have hs16:=lookP_set ({ x3 with i:=q6.1 }) hs3
 replace hS:=hS.pk [4,0,3,3,3,1,2,2,2] 0
 replace hS:=ro_close (x:={ s with ports:=s.ports.set (pk).toNat (some ({ x3 with i:=q6.1 })),w:=(wheelArmF (s.now + 1) [(⟨1,x3.pt.lan,0,(⟨0,0,0⟩:KeyV)⟩:TmV)] s.w) }) (e:=⟨e2.A,e2.c⟩) (by first | assumption | simpa using hpl2) hS
 replace hS:=hS.pk [0] 2
 obtain rfl:=Option.some.inj ht
 exact rt0 hk (hR_ _ _ ⟨rfl,hS⟩)
def roElectFL11:List PeV → Option (Unit)
  | []=>some ()
  | z11::xs11=>none
def roElectFL20:List PeV → Option (Unit)
  | []=>some ()
  | z20::xs20=>none
def roElectFL30:List PeV → Option (Unit)
  | []=>some ()
  | z30::xs30=>none
def roElectF (pk:Int) (ev:Int) (s:RoS):Option (RoS):=optB (lookP s.ports pk) fun x3=>letP (candL x3.p) fun q5=>if q5.length ≤ 90000 then letP (ifaceStepF x3.i ev q5) fun q7=>cond q7.2 (letP (peAll x3.p) fun q10=>optB (roElectFL11 q10) fun r11=>some ({ s with ports:=s.ports.set (pk).toNat (some ({ x3 with i:=q7.1 })) })) (some s) else none
theorem roElect_any {κ:Kap} {L I:List Atom} (P:RoP) (pg:Nat) (pk:Int) (ev:Int) (s:RoS) (W:World) (hq_pg:lookP P.pts pk = some pg) {r_:RoS} (ht:(roElectF pk ev s) = some r_) (hS:S κ (roA P s::L) (I) W):
    Calls Tryz.prog 28 #[pt P.g 0,pt pg 0,i6 ev] W (fun r w'=>r = .returned (.tuple #[])∧S κ (roA P r_::L) (I) w'):=by
 refine wK 46 Tryz.func28 (fun R_ hR_ a hk=>?_)
 refine wp_seq ?_
 refine rgR [[],[0],[0,1],[0,1,2],[],[],[5],[5,6],[5,6,7],[5,6,7,8],[0,1,2,3,4,5,6,7,8,9],[0,1,2,3,4,5,6,7,8,9,10],[0,1,2,3,4,5,6,7,8,9,10,11],[0,1,2,3,4,5,6,7,8,9,10,11],[],[0,1,2,3,4,5,6,7,8,9,10,11,12,14],[0,1,2,3,4,5,6,7,8,9,10,11,12,13,14,15]] [9,10,14,15] (.rd 0 (.rd 1 (.rd 2 (.rd 3 (.rd 4 (.rd 5 (.rd 6 (.rd 7 (.rd 8 (.ef 9 (.ag 0 (.ag 1 (.ag 2 (.ag 3 (.ag 4 (.ef 10 (.rd 11 (.rd 12 (.rd 13 (.ef 14 (.ag 11 (.ag 12 (.ag 13 (.ef 15 (.ag 13 (.rd 16 (.fin))) .non)))) .non)))) (.ef 14 (.ag 0 (.ag 1 (.ag 2 (.ag 3 (.ag 4 (.ef 10 (.rd 11 (.rd 12 (.rd 13 (.ef 15 (.ag 13 (.rd 16 (.fin))) .non)))) .non)))))) .non))))))) (.ef 14 (.ag 0 (.ag 1 (.ag 2 (.ag 3 (.ag 4 (.ag 5 (.ag 6 (.ag 7 (.ag 8 (.ef 9 (.ag 0 (.ag 1 (.ag 2 (.ag 3 (.ag 4 (.ef 10 (.rd 11 (.rd 12 (.rd 13 (.ef 15 (.ag 13 (.rd 16 (.fin))) .non)))) .non)))))) .non)))))))))) .non))))))))))) hk hS (fun w hS _=>?_)
 iterate 3 refine T ?_
 obtain ⟨e2,hpl2,hS⟩:=ro_open hS
 obtain ⟨x3,hs3,ht⟩:=optB_s ht
 replace hS:=hS.fr 1
 replace hS:=arr_at' hq_pg hs3 (by rw [pts_len];first | assumption | (simpa using hpl2)) hS
 obtain ⟨e4,hS⟩:=portA_open hS
 refine LDS 0 5 hk hS ?_
 iterate 4 refine T ?_
 refine LD 0 hk hS ?_
 refine efk ?_ ?_
 ·replace hS:=hS.pk [1] 0
  refine eC hk (h:=peersCands_any e4 x3.p _ hS) (k:=?_)
  rintro _ w ⟨B05,d05,rfl,hS⟩
  refine ⟨_,rfl,?_⟩
  generalize hq5:candL x3.p = q5 at hS ⊢
  replace ht:=(letP_eq hq5).symm.trans ht
  replace hS:=hS.nz 12
  iterate 3 refine TA ?_
  refine aG (fun _ h_=>rk (lbS 5 (hS.blk (i:=2) rfl) rfl (h_.x hk))) ?_
  refine TA ?_
  refine efk ?_ ?_
  ·obtain ⟨J6,hS,hJ6⟩:=S.lend (M:=[_]) hS
   obtain ⟨hgd8,ht⟩:=gdE ht
   refine eC hk (h:=ifaceStepS x3.i ev q5 B05 d05 _ hgd8 hS) (k:=?_)
   rintro _ w ⟨rfl,hS⟩
   refine ⟨_,rfl,?_⟩
   generalize hq7:ifaceStepF x3.i ev q5 = q7 at hS ⊢
   replace ht:=(letP_eq hq7).symm.trans ht
   replace hS:=hJ6 _ _ hS
   replace hS:=hS.nz 12
   iterate 3 refine T ?_
   refine eA #[i6 0,i6 0,i6 0,i6 0,i6 0] hS (fun g9 w hS _=>?_)
   iterate 3 refine TA ?_
   refine eS 0 hk hS (fun w hS _=>?_)
   refine TA ?_
   refine T ?_
   refine rE [0,1,6,7] hk fun a hk=>?_
   refine wp_seq ?_
   refine wp_seq ?_
   refine rgL [] hk ?_
   iterate 2 refine T ?_
   refine rE [0,1,6,25] hk fun a hk=>?_
   refine cB hk (fun hc25=>?_) (fun hc25=>?_)
   ·replace hc25:=nbt hc25
    replace ht:=(bF hc25).symm.trans ht
    refine wp_ret ?_
    replace hS:=hS.pk [3,2] 0
    replace hS:=portA_close (x:=x3) (e:=e4) hS
    replace hS:=hS.pk [0,2] 0
    replace hS:=arr_fill' hq_pg hs3 hS
    replace hS:=hS.pk [3,0,2,2,2,2,2,2,2] 0
    replace hS:=ro_close (x:=s) (e:=⟨e2.A,e2.c⟩) hpl2 hS
    replace hS:=hS.pk [0] 2
    obtain rfl:=Option.some.inj ht
    exact rt0 hk (hR_ _ _ ⟨rfl,hS⟩)
   replace hc25:=nbf hc25
   replace ht:=(bT hc25).symm.trans ht
   refine wp_skip ?_
   refine wp_seq ?_
   refine rgL [4] hk ?_
   refine T ?_
   refine LDS 0 5 hk hS ?_
   iterate 2 refine T ?_
   refine eS 3 hk hS (fun w hS _=>?_)
   refine rE [0,1] hk fun a hk=>?_
   refine wp_seq ?_
   refine rgL [4] hk ?_
   iterate 3 refine T ?_
   refine LD 3 hk hS ?_
   replace hS:=hS.pk [2] 0
   refine eC hk (h:=peersAll_any e4 x3.p _ hS) (k:=?_)
   rintro _ w ⟨B010,d010,rfl,hS⟩
   refine ⟨_,rfl,?_⟩
   generalize hq10:peAll x3.p = q10 at hS ⊢
   replace ht:=(letP_eq hq10).symm.trans ht
   replace hS:=hS.nz 14
   iterate 2 refine T ?_
   refine rE [0,1,34,35,36] hk fun a hk=>?_
   replace hS:=hS.pk [4,1] 0
   replace hS:=portA_close (x:={ x3 with i:=q7.1 }) (e:=e4) hS
   replace hS:=hS.pk [0,3] 0
   replace hS:=arr_fill (y:={ x3 with i:=q7.1 }) hq_pg hs3 hS
   have hs12:=lookP_set ({ x3 with i:=q7.1 }) hs3
   replace hS:=hS.pk [4,0,3,3,3,3,3,3,3] 0
   replace hS:=ro_close (x:={ s with ports:=s.ports.set (pk).toNat (some ({ x3 with i:=q7.1 })) }) (e:=⟨e2.A,e2.c⟩) (by first | assumption | simpa using hpl2) hS
   obtain ⟨r11,hr11,ht⟩:=optB_s ht
   refine wp_cut (fun a_ w_=>Fr a_ 46 []∧S κ ((roA P ({ s with ports:=s.ports.set (pk).toNat (some ({ x3 with i:=q7.1 })) }))::rowA (.slice B010 q10.length d010) 90 7 q10.length (rowC PeV.cells q10)::blkA g9 35 #[i6 q7.1.self,i6 q7.1.prio,i6 q7.1.state,i6 q7.1.dr,i6 q7.1.bdr]::rowA (.slice B05 q5.length d05) 161 4 q5.length (rowC CdV.cells q5)::L) (I) w_) ?_ ?_
   ·refine wp_block ?_
    refine wp_loop (fun a_ w_=>∃ k11:Nat,(k11 ≤ (q10).length)∧roElectFL11 ((q10).drop k11) = some r11∧Fr a_ 46 [(0,pt P.g 0),(1,pt pg 0),(34,.slice B010 q10.length d010),(35,i6 ((q10.length:Nat):Int)),(36,i6 k11)]∧S κ ((roA P ({ s with ports:=s.ports.set (pk).toNat (some ({ x3 with i:=q7.1 })) }))::rowA (.slice B010 q10.length d010) 90 7 q10.length (rowC PeV.cells q10)::blkA g9 35 #[i6 q7.1.self,i6 q7.1.prio,i6 q7.1.state,i6 q7.1.dr,i6 q7.1.bdr]::rowA (.slice B05 q5.length d05) 161 4 q5.length (rowC CdV.cells q5)::L) (I) w_) (fun a_ _=>(q10).length - (intOf (sl a_ 36)).toNat) ?_ ?_
    ·exact ⟨0,Nat.zero_le _,hr11,hk.to,hS⟩
    clear hk hS
    rintro aL11 w ⟨k11,hkl11,hI11,hk,hS⟩
    have hmu11:=hk.g (s:=36)
    have hlb11:=hS.rowB (i:=1) rfl
    refine wp_seq ?_
    refine rgL [] hk ?_
    refine T ?_
    refine rE [0,1,34,35,36,37] hk fun a hk=>?_
    refine wp_seq ?_
    refine cD hk (fun hc37=>?_) (fun hc37=>?_)
    ·obtain ⟨z11,hz11⟩:=at_k (show k11 < (q10).length by omega)
     rw [drop_at hz11] at hI11
     refine wp_skip ?_
     refine wp_seq ?_
     refine wp_block ?_
     refine wp_seq ?_
     refine rgL [2,3] hk ?_
     refine dX PeV.cells_len' hk (hS.rd (i:=1) rfl) (fun b13 o13 z13 hz13 hq13=>?_)
     obtain rfl:z11 = z13:=Option.some.inj (hz11.symm.trans hz13)
     refine dV 7 hq13 hk ?_
     refine eA #[i6 0,i6 0,i6 0,i6 0,i6 0,.bool false,i6 0] hS (fun g14 w hS _=>?_)
     refine eS 0 hk hS (fun w hS _=>?_)
     refine rE [0,1,9,34,35,36] hk fun a hk=>?_
     cases hI11
    obtain rfl:k11 = (q10).length:=by omega
    rw [drop_all (Nat.le_refl _)] at hI11
    refine wp_exit ?_
    obtain rfl:=Option.some.inj hI11
    exact ⟨hk.to,hS⟩
   rintro a w ⟨hk,hS⟩
   replace hS:=hS.pk [0] 3
   obtain rfl:=Option.some.inj ht
   exact rt0 hk (hR_ _ _ ⟨rfl,hS⟩)
  refine eA #[i6 0,i6 0,i6 0,i6 0,i6 0] hS (fun g15 w hS _=>?_)
  iterate 3 refine TA ?_
  refine aG (fun _ h_=>rk (lbS 5 (hS.blk (i:=3) rfl) rfl (h_.x hk))) ?_
  refine TA ?_
  replace hS:=hS.pk [1] 0
  obtain ⟨J16,hS,hJ16⟩:=S.lend (M:=[_]) hS
  obtain ⟨hgd18,ht⟩:=gdE ht
  refine eC hk (h:=ifaceStepS x3.i ev q5 B05 d05 _ hgd18 hS) (k:=?_)
  rintro _ w ⟨rfl,hS⟩
  refine ⟨_,rfl,?_⟩
  generalize hq17:ifaceStepF x3.i ev q5 = q17 at hS ⊢
  replace ht:=(letP_eq hq17).symm.trans ht
  replace hS:=hJ16 _ _ hS
  replace hS:=hS.nz 13
  iterate 3 refine T ?_
  refine eS 1 hk hS (fun w hS _=>?_)
  refine TA ?_
  refine T ?_
  refine rE [0,1,6,7] hk fun a hk=>?_
  refine wp_seq ?_
  refine wp_seq ?_
  refine rgL [] hk ?_
  iterate 2 refine T ?_
  refine rE [0,1,6,25] hk fun a hk=>?_
  refine cB hk (fun hc25=>?_) (fun hc25=>?_)
  ·replace hc25:=nbt hc25
   replace ht:=(bF hc25).symm.trans ht
   refine wp_ret ?_
   replace hS:=hS.pk [3,2] 0
   replace hS:=portA_close (x:=x3) (e:=e4) hS
   replace hS:=hS.pk [0,2] 0
   replace hS:=arr_fill' hq_pg hs3 hS
   replace hS:=hS.pk [3,0,2,2,2,2,2,2,2] 0
   replace hS:=ro_close (x:=s) (e:=⟨e2.A,e2.c⟩) hpl2 hS
   replace hS:=hS.pk [0] 2
   obtain rfl:=Option.some.inj ht
   exact rt0 hk (hR_ _ _ ⟨rfl,hS⟩)
  replace hc25:=nbf hc25
  replace ht:=(bT hc25).symm.trans ht
  refine wp_skip ?_
  refine wp_seq ?_
  refine rgL [4] hk ?_
  refine T ?_
  refine LDS 1 5 hk hS ?_
  iterate 2 refine T ?_
  refine eS 3 hk hS (fun w hS _=>?_)
  refine rE [0,1] hk fun a hk=>?_
  refine wp_seq ?_
  refine rgL [4] hk ?_
  iterate 3 refine T ?_
  refine LD 3 hk hS ?_
  replace hS:=hS.pk [2] 0
  refine eC hk (h:=peersAll_any e4 x3.p _ hS) (k:=?_)
  rintro _ w ⟨B019,d019,rfl,hS⟩
  refine ⟨_,rfl,?_⟩
  generalize hq19:peAll x3.p = q19 at hS ⊢
  replace ht:=(letP_eq hq19).symm.trans ht
  replace hS:=hS.nz 14
  iterate 2 refine T ?_
  refine rE [0,1,34,35,36] hk fun a hk=>?_
  replace hS:=hS.pk [4,1] 0
  replace hS:=portA_close (x:={ x3 with i:=q17.1 }) (e:=e4) hS
  replace hS:=hS.pk [0,3] 0
  replace hS:=arr_fill (y:={ x3 with i:=q17.1 }) hq_pg hs3 hS
  have hs21:=lookP_set ({ x3 with i:=q17.1 }) hs3
  replace hS:=hS.pk [4,0,3,3,3,3,3,3,3] 0
  replace hS:=ro_close (x:={ s with ports:=s.ports.set (pk).toNat (some ({ x3 with i:=q17.1 })) }) (e:=⟨e2.A,e2.c⟩) (by first | assumption | simpa using hpl2) hS
  obtain ⟨r20,hr20,ht⟩:=optB_s ht
  refine wp_cut (fun a_ w_=>Fr a_ 46 []∧S κ ((roA P ({ s with ports:=s.ports.set (pk).toNat (some ({ x3 with i:=q17.1 })) }))::rowA (.slice B019 q19.length d019) 90 7 q19.length (rowC PeV.cells q19)::rowA (.slice B05 q5.length d05) 161 4 q5.length (rowC CdV.cells q5)::blkA g15 35 #[i6 q17.1.self,i6 q17.1.prio,i6 q17.1.state,i6 q17.1.dr,i6 q17.1.bdr]::L) (I) w_) ?_ ?_
  ·refine wp_block ?_
   refine wp_loop (fun a_ w_=>∃ k20:Nat,(k20 ≤ (q19).length)∧roElectFL20 ((q19).drop k20) = some r20∧Fr a_ 46 [(0,pt P.g 0),(1,pt pg 0),(34,.slice B019 q19.length d019),(35,i6 ((q19.length:Nat):Int)),(36,i6 k20)]∧S κ ((roA P ({ s with ports:=s.ports.set (pk).toNat (some ({ x3 with i:=q17.1 })) }))::rowA (.slice B019 q19.length d019) 90 7 q19.length (rowC PeV.cells q19)::rowA (.slice B05 q5.length d05) 161 4 q5.length (rowC CdV.cells q5)::blkA g15 35 #[i6 q17.1.self,i6 q17.1.prio,i6 q17.1.state,i6 q17.1.dr,i6 q17.1.bdr]::L) (I) w_) (fun a_ _=>(q19).length - (intOf (sl a_ 36)).toNat) ?_ ?_
   ·exact ⟨0,Nat.zero_le _,hr20,hk.to,hS⟩
   clear hk hS
   rintro aL20 w ⟨k20,hkl20,hI20,hk,hS⟩
   have hmu20:=hk.g (s:=36)
   have hlb20:=hS.rowB (i:=1) rfl
   refine wp_seq ?_
   refine rgL [] hk ?_
   refine T ?_
   refine rE [0,1,34,35,36,37] hk fun a hk=>?_
   refine wp_seq ?_
   refine cD hk (fun hc37=>?_) (fun hc37=>?_)
   ·obtain ⟨z20,hz20⟩:=at_k (show k20 < (q19).length by omega)
    rw [drop_at hz20] at hI20
    refine wp_skip ?_
    refine wp_seq ?_
    refine wp_block ?_
    refine wp_seq ?_
    refine rgL [2,3] hk ?_
    refine dX PeV.cells_len' hk (hS.rd (i:=1) rfl) (fun b22 o22 z22 hz22 hq22=>?_)
    obtain rfl:z20 = z22:=Option.some.inj (hz20.symm.trans hz22)
    refine dV 7 hq22 hk ?_
    refine eA #[i6 0,i6 0,i6 0,i6 0,i6 0,.bool false,i6 0] hS (fun g23 w hS _=>?_)
    refine eS 0 hk hS (fun w hS _=>?_)
    refine rE [0,1,9,34,35,36] hk fun a hk=>?_
    cases hI20
   obtain rfl:k20 = (q19).length:=by omega
   rw [drop_all (Nat.le_refl _)] at hI20
   refine wp_exit ?_
   obtain rfl:=Option.some.inj hI20
   exact ⟨hk.to,hS⟩
  rintro a w ⟨hk,hS⟩
  replace hS:=hS.pk [0] 3
  obtain rfl:=Option.some.inj ht
  exact rt0 hk (hR_ _ _ ⟨rfl,hS⟩)
 refine eA #[i6 0,i6 0,i6 0,i6 0,i6 0] hS (fun g24 w hS _=>?_)
 iterate 3 refine TA ?_
 refine aG (fun _ h_=>rk (lbS 5 (hS.blk (i:=1) rfl) rfl (h_.x hk))) ?_
 iterate 4 refine TA ?_
 refine aG (fun _ h_=>rk (ld hS 1 rfl (h_.x hk))) ?_
 replace hS:=hS.pk [2] 0
 refine eC hk (h:=peersCands_any e4 x3.p _ hS) (k:=?_)
 rintro _ w ⟨B025,d025,rfl,hS⟩
 refine ⟨_,rfl,?_⟩
 generalize hq25:candL x3.p = q25 at hS ⊢
 replace ht:=(letP_eq hq25).symm.trans ht
 replace hS:=hS.nz 13
 iterate 3 refine TA ?_
 refine aG (fun _ h_=>rk (lbS 5 (hS.blk (i:=3) rfl) rfl (h_.x hk))) ?_
 refine TA ?_
 obtain ⟨J26,hS,hJ26⟩:=S.lend (M:=[_]) hS
 obtain ⟨hgd28,ht⟩:=gdE ht
 refine eC hk (h:=ifaceStepS x3.i ev q25 B025 d025 _ hgd28 hS) (k:=?_)
 rintro _ w ⟨rfl,hS⟩
 refine ⟨_,rfl,?_⟩
 generalize hq27:ifaceStepF x3.i ev q25 = q27 at hS ⊢
 replace ht:=(letP_eq hq27).symm.trans ht
 replace hS:=hJ26 _ _ hS
 replace hS:=hS.nz 13
 iterate 3 refine T ?_
 refine eS 2 hk hS (fun w hS _=>?_)
 refine TA ?_
 refine T ?_
 refine rE [0,1,6,7] hk fun a hk=>?_
 refine wp_seq ?_
 refine wp_seq ?_
 refine rgL [] hk ?_
 iterate 2 refine T ?_
 refine rE [0,1,6,25] hk fun a hk=>?_
 refine cB hk (fun hc25=>?_) (fun hc25=>?_)
 ·replace hc25:=nbt hc25
  replace ht:=(bF hc25).symm.trans ht
  refine wp_ret ?_
  replace hS:=hS.pk [3,1] 0
  replace hS:=portA_close (x:=x3) (e:=e4) hS
  replace hS:=hS.pk [0,2] 0
  replace hS:=arr_fill' hq_pg hs3 hS
  replace hS:=hS.pk [3,0,2,2,2,2,2,2,2] 0
  replace hS:=ro_close (x:=s) (e:=⟨e2.A,e2.c⟩) hpl2 hS
  replace hS:=hS.pk [0] 2
  obtain rfl:=Option.some.inj ht
  exact rt0 hk (hR_ _ _ ⟨rfl,hS⟩)
 replace hc25:=nbf hc25
 replace ht:=(bT hc25).symm.trans ht
 refine wp_skip ?_
 refine wp_seq ?_
 refine rgL [4] hk ?_
 refine T ?_
 refine LDS 2 5 hk hS ?_
 iterate 2 refine T ?_
 refine eS 3 hk hS (fun w hS _=>?_)
 refine rE [0,1] hk fun a hk=>?_
 refine wp_seq ?_
 refine rgL [4] hk ?_
 iterate 3 refine T ?_
 refine LD 3 hk hS ?_
 replace hS:=hS.pk [1] 0
 refine eC hk (h:=peersAll_any e4 x3.p _ hS) (k:=?_)
 rintro _ w ⟨B029,d029,rfl,hS⟩
 refine ⟨_,rfl,?_⟩
 generalize hq29:peAll x3.p = q29 at hS ⊢
 replace ht:=(letP_eq hq29).symm.trans ht
 replace hS:=hS.nz 14
 iterate 2 refine T ?_
 refine rE [0,1,34,35,36] hk fun a hk=>?_
 replace hS:=hS.pk [4,1] 0
 replace hS:=portA_close (x:={ x3 with i:=q27.1 }) (e:=e4) hS
 replace hS:=hS.pk [0,3] 0
 replace hS:=arr_fill (y:={ x3 with i:=q27.1 }) hq_pg hs3 hS
 have hs31:=lookP_set ({ x3 with i:=q27.1 }) hs3
 replace hS:=hS.pk [4,0,3,3,3,3,3,3,3] 0
 replace hS:=ro_close (x:={ s with ports:=s.ports.set (pk).toNat (some ({ x3 with i:=q27.1 })) }) (e:=⟨e2.A,e2.c⟩) (by first | assumption | simpa using hpl2) hS
 obtain ⟨r30,hr30,ht⟩:=optB_s ht
 refine wp_cut (fun a_ w_=>Fr a_ 46 []∧S κ ((roA P ({ s with ports:=s.ports.set (pk).toNat (some ({ x3 with i:=q27.1 })) }))::rowA (.slice B029 q29.length d029) 90 7 q29.length (rowC PeV.cells q29)::rowA (.slice B025 q25.length d025) 161 4 q25.length (rowC CdV.cells q25)::blkA g24 35 #[i6 q27.1.self,i6 q27.1.prio,i6 q27.1.state,i6 q27.1.dr,i6 q27.1.bdr]::L) (I) w_) ?_ ?_
 ·refine wp_block ?_
  refine wp_loop (fun a_ w_=>∃ k30:Nat,(k30 ≤ (q29).length)∧roElectFL30 ((q29).drop k30) = some r30∧Fr a_ 46 [(0,pt P.g 0),(1,pt pg 0),(34,.slice B029 q29.length d029),(35,i6 ((q29.length:Nat):Int)),(36,i6 k30)]∧S κ ((roA P ({ s with ports:=s.ports.set (pk).toNat (some ({ x3 with i:=q27.1 })) }))::rowA (.slice B029 q29.length d029) 90 7 q29.length (rowC PeV.cells q29)::rowA (.slice B025 q25.length d025) 161 4 q25.length (rowC CdV.cells q25)::blkA g24 35 #[i6 q27.1.self,i6 q27.1.prio,i6 q27.1.state,i6 q27.1.dr,i6 q27.1.bdr]::L) (I) w_) (fun a_ _=>(q29).length - (intOf (sl a_ 36)).toNat) ?_ ?_
  ·exact ⟨0,Nat.zero_le _,hr30,hk.to,hS⟩
  clear hk hS
  rintro aL30 w ⟨k30,hkl30,hI30,hk,hS⟩
  have hmu30:=hk.g (s:=36)
  have hlb30:=hS.rowB (i:=1) rfl
  refine wp_seq ?_
  refine rgL [] hk ?_
  refine T ?_
  refine rE [0,1,34,35,36,37] hk fun a hk=>?_
  refine wp_seq ?_
  refine cD hk (fun hc37=>?_) (fun hc37=>?_)
  ·obtain ⟨z30,hz30⟩:=at_k (show k30 < (q29).length by omega)
   rw [drop_at hz30] at hI30
   refine wp_skip ?_
   refine wp_seq ?_
   refine wp_block ?_
   refine wp_seq ?_
   refine rgL [2,3] hk ?_
   refine dX PeV.cells_len' hk (hS.rd (i:=1) rfl) (fun b32 o32 z32 hz32 hq32=>?_)
   obtain rfl:z30 = z32:=Option.some.inj (hz30.symm.trans hz32)
   refine dV 7 hq32 hk ?_
   refine eA #[i6 0,i6 0,i6 0,i6 0,i6 0,.bool false,i6 0] hS (fun g33 w hS _=>?_)
   refine eS 0 hk hS (fun w hS _=>?_)
   refine rE [0,1,9,34,35,36] hk fun a hk=>?_
   cases hI30
  obtain rfl:k30 = (q29).length:=by omega
  rw [drop_all (Nat.le_refl _)] at hI30
  refine wp_exit ?_
  obtain rfl:=Option.some.inj hI30
  exact ⟨hk.to,hS⟩
 rintro a w ⟨hk,hS⟩
 replace hS:=hS.pk [0] 3
 obtain rfl:=Option.some.inj ht
 exact rt0 hk (hR_ _ _ ⟨rfl,hS⟩)
def roBusyF (s:RoS):Option (Bool):=optB (roViewsF s) fun q2=>some (busyF q2)
theorem roBusy_any {κ:Kap} {L I:List Atom} (P:RoP) (s:RoS) (W:World) {r_:Bool} (ht:(roBusyF s) = some r_) (hS:S κ (roA P s::L) (I) W):
    Calls Tryz.prog 51 #[pt P.g 0] W (fun r w'=>r = .returned (.bool r_)∧S κ (roA P s::L) (I) w'):=by
 refine wK 6 Tryz.func51 (fun R_ hR_ a hk=>?_)
 refine wp_seq ?_
 refine rgL [] hk ?_
 refine T ?_
 refine rE [0] hk fun a hk=>?_
 refine wp_seq ?_
 refine rgL [1,2] hk ?_
 refine T ?_
 obtain ⟨q2,hq2,ht⟩:=optB_s ht
 refine eC hk (h:=roViews_any P s _ hq2 hS) (k:=?_)
 rintro _ w ⟨B02,d02,rfl,hS⟩
 refine ⟨_,rfl,?_⟩
 replace hS:=hS.nz 2
 obtain ⟨J3,hS,hJ3⟩:=S.lend (M:=[_]) hS
 refine eC hk (h:=busy_any q2 B02 d02 _ hS) (k:=?_)
 rintro _ w ⟨rfl,hS⟩
 refine ⟨_,rfl,?_⟩
 replace hS:=hJ3 _ _ hS
 replace hS:=hS.nz 2
 refine T ?_
 refine rE [2] hk fun a hk=>?_
 refine wp_ret ?_
 replace hS:=hS.pk [1] 1
 obtain rfl:=Option.some.inj ht
 exact rt1 hk (hR_ _ _ ⟨rfl,hS⟩)
def roPublishFL16:List Int → Option (Unit)
  | []=>some ()
  | z16::xs16=>none
def roPublishFL13:List SpV → Option (Unit)
  | []=>some ()
  | z13::xs13=>optB (roPublishFL16 z13.listed) fun r16=>cond z13.sent (none) (roPublishFL13 xs13)
def roPublishF (x:LV) (lan:Int) (frm:Int) (vs:List VwV) (s:RoS):Option ((List SpV) × RoS):=if s.lists.length ≤ 100000 then if AgeOk x.hd then if ∀ v ∈ vs,v.peers.length ≤ 100000∧∀ x ∈ v.wants,AgeOk x.hd then if vs.length ≤ 100000 then letP (floodOversF x.hd lan frm vs) fun q8=>optB (roPublishFL13 q8) fun r13=>if (({ s with lists:=(rxDropF s.lists (keyOfHF x.hd)) }).talks).isEmpty = true then some (q8,({ s with lists:=(rxDropF s.lists (keyOfHF x.hd)) })) else none else none else none else none else none
theorem roPublish_any {κ:Kap} {L I:List Atom} (P:RoP) (x:LV) (xp:LP) (lan:Int) (frm:Int) (vs:List VwV) (vsA:Option Addr) (vsc:Nat) (s:RoS) (W:World) {r_:(List SpV) × RoS} (ht:(roPublishF x lan frm vs s) = some r_) (hS:S κ (roA P s::L) (rowA (.slice xp.A x.links.length xp.c) 230 4 x.links.length (rowC Lk.cells x.links)::rowA (.slice xp.B x.mem.length xp.d) 3 1 x.mem.length (ints x.mem)::crA vwFn 39 vsA vsc vs::I) W):
    Calls Tryz.prog 42 #[pt P.g 0,.agg #[i6 x.hd.age,i6 x.hd.kind,i6 x.hd.id,i6 x.hd.adv,i6 x.hd.seq,i6 x.hd.sum,i6 x.hd.long,.slice xp.A x.links.length xp.c,.slice xp.B x.mem.length xp.d],i6 lan,i6 frm,.slice vsA vs.length vsc] W (fun r w'=>∃ B0 d0,r = .returned (.slice B0 r_.1.length d0)∧S κ (crA spFn 200 B0 d0 r_.1::roA P r_.2::L) (rowA (.slice xp.A x.links.length xp.c) 230 4 x.links.length (rowC Lk.cells x.links)::rowA (.slice xp.B x.mem.length xp.d) 3 1 x.mem.length (ints x.mem)::crA vwFn 39 vsA vsc vs::I) w'):=by
 refine wK 88 Tryz.func42 (fun R_ hR_ a hk=>?_)
 refine wp_seq ?_
 refine rgL [0] hk ?_
 refine eB hk hS (fun g2 w hS _=>?_)
 refine T ?_
 refine rE [0,2,3,4,6] hk fun a hk=>?_
 refine wp_seq ?_
 refine rgL [2,3,4] hk ?_
 refine T ?_
 refine LDS 0 7 hk hS ?_
 refine eC hk (h:=keyOfH_any x.hd _ hS) (k:=?_)
 rintro _ w ⟨rfl,hS⟩
 refine ⟨_,rfl,?_⟩
 replace hS:=hS.nz 2
 refine eA #[i6 0,i6 0,i6 0] hS (fun g4 w hS _=>?_)
 refine eS 0 hk hS (fun w hS _=>?_)
 refine rE [0,2,3,4,6,11] hk fun a hk=>?_
 refine wp_seq ?_
 refine rgR [[],[0],[0,1],[0,1,2],[],[0,1,2,3,4]] [5] (.rd 0 (.rd 1 (.rd 2 (.rd 3 (.rd 4 (.ef 5 (.fin) .non)))))) hk hS (fun w hS _=>?_)
 iterate 3 refine T ?_
 replace hS:=hS.fr 2
 obtain ⟨e5,hpl5,hS⟩:=ro_open hS
 refine LD 0 hk hS ?_
 refine LDS 9 3 hk hS ?_
 replace hS:=hS.pk [6] 0
 obtain ⟨hgd7,ht⟩:=gdE ht
 refine eC hk (h:=rxmtDrop_any P.lg (keyOfHF x.hd) s.lists _ hgd7 hS) (k:=?_)
 rintro _ w ⟨n06,rfl,hS⟩
 refine ⟨_,rfl,?_⟩
 replace hS:=hS.nz 11
 refine rE [0,2,3,4,6,11] hk fun a hk=>?_
 refine wp_seq ?_
 refine rgL [5] hk ?_
 refine T ?_
 refine LDS 10 7 hk hS ?_
 iterate 3 refine T ?_
 replace hS:=hS.dupI 2
 obtain ⟨hgd9,ht⟩:=gdE ht
 obtain ⟨hgd10,ht⟩:=gdE ht
 obtain ⟨hgd11,ht⟩:=gdE ht
 refine eC hk (h:=floodOvers_any x.hd lan frm vs vsA vsc _ hgd9 hgd10 hgd11 hS) (k:=?_)
 rintro _ w ⟨B08,d08,rfl,hS⟩
 refine ⟨_,rfl,?_⟩
 generalize hq8:floodOversF x.hd lan frm vs = q8 at hS ⊢
 replace ht:=(letP_eq hq8).symm.trans ht
 replace hS:=hS.dropI
 replace hS:=hS.nz 12
 refine T ?_
 refine rE [0,6,11,12] hk fun a hk=>?_
 refine wp_seq ?_
 refine wp_seq ?_
 refine rgL [] hk ?_
 iterate 3 refine T ?_
 refine rE [0,6,11,12,34,35,36] hk fun a hk=>?_
 obtain ⟨J12,hS,hJ12⟩:=S.lend (M:=[_]) hS
 replace hS:=hS.pk [1,1,1,1,1,1,0,0,0] 0
 replace hS:=ro_close (x:={ s with lists:=(rxDropF s.lists (keyOfHF x.hd)) }) (e:=⟨e5.A,e5.c⟩) hpl5 hS
 obtain ⟨r13,hr13,ht⟩:=optB_s ht
 refine wp_cut (fun a_ w_=>Fr a_ 88 [(0,pt P.g 0),(6,pt g2 0),(12,.slice B08 q8.length d08)]∧S κ ((roA P ({ s with lists:=(rxDropF s.lists (keyOfHF x.hd)) }))::blkA g4 111 #[i6 ((keyOfHF x.hd).kind),i6 ((keyOfHF x.hd).id),i6 ((keyOfHF x.hd).adv)]::blkA g2 66 #[i6 x.hd.age,i6 x.hd.kind,i6 x.hd.id,i6 x.hd.adv,i6 x.hd.seq,i6 x.hd.sum,i6 x.hd.long,.slice xp.A x.links.length xp.c,.slice xp.B x.mem.length xp.d]::L) (crA spFn 200 B08 d08 q8::J12::rowA (.slice xp.A x.links.length xp.c) 230 4 x.links.length (rowC Lk.cells x.links)::rowA (.slice xp.B x.mem.length xp.d) 3 1 x.mem.length (ints x.mem)::crA vwFn 39 vsA vsc vs::I) w_) ?_ ?_
 ·refine wp_block ?_
  refine wp_loop (fun a_ w_=>∃ k13:Nat,(k13 ≤ (q8).length)∧roPublishFL13 ((q8).drop k13) = some r13∧Fr a_ 88 [(0,pt P.g 0),(6,pt g2 0),(11,pt g4 0),(12,.slice B08 q8.length d08),(34,.slice B08 q8.length d08),(35,i6 ((q8.length:Nat):Int)),(36,i6 k13)]∧S κ ((roA P ({ s with lists:=(rxDropF s.lists (keyOfHF x.hd)) }))::blkA g4 111 #[i6 ((keyOfHF x.hd).kind),i6 ((keyOfHF x.hd).id),i6 ((keyOfHF x.hd).adv)]::blkA g2 66 #[i6 x.hd.age,i6 x.hd.kind,i6 x.hd.id,i6 x.hd.adv,i6 x.hd.seq,i6 x.hd.sum,i6 x.hd.long,.slice xp.A x.links.length xp.c,.slice xp.B x.mem.length xp.d]::L) (crA spFn 200 B08 d08 q8::J12::rowA (.slice xp.A x.links.length xp.c) 230 4 x.links.length (rowC Lk.cells x.links)::rowA (.slice xp.B x.mem.length xp.d) 3 1 x.mem.length (ints x.mem)::crA vwFn 39 vsA vsc vs::I) w_) (fun a_ _=>(q8).length - (intOf (sl a_ 36)).toNat) ?_ ?_
  ·exact ⟨0,Nat.zero_le _,hr13,hk.to,hS⟩
  clear hk hS
  rintro aL13 w ⟨k13,hkl13,hI13,hk,hS⟩
  have hmu13:=hk.g (s:=36)
  have hlb13:=crLen hS (i:=0)
  refine wp_seq ?_
  refine rgL [] hk ?_
  refine T ?_
  refine rE [0,6,11,12,34,35,36,37] hk fun a hk=>?_
  refine wp_seq ?_
  refine cD hk (fun hc37=>?_) (fun hc37=>?_)
  ·obtain ⟨z13,hz13⟩:=at_k (show k13 < (q8).length by omega)
   rw [drop_at hz13] at hI13
   refine wp_skip ?_
   refine wp_seq ?_
   refine wp_block ?_
   refine wp_seq ?_
   refine rgL [2,3] hk ?_
   refine cX 0 hz13 hk hS (fun b14 o14 e14 hS hq14=>?_)
   replace hS:S κ ((roA P ({ s with lists:=(rxDropF s.lists (keyOfHF x.hd)) }))::blkA g4 111 #[i6 ((keyOfHF x.hd).kind),i6 ((keyOfHF x.hd).id),i6 ((keyOfHF x.hd).adv)]::blkA g2 66 #[i6 x.hd.age,i6 x.hd.kind,i6 x.hd.id,i6 x.hd.adv,i6 x.hd.seq,i6 x.hd.sum,i6 x.hd.long,.slice xp.A x.links.length xp.c,.slice xp.B x.mem.length xp.d]::L) (rowA (.slice e14.A z13.listed.length e14.c) 3 1 z13.listed.length (ints z13.listed)::crA spFn 200 B08 d08 q8::J12::rowA (.slice xp.A x.links.length xp.c) 230 4 x.links.length (rowC Lk.cells x.links)::rowA (.slice xp.B x.mem.length xp.d) 3 1 x.mem.length (ints x.mem)::crA vwFn 39 vsA vsc vs::I) w:=hS
   refine dV 4 hq14 hk ?_
   refine eA #[i6 0,.slice none 0 0,.bool false,i6 0] hS (fun g15 w hS _=>?_)
   refine eS 0 hk hS (fun w hS _=>?_)
   refine rE [0,6,11,12,14,34,35,36] hk fun a hk=>?_
   refine wp_seq ?_
   refine wp_seq ?_
   refine rgL [] hk ?_
   refine T ?_
   refine LD 0 hk hS ?_
   iterate 2 refine T ?_
   refine rE [0,6,11,12,14,34,35,36,41,42,43] hk fun a hk=>?_
   obtain ⟨r16,hr16,hI13⟩:=optB_s hI13
   refine wp_cut (fun a_ w_=>Fr a_ 88 [(0,pt P.g 0),(6,pt g2 0),(11,pt g4 0),(12,.slice B08 q8.length d08),(14,pt g15 0),(34,.slice B08 q8.length d08),(35,i6 ((q8.length:Nat):Int)),(36,i6 k13)]∧S κ (blkA g15 200 #[i6 z13.lan,.slice e14.A z13.listed.length e14.c,.bool z13.sent,i6 z13.dst]::(roA P ({ s with lists:=(rxDropF s.lists (keyOfHF x.hd)) }))::blkA g4 111 #[i6 ((keyOfHF x.hd).kind),i6 ((keyOfHF x.hd).id),i6 ((keyOfHF x.hd).adv)]::blkA g2 66 #[i6 x.hd.age,i6 x.hd.kind,i6 x.hd.id,i6 x.hd.adv,i6 x.hd.seq,i6 x.hd.sum,i6 x.hd.long,.slice xp.A x.links.length xp.c,.slice xp.B x.mem.length xp.d]::L) (rowA (.slice e14.A z13.listed.length e14.c) 3 1 z13.listed.length (ints z13.listed)::crA spFn 200 B08 d08 q8::J12::rowA (.slice xp.A x.links.length xp.c) 230 4 x.links.length (rowC Lk.cells x.links)::rowA (.slice xp.B x.mem.length xp.d) 3 1 x.mem.length (ints x.mem)::crA vwFn 39 vsA vsc vs::I) w_) ?_ ?_
   ·refine wp_block ?_
    refine wp_loop (fun a_ w_=>∃ k16:Nat,(k16 ≤ (z13.listed).length)∧roPublishFL16 ((z13.listed).drop k16) = some r16∧Fr a_ 88 [(0,pt P.g 0),(6,pt g2 0),(11,pt g4 0),(12,.slice B08 q8.length d08),(14,pt g15 0),(34,.slice B08 q8.length d08),(35,i6 ((q8.length:Nat):Int)),(36,i6 k13),(41,.slice e14.A z13.listed.length e14.c),(42,i6 ((z13.listed.length:Nat):Int)),(43,i6 k16)]∧S κ (blkA g15 200 #[i6 z13.lan,.slice e14.A z13.listed.length e14.c,.bool z13.sent,i6 z13.dst]::(roA P ({ s with lists:=(rxDropF s.lists (keyOfHF x.hd)) }))::blkA g4 111 #[i6 ((keyOfHF x.hd).kind),i6 ((keyOfHF x.hd).id),i6 ((keyOfHF x.hd).adv)]::blkA g2 66 #[i6 x.hd.age,i6 x.hd.kind,i6 x.hd.id,i6 x.hd.adv,i6 x.hd.seq,i6 x.hd.sum,i6 x.hd.long,.slice xp.A x.links.length xp.c,.slice xp.B x.mem.length xp.d]::L) (rowA (.slice e14.A z13.listed.length e14.c) 3 1 z13.listed.length (ints z13.listed)::crA spFn 200 B08 d08 q8::J12::rowA (.slice xp.A x.links.length xp.c) 230 4 x.links.length (rowC Lk.cells x.links)::rowA (.slice xp.B x.mem.length xp.d) 3 1 x.mem.length (ints x.mem)::crA vwFn 39 vsA vsc vs::I) w_) (fun a_ _=>(z13.listed).length - (intOf (sl a_ 43)).toNat) ?_ ?_
    ·exact ⟨0,Nat.zero_le _,hr16,hk.to,hS⟩
    clear hk hS
    rintro aL16 w ⟨k16,hkl16,hI16,hk,hS⟩
    have hmu16:=hk.g (s:=43)
    have hlb16:=hS.rowBI (i:=0) rfl
    refine wp_seq ?_
    refine rgL [] hk ?_
    refine T ?_
    refine rE [0,6,11,12,14,34,35,36,41,42,43,44] hk fun a hk=>?_
    refine wp_seq ?_
    refine cD hk (fun hc44=>?_) (fun hc44=>?_)
    ·obtain ⟨z16,hz16⟩:=at_k (show k16 < (z13.listed).length by omega)
     rw [drop_at hz16] at hI16
     refine wp_skip ?_
     refine wp_seq ?_
     refine wp_block ?_
     refine wp_seq ?_
     refine rgL [] hk ?_
     refine dN hk (hS.rdI (i:=0) rfl) (fun b17 o17 z17 hz17 hq17=>?_)
     obtain rfl:z16 = z17:=Option.some.inj (hz16.symm.trans hz17)
     refine dF0 hq17 hk ?_
     refine T ?_
     refine rE [0,6,11,12,14,16,34,35,36,41,42,43] hk fun a hk=>?_
     cases hI16
    obtain rfl:k16 = (z13.listed).length:=by omega
    rw [drop_all (Nat.le_refl _)] at hI16
    refine wp_exit ?_
    obtain rfl:=Option.some.inj hI16
    exact ⟨hk.to,hS⟩
   rintro a w ⟨hk,hS⟩
   refine wp_seq ?_
   refine rgL [] hk ?_
   refine T ?_
   refine LD 0 hk hS ?_
   refine rE [0,6,11,12,14,34,35,36,61] hk fun a hk=>?_
   refine cB hk (fun hc61=>?_) (fun hc61=>?_)
   ·replace hI13:=(bT hc61).symm.trans hI13
    cases hI13
   replace hI13:=(bF hc61).symm.trans hI13
   refine wp_skip ?_
   refine rgL [] hk ?_
   refine dA hk ?_
   refine T ?_
   refine rE [0,6,11,12,34,35,36] hk fun a hk=>?_
   replace hS:=hS.pk [1,1,1] 1
   replace hS:=hS.dropI
   exact ⟨⟨k13 + 1,by omega,hI13,hk.to,hS⟩,mu_lt hk.g hmu13 (by omega)⟩
  obtain rfl:k13 = (q8).length:=by omega
  rw [drop_all (Nat.le_refl _)] at hI13
  refine wp_exit ?_
  obtain rfl:=Option.some.inj hI13
  exact ⟨hk.to,hS⟩
 rintro a w ⟨hk,hS⟩
 replace hS:=hJ12 _ _ hS
 replace hS:=hS.nz 4
 refine wp_seq ?_
 refine wp_seq ?_
 refine rgL [4] hk ?_
 iterate 3 refine T ?_
 replace hS:=hS.fr 1
 obtain ⟨e18,hpl18,hS⟩:=ro_open hS
 refine LD 0 hk hS ?_
 replace hS:=hS.fr 2
 obtain ⟨q19,hq19,hS⟩:=mob_open (F:=taMF) hS
 obtain ⟨hgd20,ht⟩:=gdE ht
 obtain rfl:q19 = []:=by cases q19 with | nil=>rfl | cons _ _=>(rw [List.isEmpty_iff.1 hgd20] at hq19;cases hq19)
 refine eF (fun a_ h_=>st_range (k:=157) (e:=179) 0 hS (on_none rfl) rfl (h_.x hk) fun r21q w hS=>⟨_,rfl,?_⟩)
 replace hS:=hS.nz 13
 refine rE [6,12,75] hk fun a hk=>?_
 refine wp_block ?_
 refine wp_loop (fun a_ w_=>Fr a_ 88 [(6,pt g2 0),(12,.slice B08 q8.length d08),(75,pt r21q 0)]∧S κ ((rangeA taMF.ek taMF.ev P.tm r21q [] [])::(mobI taMF [])::(blkA P.g 102 #[i6 (({ s with lists:=(rxDropF s.lists (keyOfHF x.hd)) }).id),i6 (({ s with lists:=(rxDropF s.lists (keyOfHF x.hd)) }).now),i6 (({ s with lists:=(rxDropF s.lists (keyOfHF x.hd)) }).number),ptO P.p0,ptO P.p1,ptO P.p2,ptO P.p3,.map (some P.tm),.map (some P.mm),pt P.dg 0,pt P.wg 0,pt P.lg 0,pt P.ag 0,.slice e18.A (({ s with lists:=(rxDropF s.lists (keyOfHF x.hd)) }).out.length) e18.c])::(arrA portA P.pts (({ s with lists:=(rxDropF s.lists (keyOfHF x.hd)) }).ports))::(mapA keyE toldE P.mm (({ s with lists:=(rxDropF s.lists (keyOfHF x.hd)) }).mine))::(dbA P.dg (({ s with lists:=(rxDropF s.lists (keyOfHF x.hd)) }).db))::(wheelA P.wg (({ s with lists:=(rxDropF s.lists (keyOfHF x.hd)) }).w))::(rxmtA P.lg (({ s with lists:=(rxDropF s.lists (keyOfHF x.hd)) }).lists))::(acksA P.ag (({ s with lists:=(rxDropF s.lists (keyOfHF x.hd)) }).later))::(crA frFn 58 e18.A e18.c (({ s with lists:=(rxDropF s.lists (keyOfHF x.hd)) }).out))::crA spFn 200 B08 d08 q8::blkA g4 111 #[i6 ((keyOfHF x.hd).kind),i6 ((keyOfHF x.hd).id),i6 ((keyOfHF x.hd).adv)]::blkA g2 66 #[i6 x.hd.age,i6 x.hd.kind,i6 x.hd.id,i6 x.hd.adv,i6 x.hd.seq,i6 x.hd.sum,i6 x.hd.long,.slice xp.A x.links.length xp.c,.slice xp.B x.mem.length xp.d]::L) (rowA (.slice xp.A x.links.length xp.c) 230 4 x.links.length (rowC Lk.cells x.links)::rowA (.slice xp.B x.mem.length xp.d) 3 1 x.mem.length (ints x.mem)::crA vwFn 39 vsA vsc vs::I) w_) (fun _ _=>0) ?_ ?_
 ·exact ⟨hk.to,hS⟩
 clear hk hS
 rintro a w ⟨hk,hS⟩
 refine wp_seq ?_
 refine rgL [0] hk ?_
 refine eF (fun a_ h_=>st_next 0 hS (on_none rfl) rfl (h_.x hk) (fun hall=>⟨_,rfl,?_⟩) (fun p22 w hp22 hpd22 hS=>absurd hp22 List.not_mem_nil))
 refine T ?_
 refine rE [6,12,75,77] hk fun a hk=>?_
 refine wp_seq ?_
 refine cF hk ?_
 refine wp_exit ?_
 replace hS:=hS.rangeEnd (i:=0) rfl
 replace hS:=hS.nz 13
 refine wp_seq ?_
 refine rgL [] hk ?_
 iterate 2 refine T ?_
 refine rE [10] hk fun a hk=>?_
 refine wp_ret ?_
 replace hS:=mob_close (F:=taMF) hq19 hS
 replace hS:=hS.pk [1,1,0,0,0,0,0,0,0] 0
 replace hS:=ro_close (x:=({ s with lists:=(rxDropF s.lists (keyOfHF x.hd)) })) (e:=⟨e18.A,e18.c⟩) hpl18 hS
 replace hS:=hS.pk [1,0] 2
 obtain rfl:=Option.some.inj ht
 exact rt1 hk (hR_ _ _ ⟨_,_,rfl,hS⟩)
def roLateFL11:List Int → Option (Unit)
  | []=>some ()
  | z11::xs11=>none
def roLateFL3 (s:RoS):List Nat → Option (Unit)
  | []=>some ()
  | k3::xs3=>optE (lookP s.ports (k3:Int)) (roLateFL3 s xs3) fun x6=>if 0 ≤ s.now∧s.now ≤ 1000000000000 then if PeOk x6.p then letP (lateL s.now x6.p) fun q8=>optB (roLateFL11 q8) fun r11=>roLateFL3 s xs3 else none else none
def roLateF (s:RoS):Option (Unit):=optB (roLateFL3 s (List.range 4)) fun r3=>some ()
theorem roLate_any {κ:Kap} {L I:List Atom} (P:RoP) (s:RoS) (W:World) {r_:Unit} (ht:(roLateF s) = some r_) (hS:S κ (roA P s::L) (I) W):
    Calls Tryz.prog 46 #[pt P.g 0] W (fun r w'=>r = .returned (.tuple #[])∧S κ (roA P s::L) (I) w'):=by
 refine wK 35 Tryz.func46 (fun R_ hR_ a hk=>?_)
 refine wp_seq ?_
 refine rgL [] hk ?_
 iterate 3 refine T ?_
 obtain ⟨e2,hpl2,hS⟩:=ro_open hS
 refine rD (.agg #[ptO P.p0,ptO P.p1,ptO P.p2,ptO P.p3]) (fun _ h_=>rk (run_loadAV (m:=3) (n:=4) rfl (h_.x hk) (by kernel_rfl) rfl (fun j u hj=>((hS.blk (i:=0) rfl).cell _).trans (arrcell (n:=4) (m:=3) rfl hj)))) ?_
 refine T ?_
 refine rE [0,9,10] hk fun a hk=>?_
 replace hS:=ro_close (x:=s) (e:=⟨e2.A,e2.c⟩) hpl2 hS
 obtain ⟨r3,hr3,ht⟩:=optB_s ht
 refine wp_cut (fun a_ w_=>Fr a_ 35 []∧S κ (roA P s::L) (I) w_) ?_ ?_
 ·refine wp_block ?_
  refine wp_loop (fun a_ w_=>∃ k3:Nat,(k3 ≤ (List.range 4).length)∧roLateFL3 s ((List.range 4).drop k3) = some r3∧Fr a_ 35 [(0,pt P.g 0),(9,.agg #[ptO P.p0,ptO P.p1,ptO P.p2,ptO P.p3]),(10,i6 k3)]∧S κ (roA P s::L) (I) w_) (fun a_ _=>(List.range 4).length - (intOf (sl a_ 10)).toNat) ?_ ?_
  ·exact ⟨0,Nat.zero_le _,hr3,hk.to,hS⟩
  clear hk hS
  rintro aL3 w ⟨k3,hkl3,hI3,hk,hS⟩
  have hmu3:=hk.g (s:=10)
  have hlb3:=List.length_range (n:=4)
  refine wp_seq ?_
  refine rgL [] hk ?_
  refine T ?_
  refine rE [0,9,10,11] hk fun a hk=>?_
  refine wp_seq ?_
  refine cD hk (fun hc11=>?_) (fun hc11=>?_)
  ·have hklt:k3 < (List.range 4).length:=by simp only [List.length_range] at *;omega
   rw [drop_at (z:=k3) (by simp at hklt;simp [hklt])] at hI3
   refine wp_skip ?_
   refine wp_seq ?_
   refine wp_block ?_
   refine wp_seq ?_
   refine rgL [] hk ?_
   have hix4:k3 < 4:=by simpa using hklt
   refine rD (ptO (lookP P.pts (k3:Int))) (fun _ h_=>rk (run_indexA (n:=4) (e:=81) rfl (h_.x hk) (h_.x hk) (by kernel_rfl) (by kernel_rfl) (by kernel_rfl) (by omega) (agg4 (i:=(k3:Int)) (by omega) (by omega)))) ?_
   refine T ?_
   refine rE [0,3,9,10] hk fun a hk=>?_
   refine wp_seq ?_
   refine wp_seq ?_
   refine rgL [] hk ?_
   refine T ?_
   obtain ⟨e5,hpl5,hS⟩:=ro_open hS
   replace hS:=hS.fr 1
   rcases arr_cases (k3:Int) (by rw [pts_len];first | assumption | (simpa using hpl5)) hS with ⟨hq6,hs6,hS⟩ | ⟨g6,x6,hq6,hs6,hS⟩
   ·replace hI3:=(optE_n hs6).symm.trans hI3
    rw [hq6] at hk
    replace hk:Fr a 35 [(0,pt P.g 0),(3,.pointer none),(9,.agg #[ptO P.p0,ptO P.p1,ptO P.p2,ptO P.p3]),(10,i6 k3)]:=hk.to
    refine rwV 0 (ptO (lookP P.pts (k3:Int))) (.pointer none) (by rw [hq6];rfl) ?_
    refine rD (.bool true) (fun _ h_=>rk (run_bin2 rfl (h_.x hk) rfl (fun _=>by kernel_rfl) (fun _=>rfl))) ?_
    refine rE [0,3,9,10,14] hk fun a hk=>?_
    refine cT hk ?_
    refine wp_exit ?_
    refine rgL [] hk ?_
    refine dA hk ?_
    refine T ?_
    refine rE [0,9,10] hk fun a hk=>?_
    replace hS:=hS.pk [1,0,0,0,0,0,0,0,0] 0
    replace hS:=ro_close (x:=s) (e:=⟨e5.A,e5.c⟩) hpl5 hS
    exact ⟨⟨k3 + 1,by omega,hI3,hk.to,hS⟩,mu_lt hk.g hmu3 (by omega)⟩
   ·replace hI3:=(optE_s hs6).symm.trans hI3
    rw [hq6] at hk
    replace hk:Fr a 35 [(0,pt P.g 0),(3,pt g6 0),(9,.agg #[ptO P.p0,ptO P.p1,ptO P.p2,ptO P.p3]),(10,i6 k3)]:=hk.to
    refine rwV 0 (ptO (lookP P.pts (k3:Int))) (pt g6 0) (by rw [hq6];rfl) ?_
    refine rD (.bool false) (fun _ h_=>rk (run_bin2 rfl (h_.x hk) rfl (fun _=>by kernel_rfl) (fun _=>rfl))) ?_
    refine rE [0,3,9,10,14] hk fun a hk=>?_
    refine cF hk ?_
    refine wp_skip ?_
    refine wp_seq ?_
    refine rgR [[],[0],[0,1],[0,1,2],[],[4],[4,5],[4,5,6],[0,1,2,3,4,5,6,7],[0,1,2,3,4,5,6,7,8],[]] [8] (.rd 0 (.rd 1 (.rd 2 (.rd 3 (.rd 4 (.rd 5 (.rd 6 (.rd 7 (.rd 10 (.ef 8 (.rd 9 (.ag 10 (.fin))) .non)))))))))) hk hS (fun w hS _=>?_)
    iterate 3 refine T ?_
    obtain ⟨e7,hS⟩:=portA_open hS
    refine LD 0 hk hS ?_
    iterate 3 refine T ?_
    refine LD 3 hk hS ?_
    refine T ?_
    replace hS:=hS.pk [1] 0
    obtain ⟨hgd9,hI3⟩:=gdE hI3
    obtain ⟨hgd10,hI3⟩:=gdE hI3
    refine eC hk (h:=peersLateC e7 x6.p _ s.now hgd9 hgd10 hS) (k:=?_)
    rintro _ w ⟨B08,d08,rfl,hS⟩
    refine ⟨_,rfl,?_⟩
    generalize hq8:lateL s.now x6.p = q8 at hS ⊢
    replace hI3:=(letP_eq hq8).symm.trans hI3
    replace hS:=hS.nz 12
    refine T ?_
    refine TA ?_
    refine rE [0,3,9,10,23,24,25] hk fun a hk=>?_
    replace hS:=hS.pk [2,1] 0
    replace hS:=portA_close (x:=x6) (e:=e7) hS
    replace hS:=hS.pk [0,1] 0
    replace hS:=arr_fill' hq6 hs6 hS
    replace hS:=hS.pk [2,0,1,1,1,1,1,1,1] 0
    replace hS:=ro_close (x:=s) (e:=⟨e5.A,e5.c⟩) hpl5 hS
    obtain ⟨r11,hr11,hI3⟩:=optB_s hI3
    refine wp_cut (fun a_ w_=>Fr a_ 35 [(0,pt P.g 0),(9,.agg #[ptO P.p0,ptO P.p1,ptO P.p2,ptO P.p3]),(10,i6 k3)]∧S κ (roA P s::rowA (.slice B08 q8.length d08) 3 1 q8.length (ints q8)::L) (I) w_) ?_ ?_
    ·refine wp_block ?_
     refine wp_loop (fun a_ w_=>∃ k11:Nat,(k11 ≤ (q8).length)∧roLateFL11 ((q8).drop k11) = some r11∧Fr a_ 35 [(0,pt P.g 0),(3,pt g6 0),(9,.agg #[ptO P.p0,ptO P.p1,ptO P.p2,ptO P.p3]),(10,i6 k3),(23,.slice B08 q8.length d08),(24,i6 ((q8.length:Nat):Int)),(25,i6 k11)]∧S κ (roA P s::rowA (.slice B08 q8.length d08) 3 1 q8.length (ints q8)::L) (I) w_) (fun a_ _=>(q8).length - (intOf (sl a_ 25)).toNat) ?_ ?_
     ·exact ⟨0,Nat.zero_le _,hr11,hk.to,hS⟩
     clear hk hS
     rintro aL11 w ⟨k11,hkl11,hI11,hk,hS⟩
     have hmu11:=hk.g (s:=25)
     have hlb11:=hS.rowB (i:=1) rfl
     refine wp_seq ?_
     refine rgL [] hk ?_
     refine T ?_
     refine rE [0,3,9,10,23,24,25,26] hk fun a hk=>?_
     refine wp_seq ?_
     refine cD hk (fun hc26=>?_) (fun hc26=>?_)
     ·obtain ⟨z11,hz11⟩:=at_k (show k11 < (q8).length by omega)
      rw [drop_at hz11] at hI11
      refine wp_skip ?_
      refine wp_seq ?_
      refine wp_block ?_
      refine wp_seq ?_
      refine rgL [] hk ?_
      refine dN hk (hS.rd (i:=1) rfl) (fun b12 o12 z12 hz12 hq12=>?_)
      obtain rfl:z11 = z12:=Option.some.inj (hz11.symm.trans hz12)
      refine dF0 hq12 hk ?_
      refine T ?_
      refine rE [0,3,5,9,10,23,24,25] hk fun a hk=>?_
      cases hI11
     obtain rfl:k11 = (q8).length:=by omega
     rw [drop_all (Nat.le_refl _)] at hI11
     refine wp_exit ?_
     obtain rfl:=Option.some.inj hI11
     exact ⟨hk.to,hS⟩
    rintro a w ⟨hk,hS⟩
    refine rgL [] hk ?_
    refine dA hk ?_
    refine T ?_
    refine rE [0,9,10] hk fun a hk=>?_
    replace hS:=hS.pk [0] 1
    exact ⟨⟨k3 + 1,by omega,hI3,hk.to,hS⟩,mu_lt hk.g hmu3 (by omega)⟩
  obtain rfl:k3 = (List.range 4).length:=by (first | omega | (simp only [List.length_range] at *;omega))
  rw [drop_all (Nat.le_refl _)] at hI3
  refine wp_exit ?_
  obtain rfl:=Option.some.inj hI3
  exact ⟨hk.to,hS⟩
 rintro a w ⟨hk,hS⟩
 obtain rfl:=Option.some.inj ht
 exact rt0 hk (hR_ _ _ ⟨rfl,hS⟩)
def roDueF (t:TmV) (s:RoS):Option (RoS):=if 0 ≤ t.lan∧t.lan < 4 then optE (lookL (⟨t.lan,t.id⟩:WhV) s.talks) (if (t.kind:Int) = 1 then optB (lookP s.ports t.lan) fun x7=>optB (roGreetF t.lan s) fun q8=>if -4611686018427387904 ≤ q8.now + 2∧q8.now + 2 ≤ 4611686018427387904 then some ({ q8 with w:=(wheelArmF (q8.now + 2) [t] q8.w) }) else none else if (t.kind:Int) = 2 then optB (lookP s.ports t.lan) fun x14=>optB (roElectF t.lan 2 s) fun q15=>some q15 else some s) fun v6=>none else none
theorem roDue_any {κ:Kap} {L I:List Atom} (P:RoP) (t:TmV) (s:RoS) (W:World) {r_:RoS} (ht:(roDueF t s) = some r_) (hS:S κ (roA P s::L) (I) W):
    Calls Tryz.prog 45 #[pt P.g 0,.agg #[i6 t.kind,i6 t.lan,i6 t.id,i6 t.k.kind,i6 t.k.id,i6 t.k.adv]] W (fun r w'=>r = .returned (.tuple #[])∧S κ (roA P r_::L) (I) w'):=by
 refine wK 118 Tryz.func45 (fun R_ hR_ a hk=>?_)
 refine wp_seq ?_
 refine rgL [0] hk ?_
 refine eB hk hS (fun g2 w hS _=>?_)
 refine rE [0,3] hk fun a hk=>?_
 refine wp_seq ?_
 refine rgR [[],[],[1],[0],[0,3],[0,1,2,3,4],[0,1,2,3,4,5],[],[7],[7,8],[7,8,9],[],[11],[],[13],[11,12,13,14],[7,8,9,10,11,12,13,14,15],[0,1,2,3,4,5,6],[0,1,2,3,4,5,6,7,8,9,10,11,12,13,14,15,16,17]] [] (.rd 0 (.rd 1 (.rd 2 (.rd 3 (.rd 4 (.rd 5 (.rd 6 (.rd 7 (.rd 8 (.rd 9 (.rd 10 (.rd 11 (.rd 12 (.rd 13 (.rd 14 (.rd 15 (.rd 16 (.rd 17 (.rd 18 (.fin)))))))))))))))))))) hk hS (fun w hS _=>?_)
 iterate 2 refine T ?_
 refine LD 0 hk hS ?_
 iterate 2 refine T ?_
 obtain ⟨hgd3,ht⟩:=gdE ht
 refine rD (pt P.g (3 + t.lan.toNat)) (fun _ h_=>rk (run_indexP (n:=4) (size:=1) rfl (h_.x hk) (h_.x hk) (by kernel_rfl) hgd3 (by omega))) ?_
 replace hS:=hS.fr 1
 obtain ⟨e4,hpl4,hS⟩:=ro_open hS
 refine rD (ptO (lookP P.pts t.lan)) (fun _ h_=>rk (run_load rfl (h_.x hk) (by kernel_rfl) (cell4 (hS.blk (i:=0) rfl) hgd3.1 hgd3.2 rfl rfl rfl rfl))) ?_
 iterate 3 refine T ?_
 refine LD 0 hk hS ?_
 refine T ?_
 refine LD 9 hk hS ?_
 refine T ?_
 refine LD 9 hk hS ?_
 refine rD (.agg #[i6 t.lan,i6 t.id]) (fun _ h_=>rk (run_build rfl (h_.prt hk) (by kernel_rfl))) ?_
 replace hS:=hS.fr 2
 obtain ⟨q5,hq5,hS⟩:=mob_open (F:=taMF) hS
 rcases hl6:lookL (⟨t.lan,t.id⟩:WhV) q5 with _ | ⟨v6,p6⟩
 ·replace ht:=(optE_n (mob_none hq5 hl6)).symm.trans ht
  refine rD (.pointer none) (fun _ h_=>rk (run_look1 (E:=179) (z:=(.pointer none)) (⟨t.lan,t.id⟩:WhV) who_key (hS.mapAt (i:=0) rfl) rfl (h_.x hk) (h_.x hk) (by rw [hl6];rfl))) ?_
  iterate 2 refine T ?_
  refine rE [0,3,4,5] hk fun a hk=>?_
  refine wp_block ?_
  refine wp_seq ?_
  refine rgL [] hk ?_
  refine T ?_
  refine LD 10 hk hS ?_
  iterate 2 refine T ?_
  refine rE [0,3,4,5,23] hk fun a hk=>?_
  refine cD hk (fun hc23=>?_) (fun hc23=>?_)
  ·replace ht:=(if_pos hc23).symm.trans ht
   refine wp_seq ?_
   refine rgL [2] hk ?_
   iterate 2 refine T ?_
   obtain ⟨x7,hs7,ht⟩:=optB_s ht
   replace hS:=hS.fr 3
   obtain ⟨g7,hq7,hS⟩:=arr_at hs7 (by rw [pts_len];first | assumption | (simpa using hpl4)) hS
   rw [hq7] at hk
   replace hk:Fr a 118 [(0,pt P.g 0),(3,pt g2 0),(4,pt g7 0),(5,.pointer none)]:=hk.to
   refine rwV 1 (ptO (lookP P.pts t.lan)) (pt g7 0) (by rw [hq7];rfl) ?_
   ·replace hS:=arr_fill' hq7 hs7 hS
    replace hS:=hS.pk [1,1] 0
    replace hS:=mob_close (F:=taMF) hq5 hS
    replace hS:=hS.pk [2,1,0,0,0,0,0,0,0] 0
    replace hS:=ro_close (x:=s) (e:=⟨e4.A,e4.c⟩) hpl4 hS
    obtain ⟨q8,hq8,ht⟩:=optB_s ht
    refine eC hk (h:=roGreet_any P g7 t.lan s _ hq7 hq8 hS) (k:=?_)
    rintro _ w ⟨rfl,hS⟩
    refine ⟨_,rfl,?_⟩
    replace hS:=hS.nz 2
    refine rE [0,3] hk fun a hk=>?_
    refine rgR [[],[0],[0,1],[0,1,2],[],[4],[4,5],[4,5,6],[4,5,6,7],[],[9],[0,1,2,3,4,5,6,7,8,9,10]] [10,11] (.rd 0 (.rd 1 (.rd 2 (.rd 3 (.rd 4 (.rd 5 (.rd 6 (.rd 7 (.rd 8 (.rd 9 (.ef 10 (.ag 0 (.ag 1 (.ag 2 (.ag 3 (.ag 4 (.ag 5 (.ag 6 (.ag 7 (.ag 8 (.ef 11 (.fin) .non)))))))))) .non))))))))))) hk hS (fun w hS _=>?_)
    iterate 3 refine T ?_
    obtain ⟨e9,hpl9,hS⟩:=ro_open hS
    refine LD 0 hk hS ?_
    iterate 3 refine T ?_
    refine LD 0 hk hS ?_
    obtain ⟨hgd10,ht⟩:=gdE ht
    refine dA hk ?_
    refine LDS 9 6 hk hS ?_
    refine eF (fun a_ h_=>st_lit (e:=121) (cells:=#[i6 t.kind,i6 t.lan,i6 t.id,i6 t.k.kind,i6 t.k.id,i6 t.k.adv]) hS (on_none rfl) rfl (h_.prtL hk) fun g11 w hS _=>⟨_,rfl,?_⟩)
    iterate 3 refine TA ?_
    refine aG (fun _ h_=>rk (ld hS 1 rfl (h_.x hk))) ?_
    iterate 3 refine TA ?_
    refine aG (fun _ h_=>rk (ld hS 1 rfl (h_.x hk))) ?_
    refine aG (fun _ h_=>rk (run_addI rfl (h_.x hk) (h_.x hk) (by omega) rfl)) ?_
    replace hS:S κ (rowA (.slice (some ⟨g11,0,none⟩) 1 1) 121 6 1 (rowC TmV.cells [t])::blkA P.g 102 #[i6 q8.id,i6 q8.now,i6 q8.number,ptO P.p0,ptO P.p1,ptO P.p2,ptO P.p3,.map (some P.tm),.map (some P.mm),pt P.dg 0,pt P.wg 0,pt P.lg 0,pt P.ag 0,.slice e9.A q8.out.length e9.c]::(arrA portA P.pts q8.ports)::(mobA taMF P.tm q8.talks)::mapA keyE toldE P.mm q8.mine::(dbA P.dg q8.db)::(wheelA P.wg q8.w)::(rxmtA P.lg q8.lists)::(acksA P.ag q8.later)::crA frFn 58 e9.A e9.c q8.out::blkA g2 121 #[i6 t.kind,i6 t.lan,i6 t.id,i6 t.k.kind,i6 t.k.id,i6 t.k.adv]::L) (I) w:=hS.litRow rfl (by decide)
    obtain ⟨J12,hS,hJ12⟩:=S.lend (M:=[_]) hS
    replace hS:=hS.pk [5] 0
    refine eC hk (h:=wheelArm_any P.wg (q8.now + 2) [t] (some ⟨g11,0,none⟩) 1 q8.w _ hS) (k:=?_)
    rintro _ w ⟨rfl,hS⟩
    refine ⟨_,rfl,?_⟩
    replace hS:=hJ12 _ _ hS
    replace hS:=hS.nz 11
    refine rE [] hk fun a hk=>?_
    replace hS:=hS.pk [2,2,2,2,2,1,1,1,1] 0
    replace hS:=ro_close (x:={ q8 with w:=(wheelArmF (q8.now + 2) [t] q8.w) }) (e:=⟨e9.A,e9.c⟩) hpl9 hS
    replace hS:=hS.pk [0] 2
    obtain rfl:=Option.some.inj ht
    exact rt0 hk (hR_ _ _ ⟨rfl,hS⟩)
  replace ht:=(if_neg hc23).symm.trans ht
  refine wp_seq ?_
  refine rgL [] hk ?_
  refine T ?_
  refine LD 10 hk hS ?_
  iterate 2 refine T ?_
  refine rE [0,3,4,5,42] hk fun a hk=>?_
  refine cD hk (fun hc42=>?_) (fun hc42=>?_)
  ·replace ht:=(if_pos hc42).symm.trans ht
   refine rgL [2] hk ?_
   iterate 2 refine T ?_
   obtain ⟨x14,hs14,ht⟩:=optB_s ht
   replace hS:=hS.fr 3
   obtain ⟨g14,hq14,hS⟩:=arr_at hs14 (by rw [pts_len];first | assumption | (simpa using hpl4)) hS
   rw [hq14] at hk
   replace hk:Fr a 118 [(0,pt P.g 0),(3,pt g2 0),(4,pt g14 0),(5,.pointer none)]:=hk.to
   refine rwV 1 (ptO (lookP P.pts t.lan)) (pt g14 0) (by rw [hq14];rfl) ?_
   ·replace hS:=arr_fill' hq14 hs14 hS
    replace hS:=hS.pk [1,1] 0
    replace hS:=mob_close (F:=taMF) hq5 hS
    replace hS:=hS.pk [2,1,0,0,0,0,0,0,0] 0
    replace hS:=ro_close (x:=s) (e:=⟨e4.A,e4.c⟩) hpl4 hS
    obtain ⟨q15,hq15,ht⟩:=optB_s ht
    refine eC hk (h:=roElect_any P g14 t.lan 2 s _ hq14 hq15 hS) (k:=?_)
    rintro _ w ⟨rfl,hS⟩
    refine ⟨_,rfl,?_⟩
    replace hS:=hS.nz 2
    refine rE [] hk fun a hk=>?_
    replace hS:=hS.pk [0] 1
    obtain rfl:=Option.some.inj ht
    exact rt0 hk (hR_ _ _ ⟨rfl,hS⟩)
  replace ht:=(if_neg hc42).symm.trans ht
  refine wp_seq ?_
  refine rgL [] hk ?_
  refine T ?_
  refine rD (.bool true) (fun _ h_=>rk (run_bin2 rfl (h_.x hk) rfl (fun _=>by kernel_rfl) (fun _=>rfl))) ?_
  refine T ?_
  refine rE [0,3,4,5,49] hk fun a hk=>?_
  refine cT hk ?_
  refine wp_skip ?_
  replace hS:=mob_close (F:=taMF) hq5 hS
  replace hS:=hS.pk [1,1,0,0,0,0,0,0,0] 0
  replace hS:=ro_close (x:=s) (e:=⟨e4.A,e4.c⟩) hpl4 hS
  replace hS:=hS.pk [0] 1
  obtain rfl:=Option.some.inj ht
  exact rt0 hk (hR_ _ _ ⟨rfl,hS⟩)
 ·replace ht:=(optE_s (mob_some hq5 hl6)).symm.trans ht
  cases ht
def roPlanFJ12 (s:RoS) (q10:LV × Int):Option (Bool × RoS):=if (q10.2:Int) ≠ 1 then if (q10.2:Int) ≠ 2 then some (true,s) else if q10.1.links.length ≤ 5000 then if q10.1.mem.length ≤ 5000 then letP (dbPutF q10.1 s.db) fun q14=>some (decide ((q14.1:Int) ≠ 0),{ s with db:=q14.2 }) else none else none else if q10.1.links.length ≤ 5000 then if q10.1.mem.length ≤ 5000 then letP (dbPutF q10.1 s.db) fun q18=>some (decide ((q18.1:Int) ≠ 0),{ s with db:=q18.2 }) else none else none
def roPlanF (k:KeyV) (x:LV) (is:Bool) (vs:List VwV) (s:RoS):Option (RoS):=if DbOk s.db then letP (dbGetF k s.db) fun q6=>optB (origPlanF (⟨x.hd,x.links,x.mem,is,q6.1.hd,q6.1.links,q6.1.mem,q6.2,((lookL k s.mine).getD to0).seq,((lookL k s.mine).getD to0).at_,(lookL k s.mine).isSome⟩:MiV) s.now) fun q10=>optB (roPlanFJ12 s q10) fun r12=>cond r12.1 (some r12.2) (if DbOk r12.2.db then letP (dbGetF k r12.2.db) fun q22=>optB (roPublishF q22.1 (-1) 0 vs ({ r12.2 with mine:=putL k (⟨q10.1.hd.seq,r12.2.now⟩:ToV) r12.2.mine })) fun q26=>some q26.2 else none) else none
theorem roPlan_any {κ:Kap} {L I:List Atom} (P:RoP) (k:KeyV) (x:LV) (xp:LP) (is:Bool) (vs:List VwV) (vsA:Option Addr) (vsc:Nat) (s:RoS) (W:World) {r_:RoS} (ht:(roPlanF k x is vs s) = some r_) (hS:S κ (roA P s::L) (rowA (.slice xp.A x.links.length xp.c) 230 4 x.links.length (rowC Lk.cells x.links)::rowA (.slice xp.B x.mem.length xp.d) 3 1 x.mem.length (ints x.mem)::crA vwFn 39 vsA vsc vs::I) W):
    Calls Tryz.prog 128 #[pt P.g 0,.agg #[i6 k.kind,i6 k.id,i6 k.adv],.agg #[i6 x.hd.age,i6 x.hd.kind,i6 x.hd.id,i6 x.hd.adv,i6 x.hd.seq,i6 x.hd.sum,i6 x.hd.long,.slice xp.A x.links.length xp.c,.slice xp.B x.mem.length xp.d],.bool is,.slice vsA vs.length vsc] W (fun r w'=>r = .returned (.tuple #[])∧S κ (roA P r_::L) (rowA (.slice xp.A x.links.length xp.c) 230 4 x.links.length (rowC Lk.cells x.links)::rowA (.slice xp.B x.mem.length xp.d) 3 1 x.mem.length (ints x.mem)::crA vwFn 39 vsA vsc vs::I) w'):=by
 refine wK 98 Tryz.func128 (fun R_ hR_ a hk=>?_)
 refine wp_seq ?_
 refine rgL [0,1] hk ?_
 refine eB hk hS (fun g2 w hS _=>?_)
 refine eB hk hS (fun g3 w hS _=>?_)
 refine rE [0,3,4,6,7] hk fun a hk=>?_
 refine wp_seq ?_
 refine rgL [3,4] hk ?_
 refine LDS 0 9 hk hS ?_
 refine T ?_
 refine rD (.agg #[i6 x.hd.age,i6 x.hd.kind,i6 x.hd.id,i6 x.hd.adv,i6 x.hd.seq,i6 x.hd.sum,i6 x.hd.long,.slice xp.A x.links.length xp.c,.slice xp.B x.mem.length xp.d,.bool is,i6 0,i6 0,i6 0,i6 0,i6 0,i6 0,i6 0,.slice none 0 0,.slice none 0 0,.bool false,i6 0,i6 0,.bool false]) (fun _ h_=>rk (run_build rfl (h_.prt hk) (by kernel_rfl))) ?_
 refine eA #[i6 0,i6 0,i6 0,i6 0,i6 0,i6 0,i6 0,.slice none 0 0,.slice none 0 0,.bool false,i6 0,i6 0,i6 0,i6 0,i6 0,i6 0,i6 0,.slice none 0 0,.slice none 0 0,.bool false,i6 0,i6 0,.bool false] hS (fun g4 w hS _=>?_)
 refine eS 0 hk hS (fun w hS _=>?_)
 refine rE [0,4,6,10] hk fun a hk=>?_
 refine wp_seq ?_
 refine rgR [[],[0],[0,1],[0,1,2],[],[0,1,2,3,4],[0,1,2,3,4,5],[0,1,2,3,4,5,6],[0,1,2,3,4,5,6],[0,1,2,3,4,5,6,7],[0,1,2,3,4,5,6,7,9],[0,1,2,3,4,5,6,7,8,9,10],[0,1,2,3,4,5,6,7,8,9,10,11]] [5,10,12] (.rd 0 (.rd 1 (.rd 2 (.rd 3 (.rd 4 (.ef 5 (.rd 6 (.rd 7 (.rd 8 (.rd 9 (.ef 10 (.ag 8 (.rd 11 (.ef 12 (.fin) .non))) .non))))) .non)))))) hk hS (fun w hS _=>?_)
 iterate 3 refine T ?_
 replace hS:=hS.fr 3
 obtain ⟨e5,hpl5,hS⟩:=ro_open hS
 refine LD 0 hk hS ?_
 refine LDS 11 3 hk hS ?_
 replace hS:=hS.pk [4] 0
 obtain ⟨hgd7,ht⟩:=gdE ht
 refine eC hk (h:=dbGet_any P.dg k s.db _ hgd7 hS) (k:=?_)
 rintro _ w ⟨e06,rfl,hS⟩
 refine ⟨_,rfl,?_⟩
 generalize hq6:dbGetF k s.db = q6 at hS ⊢
 replace ht:=(letP_eq hq6).symm.trans ht
 replace hS:=hS.nz 14
 iterate 4 refine T ?_
 refine eS 11 hk hS (fun w hS _=>?_)
 refine TA ?_
 refine T ?_
 refine eS 11 hk hS (fun w hS _=>?_)
 refine rE [0,4,6,10] hk fun a hk=>?_
 refine wp_seq ?_
 refine rgR [[],[0],[0,1],[0,1,2],[],[0,1,2,3,4],[0,1,2,3,4,5],[0,1,2,3,4,5,6],[0,1,2,3,4,5,6],[],[0,1,2,3,4,5,6,7,9],[0,1,2,3,4,5,6,7,8,9,10]] [9,10] (.rd 0 (.rd 1 (.rd 2 (.rd 3 (.rd 4 (.rd 5 (.rd 6 (.rd 7 (.rd 8 (.ef 9 (.ag 0 (.ag 1 (.ag 2 (.ag 3 (.ag 4 (.ag 5 (.ag 6 (.ag 7 (.ag 8 (.ef 10 (.ag 8 (.rd 11 (.fin))) .non)))))))))) .non)))))))))) hk hS (fun w hS _=>?_)
 iterate 3 refine T ?_
 refine LD 3 hk hS ?_
 refine LDS 13 3 hk hS ?_
 refine rD (.tuple #[.agg #[i6 (((lookL k s.mine).getD to0).seq),i6 (((lookL k s.mine).getD to0).at_)],.bool ((lookL k s.mine).isSome)]) (fun _ h_=>rk (run_look2 (E:=305) (z:=(.agg #[i6 0,i6 0])) k ke_key (hS.mapAt (i:=6) rfl) rfl (h_.x hk) (h_.x hk) (by cases (lookL k s.mine) <;> rfl))) ?_
 iterate 3 refine T ?_
 refine eA #[i6 0,i6 0] hS (fun g8 w hS _=>?_)
 iterate 3 refine TA ?_
 refine aG (fun _ h_=>rk (ld hS 4 rfl (h_.x hk))) ?_
 refine aG (fun _ h_=>rk (lbS 3 (hS.blk (i:=14) rfl) rfl (h_.x hk))) ?_
 refine aG (fun _ h_=>rk (run_look2 (E:=305) (z:=(.agg #[i6 0,i6 0])) k ke_key (hS.mapAt (i:=7) rfl) rfl (h_.x hk) (h_.x hk) (by cases (lookL k s.mine) <;> rfl))) ?_
 iterate 3 refine TA ?_
 refine eS 0 hk hS (fun w hS _=>?_)
 refine TA ?_
 refine T ?_
 refine rE [0,4,6,10,11,12] hk fun a hk=>?_
 refine wp_seq ?_
 refine rgR [[],[0],[],[2],[],[0,1],[0,1,5],[0,1,2,3,5,6],[0,1,2,3,5,6,7],[0,1,2,3,4,5,6,7,8],[0,1,2,3,4,5,6,7,8,9]] [6,8,10] (.rd 0 (.rd 1 (.rd 2 (.rd 3 (.rd 4 (.rd 5 (.ef 6 (.ag 2 (.ag 3 (.ag 4 (.rd 7 (.ef 8 (.ag 4 (.rd 9 (.ef 10 (.fin) .non))) .non))))) .non))))))) hk hS (fun w hS _=>?_)
 refine T ?_
 refine LD 0 hk hS ?_
 refine T ?_
 refine LD 0 hk hS ?_
 iterate 2 refine T ?_
 refine eS 12 hk hS (fun w hS _=>?_)
 refine TA ?_
 refine aG (fun _ h_=>rk (ld hS 0 rfl (h_.x hk))) ?_
 refine TA ?_
 refine T ?_
 refine eS 12 hk hS (fun w hS _=>?_)
 refine TA ?_
 refine T ?_
 refine eS 12 hk hS (fun w hS _=>?_)
 refine rE [0,4,6,10] hk fun a hk=>?_
 refine wp_seq ?_
 refine rgR [[],[],[1],[1,2],[1,2,3],[0,1,2,3,4],[0,1,2,3,4,5],[0,1,2,3,4,5,6],[0,1,2,3,4,5,6],[],[0,1,2,3,4,5,6,7,9],[0,1,2,3,4,5,6,7,8,9,10]] [5,9,10] (.rd 0 (.rd 1 (.rd 2 (.rd 3 (.rd 4 (.ef 5 (.rd 6 (.rd 7 (.rd 8 (.ef 9 (.ag 6 (.ag 7 (.ag 8 (.ef 10 (.ag 8 (.rd 11 (.fin))) .non)))) .non)))) (.ef 9 (.ag 0 (.ag 1 (.ag 2 (.ag 3 (.ag 4 (.ef 5 (.rd 6 (.rd 7 (.rd 8 (.ef 10 (.ag 8 (.rd 11 (.fin))) .non)))) .non)))))) .non))))))) hk hS (fun w hS _=>?_)
 refine LDS 12 23 hk hS ?_
 iterate 3 refine T ?_
 refine LD 4 hk hS ?_
 refine efk ?_ ?_
 ·replace hS:=hS.pk [1,1] 0
  obtain ⟨J9,hS,hJ9⟩:=S.lend (M:=[_,_]) hS
  replace hS:=hS.dupI 1
  replace hS:=hS.dupI 1
  replace hS:=hS.dupI 6
  replace hS:=hS.dupI 6
  obtain ⟨q10,hq10,ht⟩:=optB_s ht
  refine eC hk (h:=origPlan_any (⟨x.hd,x.links,x.mem,is,q6.1.hd,q6.1.links,q6.1.mem,q6.2,((lookL k s.mine).getD to0).seq,((lookL k s.mine).getD to0).at_,(lookL k s.mine).isSome⟩:MiV) (⟨⟨xp.A,xp.c⟩,⟨xp.B,xp.d⟩,⟨e06.A,e06.c⟩,⟨e06.B,e06.d⟩⟩:SlP × SlP × SlP × SlP) s.now _ hq10 hS) (k:=?_)
  rintro _ w ⟨e010,rfl,hS⟩
  refine ⟨_,rfl,?_⟩
  replace hS:=hS.dropI.dropI.dropI.dropI
  replace hS:=hJ9 _ _ hS
  replace hS:=hS.nz 17
  iterate 3 refine T ?_
  refine eA #[i6 0,i6 0,i6 0,i6 0,i6 0,i6 0,i6 0,.slice none 0 0,.slice none 0 0] hS (fun g11 w hS _=>?_)
  iterate 3 refine TA ?_
  refine eS 0 hk hS (fun w hS _=>?_)
  refine TA ?_
  refine T ?_
  refine rE [0,4,6,13,14] hk fun a hk=>?_
  refine wp_seq ?_
  refine wp_seq ?_
  obtain ⟨r12,hr12,ht⟩:=optB_s ht
  refine wp_cut (fun a_ w_=>Fr a_ 98 [(0,pt P.g 0),(4,.slice vsA vs.length vsc),(6,pt g2 0),(13,pt g11 0),(71,.bool r12.1)]∧S κ (roA P r12.2::blkA g11 66 #[i6 q10.1.hd.age,i6 q10.1.hd.kind,i6 q10.1.hd.id,i6 q10.1.hd.adv,i6 q10.1.hd.seq,i6 q10.1.hd.sum,i6 q10.1.hd.long,.slice e010.A q10.1.links.length e010.c,.slice e010.B q10.1.mem.length e010.d]::rowA (.slice e06.A q6.1.links.length e06.c) 230 4 q6.1.links.length (rowC Lk.cells q6.1.links)::rowA (.slice e06.B q6.1.mem.length e06.d) 3 1 q6.1.mem.length (ints q6.1.mem)::rowA (.slice e010.A q10.1.links.length e010.c) 230 4 q10.1.links.length (rowC Lk.cells q10.1.links)::rowA (.slice e010.B q10.1.mem.length e010.d) 3 1 q10.1.mem.length (ints q10.1.mem)::(blkA g8 305 #[i6 (((lookL k s.mine).getD to0).seq),i6 (((lookL k s.mine).getD to0).at_)])::(blkA g4 303 #[i6 x.hd.age,i6 x.hd.kind,i6 x.hd.id,i6 x.hd.adv,i6 x.hd.seq,i6 x.hd.sum,i6 x.hd.long,.slice xp.A x.links.length xp.c,.slice xp.B x.mem.length xp.d,.bool is,i6 q6.1.hd.age,i6 q6.1.hd.kind,i6 q6.1.hd.id,i6 q6.1.hd.adv,i6 q6.1.hd.seq,i6 q6.1.hd.sum,i6 q6.1.hd.long,.slice e06.A q6.1.links.length e06.c,.slice e06.B q6.1.mem.length e06.d,.bool q6.2,i6 (((lookL k s.mine).getD to0).seq),i6 (((lookL k s.mine).getD to0).at_),.bool ((lookL k s.mine).isSome)])::blkA g3 66 #[i6 x.hd.age,i6 x.hd.kind,i6 x.hd.id,i6 x.hd.adv,i6 x.hd.seq,i6 x.hd.sum,i6 x.hd.long,.slice xp.A x.links.length xp.c,.slice xp.B x.mem.length xp.d]::blkA g2 111 #[i6 k.kind,i6 k.id,i6 k.adv]::L) (rowA (.slice xp.A x.links.length xp.c) 230 4 x.links.length (rowC Lk.cells x.links)::rowA (.slice xp.B x.mem.length xp.d) 3 1 x.mem.length (ints x.mem)::crA vwFn 39 vsA vsc vs::I) w_) ?_ ?_
  ·have hI12:=hr12
   refine rgR [[],[0],[0,1],[0,1,2],[0,1,2,3],[0,1,2,3,4],[0,1,2,3,4,5],[0,1,2,3,4,5,6],[0,1,2,3,4,5,6,7],[0,1,2,3,4,5,6,7,8],[0,1,2,3,4,5,6,7,8,9],[0,1,2,3,4,5,6],[0,1,2,3,4,5,6,7,8,9,10,11],[0,1,2,3,4,5,6,7,8,9,10,11,12],[0,1,2,3,4,5,6,7,8,9,10,11,12,13]] [12] (.rd 0 (.rd 1 (.rd 2 (.rd 3 (.rd 4 (.rd 5 (.rd 6 (.rd 7 (.rd 8 (.rd 9 (.rd 10 (.rd 11 (.ef 12 (.rd 13 (.rd 14 (.fin))) .non))))))))))))) hk hS (fun w hS _=>?_)
   iterate 3 refine T ?_
   rcases dt ((q10.2:Int) ≠ 1) with ⟨he,hg2⟩ | ⟨he,hg2⟩
   ·rw [he]
    replace hI12:=(if_pos hg2).symm.trans hI12
    iterate 4 refine T ?_
    rcases dt ((q10.2:Int) ≠ 2) with ⟨he,hg6⟩ | ⟨he,hg6⟩
    ·rw [he]
     replace hI12:=(if_pos hg6).symm.trans hI12
     refine oF 6 63 false [7,8,9,10,11] ?_
     refine oE 6 63 false ?_
     refine oF 6 63 false [13] ?_
     refine T ?_
     refine rE [0,4,6,13,71] hk fun a hk=>?_
     replace hS:=hS.pk [7,7,7,7,6,6,6,6,6] 0
     replace hS:=ro_close (x:=s) (e:=⟨e5.A,e5.c⟩) hpl5 hS
     obtain rfl:=Option.some.inj hI12
     exact ⟨hk.to,hS⟩
    rw [he]
    replace hI12:=(if_neg hg6).symm.trans hI12
    iterate 3 refine T ?_
    refine LD 7 hk hS ?_
    refine LDS 0 9 hk hS ?_
    replace hS:=hS.pk [3,3] 0
    obtain ⟨J13,hS,hJ13⟩:=S.lend (M:=[_,_]) hS
    replace hS:=hS.pk [4] 0
    obtain ⟨hgd15,hI12⟩:=gdE hI12
    obtain ⟨hgd16,hI12⟩:=gdE hI12
    refine eC hk (h:=dbPut_any P.dg q10.1 e010 s.db _ hgd15 hgd16 hS) (k:=?_)
    rintro _ w ⟨rfl,hS⟩
    refine ⟨_,rfl,?_⟩
    generalize hq14:dbPutF q10.1 s.db = q14 at hS ⊢
    replace hI12:=(letP_eq hq14).symm.trans hI12
    replace hS:=hJ13 _ _ hS
    replace hS:=hS.nz 18
    iterate 2 refine T ?_
    refine rE [0,4,6,13,71] hk fun a hk=>?_
    replace hS:=hS.pk [7,7,7,7,2,6,6,6,6] 0
    replace hS:=ro_close (x:={ s with db:=q14.2 }) (e:=⟨e5.A,e5.c⟩) hpl5 hS
    replace hS:=hS.pk [0,2,2,2,0,0,0,0,0,0] 0
    obtain rfl:=Option.some.inj hI12
    exact ⟨hk.to,hS⟩
   rw [he]
   replace hI12:=(if_neg hg2).symm.trans hI12
   refine oF 2 59 true [3,4] ?_
   iterate 5 refine T ?_
   refine LD 7 hk hS ?_
   refine LDS 0 9 hk hS ?_
   replace hS:=hS.pk [3,3] 0
   obtain ⟨J17,hS,hJ17⟩:=S.lend (M:=[_,_]) hS
   replace hS:=hS.pk [4] 0
   obtain ⟨hgd19,hI12⟩:=gdE hI12
   obtain ⟨hgd20,hI12⟩:=gdE hI12
   refine eC hk (h:=dbPut_any P.dg q10.1 e010 s.db _ hgd19 hgd20 hS) (k:=?_)
   rintro _ w ⟨rfl,hS⟩
   refine ⟨_,rfl,?_⟩
   generalize hq18:dbPutF q10.1 s.db = q18 at hS ⊢
   replace hI12:=(letP_eq hq18).symm.trans hI12
   replace hS:=hJ17 _ _ hS
   replace hS:=hS.nz 18
   iterate 2 refine T ?_
   refine rE [0,4,6,13,71] hk fun a hk=>?_
   replace hS:=hS.pk [7,7,7,7,2,6,6,6,6] 0
   replace hS:=ro_close (x:={ s with db:=q18.2 }) (e:=⟨e5.A,e5.c⟩) hpl5 hS
   replace hS:=hS.pk [0,2,2,2,0,0,0,0,0,0] 0
   obtain rfl:=Option.some.inj hI12
   exact ⟨hk.to,hS⟩
  rintro a w ⟨hk,hS⟩
  refine cB hk (fun hc71=>?_) (fun hc71=>?_)
  ·replace ht:=(bT hc71).symm.trans ht
   refine wp_ret ?_
   replace hS:=hS.pk [0] 9
   obtain rfl:=Option.some.inj ht
   exact rt0 hk (hR_ _ _ ⟨rfl,hS⟩)
  replace ht:=(bF hc71).symm.trans ht
  refine wp_skip ?_
  refine wp_seq ?_
  refine rgR [[],[0],[0,1],[0,1,2],[],[],[5],[5,6],[],[8],[8,9],[8,9,10],[5,6,7,8,9,10,11],[0,1,2,3,4,5,6,7,8,9,10,11,12]] [13] (.rd 0 (.rd 1 (.rd 2 (.rd 3 (.rd 4 (.rd 5 (.rd 6 (.rd 7 (.rd 8 (.rd 9 (.rd 10 (.rd 11 (.rd 12 (.ef 13 (.fin) .non)))))))))))))) hk hS (fun w hS _=>?_)
  iterate 3 refine T ?_
  obtain ⟨e21,hpl21,hS⟩:=ro_open hS
  refine LD 0 hk hS ?_
  refine LDS 17 3 hk hS ?_
  iterate 2 refine T ?_
  refine LD 9 hk hS ?_
  iterate 3 refine T ?_
  refine LD 0 hk hS ?_
  refine rD (.agg #[i6 q10.1.hd.seq,i6 r12.2.now]) (fun _ h_=>rk (run_build rfl (h_.prt hk) (by kernel_rfl))) ?_
  refine eF (fun a_ h_=>st_mapset (ev:=toldE) (E:=305) 3 k (⟨q10.1.hd.seq,r12.2.now⟩:ToV) ke_key hS (on_none rfl) (.inl rfl) (h_.x hk) (h_.x hk) (h_.x hk) fun w hS=>⟨_,rfl,?_⟩)
  replace hS:=hS.nz 18
  refine rE [0,4,6] hk fun a hk=>?_
  refine wp_seq ?_
  refine rgR [[],[0],[0,1],[0,1,2],[],[0,1,2,3,4],[0,1,2,3,4,5],[0,1,2,3,4,5,6],[0,1,2,3,4,5,6],[],[0,1,2,3,4,5,6,7,9],[0,1,2,3,4,5,6,7,8,9,10]] [5,9,10] (.rd 0 (.rd 1 (.rd 2 (.rd 3 (.rd 4 (.ef 5 (.rd 6 (.rd 7 (.rd 8 (.ef 9 (.ag 6 (.ag 7 (.ag 8 (.ef 10 (.ag 8 (.rd 11 (.fin))) .non)))) .non)))) (.ef 9 (.ag 0 (.ag 1 (.ag 2 (.ag 3 (.ag 4 (.ef 5 (.rd 6 (.rd 7 (.rd 8 (.ef 10 (.ag 8 (.rd 11 (.fin))) .non)))) .non)))))) .non))))))) hk hS (fun w hS _=>?_)
  iterate 3 refine T ?_
  refine LD 0 hk hS ?_
  refine LDS 17 3 hk hS ?_
  refine efk ?_ ?_
  ·replace hS:=hS.pk [4] 0
   obtain ⟨hgd23,ht⟩:=gdE ht
   refine eC hk (h:=dbGet_any P.dg k r12.2.db _ hgd23 hS) (k:=?_)
   rintro _ w ⟨e022,rfl,hS⟩
   refine ⟨_,rfl,?_⟩
   generalize hq22:dbGetF k r12.2.db = q22 at hS ⊢
   replace ht:=(letP_eq hq22).symm.trans ht
   replace hS:=hS.nz 20
   iterate 3 refine T ?_
   refine eA #[i6 0,i6 0,i6 0,i6 0,i6 0,i6 0,i6 0,.slice none 0 0,.slice none 0 0] hS (fun g24 w hS _=>?_)
   iterate 3 refine TA ?_
   refine eS 0 hk hS (fun w hS _=>?_)
   refine TA ?_
   refine T ?_
   refine rE [0,4,15] hk fun a hk=>?_
   refine rgL [3] hk ?_
   refine T ?_
   refine LDS 0 9 hk hS ?_
   refine T ?_
   replace hS:=hS.pk [4,4,4,4,3,3,3,3,3] 0
   replace hS:=ro_close (x:={ r12.2 with mine:=putL k (⟨q10.1.hd.seq,r12.2.now⟩:ToV) r12.2.mine }) (e:=⟨e21.A,e21.c⟩) hpl21 hS
   replace hS:=hS.pk [2,2] 0
   obtain ⟨J25,hS,hJ25⟩:=S.lend (M:=[_,_]) hS
   replace hS:=hS.dupI 5
   replace hS:=hS.dupI 2
   replace hS:=hS.dupI 2
   obtain ⟨q26,hq26,ht⟩:=optB_s ht
   refine eC hk (h:=roPublish_any P q22.1 e022 (-1) 0 vs vsA vsc ({ r12.2 with mine:=putL k (⟨q10.1.hd.seq,r12.2.now⟩:ToV) r12.2.mine }) _ hq26 hS) (k:=?_)
   rintro _ w ⟨B026,d026,rfl,hS⟩
   refine ⟨_,rfl,?_⟩
   replace hS:=hS.dropI.dropI.dropI
   replace hS:=hJ25 _ _ hS
   replace hS:=hS.nz 14
   refine rE [] hk fun a hk=>?_
   replace hS:=hS.pk [3] 13
   obtain rfl:=Option.some.inj ht
   exact rt0 hk (hR_ _ _ ⟨rfl,hS⟩)
  refine eA #[i6 0,i6 0,i6 0,i6 0,i6 0,i6 0,i6 0,.slice none 0 0,.slice none 0 0] hS (fun g27 w hS _=>?_)
  iterate 3 refine TA ?_
  refine aG (fun _ h_=>rk (ld hS 1 rfl (h_.x hk))) ?_
  refine aG (fun _ h_=>rk (lbS 3 (hS.blk (i:=18) rfl) rfl (h_.x hk))) ?_
  replace hS:=hS.pk [5] 0
  obtain ⟨hgd29,ht⟩:=gdE ht
  refine eC hk (h:=dbGet_any P.dg k r12.2.db _ hgd29 hS) (k:=?_)
  rintro _ w ⟨e028,rfl,hS⟩
  refine ⟨_,rfl,?_⟩
  generalize hq28:dbGetF k r12.2.db = q28 at hS ⊢
  replace ht:=(letP_eq hq28).symm.trans ht
  replace hS:=hS.nz 21
  iterate 3 refine T ?_
  refine eS 3 hk hS (fun w hS _=>?_)
  refine TA ?_
  refine T ?_
  refine rE [0,4,15] hk fun a hk=>?_
  refine rgL [3] hk ?_
  refine T ?_
  refine LDS 3 9 hk hS ?_
  refine T ?_
  replace hS:=hS.pk [4,4,4,4,2,3,3,3,3] 0
  replace hS:=ro_close (x:={ r12.2 with mine:=putL k (⟨q10.1.hd.seq,r12.2.now⟩:ToV) r12.2.mine }) (e:=⟨e21.A,e21.c⟩) hpl21 hS
  replace hS:=hS.pk [1,1] 0
  obtain ⟨J30,hS,hJ30⟩:=S.lend (M:=[_,_]) hS
  replace hS:=hS.dupI 5
  replace hS:=hS.dupI 2
  replace hS:=hS.dupI 2
  obtain ⟨q31,hq31,ht⟩:=optB_s ht
  refine eC hk (h:=roPublish_any P q28.1 e028 (-1) 0 vs vsA vsc ({ r12.2 with mine:=putL k (⟨q10.1.hd.seq,r12.2.now⟩:ToV) r12.2.mine }) _ hq31 hS) (k:=?_)
  rintro _ w ⟨B031,d031,rfl,hS⟩
  refine ⟨_,rfl,?_⟩
  replace hS:=hS.dropI.dropI.dropI
  replace hS:=hJ30 _ _ hS
  replace hS:=hS.nz 14
  refine rE [] hk fun a hk=>?_
  replace hS:=hS.pk [3] 13
  obtain rfl:=Option.some.inj ht
  exact rt0 hk (hR_ _ _ ⟨rfl,hS⟩)
 refine eA #[i6 0,i6 0,i6 0,i6 0,i6 0,i6 0,i6 0,.slice none 0 0,.slice none 0 0] hS (fun g32 w hS _=>?_)
 refine aG (fun _ h_=>rk (lbS 23 (hS.blk (i:=13) rfl) rfl (h_.x hk))) ?_
 iterate 3 refine TA ?_
 refine aG (fun _ h_=>rk (ld hS 5 rfl (h_.x hk))) ?_
 replace hS:=hS.pk [2,2] 0
 obtain ⟨J33,hS,hJ33⟩:=S.lend (M:=[_,_]) hS
 replace hS:=hS.dupI 1
 replace hS:=hS.dupI 1
 replace hS:=hS.dupI 6
 replace hS:=hS.dupI 6
 obtain ⟨q34,hq34,ht⟩:=optB_s ht
 refine eC hk (h:=origPlan_any (⟨x.hd,x.links,x.mem,is,q6.1.hd,q6.1.links,q6.1.mem,q6.2,((lookL k s.mine).getD to0).seq,((lookL k s.mine).getD to0).at_,(lookL k s.mine).isSome⟩:MiV) (⟨⟨xp.A,xp.c⟩,⟨xp.B,xp.d⟩,⟨e06.A,e06.c⟩,⟨e06.B,e06.d⟩⟩:SlP × SlP × SlP × SlP) s.now _ hq34 hS) (k:=?_)
 rintro _ w ⟨e034,rfl,hS⟩
 refine ⟨_,rfl,?_⟩
 replace hS:=hS.dropI.dropI.dropI.dropI
 replace hS:=hJ33 _ _ hS
 replace hS:=hS.nz 18
 iterate 3 refine T ?_
 refine eS 4 hk hS (fun w hS _=>?_)
 refine TA ?_
 refine T ?_
 refine rE [0,4,6,13,14] hk fun a hk=>?_
 refine wp_seq ?_
 refine wp_seq ?_
 obtain ⟨r35,hr35,ht⟩:=optB_s ht
 refine wp_cut (fun a_ w_=>Fr a_ 98 [(0,pt P.g 0),(4,.slice vsA vs.length vsc),(6,pt g2 0),(13,pt g32 0),(71,.bool r35.1)]∧S κ (roA P r35.2::rowA (.slice e06.A q6.1.links.length e06.c) 230 4 q6.1.links.length (rowC Lk.cells q6.1.links)::rowA (.slice e06.B q6.1.mem.length e06.d) 3 1 q6.1.mem.length (ints q6.1.mem)::rowA (.slice e034.A q34.1.links.length e034.c) 230 4 q34.1.links.length (rowC Lk.cells q34.1.links)::rowA (.slice e034.B q34.1.mem.length e034.d) 3 1 q34.1.mem.length (ints q34.1.mem)::blkA g32 66 #[i6 q34.1.hd.age,i6 q34.1.hd.kind,i6 q34.1.hd.id,i6 q34.1.hd.adv,i6 q34.1.hd.seq,i6 q34.1.hd.sum,i6 q34.1.hd.long,.slice e034.A q34.1.links.length e034.c,.slice e034.B q34.1.mem.length e034.d]::(blkA g8 305 #[i6 (((lookL k s.mine).getD to0).seq),i6 (((lookL k s.mine).getD to0).at_)])::(blkA g4 303 #[i6 x.hd.age,i6 x.hd.kind,i6 x.hd.id,i6 x.hd.adv,i6 x.hd.seq,i6 x.hd.sum,i6 x.hd.long,.slice xp.A x.links.length xp.c,.slice xp.B x.mem.length xp.d,.bool is,i6 q6.1.hd.age,i6 q6.1.hd.kind,i6 q6.1.hd.id,i6 q6.1.hd.adv,i6 q6.1.hd.seq,i6 q6.1.hd.sum,i6 q6.1.hd.long,.slice e06.A q6.1.links.length e06.c,.slice e06.B q6.1.mem.length e06.d,.bool q6.2,i6 (((lookL k s.mine).getD to0).seq),i6 (((lookL k s.mine).getD to0).at_),.bool ((lookL k s.mine).isSome)])::blkA g3 66 #[i6 x.hd.age,i6 x.hd.kind,i6 x.hd.id,i6 x.hd.adv,i6 x.hd.seq,i6 x.hd.sum,i6 x.hd.long,.slice xp.A x.links.length xp.c,.slice xp.B x.mem.length xp.d]::blkA g2 111 #[i6 k.kind,i6 k.id,i6 k.adv]::L) (rowA (.slice xp.A x.links.length xp.c) 230 4 x.links.length (rowC Lk.cells x.links)::rowA (.slice xp.B x.mem.length xp.d) 3 1 x.mem.length (ints x.mem)::crA vwFn 39 vsA vsc vs::I) w_) ?_ ?_
 ·have hI35:=hr35
  refine rgR [[],[0],[0,1],[0,1,2],[0,1,2,3],[0,1,2,3,4],[0,1,2,3,4,5],[0,1,2,3,4,5,6],[0,1,2,3,4,5,6,7],[0,1,2,3,4,5,6,7,8],[0,1,2,3,4,5,6,7,8,9],[0,1,2,3,4,5,6],[0,1,2,3,4,5,6,7,8,9,10,11],[0,1,2,3,4,5,6,7,8,9,10,11,12],[0,1,2,3,4,5,6,7,8,9,10,11,12,13]] [12] (.rd 0 (.rd 1 (.rd 2 (.rd 3 (.rd 4 (.rd 5 (.rd 6 (.rd 7 (.rd 8 (.rd 9 (.rd 10 (.rd 11 (.ef 12 (.rd 13 (.rd 14 (.fin))) .non))))))))))))) hk hS (fun w hS _=>?_)
  iterate 3 refine T ?_
  rcases dt ((q34.2:Int) ≠ 1) with ⟨he,hg2⟩ | ⟨he,hg2⟩
  ·rw [he]
   replace hI35:=(if_pos hg2).symm.trans hI35
   iterate 4 refine T ?_
   rcases dt ((q34.2:Int) ≠ 2) with ⟨he,hg6⟩ | ⟨he,hg6⟩
   ·rw [he]
    replace hI35:=(if_pos hg6).symm.trans hI35
    refine oF 6 63 false [7,8,9,10,11] ?_
    refine oE 6 63 false ?_
    refine oF 6 63 false [13] ?_
    refine T ?_
    refine rE [0,4,6,13,71] hk fun a hk=>?_
    replace hS:=hS.pk [7,7,7,7,6,6,6,6,6] 0
    replace hS:=ro_close (x:=s) (e:=⟨e5.A,e5.c⟩) hpl5 hS
    obtain rfl:=Option.some.inj hI35
    exact ⟨hk.to,hS⟩
   rw [he]
   replace hI35:=(if_neg hg6).symm.trans hI35
   iterate 3 refine T ?_
   refine LD 7 hk hS ?_
   refine LDS 4 9 hk hS ?_
   replace hS:=hS.pk [2,2] 0
   obtain ⟨J36,hS,hJ36⟩:=S.lend (M:=[_,_]) hS
   replace hS:=hS.pk [4] 0
   obtain ⟨hgd38,hI35⟩:=gdE hI35
   obtain ⟨hgd39,hI35⟩:=gdE hI35
   refine eC hk (h:=dbPut_any P.dg q34.1 e034 s.db _ hgd38 hgd39 hS) (k:=?_)
   rintro _ w ⟨rfl,hS⟩
   refine ⟨_,rfl,?_⟩
   generalize hq37:dbPutF q34.1 s.db = q37 at hS ⊢
   replace hI35:=(letP_eq hq37).symm.trans hI35
   replace hS:=hJ36 _ _ hS
   replace hS:=hS.nz 18
   iterate 2 refine T ?_
   refine rE [0,4,6,13,71] hk fun a hk=>?_
   replace hS:=hS.pk [7,7,7,7,2,6,6,6,6] 0
   replace hS:=ro_close (x:={ s with db:=q37.2 }) (e:=⟨e5.A,e5.c⟩) hpl5 hS
   replace hS:=hS.pk [0,2,2,0,0,0,0,0,0,0] 0
   obtain rfl:=Option.some.inj hI35
   exact ⟨hk.to,hS⟩
  rw [he]
  replace hI35:=(if_neg hg2).symm.trans hI35
  refine oF 2 59 true [3,4] ?_
  iterate 5 refine T ?_
  refine LD 7 hk hS ?_
  refine LDS 4 9 hk hS ?_
  replace hS:=hS.pk [2,2] 0
  obtain ⟨J40,hS,hJ40⟩:=S.lend (M:=[_,_]) hS
  replace hS:=hS.pk [4] 0
  obtain ⟨hgd42,hI35⟩:=gdE hI35
  obtain ⟨hgd43,hI35⟩:=gdE hI35
  refine eC hk (h:=dbPut_any P.dg q34.1 e034 s.db _ hgd42 hgd43 hS) (k:=?_)
  rintro _ w ⟨rfl,hS⟩
  refine ⟨_,rfl,?_⟩
  generalize hq41:dbPutF q34.1 s.db = q41 at hS ⊢
  replace hI35:=(letP_eq hq41).symm.trans hI35
  replace hS:=hJ40 _ _ hS
  replace hS:=hS.nz 18
  iterate 2 refine T ?_
  refine rE [0,4,6,13,71] hk fun a hk=>?_
  replace hS:=hS.pk [7,7,7,7,2,6,6,6,6] 0
  replace hS:=ro_close (x:={ s with db:=q41.2 }) (e:=⟨e5.A,e5.c⟩) hpl5 hS
  replace hS:=hS.pk [0,2,2,0,0,0,0,0,0,0] 0
  obtain rfl:=Option.some.inj hI35
  exact ⟨hk.to,hS⟩
 rintro a w ⟨hk,hS⟩
 refine cB hk (fun hc71=>?_) (fun hc71=>?_)
 ·replace ht:=(bT hc71).symm.trans ht
  refine wp_ret ?_
  replace hS:=hS.pk [0] 9
  obtain rfl:=Option.some.inj ht
  exact rt0 hk (hR_ _ _ ⟨rfl,hS⟩)
 replace ht:=(bF hc71).symm.trans ht
 refine wp_skip ?_
 refine wp_seq ?_
 refine rgR [[],[0],[0,1],[0,1,2],[],[],[5],[5,6],[],[8],[8,9],[8,9,10],[5,6,7,8,9,10,11],[0,1,2,3,4,5,6,7,8,9,10,11,12]] [13] (.rd 0 (.rd 1 (.rd 2 (.rd 3 (.rd 4 (.rd 5 (.rd 6 (.rd 7 (.rd 8 (.rd 9 (.rd 10 (.rd 11 (.rd 12 (.ef 13 (.fin) .non)))))))))))))) hk hS (fun w hS _=>?_)
 iterate 3 refine T ?_
 obtain ⟨e44,hpl44,hS⟩:=ro_open hS
 refine LD 0 hk hS ?_
 refine LDS 17 3 hk hS ?_
 iterate 2 refine T ?_
 refine LD 13 hk hS ?_
 iterate 3 refine T ?_
 refine LD 0 hk hS ?_
 refine rD (.agg #[i6 q34.1.hd.seq,i6 r35.2.now]) (fun _ h_=>rk (run_build rfl (h_.prt hk) (by kernel_rfl))) ?_
 refine eF (fun a_ h_=>st_mapset (ev:=toldE) (E:=305) 3 k (⟨q34.1.hd.seq,r35.2.now⟩:ToV) ke_key hS (on_none rfl) (.inl rfl) (h_.x hk) (h_.x hk) (h_.x hk) fun w hS=>⟨_,rfl,?_⟩)
 replace hS:=hS.nz 18
 refine rE [0,4,6] hk fun a hk=>?_
 refine wp_seq ?_
 refine rgR [[],[0],[0,1],[0,1,2],[],[0,1,2,3,4],[0,1,2,3,4,5],[0,1,2,3,4,5,6],[0,1,2,3,4,5,6],[],[0,1,2,3,4,5,6,7,9],[0,1,2,3,4,5,6,7,8,9,10]] [5,9,10] (.rd 0 (.rd 1 (.rd 2 (.rd 3 (.rd 4 (.ef 5 (.rd 6 (.rd 7 (.rd 8 (.ef 9 (.ag 6 (.ag 7 (.ag 8 (.ef 10 (.ag 8 (.rd 11 (.fin))) .non)))) .non)))) (.ef 9 (.ag 0 (.ag 1 (.ag 2 (.ag 3 (.ag 4 (.ef 5 (.rd 6 (.rd 7 (.rd 8 (.ef 10 (.ag 8 (.rd 11 (.fin))) .non)))) .non)))))) .non))))))) hk hS (fun w hS _=>?_)
 iterate 3 refine T ?_
 refine LD 0 hk hS ?_
 refine LDS 17 3 hk hS ?_
 refine efk ?_ ?_
 ·replace hS:=hS.pk [4] 0
  obtain ⟨hgd46,ht⟩:=gdE ht
  refine eC hk (h:=dbGet_any P.dg k r35.2.db _ hgd46 hS) (k:=?_)
  rintro _ w ⟨e045,rfl,hS⟩
  refine ⟨_,rfl,?_⟩
  generalize hq45:dbGetF k r35.2.db = q45 at hS ⊢
  replace ht:=(letP_eq hq45).symm.trans ht
  replace hS:=hS.nz 20
  iterate 3 refine T ?_
  refine eA #[i6 0,i6 0,i6 0,i6 0,i6 0,i6 0,i6 0,.slice none 0 0,.slice none 0 0] hS (fun g47 w hS _=>?_)
  iterate 3 refine TA ?_
  refine eS 0 hk hS (fun w hS _=>?_)
  refine TA ?_
  refine T ?_
  refine rE [0,4,15] hk fun a hk=>?_
  refine rgL [3] hk ?_
  refine T ?_
  refine LDS 0 9 hk hS ?_
  refine T ?_
  replace hS:=hS.pk [4,4,4,4,3,3,3,3,3] 0
  replace hS:=ro_close (x:={ r35.2 with mine:=putL k (⟨q34.1.hd.seq,r35.2.now⟩:ToV) r35.2.mine }) (e:=⟨e44.A,e44.c⟩) hpl44 hS
  replace hS:=hS.pk [2,2] 0
  obtain ⟨J48,hS,hJ48⟩:=S.lend (M:=[_,_]) hS
  replace hS:=hS.dupI 5
  replace hS:=hS.dupI 2
  replace hS:=hS.dupI 2
  obtain ⟨q49,hq49,ht⟩:=optB_s ht
  refine eC hk (h:=roPublish_any P q45.1 e045 (-1) 0 vs vsA vsc ({ r35.2 with mine:=putL k (⟨q34.1.hd.seq,r35.2.now⟩:ToV) r35.2.mine }) _ hq49 hS) (k:=?_)
  rintro _ w ⟨B049,d049,rfl,hS⟩
  refine ⟨_,rfl,?_⟩
  replace hS:=hS.dropI.dropI.dropI
  replace hS:=hJ48 _ _ hS
  replace hS:=hS.nz 14
  refine rE [] hk fun a hk=>?_
  replace hS:=hS.pk [3] 13
  obtain rfl:=Option.some.inj ht
  exact rt0 hk (hR_ _ _ ⟨rfl,hS⟩)
 refine eA #[i6 0,i6 0,i6 0,i6 0,i6 0,i6 0,i6 0,.slice none 0 0,.slice none 0 0] hS (fun g50 w hS _=>?_)
 iterate 3 refine TA ?_
 refine aG (fun _ h_=>rk (ld hS 1 rfl (h_.x hk))) ?_
 refine aG (fun _ h_=>rk (lbS 3 (hS.blk (i:=18) rfl) rfl (h_.x hk))) ?_
 replace hS:=hS.pk [5] 0
 obtain ⟨hgd52,ht⟩:=gdE ht
 refine eC hk (h:=dbGet_any P.dg k r35.2.db _ hgd52 hS) (k:=?_)
 rintro _ w ⟨e051,rfl,hS⟩
 refine ⟨_,rfl,?_⟩
 generalize hq51:dbGetF k r35.2.db = q51 at hS ⊢
 replace ht:=(letP_eq hq51).symm.trans ht
 replace hS:=hS.nz 21
 iterate 3 refine T ?_
 refine eS 3 hk hS (fun w hS _=>?_)
 refine TA ?_
 refine T ?_
 refine rE [0,4,15] hk fun a hk=>?_
 refine rgL [3] hk ?_
 refine T ?_
 refine LDS 3 9 hk hS ?_
 refine T ?_
 replace hS:=hS.pk [4,4,4,4,2,3,3,3,3] 0
 replace hS:=ro_close (x:={ r35.2 with mine:=putL k (⟨q34.1.hd.seq,r35.2.now⟩:ToV) r35.2.mine }) (e:=⟨e44.A,e44.c⟩) hpl44 hS
 replace hS:=hS.pk [1,1] 0
 obtain ⟨J53,hS,hJ53⟩:=S.lend (M:=[_,_]) hS
 replace hS:=hS.dupI 5
 replace hS:=hS.dupI 2
 replace hS:=hS.dupI 2
 obtain ⟨q54,hq54,ht⟩:=optB_s ht
 refine eC hk (h:=roPublish_any P q51.1 e051 (-1) 0 vs vsA vsc ({ r35.2 with mine:=putL k (⟨q34.1.hd.seq,r35.2.now⟩:ToV) r35.2.mine }) _ hq54 hS) (k:=?_)
 rintro _ w ⟨B054,d054,rfl,hS⟩
 refine ⟨_,rfl,?_⟩
 replace hS:=hS.dropI.dropI.dropI
 replace hS:=hJ53 _ _ hS
 replace hS:=hS.nz 14
 refine rE [] hk fun a hk=>?_
 replace hS:=hS.pk [3] 13
 obtain rfl:=Option.some.inj ht
 exact rt0 hk (hR_ _ _ ⟨rfl,hS⟩)
end
section
set_option maxRecDepth 100000
set_option maxHeartbeats 8000000
def dbTickF2 (d:DbS):List KeyV × DbS:=(tickK d.l,⟨d.room,tickL d.l⟩)
theorem dbTick_one2 {κ:Kap} {L I:List Atom} (g:Nat) (d:DbS) (W:World) (hn:d.l.length ≤ 100000) (ha:DbOk d) (hS:S κ (dbA g d::L) I W):
    Calls Tryz.prog 40 #[pt g 0] W (fun r w'=>∃ B0 d0,r = .returned (.slice B0 (dbTickF2 d).1.length d0)∧S κ (rowA (.slice B0 (dbTickF2 d).1.length d0) 111 3 (dbTickF2 d).1.length (rowC KeyV.cells (dbTickF2 d).1)::dbA g (dbTickF2 d).2::L) I w'):=dbTick_one g d W hn ha hS
theorem perm_small {α:Type} {es l:List α} (h:es.Perm l) (hl:l.length ≤ 1):es = l:=by
  match l,hl with
  | [],_=>exact h.eq_nil
  | [a],_=>exact List.perm_singleton.1 h
theorem peers_new {κ:Kap} {L I:List Atom} {w:World} {g:Nat} {a b:Int} (h:S κ (blkA g 172 #[i6 a,i6 b,.pointer none,.pointer none,.pointer none,.pointer none,.pointer none,.pointer none,.pointer none,.pointer none,.pointer none,.pointer none,.pointer none,.pointer none,.pointer none,.pointer none,.pointer none,.pointer none]::L) I w):S κ (peersA g ⟨a,b,List.replicate 16 none⟩::L) I w:=by
  refine peers_close (q:=List.replicate 16 none) rfl rfl ?_
  have h1:∀ (n:Nat) {L:List Atom},S κ L I w → S κ (List.replicate n (peerA none) ++ L) I w:=by
    intro n
    induction n with
    | zero=>intro L h;exact h
    | succ n ih=>
      intro L h
      rw [List.replicate_succ,List.cons_append]
      exact S.pure_close trivial (S.sep_close (l:=[]) (ih h))
  have h2:(List.replicate 16 (none:Option (Nat × PeV))).map peerA = List.replicate 16 (peerA none):=by rw [List.map_replicate]
  rw [h2]
  exact (S.sep_close (l:=List.replicate 16 (peerA none)) (h1 16 h)).perm (List.Perm.swap _ _ _)
def roOwnFL13:List VwV → (List (KeyV × LV)) → Option ((List (KeyV × LV)))
  | [],v13x0=>some v13x0
  | z13::xs13,v13x0=>optB (origNetF z13) fun q17=>cond q17.2 (roOwnFL13 xs13 (putL (keyOfHF q17.1.hd) q17.1 v13x0)) (roOwnFL13 xs13 v13x0)
def roOwnFS30 (k31:KeyV) (v31:LV) (v30x0:List KeyV):(List KeyV):=v30x0 ++ [k31]
def roOwnFL40 (s:RoS):List LV → (List KeyV) → Option ((List KeyV))
  | [],v40x0=>some v40x0
  | z40::xs40,v40x0=>if (z40.hd.adv:Int) = s.id then cond (hasKeyF v40x0 (keyOfHF z40.hd)) (roOwnFL40 s xs40 v40x0) (if v40x0.length + 1 ≤ 100000 then roOwnFL40 s xs40 (v40x0 ++ [(keyOfHF z40.hd)]) else none) else roOwnFL40 s xs40 v40x0
def roOwnFL53 (q2:(List VwV)) (r13:(List (KeyV × LV))):List KeyV → RoS → Option (RoS)
  | [],v53x0=>some v53x0
  | z53::xs53,v53x0=>optE (lookL z53 r13) (optB (roPlanF z53 (⟨(⟨0,0,0,0,0,0,0⟩:HD),[],[]⟩:LV) false q2 v53x0) fun q64=>roOwnFL53 q2 r13 xs53 q64) fun v61=>optB (roPlanF z53 v61 true q2 v53x0) fun q67=>roOwnFL53 q2 r13 xs53 q67
def roOwnF (s:RoS):Option (RoS):=optB (roViewsF s) fun q2=>if q2.length ≤ 100000 then letP (origRouterF s.id q2) fun q6=>optB (roOwnFL13 q2 (putL (keyOfHF q6.hd) q6 [])) fun r13=>if r13.length ≤ 1 then letP (r13.foldr (fun e x=>roOwnFS30 e.1 e.2 x) []) fun r30=>if DbOk s.db then if s.db.l.length ≤ 100000 then letP (dbAllF s.db.l) fun q36=>optB (roOwnFL40 s q36 r30) fun r40=>if r40.length ≤ 100000 then optB (roOwnFL53 q2 r13 (pdqL keyF2 r40) s) fun r53=>some r53 else none else none else none else none else none
theorem roOwn_any {κ:Kap} {L I:List Atom} (P:RoP) (s:RoS) (W:World) {r_:RoS} (ht:(roOwnF s) = some r_) (hS:S κ (roA P s::L) (I) W):
    Calls Tryz.prog 47 #[pt P.g 0] W (fun r w'=>r = .returned (.tuple #[])∧S κ (roA P r_::L) (I) w'):=by
 refine wK 117 Tryz.func47 (fun R_ hR_ a hk=>?_)
 refine wp_seq ?_
 refine rgL [1] hk ?_
 refine T ?_
 obtain ⟨q2,hq2,ht⟩:=optB_s ht
 refine eC hk (h:=roViews_any P s _ hq2 hS) (k:=?_)
 rintro _ w ⟨B02,d02,rfl,hS⟩
 refine ⟨_,rfl,?_⟩
 replace hS:=hS.nz 2
 refine T ?_
 refine rE [0,2] hk fun a hk=>?_
 refine wp_seq ?_
 refine rgL [0] hk ?_
 refine eF (fun a_ h_=>st_makeMap (α:=KeyV) (β:=LV × LP) lsMF.ek lsMF.ev hS (on_none rfl) rfl fun g3 w hS _=>⟨_,rfl,?_⟩)
 replace hS:=mob_nil hS
 refine T ?_
 refine rE [0,2,3] hk fun a hk=>?_
 refine wp_seq ?_
 refine rgL [5,6,7] hk ?_
 iterate 3 refine T ?_
 replace hS:=hS.fr 2
 obtain ⟨e4,hpl4,hS⟩:=ro_open hS
 refine LD 0 hk hS ?_
 refine T ?_
 replace hS:=hS.pk [10] 0
 obtain ⟨J5,hS,hJ5⟩:=S.lend (M:=[_]) hS
 obtain ⟨hgd7,ht⟩:=gdE ht
 refine eC hk (h:=origRouter_any s.id q2 B02 d02 _ hgd7 hS) (k:=?_)
 rintro _ w ⟨e06,rfl,hS⟩
 refine ⟨_,rfl,?_⟩
 generalize hq6:origRouterF s.id q2 = q6 at hS ⊢
 replace ht:=(letP_eq hq6).symm.trans ht
 replace hS:=hJ5 _ _ hS
 replace hS:=hS.nz 13
 refine eA #[i6 0,i6 0,i6 0,i6 0,i6 0,i6 0,i6 0,.slice none 0 0,.slice none 0 0] hS (fun g8 w hS _=>?_)
 refine eS 0 hk hS (fun w hS _=>?_)
 refine rE [0,2,3,4] hk fun a hk=>?_
 refine wp_seq ?_
 refine rgR [[],[],[1],[1,2],[],[0,1,2,3,4]] [3,5] (.rd 0 (.rd 1 (.rd 2 (.rd 4 (.ef 3 (.ag 0 (.ag 4 (.ef 5 (.fin) .non))) .non))))) hk hS (fun w hS _=>?_)
 iterate 2 refine T ?_
 refine LDS 0 7 hk hS ?_
 refine LDS 0 9 hk hS ?_
 refine eC hk (h:=keyOfH_any q6.hd _ hS) (k:=?_)
 rintro _ w ⟨rfl,hS⟩
 refine ⟨_,rfl,?_⟩
 replace hS:=hS.nz 14
 refine TA ?_
 refine aG (fun _ h_=>rk (lbS 9 (hS.blk (i:=0) rfl) rfl (h_.x hk))) ?_
 replace hS:=hS.fr 13
 obtain ⟨q10,hq10,hS⟩:=mob_open (F:=lsMF) hS
 refine eF (fun a_ h_=>st_mapset (ev:=lsMF.ev) (E:=66) 0 (keyOfHF q6.hd) (q6,e06) ke_key hS (on_none rfl) (.inl rfl) (h_.x hk) (h_.x hk) (h_.x hk) fun w hS=>⟨_,rfl,?_⟩)
 replace hS:=hS.nz 15
 replace hS:=hS.pk [4,4,1] 0
 replace hS:=mob_put (F:=lsMF) (x:=(keyOfHF q6.hd)) (v:=q6) (p:=e06) hS
 have hq11:=mob_putq hq10 (keyOfHF q6.hd) q6 e06
 replace hS:=hS.pk [1,0] 0
 replace hS:=mob_close (F:=lsMF) hq11 hS
 refine rE [0,2,3] hk fun a hk=>?_
 refine wp_seq ?_
 refine wp_seq ?_
 refine rgL [] hk ?_
 iterate 3 refine T ?_
 refine rE [0,2,3,32,33,34] hk fun a hk=>?_
 replace hS:=hS.fr 2
 obtain ⟨J12,hS,hJ12⟩:=S.lend (M:=[_]) hS
 replace hS:=hS.pk [2,2,2,2,2,2,2,2,2] 0
 replace hS:=ro_close (x:=s) (e:=⟨e4.A,e4.c⟩) hpl4 hS
 obtain ⟨r13,hr13,ht⟩:=optB_s ht
 refine wp_cut (fun a_ w_=>Fr a_ 117 [(0,pt P.g 0),(2,.slice B02 q2.length d02),(3,.map (some g3))]∧S κ (roA P s::(mobA lsMF g3 r13)::blkA g8 66 #[i6 q6.hd.age,i6 q6.hd.kind,i6 q6.hd.id,i6 q6.hd.adv,i6 q6.hd.seq,i6 q6.hd.sum,i6 q6.hd.long,.slice e06.A q6.links.length e06.c,.slice e06.B q6.mem.length e06.d]::L) (crA vwFn 39 B02 d02 q2::J12::I) w_) ?_ ?_
 ·refine wp_block ?_
  refine wp_loop (fun a_ w_=>∃ k13:Nat,∃ v13x0:List (KeyV × LV),(k13 ≤ (q2).length)∧roOwnFL13 ((q2).drop k13) v13x0 = some r13∧Fr a_ 117 [(0,pt P.g 0),(2,.slice B02 q2.length d02),(3,.map (some g3)),(32,.slice B02 q2.length d02),(33,i6 ((q2.length:Nat):Int)),(34,i6 k13)]∧S κ (roA P s::(mobA lsMF g3 v13x0)::blkA g8 66 #[i6 q6.hd.age,i6 q6.hd.kind,i6 q6.hd.id,i6 q6.hd.adv,i6 q6.hd.seq,i6 q6.hd.sum,i6 q6.hd.long,.slice e06.A q6.links.length e06.c,.slice e06.B q6.mem.length e06.d]::L) (crA vwFn 39 B02 d02 q2::J12::I) w_) (fun a_ _=>(q2).length - (intOf (sl a_ 34)).toNat) ?_ ?_
  ·exact ⟨0,(putL (keyOfHF q6.hd) q6 []),Nat.zero_le _,hr13,hk.to,hS⟩
  clear hk hS
  rintro aL13 w ⟨k13,v13x0,hkl13,hI13,hk,hS⟩
  have hmu13:=hk.g (s:=34)
  have hlb13:=crLen hS (i:=0)
  refine wp_seq ?_
  refine rgL [] hk ?_
  refine T ?_
  refine rE [0,2,3,32,33,34,35] hk fun a hk=>?_
  refine wp_seq ?_
  refine cD hk (fun hc35=>?_) (fun hc35=>?_)
  ·obtain ⟨z13,hz13⟩:=at_k (show k13 < (q2).length by omega)
   rw [drop_at hz13] at hI13
   refine wp_skip ?_
   refine wp_seq ?_
   refine wp_block ?_
   refine wp_seq ?_
   refine rgL [2,3] hk ?_
   refine cX 0 hz13 hk hS (fun b14 o14 e14 hS hq14=>?_)
   replace hS:S κ (roA P s::(mobA lsMF g3 v13x0)::blkA g8 66 #[i6 q6.hd.age,i6 q6.hd.kind,i6 q6.hd.id,i6 q6.hd.adv,i6 q6.hd.seq,i6 q6.hd.sum,i6 q6.hd.long,.slice e06.A q6.links.length e06.c,.slice e06.B q6.mem.length e06.d]::L) (rowA (.slice e14.1.A z13.peers.length e14.1.c) 90 7 z13.peers.length (rowC PeV.cells z13.peers)::rowA (.slice e14.2.A z13.wants.length e14.2.c) 186 8 z13.wants.length (rowC WtV.cells z13.wants)::crA vwFn 39 B02 d02 q2::J12::I) w:=hS
   refine dV 9 hq14 hk ?_
   refine eA #[i6 0,i6 0,i6 0,i6 0,i6 0,i6 0,i6 0,.slice none 0 0,.slice none 0 0] hS (fun g15 w hS _=>?_)
   refine eS 0 hk hS (fun w hS _=>?_)
   refine rE [0,2,3,6,32,33,34] hk fun a hk=>?_
   refine wp_seq ?_
   refine rgR [[],[0],[0,1],[0,1,2],[],[0,1,2,3,4],[0,1,2,3,4,5],[0,1,2,3,4,5,6],[0,1,2,3,4,5,6],[],[0,1,2,3,4,5,6,7,9],[0,1,2,3,4,5,6,7,8,9,10]] [5,9,10] (.rd 0 (.rd 1 (.rd 2 (.rd 3 (.rd 4 (.ef 5 (.rd 6 (.rd 7 (.rd 8 (.ef 9 (.ag 6 (.ag 7 (.ag 8 (.ef 10 (.ag 8 (.rd 11 (.fin))) .non)))) .non)))) (.ef 9 (.ag 0 (.ag 1 (.ag 2 (.ag 3 (.ag 4 (.ef 5 (.rd 6 (.rd 7 (.rd 8 (.ef 10 (.ag 8 (.rd 11 (.fin))) .non)))) .non)))))) .non))))))) hk hS (fun w hS _=>?_)
   iterate 3 refine T ?_
   replace hS:=hS.fr 1
   obtain ⟨e16,hpl16,hS⟩:=ro_open hS
   refine LD 0 hk hS ?_
   refine LDS 9 9 hk hS ?_
   refine efk ?_ ?_
   ·obtain ⟨q17,hq17,hI13⟩:=optB_s hI13
    refine eC hk (h:=origNet_any s.id z13 e14 _ hq17 hS) (k:=?_)
    rintro _ w ⟨e017,rfl,hS⟩
    refine ⟨_,rfl,?_⟩
    replace hS:=hS.nz 14
    iterate 3 refine T ?_
    refine eA #[i6 0,i6 0,i6 0,i6 0,i6 0,i6 0,i6 0,.slice none 0 0,.slice none 0 0] hS (fun g18 w hS _=>?_)
    iterate 3 refine TA ?_
    refine eS 0 hk hS (fun w hS _=>?_)
    refine TA ?_
    refine T ?_
    refine rE [0,2,3,7,8,32,33,34] hk fun a hk=>?_
    refine wp_seq ?_
    refine rgL [] hk ?_
    refine T ?_
    refine rE [0,2,3,7,32,33,34,47] hk fun a hk=>?_
    refine cB hk (fun hc47=>?_) (fun hc47=>?_)
    ·replace hI13:=(bT hc47).symm.trans hI13
     refine rgR [[],[],[1],[1,2],[],[0,1,2,3,4]] [3,5] (.rd 0 (.rd 1 (.rd 2 (.rd 4 (.ef 3 (.ag 0 (.ag 4 (.ef 5 (.fin) .non))) .non))))) hk hS (fun w hS _=>?_)
     iterate 2 refine T ?_
     refine LDS 0 7 hk hS ?_
     refine LDS 0 9 hk hS ?_
     refine eC hk (h:=keyOfH_any q17.1.hd _ hS) (k:=?_)
     rintro _ w ⟨rfl,hS⟩
     refine ⟨_,rfl,?_⟩
     replace hS:=hS.nz 15
     refine TA ?_
     refine aG (fun _ h_=>rk (lbS 9 (hS.blk (i:=0) rfl) rfl (h_.x hk))) ?_
     replace hS:=hS.fr 13
     obtain ⟨q20,hq20,hS⟩:=mob_open (F:=lsMF) hS
     refine eF (fun a_ h_=>st_mapset (ev:=lsMF.ev) (E:=66) 0 (keyOfHF q17.1.hd) (q17.1,e017) ke_key hS (on_none rfl) (.inl rfl) (h_.x hk) (h_.x hk) (h_.x hk) fun w hS=>⟨_,rfl,?_⟩)
     replace hS:=hS.nz 16
     replace hS:=hS.pk [3,3,1] 0
     replace hS:=mob_put (F:=lsMF) (x:=(keyOfHF q17.1.hd)) (v:=q17.1) (p:=e017) hS
     have hq21:=mob_putq hq20 (keyOfHF q17.1.hd) q17.1 e017
     replace hS:=hS.pk [1,0] 0
     replace hS:=mob_close (F:=lsMF) hq21 hS
     refine rE [0,2,3,32,33,34] hk fun a hk=>?_
     refine rgL [] hk ?_
     refine dA hk ?_
     refine T ?_
     refine rE [0,2,3,32,33,34] hk fun a hk=>?_
     replace hS:=hS.pk [2,2,2,2,2,2,2,2,2] 0
     replace hS:=ro_close (x:=s) (e:=⟨e16.A,e16.c⟩) hpl16 hS
     replace hS:=hS.pk [0,0,2] 2
     replace hS:=hS.dropI.dropI
     exact ⟨⟨k13 + 1,(putL (keyOfHF q17.1.hd) q17.1 v13x0),by omega,hI13,hk.to,hS⟩,mu_lt hk.g hmu13 (by omega)⟩
    replace hI13:=(bF hc47).symm.trans hI13
    refine wp_skip ?_
    refine rgL [] hk ?_
    refine dA hk ?_
    refine T ?_
    refine rE [0,2,3,32,33,34] hk fun a hk=>?_
    replace hS:=hS.pk [3,3,3,3,3,3,3,3,3] 0
    replace hS:=ro_close (x:=s) (e:=⟨e16.A,e16.c⟩) hpl16 hS
    replace hS:=hS.pk [0,4,4] 4
    replace hS:=hS.dropI.dropI
    exact ⟨⟨k13 + 1,v13x0,by omega,hI13,hk.to,hS⟩,mu_lt hk.g hmu13 (by omega)⟩
   refine eA #[i6 0,i6 0,i6 0,i6 0,i6 0,i6 0,i6 0,.slice none 0 0,.slice none 0 0] hS (fun g22 w hS _=>?_)
   iterate 3 refine TA ?_
   refine aG (fun _ h_=>rk (ld hS 1 rfl (h_.x hk))) ?_
   refine aG (fun _ h_=>rk (lbS 9 (hS.blk (i:=10) rfl) rfl (h_.x hk))) ?_
   obtain ⟨q23,hq23,hI13⟩:=optB_s hI13
   refine eC hk (h:=origNet_any s.id z13 e14 _ hq23 hS) (k:=?_)
   rintro _ w ⟨e023,rfl,hS⟩
   refine ⟨_,rfl,?_⟩
   replace hS:=hS.nz 15
   iterate 3 refine T ?_
   refine eS 2 hk hS (fun w hS _=>?_)
   refine TA ?_
   refine T ?_
   refine rE [0,2,3,7,8,32,33,34] hk fun a hk=>?_
   refine wp_seq ?_
   refine rgL [] hk ?_
   refine T ?_
   refine rE [0,2,3,7,32,33,34,47] hk fun a hk=>?_
   refine cB hk (fun hc47=>?_) (fun hc47=>?_)
   ·replace hI13:=(bT hc47).symm.trans hI13
    refine rgR [[],[],[1],[1,2],[],[0,1,2,3,4]] [3,5] (.rd 0 (.rd 1 (.rd 2 (.rd 4 (.ef 3 (.ag 0 (.ag 4 (.ef 5 (.fin) .non))) .non))))) hk hS (fun w hS _=>?_)
    iterate 2 refine T ?_
    refine LDS 2 7 hk hS ?_
    refine LDS 2 9 hk hS ?_
    refine eC hk (h:=keyOfH_any q23.1.hd _ hS) (k:=?_)
    rintro _ w ⟨rfl,hS⟩
    refine ⟨_,rfl,?_⟩
    replace hS:=hS.nz 15
    refine TA ?_
    refine aG (fun _ h_=>rk (lbS 9 (hS.blk (i:=2) rfl) rfl (h_.x hk))) ?_
    replace hS:=hS.fr 13
    obtain ⟨q25,hq25,hS⟩:=mob_open (F:=lsMF) hS
    refine eF (fun a_ h_=>st_mapset (ev:=lsMF.ev) (E:=66) 0 (keyOfHF q23.1.hd) (q23.1,e023) ke_key hS (on_none rfl) (.inl rfl) (h_.x hk) (h_.x hk) (h_.x hk) fun w hS=>⟨_,rfl,?_⟩)
    replace hS:=hS.nz 16
    replace hS:=hS.pk [2,2,1] 0
    replace hS:=mob_put (F:=lsMF) (x:=(keyOfHF q23.1.hd)) (v:=q23.1) (p:=e023) hS
    have hq26:=mob_putq hq25 (keyOfHF q23.1.hd) q23.1 e023
    replace hS:=hS.pk [1,0] 0
    replace hS:=mob_close (F:=lsMF) hq26 hS
    refine rE [0,2,3,32,33,34] hk fun a hk=>?_
    refine rgL [] hk ?_
    refine dA hk ?_
    refine T ?_
    refine rE [0,2,3,32,33,34] hk fun a hk=>?_
    replace hS:=hS.pk [2,2,2,2,2,2,2,2,2] 0
    replace hS:=ro_close (x:=s) (e:=⟨e16.A,e16.c⟩) hpl16 hS
    replace hS:=hS.pk [0,0,2] 2
    replace hS:=hS.dropI.dropI
    exact ⟨⟨k13 + 1,(putL (keyOfHF q23.1.hd) q23.1 v13x0),by omega,hI13,hk.to,hS⟩,mu_lt hk.g hmu13 (by omega)⟩
   replace hI13:=(bF hc47).symm.trans hI13
   refine wp_skip ?_
   refine rgL [] hk ?_
   refine dA hk ?_
   refine T ?_
   refine rE [0,2,3,32,33,34] hk fun a hk=>?_
   replace hS:=hS.pk [3,3,3,3,3,3,3,3,3] 0
   replace hS:=ro_close (x:=s) (e:=⟨e16.A,e16.c⟩) hpl16 hS
   replace hS:=hS.pk [0,4,4] 4
   replace hS:=hS.dropI.dropI
   exact ⟨⟨k13 + 1,v13x0,by omega,hI13,hk.to,hS⟩,mu_lt hk.g hmu13 (by omega)⟩
  obtain rfl:k13 = (q2).length:=by omega
  rw [drop_all (Nat.le_refl _)] at hI13
  refine wp_exit ?_
  obtain rfl:=Option.some.inj hI13
  exact ⟨hk.to,hS⟩
 rintro a w ⟨hk,hS⟩
 replace hS:=hJ12 _ _ hS
 replace hS:=hS.nz 4
 refine wp_seq ?_
 refine rgL [] hk ?_
 refine T ?_
 refine rE [0,2,3,9] hk fun a hk=>?_
 refine wp_seq ?_
 refine wp_seq ?_
 refine rgL [1] hk ?_
 refine T ?_
 replace hS:=hS.fr 2
 obtain ⟨q27,hq27,hS⟩:=mob_open (F:=lsMF) hS
 obtain ⟨hgd28,ht⟩:=gdE ht
 refine eF (fun a_ h_=>st_range (k:=111) (e:=66) 0 hS (on_none rfl) rfl (h_.x hk) fun r29q w hS=>⟨_,rfl,?_⟩)
 replace hS:=hS.nz 5
 refine rE [0,2,3,9,55] hk fun a hk=>?_
 refine wp_cut (fun a_ w_=>∃ eo30:List (KeyV × LV),∃ r30,∃ A30x0 c30x0,(eo30.Perm r13)∧((r13).map (·.1)).Nodup∧eo30.foldr (fun e x=>roOwnFS30 e.1 e.2 x) [] = r30∧(r30.length ≤ (r13).length)∧Fr a_ 117 [(0,pt P.g 0),(2,.slice B02 q2.length d02),(3,.map (some g3)),(9,.slice A30x0 ((r30).length) c30x0)]∧S κ ((rowA (.slice A30x0 ((r30).length) c30x0) 111 3 ((r30).length) (rowC KeyV.cells r30))::mapA lsMF.ek lsMF.ev g3 q27::(mobI lsMF q27)::crA vwFn 39 B02 d02 q2::roA P s::blkA g8 66 #[i6 q6.hd.age,i6 q6.hd.kind,i6 q6.hd.id,i6 q6.hd.adv,i6 q6.hd.seq,i6 q6.hd.sum,i6 q6.hd.long,.slice e06.A q6.links.length e06.c,.slice e06.B q6.mem.length e06.d]::L) (I) w_) ?_ ?_
 ·refine wp_block ?_
  refine wp_loop (fun a_ w_=>∃ es30:List (KeyV × (LV × LP)),∃ v30x0:List KeyV,∃ A30x0 c30x0,((es30.map (·.1)).Nodup)∧(∀ e ∈ es30,e ∈ q27)∧((MFn.out es30).foldr (fun e x=>roOwnFS30 e.1 e.2 x) [] = v30x0)∧(v30x0.length ≤ es30.length)∧Fr a_ 117 [(0,pt P.g 0),(2,.slice B02 q2.length d02),(3,.map (some g3)),(9,.slice A30x0 ((v30x0).length) c30x0),(55,pt r29q 0)]∧S κ ((rowA (.slice A30x0 ((v30x0).length) c30x0) 111 3 ((v30x0).length) (rowC KeyV.cells v30x0))::(rangeA lsMF.ek lsMF.ev g3 r29q q27 (es30.map (·.1)))::(mobI lsMF q27)::crA vwFn 39 B02 d02 q2::roA P s::blkA g8 66 #[i6 q6.hd.age,i6 q6.hd.kind,i6 q6.hd.id,i6 q6.hd.adv,i6 q6.hd.seq,i6 q6.hd.sum,i6 q6.hd.long,.slice e06.A q6.links.length e06.c,.slice e06.B q6.mem.length e06.d]::L) (I) w_) (fun _ w_=>q27.length - (w_.iterSeen r29q).size) ?_ ?_
  ·have hS:=hS.nilrow 111 3
   replace hS:S κ (rowA (.slice none 0 0) 111 3 0 (rowC KeyV.cells [])::(rangeA lsMF.ek lsMF.ev g3 r29q q27 [])::(mobI lsMF q27)::crA vwFn 39 B02 d02 q2::roA P s::blkA g8 66 #[i6 q6.hd.age,i6 q6.hd.kind,i6 q6.hd.id,i6 q6.hd.adv,i6 q6.hd.seq,i6 q6.hd.sum,i6 q6.hd.long,.slice e06.A q6.links.length e06.c,.slice e06.B q6.mem.length e06.d]::L) (I) w:=hS
   exact ⟨[],[],_,_,List.nodup_nil,(fun e h=>by cases h),rfl,Nat.le_refl _,hk.to,hS⟩
  clear hk hS
  rintro aL30 w ⟨es30,v30x0,A30x0,c30x0,hn30,hsub30,hf30,hln30x0,hk,hS⟩
  have hmu30:=S.rangeLen hS (i:=1) rfl
  have hnl30:=S.rangeNodup hS (i:=1) rfl
  have hel30:=seen_len hn30 hsub30
  have hmq30:=mob_len hq27
  refine wp_seq ?_
  refine rgL [0] hk ?_
  refine eF (fun a_ h_=>st_next 1 hS (on_none rfl) rfl (h_.x hk) (fun hall=>⟨_,rfl,?_⟩) (fun p31 w hp31 hpd31 hS=>⟨_,rfl,?_⟩))
  ·refine T ?_
   refine rE [0,2,3,9,55,57] hk fun a hk=>?_
   refine wp_seq ?_
   refine cF hk ?_
   refine wp_exit ?_
   replace hS:=hS.rangeEnd (i:=1) rfl
   replace hS:=hS.nz 6
   exact ⟨MFn.out es30,_,_,_,out_perm hq27 (seenPerm hn30 hsub30 hall hnl30),out_nd hq27 hnl30,hf30,out_le hq27 (Nat.le_trans hln30x0 hel30),hk.to,hS⟩
  obtain ⟨k31,v31,e31⟩:=p31
  replace hS:=hS.nz 6
  replace hS:=hS.fr 2
  obtain ⟨R31,hS,hR31⟩:=mob_in (F:=lsMF) hp31 hS
  replace hS:=hS.nz 8
  obtain ⟨x30,hI30⟩:∃ y_,roOwnFS30 k31 v31 v30x0 = y_:=⟨_,rfl⟩
  have hs30:=hI30
  refine T ?_
  refine rE [0,2,3,9,55,57] hk fun a hk=>?_
  refine wp_seq ?_
  refine cT hk ?_
  refine wp_skip ?_
  refine wp_block ?_
  refine wp_seq ?_
  refine rgL [2,3] hk ?_
  refine rD (.tuple #[.agg #[i6 k31.kind,i6 k31.id,i6 k31.adv],.agg #[i6 v31.hd.age,i6 v31.hd.kind,i6 v31.hd.id,i6 v31.hd.adv,i6 v31.hd.seq,i6 v31.hd.sum,i6 v31.hd.long,.slice e31.A v31.links.length e31.c,.slice e31.B v31.mem.length e31.d]]) (fun _ h_=>rk (run_entryA (ek:=lsMF.ek) (ev:=lsMF.ev) (x:=k31) (u:=(v31,e31)) hS (i:=4) rfl hp31 rfl (h_.x hk))) ?_
  refine T ?_
  refine eA #[i6 0,i6 0,i6 0] hS (fun g32 w hS _=>?_)
  refine eS 0 hk hS (fun w hS _=>?_)
  refine rE [0,2,3,9,10,55] hk fun a hk=>?_
  refine rgL [2,3] hk ?_
  refine T ?_
  refine LDS 0 3 hk hS ?_
  refine eF (fun a_ h_=>st_lit (e:=111) (cells:=#[i6 k31.kind,i6 k31.id,i6 k31.adv]) hS (on_none rfl) rfl (h_.prtL hk) fun g33 w hS _=>⟨_,rfl,?_⟩)
  refine eF (fun a_ h_=>sapL (bytes:=24) (ys:=[k31]) KeyV.cells_fn hS 5 (on_none rfl) rfl (h_.x hk) (h_.x hk) (reads_blk (hS.blk (i:=0) rfl) rfl) (by (try simp only [List.length_append,List.length_cons,List.length_nil,List.length_take,List.length_drop]);omega) fun A34 c34 w hS=>⟨_,rfl,?_⟩)
  replace hS:S κ (blkA g33 111 #[i6 k31.kind,i6 k31.id,i6 k31.adv]::blkA g32 111 #[i6 k31.kind,i6 k31.id,i6 k31.adv]::rowA (.slice e31.A v31.links.length e31.c) 230 4 v31.links.length (rowC Lk.cells v31.links)::rowA (.slice e31.B v31.mem.length e31.d) 3 1 v31.mem.length (ints v31.mem)::R31::(rowA (.slice A34 ((v30x0 ++ [k31]).length) c34) 111 3 ((v30x0 ++ [k31]).length) (rowC KeyV.cells (v30x0 ++ [k31])))::(rangeA lsMF.ek lsMF.ev g3 r29q q27 (k31::(es30.map (·.1))))::crA vwFn 39 B02 d02 q2::roA P s::blkA g8 66 #[i6 q6.hd.age,i6 q6.hd.kind,i6 q6.hd.id,i6 q6.hd.adv,i6 q6.hd.seq,i6 q6.hd.sum,i6 q6.hd.long,.slice e06.A q6.links.length e06.c,.slice e06.B q6.mem.length e06.d]::L) (I) w:=hS
  refine T ?_
  refine rE [0,2,3,9,55] hk fun a hk=>?_
  replace hS:=hS.pk [2,2,2] 0
  replace hS:=hR31 _ _ _ hS
  replace hS:=hS.pk [3,3,0,2,2,2] 2
  have hmuE:=S.rangeLen hS (i:=1) rfl
  subst hI30
  exact ⟨⟨(k31,v31,e31)::es30,(v30x0 ++ [k31]),_,_,List.nodup_cons.2 ⟨hpd31,hn30⟩,seen_sub hp31 hsub30,(by rw [MFn.out,List.map_cons,List.foldr_cons];unfold MFn.out at hf30;rw [hf30];exact hs30),by (try simp only [List.length_append,List.length_cons,List.length_nil]);omega,hk.to,hS⟩,map_mu hmu30 hmuE hn30 hsub30 hp31 hpd31⟩
 rintro a w ⟨eo30,r30,A30x0,c30x0,hpm30,hnd30,hr30,hrl30x0,hk,hS⟩
 have he_:=(perm_small hpm30 hgd28).symm
 subst he_
 replace ht:=(letP_eq hr30).symm.trans ht
 refine wp_seq ?_
 refine wp_seq ?_
 refine rgL [4] hk ?_
 iterate 3 refine T ?_
 replace hS:=hS.fr 4
 obtain ⟨e35,hpl35,hS⟩:=ro_open hS
 refine LD 0 hk hS ?_
 replace hS:=hS.pk [4] 0
 obtain ⟨hgd37,ht⟩:=gdE ht
 obtain ⟨hgd38,ht⟩:=gdE ht
 refine eC hk (h:=dbAll_one P.dg s.db _ hgd37 hgd38 hS) (k:=?_)
 rintro _ w ⟨B036,d036,rfl,hS⟩
 refine ⟨_,rfl,?_⟩
 generalize hq36:dbAllF s.db.l = q36 at hS ⊢
 replace ht:=(letP_eq hq36).symm.trans ht
 replace hS:=hS.nz 15
 iterate 2 refine T ?_
 refine rE [0,2,3,9,68,69,70] hk fun a hk=>?_
 obtain ⟨J39,hS,hJ39⟩:=S.lend (M:=[_]) hS
 replace hS:=hS.pk [1,1,1,1,0,0,0,0,0] 0
 replace hS:=ro_close (x:=s) (e:=⟨e35.A,e35.c⟩) hpl35 hS
 replace hS:=hS.pk [2,2] 0
 replace hS:=mob_close (F:=lsMF) hq27 hS
 obtain ⟨r40,hr40,ht⟩:=optB_s ht
 refine wp_cut (fun a_ w_=>∃ A40x0 c40x0,Fr a_ 117 [(0,pt P.g 0),(2,.slice B02 q2.length d02),(3,.map (some g3)),(9,.slice A40x0 ((r40).length) c40x0)]∧S κ ((mobA lsMF g3 r13)::roA P s::(rowA (.slice A40x0 ((r40).length) c40x0) 111 3 ((r40).length) (rowC KeyV.cells r40))::crA vwFn 39 B02 d02 q2::blkA g8 66 #[i6 q6.hd.age,i6 q6.hd.kind,i6 q6.hd.id,i6 q6.hd.adv,i6 q6.hd.seq,i6 q6.hd.sum,i6 q6.hd.long,.slice e06.A q6.links.length e06.c,.slice e06.B q6.mem.length e06.d]::L) (crA lsFn 66 B036 d036 q36::J39::I) w_) ?_ ?_
 ·refine wp_block ?_
  refine wp_loop (fun a_ w_=>∃ k40:Nat,∃ v40x0:List KeyV,∃ A40x0 c40x0,(k40 ≤ (q36).length)∧roOwnFL40 s ((q36).drop k40) v40x0 = some r40∧Fr a_ 117 [(0,pt P.g 0),(2,.slice B02 q2.length d02),(3,.map (some g3)),(9,.slice A40x0 ((v40x0).length) c40x0),(68,.slice B036 q36.length d036),(69,i6 ((q36.length:Nat):Int)),(70,i6 k40)]∧S κ ((mobA lsMF g3 r13)::roA P s::(rowA (.slice A40x0 ((v40x0).length) c40x0) 111 3 ((v40x0).length) (rowC KeyV.cells v40x0))::crA vwFn 39 B02 d02 q2::blkA g8 66 #[i6 q6.hd.age,i6 q6.hd.kind,i6 q6.hd.id,i6 q6.hd.adv,i6 q6.hd.seq,i6 q6.hd.sum,i6 q6.hd.long,.slice e06.A q6.links.length e06.c,.slice e06.B q6.mem.length e06.d]::L) (crA lsFn 66 B036 d036 q36::J39::I) w_) (fun a_ _=>(q36).length - (intOf (sl a_ 70)).toNat) ?_ ?_
  ·exact ⟨0,r30,_,_,Nat.zero_le _,hr40,hk.to,hS⟩
  clear hk hS
  rintro aL40 w ⟨k40,v40x0,A40x0,c40x0,hkl40,hI40,hk,hS⟩
  have hmu40:=hk.g (s:=70)
  have hlb40:=crLen hS (i:=0)
  refine wp_seq ?_
  refine rgL [] hk ?_
  refine T ?_
  refine rE [0,2,3,9,68,69,70,71] hk fun a hk=>?_
  refine wp_seq ?_
  refine cD hk (fun hc71=>?_) (fun hc71=>?_)
  ·obtain ⟨z40,hz40⟩:=at_k (show k40 < (q36).length by omega)
   rw [drop_at hz40] at hI40
   refine wp_skip ?_
   refine wp_seq ?_
   refine wp_block ?_
   refine wp_seq ?_
   refine rgL [2,3] hk ?_
   refine cX 0 hz40 hk hS (fun b41 o41 e41 hS hq41=>?_)
   replace hS:S κ ((mobA lsMF g3 r13)::roA P s::(rowA (.slice A40x0 ((v40x0).length) c40x0) 111 3 ((v40x0).length) (rowC KeyV.cells v40x0))::crA vwFn 39 B02 d02 q2::blkA g8 66 #[i6 q6.hd.age,i6 q6.hd.kind,i6 q6.hd.id,i6 q6.hd.adv,i6 q6.hd.seq,i6 q6.hd.sum,i6 q6.hd.long,.slice e06.A q6.links.length e06.c,.slice e06.B q6.mem.length e06.d]::L) (rowA (.slice e41.A z40.links.length e41.c) 230 4 z40.links.length (rowC Lk.cells z40.links)::rowA (.slice e41.B z40.mem.length e41.d) 3 1 z40.mem.length (ints z40.mem)::crA lsFn 66 B036 d036 q36::J39::I) w:=hS
   refine dV 9 hq41 hk ?_
   refine eA #[i6 0,i6 0,i6 0,i6 0,i6 0,i6 0,i6 0,.slice none 0 0,.slice none 0 0] hS (fun g42 w hS _=>?_)
   refine eS 0 hk hS (fun w hS _=>?_)
   refine rE [0,2,3,9,12,68,69,70] hk fun a hk=>?_
   refine wp_seq ?_
   refine rgL [2,3,4] hk ?_
   refine T ?_
   refine LDS 0 7 hk hS ?_
   refine eC hk (h:=keyOfH_any z40.hd _ hS) (k:=?_)
   rintro _ w ⟨rfl,hS⟩
   refine ⟨_,rfl,?_⟩
   replace hS:=hS.nz 6
   refine eA #[i6 0,i6 0,i6 0] hS (fun g44 w hS _=>?_)
   refine eS 0 hk hS (fun w hS _=>?_)
   refine rE [0,2,3,9,12,13,68,69,70] hk fun a hk=>?_
   refine wp_seq ?_
   refine rgR [[],[0],[0,1],[],[3],[3,4],[3,4,5],[0,1,2,3,4,5,6],[0,1,2,3,4,5,6,7],[0,1,2,3,4,5,6,7,8],[0,1,2,3,4,5,6,7,8],[0,1,2,3,4,5,6,7,8,9,10],[0,1,2,3,4,5,6,7,8,9,10,11],[0,1,2,3,4,5,6,7,8,9,10,11,12]] [11] (.rd 0 (.rd 1 (.rd 2 (.rd 3 (.rd 4 (.rd 5 (.rd 6 (.rd 7 (.rd 8 (.rd 9 (.rd 10 (.ef 11 (.rd 12 (.rd 13 (.fin))) .non)))))))))))) hk hS (fun w hS _=>?_)
   iterate 2 refine T ?_
   refine LD 1 hk hS ?_
   iterate 3 refine T ?_
   replace hS:=hS.fr 3
   obtain ⟨e45,hpl45,hS⟩:=ro_open hS
   refine LD 0 hk hS ?_
   iterate 2 refine T ?_
   rcases dt ((z40.hd.adv:Int) = s.id) with ⟨he,hg8⟩ | ⟨he,hg8⟩
   ·rw [he]
    replace hI40:=(if_pos hg8).symm.trans hI40
    refine T ?_
    refine LDS 9 3 hk hS ?_
    replace hS:=hS.pk [12] 0
    obtain ⟨J46,hS,hJ46⟩:=S.lend (M:=[_]) hS
    refine eC hk (h:=hasKey_any v40x0 A40x0 c40x0 (keyOfHF z40.hd) _ hS) (k:=?_)
    rintro _ w ⟨rfl,hS⟩
    refine ⟨_,rfl,?_⟩
    replace hS:=hJ46 _ _ hS
    replace hS:=hS.nz 15
    iterate 2 refine T ?_
    refine rE [0,2,3,9,13,68,69,70,90] hk fun a hk=>?_
    refine cB hk (fun hc90=>?_) (fun hc90=>?_)
    ·replace hc90:=nbt hc90
     replace hI40:=(bF hc90).symm.trans hI40
     refine rgL [2,3] hk ?_
     refine T ?_
     refine LDS 10 3 hk hS ?_
     refine eF (fun a_ h_=>st_lit (e:=111) (cells:=#[i6 ((keyOfHF z40.hd).kind),i6 ((keyOfHF z40.hd).id),i6 ((keyOfHF z40.hd).adv)]) hS (on_none rfl) rfl (h_.prtL hk) fun g48 w hS _=>⟨_,rfl,?_⟩)
     obtain ⟨hgd50,hI40⟩:=gdE hI40
     refine eF (fun a_ h_=>sapL (bytes:=24) (ys:=[(keyOfHF z40.hd)]) KeyV.cells_fn hS 1 (on_none rfl) rfl (h_.x hk) (h_.x hk) (reads_blk (hS.blk (i:=0) rfl) rfl) (by (try simp only [List.length_append,List.length_cons,List.length_nil,List.length_take,List.length_drop]);omega) fun A49 c49 w hS=>⟨_,rfl,?_⟩)
     replace hS:S κ (blkA g48 111 #[i6 ((keyOfHF z40.hd).kind),i6 ((keyOfHF z40.hd).id),i6 ((keyOfHF z40.hd).adv)]::(rowA (.slice A49 ((v40x0 ++ [(keyOfHF z40.hd)]).length) c49) 111 3 ((v40x0 ++ [(keyOfHF z40.hd)]).length) (rowC KeyV.cells (v40x0 ++ [(keyOfHF z40.hd)])))::blkA P.g 102 #[i6 s.id,i6 s.now,i6 s.number,ptO P.p0,ptO P.p1,ptO P.p2,ptO P.p3,.map (some P.tm),.map (some P.mm),pt P.dg 0,pt P.wg 0,pt P.lg 0,pt P.ag 0,.slice e45.A s.out.length e45.c]::(arrA portA P.pts s.ports)::(mobA taMF P.tm s.talks)::mapA keyE toldE P.mm s.mine::(dbA P.dg s.db)::(wheelA P.wg s.w)::(rxmtA P.lg s.lists)::(acksA P.ag s.later)::crA frFn 58 e45.A e45.c s.out::blkA g44 111 #[i6 ((keyOfHF z40.hd).kind),i6 ((keyOfHF z40.hd).id),i6 ((keyOfHF z40.hd).adv)]::blkA g42 66 #[i6 z40.hd.age,i6 z40.hd.kind,i6 z40.hd.id,i6 z40.hd.adv,i6 z40.hd.seq,i6 z40.hd.sum,i6 z40.hd.long,.slice e41.A z40.links.length e41.c,.slice e41.B z40.mem.length e41.d]::(mobA lsMF g3 r13)::crA vwFn 39 B02 d02 q2::blkA g8 66 #[i6 q6.hd.age,i6 q6.hd.kind,i6 q6.hd.id,i6 q6.hd.adv,i6 q6.hd.seq,i6 q6.hd.sum,i6 q6.hd.long,.slice e06.A q6.links.length e06.c,.slice e06.B q6.mem.length e06.d]::L) (rowA (.slice e41.A z40.links.length e41.c) 230 4 z40.links.length (rowC Lk.cells z40.links)::rowA (.slice e41.B z40.mem.length e41.d) 3 1 z40.mem.length (ints z40.mem)::crA lsFn 66 B036 d036 q36::J39::I) w:=hS
     refine T ?_
     refine rE [0,2,3,9,68,69,70] hk fun a hk=>?_
     refine rgL [] hk ?_
     refine dA hk ?_
     refine T ?_
     refine rE [0,2,3,9,68,69,70] hk fun a hk=>?_
     replace hS:=hS.pk [2,2,2,2,2,2,2,2,2] 0
     replace hS:=ro_close (x:=s) (e:=⟨e45.A,e45.c⟩) hpl45 hS
     replace hS:=hS.pk [5,0,1,3,3] 3
     replace hS:=hS.dropI.dropI
     exact ⟨⟨k40 + 1,(v40x0 ++ [(keyOfHF z40.hd)]),_,_,by omega,hI40,hk.to,hS⟩,mu_lt hk.g hmu40 (by omega)⟩
    replace hc90:=nbf hc90
    replace hI40:=(bT hc90).symm.trans hI40
    refine wp_skip ?_
    refine rgL [] hk ?_
    refine dA hk ?_
    refine T ?_
    refine rE [0,2,3,9,68,69,70] hk fun a hk=>?_
    replace hS:=hS.pk [1,1,1,1,1,1,1,1,1] 0
    replace hS:=ro_close (x:=s) (e:=⟨e45.A,e45.c⟩) hpl45 hS
    replace hS:=hS.pk [4,0,0,2,2] 2
    replace hS:=hS.dropI.dropI
    exact ⟨⟨k40 + 1,v40x0,_,_,by omega,hI40,hk.to,hS⟩,mu_lt hk.g hmu40 (by omega)⟩
   rw [he]
   replace hI40:=(if_neg hg8).symm.trans hI40
   refine oF 8 85 true [9,10] ?_
   refine oE 8 85 true ?_
   refine oF 8 85 true [12] ?_
   refine T ?_
   refine rE [0,2,3,9,13,68,69,70,90] hk fun a hk=>?_
   refine cF hk ?_
   refine wp_skip ?_
   refine rgL [] hk ?_
   refine dA hk ?_
   refine T ?_
   refine rE [0,2,3,9,68,69,70] hk fun a hk=>?_
   replace hS:=ro_close (x:=s) (e:=⟨e45.A,e45.c⟩) hpl45 hS
   replace hS:=hS.pk [3,0,2,2,2] 2
   replace hS:=hS.dropI.dropI
   exact ⟨⟨k40 + 1,v40x0,_,_,by omega,hI40,hk.to,hS⟩,mu_lt hk.g hmu40 (by omega)⟩
  obtain rfl:k40 = (q36).length:=by omega
  rw [drop_all (Nat.le_refl _)] at hI40
  refine wp_exit ?_
  obtain rfl:=Option.some.inj hI40
  exact ⟨_,_,hk.to,hS⟩
 rintro a w ⟨A40x0,c40x0,hk,hS⟩
 replace hS:=hJ39 _ _ hS
 replace hS:=hS.nz 6
 refine wp_seq ?_
 refine rgL [1] hk ?_
 refine T ?_
 obtain ⟨hgd51,ht⟩:=gdE ht
 replace hS:=hS.fr 3
 refine eC hk (h:=sortOwn _ _ _ (by omega) hS) (k:=?_)
 rintro _ w ⟨rfl,hS⟩
 refine ⟨_,rfl,?_⟩
 have hpq52:=pdqL_len keyF2_swo r40
 replace hS:=hS.nz 6
 refine rE [0,2,3,9] hk fun a hk=>?_
 replace hk:Fr a 117 [(0,pt P.g 0),(2,.slice B02 q2.length d02),(3,.map (some g3)),(9,.slice A40x0 ((pdqL keyF2 r40).length) c40x0)]:=by simpa only [pdqL_len keyF2_swo] using hk
 refine wp_seq ?_
 refine rgL [] hk ?_
 iterate 3 refine T ?_
 refine rE [0,2,3,98,99,100] hk fun a hk=>?_
 obtain ⟨r53,hr53,ht⟩:=optB_s ht
 refine wp_cut (fun a_ w_=>Fr a_ 117 []∧S κ ((rowA (.slice A40x0 ((pdqL keyF2 r40).length) c40x0) 111 3 ((pdqL keyF2 r40).length) (rowC KeyV.cells (pdqL keyF2 r40)))::crA lsFn 66 B036 d036 q36::(mobA lsMF g3 r13)::roA P r53::crA vwFn 39 B02 d02 q2::blkA g8 66 #[i6 q6.hd.age,i6 q6.hd.kind,i6 q6.hd.id,i6 q6.hd.adv,i6 q6.hd.seq,i6 q6.hd.sum,i6 q6.hd.long,.slice e06.A q6.links.length e06.c,.slice e06.B q6.mem.length e06.d]::L) (I) w_) ?_ ?_
 ·refine wp_block ?_
  refine wp_loop (fun a_ w_=>∃ k53:Nat,∃ v53x0:RoS,(k53 ≤ (pdqL keyF2 r40).length)∧roOwnFL53 q2 r13 ((pdqL keyF2 r40).drop k53) v53x0 = some r53∧Fr a_ 117 [(0,pt P.g 0),(2,.slice B02 q2.length d02),(3,.map (some g3)),(98,.slice A40x0 ((pdqL keyF2 r40).length) c40x0),(99,i6 (((pdqL keyF2 r40).length:Nat):Int)),(100,i6 k53)]∧S κ ((rowA (.slice A40x0 ((pdqL keyF2 r40).length) c40x0) 111 3 ((pdqL keyF2 r40).length) (rowC KeyV.cells (pdqL keyF2 r40)))::crA lsFn 66 B036 d036 q36::(mobA lsMF g3 r13)::roA P v53x0::crA vwFn 39 B02 d02 q2::blkA g8 66 #[i6 q6.hd.age,i6 q6.hd.kind,i6 q6.hd.id,i6 q6.hd.adv,i6 q6.hd.seq,i6 q6.hd.sum,i6 q6.hd.long,.slice e06.A q6.links.length e06.c,.slice e06.B q6.mem.length e06.d]::L) (I) w_) (fun a_ _=>(pdqL keyF2 r40).length - (intOf (sl a_ 100)).toNat) ?_ ?_
  ·exact ⟨0,s,Nat.zero_le _,hr53,hk.to,hS⟩
  clear hk hS
  rintro aL53 w ⟨k53,v53x0,hkl53,hI53,hk,hS⟩
  have hmu53:=hk.g (s:=100)
  have hlb53:=hS.rowB (i:=0) rfl
  refine wp_seq ?_
  refine rgL [] hk ?_
  refine T ?_
  refine rE [0,2,3,98,99,100,101] hk fun a hk=>?_
  refine wp_seq ?_
  refine cD hk (fun hc101=>?_) (fun hc101=>?_)
  ·obtain ⟨z53,hz53⟩:=at_k (show k53 < (pdqL keyF2 r40).length by omega)
   rw [drop_at hz53] at hI53
   refine wp_skip ?_
   refine wp_seq ?_
   refine wp_block ?_
   refine wp_seq ?_
   refine rgL [2,3] hk ?_
   refine dX KeyV.cells_len' hk (hS.rd (i:=0) rfl) (fun b58 o58 z58 hz58 hq58=>?_)
   obtain rfl:z53 = z58:=Option.some.inj (hz53.symm.trans hz58)
   refine dV 3 hq58 hk ?_
   refine eA #[i6 0,i6 0,i6 0] hS (fun g59 w hS _=>?_)
   refine eS 0 hk hS (fun w hS _=>?_)
   refine rE [0,2,3,15,98,99,100] hk fun a hk=>?_
   refine wp_seq ?_
   refine rgL [6,7] hk ?_
   refine T ?_
   refine LDS 0 3 hk hS ?_
   replace hS:=hS.fr 3
   obtain ⟨q60,hq60,hS⟩:=mob_open (F:=lsMF) hS
   rcases hl61:lookL z53 q60 with _ | ⟨v61,p61⟩
   ·replace hI53:=(optE_n (mob_none hq60 hl61)).symm.trans hI53
    refine rD (.tuple #[.agg #[i6 0,i6 0,i6 0,i6 0,i6 0,i6 0,i6 0,.slice none 0 0,.slice none 0 0],.bool false]) (fun _ h_=>rk (run_look2 (E:=66) (z:=(.agg #[i6 0,i6 0,i6 0,i6 0,i6 0,i6 0,i6 0,.slice none 0 0,.slice none 0 0])) z53 ke_key (hS.mapAt (i:=0) rfl) rfl (h_.x hk) (h_.x hk) (by rw [hl61];rfl))) ?_
    iterate 3 refine T ?_
    refine eA #[i6 0,i6 0,i6 0,i6 0,i6 0,i6 0,i6 0,.slice none 0 0,.slice none 0 0] hS (fun g62 w hS _=>?_)
    refine eS 0 hk hS (fun w hS _=>?_)
    refine T ?_
    refine rE [0,2,3,15,16,17,98,99,100] hk fun a hk=>?_
    refine rgL [5] hk ?_
    refine T ?_
    refine LDS 3 3 hk hS ?_
    refine LDS 0 9 hk hS ?_
    iterate 2 refine T ?_
    have hS:=hS.nilrow 230 4
    replace hS:S κ (rowA (.slice none 0 0) 230 4 0 (rowC Lk.cells [])::blkA g62 66 #[i6 0,i6 0,i6 0,i6 0,i6 0,i6 0,i6 0,.slice none 0 0,.slice none 0 0]::mapA lsMF.ek lsMF.ev g3 q60::(mobI lsMF q60)::blkA g59 111 #[i6 z53.kind,i6 z53.id,i6 z53.adv]::(rowA (.slice A40x0 ((pdqL keyF2 r40).length) c40x0) 111 3 ((pdqL keyF2 r40).length) (rowC KeyV.cells (pdqL keyF2 r40)))::crA lsFn 66 B036 d036 q36::roA P v53x0::crA vwFn 39 B02 d02 q2::blkA g8 66 #[i6 q6.hd.age,i6 q6.hd.kind,i6 q6.hd.id,i6 q6.hd.adv,i6 q6.hd.seq,i6 q6.hd.sum,i6 q6.hd.long,.slice e06.A q6.links.length e06.c,.slice e06.B q6.mem.length e06.d]::L) (I) w:=hS
    have hS:=hS.nilrow 3 1
    replace hS:S κ (rowA (.slice none 0 0) 3 1 0 (ints [])::rowA (.slice none 0 0) 230 4 0 (rowC Lk.cells [])::blkA g62 66 #[i6 0,i6 0,i6 0,i6 0,i6 0,i6 0,i6 0,.slice none 0 0,.slice none 0 0]::mapA lsMF.ek lsMF.ev g3 q60::(mobI lsMF q60)::blkA g59 111 #[i6 z53.kind,i6 z53.id,i6 z53.adv]::(rowA (.slice A40x0 ((pdqL keyF2 r40).length) c40x0) 111 3 ((pdqL keyF2 r40).length) (rowC KeyV.cells (pdqL keyF2 r40)))::crA lsFn 66 B036 d036 q36::roA P v53x0::crA vwFn 39 B02 d02 q2::blkA g8 66 #[i6 q6.hd.age,i6 q6.hd.kind,i6 q6.hd.id,i6 q6.hd.adv,i6 q6.hd.seq,i6 q6.hd.sum,i6 q6.hd.long,.slice e06.A q6.links.length e06.c,.slice e06.B q6.mem.length e06.d]::L) (I) w:=hS
    replace hS:=hS.pk [1,0,7] 0
    obtain ⟨J63,hS,hJ63⟩:=S.lend (M:=[_,_,_]) hS
    replace hS:=hS.pk [6] 0
    obtain ⟨q64,hq64,hI53⟩:=optB_s hI53
    refine eC hk (h:=roPlan_any P z53 (⟨(⟨0,0,0,0,0,0,0⟩:HD),[],[]⟩:LV) (⟨none,0,none,0⟩:LP) false q2 B02 d02 v53x0 _ hq64 hS) (k:=?_)
    rintro _ w ⟨rfl,hS⟩
    refine ⟨_,rfl,?_⟩
    replace hS:=hJ63 _ _ hS
    replace hS:=hS.nz 11
    refine rE [0,2,3,98,99,100] hk fun a hk=>?_
    refine rgL [] hk ?_
    refine dA hk ?_
    refine T ?_
    refine rE [0,2,3,98,99,100] hk fun a hk=>?_
    replace hS:=hS.pk [5,5] 0
    replace hS:=mob_close (F:=lsMF) hq60 hS
    replace hS:=hS.pk [7,7,0,3,2,4] 4
    exact ⟨⟨k53 + 1,q64,by omega,hI53,hk.to,hS⟩,mu_lt hk.g hmu53 (by omega)⟩
   ·replace hI53:=(optE_s (mob_some hq60 hl61)).symm.trans hI53
    replace hS:=hS.fr 1
    replace hS:=mob_at (F:=lsMF) hl61 hS
    replace hS:=hS.nz 10
    refine rD (.tuple #[.agg #[i6 v61.hd.age,i6 v61.hd.kind,i6 v61.hd.id,i6 v61.hd.adv,i6 v61.hd.seq,i6 v61.hd.sum,i6 v61.hd.long,.slice p61.A v61.links.length p61.c,.slice p61.B v61.mem.length p61.d],.bool true]) (fun _ h_=>rk (run_look2 (E:=66) (z:=(.agg #[i6 0,i6 0,i6 0,i6 0,i6 0,i6 0,i6 0,.slice none 0 0,.slice none 0 0])) z53 ke_key (hS.mapAt (i:=3) rfl) rfl (h_.x hk) (h_.x hk) (by rw [hl61];rfl))) ?_
    iterate 3 refine T ?_
    refine eA #[i6 0,i6 0,i6 0,i6 0,i6 0,i6 0,i6 0,.slice none 0 0,.slice none 0 0] hS (fun g65 w hS _=>?_)
    refine eS 0 hk hS (fun w hS _=>?_)
    refine T ?_
    refine rE [0,2,3,15,16,17,98,99,100] hk fun a hk=>?_
    refine rgL [5] hk ?_
    refine T ?_
    refine LDS 5 3 hk hS ?_
    refine LDS 0 9 hk hS ?_
    iterate 2 refine T ?_
    replace hS:=hS.pk [1,1,7] 0
    obtain ⟨J66,hS,hJ66⟩:=S.lend (M:=[_,_,_]) hS
    replace hS:=hS.pk [6] 0
    obtain ⟨q67,hq67,hI53⟩:=optB_s hI53
    refine eC hk (h:=roPlan_any P z53 v61 p61 true q2 B02 d02 v53x0 _ hq67 hS) (k:=?_)
    rintro _ w ⟨rfl,hS⟩
    refine ⟨_,rfl,?_⟩
    replace hS:=hJ66 _ _ hS
    replace hS:=hS.nz 11
    refine rE [0,2,3,98,99,100] hk fun a hk=>?_
    refine rgL [] hk ?_
    refine dA hk ?_
    refine T ?_
    refine rE [0,2,3,98,99,100] hk fun a hk=>?_
    replace hS:=hS.pk [0,0,3] 0
    replace hS:=mob_back (F:=lsMF) (x:=z53) (v:=v61) (p:=p61) hS
    replace hS:=hS.pk [4] 0
    replace hS:=mapA_congr (put_same (v':=(v61,p61)) rfl hl61) hS
    have hq68:=mob_same (p':=p61) hq60 hl61
    replace hS:=mob_close (F:=lsMF) hq68 hS
    replace hS:=hS.pk [5,5,0,1,0,2] 2
    exact ⟨⟨k53 + 1,q67,by omega,hI53,hk.to,hS⟩,mu_lt hk.g hmu53 (by omega)⟩
  obtain rfl:k53 = (pdqL keyF2 r40).length:=by omega
  rw [drop_all (Nat.le_refl _)] at hI53
  refine wp_exit ?_
  obtain rfl:=Option.some.inj hI53
  exact ⟨hk.to,hS⟩
 rintro a w ⟨hk,hS⟩
 replace hS:=hS.pk [3] 5
 obtain rfl:=Option.some.inj ht
 exact rt0 hk (hR_ _ _ ⟨rfl,hS⟩)
def roSettleFL9:List PeV → Option (Unit)
  | []=>some ()
  | z9::xs9=>none
def roSettleFL3 (s:RoS):List Nat → Option (Unit)
  | []=>some ()
  | k3::xs3=>optE (lookP s.ports (k3:Int)) (roSettleFL3 s xs3) fun x6=>letP (peAll x6.p) fun q8=>optB (roSettleFL9 q8) fun r9=>roSettleFL3 s xs3
def roSettleF (s:RoS):Option (Unit):=optB (roSettleFL3 s (List.range 4)) fun r3=>some ()
theorem roSettle_any {κ:Kap} {L I:List Atom} (P:RoP) (s:RoS) (W:World) {r_:Unit} (ht:(roSettleF s) = some r_) (hS:S κ (roA P s::L) (I) W):
    Calls Tryz.prog 53 #[pt P.g 0] W (fun r w'=>r = .returned (.tuple #[])∧S κ (roA P s::L) (I) w'):=by
 refine wK 94 Tryz.func53 (fun R_ hR_ a hk=>?_)
 refine wp_seq ?_
 refine rgL [] hk ?_
 iterate 3 refine T ?_
 obtain ⟨e2,hpl2,hS⟩:=ro_open hS
 refine rD (.agg #[ptO P.p0,ptO P.p1,ptO P.p2,ptO P.p3]) (fun _ h_=>rk (run_loadAV (m:=3) (n:=4) rfl (h_.x hk) (by kernel_rfl) rfl (fun j u hj=>((hS.blk (i:=0) rfl).cell _).trans (arrcell (n:=4) (m:=3) rfl hj)))) ?_
 refine T ?_
 refine rE [0,10,11] hk fun a hk=>?_
 replace hS:=ro_close (x:=s) (e:=⟨e2.A,e2.c⟩) hpl2 hS
 obtain ⟨r3,hr3,ht⟩:=optB_s ht
 refine wp_cut (fun a_ w_=>Fr a_ 94 []∧S κ (roA P s::L) (I) w_) ?_ ?_
 ·refine wp_block ?_
  refine wp_loop (fun a_ w_=>∃ k3:Nat,(k3 ≤ (List.range 4).length)∧roSettleFL3 s ((List.range 4).drop k3) = some r3∧Fr a_ 94 [(0,pt P.g 0),(10,.agg #[ptO P.p0,ptO P.p1,ptO P.p2,ptO P.p3]),(11,i6 k3)]∧S κ (roA P s::L) (I) w_) (fun a_ _=>(List.range 4).length - (intOf (sl a_ 11)).toNat) ?_ ?_
  ·exact ⟨0,Nat.zero_le _,hr3,hk.to,hS⟩
  clear hk hS
  rintro aL3 w ⟨k3,hkl3,hI3,hk,hS⟩
  have hmu3:=hk.g (s:=11)
  have hlb3:=List.length_range (n:=4)
  refine wp_seq ?_
  refine rgL [] hk ?_
  refine T ?_
  refine rE [0,10,11,12] hk fun a hk=>?_
  refine wp_seq ?_
  refine cD hk (fun hc12=>?_) (fun hc12=>?_)
  ·have hklt:k3 < (List.range 4).length:=by simp only [List.length_range] at *;omega
   rw [drop_at (z:=k3) (by simp at hklt;simp [hklt])] at hI3
   refine wp_skip ?_
   refine wp_seq ?_
   refine wp_block ?_
   refine wp_seq ?_
   refine rgL [] hk ?_
   have hix4:k3 < 4:=by simpa using hklt
   refine rD (ptO (lookP P.pts (k3:Int))) (fun _ h_=>rk (run_indexA (n:=4) (e:=81) rfl (h_.x hk) (h_.x hk) (by kernel_rfl) (by kernel_rfl) (by kernel_rfl) (by omega) (agg4 (i:=(k3:Int)) (by omega) (by omega)))) ?_
   refine T ?_
   refine rE [0,3,10,11] hk fun a hk=>?_
   refine wp_seq ?_
   refine wp_seq ?_
   refine rgL [] hk ?_
   refine T ?_
   obtain ⟨e5,hpl5,hS⟩:=ro_open hS
   replace hS:=hS.fr 1
   rcases arr_cases (k3:Int) (by rw [pts_len];first | assumption | (simpa using hpl5)) hS with ⟨hq6,hs6,hS⟩ | ⟨g6,x6,hq6,hs6,hS⟩
   ·replace hI3:=(optE_n hs6).symm.trans hI3
    rw [hq6] at hk
    replace hk:Fr a 94 [(0,pt P.g 0),(3,.pointer none),(10,.agg #[ptO P.p0,ptO P.p1,ptO P.p2,ptO P.p3]),(11,i6 k3)]:=hk.to
    refine rwV 0 (ptO (lookP P.pts (k3:Int))) (.pointer none) (by rw [hq6];rfl) ?_
    refine rD (.bool true) (fun _ h_=>rk (run_bin2 rfl (h_.x hk) rfl (fun _=>by kernel_rfl) (fun _=>rfl))) ?_
    refine rE [0,3,10,11,15] hk fun a hk=>?_
    refine cT hk ?_
    refine wp_exit ?_
    refine rgL [] hk ?_
    refine dA hk ?_
    refine T ?_
    refine rE [0,10,11] hk fun a hk=>?_
    replace hS:=hS.pk [1,0,0,0,0,0,0,0,0] 0
    replace hS:=ro_close (x:=s) (e:=⟨e5.A,e5.c⟩) hpl5 hS
    exact ⟨⟨k3 + 1,by omega,hI3,hk.to,hS⟩,mu_lt hk.g hmu3 (by omega)⟩
   ·replace hI3:=(optE_s hs6).symm.trans hI3
    rw [hq6] at hk
    replace hk:Fr a 94 [(0,pt P.g 0),(3,pt g6 0),(10,.agg #[ptO P.p0,ptO P.p1,ptO P.p2,ptO P.p3]),(11,i6 k3)]:=hk.to
    refine rwV 0 (ptO (lookP P.pts (k3:Int))) (pt g6 0) (by rw [hq6];rfl) ?_
    refine rD (.bool false) (fun _ h_=>rk (run_bin2 rfl (h_.x hk) rfl (fun _=>by kernel_rfl) (fun _=>rfl))) ?_
    refine rE [0,3,10,11,15] hk fun a hk=>?_
    refine cF hk ?_
    refine wp_skip ?_
    refine wp_seq ?_
    refine rgL [4] hk ?_
    iterate 3 refine T ?_
    obtain ⟨e7,hS⟩:=portA_open hS
    refine LD 0 hk hS ?_
    replace hS:=hS.pk [1] 0
    refine eC hk (h:=peersAll_any e7 x6.p _ hS) (k:=?_)
    rintro _ w ⟨B08,d08,rfl,hS⟩
    refine ⟨_,rfl,?_⟩
    generalize hq8:peAll x6.p = q8 at hS ⊢
    replace hI3:=(letP_eq hq8).symm.trans hI3
    replace hS:=hS.nz 12
    iterate 2 refine T ?_
    refine rE [0,3,10,11,20,21,22] hk fun a hk=>?_
    replace hS:=hS.pk [2,1] 0
    replace hS:=portA_close (x:=x6) (e:=e7) hS
    replace hS:=hS.pk [0,1] 0
    replace hS:=arr_fill' hq6 hs6 hS
    replace hS:=hS.pk [2,0,1,1,1,1,1,1,1] 0
    replace hS:=ro_close (x:=s) (e:=⟨e5.A,e5.c⟩) hpl5 hS
    obtain ⟨r9,hr9,hI3⟩:=optB_s hI3
    refine wp_cut (fun a_ w_=>Fr a_ 94 [(0,pt P.g 0),(10,.agg #[ptO P.p0,ptO P.p1,ptO P.p2,ptO P.p3]),(11,i6 k3)]∧S κ (roA P s::rowA (.slice B08 q8.length d08) 90 7 q8.length (rowC PeV.cells q8)::L) (I) w_) ?_ ?_
    ·refine wp_block ?_
     refine wp_loop (fun a_ w_=>∃ k9:Nat,(k9 ≤ (q8).length)∧roSettleFL9 ((q8).drop k9) = some r9∧Fr a_ 94 [(0,pt P.g 0),(3,pt g6 0),(10,.agg #[ptO P.p0,ptO P.p1,ptO P.p2,ptO P.p3]),(11,i6 k3),(20,.slice B08 q8.length d08),(21,i6 ((q8.length:Nat):Int)),(22,i6 k9)]∧S κ (roA P s::rowA (.slice B08 q8.length d08) 90 7 q8.length (rowC PeV.cells q8)::L) (I) w_) (fun a_ _=>(q8).length - (intOf (sl a_ 22)).toNat) ?_ ?_
     ·exact ⟨0,Nat.zero_le _,hr9,hk.to,hS⟩
     clear hk hS
     rintro aL9 w ⟨k9,hkl9,hI9,hk,hS⟩
     have hmu9:=hk.g (s:=22)
     have hlb9:=hS.rowB (i:=1) rfl
     refine wp_seq ?_
     refine rgL [] hk ?_
     refine T ?_
     refine rE [0,3,10,11,20,21,22,23] hk fun a hk=>?_
     refine wp_seq ?_
     refine cD hk (fun hc23=>?_) (fun hc23=>?_)
     ·obtain ⟨z9,hz9⟩:=at_k (show k9 < (q8).length by omega)
      rw [drop_at hz9] at hI9
      refine wp_skip ?_
      refine wp_seq ?_
      refine wp_block ?_
      refine wp_seq ?_
      cases hI9
     obtain rfl:k9 = (q8).length:=by omega
     rw [drop_all (Nat.le_refl _)] at hI9
     refine wp_exit ?_
     obtain rfl:=Option.some.inj hI9
     exact ⟨hk.to,hS⟩
    rintro a w ⟨hk,hS⟩
    refine rgL [] hk ?_
    refine dA hk ?_
    refine T ?_
    refine rE [0,10,11] hk fun a hk=>?_
    replace hS:=hS.pk [0] 1
    exact ⟨⟨k3 + 1,by omega,hI3,hk.to,hS⟩,mu_lt hk.g hmu3 (by omega)⟩
  obtain rfl:k3 = (List.range 4).length:=by (first | omega | (simp only [List.length_range] at *;omega))
  rw [drop_all (Nat.le_refl _)] at hI3
  refine wp_exit ?_
  obtain rfl:=Option.some.inj hI3
  exact ⟨hk.to,hS⟩
 rintro a w ⟨hk,hS⟩
 obtain rfl:=Option.some.inj ht
 exact rt0 hk (hR_ _ _ ⟨rfl,hS⟩)
def roTickFL11:List HsV → Option (Unit)
  | []=>some ()
  | z11::xs11=>none
def roTickFL4:List Nat → RoS → Option (RoS)
  | [],v4x0=>some v4x0
  | k4::xs4,v4x0=>optE (lookP v4x0.ports (k4:Int)) (roTickFL4 xs4 v4x0) fun x7=>if (x7.i.state:Int) = 0 then roTickFL4 xs4 v4x0 else optB (acksTakeF x7.pt.lan v4x0.later) fun q9=>optB (roTickFL11 q9.1) fun r11=>roTickFL4 xs4 ({ v4x0 with later:=q9.2 })
def roTickFL16:List KeyV → RoS → Option (RoS)
  | [],v16x0=>some v16x0
  | z16::xs16,v16x0=>if DbOk v16x0.db then letP (dbGetF z16 v16x0.db) fun q20=>optB (roViewsF v16x0) fun q23=>optB (roPublishF q20.1 (-1) 0 q23 v16x0) fun q25=>roTickFL16 xs16 q25.2 else none
def roTickFL35:List TmV → RoS → Option (RoS)
  | [],v35x0=>some v35x0
  | z35::xs35,v35x0=>optB (roDueF z35 v35x0) fun q38=>roTickFL35 xs35 q38
def roTickFL47:List KeyV → RoS → Option (RoS)
  | [],v47x0=>some v47x0
  | z47::xs47,v47x0=>cond (!((v47x0.lists.any fun p=>decide (p.1.k = z47)))) (optB (roBusyF v47x0) fun q52=>cond q52 (roTickFL47 xs47 v47x0) (if DbOk v47x0.db then letP (dbDropF z47 v47x0.db) fun q54=>roTickFL47 xs47 ({ v47x0 with db:=q54.2 }) else none)) (roTickFL47 xs47 v47x0)
def roTickF (s:RoS):Option (RoS):=if -4611686018427387904 ≤ s.now + 1∧s.now + 1 ≤ 4611686018427387904 then optB (roTickFL4 (List.range 4) ({ s with now:=s.now + 1 })) fun r4=>if r4.db.l.length ≤ 100000 then if DbOk r4.db then letP (dbTickF2 r4.db) fun q13=>optB (roTickFL16 q13.1 ({ r4 with db:=q13.2 })) fun r16=>if r16.w.length ≤ 100000 then letP (wheelDueN r16.now r16.w) fun q33=>optB (roTickFL35 q33.1 ({ r16 with w:=q33.2 })) fun r35=>optB (roLateF r35) fun q39=>optB (roOwnF r35) fun q40=>if DbOk q40.db then if q40.db.l.length ≤ 100000 then letP (dbAllF q40.db.l) fun q42=>optB (summGoneF q42) fun q46=>optB (roTickFL47 q46 q40) fun r47=>optB (roSettleF r47) fun q56=>some r47 else none else none else none else none else none else none
theorem roTick_any {κ:Kap} {L I:List Atom} (P:RoP) (s:RoS) (W:World) {r_:RoS} (ht:(roTickF s) = some r_) (hS:S κ (roA P s::L) (I) W):
    Calls Tryz.prog 13 #[pt P.g 0] W (fun r w'=>r = .returned (.tuple #[])∧S κ (roA P r_::L) (I) w'):=by
 refine wK 150 Tryz.func13 (fun R_ hR_ a hk=>?_)
 refine wp_seq ?_
 refine wp_seq ?_
 refine rgL [] hk ?_
 refine T ?_
 refine rD (.bool false) (fun _ h_=>rk (run_bin2 rfl (h_.x hk) rfl (fun _=>by kernel_rfl) (fun _=>rfl))) ?_
 refine rE [0,15] hk fun a hk=>?_
 refine cF hk ?_
 refine wp_skip ?_
 refine wp_seq ?_
 refine rgL [7] hk ?_
 iterate 3 refine T ?_
 obtain ⟨e2,hpl2,hS⟩:=ro_open hS
 refine LD 0 hk hS ?_
 obtain ⟨hgd3,ht⟩:=gdE ht
 refine dA hk ?_
 iterate 2 refine T ?_
 refine eS 0 hk hS (fun w hS _=>?_)
 refine rE [0] hk fun a hk=>?_
 refine wp_seq ?_
 refine wp_seq ?_
 refine rgL [] hk ?_
 iterate 3 refine T ?_
 refine rD (.agg #[ptO P.p0,ptO P.p1,ptO P.p2,ptO P.p3]) (fun _ h_=>rk (run_loadAV (m:=3) (n:=4) rfl (h_.x hk) (by kernel_rfl) rfl (fun j u hj=>((hS.blk (i:=0) rfl).cell _).trans (arrcell (n:=4) (m:=3) rfl hj)))) ?_
 refine T ?_
 refine rE [0,26,27] hk fun a hk=>?_
 replace hS:=ro_close (x:={ s with now:=s.now + 1 }) (e:=⟨e2.A,e2.c⟩) hpl2 hS
 obtain ⟨r4,hr4,ht⟩:=optB_s ht
 refine wp_cut (fun a_ w_=>Fr a_ 150 [(0,pt P.g 0)]∧S κ (roA P r4::L) (I) w_) ?_ ?_
 ·refine wp_block ?_
  refine wp_loop (fun a_ w_=>∃ k4:Nat,∃ v4x0:RoS,(k4 ≤ (List.range 4).length)∧roTickFL4 ((List.range 4).drop k4) v4x0 = some r4∧Fr a_ 150 [(0,pt P.g 0),(26,.agg #[ptO P.p0,ptO P.p1,ptO P.p2,ptO P.p3]),(27,i6 k4)]∧S κ (roA P v4x0::L) (I) w_) (fun a_ _=>(List.range 4).length - (intOf (sl a_ 27)).toNat) ?_ ?_
  ·exact ⟨0,({ s with now:=s.now + 1 }),Nat.zero_le _,hr4,hk.to,hS⟩
  clear hk hS
  rintro aL4 w ⟨k4,v4x0,hkl4,hI4,hk,hS⟩
  have hmu4:=hk.g (s:=27)
  have hlb4:=List.length_range (n:=4)
  refine wp_seq ?_
  refine rgL [] hk ?_
  refine T ?_
  refine rE [0,26,27,28] hk fun a hk=>?_
  refine wp_seq ?_
  refine cD hk (fun hc28=>?_) (fun hc28=>?_)
  ·have hklt:k4 < (List.range 4).length:=by simp only [List.length_range] at *;omega
   rw [drop_at (z:=k4) (by simp at hklt;simp [hklt])] at hI4
   refine wp_skip ?_
   refine wp_seq ?_
   refine wp_block ?_
   refine wp_seq ?_
   refine rgL [] hk ?_
   have hix5:k4 < 4:=by simpa using hklt
   refine rD (ptO (lookP P.pts (k4:Int))) (fun _ h_=>rk (run_indexA (n:=4) (e:=81) rfl (h_.x hk) (h_.x hk) (by kernel_rfl) (by kernel_rfl) (by kernel_rfl) (by omega) (agg4 (i:=(k4:Int)) (by omega) (by omega)))) ?_
   refine T ?_
   refine rE [0,3,26,27] hk fun a hk=>?_
   refine wp_seq ?_
   refine wp_seq ?_
   refine rgL [] hk ?_
   refine T ?_
   obtain ⟨e6,hpl6,hS⟩:=ro_open hS
   replace hS:=hS.fr 1
   rcases arr_cases (k4:Int) (by rw [pts_len];first | assumption | (simpa using hpl6)) hS with ⟨hq7,hs7,hS⟩ | ⟨g7,x7,hq7,hs7,hS⟩
   ·replace hI4:=(optE_n hs7).symm.trans hI4
    rw [hq7] at hk
    replace hk:Fr a 150 [(0,pt P.g 0),(3,.pointer none),(26,.agg #[ptO P.p0,ptO P.p1,ptO P.p2,ptO P.p3]),(27,i6 k4)]:=hk.to
    refine rwV 0 (ptO (lookP P.pts (k4:Int))) (.pointer none) (by rw [hq7];rfl) ?_
    refine rD (.bool true) (fun _ h_=>rk (run_bin2 rfl (h_.x hk) rfl (fun _=>by kernel_rfl) (fun _=>rfl))) ?_
    refine T ?_
    refine oF 2 32 false [3,4,5,6,7,8] ?_
    refine T ?_
    refine rE [0,3,26,27,39] hk fun a hk=>?_
    refine cT hk ?_
    refine wp_exit ?_
    refine rgL [] hk ?_
    refine dA hk ?_
    refine T ?_
    refine rE [0,26,27] hk fun a hk=>?_
    replace hS:=hS.pk [1,0,0,0,0,0,0,0,0] 0
    replace hS:=ro_close (x:=v4x0) (e:=⟨e6.A,e6.c⟩) hpl6 hS
    exact ⟨⟨k4 + 1,v4x0,by omega,hI4,hk.to,hS⟩,mu_lt hk.g hmu4 (by omega)⟩
   ·replace hI4:=(optE_s hs7).symm.trans hI4
    rw [hq7] at hk
    replace hk:Fr a 150 [(0,pt P.g 0),(3,pt g7 0),(26,.agg #[ptO P.p0,ptO P.p1,ptO P.p2,ptO P.p3]),(27,i6 k4)]:=hk.to
    refine rwV 0 (ptO (lookP P.pts (k4:Int))) (pt g7 0) (by rw [hq7];rfl) ?_
    refine rD (.bool false) (fun _ h_=>rk (run_bin2 rfl (h_.x hk) rfl (fun _=>by kernel_rfl) (fun _=>rfl))) ?_
    iterate 5 refine T ?_
    obtain ⟨e8,hS⟩:=portA_open hS
    refine LD 0 hk hS ?_
    iterate 2 refine T ?_
    refine rE [0,3,26,27,39] hk fun a hk=>?_
    refine cD hk (fun hc39=>?_) (fun hc39=>?_)
    ·replace hI4:=(if_pos hc39).symm.trans hI4
     refine wp_exit ?_
     refine rgL [] hk ?_
     refine dA hk ?_
     refine T ?_
     refine rE [0,26,27] hk fun a hk=>?_
     replace hS:=portA_close (x:=x7) (e:=e8) hS
     replace hS:=arr_fill' hq7 hs7 hS
     replace hS:=hS.pk [1,0,0,0,0,0,0,0,0] 0
     replace hS:=ro_close (x:=v4x0) (e:=⟨e6.A,e6.c⟩) hpl6 hS
     exact ⟨⟨k4 + 1,v4x0,by omega,hI4,hk.to,hS⟩,mu_lt hk.g hmu4 (by omega)⟩
    replace hI4:=(if_neg hc39).symm.trans hI4
    refine wp_skip ?_
    refine wp_seq ?_
    refine rgR [[],[0],[0,1],[0,1,2],[],[4],[4,5],[4,5,6],[4,5,6,7],[0,1,2,3,4,5,6,7,8],[0,1,2,3,4,5,6,7,8,9],[]] [9] (.rd 0 (.rd 1 (.rd 2 (.rd 3 (.rd 4 (.rd 5 (.rd 6 (.rd 7 (.rd 8 (.rd 11 (.ef 9 (.rd 10 (.ag 11 (.fin))) .non))))))))))) hk hS (fun w hS _=>?_)
    iterate 3 refine T ?_
    refine LD 3 hk hS ?_
    iterate 4 refine T ?_
    refine LD 0 hk hS ?_
    refine T ?_
    replace hS:=hS.pk [9] 0
    obtain ⟨q9,hq9,hI4⟩:=optB_s hI4
    refine eC hk (h:=acksTake_any P.ag x7.pt.lan v4x0.later _ hq9 hS) (k:=?_)
    rintro _ w ⟨B09,d09,rfl,hS⟩
    refine ⟨_,rfl,?_⟩
    replace hS:=hS.nz 12
    refine T ?_
    refine TA ?_
    refine rE [0,3,26,27,49,50,51] hk fun a hk=>?_
    obtain ⟨J10,hS,hJ10⟩:=S.lend (M:=[_]) hS
    replace hS:=hS.pk [1,1] 0
    replace hS:=portA_close (x:=x7) (e:=e8) hS
    replace hS:=hS.pk [0,1] 0
    replace hS:=arr_fill' hq7 hs7 hS
    replace hS:=hS.pk [2,0,1,1,1,1,1,0,0] 0
    replace hS:=ro_close (x:={ v4x0 with later:=q9.2 }) (e:=⟨e6.A,e6.c⟩) hpl6 hS
    obtain ⟨r11,hr11,hI4⟩:=optB_s hI4
    refine wp_cut (fun a_ w_=>Fr a_ 150 [(0,pt P.g 0),(26,.agg #[ptO P.p0,ptO P.p1,ptO P.p2,ptO P.p3]),(27,i6 k4)]∧S κ (roA P ({ v4x0 with later:=q9.2 })::L) (crA hsFn 50 B09 d09 q9.1::J10::I) w_) ?_ ?_
    ·refine wp_block ?_
     refine wp_loop (fun a_ w_=>∃ k11:Nat,(k11 ≤ (q9.1).length)∧roTickFL11 ((q9.1).drop k11) = some r11∧Fr a_ 150 [(0,pt P.g 0),(3,pt g7 0),(26,.agg #[ptO P.p0,ptO P.p1,ptO P.p2,ptO P.p3]),(27,i6 k4),(49,.slice B09 q9.1.length d09),(50,i6 ((q9.1.length:Nat):Int)),(51,i6 k11)]∧S κ (roA P ({ v4x0 with later:=q9.2 })::L) (crA hsFn 50 B09 d09 q9.1::J10::I) w_) (fun a_ _=>(q9.1).length - (intOf (sl a_ 51)).toNat) ?_ ?_
     ·exact ⟨0,Nat.zero_le _,hr11,hk.to,hS⟩
     clear hk hS
     rintro aL11 w ⟨k11,hkl11,hI11,hk,hS⟩
     have hmu11:=hk.g (s:=51)
     have hlb11:=crLen hS (i:=0)
     refine wp_seq ?_
     refine rgL [] hk ?_
     refine T ?_
     refine rE [0,3,26,27,49,50,51,52] hk fun a hk=>?_
     refine wp_seq ?_
     refine cD hk (fun hc52=>?_) (fun hc52=>?_)
     ·obtain ⟨z11,hz11⟩:=at_k (show k11 < (q9.1).length by omega)
      rw [drop_at hz11] at hI11
      refine wp_skip ?_
      refine wp_seq ?_
      refine wp_block ?_
      refine wp_seq ?_
      cases hI11
     obtain rfl:k11 = (q9.1).length:=by omega
     rw [drop_all (Nat.le_refl _)] at hI11
     refine wp_exit ?_
     obtain rfl:=Option.some.inj hI11
     exact ⟨hk.to,hS⟩
    rintro a w ⟨hk,hS⟩
    replace hS:=hJ10 _ _ hS
    replace hS:=hS.nz 2
    refine rgL [] hk ?_
    refine dA hk ?_
    refine T ?_
    refine rE [0,26,27] hk fun a hk=>?_
    replace hS:=hS.pk [1] 1
    exact ⟨⟨k4 + 1,({ v4x0 with later:=q9.2 }),by omega,hI4,hk.to,hS⟩,mu_lt hk.g hmu4 (by omega)⟩
  obtain rfl:k4 = (List.range 4).length:=by (first | omega | (simp only [List.length_range] at *;omega))
  rw [drop_all (Nat.le_refl _)] at hI4
  refine wp_exit ?_
  obtain rfl:=Option.some.inj hI4
  exact ⟨hk.to,hS⟩
 rintro a w ⟨hk,hS⟩
 refine wp_seq ?_
 refine wp_seq ?_
 refine rgL [4] hk ?_
 iterate 3 refine T ?_
 obtain ⟨e12,hpl12,hS⟩:=ro_open hS
 refine LD 0 hk hS ?_
 replace hS:=hS.pk [4] 0
 obtain ⟨hgd14,ht⟩:=gdE ht
 obtain ⟨hgd15,ht⟩:=gdE ht
 refine eC hk (h:=dbTick_one2 P.dg r4.db _ hgd14 hgd15 hS) (k:=?_)
 rintro _ w ⟨B013,d013,rfl,hS⟩
 refine ⟨_,rfl,?_⟩
 generalize hq13:dbTickF2 r4.db = q13 at hS ⊢
 replace ht:=(letP_eq hq13).symm.trans ht
 replace hS:=hS.nz 10
 iterate 2 refine T ?_
 refine rE [0,75,76,77] hk fun a hk=>?_
 replace hS:=hS.pk [2,2,2,2,1,1,1,1,1] 0
 replace hS:=ro_close (x:={ r4 with db:=q13.2 }) (e:=⟨e12.A,e12.c⟩) hpl12 hS
 obtain ⟨r16,hr16,ht⟩:=optB_s ht
 refine wp_cut (fun a_ w_=>Fr a_ 150 [(0,pt P.g 0)]∧S κ (roA P r16::rowA (.slice B013 q13.1.length d013) 111 3 q13.1.length (rowC KeyV.cells q13.1)::L) (I) w_) ?_ ?_
 ·refine wp_block ?_
  refine wp_loop (fun a_ w_=>∃ k16:Nat,∃ v16x0:RoS,(k16 ≤ (q13.1).length)∧roTickFL16 ((q13.1).drop k16) v16x0 = some r16∧Fr a_ 150 [(0,pt P.g 0),(75,.slice B013 q13.1.length d013),(76,i6 ((q13.1.length:Nat):Int)),(77,i6 k16)]∧S κ (roA P v16x0::rowA (.slice B013 q13.1.length d013) 111 3 q13.1.length (rowC KeyV.cells q13.1)::L) (I) w_) (fun a_ _=>(q13.1).length - (intOf (sl a_ 77)).toNat) ?_ ?_
  ·exact ⟨0,({ r4 with db:=q13.2 }),Nat.zero_le _,hr16,hk.to,hS⟩
  clear hk hS
  rintro aL16 w ⟨k16,v16x0,hkl16,hI16,hk,hS⟩
  have hmu16:=hk.g (s:=77)
  have hlb16:=hS.rowB (i:=1) rfl
  refine wp_seq ?_
  refine rgL [] hk ?_
  refine T ?_
  refine rE [0,75,76,77,78] hk fun a hk=>?_
  refine wp_seq ?_
  refine cD hk (fun hc78=>?_) (fun hc78=>?_)
  ·obtain ⟨z16,hz16⟩:=at_k (show k16 < (q13.1).length by omega)
   rw [drop_at hz16] at hI16
   refine wp_skip ?_
   refine wp_seq ?_
   refine wp_block ?_
   refine wp_seq ?_
   refine rgL [2,3] hk ?_
   refine dX KeyV.cells_len' hk (hS.rd (i:=1) rfl) (fun b17 o17 z17 hz17 hq17=>?_)
   obtain rfl:z16 = z17:=Option.some.inj (hz16.symm.trans hz17)
   refine dV 3 hq17 hk ?_
   refine eA #[i6 0,i6 0,i6 0] hS (fun g18 w hS _=>?_)
   refine eS 0 hk hS (fun w hS _=>?_)
   refine rE [0,7,75,76,77] hk fun a hk=>?_
   refine wp_seq ?_
   refine rgR [[],[0],[0,1],[0,1,2],[],[0,1,2,3,4],[0,1,2,3,4,5],[0,1,2,3,4,5,6],[0,1,2,3,4,5,6],[],[0,1,2,3,4,5,6,7,9],[0,1,2,3,4,5,6,7,8,9,10]] [5,9,10] (.rd 0 (.rd 1 (.rd 2 (.rd 3 (.rd 4 (.ef 5 (.rd 6 (.rd 7 (.rd 8 (.ef 9 (.ag 6 (.ag 7 (.ag 8 (.ef 10 (.ag 8 (.rd 11 (.fin))) .non)))) .non)))) (.ef 9 (.ag 0 (.ag 1 (.ag 2 (.ag 3 (.ag 4 (.ef 5 (.rd 6 (.rd 7 (.rd 8 (.ef 10 (.ag 8 (.rd 11 (.fin))) .non)))) .non)))))) .non))))))) hk hS (fun w hS _=>?_)
   iterate 3 refine T ?_
   replace hS:=hS.fr 1
   obtain ⟨e19,hpl19,hS⟩:=ro_open hS
   refine LD 0 hk hS ?_
   refine LDS 9 3 hk hS ?_
   refine efk ?_ ?_
   ·replace hS:=hS.pk [4] 0
    obtain ⟨hgd21,hI16⟩:=gdE hI16
    refine eC hk (h:=dbGet_any P.dg z16 v16x0.db _ hgd21 hS) (k:=?_)
    rintro _ w ⟨e020,rfl,hS⟩
    refine ⟨_,rfl,?_⟩
    generalize hq20:dbGetF z16 v16x0.db = q20 at hS ⊢
    replace hI16:=(letP_eq hq20).symm.trans hI16
    replace hS:=hS.nz 13
    iterate 3 refine T ?_
    refine eA #[i6 0,i6 0,i6 0,i6 0,i6 0,i6 0,i6 0,.slice none 0 0,.slice none 0 0] hS (fun g22 w hS _=>?_)
    iterate 3 refine TA ?_
    refine eS 0 hk hS (fun w hS _=>?_)
    refine TA ?_
    refine T ?_
    refine rE [0,8,75,76,77] hk fun a hk=>?_
    refine rgR [[],[],[],[2],[0,1,2,3]] [3,4] (.rd 0 (.rd 1 (.rd 2 (.ef 3 (.ag 0 (.ag 1 (.ef 4 (.fin) .non))) .non)))) hk hS (fun w hS _=>?_)
    refine T ?_
    refine LDS 0 9 hk hS ?_
    refine T ?_
    replace hS:=hS.pk [4,4,4,4,3,3,3,3,3] 0
    replace hS:=ro_close (x:=v16x0) (e:=⟨e19.A,e19.c⟩) hpl19 hS
    obtain ⟨q23,hq23,hI16⟩:=optB_s hI16
    refine eC hk (h:=roViews_any P v16x0 _ hq23 hS) (k:=?_)
    rintro _ w ⟨B023,d023,rfl,hS⟩
    refine ⟨_,rfl,?_⟩
    replace hS:=hS.nz 7
    refine TA ?_
    refine aG (fun _ h_=>rk (lbS 9 (hS.blk (i:=2) rfl) rfl (h_.x hk))) ?_
    replace hS:=hS.pk [3,3,0] 0
    obtain ⟨J24,hS,hJ24⟩:=S.lend (M:=[_,_,_]) hS
    obtain ⟨q25,hq25,hI16⟩:=optB_s hI16
    refine eC hk (h:=roPublish_any P q20.1 e020 (-1) 0 q23 B023 d023 v16x0 _ hq25 hS) (k:=?_)
    rintro _ w ⟨B025,d025,rfl,hS⟩
    refine ⟨_,rfl,?_⟩
    replace hS:=hJ24 _ _ hS
    replace hS:=hS.nz 8
    refine rE [0,75,76,77] hk fun a hk=>?_
    refine rgL [] hk ?_
    refine dA hk ?_
    refine T ?_
    refine rE [0,75,76,77] hk fun a hk=>?_
    replace hS:=hS.pk [4,6] 6
    exact ⟨⟨k16 + 1,q25.2,by omega,hI16,hk.to,hS⟩,mu_lt hk.g hmu16 (by omega)⟩
   refine eA #[i6 0,i6 0,i6 0,i6 0,i6 0,i6 0,i6 0,.slice none 0 0,.slice none 0 0] hS (fun g26 w hS _=>?_)
   iterate 3 refine TA ?_
   refine aG (fun _ h_=>rk (ld hS 1 rfl (h_.x hk))) ?_
   refine aG (fun _ h_=>rk (lbS 3 (hS.blk (i:=10) rfl) rfl (h_.x hk))) ?_
   replace hS:=hS.pk [5] 0
   obtain ⟨hgd28,hI16⟩:=gdE hI16
   refine eC hk (h:=dbGet_any P.dg z16 v16x0.db _ hgd28 hS) (k:=?_)
   rintro _ w ⟨e027,rfl,hS⟩
   refine ⟨_,rfl,?_⟩
   generalize hq27:dbGetF z16 v16x0.db = q27 at hS ⊢
   replace hI16:=(letP_eq hq27).symm.trans hI16
   replace hS:=hS.nz 14
   iterate 3 refine T ?_
   refine eS 3 hk hS (fun w hS _=>?_)
   refine TA ?_
   refine T ?_
   refine rE [0,8,75,76,77] hk fun a hk=>?_
   refine rgR [[],[],[],[2],[0,1,2,3]] [3,4] (.rd 0 (.rd 1 (.rd 2 (.ef 3 (.ag 0 (.ag 1 (.ef 4 (.fin) .non))) .non)))) hk hS (fun w hS _=>?_)
   refine T ?_
   refine LDS 3 9 hk hS ?_
   refine T ?_
   replace hS:=hS.pk [4,4,4,4,2,3,3,3,3] 0
   replace hS:=ro_close (x:=v16x0) (e:=⟨e19.A,e19.c⟩) hpl19 hS
   obtain ⟨q29,hq29,hI16⟩:=optB_s hI16
   refine eC hk (h:=roViews_any P v16x0 _ hq29 hS) (k:=?_)
   rintro _ w ⟨B029,d029,rfl,hS⟩
   refine ⟨_,rfl,?_⟩
   replace hS:=hS.nz 7
   refine TA ?_
   refine aG (fun _ h_=>rk (lbS 9 (hS.blk (i:=4) rfl) rfl (h_.x hk))) ?_
   replace hS:=hS.pk [2,2,0] 0
   obtain ⟨J30,hS,hJ30⟩:=S.lend (M:=[_,_,_]) hS
   obtain ⟨q31,hq31,hI16⟩:=optB_s hI16
   refine eC hk (h:=roPublish_any P q27.1 e027 (-1) 0 q29 B029 d029 v16x0 _ hq31 hS) (k:=?_)
   rintro _ w ⟨B031,d031,rfl,hS⟩
   refine ⟨_,rfl,?_⟩
   replace hS:=hJ30 _ _ hS
   replace hS:=hS.nz 8
   refine rE [0,75,76,77] hk fun a hk=>?_
   refine rgL [] hk ?_
   refine dA hk ?_
   refine T ?_
   refine rE [0,75,76,77] hk fun a hk=>?_
   replace hS:=hS.pk [4,6] 6
   exact ⟨⟨k16 + 1,q31.2,by omega,hI16,hk.to,hS⟩,mu_lt hk.g hmu16 (by omega)⟩
  obtain rfl:k16 = (q13.1).length:=by omega
  rw [drop_all (Nat.le_refl _)] at hI16
  refine wp_exit ?_
  obtain rfl:=Option.some.inj hI16
  exact ⟨hk.to,hS⟩
 rintro a w ⟨hk,hS⟩
 refine wp_seq ?_
 refine wp_seq ?_
 refine rgR [[],[0],[0,1],[0,1,2],[],[4],[4,5],[4,5,6],[0,1,2,3,4,5,6,7],[0,1,2,3,4,5,6,7,8],[]] [8] (.rd 0 (.rd 1 (.rd 2 (.rd 3 (.rd 4 (.rd 5 (.rd 6 (.rd 7 (.rd 10 (.ef 8 (.rd 9 (.ag 10 (.fin))) .non)))))))))) hk hS (fun w hS _=>?_)
 iterate 3 refine T ?_
 obtain ⟨e32,hpl32,hS⟩:=ro_open hS
 refine LD 0 hk hS ?_
 iterate 3 refine T ?_
 refine LD 0 hk hS ?_
 refine T ?_
 replace hS:=hS.pk [5] 0
 obtain ⟨hgd34,ht⟩:=gdE ht
 refine eC hk (h:=wheelDue_one P.wg r16.now r16.w _ hgd34 hS) (k:=?_)
 rintro _ w ⟨B033,d033,rfl,hS⟩
 refine ⟨_,rfl,?_⟩
 generalize hq33:wheelDueN r16.now r16.w = q33 at hS ⊢
 replace ht:=(letP_eq hq33).symm.trans ht
 replace hS:=hS.nz 11
 refine T ?_
 refine TA ?_
 refine rE [0,104,105,106] hk fun a hk=>?_
 replace hS:=hS.pk [2,2,2,2,2,1,1,1,1] 0
 replace hS:=ro_close (x:={ r16 with w:=q33.2 }) (e:=⟨e32.A,e32.c⟩) hpl32 hS
 obtain ⟨r35,hr35,ht⟩:=optB_s ht
 refine wp_cut (fun a_ w_=>Fr a_ 150 [(0,pt P.g 0)]∧S κ (roA P r35::rowA (.slice B033 q33.1.length d033) 121 6 q33.1.length (rowC TmV.cells q33.1)::rowA (.slice B013 q13.1.length d013) 111 3 q13.1.length (rowC KeyV.cells q13.1)::L) (I) w_) ?_ ?_
 ·refine wp_block ?_
  refine wp_loop (fun a_ w_=>∃ k35:Nat,∃ v35x0:RoS,(k35 ≤ (q33.1).length)∧roTickFL35 ((q33.1).drop k35) v35x0 = some r35∧Fr a_ 150 [(0,pt P.g 0),(104,.slice B033 q33.1.length d033),(105,i6 ((q33.1.length:Nat):Int)),(106,i6 k35)]∧S κ (roA P v35x0::rowA (.slice B033 q33.1.length d033) 121 6 q33.1.length (rowC TmV.cells q33.1)::rowA (.slice B013 q13.1.length d013) 111 3 q13.1.length (rowC KeyV.cells q13.1)::L) (I) w_) (fun a_ _=>(q33.1).length - (intOf (sl a_ 106)).toNat) ?_ ?_
  ·exact ⟨0,({ r16 with w:=q33.2 }),Nat.zero_le _,hr35,hk.to,hS⟩
  clear hk hS
  rintro aL35 w ⟨k35,v35x0,hkl35,hI35,hk,hS⟩
  have hmu35:=hk.g (s:=106)
  have hlb35:=hS.rowB (i:=1) rfl
  refine wp_seq ?_
  refine rgL [] hk ?_
  refine T ?_
  refine rE [0,104,105,106,107] hk fun a hk=>?_
  refine wp_seq ?_
  refine cD hk (fun hc107=>?_) (fun hc107=>?_)
  ·obtain ⟨z35,hz35⟩:=at_k (show k35 < (q33.1).length by omega)
   rw [drop_at hz35] at hI35
   refine wp_skip ?_
   refine wp_seq ?_
   refine wp_block ?_
   refine wp_seq ?_
   refine rgL [2,3] hk ?_
   refine dX TmV.cells_len' hk (hS.rd (i:=1) rfl) (fun b36 o36 z36 hz36 hq36=>?_)
   obtain rfl:z35 = z36:=Option.some.inj (hz35.symm.trans hz36)
   refine dV 6 hq36 hk ?_
   refine eA #[i6 0,i6 0,i6 0,i6 0,i6 0,i6 0] hS (fun g37 w hS _=>?_)
   refine eS 0 hk hS (fun w hS _=>?_)
   refine rE [0,11,104,105,106] hk fun a hk=>?_
   refine rgL [2] hk ?_
   refine T ?_
   refine LDS 0 6 hk hS ?_
   replace hS:=hS.pk [1] 0
   obtain ⟨q38,hq38,hI35⟩:=optB_s hI35
   refine eC hk (h:=roDue_any P z35 v35x0 _ hq38 hS) (k:=?_)
   rintro _ w ⟨rfl,hS⟩
   refine ⟨_,rfl,?_⟩
   replace hS:=hS.nz 4
   refine rE [0,104,105,106] hk fun a hk=>?_
   refine rgL [] hk ?_
   refine dA hk ?_
   refine T ?_
   refine rE [0,104,105,106] hk fun a hk=>?_
   replace hS:=hS.pk [0,1,1] 1
   exact ⟨⟨k35 + 1,q38,by omega,hI35,hk.to,hS⟩,mu_lt hk.g hmu35 (by omega)⟩
  obtain rfl:k35 = (q33.1).length:=by omega
  rw [drop_all (Nat.le_refl _)] at hI35
  refine wp_exit ?_
  obtain rfl:=Option.some.inj hI35
  exact ⟨hk.to,hS⟩
 rintro a w ⟨hk,hS⟩
 refine wp_seq ?_
 refine rgL [1] hk ?_
 refine T ?_
 obtain ⟨q39,hq39,ht⟩:=optB_s ht
 refine eC hk (h:=roLate_any P r35 _ hq39 hS) (k:=?_)
 rintro _ w ⟨rfl,hS⟩
 refine ⟨_,rfl,?_⟩
 replace hS:=hS.nz 3
 refine rE [0] hk fun a hk=>?_
 refine wp_seq ?_
 refine rgL [1] hk ?_
 refine T ?_
 obtain ⟨q40,hq40,ht⟩:=optB_s ht
 refine eC hk (h:=roOwn_any P r35 _ hq40 hS) (k:=?_)
 rintro _ w ⟨rfl,hS⟩
 refine ⟨_,rfl,?_⟩
 replace hS:=hS.nz 3
 refine rE [0] hk fun a hk=>?_
 refine wp_seq ?_
 refine wp_seq ?_
 refine rgL [4,5] hk ?_
 iterate 3 refine T ?_
 obtain ⟨e41,hpl41,hS⟩:=ro_open hS
 refine LD 0 hk hS ?_
 replace hS:=hS.pk [4] 0
 obtain ⟨hgd43,ht⟩:=gdE ht
 obtain ⟨hgd44,ht⟩:=gdE ht
 refine eC hk (h:=dbAll_one P.dg q40.db _ hgd43 hgd44 hS) (k:=?_)
 rintro _ w ⟨B042,d042,rfl,hS⟩
 refine ⟨_,rfl,?_⟩
 generalize hq42:dbAllF q40.db.l = q42 at hS ⊢
 replace ht:=(letP_eq hq42).symm.trans ht
 replace hS:=hS.nz 12
 obtain ⟨J45,hS,hJ45⟩:=S.lend (M:=[_]) hS
 obtain ⟨q46,hq46,ht⟩:=optB_s ht
 refine eC hk (h:=summGone_any q42 B042 d042 _ hq46 hS) (k:=?_)
 rintro _ w ⟨B046,d046,rfl,hS⟩
 refine ⟨_,rfl,?_⟩
 replace hS:=hJ45 _ _ hS
 replace hS:=hS.nz 13
 iterate 2 refine T ?_
 refine rE [0,123,124,125] hk fun a hk=>?_
 replace hS:=hS.pk [3,3,3,3,2,2,2,2,2] 0
 replace hS:=ro_close (x:=q40) (e:=⟨e41.A,e41.c⟩) hpl41 hS
 obtain ⟨r47,hr47,ht⟩:=optB_s ht
 refine wp_cut (fun a_ w_=>Fr a_ 150 [(0,pt P.g 0)]∧S κ (roA P r47::crA lsFn 66 B042 d042 q42::rowA (.slice B046 q46.length d046) 111 3 q46.length (rowC KeyV.cells q46)::rowA (.slice B033 q33.1.length d033) 121 6 q33.1.length (rowC TmV.cells q33.1)::rowA (.slice B013 q13.1.length d013) 111 3 q13.1.length (rowC KeyV.cells q13.1)::L) (I) w_) ?_ ?_
 ·refine wp_block ?_
  refine wp_loop (fun a_ w_=>∃ k47:Nat,∃ v47x0:RoS,(k47 ≤ (q46).length)∧roTickFL47 ((q46).drop k47) v47x0 = some r47∧Fr a_ 150 [(0,pt P.g 0),(123,.slice B046 q46.length d046),(124,i6 ((q46.length:Nat):Int)),(125,i6 k47)]∧S κ (roA P v47x0::crA lsFn 66 B042 d042 q42::rowA (.slice B046 q46.length d046) 111 3 q46.length (rowC KeyV.cells q46)::rowA (.slice B033 q33.1.length d033) 121 6 q33.1.length (rowC TmV.cells q33.1)::rowA (.slice B013 q13.1.length d013) 111 3 q13.1.length (rowC KeyV.cells q13.1)::L) (I) w_) (fun a_ _=>(q46).length - (intOf (sl a_ 125)).toNat) ?_ ?_
  ·exact ⟨0,q40,Nat.zero_le _,hr47,hk.to,hS⟩
  clear hk hS
  rintro aL47 w ⟨k47,v47x0,hkl47,hI47,hk,hS⟩
  have hmu47:=hk.g (s:=125)
  have hlb47:=hS.rowB (i:=2) rfl
  refine wp_seq ?_
  refine rgL [] hk ?_
  refine T ?_
  refine rE [0,123,124,125,126] hk fun a hk=>?_
  refine wp_seq ?_
  refine cD hk (fun hc126=>?_) (fun hc126=>?_)
  ·obtain ⟨z47,hz47⟩:=at_k (show k47 < (q46).length by omega)
   rw [drop_at hz47] at hI47
   refine wp_skip ?_
   refine wp_seq ?_
   refine wp_block ?_
   refine wp_seq ?_
   refine rgL [2,3] hk ?_
   refine dX KeyV.cells_len' hk (hS.rd (i:=2) rfl) (fun b48 o48 z48 hz48 hq48=>?_)
   obtain rfl:z47 = z48:=Option.some.inj (hz47.symm.trans hz48)
   refine dV 3 hq48 hk ?_
   refine eA #[i6 0,i6 0,i6 0] hS (fun g49 w hS _=>?_)
   refine eS 0 hk hS (fun w hS _=>?_)
   refine rE [0,13,123,124,125] hk fun a hk=>?_
   refine wp_seq ?_
   refine rgR [[],[0],[0,1],[0,1,2],[],[0,1,2,3,4],[0,1,2,3,4,5],[0,1,2,3,4,5,6],[0,1,2,3,4,5,6,7],[0,1,2,3,4,5,6,7,8],[0,1,2,3,4,5,6,7,8,9],[0,1,2,3,4,5,6,7,8,9,10]] [5,9] (.rd 0 (.rd 1 (.rd 2 (.rd 3 (.rd 4 (.ef 5 (.rd 6 (.rd 7 (.rd 8 (.ef 9 (.rd 10 (.rd 11 (.fin))) .non)))) .non)))))) hk hS (fun w hS _=>?_)
   iterate 3 refine T ?_
   replace hS:=hS.fr 1
   obtain ⟨e50,hpl50,hS⟩:=ro_open hS
   refine LD 0 hk hS ?_
   refine LDS 9 3 hk hS ?_
   replace hS:=hS.pk [6] 0
   refine eC hk (h:=rxmtHas_any P.lg z47 v47x0.lists _ hS) (k:=?_)
   rintro _ w ⟨rfl,hS⟩
   refine ⟨_,rfl,?_⟩
   replace hS:=hS.nz 14
   iterate 2 refine T ?_
   rcases bt (!((v47x0.lists.any fun p=>decide (p.1.k = z47)))) with hg7 | hg7
   ·refine rwV 6 (.bool (!((v47x0.lists.any fun p=>decide (p.1.k = z47))))) (.bool true) (by rw [hg7]) ?_
    refine rwV 7 (.bool (!((v47x0.lists.any fun p=>decide (p.1.k = z47))))) (.bool true) (by rw [hg7]) ?_
    replace hI47:=(bT hg7).symm.trans hI47
    refine T ?_
    replace hS:=hS.pk [1,1,1,1,1,1,0,0,0] 0
    replace hS:=ro_close (x:=v47x0) (e:=⟨e50.A,e50.c⟩) hpl50 hS
    obtain ⟨q52,hq52,hI47⟩:=optB_s hI47
    refine eC hk (h:=roBusy_any P v47x0 _ hq52 hS) (k:=?_)
    rintro _ w ⟨rfl,hS⟩
    refine ⟨_,rfl,?_⟩
    replace hS:=hS.nz 6
    iterate 2 refine T ?_
    refine rE [0,13,123,124,125,140] hk fun a hk=>?_
    refine cB hk (fun hc140=>?_) (fun hc140=>?_)
    ·replace hc140:=nbt hc140
     replace hI47:=(bF hc140).symm.trans hI47
     refine rgR [[],[0],[0,1],[0,1,2],[],[0,1,2,3,4]] [5] (.rd 0 (.rd 1 (.rd 2 (.rd 3 (.rd 4 (.ef 5 (.fin) .non)))))) hk hS (fun w hS _=>?_)
     iterate 3 refine T ?_
     obtain ⟨e53,hpl53,hS⟩:=ro_open hS
     refine LD 0 hk hS ?_
     refine LDS 9 3 hk hS ?_
     replace hS:=hS.pk [4] 0
     obtain ⟨hgd55,hI47⟩:=gdE hI47
     refine eC hk (h:=dbDrop_any P.dg z47 v47x0.db _ hgd55 hS) (k:=?_)
     rintro _ w ⟨rfl,hS⟩
     refine ⟨_,rfl,?_⟩
     generalize hq54:dbDropF z47 v47x0.db = q54 at hS ⊢
     replace hI47:=(letP_eq hq54).symm.trans hI47
     replace hS:=hS.nz 14
     refine rE [0,123,124,125] hk fun a hk=>?_
     refine rgL [] hk ?_
     refine dA hk ?_
     refine T ?_
     refine rE [0,123,124,125] hk fun a hk=>?_
     replace hS:=hS.pk [1,1,1,1,0,0,0,0,0] 0
     replace hS:=ro_close (x:={ v47x0 with db:=q54.2 }) (e:=⟨e53.A,e53.c⟩) hpl53 hS
     replace hS:=hS.pk [0,1,1,1,1] 1
     exact ⟨⟨k47 + 1,({ v47x0 with db:=q54.2 }),by omega,hI47,hk.to,hS⟩,mu_lt hk.g hmu47 (by omega)⟩
    replace hc140:=nbf hc140
    replace hI47:=(bT hc140).symm.trans hI47
    refine wp_skip ?_
    refine rgL [] hk ?_
    refine dA hk ?_
    refine T ?_
    refine rE [0,123,124,125] hk fun a hk=>?_
    replace hS:=hS.pk [0,1,1,1,1] 1
    exact ⟨⟨k47 + 1,v47x0,by omega,hI47,hk.to,hS⟩,mu_lt hk.g hmu47 (by omega)⟩
   refine rwV 6 (.bool (!((v47x0.lists.any fun p=>decide (p.1.k = z47))))) (.bool false) (by rw [hg7]) ?_
   refine rwV 7 (.bool (!((v47x0.lists.any fun p=>decide (p.1.k = z47))))) (.bool false) (by rw [hg7]) ?_
   replace hI47:=(bF hg7).symm.trans hI47
   refine oF 7 136 true [8] ?_
   refine oE 7 136 true ?_
   refine oF 7 136 true [10] ?_
   refine T ?_
   refine rE [0,13,123,124,125,140] hk fun a hk=>?_
   refine cF hk ?_
   refine wp_skip ?_
   refine rgL [] hk ?_
   refine dA hk ?_
   refine T ?_
   refine rE [0,123,124,125] hk fun a hk=>?_
   replace hS:=hS.pk [1,1,1,1,1,1,0,0,0] 0
   replace hS:=ro_close (x:=v47x0) (e:=⟨e50.A,e50.c⟩) hpl50 hS
   replace hS:=hS.pk [0,1,1,1,1] 1
   exact ⟨⟨k47 + 1,v47x0,by omega,hI47,hk.to,hS⟩,mu_lt hk.g hmu47 (by omega)⟩
  obtain rfl:k47 = (q46).length:=by omega
  rw [drop_all (Nat.le_refl _)] at hI47
  refine wp_exit ?_
  obtain rfl:=Option.some.inj hI47
  exact ⟨hk.to,hS⟩
 rintro a w ⟨hk,hS⟩
 refine rgL [1] hk ?_
 refine T ?_
 obtain ⟨q56,hq56,ht⟩:=optB_s ht
 refine eC hk (h:=roSettle_any P r47 _ hq56 hS) (k:=?_)
 rintro _ w ⟨rfl,hS⟩
 refine ⟨_,rfl,?_⟩
 replace hS:=hS.nz 5
 refine rE [] hk fun a hk=>?_
 replace hS:=hS.pk [0] 4
 obtain rfl:=Option.some.inj ht
 exact rt0 hk (hR_ _ _ ⟨rfl,hS⟩)
def peersNewDF (me:Int) (lan:Int):PeS:=(⟨me,lan,List.replicate 16 none⟩:PeS)
theorem peersNewD_any {κ:Kap} {L I:List Atom} (me:Int) (lan:Int) (W:World) (hS:S κ (L) (I) W):
    Calls Tryz.prog 33 #[i6 me,i6 lan] W (fun r w'=>∃ G0:Nat,r = .returned (pt G0 0)∧S κ (peersA G0 (peersNewDF me lan)::L) (I) w'):=by
 generalize ht:(peersNewDF me lan) = t_
 refine wK 9 Tryz.func33 (fun R_ hR_ a hk=>?_)
 refine wp_seq ?_
 refine rgL [] hk ?_
 refine T ?_
 refine rE [0,1] hk fun a hk=>?_
 refine wp_seq ?_
 refine rgL [3] hk ?_
 iterate 2 refine T ?_
 refine rD (.agg #[i6 me,i6 lan,.pointer none,.pointer none,.pointer none,.pointer none,.pointer none,.pointer none,.pointer none,.pointer none,.pointer none,.pointer none,.pointer none,.pointer none,.pointer none,.pointer none,.pointer none,.pointer none]) (fun _ h_=>rk (run_build rfl (h_.prt hk) (by kernel_rfl))) ?_
 refine eB hk hS (fun g2 w hS _=>?_)
 refine T ?_
 refine rE [4] hk fun a hk=>?_
 refine wp_ret ?_
 replace hS:=peers_new hS
 subst ht
 exact rt1 hk (hR_ _ _ ⟨_,rfl,hS⟩)
def roSetF (p:PtV) (s:RoS):Option (Int × RoS):=cond (roRightF p) (optE (lookP s.ports p.lan) (some (6,s)) fun x6=>optB (roElectF p.lan 4 ({ s with ports:=s.ports.set (p.lan).toNat (some ({ x6 with pt:=p,i:=(⟨x6.i.self,p.prio,x6.i.state,x6.i.dr,x6.i.bdr⟩:IfV) })) })) fun q12=>some (0,q12)) (some (1,s))
theorem roSet_any {κ:Kap} {L I:List Atom} (P:RoP) (p:PtV) (s:RoS) (W:World) {r_:Int × RoS} (ht:(roSetF p s) = some r_) (hS:S κ (roA P s::L) (I) W):
    Calls Tryz.prog 10 #[pt P.g 0,.agg #[i6 p.lan,i6 p.prio,i6 p.cost]] W (fun r w'=>r = .returned (i6 r_.1)∧S κ (roA P r_.2::L) (I) w'):=by
 refine wK 36 Tryz.func10 (fun R_ hR_ a hk=>?_)
 refine wp_seq ?_
 refine rgL [0] hk ?_
 refine eB hk hS (fun g2 w hS _=>?_)
 refine T ?_
 refine rE [0,3] hk fun a hk=>?_
 refine wp_seq ?_
 refine wp_block ?_
 refine wp_seq ?_
 refine rgL [] hk ?_
 refine T ?_
 refine rD (.bool false) (fun _ h_=>rk (run_bin2 rfl (h_.x hk) rfl (fun _=>by kernel_rfl) (fun _=>rfl))) ?_
 refine T ?_
 refine rE [0,3,6] hk fun a hk=>?_
 refine cF hk ?_
 refine wp_seq ?_
 refine rgL [1] hk ?_
 refine LDS 0 3 hk hS ?_
 refine eC hk (h:=roRight_any p _ hS) (k:=?_)
 rintro _ w ⟨rfl,hS⟩
 refine ⟨_,rfl,?_⟩
 replace hS:=hS.nz 2
 iterate 2 refine T ?_
 refine rE [0,3,9] hk fun a hk=>?_
 refine cB hk (fun hc9=>?_) (fun hc9=>?_)
 ·replace hc9:=nbt hc9
  replace ht:=(bF hc9).symm.trans ht
  refine wp_seq ?_
  refine rgL [] hk ?_
  refine T ?_
  refine rE [4] hk fun a hk=>?_
  refine wp_ret ?_
  replace hS:=hS.pk [1] 1
  obtain rfl:=Option.some.inj ht
  exact rt1 hk (hR_ _ _ ⟨rfl,hS⟩)
 replace hc9:=nbf hc9
 replace ht:=(bT hc9).symm.trans ht
 refine wp_seq ?_
 refine rgL [3] hk ?_
 iterate 2 refine T ?_
 refine LD 0 hk hS ?_
 replace hS:=hS.pk [1] 0
 refine eC hk (h:=roAt_any P p.lan s _ hS) (k:=?_)
 rintro _ w ⟨rfl,hS⟩
 refine ⟨_,rfl,?_⟩
 replace hS:=hS.nz 2
 obtain ⟨e5,hpl5,hS⟩:=ro_open hS
 replace hS:=hS.fr 1
 rcases arr_cases p.lan (by rw [pts_len];first | assumption | (simpa using hpl5)) hS with ⟨hq6,hs6,hS⟩ | ⟨g6,x6,hq6,hs6,hS⟩
 ·replace ht:=(optE_n hs6).symm.trans ht
  refine rwV 3 (ptO (lookP P.pts p.lan)) (.pointer none) (by rw [hq6];rfl) ?_
  refine rD (.bool true) (fun _ h_=>rk (run_bin2 rfl (h_.x hk) rfl (fun _=>by kernel_rfl) (fun _=>rfl))) ?_
  refine T ?_
  refine rE [0,3,13] hk fun a hk=>?_
  refine cT hk ?_
  refine wp_seq ?_
  refine rgL [] hk ?_
  refine T ?_
  refine rE [4] hk fun a hk=>?_
  refine wp_ret ?_
  replace hS:=hS.pk [1,0,0,0,0,0,0,0,0] 0
  replace hS:=ro_close (x:=s) (e:=⟨e5.A,e5.c⟩) hpl5 hS
  replace hS:=hS.pk [0] 1
  obtain rfl:=Option.some.inj ht
  exact rt1 hk (hR_ _ _ ⟨rfl,hS⟩)
 ·replace ht:=(optE_s hs6).symm.trans ht
  refine rwV 3 (ptO (lookP P.pts p.lan)) (pt g6 0) (by rw [hq6];rfl) ?_
  refine rD (.bool false) (fun _ h_=>rk (run_bin2 rfl (h_.x hk) rfl (fun _=>by kernel_rfl) (fun _=>rfl))) ?_
  refine T ?_
  refine rE [0,3,13] hk fun a hk=>?_
  refine cF hk ?_
  refine wp_skip ?_
  refine wp_seq ?_
  refine rgL [3] hk ?_
  iterate 2 refine T ?_
  refine LD 10 hk hS ?_
  replace hS:=arr_fill' hq6 hs6 hS
  replace hS:=hS.pk [1,0,0,0,0,0,0,0,0] 0
  replace hS:=ro_close (x:=s) (e:=⟨e5.A,e5.c⟩) hpl5 hS
  refine eC hk (h:=roAt_any P p.lan s _ hS) (k:=?_)
  rintro _ w ⟨rfl,hS⟩
  refine ⟨_,rfl,?_⟩
  replace hS:=hS.nz 2
  refine rwV 3 (ptO (lookP P.pts p.lan)) (pt g6 0) (by rw [hq6];rfl) ?_
  refine T ?_
  refine rE [0,3,5] hk fun a hk=>?_
  refine wp_seq ?_
  refine rgR [[],[],[],[],[3],[0,2],[0,2,5],[0,2,5,6],[0,1,2,3,4,5,6,7],[0,1,2,3,4,5,6,7,8],[0,1,2,3,4,5,6,7,8,9],[0,1,2,3,4,5,6,7,8,9,10]] [7,11] (.rd 0 (.rd 1 (.rd 2 (.rd 3 (.rd 4 (.rd 5 (.rd 6 (.ef 7 (.ag 1 (.ag 3 (.ag 4 (.rd 8 (.rd 9 (.rd 10 (.ef 11 (.fin) .non))))))) .non)))))))) hk hS (fun w hS _=>?_)
  iterate 2 refine T ?_
  refine LDS 1 3 hk hS ?_
  refine T ?_
  refine LD 1 hk hS ?_
  iterate 2 refine T ?_
  obtain ⟨e8,hpl8,hS⟩:=ro_open hS
  replace hS:=hS.fr 1
  replace hS:=arr_at' hq6 hs6 (by rw [pts_len];first | assumption | (simpa using hpl8)) hS
  obtain ⟨e10,hS⟩:=portA_open hS
  refine eS 0 hk hS (fun w hS _=>?_)
  iterate 2 refine TA ?_
  refine aG (fun _ h_=>rk (ld hS 11 rfl (h_.x hk))) ?_
  iterate 3 refine T ?_
  refine eS 0 hk hS (fun w hS _=>?_)
  refine rE [0,5] hk fun a hk=>?_
  refine wp_seq ?_
  refine rgL [2] hk ?_
  iterate 2 refine T ?_
  replace hS:=portA_close (x:={ x6 with pt:=p,i:=(⟨x6.i.self,p.prio,x6.i.state,x6.i.dr,x6.i.bdr⟩:IfV) }) (e:=e10) hS
  replace hS:=arr_fill (y:={ x6 with pt:=p,i:=(⟨x6.i.self,p.prio,x6.i.state,x6.i.dr,x6.i.bdr⟩:IfV) }) hq6 hs6 hS
  have hs11:=lookP_set ({ x6 with pt:=p,i:=(⟨x6.i.self,p.prio,x6.i.state,x6.i.dr,x6.i.bdr⟩:IfV) }) hs6
  replace hS:=hS.pk [1,0,0,0,0,0,0,0,0] 0
  replace hS:=ro_close (x:={ s with ports:=s.ports.set (p.lan).toNat (some ({ x6 with pt:=p,i:=(⟨x6.i.self,p.prio,x6.i.state,x6.i.dr,x6.i.bdr⟩:IfV) })) }) (e:=⟨e8.A,e8.c⟩) (by first | assumption | simpa using hpl8) hS
  obtain ⟨q12,hq12,ht⟩:=optB_s ht
  refine eC hk (h:=roElect_any P g6 p.lan 4 ({ s with ports:=s.ports.set (p.lan).toNat (some ({ x6 with pt:=p,i:=(⟨x6.i.self,p.prio,x6.i.state,x6.i.dr,x6.i.bdr⟩:IfV) })) }) _ hq6 hq12 hS) (k:=?_)
  rintro _ w ⟨rfl,hS⟩
  refine ⟨_,rfl,?_⟩
  replace hS:=hS.nz 2
  refine rE [] hk fun a hk=>?_
  refine wp_seq ?_
  refine rgL [] hk ?_
  refine T ?_
  refine rE [4] hk fun a hk=>?_
  refine wp_ret ?_
  replace hS:=hS.pk [0] 1
  obtain rfl:=Option.some.inj ht
  exact rt1 hk (hR_ _ _ ⟨rfl,hS⟩)
def roPlugFL8:List PeV → Option (Unit)
  | []=>some ()
  | z8::xs8=>none
def roPlugF (lan:Int) (up:Bool) (s:RoS):Option (Int × RoS):=optE (lookP s.ports lan) (some (6,s)) fun x4=>if up = decide ((x4.i.state:Int) ≠ 0) then some (9,s) else cond up (optB (roUpF lan s) fun q6=>some (0,q6)) (letP (peAll x4.p) fun q7=>optB (roPlugFL8 q7) fun r8=>letP (ifaceStepF x4.i 1 []) fun q15=>letP (peersNewDF s.id lan) fun q16=>if s.w.length ≤ 100000 then letP (wheelDropN lan s.w) fun q17=>letP (acksDropF lan s.later) fun q19=>some (0,{ s with ports:=s.ports.set (lan).toNat (some ({ x4 with i:=q15.1,p:=q16 })),w:=q17.2,later:=q19.2 }) else none)
theorem roPlug_any {κ:Kap} {L I:List Atom} (P:RoP) (lan:Int) (up:Bool) (s:RoS) (W:World) {r_:Int × RoS} (ht:(roPlugF lan up s) = some r_) (hS:S κ (roA P s::L) (I) W):
    Calls Tryz.prog 11 #[pt P.g 0,i6 lan,.bool up] W (fun r w'=>r = .returned (i6 r_.1)∧S κ (roA P r_.2::L) (I) w'):=by
 refine wK 80 Tryz.func11 (fun R_ hR_ a hk=>?_)
 refine wp_seq ?_
 refine rgL [] hk ?_
 refine T ?_
 refine rE [0,1,2] hk fun a hk=>?_
 refine wp_seq ?_
 refine wp_seq ?_
 refine rgL [] hk ?_
 refine T ?_
 refine rD (.bool false) (fun _ h_=>rk (run_bin2 rfl (h_.x hk) rfl (fun _=>by kernel_rfl) (fun _=>rfl))) ?_
 refine rE [0,1,2,11] hk fun a hk=>?_
 refine cF hk ?_
 refine wp_skip ?_
 refine wp_seq ?_
 refine rgL [2] hk ?_
 iterate 2 refine T ?_
 refine eC hk (h:=roAt_any P lan s _ hS) (k:=?_)
 rintro _ w ⟨rfl,hS⟩
 refine ⟨_,rfl,?_⟩
 replace hS:=hS.nz 1
 refine T ?_
 refine rE [0,1,2,7] hk fun a hk=>?_
 refine wp_seq ?_
 refine wp_block ?_
 refine wp_seq ?_
 refine rgL [] hk ?_
 refine T ?_
 obtain ⟨e3,hpl3,hS⟩:=ro_open hS
 replace hS:=hS.fr 1
 rcases arr_cases lan (by rw [pts_len];first | assumption | (simpa using hpl3)) hS with ⟨hq4,hs4,hS⟩ | ⟨g4,x4,hq4,hs4,hS⟩
 ·replace ht:=(optE_n hs4).symm.trans ht
  rw [hq4] at hk
  replace hk:Fr a 80 [(0,pt P.g 0),(1,i6 lan),(2,.bool up),(7,.pointer none)]:=hk.to
  refine rwV 0 (ptO (lookP P.pts lan)) (.pointer none) (by rw [hq4];rfl) ?_
  refine rD (.bool true) (fun _ h_=>rk (run_bin2 rfl (h_.x hk) rfl (fun _=>by kernel_rfl) (fun _=>rfl))) ?_
  refine T ?_
  refine rE [0,1,2,7,15] hk fun a hk=>?_
  refine cT hk ?_
  refine wp_seq ?_
  refine rgL [] hk ?_
  refine T ?_
  refine rE [6] hk fun a hk=>?_
  refine wp_ret ?_
  replace hS:=hS.pk [1,0,0,0,0,0,0,0,0] 0
  replace hS:=ro_close (x:=s) (e:=⟨e3.A,e3.c⟩) hpl3 hS
  obtain rfl:=Option.some.inj ht
  exact rt1 hk (hR_ _ _ ⟨rfl,hS⟩)
 ·replace ht:=(optE_s hs4).symm.trans ht
  rw [hq4] at hk
  replace hk:Fr a 80 [(0,pt P.g 0),(1,i6 lan),(2,.bool up),(7,pt g4 0)]:=hk.to
  refine rwV 0 (ptO (lookP P.pts lan)) (pt g4 0) (by rw [hq4];rfl) ?_
  refine rD (.bool false) (fun _ h_=>rk (run_bin2 rfl (h_.x hk) rfl (fun _=>by kernel_rfl) (fun _=>rfl))) ?_
  refine T ?_
  refine rE [0,1,2,7,15] hk fun a hk=>?_
  refine cF hk ?_
  refine wp_seq ?_
  refine rgL [] hk ?_
  iterate 5 refine T ?_
  obtain ⟨e5,hS⟩:=portA_open hS
  refine LD 0 hk hS ?_
  refine T ?_
  refine rD (.bool (decide (up = decide ((x4.i.state:Int) ≠ 0)))) (fun _ h_=>rk (run_bin2 rfl (h_.x hk) (h_.x hk) (fun _=>rfl) (bool_eql _ _))) ?_
  refine T ?_
  refine rE [0,1,2,7,18] hk fun a hk=>?_
  refine cD hk (fun hc18=>?_) (fun hc18=>?_)
  ·replace ht:=(if_pos hc18).symm.trans ht
   refine wp_seq ?_
   refine rgL [] hk ?_
   refine T ?_
   refine rE [6] hk fun a hk=>?_
   refine wp_ret ?_
   replace hS:=portA_close (x:=x4) (e:=e5) hS
   replace hS:=arr_fill' hq4 hs4 hS
   replace hS:=hS.pk [1,0,0,0,0,0,0,0,0] 0
   replace hS:=ro_close (x:=s) (e:=⟨e3.A,e3.c⟩) hpl3 hS
   obtain rfl:=Option.some.inj ht
   exact rt1 hk (hR_ _ _ ⟨rfl,hS⟩)
  replace ht:=(if_neg hc18).symm.trans ht
  refine wp_seq ?_
  refine rgL [] hk ?_
  iterate 2 refine T ?_
  refine rE [0,1,7,27] hk fun a hk=>?_
  refine cB hk (fun hc27=>?_) (fun hc27=>?_)
  ·replace ht:=(bT hc27).symm.trans ht
   refine wp_seq ?_
   refine rgL [2] hk ?_
   iterate 2 refine T ?_
   replace hS:=portA_close (x:=x4) (e:=e5) hS
   replace hS:=arr_fill' hq4 hs4 hS
   replace hS:=hS.pk [1,0,0,0,0,0,0,0,0] 0
   replace hS:=ro_close (x:=s) (e:=⟨e3.A,e3.c⟩) hpl3 hS
   obtain ⟨q6,hq6,ht⟩:=optB_s ht
   refine eC hk (h:=roUp_any P g4 lan s _ hq4 hq6 hS) (k:=?_)
   rintro _ w ⟨rfl,hS⟩
   refine ⟨_,rfl,?_⟩
   replace hS:=hS.nz 1
   refine rE [] hk fun a hk=>?_
   refine wp_seq ?_
   refine rgL [] hk ?_
   refine T ?_
   refine rE [6] hk fun a hk=>?_
   refine wp_ret ?_
   obtain rfl:=Option.some.inj ht
   exact rt1 hk (hR_ _ _ ⟨rfl,hS⟩)
  replace ht:=(bF hc27).symm.trans ht
  refine wp_skip ?_
  refine wp_seq ?_
  refine wp_seq ?_
  refine rgL [4] hk ?_
  iterate 3 refine T ?_
  refine LD 0 hk hS ?_
  replace hS:=hS.pk [1] 0
  refine eC hk (h:=peersAll_any e5 x4.p _ hS) (k:=?_)
  rintro _ w ⟨B07,d07,rfl,hS⟩
  refine ⟨_,rfl,?_⟩
  generalize hq7:peAll x4.p = q7 at hS ⊢
  replace ht:=(letP_eq hq7).symm.trans ht
  replace hS:=hS.nz 12
  iterate 2 refine T ?_
  refine rE [0,1,7,36,37,38] hk fun a hk=>?_
  replace hS:=hS.pk [2,1] 0
  replace hS:=portA_close (x:=x4) (e:=e5) hS
  replace hS:=hS.pk [0,1] 0
  replace hS:=arr_fill' hq4 hs4 hS
  replace hS:=hS.pk [2,0,1,1,1,1,1,1,1] 0
  replace hS:=ro_close (x:=s) (e:=⟨e3.A,e3.c⟩) hpl3 hS
  obtain ⟨r8,hr8,ht⟩:=optB_s ht
  refine wp_cut (fun a_ w_=>Fr a_ 80 [(0,pt P.g 0),(1,i6 lan),(7,pt g4 0)]∧S κ (roA P s::rowA (.slice B07 q7.length d07) 90 7 q7.length (rowC PeV.cells q7)::L) (I) w_) ?_ ?_
  ·refine wp_block ?_
   refine wp_loop (fun a_ w_=>∃ k8:Nat,(k8 ≤ (q7).length)∧roPlugFL8 ((q7).drop k8) = some r8∧Fr a_ 80 [(0,pt P.g 0),(1,i6 lan),(7,pt g4 0),(36,.slice B07 q7.length d07),(37,i6 ((q7.length:Nat):Int)),(38,i6 k8)]∧S κ (roA P s::rowA (.slice B07 q7.length d07) 90 7 q7.length (rowC PeV.cells q7)::L) (I) w_) (fun a_ _=>(q7).length - (intOf (sl a_ 38)).toNat) ?_ ?_
   ·exact ⟨0,Nat.zero_le _,hr8,hk.to,hS⟩
   clear hk hS
   rintro aL8 w ⟨k8,hkl8,hI8,hk,hS⟩
   have hmu8:=hk.g (s:=38)
   have hlb8:=hS.rowB (i:=1) rfl
   refine wp_seq ?_
   refine rgL [] hk ?_
   refine T ?_
   refine rE [0,1,7,36,37,38,39] hk fun a hk=>?_
   refine wp_seq ?_
   refine cD hk (fun hc39=>?_) (fun hc39=>?_)
   ·obtain ⟨z8,hz8⟩:=at_k (show k8 < (q7).length by omega)
    rw [drop_at hz8] at hI8
    refine wp_skip ?_
    refine wp_seq ?_
    refine wp_block ?_
    refine wp_seq ?_
    refine rgL [2,3] hk ?_
    refine dX PeV.cells_len' hk (hS.rd (i:=1) rfl) (fun b9 o9 z9 hz9 hq9=>?_)
    obtain rfl:z8 = z9:=Option.some.inj (hz8.symm.trans hz9)
    refine dV 7 hq9 hk ?_
    refine eA #[i6 0,i6 0,i6 0,i6 0,i6 0,.bool false,i6 0] hS (fun g10 w hS _=>?_)
    refine eS 0 hk hS (fun w hS _=>?_)
    refine rE [0,1,7,9,36,37,38] hk fun a hk=>?_
    cases hI8
   obtain rfl:k8 = (q7).length:=by omega
   rw [drop_all (Nat.le_refl _)] at hI8
   refine wp_exit ?_
   obtain rfl:=Option.some.inj hI8
   exact ⟨hk.to,hS⟩
  rintro a w ⟨hk,hS⟩
  refine wp_seq ?_
  refine rgL [5,11] hk ?_
  iterate 4 refine T ?_
  obtain ⟨e11,hpl11,hS⟩:=ro_open hS
  replace hS:=hS.fr 1
  replace hS:=arr_at' hq4 hs4 (by rw [pts_len];first | assumption | (simpa using hpl11)) hS
  obtain ⟨e13,hS⟩:=portA_open hS
  refine LDS 0 5 hk hS ?_
  have hS:=hS.nilrow 161 4
  replace hS:S κ (rowA (.slice none 0 0) 161 4 0 (rowC CdV.cells [])::blkA g4 85 #[i6 x4.pt.lan,i6 x4.pt.prio,i6 x4.pt.cost,i6 x4.i.self,i6 x4.i.prio,i6 x4.i.state,i6 x4.i.dr,i6 x4.i.bdr,pt e13 0]::peersA e13 x4.p::(arrH portA P.pts s.ports ((lan).toNat))::blkA P.g 102 #[i6 s.id,i6 s.now,i6 s.number,ptO P.p0,ptO P.p1,ptO P.p2,ptO P.p3,.map (some P.tm),.map (some P.mm),pt P.dg 0,pt P.wg 0,pt P.lg 0,pt P.ag 0,.slice e11.A s.out.length e11.c]::(mobA taMF P.tm s.talks)::mapA keyE toldE P.mm s.mine::(dbA P.dg s.db)::(wheelA P.wg s.w)::(rxmtA P.lg s.lists)::(acksA P.ag s.later)::crA frFn 58 e11.A e11.c s.out::rowA (.slice B07 q7.length d07) 90 7 q7.length (rowC PeV.cells q7)::L) (I) w:=hS
  obtain ⟨J14,hS,hJ14⟩:=S.lend (M:=[_]) hS
  refine eC hk (h:=ifaceStepS x4.i 1 [] none 0 _ (by simp) hS) (k:=?_)
  rintro _ w ⟨rfl,hS⟩
  refine ⟨_,rfl,?_⟩
  generalize hq15:ifaceStepF x4.i 1 [] = q15 at hS ⊢
  replace ht:=(letP_eq hq15).symm.trans ht
  replace hS:=hJ14 _ _ hS
  replace hS:=hS.nz 13
  iterate 5 refine T ?_
  refine eS 1 hk hS (fun w hS _=>?_)
  refine rE [0,1,7] hk fun a hk=>?_
  refine wp_seq ?_
  refine rgL [6,9] hk ?_
  iterate 4 refine T ?_
  refine LD 4 hk hS ?_
  refine T ?_
  refine eC hk (h:=peersNewD_any s.id lan _ hS) (k:=?_)
  rintro _ w ⟨G016,rfl,hS⟩
  refine ⟨_,rfl,?_⟩
  generalize hq16:peersNewDF s.id lan = q16 at hS ⊢
  replace ht:=(letP_eq hq16).symm.trans ht
  replace hS:=hS.nz 14
  iterate 2 refine T ?_
  refine eS 2 hk hS (fun w hS _=>?_)
  refine rE [0,1] hk fun a hk=>?_
  refine wp_seq ?_
  refine rgL [5] hk ?_
  iterate 3 refine T ?_
  refine LD 5 hk hS ?_
  refine T ?_
  replace hS:=hS.pk [9] 0
  obtain ⟨hgd18,ht⟩:=gdE ht
  refine eC hk (h:=wheelDrop_one P.wg lan s.w _ hgd18 hS) (k:=?_)
  rintro _ w ⟨rfl,hS⟩
  refine ⟨_,rfl,?_⟩
  generalize hq17:wheelDropN lan s.w = q17 at hS ⊢
  replace ht:=(letP_eq hq17).symm.trans ht
  replace hS:=hS.nz 14
  refine rE [0,1] hk fun a hk=>?_
  refine wp_seq ?_
  refine rgL [5] hk ?_
  iterate 3 refine T ?_
  refine LD 6 hk hS ?_
  refine T ?_
  replace hS:=hS.pk [11] 0
  refine eC hk (h:=acksDrop_any P.ag lan s.later _ hS) (k:=?_)
  rintro _ w ⟨rfl,hS⟩
  refine ⟨_,rfl,?_⟩
  generalize hq19:acksDropF lan s.later = q19 at hS ⊢
  replace ht:=(letP_eq hq19).symm.trans ht
  replace hS:=hS.nz 14
  refine rE [] hk fun a hk=>?_
  refine wp_seq ?_
  refine rgL [] hk ?_
  refine T ?_
  refine rE [6] hk fun a hk=>?_
  refine wp_ret ?_
  replace hS:=hS.pk [4,2] 0
  replace hS:=portA_close (x:={ x4 with i:=q15.1,p:=q16 }) (e:=G016) hS
  replace hS:=hS.pk [0,4] 0
  replace hS:=arr_fill (y:={ x4 with i:=q15.1,p:=q16 }) hq4 hs4 hS
  have hs20:=lookP_set ({ x4 with i:=q15.1,p:=q16 }) hs4
  replace hS:=hS.pk [5,0,4,4,4,1,3,0,2] 0
  replace hS:=ro_close (x:={ s with ports:=s.ports.set (lan).toNat (some ({ x4 with i:=q15.1,p:=q16 })),w:=q17.2,later:=q19.2 }) (e:=⟨e11.A,e11.c⟩) (by first | assumption | simpa using hpl11) hS
  replace hS:=hS.pk [0] 3
  obtain rfl:=Option.some.inj ht
  exact rt1 hk (hR_ _ _ ⟨rfl,hS⟩)
end
set_option maxRecDepth 100000
set_option maxHeartbeats 8000000
namespace Old
theorem wheelNew_any {κ:Kap} {L I:List Atom}  (W:World) (hS:S κ (L) (I) W):
    Calls Tryz.prog 82 #[] W (fun r w'=>∃ g,r = .returned (pt g 0)∧S κ (wheelA g []::L) I w'):=by
 refine wK 4 Tryz.func82 (fun R_ hR_ a hk=>?_)
 refine wp_seq ?_
 refine rgL [] hk ?_
 refine T ?_
 refine rE [0] hk ?_
 clear hk
 intro a2 hk
 refine wp_seq ?_
 refine rgL [0,2] hk ?_
 refine eF (fun a_ h_=>st_makeMap (α:=TmV) (β:=Int) tmE intE hS (on_none rfl) rfl fun g4 w4 hS4 hb4=>⟨_,rfl,?_⟩)
 clear h_ a_ hS
 clear hb4
 refine rD (.agg #[.map (some g4)]) (fun _ h_=>rk (run_build rfl (h_.prt hk) (by kernel_rfl))) ?_
 refine eB hk hS4 (fun g5 w5 hS5 _=>?_)
 clear hS4
 refine T ?_
 refine rE [0] hk ?_
 clear hk
 intro a3 hk
 refine wp_ret ?_
 refine rt1 hk (hR_ _ _ ?_)
 exact ⟨_,rfl,wheel_close hS5⟩
theorem rxmtNew_any {κ:Kap} {L I:List Atom}  (W:World) (hS:S κ (L) (I) W):
    Calls Tryz.prog 83 #[] W (fun r w'=>∃ g,r = .returned (pt g 0)∧S κ (rxmtA g []::L) I w'):=by
 refine wK 4 Tryz.func83 (fun R_ hR_ a hk=>?_)
 refine wp_seq ?_
 refine rgL [] hk ?_
 refine T ?_
 refine rE [0] hk ?_
 clear hk
 intro a2 hk
 refine wp_seq ?_
 refine rgL [0,2] hk ?_
 refine eF (fun a_ h_=>st_makeMap (α:=EnV) (β:=Int) enE intE hS (on_none rfl) rfl fun g4 w4 hS4 hb4=>⟨_,rfl,?_⟩)
 clear h_ a_ hS
 clear hb4
 refine rD (.agg #[.map (some g4)]) (fun _ h_=>rk (run_build rfl (h_.prt hk) (by kernel_rfl))) ?_
 refine eB hk hS4 (fun g5 w5 hS5 _=>?_)
 clear hS4
 refine T ?_
 refine rE [0] hk ?_
 clear hk
 intro a3 hk
 refine wp_ret ?_
 refine rt1 hk (hR_ _ _ ?_)
 exact ⟨_,rfl,rxmt_close hS5⟩
theorem acksNew_any {κ:Kap} {L I:List Atom}  (W:World) (hS:S κ (L) (I) W):
    Calls Tryz.prog 84 #[] W (fun r w'=>∃ g,r = .returned (pt g 0)∧S κ (acksA g []::L) I w'):=by
 refine wK 4 Tryz.func84 (fun R_ hR_ a hk=>?_)
 refine wp_seq ?_
 refine rgL [] hk ?_
 refine T ?_
 refine rE [0] hk ?_
 clear hk
 intro a2 hk
 refine wp_seq ?_
 refine rgL [0,2] hk ?_
 refine eF (fun a_ h_=>st_makeMap (α:=Int) (β:=List HD × SlP) hdMF.ek hdMF.ev hS (on_none rfl) rfl fun g4 w4 hS4 hb4=>⟨_,rfl,?_⟩)
 clear h_ a_ hS
 clear hb4
 refine rD (.agg #[.map (some g4)]) (fun _ h_=>rk (run_build rfl (h_.prt hk) (by kernel_rfl))) ?_
 refine eB hk hS4 (fun g5 w5 hS5 _=>?_)
 clear hS4
 refine T ?_
 refine rE [0] hk ?_
 clear hk
 intro a3 hk
 refine wp_ret ?_
 refine rt1 hk (hR_ _ _ ?_)
 exact ⟨_,rfl,acks_close ((mob_nil (F:=hdMF) (hS5.perm (List.Perm.swap _ _ _))).perm (List.Perm.swap _ _ _))⟩
def roomF (room:Int):Int:=if 40 < (if (1:Int) > room then 1 else room) then 40 else (if (1:Int) > room then 1 else room)
theorem dbNew_any {κ:Kap} {L I:List Atom} (room:Int) (W:World) (hS:S κ (L) (I) W):
    Calls Tryz.prog 81 #[i6 room] W (fun r w'=>∃ g,r = .returned (pt g 0)∧S κ (dbA g ⟨roomF room,[]⟩::L) I w'):=by
 refine wK 9 Tryz.func81 (fun R_ hR_ a hk=>?_)
 refine wp_seq ?_
 refine rgL [] hk ?_
 refine T ?_
 refine rE [0,2] hk ?_
 clear hk
 intro a2 hk
 refine wp_seq ?_
 refine rgL [3,5] hk ?_
 refine T ?_
 refine rD (i6 (if (1:Int) > room then 1 else room)) (fun _ h_=>rk (run_maxI rfl (h_.x hk) rfl rfl)) ?_
 refine rD (i6 (roomF room)) (fun _ h_=>rk (run_minI rfl (h_.x hk) rfl rfl)) ?_
 refine eF (fun a_ h_=>st_makeMap (α:=KeyV) (β:=LV × LP) lsMF.ek lsMF.ev hS (on_none rfl) rfl fun g4 w4 hS4 hb4=>⟨_,rfl,?_⟩)
 clear h_ a_ hS
 clear hb4
 refine rD (.agg #[i6 (roomF room),.map (some g4)]) (fun _ h_=>rk (run_build rfl (h_.prt hk) (by kernel_rfl))) ?_
 refine eB hk hS4 (fun g5 w5 hS5 _=>?_)
 clear hS4
 refine T ?_
 refine rE [2] hk ?_
 clear hk
 intro a3 hk
 refine wp_ret ?_
 refine rt1 hk (hR_ _ _ ?_)
 exact ⟨_,rfl,db_close (d:=⟨roomF room,[]⟩) ((mob_nil (F:=lsMF) (hS5.perm (List.Perm.swap _ _ _))).perm (List.Perm.swap _ _ _))⟩
theorem S.nothing {κ:Kap} {L I:List Atom} {w:World} (h:S κ L I w):S κ (peerA none::L) I w:=S.pure_close trivial (S.sep_close (l:=[]) h)
theorem S.nothings {κ:Kap} {I:List Atom} {w:World}:∀ (n:Nat) {L:List Atom},S κ L I w → S κ (List.replicate n (peerA none) ++ L) I w
  | 0,_,h=>h
  | n + 1,_,h=>S.nothing (S.nothings n h)
theorem peers_none {κ:Kap} {L I:List Atom} {w:World} {a:Atom} (h:S κ (a::L) I w):S κ (a::sepA ((List.replicate 16 (none:Option (Nat × PeV))).map peerA)::L) I w:=by
  rw [List.map_replicate]
  have h1:=S.nothings 16 h
  exact (S.sep_close h1).perm (List.Perm.swap _ _ _)
theorem peersNew_any {κ:Kap} {L I:List Atom} (self lan:Int) (W:World) (hS:S κ (L) (I) W):
    Calls Tryz.prog 33 #[i6 self,i6 lan] W (fun r w'=>∃ g,r = .returned (pt g 0)∧S κ (peersA g ⟨self,lan,List.replicate 16 none⟩::L) I w'):=by
 refine wK 9 Tryz.func33 (fun R_ hR_ a hk=>?_)
 refine wp_seq ?_
 refine rgL [] hk ?_
 refine T ?_
 refine rE [0,1,4] hk ?_
 clear hk
 intro a2 hk
 refine wp_seq ?_
 refine rgL [3] hk ?_
 iterate 2 refine T ?_
 refine rD (.agg #[i6 self,i6 lan,.pointer none,.pointer none,.pointer none,.pointer none,.pointer none,.pointer none,.pointer none,.pointer none,.pointer none,.pointer none,.pointer none,.pointer none,.pointer none,.pointer none,.pointer none,.pointer none]) (fun _ h_=>rk (run_build rfl (h_.prt hk) (by kernel_rfl))) ?_
 refine eB hk hS (fun g4 w4 hS4 _=>?_)
 clear hS
 refine T ?_
 refine rE [4] hk ?_
 clear hk
 intro a3 hk
 refine wp_ret ?_
 refine rt1 hk (hR_ _ _ ?_)
 exact ⟨_,rfl,peers_close (p:=⟨self,lan,List.replicate 16 none⟩) (q:=List.replicate 16 none) rfl rfl (peers_none hS4)⟩
def armF (tick:Int) (ts:List TmV) (l:List (TmV × Int)):List (TmV × Int):=ts.foldl (fun l t=>putL t tick l) l
theorem armF_next {tick:Int} {ts:List TmV} {l:List (TmV × Int)} {k:Nat} {z:TmV} (hz:ts[k]? = some z):putL z tick (armF tick (ts.take k) l) = armF tick (ts.take (k + 1)) l:=by
  rw [take_snoc ts k z hz,armF,armF,List.foldl_append];rfl
theorem TmV.cells_len (x:TmV):x.cells.length = 6:=rfl
theorem tms_len {w:World} {B n:Nat} {A:Option Addr} {l:List TmV} (h:Reads w B 6 A n (rowC TmV.cells l)):l.length = n:=by have:=h.1;rw [rowC_length TmV.cells 6 TmV.cells_len] at this;omega
theorem arm_any {κ:Kap} {L I:List Atom} (g n c:Nat) (tick:Int) (A:Option Addr) (ts:List TmV) (l:List (TmV × Int)) (W:World) (hn:n ≤ 100000) (hS:S κ ((wheelA g l)::L) (rowA (.slice A n c) 121 6 n (rowC TmV.cells ts)::I) W):
    Calls Tryz.prog 87 #[pt g 0,i6 tick,.slice A n c] W (fun r w'=>r = .returned (.tuple #[])∧S κ (wheelA g (armF tick ts l)::L) (rowA (.slice A n c) 121 6 n (rowC TmV.cells ts)::I) w'):=by
 obtain ⟨m,hS⟩:=wheel_open hS
 refine wK 23 Tryz.func87 (fun R_ hR_ a hk=>?_)
 refine wp_seq ?_
 refine wp_seq ?_
 refine rgL [] hk ?_
 refine T ?_
 refine rD (.bool false) (fun _ h_=>rk (run_bin2 rfl (h_.x hk) rfl (fun _=>by kernel_rfl) (fun _=>rfl))) ?_
 refine rE [0,1,2,9] hk ?_
 clear hk
 intro a2 hk
 refine cF hk ?_
 refine wp_skip ?_
 refine wp_seq ?_
 refine rgL [] hk ?_
 iterate 3 refine T ?_
 refine rE [0,1,10,11,12] hk ?_
 clear hk
 intro a3 hk
 refine wp_block ?_
 refine wp_loop (fun a_ w_=>∃ k:Nat,(k ≤ n)∧Fr a_ 23 [(0,pt g 0),(1,i6 tick),(10,.slice A n c),(11,i6 n),(12,i6 k)]∧S κ (blkA g 175 #[.map (some m)]::mapA tmE intE m (armF tick (ts.take k) l)::L) (rowA (.slice A n c) 121 6 n (rowC TmV.cells ts)::I) w_) (fun a_ _=>n - (intOf (sl a_ 12)).toNat) ?_ ?_
 ·exact ⟨0,Nat.zero_le _,hk.to,hS⟩
 clear hk hS
 rintro a4 w4 ⟨k,hc0_0,hk,hS4⟩
 have hmu0:=hk.g (s:=12)
 refine wp_seq ?_
 refine rgL [] hk ?_
 refine T ?_
 refine rE [0,1,10,11,12,13] hk ?_
 clear hk
 intro a5 hk
 refine wp_seq ?_
 refine cD hk (fun hc13=>?_) (fun hc13=>?_)
 ·refine wp_skip ?_
  refine wp_seq ?_
  refine wp_block ?_
  refine wp_seq ?_
  refine rgL [2,3] hk ?_
  obtain ⟨b7,o7,z7,hA7,hb7,hz7,hq7⟩:=Reads.row_at TmV.cells 6 TmV.cells_len (k:=k) (hS4.rdI (i:=0) rfl) (by decide) (by omega)
  refine rD (pt b7 (o7 + k * 6)) (fun _ h_=>rk (run_indexV (size:=6) rfl (h_.x hk) hA7 (h_.x hk) (by kernel_rfl) (by omega) (by simp))) ?_
  refine rD (.agg #[i6 z7.kind,i6 z7.lan,i6 z7.id,i6 z7.k.kind,i6 z7.k.id,i6 z7.k.adv]) (fun _ h_=>rk (run_loadV (size:=6) (cs:=TmV.cells z7) rfl (h_.x hk) (by kernel_rfl) rfl hq7)) ?_
  refine eA #[i6 0,i6 0,i6 0,i6 0,i6 0,i6 0] hS4 (fun g8 w8 hS8 _=>?_)
  clear hS4
  refine eS 0 hk hS8 (fun w9 hS9 _=>?_)
  clear hS8
  refine rE [0,1,7,10,11,12,14,15] hk ?_
  clear hk
  intro a6 hk
  refine rgR [[],[0],[0,1],[0,1,2],[],[],[0,1,2,3,4,5]] [6] (.rd 0 (.rd 1 (.rd 2 (.rd 3 (.rd 4 (.rd 5 (.ef 6 (.fin) .non))))))) hk hS9 (fun w10 hS10 _=>?_)
  clear hS9
  iterate 3 refine T ?_
  refine LD 1 hk hS10 ?_
  refine LDS 0 6 hk hS10 ?_
  refine T ?_
  refine eF (fun a_ h_=>st_mapset (E:=3) 2 z7 tick tm_key hS10 (on_none rfl) (.inl rfl) (h_.x hk) (h_.x hk) (h_.x hk) fun w11 hS11=>⟨_,rfl,?_⟩)
  clear h_ a_ hS10
  replace hS11:=hS11.nz 3
  refine rE [0,1,7,10,11,12,14,15,16,17,18,19,20,21] hk ?_
  clear hk
  intro a10 hk
  refine rgL [] hk ?_
  refine rD (i6 (k + 1)) (fun _ h_=>rk (run_addI rfl (h_.x hk) rfl (by omega) rfl)) ?_
  refine T ?_
  refine rE [0,1,7,10,11,12,14,15,16,17,18,19,20,21,22] hk ?_
  clear hk
  intro a12 hk
  rw [armF_next hz7] at hS11
  have hSd:=hS11.drop
  refine ⟨⟨k + 1,by omega,hk.to,hSd⟩,?_⟩
  show n - (intOf (sl a12 12)).toNat < n - (intOf (sl a4 12)).toNat
  rw [show sl a12 12 = _ from hk.g,show sl a4 12 = _ from hmu0]
  simp only [intOf]
  omega
 refine wp_exit ?_
 show bodyPost _ _ _ .ret _ _
 refine rt0 hk (hR_ _ _ ?_)
 obtain rfl:k = n:=by omega
 have hln:=tms_len (hS4.rdI (i:=0) rfl)
 rw [List.take_of_length_le (by omega)] at hS4
 exact ⟨rfl,(wheel_close hS4)⟩
def portOk (lan prio cost:Int):Prop:=0 ≤ lan∧lan ≤ 3∧0 ≤ prio∧prio ≤ 255∧1 ≤ cost∧cost ≤ 100
instance (lan prio cost:Int):Decidable (portOk lan prio cost):=by unfold portOk;infer_instance
theorem portRight_any (lan prio cost:Int) (W:World):
    Calls Tryz.prog 26 #[.agg #[i6 lan,i6 prio,i6 cost]] W (fun r w'=>r = .returned (.bool (decide (portOk lan prio cost)))∧Below W.heap.size W w'):=by
 have hS:=S.start W
 refine wK 31 Tryz.func26 (fun R_ hR_ a hk=>?_)
 refine wp_seq ?_
 refine rgL [0] hk ?_
 refine eB hk hS (fun g3 w3 hS3 _=>?_)
 clear hS
 refine T ?_
 refine rE [1,2] hk ?_
 clear hk
 intro a2 hk
 refine wp_seq ?_
 refine rgL [] hk ?_
 refine T ?_
 refine LD 0 hk hS3 ?_
 iterate 2 refine T ?_
 rcases dt ((0:Int) ≤ lan) with ⟨he,hg3⟩ | ⟨he,hg3⟩
 ·rw [he]
  clear he
  refine T ?_
  refine LD 0 hk hS3 ?_
  iterate 3 refine T ?_
  rcases dt ((lan:Int) ≤ 3) with ⟨he,hg8⟩ | ⟨he,hg8⟩
  ·rw [he]
   clear he
   refine T ?_
   refine LD 0 hk hS3 ?_
   iterate 3 refine T ?_
   rcases dt ((0:Int) ≤ prio) with ⟨he,hg13⟩ | ⟨he,hg13⟩
   ·rw [he]
    clear he
    refine T ?_
    refine LD 0 hk hS3 ?_
    iterate 3 refine T ?_
    rcases dt ((prio:Int) ≤ 255) with ⟨he,hg18⟩ | ⟨he,hg18⟩
    ·rw [he]
     clear he
     refine T ?_
     refine LD 0 hk hS3 ?_
     iterate 3 refine T ?_
     rcases dt ((1:Int) ≤ cost) with ⟨he,hg23⟩ | ⟨he,hg23⟩
     ·rw [he]
      clear he
      refine T ?_
      refine LD 0 hk hS3 ?_
      iterate 3 refine T ?_
      refine rE [2] hk ?_
      clear hk
      intro a4 hk
      refine wp_ret ?_
      refine rt1 hk (hR_ _ _ ?_)
      refine ⟨?_,(hS3.old (by simp))⟩
      congr 2
      first | (rw [decide_eq_decide];unfold portOk;omega) | exact (decide_eq_false (by unfold portOk;omega)).symm | exact (decide_eq_true (by unfold portOk;omega)).symm
     rw [he]
     clear he
     refine oF 23 26 true [24,25,26] ?_
     iterate 2 refine T ?_
     refine rE [2] hk ?_
     clear hk
     intro a4 hk
     refine wp_ret ?_
     refine rt1 hk (hR_ _ _ ?_)
     refine ⟨?_,(hS3.old (by simp))⟩
     congr 2
     first | (rw [decide_eq_decide];unfold portOk;omega) | exact (decide_eq_false (by unfold portOk;omega)).symm | exact (decide_eq_true (by unfold portOk;omega)).symm
    rw [he]
    clear he
    refine oF 18 21 true [19,20,21] ?_
    iterate 2 refine T ?_
    refine oF 23 26 true [24,25,26] ?_
    iterate 2 refine T ?_
    refine rE [2] hk ?_
    clear hk
    intro a4 hk
    refine wp_ret ?_
    refine rt1 hk (hR_ _ _ ?_)
    refine ⟨?_,(hS3.old (by simp))⟩
    congr 2
    first | (rw [decide_eq_decide];unfold portOk;omega) | exact (decide_eq_false (by unfold portOk;omega)).symm | exact (decide_eq_true (by unfold portOk;omega)).symm
   rw [he]
   clear he
   refine oF 13 16 true [14,15,16] ?_
   iterate 2 refine T ?_
   refine oF 18 21 true [19,20,21] ?_
   iterate 2 refine T ?_
   refine oF 23 26 true [24,25,26] ?_
   iterate 2 refine T ?_
   refine rE [2] hk ?_
   clear hk
   intro a4 hk
   refine wp_ret ?_
   refine rt1 hk (hR_ _ _ ?_)
   refine ⟨?_,(hS3.old (by simp))⟩
   congr 2
   first | (rw [decide_eq_decide];unfold portOk;omega) | exact (decide_eq_false (by unfold portOk;omega)).symm | exact (decide_eq_true (by unfold portOk;omega)).symm
  rw [he]
  clear he
  refine oF 8 11 true [9,10,11] ?_
  iterate 2 refine T ?_
  refine oF 13 16 true [14,15,16] ?_
  iterate 2 refine T ?_
  refine oF 18 21 true [19,20,21] ?_
  iterate 2 refine T ?_
  refine oF 23 26 true [24,25,26] ?_
  iterate 2 refine T ?_
  refine rE [2] hk ?_
  clear hk
  intro a4 hk
  refine wp_ret ?_
  refine rt1 hk (hR_ _ _ ?_)
  refine ⟨?_,(hS3.old (by simp))⟩
  congr 2
  first | (rw [decide_eq_decide];unfold portOk;omega) | exact (decide_eq_false (by unfold portOk;omega)).symm | exact (decide_eq_true (by unfold portOk;omega)).symm
 rw [he]
 clear he
 refine oF 3 6 true [4,5,6] ?_
 iterate 2 refine T ?_
 refine oF 8 11 true [9,10,11] ?_
 iterate 2 refine T ?_
 refine oF 13 16 true [14,15,16] ?_
 iterate 2 refine T ?_
 refine oF 18 21 true [19,20,21] ?_
 iterate 2 refine T ?_
 refine oF 23 26 true [24,25,26] ?_
 iterate 2 refine T ?_
 refine rE [2] hk ?_
 clear hk
 intro a4 hk
 refine wp_ret ?_
 refine rt1 hk (hR_ _ _ ?_)
 refine ⟨?_,(hS3.old (by simp))⟩
 congr 2
 first | (rw [decide_eq_decide];unfold portOk;omega) | exact (decide_eq_false (by unfold portOk;omega)).symm | exact (decide_eq_true (by unfold portOk;omega)).symm
end Old
namespace Old
structure PoS where
  lan:Int
  prio:Int
  cost:Int
  i:IfV
  p:PeS
structure FrV where
  lan:Int
  frm:Int
  dst:Int
  bs:List Int
structure SlP where
  A:Option Addr
  c:Nat
def frC (x:FrV × SlP):List Value:=[.int .i64 x.1.lan,.int .i64 x.1.frm,.int .i64 x.1.dst,.slice x.2.A x.1.bs.length x.2.c]
def outA (v:SlP) (l:List FrV):Atom:=exA fun q:List (FrV × SlP)=>pureA (q.map (·.1) = l)
  (sepA (rowA (.slice v.A l.length v.c) 58 4 l.length (rowC frC q)::q.map (fun x=>rowA (.slice x.2.A x.1.bs.length x.2.c) 5 1 x.1.bs.length (u8s x.1.bs))))
structure DdV where
  init:Bool
  more:Bool
  master:Bool
  seq:Int
  heads:List HD
structure ExS where
  self:Int
  other:Int
  seq:Int
  agreed:Bool
  leads:Bool
  done:Bool
  last:Bool × Bool × Bool × Int
  said:DdV
  s:Option (List HD × Int)
structure TaS where
  x:ExS
  w:List (KeyV × HD)
  asked:List KeyV
def headE (h:HD):Value:=.agg (headC h).toArray
def rowP (T size:Nat) {α:Type} (cells:α → List Value) (v:SlP) (l:List α):Atom:=rowA (.slice v.A l.length v.c) T size l.length (rowC cells l)
def summA:Option Nat → Option (List HD × Int) → Atom
  | some g,some (l,k)=>exA fun v:SlP=>sepA [blkA g 407 #[.slice v.A l.length v.c,.int .i64 k],rowP 63 7 headC v l]
  | none,none=>sepA []
  | _,_=>pureA False (sepA [])
def ptO:Option Nat → Value
  | none=>.pointer none
  | some a=>.pointer (some ⟨a,0,none⟩)
def exchA (g:Nat) (x:ExS):Atom:=exA fun v:SlP=>exA fun sp:Option Nat=>sepA [blkA g 292 #[.int .i64 x.self,.int .i64 x.other,.int .i64 x.seq,.bool x.agreed,.bool x.leads,.bool x.done,.bool x.last.1,.bool x.last.2.1,.bool x.last.2.2.1,.int .i64 x.last.2.2.2,
  .bool x.said.init,.bool x.said.more,.bool x.said.master,.int .i64 x.said.seq,.slice v.A x.said.heads.length v.c,ptO sp],rowP 63 7 headC v x.said.heads,summA sp x.s]
def wantsA (g:Nat) (l:List (KeyV × HD)):Atom:=exA fun m=>sepA [blkA g 271 #[.map (some m)],mapA keyE headE m l]
def talkA (a:Nat) (t:TaS):Atom:=exA fun xg=>exA fun wg=>exA fun v:SlP=>sepA [blkA a 183 #[.pointer (some ⟨xg,0,none⟩),.pointer (some ⟨wg,0,none⟩),.slice v.A t.asked.length v.c],exchA xg t.x,wantsA wg t.w,rowP 111 3 KeyV.cells v t.asked]
def whoE (x:Int × Int):Value:=.agg #[.int .i64 x.1,.int .i64 x.2]
def addrE (a:Nat):Value:=.pointer (some ⟨a,0,none⟩)
def talksA (m:Nat) (l:List ((Int × Int) × TaS)):Atom:=exA fun q:List ((Int × Int) × Nat × TaS)=>pureA (q.map (fun x=>(x.1,x.2.2)) = l) (sepA (mapA whoE (fun x:Nat × TaS=>addrE x.1) m q::q.map (fun x=>talkA x.2.1 x.2.2)))
def toldE (x:Int × Int):Value:=.agg #[.int .i64 x.1,.int .i64 x.2]
def portA (a:Nat) (x:PoS):Atom:=exA fun pg=>sepA [blkA a 85 #[.int .i64 x.lan,.int .i64 x.prio,.int .i64 x.cost,.int .i64 x.i.self,.int .i64 x.i.prio,.int .i64 x.i.state,.int .i64 x.i.dr,.int .i64 x.i.bdr,.pointer (some ⟨pg,0,none⟩)],peersA pg x.p]
def portO:Option (Nat × PoS) → Atom
  | none=>sepA []
  | some (a,x)=>portA a x
structure RoS where
  id:Int
  now:Int
  number:Int
  ports:List (Option PoS)
  talks:List ((Int × Int) × TaS)
  mine:List (KeyV × Int × Int)
  db:DbS
  w:List (TmV × Int)
  lists:List (EnV × Int)
  later:List (Int × List HD)
  out:List FrV
structure RoP where
  g:Nat
  pts:List (Option Nat)
  tm:Nat
  mm:Nat
  dg:Nat
  wg:Nat
  lg:Nat
  ag:Nat
def roCells (p:RoP) (s:RoS) (v:SlP):Array Value:=(Value.int .i64 s.id::.int .i64 s.now::.int .i64 s.number::p.pts.map ptO ++ [Value.map (some p.tm),.map (some p.mm),.pointer (some ⟨p.dg,0,none⟩),.pointer (some ⟨p.wg,0,none⟩),.pointer (some ⟨p.lg,0,none⟩),.pointer (some ⟨p.ag,0,none⟩),.slice v.A s.out.length v.c]).toArray
def zipO:List (Option Nat) → List (Option PoS) → List (Option (Nat × PoS))
  | some a::l,some x::m=>some (a,x)::zipO l m
  | _::l,_::m=>none::zipO l m
  | _,_=>[]
def Fits (p:RoP) (s:RoS):Prop:=p.pts.length = 4∧s.ports.length = 4∧p.pts.map Option.isSome = s.ports.map Option.isSome
def portsA (p:RoP) (s:RoS):Atom:=sepA ((zipO p.pts s.ports).map portO)
def roA (p:RoP) (s:RoS):Atom:=exA fun v:SlP=>pureA (Fits p s) (sepA [blkA p.g 102 (roCells p s v),portsA p s,talksA p.tm s.talks,mapA keyE toldE p.mm s.mine,dbA p.dg s.db,wheelA p.wg s.w,rxmtA p.lg s.lists,acksA p.ag s.later,outA v s.out])
section
variable {κ:Kap} {L I:List Atom} {w:World} {p:RoP} {s:RoS}
theorem ro_open (h:S κ (roA p s::L) I w):∃ v,Fits p s∧S κ (blkA p.g 102 (roCells p s v)::portsA p s::talksA p.tm s.talks::mapA keyE toldE p.mm s.mine::dbA p.dg s.db::wheelA p.wg s.w::rxmtA p.lg s.lists::acksA p.ag s.later::outA v s.out::L) I w:=by
  obtain ⟨v,h⟩:=h.ex_open
  obtain ⟨h1,h2⟩:=h.pure_open
  exact ⟨v,h1,h2.sep_open⟩
theorem ro_close {v:SlP} (hf:Fits p s) (h:S κ (blkA p.g 102 (roCells p s v)::portsA p s::talksA p.tm s.talks::mapA keyE toldE p.mm s.mine::dbA p.dg s.db::wheelA p.wg s.w::rxmtA p.lg s.lists::acksA p.ag s.later::outA v s.out::L) I w):S κ (roA p s::L) I w:=by
  unfold roA
  refine S.ex_close v ?_
  refine S.pure_close hf ?_
  exact S.sep_close (l:=[_,_,_,_,_,_,_,_,_]) h
theorem port_open {a:Nat} {x:PoS} (h:S κ (portA a x::L) I w):∃ pg,S κ (blkA a 85 #[.int .i64 x.lan,.int .i64 x.prio,.int .i64 x.cost,.int .i64 x.i.self,.int .i64 x.i.prio,.int .i64 x.i.state,.int .i64 x.i.dr,.int .i64 x.i.bdr,.pointer (some ⟨pg,0,none⟩)]::peersA pg x.p::L) I w:=by
  obtain ⟨pg,h⟩:=h.ex_open
  exact ⟨pg,h.sep_open⟩
theorem port_close {a pg:Nat} {x:PoS} (h:S κ (blkA a 85 #[.int .i64 x.lan,.int .i64 x.prio,.int .i64 x.cost,.int .i64 x.i.self,.int .i64 x.i.prio,.int .i64 x.i.state,.int .i64 x.i.dr,.int .i64 x.i.bdr,.pointer (some ⟨pg,0,none⟩)]::peersA pg x.p::L) I w):S κ (portA a x::L) I w:=by
  unfold portA
  refine S.ex_close pg ?_
  exact S.sep_close (l:=[_,_]) h
theorem out_nil (h:S κ L I w):S κ (outA ⟨none,0⟩ []::L) I w:=by
  unfold outA
  refine S.ex_close [] ?_
  refine S.pure_close rfl ?_
  refine S.sep_close (l:=[_]) ?_
  exact h.nilrow _ _
theorem talks_nil {m:Nat} (h:S κ (mapA whoE (fun x:Nat × TaS=>addrE x.1) m ([]:List ((Int × Int) × Nat × TaS))::L) I w):S κ (talksA m []::L) I w:=by
  unfold talksA
  refine S.ex_close [] ?_
  refine S.pure_close rfl ?_
  exact S.sep_close (l:=[_]) h
theorem zipO_at {l:List (Option Nat)} {m:List (Option PoS)} {k a:Nat} {x:PoS} (h1:l[k]? = some (some a)) (h2:m[k]? = some (some x)):(zipO l m)[k]? = some (some (a,x)):=by
  induction l generalizing m k with
  | nil=>simp at h1
  | cons b l ih=>
    cases m with
    | nil=>simp at h2
    | cons y m=>
      cases k with
      | zero=>
        simp only [List.getElem?_cons_zero,Option.some.injEq] at h1 h2
        subst h1;subst h2;rfl
      | succ k=>
        have:=ih (m:=m) (k:=k) (by simpa using h1) (by simpa using h2)
        cases b <;> cases y <;> simpa [zipO] using this
theorem zipO_set {l:List (Option Nat)} {m:List (Option PoS)} {k a:Nat} {x y:PoS} (h1:l[k]? = some (some a)) (h2:m[k]? = some (some x)):(zipO l m).set k (some (a,y)) = zipO l (m.set k (some y)):=by
  induction l generalizing m k with
  | nil=>simp at h1
  | cons b l ih=>
    cases m with
    | nil=>simp at h2
    | cons z m=>
      cases k with
      | zero=>
        simp only [List.getElem?_cons_zero,Option.some.injEq] at h1 h2
        subst h1;subst h2;rfl
      | succ k=>
        have:=ih (m:=m) (k:=k) (by simpa using h1) (by simpa using h2)
        cases b <;> cases z <;> simpa [zipO] using this
theorem ports_at {k a:Nat} {x:PoS} (h1:p.pts[k]? = some (some a)) (h2:s.ports[k]? = some (some x)) (h:S κ (portsA p s::L) I w):S κ (portA a x::sepA (((zipO p.pts s.ports).map portO).eraseIdx k)::L) I w:=
  S.sep_at h (by rw [List.getElem?_map,zipO_at h1 h2];rfl)
theorem ports_put {k a:Nat} {x y:PoS} (h1:p.pts[k]? = some (some a)) (h2:s.ports[k]? = some (some x)) (h:S κ (portA a y::sepA (((zipO p.pts s.ports).map portO).eraseIdx k)::L) I w):S κ (portsA p { s with ports:=s.ports.set k (some y) }::L) I w:=by
  have h3:=S.sep_put (c:=portA a y) h (show ((zipO p.pts s.ports).map portO)[k]? = some (portA a x) by rw [List.getElem?_map,zipO_at h1 h2];rfl)
  have e:((zipO p.pts s.ports).map portO).set k (portA a y) = (zipO p.pts (s.ports.set k (some y))).map portO:=by
    rw [← zipO_set h1 h2,List.map_set];rfl
  rw [e] at h3
  exact h3
end
end Old
end Go.Proofs.YtehpdklphhmbgaaGreatDoor
