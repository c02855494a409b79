/-
  Part 6 of what lies behind the statement: the model of the program in words of its own, and its walks. No conditions of its own.
-/
import Derived.Test.YtehpdklphhmbgaaGreatDoorPk5
namespace Go.Proofs.YtehpdklphhmbgaaGreatDoor
open Go.RowKit
set_option linter.unusedVariables false
set_option linter.unusedSimpArgs false
namespace Old
theorem four {α:Type} {l:List α} (h:l.length = 4):∃ a b c d,l = [a,b,c,d]:=by
  match l,h with
  | [a,b,c,d],_=>exact ⟨a,b,c,d,rfl⟩
def tmr (kind lan id:Int):TmV:=⟨kind,lan,id,⟨0,0,0⟩⟩
def upF (k:Nat) (x:PoS) (s:RoS):RoS:=
  let i:=stepF x.i 0 []
  let w:=armF (s.now + 1) [tmr 1 x.lan 0] s.w
  { s with ports:=s.ports.set k (some { x with i:=i }),w:=if i.state = 1 then armF (s.now + 8) [tmr 2 x.lan 0] w else w }
theorem some_set {α:Type} {l:List (Option α)} {k:Nat} {x y:α} (h:l[k]? = some (some x)):(l.set k (some y)).map Option.isSome = l.map Option.isSome:=by
  rw [List.map_set]
  have h1:(l.map Option.isSome)[k]? = some true:=by rw [List.getElem?_map,h];rfl
  apply List.ext_getElem?
  intro j
  rw [List.getElem?_set]
  split
  · rename_i e;subst e
    split
    · rw [h1];rfl
    · rename_i hn;rw [List.getElem?_eq_none (by omega)] at h1;cases h1
  · rfl
set_option maxRecDepth 100000 in
set_option maxHeartbeats 8000000 in
theorem up_any {κ:Kap} {L I:List Atom} (p:RoP) (s:RoS) (k ap:Nat) (x:PoS) (W:World) (hpk:p.pts[k]? = some (some ap)) (hx:s.ports[k]? = some (some x)) (hnow:0 ≤ s.now∧s.now ≤ 1000000000000) (hS:S κ (roA p s::L) (I) W):
    Calls Tryz.prog 29 #[pt p.g 0,pt ap 0] W (fun r w'=>r = .returned (.tuple #[])∧S κ (roA p (upF k x s)::L) I w'):=by
 obtain ⟨v,hF,hS⟩:=ro_open hS
 obtain ⟨hp4,hs4,hsame⟩:=id hF
 obtain ⟨p0,p1,p2,p3,hpts⟩:=four hp4
 have hro:roCells p s v = #[i6 s.id,i6 s.now,i6 s.number,ptO p0,ptO p1,ptO p2,ptO p3,.map (some p.tm),.map (some p.mm),pt p.dg 0,pt p.wg 0,pt p.lg 0,pt p.ag 0,.slice v.A s.out.length v.c]:=by unfold roCells;rw [hpts];rfl
 rw [hro] at hS
 replace hS:=ports_at hpk hx (hS.front (i:=1) rfl)
 obtain ⟨pg,hS⟩:=port_open hS
 refine wK 55 Tryz.func29 (fun R_ hR_ a hk=>?_)
 refine wp_seq ?_
 refine rgL [5,11] hk ?_
 iterate 4 refine T ?_
 refine LDS 0 5 hk hS ?_
 refine eCb hk hS (h:=step_any x.i 0 none 0 0 [] _ (by omega) Reads.none_) (k:=fun w3 hS3 _=>?_)
 clear hS
 iterate 5 refine T ?_
 refine eS 0 hk hS3 (fun w4 hS4 _=>?_)
 clear hS3
 refine rE [0,1] hk ?_
 clear hk
 intro a2 hk
 refine wp_seq ?_
 refine rgR [[],[0],[0,1],[0,1,2],[],[4],[4,5],[4,5,6],[4,5,6,7],[],[9],[9,10],[9,10,11],[9,10,11,12],[9,10,11,12,13],[9,10,11,12,13,14],[0,1,2,3,4,5,6,7,8,9,10,11,12,13,14,15]] [15,16] (.rd 0 (.rd 1 (.rd 2 (.rd 3 (.rd 4 (.rd 5 (.rd 6 (.rd 7 (.rd 8 (.rd 9 (.rd 10 (.rd 11 (.rd 12 (.rd 13 (.rd 14 (.ef 15 (.ag 0 (.ag 1 (.ag 2 (.ag 3 (.ag 4 (.ag 5 (.ag 6 (.ag 7 (.ag 8 (.ef 16 (.fin) .non)))))))))) .non)))))))))))))))) hk hS4 (fun w5 hS5 _=>?_)
 clear hS4
 iterate 3 refine T ?_
 refine LD 3 hk hS5 ?_
 iterate 3 refine T ?_
 refine LD 3 hk hS5 ?_
 refine rD (i6 (s.now + 1)) (fun _ h_=>rk (run_addI rfl (h_.x hk) rfl (by omega) rfl)) ?_
 iterate 4 refine T ?_
 refine LD 0 hk hS5 ?_
 refine rD (.agg #[i6 1,i6 x.lan,i6 0,i6 0,i6 0,i6 0]) (fun _ h_=>rk (run_build rfl (h_.prt hk) (by kernel_rfl))) ?_
 refine eF (fun a_ h_=>st_lit (e:=121) (cells:=#[i6 1,i6 x.lan,i6 0,i6 0,i6 0,i6 0]) hS5 (on_none rfl) rfl (h_.prtL hk) fun g6 w6 hS6 hb6=>⟨_,rfl,?_⟩)
 clear h_ a_ hS5
 clear hb6
 have hSr:S κ (rowA (.slice (some ⟨g6,0,none⟩) 1 1) 121 6 1 (rowC TmV.cells [tmr 1 x.lan 0])::blkA ap 85 #[i6 x.lan,i6 x.prio,i6 x.cost,i6 ((stepF x.i 0 []).self),i6 ((stepF x.i 0 []).prio),i6 ((stepF x.i 0 []).state),i6 ((stepF x.i 0 []).dr),i6 ((stepF x.i 0 []).bdr),pt pg 0]::peersA pg x.p::(sepA (((zipO p.pts s.ports).map portO).eraseIdx k))::blkA p.g 102 #[i6 s.id,i6 s.now,i6 s.number,ptO p0,ptO p1,ptO p2,ptO p3,.map (some p.tm),.map (some p.mm),pt p.dg 0,pt p.wg 0,pt p.lg 0,pt p.ag 0,.slice v.A s.out.length v.c]::(talksA p.tm s.talks)::mapA keyE toldE p.mm s.mine::(dbA p.dg s.db)::(wheelA p.wg s.w)::(rxmtA p.lg s.lists)::(acksA p.ag s.later)::(outA v s.out)::L) (I) w6:=hS6.litRow rfl (by decide)
 clear hS6
 have hS6:=hSr
 clear hSr
 iterate 3 refine TA ?_
 refine aG (fun _ h_=>rk (ld hS6 4 rfl (h_.x hk))) ?_
 iterate 3 refine TA ?_
 refine aG (fun _ h_=>rk (ld hS6 4 rfl (h_.x hk))) ?_
 refine aG (fun _ h_=>rk (run_addI rfl (h_.x hk) rfl (by omega) rfl)) ?_
 have hSp:=hS6
 clear hS6
 replace hSp:=hSp.freeze
 replace hSp:=hSp.fr 7
 refine eC hk (h:=arm_any p.wg 1 _ _ _ [tmr 1 x.lan 0] _ _ (by omega) hSp) (k:=?_)
 rintro e_ w7 ⟨rfl,hS7⟩
 refine ⟨_,rfl,?_⟩
 clear hSp
 replace hS7:=hS7.dropI
 replace hS7:=hS7.nz 11
 refine rE [0,1] hk ?_
 clear hk
 intro a5 hk
 refine wp_seq ?_
 refine rgL [] hk ?_
 iterate 4 refine T ?_
 refine LD 1 hk hS7 ?_
 refine T ?_
 refine rE [0,1,37] hk ?_
 clear hk
 intro a8 hk
 refine cD hk (fun hc37=>?_) (fun hc37=>?_)
 ·refine rgR [[],[0],[0,1],[0,1,2],[],[4],[4,5],[4,5,6],[4,5,6,7],[],[9],[9,10],[9,10,11],[9,10,11,12],[9,10,11,12,13],[9,10,11,12,13,14],[0,1,2,3,4,5,6,7,8,9,10,11,12,13,14,15]] [15,16] (.rd 0 (.rd 1 (.rd 2 (.rd 3 (.rd 4 (.rd 5 (.rd 6 (.rd 7 (.rd 8 (.rd 9 (.rd 10 (.rd 11 (.rd 12 (.rd 13 (.rd 14 (.ef 15 (.ag 0 (.ag 1 (.ag 2 (.ag 3 (.ag 4 (.ag 5 (.ag 6 (.ag 7 (.ag 8 (.ef 16 (.fin) .non)))))))))) .non)))))))))))))))) hk hS7 (fun w9 hS9 _=>?_)
  clear hS7
  iterate 3 refine T ?_
  refine LD 4 hk hS9 ?_
  iterate 3 refine T ?_
  refine LD 4 hk hS9 ?_
  refine rD (i6 (s.now + 8)) (fun _ h_=>rk (run_addI rfl (h_.x hk) rfl (by omega) rfl)) ?_
  iterate 4 refine T ?_
  refine LD 1 hk hS9 ?_
  refine rD (.agg #[i6 2,i6 x.lan,i6 0,i6 0,i6 0,i6 0]) (fun _ h_=>rk (run_build rfl (h_.prt hk) (by kernel_rfl))) ?_
  refine eF (fun a_ h_=>st_lit (e:=121) (cells:=#[i6 2,i6 x.lan,i6 0,i6 0,i6 0,i6 0]) hS9 (on_none rfl) rfl (h_.prtL hk) fun g10 w10 hS10 hb10=>⟨_,rfl,?_⟩)
  clear h_ a_ hS9
  clear hb10
  have hSr:S κ (rowA (.slice (some ⟨g10,0,none⟩) 1 1) 121 6 1 (rowC TmV.cells [tmr 2 x.lan 0])::(wheelA p.wg (armF (s.now + 1) [tmr 1 x.lan 0] s.w))::blkA ap 85 #[i6 x.lan,i6 x.prio,i6 x.cost,i6 ((stepF x.i 0 []).self),i6 ((stepF x.i 0 []).prio),i6 ((stepF x.i 0 []).state),i6 ((stepF x.i 0 []).dr),i6 ((stepF x.i 0 []).bdr),pt pg 0]::peersA pg x.p::(sepA (((zipO p.pts s.ports).map portO).eraseIdx k))::blkA p.g 102 #[i6 s.id,i6 s.now,i6 s.number,ptO p0,ptO p1,ptO p2,ptO p3,.map (some p.tm),.map (some p.mm),pt p.dg 0,pt p.wg 0,pt p.lg 0,pt p.ag 0,.slice v.A s.out.length v.c]::(talksA p.tm s.talks)::mapA keyE toldE p.mm s.mine::(dbA p.dg s.db)::(rxmtA p.lg s.lists)::(acksA p.ag s.later)::(outA v s.out)::L) (I) w10:=hS10.litRow rfl (by decide)
  clear hS10
  have hS10:=hSr
  clear hSr
  iterate 3 refine TA ?_
  refine aG (fun _ h_=>rk (ld hS10 5 rfl (h_.x hk))) ?_
  iterate 3 refine TA ?_
  refine aG (fun _ h_=>rk (ld hS10 5 rfl (h_.x hk))) ?_
  refine aG (fun _ h_=>rk (run_addI rfl (h_.x hk) rfl (by omega) rfl)) ?_
  have hSp:=hS10
  clear hS10
  replace hSp:=hSp.freeze
  refine eC hk (h:=arm_any p.wg 1 _ _ _ [tmr 2 x.lan 0] _ _ (by omega) hSp) (k:=?_)
  rintro e_ w11 ⟨rfl,hS11⟩
  refine ⟨_,rfl,?_⟩
  clear hSp
  replace hS11:=hS11.dropI
  replace hS11:=hS11.nz 11
  refine rE [] hk ?_
  clear hk
  intro a9 hk
  show bodyPost _ _ _ .ret _ _
  refine rt0 hk (hR_ _ _ ?_)
  replace hS11:=hS11.fr 10
  replace hS11:=hS11.fr 10
  replace hS11:=hS11.fr 10
  replace hS11:=hS11.fr 3
  replace hS11:=hS11.fr 10
  replace hS11:=hS11.fr 10
  replace hS11:=hS11.fr 10
  replace hS11:=hS11.fr 10
  replace hS11:=hS11.fr 10
  replace hS11:=hS11.fr 10
  replace hS11:=hS11.fr 10
  have hc1:=ports_put hpk hx (port_close (x:={ x with i:=(stepF x.i 0 []) }) hS11)
  replace hc1:=hc1.fr 1
  have hF2:Fits p (upF k x s):=⟨hp4,by simp only [upF,List.length_set];exact hs4,by simp only [upF];rw [hsame];exact (some_set hx).symm⟩
  have e:(upF k x s).w = (armF (s.now + 8) [tmr 2 x.lan 0] (armF (s.now + 1) [tmr 1 x.lan 0] s.w)):=by simp only [upF];rw [if_pos hc37]
  rw [← e] at hc1
  have e3:roCells p (upF k x s) v = #[i6 s.id,i6 s.now,i6 s.number,ptO p0,ptO p1,ptO p2,ptO p3,.map (some p.tm),.map (some p.mm),pt p.dg 0,pt p.wg 0,pt p.lg 0,pt p.ag 0,.slice v.A s.out.length v.c]:=hro
  exact ⟨rfl,ro_close (v:=v) hF2 (by rw [e3];exact hc1)⟩
 refine wp_skip ?_
 show bodyPost _ _ _ .ret _ _
 refine rt0 hk (hR_ _ _ ?_)
 replace hS7:=hS7.fr 10
 replace hS7:=hS7.fr 10
 replace hS7:=hS7.fr 10
 replace hS7:=hS7.fr 3
 replace hS7:=hS7.fr 10
 replace hS7:=hS7.fr 10
 replace hS7:=hS7.fr 10
 replace hS7:=hS7.fr 10
 replace hS7:=hS7.fr 10
 replace hS7:=hS7.fr 10
 replace hS7:=hS7.fr 10
 have hc1:=ports_put hpk hx (port_close (x:={ x with i:=(stepF x.i 0 []) }) hS7)
 replace hc1:=hc1.fr 1
 have hF2:Fits p (upF k x s):=⟨hp4,by simp only [upF,List.length_set];exact hs4,by simp only [upF];rw [hsame];exact (some_set hx).symm⟩
 have e:(upF k x s).w = (armF (s.now + 1) [tmr 1 x.lan 0] s.w):=by simp only [upF];rw [if_neg hc37]
 rw [← e] at hc1
 have e3:roCells p (upF k x s) v = #[i6 s.id,i6 s.now,i6 s.number,ptO p0,ptO p1,ptO p2,ptO p3,.map (some p.tm),.map (some p.mm),pt p.dg 0,pt p.wg 0,pt p.lg 0,pt p.ag 0,.slice v.A s.out.length v.c]:=hro
 exact ⟨rfl,ro_close (v:=v) hF2 (by rw [e3];exact hc1)⟩
end Old
namespace Old
structure PtV where
  lan:Int
  prio:Int
  cost:Int
def PtV.cells (x:PtV):List Value:=[.int .i64 x.lan,.int .i64 x.prio,.int .i64 x.cost]
theorem PtV.cells_len (x:PtV):x.cells.length = 3:=rfl
theorem pts_len {w:World} {B n:Nat} {A:Option Addr} {l:List PtV} (h:Reads w B 3 A n (rowC PtV.cells l)):l.length = n:=by have:=h.1;rw [rowC_length PtV.cells 3 PtV.cells_len] at this;omega
def numF (boot:Int):Int:=IntKind.i64.wrap (boot * 65536)
def peers0 (self lan:Int):PeS:=⟨self,lan,List.replicate 16 none⟩
def port0 (id:Int) (x:PtV):PoS:=⟨x.lan,x.prio,x.cost,⟨id,x.prio,0,0,0⟩,peers0 id x.lan⟩
def ro0 (id boot room:Int):RoS:=⟨id,0,numF boot,[none,none,none,none],[],[],⟨roomF room,[]⟩,[],[],[],[]⟩
def addOk (s:RoS) (x:PtV):Prop:=portOk x.lan x.prio x.cost∧s.ports[x.lan.toNat]? = some none
instance (s:RoS) (x:PtV):Decidable (s.ports[x.lan.toNat]? = some none):=by
  cases h:s.ports[x.lan.toNat]? with
  | none=>exact isFalse (by simp)
  | some o=>cases o with
    | none=>exact isTrue rfl
    | some y=>exact isFalse (by simp)
instance (s:RoS) (x:PtV):Decidable (addOk s x):=by unfold addOk;infer_instance
def addP (id:Int) (s:RoS) (x:PtV):RoS:={ s with ports:=s.ports.set x.lan.toNat (some (port0 id x)) }
def addsF (id:Int):List PtV → RoS → Option RoS
  | [],s=>some s
  | x::l,s=>if addOk s x then addsF id l (addP id s x) else none
theorem addsF_snoc (id:Int) (x:PtV):∀ (l:List PtV) (s:RoS),addsF id (l ++ [x]) s = (addsF id l s).bind fun t=>if addOk t x then some (addP id t x) else none
  | [],s=>by simp [addsF]
  | y::l,s=>by
    simp only [List.cons_append,addsF]
    split
    · exact addsF_snoc id x l _
    · rfl
theorem addsF_none (id:Int):∀ (l m:List PtV) (s:RoS),addsF id l s = none → addsF id (l ++ m) s = none
  | [],m,s,h=>by cases h
  | y::l,m,s,h=>by
    simp only [List.cons_append,addsF] at h ⊢
    split
    · rename_i hc;rw [if_pos hc] at h;exact addsF_none id l m _ h
    · rfl
theorem adds_next {id:Int} {l:List PtV} {k:Nat} {x:PtV} {s t:RoS} (h:addsF id (l.take k) s = some t) (hx:l[k]? = some x) (ho:addOk t x):addsF id (l.take (k + 1)) s = some (addP id t x):=by
  rw [take_snoc l k x hx,addsF_snoc,h];simp [ho]
theorem adds_bad {id:Int} {l:List PtV} {k:Nat} {x:PtV} {s t:RoS} (h:addsF id (l.take k) s = some t) (hx:l[k]? = some x) (ho:¬ addOk t x):addsF id l s = none:=by
  have h1:addsF id (l.take (k + 1)) s = none:=by rw [take_snoc l k x hx,addsF_snoc,h];simp [ho]
  have:=addsF_none id (l.take (k + 1)) (l.drop (k + 1)) s h1
  rwa [List.take_append_drop] at this
def upsF:Nat → RoS → RoS
  | 0,s=>s
  | k + 1,s=>match (upsF k s).ports[k]? with
    | some (some x)=>upF k x (upsF k s)
    | _=>upsF k s
def newF (id boot room:Int) (l:List PtV):Option RoS:=if id < 1 ∨ 15 < id then none else (addsF id l (ro0 id boot room)).map (upsF 4)
theorem adds_inv {id:Int}:∀ {l:List PtV} {s t:RoS},addsF id l s = some t → t.now = s.now∧t.ports.length = s.ports.length
  | [],s,t,h=>by cases h;exact ⟨rfl,rfl⟩
  | x::l,s,t,h=>by
    unfold addsF at h
    split at h
    · obtain ⟨h1,h2⟩:=adds_inv h
      exact ⟨h1,by rw [h2];simp [addP]⟩
    · cases h
theorem ups_inv:∀ (k:Nat) (s:RoS),(upsF k s).now = s.now∧(upsF k s).ports.length = s.ports.length
  | 0,s=>⟨rfl,rfl⟩
  | k + 1,s=>by
    have ih:=ups_inv k s
    unfold upsF
    split
    · exact ⟨ih.1,by simp only [upF,List.length_set];exact ih.2⟩
    · exact ih
theorem ups_some {k:Nat} {s:RoS} {x:PoS} (h:(upsF k s).ports[k]? = some (some x)):upsF (k + 1) s = upF k x (upsF k s):=by
  simp only [upsF,h]
theorem ups_none {k:Nat} {s:RoS} (h:∀ x,(upsF k s).ports[k]? ≠ some (some x)):upsF (k + 1) s = upsF k s:=by
  simp only [upsF]
theorem fits_some {p:RoP} {s:RoS} (h:Fits p s) {k a:Nat} (ha:p.pts[k]? = some (some a)):∃ x,s.ports[k]? = some (some x):=by
  have h1:(p.pts.map Option.isSome)[k]? = some true:=by rw [List.getElem?_map,ha];rfl
  rw [h.2.2,List.getElem?_map] at h1
  cases hs:s.ports[k]? with
  | none=>rw [hs] at h1;cases h1
  | some o=>cases o with
    | none=>rw [hs] at h1;cases h1
    | some x=>exact ⟨x,rfl⟩
theorem fits_none {p:RoP} {s:RoS} (h:Fits p s) {k:Nat} (ha:p.pts[k]? = some none):s.ports[k]? = some none:=by
  have h1:(p.pts.map Option.isSome)[k]? = some false:=by rw [List.getElem?_map,ha];rfl
  rw [h.2.2,List.getElem?_map] at h1
  cases hs:s.ports[k]? with
  | none=>rw [hs] at h1;cases h1
  | some o=>cases o with
    | none=>rfl
    | some x=>rw [hs] at h1;cases h1
theorem ro_pt {p:RoP} {s:RoS} {v:SlP} {k:Nat} {o:Option Nat} (h:p.pts[k]? = some o) (h4:p.pts.length = 4):(roCells p s v)[3 + k]? = some (ptO o):=by
  have hpk:k < p.pts.length:=(List.getElem?_eq_some_iff.1 h).1
  unfold roCells
  rw [List.getElem?_toArray,Nat.add_comm]
  simp only [List.cons_append,List.getElem?_cons_succ]
  rw [List.getElem?_append_left (by simpa using hpk),List.getElem?_map,h];rfl
theorem ro_set {p:RoP} {s:RoS} {v:SlP} {k a:Nat} (hpk:k < p.pts.length):(roCells p s v).setIfInBounds (3 + k) (.pointer (some ⟨a,0,none⟩)) = roCells { p with pts:=p.pts.set k (some a) } s v:=by
  unfold roCells
  rw [Nat.add_comm]
  simp only [List.setIfInBounds_toArray,List.cons_append,List.set_cons_succ]
  rw [List.set_append_left _ _ (by simpa using hpk),List.map_set];rfl
theorem ro_size {p:RoP} {s:RoS} {v:SlP} (h4:p.pts.length = 4):(roCells p s v).size = 14:=by simp [roCells,h4]
theorem zipO_new {l:List (Option Nat)} {m:List (Option PoS)} {k a:Nat} {y:PoS} (h1:l[k]? = some none) (h2:m[k]? = some none):(zipO l m)[k]? = some none∧(zipO l m).set k (some (a,y)) = zipO (l.set k (some a)) (m.set k (some y)):=by
  induction l generalizing m k with
  | nil=>simp at h1
  | cons b l ih=>
    cases m with
    | nil=>simp at h2
    | cons z m=>
      cases k with
      | zero=>
        simp only [List.getElem?_cons_zero,Option.some.injEq] at h1 h2
        subst h1;subst h2;exact ⟨rfl,rfl⟩
      | succ k=>
        have:=ih (m:=m) (k:=k) (by simpa using h1) (by simpa using h2)
        cases b <;> cases z <;> simpa [zipO] using this
theorem ports_new {κ:Kap} {L I:List Atom} {w:World} {p:RoP} {s:RoS} {k a:Nat} {y:PoS} (h1:p.pts[k]? = some none) (h2:s.ports[k]? = some none) (h:S κ (portA a y::portsA p s::L) I w):S κ (portsA { p with pts:=p.pts.set k (some a) } { s with ports:=s.ports.set k (some y) }::L) I w:=by
  obtain ⟨e1,e2⟩:=zipO_new (a:=a) (y:=y) h1 h2
  have hi:((zipO p.pts s.ports).map portO)[k]? = some (portO none):=by rw [List.getElem?_map,e1];rfl
  have h3:=S.sep_at (h.perm (List.Perm.swap _ _ _)) hi
  have h4:=(h3.drop.perm (List.Perm.swap _ _ _))
  have h5:=S.sep_put (c:=portA a y) h4 hi
  have e:((zipO p.pts s.ports).map portO).set k (portA a y) = (zipO (p.pts.set k (some a)) (s.ports.set k (some y))).map portO:=by
    rw [← e2,List.map_set];rfl
  rw [e] at h5
  exact h5
theorem fits_add {p:RoP} {s:RoS} {k a:Nat} {y:PoS} (h:Fits p s) (hpk:k < 4):Fits { p with pts:=p.pts.set k (some a) } { s with ports:=s.ports.set k (some y) }:=by
  obtain ⟨h1,h2,h3⟩:=h
  refine ⟨by simpa using h1,by simpa using h2,?_⟩
  simp only [List.map_set,h3];rfl
theorem ro_first {κ:Kap} {L I:List Atom} {w:World} {g tm mm dg wg lg ag:Nat} {id boot room:Int}
    (h:S κ (blkA g 102 #[.int .i64 id,.int .i64 0,.int .i64 (numF boot),.pointer none,.pointer none,.pointer none,.pointer none,.map (some tm),.map (some mm),.pointer (some ⟨dg,0,none⟩),.pointer (some ⟨wg,0,none⟩),.pointer (some ⟨lg,0,none⟩),.pointer (some ⟨ag,0,none⟩),.slice none 0 0] ::
      acksA ag []::rxmtA lg []::wheelA wg []::dbA dg ⟨roomF room,[]⟩::mapA keyE toldE mm ([]:List (KeyV × Int × Int))::mapA whoE (fun x:Nat × TaS=>addrE x.1) tm ([]:List ((Int × Int) × Nat × TaS))::L) I w):
    S κ (roA ⟨g,[none,none,none,none],tm,mm,dg,wg,lg,ag⟩ (ro0 id boot room)::L) I w:=by
  have h1:=talks_nil (h.front (i:=6) rfl)
  have h2:S κ (portsA ⟨g,[none,none,none,none],tm,mm,dg,wg,lg,ag⟩ (ro0 id boot room)::outA ⟨none,0⟩ []::talksA tm []::_) I w:=S.sep_close (l:=[sepA [],sepA [],sepA [],sepA []]) (S.sep_close (l:=[]) (S.sep_close (l:=[]) (S.sep_close (l:=[]) (S.sep_close (l:=[]) (out_nil h1)))))
  have h3:=h2.front (i:=1) rfl
  have h4:=h3.front (i:=4) rfl
  have h5:=h4.front (i:=5) rfl
  have h6:=h5.front (i:=6) rfl
  have h7:=h6.front (i:=7) rfl
  have h8:=h7.front (i:=8) rfl
  have h9:=h8.front (i:=7) rfl
  have h10:=h9.front (i:=7) rfl
  have h11:=h10.front (i:=8) rfl
  exact ro_close (v:=⟨none,0⟩) ⟨rfl,rfl,rfl⟩ (h11)
theorem ro_arr {w:World} {p:RoP} {s:RoS} {v:SlP} {T:Nat} (h:Blk w p.g T (roCells p s v)) (h4:p.pts.length = 4):∀ j u,(p.pts.map ptO)[j]? = some u → w.cell? ⟨p.g,3 + j,none⟩ = some u:=by
  intro j u hj
  rw [List.getElem?_map] at hj
  obtain ⟨o,h1,rfl⟩:=Option.map_eq_some_iff.1 hj
  rw [h.cell];exact ro_pt h1 h4
theorem ro_fits {κ:Kap} {L I:List Atom} {w:World} {p:RoP} {s:RoS} (h:S κ (roA p s::L) I w):Fits p s:=(ro_open h).elim fun _ h=>h.1
theorem ro_skip {p:RoP} {s:RoS} {k:Nat} {o:Option Nat} (hF:Fits p (upsF k s)) (ho:p.pts[k]? = some o) (h:o.isSome = false):upsF (k + 1) s = upsF k s:=by
  cases o with
  | some a=>cases h
  | none=>exact ups_none (fun x hx=>by rw [fits_none hF ho] at hx;cases hx)
theorem add_not {p:RoP} {s:RoS} {x:PtV} {o:Option Nat} (hF:Fits p s) (ho:p.pts[x.lan.toNat]? = some o) (h:o.isSome = true):¬ addOk s x:=by
  cases o with
  | none=>cases h
  | some a=>
    obtain ⟨y,hy⟩:=fits_some hF ho
    intro hc
    rw [hc.2] at hy;cases hy
theorem add_yes {p:RoP} {s:RoS} {x:PtV} {o:Option Nat} (hF:Fits p s) (ho:p.pts[x.lan.toNat]? = some o) (h:o.isSome = false):s.ports[x.lan.toNat]? = some none:=by
  cases o with
  | some a=>cases h
  | none=>exact fits_none hF ho
theorem isNone_of {α:Type} {o:Option α} (h:o.isSome = false):o = none:=by cases o <;> simp_all
set_option maxRecDepth 100000 in
set_option maxHeartbeats 8000000 in
theorem roNew_any (id boot room:Int) (A:Option Addr) (n c:Nat) (l:List PtV) (W:World) (hn:n ≤ 100000) (hR:Reads W W.heap.size 3 A n (rowC PtV.cells l)):
    Calls Tryz.prog 25 #[i6 id,i6 boot,i6 room,.slice A n c] W (fun r w'=>(newF id boot room l = none∧r = .returned (.pointer none)∧Below W.heap.size W w') ∨ ∃ s p,newF id boot room l = some s∧r = .returned (pt p.g 0)∧S (kap W) [roA p s] [memA W W.heap.size] w'):=by
 have hS:=S.start W
 refine wK 83 Tryz.func25 (fun R_ hR_ a hk=>?_)
 refine wp_seq ?_
 refine rgL [] hk ?_
 refine T ?_
 refine rE [0,1,2,3,8] hk ?_
 clear hk
 intro a2 hk
 refine wp_seq ?_
 refine wp_seq ?_
 refine rgL [] hk ?_
 iterate 3 refine T ?_
 rcases dt ((id:Int) < 1) with ⟨he,hg2⟩ | ⟨he,hg2⟩
 ·rw [he]
  clear he
  refine oF 2 16 false [3,4] ?_
  refine T ?_
  refine rE [0,1,2,3,8,19] hk ?_
  clear hk
  intro a3 hk
  refine cT hk ?_
  refine wp_seq ?_
  refine rgL [] hk ?_
  refine T ?_
  refine rE [0,1,2,3,8] hk ?_
  clear hk
  intro a4 hk
  refine wp_ret ?_
  refine rt1 hk (hR_ _ _ ?_)
  exact .inl ⟨by unfold newF;rw [if_pos (by omega)],rfl,(hS.old (by simp))⟩
 rw [he]
 clear he
 iterate 3 refine T ?_
 refine rE [0,1,2,3,8,19] hk ?_
 clear hk
 intro a3 hk
 refine cD hk (fun hc19=>?_) (fun hc19=>?_)
 ·refine wp_seq ?_
  refine rgL [] hk ?_
  refine T ?_
  refine rE [0,1,2,3,8] hk ?_
  clear hk
  intro a5 hk
  refine wp_ret ?_
  refine rt1 hk (hR_ _ _ ?_)
  exact .inl ⟨by unfold newF;rw [if_pos (by omega)],rfl,(hS.old (by simp))⟩
 refine wp_skip ?_
 refine wp_seq ?_
 refine rgL [3,4,6,7,8,9,11] hk ?_
 iterate 2 refine T ?_
 refine rD (i6 (numF boot)) (fun _ h_=>rk (run_bin2 rfl (h_.x hk) rfl (fun _=>rfl) (fun _=>rfl))) ?_
 refine eF (fun a_ h_=>st_makeMap (α:=(Int × Int)) (β:=(Nat × TaS)) whoE (fun x:Nat × TaS=>addrE x.1) hS (on_none rfl) rfl fun g7 w7 hS7 hb7=>⟨_,rfl,?_⟩)
 clear h_ a_ hS
 clear hb7
 refine eF (fun a_ h_=>st_makeMap (α:=KeyV) (β:=(Int × Int)) keyE toldE hS7 (on_none rfl) rfl fun g8 w8 hS8 hb8=>⟨_,rfl,?_⟩)
 clear h_ a_ hS7
 clear hb8
 refine T ?_
 have hSp:=hS8
 clear hS8
 refine eC hk (h:=dbNew_any (κ:=kap W) room _ hSp) (k:=?_)
 rintro e_ w9 ⟨g9,rfl,hS9⟩
 refine ⟨_,rfl,?_⟩
 clear hSp
 replace hS9:=hS9.nz 3
 have hSp:=hS9
 clear hS9
 refine eC hk (h:=wheelNew_any (κ:=kap W) _ hSp) (k:=?_)
 rintro e_ w10 ⟨g10,rfl,hS10⟩
 refine ⟨_,rfl,?_⟩
 clear hSp
 replace hS10:=hS10.nz 4
 have hSp:=hS10
 clear hS10
 refine eC hk (h:=rxmtNew_any (κ:=kap W) _ hSp) (k:=?_)
 rintro e_ w11 ⟨g11,rfl,hS11⟩
 refine ⟨_,rfl,?_⟩
 clear hSp
 replace hS11:=hS11.nz 5
 have hSp:=hS11
 clear hS11
 refine eC hk (h:=acksNew_any (κ:=kap W) _ hSp) (k:=?_)
 rintro e_ w12 ⟨g12,rfl,hS12⟩
 refine ⟨_,rfl,?_⟩
 clear hSp
 replace hS12:=hS12.nz 6
 refine rD (.agg #[i6 id,i6 0,i6 (numF boot),.pointer none,.pointer none,.pointer none,.pointer none,.map (some g7),.map (some g8),pt g9 0,pt g10 0,pt g11 0,pt g12 0,.slice none 0 0]) (fun _ h_=>rk (run_build rfl (h_.prt hk) (by kernel_rfl))) ?_
 refine eB hk hS12 (fun g13 w13 hS13 _=>?_)
 clear hS12
 refine T ?_
 refine rE [0,3,8,9] hk ?_
 clear hk
 intro a6 hk
 replace hS13:=hS13.fr 6
 replace hS13:=hS13.fr 6
 replace hS13:=hS13.fr 6
 replace hS13:=hS13.fr 6
 replace hS13:=hS13.fr 6
 replace hS13:=hS13.fr 6
 replace hS13:=hS13.fr 6
 have hSn:=ro_first hS13
 clear hS13
 refine wp_seq ?_
 refine wp_seq ?_
 refine rgL [] hk ?_
 iterate 3 refine T ?_
 refine rE [0,8,9,32,33,34] hk ?_
 clear hk
 intro a14 hk
 refine wp_block ?_
 refine wp_loop (fun a_ w_=>∃ k:Nat,∃ p:RoP,∃ s:RoS,(k ≤ n)∧(addsF id (l.take k) (ro0 id boot room) = some s)∧Fr a_ 83 [(0,i6 id),(8,.pointer none),(9,pt p.g 0),(32,.slice A n c),(33,i6 n),(34,i6 k)]∧S (kap W) (roA p s::[]) ((memA W W.heap.size)::[]) w_) (fun a_ _=>n - (intOf (sl a_ 34)).toNat) ?_ ?_
 ·exact ⟨0,⟨g13,[none,none,none,none],g7,g8,g9,g10,g11,g12⟩,_,Nat.zero_le _,rfl,hk.to,hSn⟩
 clear hk hSn
 rintro a15 w15 ⟨k,p,s,hc0_0,hc0_1,hk,hS15⟩
 have hmu0:=hk.g (s:=34)
 refine wp_seq ?_
 refine rgL [] hk ?_
 refine T ?_
 refine rE [0,8,9,32,33,34,35] hk ?_
 clear hk
 intro a16 hk
 refine wp_seq ?_
 refine cD hk (fun hc35=>?_) (fun hc35=>?_)
 ·refine wp_skip ?_
  refine wp_seq ?_
  refine wp_block ?_
  refine wp_seq ?_
  refine rgL [2,3] hk ?_
  obtain ⟨b18,o18,z18,hA18,hb18,hz18,hq18⟩:=Reads.row_at PtV.cells 3 PtV.cells_len (k:=k) (Reads.old hR (hS15.old (by simp))) (by decide) (by omega)
  refine rD (pt b18 (o18 + k * 3)) (fun _ h_=>rk (run_indexV (size:=3) rfl (h_.x hk) hA18 (h_.x hk) (by kernel_rfl) (by omega) (by simp))) ?_
  refine rD (.agg #[i6 z18.lan,i6 z18.prio,i6 z18.cost]) (fun _ h_=>rk (run_loadV (size:=3) (cs:=PtV.cells z18) rfl (h_.x hk) (by kernel_rfl) rfl hq18)) ?_
  refine eA #[i6 0,i6 0,i6 0] hS15 (fun g19 w19 hS19 _=>?_)
  clear hS15
  refine eS 0 hk hS19 (fun w20 hS20 _=>?_)
  clear hS19
  refine rE [0,8,9,11,32,33,34,36,37] hk ?_
  clear hk
  intro a17 hk
  refine wp_seq ?_
  refine wp_seq ?_
  obtain ⟨v,hF,hSo⟩:=ro_open (hS20.front (i:=1) rfl)
  clear hS20
  have hS20:S (kap W) (blkA p.g 102 (roCells p s v)::(portsA p s)::(talksA p.tm s.talks)::mapA keyE toldE p.mm s.mine::(dbA p.dg s.db)::(wheelA p.wg s.w)::(rxmtA p.lg s.lists)::(acksA p.ag s.later)::(outA v s.out)::blkA g19 26 #[i6 z18.lan,i6 z18.prio,i6 z18.cost]::[]) ((memA W W.heap.size)::[]) w20:=hSo
  clear hSo
  refine rgR [[],[0],[0,1],[0,1,2],[0,1,2,3],[0,1,2,3],[0,1,2,3,5],[0,1,2,3,4],[0,1,2,3,4,7],[0,1,2,3,4,5,6,7,8],[0,1,2,3,4,5,6,7,8,9],[0,1,2,3,4,5,6,7,8,9,10],[0,1,2,3,4,5,6,7,8,9,10,11]] [1] (.rd 0 (.ef 1 (.rd 2 (.rd 3 (.rd 4 (.rd 5 (.rd 6 (.rd 7 (.rd 8 (.rd 9 (.rd 10 (.rd 11 (.rd 12 (.fin)))))))))))) .non)) hk hS20 (fun w21 hS21 _=>?_)
  clear hS20
  refine LDS 9 3 hk hS21 ?_
  refine eCb hk hS21 (h:=portRight_any z18.lan z18.prio z18.cost _) (k:=fun w22 hS22 _=>?_)
  clear hS21
  iterate 2 refine T ?_
  rcases nt (portOk z18.lan z18.prio z18.cost) with ⟨he,hg3⟩ | ⟨he,hg3⟩
  ·rw [he]
   clear he
   refine oF 3 41 false [4,5,6,7,8,9,10,11] ?_
   refine T ?_
   refine rE [0,8,9,11,32,33,34,36,37,38,39,40,41,50] hk ?_
   clear hk
   intro a21 hk
   refine cT hk ?_
   refine wp_seq ?_
   refine rgL [] hk ?_
   refine T ?_
   refine rE [0,8,9,11,32,33,34,36,37,38,39,40,41,50] hk ?_
   clear hk
   intro a23 hk
   refine wp_ret ?_
   refine rt1 hk (hR_ _ _ ?_)
   exact .inl ⟨by unfold newF;rw [if_neg (by omega),adds_bad hc0_1 hz18 (by first | exact fun h=>hg3 h.1 | exact add_not hF ho hc50)];rfl,rfl,(hS22.old (by simp))⟩
  rw [he]
  clear he
  iterate 2 refine T ?_
  refine LD 9 hk hS22 ?_
  iterate 2 refine T ?_
  refine rD (pt p.g (3 + z18.lan.toNat)) (fun _ h_=>r_ok (h_.on 3 41) (run_indexP (n:=4) (size:=1) rfl (h_.x hk) (h_.x hk) (by kernel_rfl) ⟨hg3.1,by have:=hg3.2.1;omega⟩ (by omega))) ?_
  obtain ⟨o,ho⟩:∃ o,p.pts[z18.lan.toNat]? = some o:=⟨_,List.getElem?_eq_getElem (by rw [hF.1];have:=hg3.1;have:=hg3.2.1;omega)⟩
  refine rD (ptO o) (fun _ h_=>r_ok (h_.on 3 41) (run_load rfl (h_.x hk) (by kernel_rfl) (((hS22.blk (i:=0) rfl).cell _).trans (ro_pt ho hF.1)))) ?_
  refine rD (.bool o.isSome) (fun _ h_=>r_ok (h_.on 3 41) (run_bin2 rfl (h_.x hk) rfl (fun _=>by cases o <;> kernel_rfl) (fun _=>by cases o <;> rfl))) ?_
  refine T ?_
  refine rE [0,8,9,11,32,33,34,36,37,38,39,40,41,42,43,44,45,46,47,48,49,50] hk ?_
  clear hk
  intro a21 hk
  refine cB hk (fun hc50=>?_) (fun hc50=>?_)
  ·rw [hc50] at hk
   refine wp_seq ?_
   refine rgL [] hk ?_
   refine T ?_
   refine rE [0,8,9,11,32,33,34,36,37,38,39,40,41,42,43,44,45,46,47,48,49] hk ?_
   clear hk
   intro a24 hk
   refine wp_ret ?_
   refine rt1 hk (hR_ _ _ ?_)
   exact .inl ⟨by unfold newF;rw [if_neg (by omega),adds_bad hc0_1 hz18 (by first | exact fun h=>hg3 h.1 | exact add_not hF ho hc50)];rfl,rfl,(hS22.old (by simp))⟩
  rw [hc50] at hk
  obtain rfl:=isNone_of hc50
  refine wp_skip ?_
  refine rgR [[],[],[1],[],[],[],[5],[4,5,6],[],[],[9],[8,9,10],[3,4,5,6,7,8,9,10,11],[3,4,5,6,7,8,9,10,11,12],[0],[0,14],[0,1,2,3,4,5,6,7,8,9,10,11,12,13,14,15],[0,1,2,3,4,5,6,7,8,9,10,11,12,13,14,15,16]] [11,13,17] (.rd 0 (.rd 1 (.rd 2 (.rd 3 (.rd 4 (.rd 5 (.rd 6 (.rd 7 (.rd 8 (.rd 9 (.rd 10 (.rd 14 (.rd 15 (.ef 11 (.ag 0 (.ag 1 (.ag 2 (.ag 3 (.ag 4 (.ag 5 (.ag 6 (.ag 7 (.rd 12 (.ag 14 (.ag 15 (.ef 13 (.ag 0 (.ag 1 (.ag 2 (.ag 14 (.ag 15 (.rd 16 (.ef 17 (.fin) .non))))))) .non)))))))))))) .non)))))))))))))) hk hS22 (fun w25 hS25 _=>?_)
  clear hS22
  iterate 2 refine T ?_
  refine LD 9 hk hS25 ?_
  refine LDS 9 3 hk hS25 ?_
  iterate 2 refine T ?_
  refine LD 9 hk hS25 ?_
  refine rD (.agg #[i6 id,i6 z18.prio,i6 0,i6 0,i6 0]) (fun _ h_=>rk (run_build rfl (h_.prt hk) (by kernel_rfl))) ?_
  iterate 2 refine T ?_
  refine LD 9 hk hS25 ?_
  iterate 2 refine T ?_
  have hSp:=hS25
  clear hS25
  refine eC hk (h:=peersNew_any (κ:=kap W) id z18.lan _ hSp) (k:=?_)
  rintro e_ w26 ⟨g26,rfl,hS26⟩
  refine ⟨_,rfl,?_⟩
  clear hSp
  replace hS26:=hS26.nz 11
  iterate 2 refine TA ?_
  refine aG (fun _ h_=>rk (ld hS26 10 rfl (h_.x hk))) ?_
  refine aG (fun _ h_=>rk (lbS 3 (hS26.blk (i:=10) rfl) rfl (h_.x hk))) ?_
  iterate 2 refine TA ?_
  refine aG (fun _ h_=>rk (ld hS26 10 rfl (h_.x hk))) ?_
  refine aG (fun _ h_=>rk (run_build rfl (h_.prt hk) (by kernel_rfl))) ?_
  refine rD (.agg #[i6 z18.lan,i6 z18.prio,i6 z18.cost,i6 id,i6 z18.prio,i6 0,i6 0,i6 0,pt g26 0]) (fun _ h_=>rk (run_build rfl (h_.prt hk) (by kernel_rfl))) ?_
  iterate 2 refine TA ?_
  refine eB hk hS26 (fun g27 w27 hS27 _=>?_)
  clear hS26
  iterate 2 refine TA ?_
  refine aG (fun _ h_=>rk (ld hS27 11 rfl (h_.x hk))) ?_
  iterate 2 refine TA ?_
  refine rD (pt p.g (3 + z18.lan.toNat)) (fun _ h_=>rk (run_indexP (n:=4) (size:=1) rfl (h_.x hk) (h_.x hk) (by kernel_rfl) ⟨hg3.1,by have:=hg3.2.1;omega⟩ (by omega))) ?_
  have hlz:=hg3.1
  have hlz2:=hg3.2.1
  refine eF (fun a_ h_=>st_set1 (k:=3 + z18.lan.toNat) (u:=pt g27 0) 2 hS27 rfl (on_none rfl) rfl (h_.x hk) (h_.x hk) rfl (by kernel_rfl) (by rw [ro_size hF.1];omega) rfl fun w28 hS28 _=>⟨_,rfl,?_⟩)
  clear h_ a_ hS27
  rw [ro_set (by rw [hF.1];omega)] at hS28
  replace hS28:=hS28.nz 12
  refine rE [0,8,9,11,32,33,34,36,37,38,39,40,41,42,43,44,45,46,47,48,49,51,52,53,54,55,56,57,58,59,60,61,62,63,64,65,66,67] hk ?_
  clear hk
  intro a25 hk
  refine rgL [] hk ?_
  refine rD (i6 (k + 1)) (fun _ h_=>rk (run_addI rfl (h_.x hk) rfl (by omega) rfl)) ?_
  refine T ?_
  refine rE [0,8,9,11,32,33,34,36,37,38,39,40,41,42,43,44,45,46,47,48,49,51,52,53,54,55,56,57,58,59,60,61,62,63,64,65,66,67,68] hk ?_
  clear hk
  intro a29 hk
  replace hS28:=hS28.fr 11
  replace hS28:=hS28.drop
  replace hS28:=hS28.fr 10
  replace hS28:=hS28.fr 10
  replace hS28:=hS28.fr 10
  replace hS28:=hS28.fr 10
  replace hS28:=hS28.fr 10
  replace hS28:=hS28.fr 10
  replace hS28:=hS28.fr 10
  replace hS28:=hS28.fr 9
  replace hS28:=hS28.fr 10
  replace hS28:=hS28.fr 10
  replace hS28:=hS28.fr 10
  have hS1:=ports_new (y:=port0 id z18) ho (add_yes hF ho rfl) (port_close (x:=port0 id z18) hS28)
  replace hS1:=hS1.front (i:=1) rfl
  have hS2:=ro_close (p:={ p with pts:=p.pts.set z18.lan.toNat (some g27) }) (s:=addP id s z18) (v:=v) (fits_add hF (by omega)) hS1
  refine ⟨⟨k + 1,{ p with pts:=p.pts.set z18.lan.toNat (some g27) },addP id s z18,by omega,adds_next hc0_1 hz18 ⟨hg3,add_yes hF ho rfl⟩,hk.to,hS2⟩,?_⟩
  show n - (intOf (sl a29 34)).toNat < n - (intOf (sl a15 34)).toNat
  rw [show sl a29 34 = _ from hk.g,show sl a15 34 = _ from hmu0]
  simp only [intOf]
  omega
 refine wp_exit ?_
 refine wp_seq ?_
 refine wp_seq ?_
 obtain rfl:k = n:=by omega
 rw [List.take_of_length_le (by have:=pts_len hR;omega)] at hc0_1
 obtain ⟨v,hF,hSo⟩:=ro_open (hS15.front (i:=0) rfl)
 clear hS15
 have hS15:S (kap W) (blkA p.g 102 (roCells p s v)::(portsA p s)::(talksA p.tm s.talks)::mapA keyE toldE p.mm s.mine::(dbA p.dg s.db)::(wheelA p.wg s.w)::(rxmtA p.lg s.lists)::(acksA p.ag s.later)::(outA v s.out)::[]) ((memA W W.heap.size)::[]) w15:=hSo
 clear hSo
 refine rgL [] hk ?_
 iterate 3 refine T ?_
 refine rD (.agg (p.pts.map ptO).toArray) (fun _ h_=>rk (run_loadAV (n:=4) rfl (h_.x hk) (by kernel_rfl) (by rw [List.length_map];exact hF.1) (ro_arr (hS15.blk (i:=0) rfl) hF.1))) ?_
 refine T ?_
 refine rE [8,9,72,73] hk ?_
 clear hk
 intro a30 hk
 replace hS15:=hS15.fr 8
 replace hS15:=hS15.fr 8
 replace hS15:=hS15.fr 8
 replace hS15:=hS15.fr 8
 replace hS15:=hS15.fr 8
 replace hS15:=hS15.fr 8
 replace hS15:=hS15.fr 8
 replace hS15:=hS15.fr 8
 replace hS15:=hS15.fr 8
 have hSc:=ro_close hF hS15
 clear hS15
 have hz4:=hF.1
 have hnw:=(adds_inv hc0_1).1
 refine wp_block ?_
 refine wp_loop (fun a_ w_=>∃ k_:Nat,(k_ ≤ 4)∧Fr a_ 83 [(8,.pointer none),(9,pt p.g 0),(72,.agg (p.pts.map ptO).toArray),(73,i6 k_)]∧S (kap W) (roA p (upsF k_ s)::[]) ((memA W W.heap.size)::[]) w_) (fun a_ _=>4 - (intOf (sl a_ 73)).toNat) ?_ ?_
 ·exact ⟨0,Nat.zero_le _,hk.to,hSc⟩
 clear hk hSc
 rintro a31 w31 ⟨k_,hc2_0,hk,hS31⟩
 have hmu2:=hk.g (s:=73)
 refine wp_seq ?_
 refine rgL [] hk ?_
 refine T ?_
 refine rE [8,9,72,73,74] hk ?_
 clear hk
 intro a32 hk
 refine wp_seq ?_
 refine cD hk (fun hc74=>?_) (fun hc74=>?_)
 ·refine wp_skip ?_
  refine wp_seq ?_
  refine wp_block ?_
  refine wp_seq ?_
  refine rgL [] hk ?_
  have hFk:=ro_fits hS31
  obtain ⟨o2,ho2⟩:∃ o,p.pts[k_]? = some o:=⟨_,List.getElem?_eq_getElem (by omega)⟩
  refine rD (ptO o2) (fun _ h_=>rk (run_indexA (n:=4) (e:=81) rfl (h_.x hk) (h_.x hk) (by kernel_rfl) (by kernel_rfl) (by kernel_rfl) (by omega) (show (p.pts.map ptO).toArray[((k_:Int)).toNat]? = some (ptO o2) by rw [Int.toNat_natCast,List.getElem?_toArray,List.getElem?_map,ho2];rfl))) ?_
  refine T ?_
  refine rE [8,9,13,72,73,75] hk ?_
  clear hk
  intro a33 hk
  refine wp_seq ?_
  refine rgL [] hk ?_
  refine T ?_
  refine rD (.bool o2.isSome) (fun _ h_=>rk (run_bin2 rfl (h_.x hk) rfl (fun _=>by cases o2 <;> kernel_rfl) (fun _=>by cases o2 <;> rfl))) ?_
  refine rE [8,9,13,72,73,75,76,77] hk ?_
  clear hk
  intro a34 hk
  refine cB hk (fun hc77=>?_) (fun hc77=>?_)
  ·obtain ⟨ap,rfl⟩:=Option.isSome_iff_exists.1 hc77
   replace hk:Fr a34 83 [(8,.pointer none),(9,pt p.g 0),(13,pt ap 0),(72,.agg (p.pts.map ptO).toArray),(73,i6 k_)]:=hk.to
   obtain ⟨x,hx⟩:=fits_some hFk ho2
   refine rgL [2] hk ?_
   iterate 2 refine T ?_
   have hSp:=hS31
   clear hS31
   refine eC hk (h:=up_any p (upsF k_ s) k_ ap x _ ho2 hx (by rw [(ups_inv k_ s).1,hnw];show (0:Int) ≤ 0∧(0:Int) ≤ 1000000000000;omega) hSp) (k:=?_)
   rintro e_ w36 ⟨rfl,hS36⟩
   refine ⟨_,rfl,?_⟩
   clear hSp
   replace hS36:=hS36.nz 1
   rw [← ups_some hx] at hS36
   refine rE [8,9,13,72,73,78,79] hk ?_
   clear hk
   intro a35 hk
   refine rgL [] hk ?_
   refine rD (i6 (k_ + 1)) (fun _ h_=>rk (run_addI rfl (h_.x hk) rfl (by omega) rfl)) ?_
   refine T ?_
   refine rE [8,9,13,72,73,78,79,81] hk ?_
   clear hk
   intro a37 hk
   refine ⟨⟨k_ + 1,by omega,hk.to,hS36⟩,?_⟩
   show 4 - (intOf (sl a37 73)).toNat < 4 - (intOf (sl a31 73)).toNat
   rw [show sl a37 73 = _ from hk.g,show sl a31 73 = _ from hmu2]
   simp only [intOf]
   omega
  refine wp_skip ?_
  refine rgL [] hk ?_
  refine rD (i6 (k_ + 1)) (fun _ h_=>rk (run_addI rfl (h_.x hk) rfl (by omega) rfl)) ?_
  refine T ?_
  refine rE [8,9,13,72,73,75,76,81] hk ?_
  clear hk
  intro a38 hk
  rw [← ro_skip hFk ho2 hc77] at hS31
  refine ⟨⟨k_ + 1,by omega,hk.to,hS31⟩,?_⟩
  show 4 - (intOf (sl a38 73)).toNat < 4 - (intOf (sl a31 73)).toNat
  rw [show sl a38 73 = _ from hk.g,show sl a31 73 = _ from hmu2]
  simp only [intOf]
  omega
 refine wp_exit ?_
 refine wp_seq ?_
 refine rgL [] hk ?_
 iterate 2 refine T ?_
 refine rE [8] hk ?_
 clear hk
 intro a39 hk
 refine wp_ret ?_
 refine rt1 hk (hR_ _ _ ?_)
 obtain rfl:k_ = 4:=by omega
 exact .inr ⟨upsF 4 s,p,by unfold newF;rw [if_neg (by omega),hc0_1];rfl,rfl,hS31⟩
end Old
section
theorem cell_heap {w w':World} {p:Addr} (h:w'.heap[p.block]? = w.heap[p.block]?):w'.cell? p = w.cell? p:=by
  unfold World.cell?;rw [h]
def rdA (A:Option Addr) (c size n:Nat) (xs:List Value):Atom where
  holds w fp:=(xs.length = n * size∧n ≤ c∧c ≤ 9223372036854775807)∧((n = 0∧fp = []) ∨ ∃ b off,A = some ⟨b,off,none⟩∧fp = [b]∧b < w.heap.size∧∀ j u,xs[j]? = some u → w.cell? ⟨b,off + j,none⟩ = some u)
  loc:=fun {w w' fp} h hb=>by
    obtain ⟨h1,h2⟩:=h
    refine ⟨h1,?_⟩
    rcases h2 with h2 | ⟨b,off,e,hf,hlt,hc⟩
    · exact .inl h2
    · have hbb:=hb b (by rw [hf];simp)
      refine .inr ⟨b,off,e,hf,?_,fun j u hu=>?_⟩
      · rw [Array.getElem?_eq_getElem hlt] at hbb
        exact (Array.getElem?_eq_some_iff.1 hbb).1
      · rw [cell_heap hbb];exact hc j u hu
  dom:=fun {w fp} h b hb=>by
    obtain ⟨h1,h2⟩:=h
    rcases h2 with ⟨_,hf⟩ | ⟨b',off,e,hf,hlt,hc⟩
    · rw [hf] at hb;cases hb
    · rw [hf] at hb;rw [List.mem_singleton.1 hb];exact hlt
section
variable {κ:Kap} {L I:List Atom} {w:World} {A:Option Addr} {c size n i:Nat} {xs:List Value}
theorem rd_holds (h:S κ L I w) (hi:I[i]? = some (rdA A c size n xs)):(xs.length = n * size∧n ≤ c∧c ≤ 9223372036854775807)∧Reads w w.heap.size size A n xs:=by
  obtain ⟨hk,fp,hs,hI⟩:=h
  obtain ⟨f,⟨h1,h2⟩,_⟩:=hI _ (List.mem_of_getElem? hi)
  refine ⟨h1,h1.1,fun hpos=>?_⟩
  rcases h2 with ⟨h0,_⟩ | ⟨b,off,e,_,hlt,hc⟩
  · omega
  · exact ⟨b,off,e,hlt,hc⟩
theorem S.rdR (h:S κ L I w) (hi:I[i]? = some (rdA A c size n xs)):Reads w w.heap.size size A n xs:=(rd_holds h hi).2
theorem S.rdLen (h:S κ L I w) (hi:I[i]? = some (rdA A c size n xs)):n ≤ 9223372036854775807:=Nat.le_trans (rd_holds h hi).1.2.1 (rd_holds h hi).1.2.2
theorem S.rdCap (h:S κ L I w) (hi:I[i]? = some (rdA A c size n xs)):n ≤ c:=(rd_holds h hi).1.2.1
theorem S.addRd (h:S κ [] I w) (h1:n ≤ c) (h2:c ≤ 9223372036854775807) (hr:Reads w w.heap.size size A n xs):S κ [] (rdA A c size n xs::I) w:=by
  obtain ⟨hk,fp,hs,hI⟩:=h
  obtain rfl:fp = []:=hs
  refine ⟨hk,[],rfl,fun i hi=>?_⟩
  rcases List.mem_cons.1 hi with rfl | hi
  · obtain ⟨hl,hc⟩:=hr
    rcases Nat.eq_zero_or_pos n with h0 | h0
    · exact ⟨[],⟨⟨hl,h1,h2⟩,.inl ⟨h0,rfl⟩⟩,fun b hb=>by cases hb⟩
    · obtain ⟨b,off,e,hlt,hcc⟩:=hc h0
      exact ⟨[b],⟨⟨hl,h1,h2⟩,.inr ⟨b,off,e,rfl,hlt,hcc⟩⟩,fun b hb h=>by cases h⟩
  · exact hI i hi
end
end
section
theorem S.join {κ:Kap} {L I M:List Atom} {w w':World} (h1:S κ L I w) (h2:S (kap w) M [memA w w.heap.size] w'):S κ (M ++ L) I w':=by
  obtain ⟨hk1,fp1,s1,i1⟩:=h1
  obtain ⟨hk2,fp2,s2,i2⟩:=h2
  obtain ⟨f,⟨hf,hsz,hb⟩,hdis⟩:=i2 (memA w w.heap.size) (by simp)
  have hfar:∀ b ∈ fp2,w.heap.size ≤ b:=fun b hb2=>by
    rcases Nat.lt_or_ge b w.heap.size with h | h
    · exact absurd hb2 (hdis b (by rw [hf];exact List.mem_range.2 h))
    · exact h
  refine ⟨hk2.trans hk1,fp2 ++ fp1,Sep.app.2 ⟨fp2,fp1,rfl,fun b h3 h4=>?_,s2,s1.loc (fun b hb'=>hb b (s1.dom b hb'))⟩,fun i hi=>?_⟩
  · have h5:=hfar b h3
    have h6:=s1.dom b h4
    omega
  · obtain ⟨g,h3,h4⟩:=i1 i hi
    refine ⟨g,i.loc h3 (fun b hm=>hb b (i.dom h3 b hm)),fun b hb2 hc=>?_⟩
    rcases List.mem_append.1 hc with h | h
    · have h5:=hfar b h
      have h6:=i.dom h3 b hb2
      omega
    · exact h4 b hb2 h
def optR {α β:Type} (F:β → α → Atom):Option β → Option α → Atom
  | some P,some x=>F P x
  | none,none=>sepA []
  | _,_=>pureA False (sepA [])
def ptR:Option RoP → Value
  | none=>.pointer none
  | some P=>pt P.g 0
section
variable {κ:Kap} {L I:List Atom} {w:World}
theorem optR_cases {α β:Type} {F:β → α → Atom} {o:Option β} {s:Option α} (h:S κ (optR F o s::L) I w):(o = none∧s = none∧S κ L I w) ∨ ∃ P x,o = some P∧s = some x∧S κ (F P x::L) I w:=by
  cases o with
  | none=>
    cases s with
    | none=>exact .inl ⟨rfl,rfl,S.sep_open (l:=[]) h⟩
    | some x=>exact absurd h.pure_open.1 id
  | some P=>
    cases s with
    | none=>exact absurd h.pure_open.1 id
    | some x=>exact .inr ⟨P,x,rfl,rfl,h⟩
theorem optR_some {α β:Type} {F:β → α → Atom} {o:Option β} {s:Option α} {x:α} (hs:s = some x) (h:S κ (optR F o s::L) I w):∃ P,o = some P∧S κ (F P x::L) I w:=by
  rcases optR_cases h with ⟨_,b,_⟩ | ⟨P,y,a,b,h5⟩
  · rw [hs] at b;cases b
  · rw [hs] at b;cases b;exact ⟨P,a,h5⟩
theorem optR_none {α β:Type} {F:β → α → Atom} (h:S κ L I w):S κ (optR F (none:Option β) (none:Option α)::L) I w:=S.sep_close (l:=[]) h
theorem mapA_nil {α β γ δ:Type} [DecidableEq α] [DecidableEq γ] {ek:α → Value} {ev:β → Value} (ek':γ → Value) (ev':δ → Value) {m:Nat} (h:S κ (mapA ek ev m ([]:List (α × β))::L) I w):S κ (mapA ek' ev' m ([]:List (γ × δ))::L) I w:=
  h.imp fun w f ⟨h1,es,c,h2,h3⟩=>⟨h1,es,c,h2,⟨h3.ents,List.nodup_nil,h3.rise,h3.late⟩⟩
end
def conv (x:Old.PoS):PoS:=⟨⟨x.lan,x.prio,x.cost⟩,x.i,x.p⟩
def ptOld (x:PtV):Old.PtV:=⟨x.lan,x.prio,x.cost⟩
def convR (s:Old.RoS):RoS:=⟨s.id,s.now,s.number,s.ports.map (Option.map conv),[],[],s.db,s.w,s.lists,s.later,[]⟩
def roNewF (id boot room:Int) (l:List PtV):Option RoS:=(Old.newF id boot room (l.map ptOld)).map convR
theorem ports_conv:∀ (qs:List (Option Nat)) (l:List (Option Old.PoS)),qs.map Option.isSome = l.map Option.isSome → (Old.zipO qs l).map Old.portO = List.zipWith (optA portA) qs (l.map (Option.map conv))
  | [],[],_=>rfl
  | a::qs,x::l,h=>by
    simp only [List.map_cons,List.cons.injEq] at h
    have ih:=ports_conv qs l h.2
    cases a with
    | none=>cases x with
      | none=>simp only [Old.zipO,List.map_cons,List.zipWith_cons_cons,ih];rfl
      | some x=>cases h.1
    | some a=>cases x with
      | none=>cases h.1
      | some x=>simp only [Old.zipO,List.map_cons,List.zipWith_cons_cons,ih];rfl
  | [],x::l,h=>by simp at h
  | a::qs,[],h=>by simp at h
theorem four_of {α:Type}:∀ {l:List α},l.length = 4 → ∃ a b c d,l = [a,b,c,d]
  | [a,b,c,d],_=>⟨a,b,c,d,rfl⟩
theorem fresh_ups:∀ (k:Nat) (s:Old.RoS),s.talks = []∧s.mine = []∧s.out = [] → (Old.upsF k s).talks = []∧(Old.upsF k s).mine = []∧(Old.upsF k s).out = []
  | 0,s,h=>h
  | k + 1,s,h=>by
    have ih:=fresh_ups k s h
    unfold Old.upsF
    split
    · exact ih
    · exact ih
theorem fresh_adds (id:Int):∀ (l:List Old.PtV) (s t:Old.RoS),s.talks = []∧s.mine = []∧s.out = [] → Old.addsF id l s = some t → t.talks = []∧t.mine = []∧t.out = []
  | [],s,t,h,e=>by cases e;exact h
  | x::l,s,t,h,e=>by
    unfold Old.addsF at e
    split at e
    · exact fresh_adds id l (Old.addP id s x) t h e
    · cases e
theorem fresh_new {id boot room:Int} {l:List Old.PtV} {s:Old.RoS} (h:Old.newF id boot room l = some s):s.talks = []∧s.mine = []∧s.out = []:=by
  unfold Old.newF at h
  split at h
  · cases h
  · cases e:Old.addsF id l (Old.ro0 id boot room) with
    | none=>rw [e] at h;cases h
    | some t=>
      rw [e] at h
      simp only [Option.map_some,Option.some.injEq] at h
      rw [← h]
      exact fresh_ups 4 t (fresh_adds id l _ t ⟨rfl,rfl,rfl⟩ e)
theorem ro_conv {κ:Kap} {L I:List Atom} {w:World} {p:Old.RoP} {s:Old.RoS} (hf:s.talks = []∧s.mine = []∧s.out = []) (h:S κ (Old.roA p s::L) I w):∃ P:RoP,P.g = p.g∧S κ (roA P (convR s)::L) I w:=by
  obtain ⟨v,hF,h⟩:=Old.ro_open h
  obtain ⟨h4,hs4,hsame⟩:=id hF
  obtain ⟨q0,q1,q2,q3,hq⟩:=four_of h4
  refine ⟨⟨p.g,q0,q1,q2,q3,p.tm,p.mm,p.dg,p.wg,p.lg,p.ag⟩,rfl,?_⟩
  obtain ⟨f1,f2,f3⟩:=hf
  refine ro_close (e:=⟨v.A,v.c⟩) (by show (s.ports.map (Option.map conv)).length = 4;rw [List.length_map];exact hs4) ?_
  have e1:Old.roCells p s v = #[i6 s.id,i6 s.now,i6 s.number,ptO q0,ptO q1,ptO q2,ptO q3,.map (some p.tm),.map (some p.mm),pt p.dg 0,pt p.wg 0,pt p.lg 0,pt p.ag 0,.slice v.A s.out.length v.c]:=by
    have:∀ o:Option Nat,Old.ptO o = ptO o:=fun o=>by cases o <;> rfl
    unfold Old.roCells;rw [hq];simp only [List.map_cons,List.map_nil,this];rfl
  have e2:Old.portsA p s = arrA portA [q0,q1,q2,q3] (s.ports.map (Option.map conv)):=by
    unfold Old.portsA arrA
    rw [ports_conv p.pts s.ports hsame,hq]
  rw [e1,e2,f2,f3] at h
  rw [f1] at h
  -- what they are about: nothing
  have h:=h.fr 2
  unfold Old.talksA at h
  obtain ⟨q,h⟩:=h.ex_open
  obtain ⟨hq0,h⟩:=h.pure_open
  obtain rfl:q = []:=by cases q with
    | nil=>rfl
    | cons a q=>cases hq0
  have h:=S.sep_open (l:=[_]) h
  have h:=mob_nil (F:=taMF) (mapA_nil taMF.ek taMF.ev h)
  have h:=h.fr 3
  have h:=mapA_nil keyE toldE h
  have h:=h.fr 8
  unfold Old.outA at h
  obtain ⟨q,h⟩:=h.ex_open
  obtain ⟨hq1,h⟩:=h.pure_open
  obtain rfl:q = []:=by cases q with
    | nil=>rfl
    | cons a q=>cases hq1
  have h:=S.sep_open (l:=[_]) h
  have h:S κ (crA frFn 58 v.A v.c []::_) I w:=S.ex_close (f:=crQ frFn 58 v.A v.c []) [] (S.pure_close rfl (S.sep_close (l:=[_]) h))
  exact h.pk [3,3,2,1,1,1,1,1,0] 0
theorem rows_old (l:List PtV):rowC PtV.cells l = rowC Old.PtV.cells (l.map ptOld):=by
  unfold rowC
  rw [List.flatMap_map]
  rfl
theorem roNewG {κ:Kap} {L I:List Atom} (id boot room:Int) (l:List PtV) (lA:Option Addr) (lc:Nat) (W:World) (hn:l.length ≤ 100000) (hR:Reads W W.heap.size 3 lA l.length (rowC PtV.cells l)) (hS:S κ L I W):
    Calls Tryz.prog 25 #[i6 id,i6 boot,i6 room,.slice lA l.length lc] W (fun r w'=>∃ o0:Option RoP,r = .returned (ptR o0)∧S κ (optR roA o0 (roNewF id boot room l)::L) I w'):=by
  have hR:Reads W W.heap.size 3 lA l.length (rowC Old.PtV.cells (l.map ptOld)):=by rw [← rows_old];exact hR
  refine (Old.roNew_any id boot room lA l.length lc (l.map ptOld) W hn hR).mono ?_
  rintro r w' (⟨h1,h2,h3⟩ | ⟨s,p,h1,h2,h3⟩)
  · refine ⟨none,h2,?_⟩
    unfold roNewF;rw [h1]
    exact optR_none (hS.below h3)
  · obtain ⟨P,hP,h4⟩:=ro_conv (fresh_new h1) h3
    refine ⟨some P,by rw [h2];show _ = Ending.returned (pt P.g 0);rw [hP],?_⟩
    unfold roNewF;rw [h1]
    exact S.join (M:=[roA P (convR s)]) hS h4
theorem roNewC {κ:Kap} {L I:List Atom} (id boot room:Int) (l:List PtV) (lA:Option Addr) (lc:Nat) (W:World) (hn:l.length ≤ 100000) (hS:S κ L (rowA (.slice lA l.length lc) 26 3 l.length (rowC PtV.cells l)::I) W):
    Calls Tryz.prog 25 #[i6 id,i6 boot,i6 room,.slice lA l.length lc] W (fun r w'=>∃ o0:Option RoP,r = .returned (ptR o0)∧S κ (optR roA o0 (roNewF id boot room l)::L) (rowA (.slice lA l.length lc) 26 3 l.length (rowC PtV.cells l)::I) w'):=
  roNewG id boot room l lA lc W hn (hS.rdI (i:=0) rfl) hS
theorem roNewR {κ:Kap} {L I:List Atom} (id boot room:Int) (l:List PtV) (lA:Option Addr) (lc:Nat) (W:World) (hn:l.length ≤ 100000) (hS:S κ L (rdA lA lc 3 l.length (rowC PtV.cells l)::I) W):
    Calls Tryz.prog 25 #[i6 id,i6 boot,i6 room,.slice lA l.length lc] W (fun r w'=>∃ o0:Option RoP,r = .returned (ptR o0)∧S κ (optR roA o0 (roNewF id boot room l)::L) (rdA lA lc 3 l.length (rowC PtV.cells l)::I) w'):=
  roNewG id boot room l lA lc W hn (hS.rdR (i:=0) rfl) hS
end
section
set_option maxRecDepth 100000
set_option maxHeartbeats 8000000
structure CoV where
  id:Int
  boot:Int
  room:Int
  ports:List PtV
theorem PtV.cells_len' (x:PtV):(PtV.cells x).length = 3:=rfl
theorem PtV.cells_one' (x:PtV):∀ u ∈ PtV.cells x,u.oneCell' = true:=by
  intro u hu
  simp only [PtV.cells,List.mem_cons,List.not_mem_nil,or_false] at hu
  rcases hu with rfl | rfl | rfl <;> rfl
def PtV.cells_fn:RowFn PtV 3:=⟨rowC PtV.cells,rowC_append _,fun l u hu=>by
  obtain ⟨x,_,h⟩:=List.mem_flatMap.1 hu
  exact PtV.cells_one' x u h,rowC_length _ _ PtV.cells_len'⟩
def coMakeF (c:CoV):Option ((Option RoS)):=if c.ports.length ≤ 100000 then some (roNewF c.id c.boot c.room c.ports) else none
theorem coMake_any {κ:Kap} {L I:List Atom} (c:CoV) (cp:SlP) (W:World) {r_:(Option RoS)} (ht:(coMakeF c) = some r_) (hS:S κ (L) ((rdA cp.A cp.c 3 c.ports.length (rowC PtV.cells c.ports))::I) W):
    Calls Tryz.prog 8 #[.agg #[i6 c.id,i6 c.boot,i6 c.room,.slice cp.A c.ports.length cp.c]] W (fun r w'=>∃ o0:Option RoP,r = .returned (ptR o0)∧S κ ((optR roA o0 r_)::L) ((rdA cp.A cp.c 3 c.ports.length (rowC PtV.cells c.ports))::I) w'):=by
 refine wK 12 Tryz.func8 (fun R_ hR_ a hk=>?_)
 refine wp_seq ?_
 refine rgL [0] hk ?_
 refine eB hk hS (fun g2 w hS _=>?_)
 refine T ?_
 refine rE [1] hk fun a hk=>?_
 refine wp_seq ?_
 refine rgL [8] hk ?_
 refine T ?_
 refine LD 0 hk hS ?_
 refine T ?_
 refine LD 0 hk hS ?_
 refine T ?_
 refine LD 0 hk hS ?_
 refine T ?_
 refine LD 0 hk hS ?_
 obtain ⟨hgd4,ht⟩:=gdE ht
 refine eC hk (h:=roNewR c.id c.boot c.room c.ports cp.A cp.c _ hgd4 hS) (k:=?_)
 rintro _ w ⟨o03,rfl,hS⟩
 refine ⟨_,rfl,?_⟩
 replace hS:=hS.nz 2
 refine T ?_
 refine rE [2] hk fun a hk=>?_
 refine wp_ret ?_
 replace hS:=hS.pk [0] 1
 obtain rfl:=Option.some.inj ht
 exact rt1 hk (hR_ _ _ ⟨_,rfl,hS⟩)
def mayBeF (p:PtV):Bool:=if (0:Int) ≤ p.lan then if (p.lan:Int) ≤ 3 then if (0:Int) ≤ p.prio then if (p.prio:Int) ≤ 255 then if (1:Int) ≤ p.cost then decide ((p.cost:Int) ≤ 100) else false else false else false else false else false
theorem mayBe_any {κ:Kap} {L I:List Atom} (p:PtV) (W:World) (hS:S κ (L) (I) W):
    Calls Tryz.prog 9 #[.agg #[i6 p.lan,i6 p.prio,i6 p.cost]] W (fun r w'=>r = .returned (.bool (mayBeF p))∧S κ (L) (I) w'):=by
 generalize ht:(mayBeF p) = t_
 refine wK 31 Tryz.func9 (fun R_ hR_ a hk=>?_)
 refine wp_seq ?_
 refine rgL [0] hk ?_
 refine eB hk hS (fun g2 w hS _=>?_)
 refine T ?_
 refine rE [1] hk fun a hk=>?_
 refine wp_seq ?_
 refine rgL [] hk ?_
 refine T ?_
 refine LD 0 hk hS ?_
 iterate 2 refine T ?_
 rcases dt ((0:Int) ≤ p.lan) with ⟨he,hg3⟩ | ⟨he,hg3⟩
 ·rw [he]
  replace ht:=(if_pos hg3).symm.trans ht
  refine T ?_
  refine LD 0 hk hS ?_
  iterate 3 refine T ?_
  rcases dt ((p.lan:Int) ≤ 3) with ⟨he,hg8⟩ | ⟨he,hg8⟩
  ·rw [he]
   replace ht:=(if_pos hg8).symm.trans ht
   refine T ?_
   refine LD 0 hk hS ?_
   iterate 3 refine T ?_
   rcases dt ((0:Int) ≤ p.prio) with ⟨he,hg13⟩ | ⟨he,hg13⟩
   ·rw [he]
    replace ht:=(if_pos hg13).symm.trans ht
    refine T ?_
    refine LD 0 hk hS ?_
    iterate 3 refine T ?_
    rcases dt ((p.prio:Int) ≤ 255) with ⟨he,hg18⟩ | ⟨he,hg18⟩
    ·rw [he]
     replace ht:=(if_pos hg18).symm.trans ht
     refine T ?_
     refine LD 0 hk hS ?_
     iterate 3 refine T ?_
     rcases dt ((1:Int) ≤ p.cost) with ⟨he,hg23⟩ | ⟨he,hg23⟩
     ·rw [he]
      replace ht:=(if_pos hg23).symm.trans ht
      refine T ?_
      refine LD 0 hk hS ?_
      iterate 3 refine T ?_
      refine rE [2] hk fun a hk=>?_
      refine wp_ret ?_
      replace hS:=hS.pk [] 1
      subst ht
      exact rt1 hk (hR_ _ _ ⟨rfl,hS⟩)
     rw [he]
     replace ht:=(if_neg hg23).symm.trans ht
     refine oF 23 26 true [24,25,26] ?_
     iterate 2 refine T ?_
     refine rE [2] hk fun a hk=>?_
     refine wp_ret ?_
     replace hS:=hS.pk [] 1
     subst ht
     exact rt1 hk (hR_ _ _ ⟨rfl,hS⟩)
    rw [he]
    replace ht:=(if_neg hg18).symm.trans ht
    refine oF 18 21 true [19,20,21] ?_
    iterate 2 refine T ?_
    refine oF 23 26 true [24,25,26] ?_
    iterate 2 refine T ?_
    refine rE [2] hk fun a hk=>?_
    refine wp_ret ?_
    replace hS:=hS.pk [] 1
    subst ht
    exact rt1 hk (hR_ _ _ ⟨rfl,hS⟩)
   rw [he]
   replace ht:=(if_neg hg13).symm.trans ht
   refine oF 13 16 true [14,15,16] ?_
   iterate 2 refine T ?_
   refine oF 18 21 true [19,20,21] ?_
   iterate 2 refine T ?_
   refine oF 23 26 true [24,25,26] ?_
   iterate 2 refine T ?_
   refine rE [2] hk fun a hk=>?_
   refine wp_ret ?_
   replace hS:=hS.pk [] 1
   subst ht
   exact rt1 hk (hR_ _ _ ⟨rfl,hS⟩)
  rw [he]
  replace ht:=(if_neg hg8).symm.trans ht
  refine oF 8 11 true [9,10,11] ?_
  iterate 2 refine T ?_
  refine oF 13 16 true [14,15,16] ?_
  iterate 2 refine T ?_
  refine oF 18 21 true [19,20,21] ?_
  iterate 2 refine T ?_
  refine oF 23 26 true [24,25,26] ?_
  iterate 2 refine T ?_
  refine rE [2] hk fun a hk=>?_
  refine wp_ret ?_
  replace hS:=hS.pk [] 1
  subst ht
  exact rt1 hk (hR_ _ _ ⟨rfl,hS⟩)
 rw [he]
 replace ht:=(if_neg hg3).symm.trans ht
 refine oF 3 6 true [4,5,6] ?_
 iterate 2 refine T ?_
 refine oF 8 11 true [9,10,11] ?_
 iterate 2 refine T ?_
 refine oF 13 16 true [14,15,16] ?_
 iterate 2 refine T ?_
 refine oF 18 21 true [19,20,21] ?_
 iterate 2 refine T ?_
 refine oF 23 26 true [24,25,26] ?_
 iterate 2 refine T ?_
 refine rE [2] hk fun a hk=>?_
 refine wp_ret ?_
 replace hS:=hS.pk [] 1
 subst ht
 exact rt1 hk (hR_ _ _ ⟨rfl,hS⟩)
def wakesFL9:List Nat → RoS → Option (RoS)
  | [],v9x0=>some v9x0
  | k9::xs9,v9x0=>optB (roTickF v9x0) fun q10=>wakesFL9 xs9 q10
def wakesF:Option (Bool):=if [(⟨0,1,1⟩:PtV)].length ≤ 100000 then optB ((roNewF 1 1 40 [(⟨0,1,1⟩:PtV)])) fun s6=>optB (roTickF s6) fun q7=>optB (roOutF q7) fun q8=>optB (wakesFL9 (List.range 7) q8.2) fun r9=>optB (roViewAtF 0 r9) fun q11=>if (((q8.1.length:Nat):Int):Int) = 1 then cond q11.2 (if (q11.1.i.state:Int) = 4 then optB (roOutF r9) fun q13=>some (decide ((((q13.1.length:Nat):Int):Int) = 3)) else some false) (some false) else some false else none
theorem wakes_any {κ:Kap} {L I:List Atom}  (W:World) {r_:Bool} (ht:wakesF = some r_) (hS:S κ (L) (I) W):
    Calls Tryz.prog 7 #[] W (fun r w'=>r = .returned (.bool r_)∧S κ (L) (I) w'):=by
 refine wK 40 Tryz.func7 (fun R_ hR_ a hk=>?_)
 refine wp_seq ?_
 refine rgL [] hk ?_
 refine T ?_
 refine rE [] hk fun a hk=>?_
 refine wp_seq ?_
 refine rgL [1,2] hk ?_
 refine rD (.agg #[i6 0,i6 1,i6 1]) (fun _ h_=>rk (run_build rfl (h_.prt hk) (by kernel_rfl))) ?_
 refine eF (fun a_ h_=>st_lit (e:=26) (cells:=#[i6 0,i6 1,i6 1]) hS (on_none rfl) rfl (h_.prtL hk) fun g2 w hS _=>⟨_,rfl,?_⟩)
 replace hS:S κ (rowA (.slice (some ⟨g2,0,none⟩) 1 1) 26 3 1 (rowC PtV.cells [(⟨0,1,1⟩:PtV)])::L) (I) w:=hS.litRow rfl (by decide)
 obtain ⟨J3,hS,hJ3⟩:=S.lend (M:=[_]) hS
 obtain ⟨hgd5,ht⟩:=gdE ht
 refine eC hk (h:=roNewC 1 1 40 [(⟨0,1,1⟩:PtV)] (some ⟨g2,0,none⟩) 1 _ hgd5 hS) (k:=?_)
 rintro _ w ⟨o04,rfl,hS⟩
 refine ⟨_,rfl,?_⟩
 replace hS:=hJ3 _ _ hS
 replace hS:=hS.nz 2
 refine T ?_
 refine rE [1] hk fun a hk=>?_
 refine wp_seq ?_
 refine rgL [1] hk ?_
 refine T ?_
 replace hS:=hS.fr 1
 obtain ⟨s6,hs6,ht⟩:=optB_s ht
 obtain ⟨P6,ho6,hS⟩:=optR_some hs6 hS
 rw [ho6] at hk
 replace hk:Fr a 40 [(1,pt P6.g 0)]:=hk.to
 refine rwV 0 (ptR o04) (pt P6.g 0) (by rw [ho6];rfl) ?_
 ·obtain ⟨q7,hq7,ht⟩:=optB_s ht
  refine eC hk (h:=roTick_any P6 s6 _ hq7 hS) (k:=?_)
  rintro _ w ⟨rfl,hS⟩
  refine ⟨_,rfl,?_⟩
  replace hS:=hS.nz 2
  refine rE [1] hk fun a hk=>?_
  refine wp_seq ?_
  refine rgL [1] hk ?_
  refine T ?_
  obtain ⟨q8,hq8,ht⟩:=optB_s ht
  refine eC hk (h:=roOut_any P6 q7 _ hq8 hS) (k:=?_)
  rintro _ w ⟨B08,d08,rfl,hS⟩
  refine ⟨_,rfl,?_⟩
  replace hS:=hS.nz 3
  refine T ?_
  refine rE [1,2] hk fun a hk=>?_
  refine wp_seq ?_
  refine wp_seq ?_
  refine rgL [] hk ?_
  refine T ?_
  refine rE [1,2,12] hk fun a hk=>?_
  obtain ⟨r9,hr9,ht⟩:=optB_s ht
  refine wp_cut (fun a_ w_=>Fr a_ 40 [(1,pt P6.g 0),(2,.slice B08 q8.1.length d08)]∧S κ (crA frFn 58 B08 d08 q8.1::roA P6 r9::rowA (.slice (some ⟨g2,0,none⟩) 1 1) 26 3 1 (rowC PtV.cells [(⟨0,1,1⟩:PtV)])::L) (I) w_) ?_ ?_
  ·refine wp_block ?_
   refine wp_loop (fun a_ w_=>∃ k9:Nat,∃ v9x0:RoS,(k9 ≤ (List.range 7).length)∧wakesFL9 ((List.range 7).drop k9) v9x0 = some r9∧Fr a_ 40 [(1,pt P6.g 0),(2,.slice B08 q8.1.length d08),(12,i6 k9)]∧S κ (crA frFn 58 B08 d08 q8.1::roA P6 v9x0::rowA (.slice (some ⟨g2,0,none⟩) 1 1) 26 3 1 (rowC PtV.cells [(⟨0,1,1⟩:PtV)])::L) (I) w_) (fun a_ _=>(List.range 7).length - (intOf (sl a_ 12)).toNat) ?_ ?_
   ·exact ⟨0,q8.2,Nat.zero_le _,hr9,hk.to,hS⟩
   clear hk hS
   rintro aL9 w ⟨k9,v9x0,hkl9,hI9,hk,hS⟩
   have hmu9:=hk.g (s:=12)
   have hlb9:=List.length_range (n:=7)
   refine wp_seq ?_
   refine rgL [] hk ?_
   refine T ?_
   refine rE [1,2,12,13] hk fun a hk=>?_
   refine wp_seq ?_
   refine cD hk (fun hc13=>?_) (fun hc13=>?_)
   ·have hklt:k9 < (List.range 7).length:=by simp only [List.length_range] at *;omega
    rw [drop_at (z:=k9) (by simp at hklt;simp [hklt])] at hI9
    refine wp_skip ?_
    refine wp_seq ?_
    refine wp_block ?_
    refine rgL [1] hk ?_
    refine T ?_
    replace hS:=hS.pk [1] 0
    obtain ⟨q10,hq10,hI9⟩:=optB_s hI9
    refine eC hk (h:=roTick_any P6 v9x0 _ hq10 hS) (k:=?_)
    rintro _ w ⟨rfl,hS⟩
    refine ⟨_,rfl,?_⟩
    replace hS:=hS.nz 3
    refine rE [1,2,12] hk fun a hk=>?_
    refine rgL [] hk ?_
    refine dA hk ?_
    refine T ?_
    refine rE [1,2,12] hk fun a hk=>?_
    replace hS:=hS.pk [1,0,0] 0
    exact ⟨⟨k9 + 1,q10,by omega,hI9,hk.to,hS⟩,mu_lt hk.g hmu9 (by omega)⟩
   obtain rfl:k9 = (List.range 7).length:=by (first | omega | (simp only [List.length_range] at *;omega))
   rw [drop_all (Nat.le_refl _)] at hI9
   refine wp_exit ?_
   obtain rfl:=Option.some.inj hI9
   exact ⟨hk.to,hS⟩
  rintro a w ⟨hk,hS⟩
  refine wp_seq ?_
  refine rgL [1,5,6] hk ?_
  refine T ?_
  replace hS:=hS.pk [1] 0
  obtain ⟨q11,hq11,ht⟩:=optB_s ht
  refine eC hk (h:=roViewAt_any P6 0 r9 _ hq11 hS) (k:=?_)
  rintro _ w ⟨e011,rfl,hS⟩
  refine ⟨_,rfl,?_⟩
  replace hS:=hS.nz 5
  iterate 3 refine T ?_
  refine eA #[i6 0,i6 0,i6 0,i6 0,i6 0,i6 0,i6 0,.slice none 0 0,.slice none 0 0] hS (fun g12 w hS _=>?_)
  refine eS 0 hk hS (fun w hS _=>?_)
  refine T ?_
  refine rE [1,2,3,4] hk fun a hk=>?_
  refine wp_seq ?_
  refine rgL [14] hk ?_
  iterate 4 refine T ?_
  rcases dt ((((q8.1.length:Nat):Int):Int) = 1) with ⟨he,hg3⟩ | ⟨he,hg3⟩
  ·rw [he]
   replace ht:=(if_pos hg3).symm.trans ht
   iterate 3 refine T ?_
   rcases bt q11.2 with hg6 | hg6
   ·refine rwV 4 (.bool q11.2) (.bool true) (by rw [hg6]) ?_
    refine rwV 5 (.bool q11.2) (.bool true) (by rw [hg6]) ?_
    refine rwV 6 (.bool q11.2) (.bool true) (by rw [hg6]) ?_
    replace ht:=(bT hg6).symm.trans ht
    iterate 2 refine T ?_
    refine LD 0 hk hS ?_
    iterate 3 refine T ?_
    rcases dt ((q11.1.i.state:Int) = 4) with ⟨he,hg12⟩ | ⟨he,hg12⟩
    ·rw [he]
     replace ht:=(if_pos hg12).symm.trans ht
     refine T ?_
     replace hS:=hS.pk [3] 0
     obtain ⟨q13,hq13,ht⟩:=optB_s ht
     refine eC hk (h:=roOut_any P6 r9 _ hq13 hS) (k:=?_)
     rintro _ w ⟨B013,d013,rfl,hS⟩
     refine ⟨_,rfl,?_⟩
     replace hS:=hS.nz 7
     iterate 4 refine T ?_
     refine rE [0] hk fun a hk=>?_
     refine wp_ret ?_
     replace hS:=hS.pk [] 7
     obtain rfl:=Option.some.inj ht
     exact rt1 hk (hR_ _ _ ⟨rfl,hS⟩)
    rw [he]
    replace ht:=(if_neg hg12).symm.trans ht
    refine oF 12 34 true [13] ?_
    refine oE 12 34 true ?_
    refine oF 12 34 true [15,16] ?_
    iterate 2 refine T ?_
    refine rE [0] hk fun a hk=>?_
    refine wp_ret ?_
    replace hS:=hS.pk [] 6
    obtain rfl:=Option.some.inj ht
    exact rt1 hk (hR_ _ _ ⟨rfl,hS⟩)
   refine rwV 4 (.bool q11.2) (.bool false) (by rw [hg6]) ?_
   refine rwV 5 (.bool q11.2) (.bool false) (by rw [hg6]) ?_
   refine rwV 6 (.bool q11.2) (.bool false) (by rw [hg6]) ?_
   replace ht:=(bF hg6).symm.trans ht
   refine oF 6 28 true [7,8,9,10] ?_
   iterate 2 refine T ?_
   refine oF 12 34 true [13] ?_
   refine oE 12 34 true ?_
   refine oF 12 34 true [15,16] ?_
   iterate 2 refine T ?_
   refine rE [0] hk fun a hk=>?_
   refine wp_ret ?_
   replace hS:=hS.pk [] 6
   obtain rfl:=Option.some.inj ht
   exact rt1 hk (hR_ _ _ ⟨rfl,hS⟩)
  rw [he]
  replace ht:=(if_neg hg3).symm.trans ht
  refine oF 3 25 true [4] ?_
  iterate 2 refine T ?_
  refine oF 6 28 true [7,8,9,10] ?_
  iterate 2 refine T ?_
  refine oF 12 34 true [13] ?_
  refine oE 12 34 true ?_
  refine oF 12 34 true [15,16] ?_
  iterate 2 refine T ?_
  refine rE [0] hk fun a hk=>?_
  refine wp_ret ?_
  replace hS:=hS.pk [] 6
  obtain rfl:=Option.some.inj ht
  exact rt1 hk (hR_ _ _ ⟨rfl,hS⟩)
def errsFJ6 (c:CoV):Option (Bool):=if (1:Int) ≤ c.id then some (decide ((c.id:Int) ≤ 15)) else some false
def errsFJ10 (v7x0:Bool) (z7:PtV):Option (Bool):=cond v7x0 (some (mayBeF z7)) (some false)
def errsFJ12 (p:PtV) (v7x1:Bool) (z7:PtV):Option (Bool):=cond v7x1 (some true) (some (decide ((z7.lan:Int) = p.lan)))
def errsFL14 (z7:PtV):List PtV → Bool → Option (Bool)
  | [],v14x0=>some v14x0
  | z14::xs14,v14x0=>cond v14x0 (errsFL14 z7 xs14 (decide ((z7.lan:Int) ≠ z14.lan))) (errsFL14 z7 xs14 false)
def errsFL7 (c:CoV) (p:PtV):List PtV → Nat → Bool → Bool → Option (Bool × Bool)
  | [],k7,v7x0,v7x1=>some (v7x0,v7x1)
  | z7::xs7,k7,v7x0,v7x1=>optB (errsFJ10 v7x0 z7) fun r10=>optB (errsFJ12 p v7x1 z7) fun r12=>optB (errsFL14 z7 (c.ports.take k7) r10) fun r14=>errsFL7 c p xs7 (k7 + 1) r14 r12
def errsFJ20 (p:PtV) (r7:Bool × Bool):Option (Int):=cond (mayBeF p) (cond r7.2 (some 0) (some 6)) (some 1)
def errsFJ22 (up:Bool) (r7:Bool × Bool):Option (Int):=cond r7.2 (cond up (some 9) (some 0)) (some 6)
def errsF (c:CoV) (p:PtV) (up:Bool):Option (Bool):=optB (wakesF) fun q4=>cond q4 (if (8:Int) < ((c.ports.length:Nat):Int) then some true else optB (coMakeF c) fun q5=>optB (errsFJ6 c) fun r6=>optB (errsFL7 c p c.ports 0 r6 false) fun r7=>cond (!r7.1) (optE (q5) (some true) fun s17=>some false) (optE (q5) (some false) fun s18=>optB (errsFJ20 p r7) fun r20=>optB (roSetF p s18) fun q21=>if (q21.1:Int) ≠ r20 then some false else optB (errsFJ22 up r7) fun r22=>optB (roPlugF p.lan up q21.2) fun q23=>if (q23.1:Int) ≠ r22 then some false else optB (roViewAtF p.lan q23.2) fun q24=>if q24.2 = r7.2 then cond (!r7.2) (some true) (some (decide (decide ((q24.1.i.state:Int) = 0) = !up))) else some false)) (some false)
theorem errs_any {κ:Kap} {L I:List Atom} (c:CoV) (cp:SlP) (p:PtV) (up:Bool) (W:World) {r_:Bool} (ht:(errsF c p up) = some r_) (hS:S κ (L) ((rdA cp.A cp.c 3 c.ports.length (rowC PtV.cells c.ports))::I) W):
    Calls Tryz.prog 3 #[.agg #[i6 c.id,i6 c.boot,i6 c.room,.slice cp.A c.ports.length cp.c],.agg #[i6 p.lan,i6 p.prio,i6 p.cost],.bool up] W (fun r w'=>r = .returned (.bool r_)∧S κ (L) ((rdA cp.A cp.c 3 c.ports.length (rowC PtV.cells c.ports))::I) w'):=by
 refine wK 128 Tryz.func3 (fun R_ hR_ a hk=>?_)
 refine wp_seq ?_
 refine rgL [0,1] hk ?_
 refine eB hk hS (fun g2 w hS _=>?_)
 refine eB hk hS (fun g3 w hS _=>?_)
 refine T ?_
 refine rE [2,3,4] hk fun a hk=>?_
 refine wp_seq ?_
 refine wp_seq ?_
 refine rgL [0] hk ?_
 obtain ⟨q4,hq4,ht⟩:=optB_s ht
 refine eC hk (h:=wakes_any _ hq4 hS) (k:=?_)
 rintro _ w ⟨rfl,hS⟩
 refine ⟨_,rfl,?_⟩
 replace hS:=hS.nz 2
 refine T ?_
 refine rE [2,3,4,18] hk fun a hk=>?_
 refine cB hk (fun hc18=>?_) (fun hc18=>?_)
 ·replace hc18:=nbt hc18
  replace ht:=(bF hc18).symm.trans ht
  refine wp_seq ?_
  refine rgL [] hk ?_
  refine T ?_
  refine rE [6] hk fun a hk=>?_
  refine wp_ret ?_
  replace hS:=hS.pk [] 2
  obtain rfl:=Option.some.inj ht
  exact rt1 hk (hR_ _ _ ⟨rfl,hS⟩)
 replace hc18:=nbf hc18
 replace ht:=(bT hc18).symm.trans ht
 refine wp_skip ?_
 refine wp_seq ?_
 refine wp_seq ?_
 refine rgL [] hk ?_
 refine T ?_
 refine LD 1 hk hS ?_
 iterate 2 refine T ?_
 refine rE [2,3,4,22] hk fun a hk=>?_
 refine cD hk (fun hc22=>?_) (fun hc22=>?_)
 ·replace ht:=(if_pos hc22).symm.trans ht
  refine wp_seq ?_
  refine rgL [] hk ?_
  refine T ?_
  refine rE [6] hk fun a hk=>?_
  refine wp_ret ?_
  replace hS:=hS.pk [] 2
  obtain rfl:=Option.some.inj ht
  exact rt1 hk (hR_ _ _ ⟨rfl,hS⟩)
 replace ht:=(if_neg hc22).symm.trans ht
 refine wp_skip ?_
 refine wp_seq ?_
 refine rgL [1] hk ?_
 refine LDS 1 4 hk hS ?_
 obtain ⟨q5,hq5,ht⟩:=optB_s ht
 refine eC hk (h:=coMake_any c cp _ hq5 hS) (k:=?_)
 rintro _ w ⟨o05,rfl,hS⟩
 refine ⟨_,rfl,?_⟩
 replace hS:=hS.nz 3
 refine T ?_
 refine rE [2,3,4,7] hk fun a hk=>?_
 refine wp_seq ?_
 obtain ⟨r6,hr6,ht⟩:=optB_s ht
 refine wp_cut (fun a_ w_=>Fr a_ 128 [(2,.bool up),(3,pt g2 0),(4,pt g3 0),(7,ptR o05),(8,.bool r6)]∧S κ ((optR roA o05 q5)::blkA g3 26 #[i6 p.lan,i6 p.prio,i6 p.cost]::blkA g2 24 #[i6 c.id,i6 c.boot,i6 c.room,.slice cp.A c.ports.length cp.c]::L) ((rdA cp.A cp.c 3 c.ports.length (rowC PtV.cells c.ports))::I) w_) ?_ ?_
 ·have hI6:=hr6
  refine rgL [] hk ?_
  refine T ?_
  refine LD 2 hk hS ?_
  iterate 2 refine T ?_
  rcases dt ((1:Int) ≤ c.id) with ⟨he,hg3⟩ | ⟨he,hg3⟩
  ·rw [he]
   replace hI6:=(if_pos hg3).symm.trans hI6
   refine T ?_
   refine LD 2 hk hS ?_
   iterate 3 refine T ?_
   refine rE [2,3,4,7,8] hk fun a hk=>?_
   obtain rfl:=Option.some.inj hI6
   exact ⟨hk.to,hS⟩
  rw [he]
  replace hI6:=(if_neg hg3).symm.trans hI6
  refine oF 3 28 true [4,5,6] ?_
  iterate 2 refine T ?_
  refine rE [2,3,4,7,8] hk fun a hk=>?_
  obtain rfl:=Option.some.inj hI6
  exact ⟨hk.to,hS⟩
 rintro a w ⟨hk,hS⟩
 refine wp_seq ?_
 refine rgL [] hk ?_
 refine T ?_
 refine rE [2,3,4,7,8,9] hk fun a hk=>?_
 refine wp_seq ?_
 refine wp_seq ?_
 refine rgL [] hk ?_
 refine T ?_
 refine LD 2 hk hS ?_
 iterate 2 refine T ?_
 refine rE [2,3,4,7,8,9,34,35,36] hk fun a hk=>?_
 obtain ⟨r7,hr7,ht⟩:=optB_s ht
 refine wp_cut (fun a_ w_=>Fr a_ 128 [(2,.bool up),(4,pt g3 0),(7,ptR o05),(8,.bool r7.1),(9,.bool r7.2)]∧S κ ((optR roA o05 q5)::blkA g3 26 #[i6 p.lan,i6 p.prio,i6 p.cost]::blkA g2 24 #[i6 c.id,i6 c.boot,i6 c.room,.slice cp.A c.ports.length cp.c]::L) ((rdA cp.A cp.c 3 c.ports.length (rowC PtV.cells c.ports))::I) w_) ?_ ?_
 ·refine wp_block ?_
  refine wp_loop (fun a_ w_=>∃ k7:Nat,∃ v7x0:Bool,∃ v7x1:Bool,(k7 ≤ (c.ports).length)∧errsFL7 c p ((c.ports).drop k7) k7 v7x0 v7x1 = some r7∧Fr a_ 128 [(2,.bool up),(3,pt g2 0),(4,pt g3 0),(7,ptR o05),(8,.bool v7x0),(9,.bool v7x1),(34,.slice cp.A c.ports.length cp.c),(35,i6 ((c.ports.length:Nat):Int)),(36,i6 k7)]∧S κ ((optR roA o05 q5)::blkA g3 26 #[i6 p.lan,i6 p.prio,i6 p.cost]::blkA g2 24 #[i6 c.id,i6 c.boot,i6 c.room,.slice cp.A c.ports.length cp.c]::L) ((rdA cp.A cp.c 3 c.ports.length (rowC PtV.cells c.ports))::I) w_) (fun a_ _=>(c.ports).length - (intOf (sl a_ 36)).toNat) ?_ ?_
  ·exact ⟨0,r6,false,Nat.zero_le _,hr7,hk.to,hS⟩
  clear hk hS
  rintro aL7 w ⟨k7,v7x0,v7x1,hkl7,hI7,hk,hS⟩
  have hmu7:=hk.g (s:=36)
  have hlb7:=hS.rdLen (i:=0) rfl
  refine wp_seq ?_
  refine rgL [] hk ?_
  refine T ?_
  refine rE [2,3,4,7,8,9,34,35,36,37] hk fun a hk=>?_
  refine wp_seq ?_
  refine cD hk (fun hc37=>?_) (fun hc37=>?_)
  ·obtain ⟨z7,hz7⟩:=at_k (show k7 < (c.ports).length by omega)
   rw [drop_at hz7] at hI7
   refine wp_skip ?_
   refine wp_seq ?_
   refine wp_block ?_
   refine wp_seq ?_
   refine rgL [3,5] hk ?_
   refine T ?_
   refine dX PtV.cells_len' hk (hS.rdR (i:=0) rfl) (fun b8 o8 z8 hz8 hq8=>?_)
   obtain rfl:z7 = z8:=Option.some.inj (hz7.symm.trans hz8)
   refine dV 3 hq8 hk ?_
   refine eA #[i6 0,i6 0,i6 0] hS (fun g9 w hS _=>?_)
   refine T ?_
   refine eS 0 hk hS (fun w hS _=>?_)
   refine rE [2,3,4,7,8,9,10,11,34,35,36] hk fun a hk=>?_
   refine wp_seq ?_
   obtain ⟨r10,hr10,hI7⟩:=optB_s hI7
   refine wp_cut (fun a_ w_=>Fr a_ 128 [(2,.bool up),(3,pt g2 0),(4,pt g3 0),(7,ptR o05),(8,.bool r10),(9,.bool v7x1),(10,i6 k7),(11,pt g9 0),(34,.slice cp.A c.ports.length cp.c),(35,i6 ((c.ports.length:Nat):Int)),(36,i6 k7)]∧S κ (blkA g9 26 #[i6 z7.lan,i6 z7.prio,i6 z7.cost]::(optR roA o05 q5)::blkA g3 26 #[i6 p.lan,i6 p.prio,i6 p.cost]::blkA g2 24 #[i6 c.id,i6 c.boot,i6 c.room,.slice cp.A c.ports.length cp.c]::L) ((rdA cp.A cp.c 3 c.ports.length (rowC PtV.cells c.ports))::I) w_) ?_ ?_
   ·have hI10:=hr10
    refine rgL [3] hk ?_
    iterate 2 refine T ?_
    rcases bt v7x0 with hg1 | hg1
    ·refine rwV 0 (.bool v7x0) (.bool true) (by rw [hg1]) ?_
     refine rwV 1 (.bool v7x0) (.bool true) (by rw [hg1]) ?_
     replace hI10:=(bT hg1).symm.trans hI10
     refine LDS 0 3 hk hS ?_
     refine eC hk (h:=mayBe_any z7 _ hS) (k:=?_)
     rintro _ w ⟨rfl,hS⟩
     refine ⟨_,rfl,?_⟩
     replace hS:=hS.nz 4
     iterate 2 refine T ?_
     refine rE [2,3,4,7,8,9,10,11,34,35,36] hk fun a hk=>?_
     obtain rfl:=Option.some.inj hI10
     exact ⟨hk.to,hS⟩
    refine rwV 0 (.bool v7x0) (.bool false) (by rw [hg1]) ?_
    refine rwV 1 (.bool v7x0) (.bool false) (by rw [hg1]) ?_
    replace hI10:=(bF hg1).symm.trans hI10
    refine oF 1 42 true [2] ?_
    refine oE 1 42 true ?_
    iterate 2 refine T ?_
    refine rE [2,3,4,7,8,9,10,11,34,35,36] hk fun a hk=>?_
    obtain rfl:=Option.some.inj hI10
    exact ⟨hk.to,hS⟩
   rintro a w ⟨hk,hS⟩
   refine wp_seq ?_
   obtain ⟨r12,hr12,hI7⟩:=optB_s hI7
   refine wp_cut (fun a_ w_=>Fr a_ 128 [(2,.bool up),(3,pt g2 0),(4,pt g3 0),(7,ptR o05),(8,.bool r10),(9,.bool r12),(10,i6 k7),(11,pt g9 0),(34,.slice cp.A c.ports.length cp.c),(35,i6 ((c.ports.length:Nat):Int)),(36,i6 k7)]∧S κ (blkA g9 26 #[i6 z7.lan,i6 z7.prio,i6 z7.cost]::(optR roA o05 q5)::blkA g3 26 #[i6 p.lan,i6 p.prio,i6 p.cost]::blkA g2 24 #[i6 c.id,i6 c.boot,i6 c.room,.slice cp.A c.ports.length cp.c]::L) ((rdA cp.A cp.c 3 c.ports.length (rowC PtV.cells c.ports))::I) w_) ?_ ?_
   ·have hI12:=hr12
    refine rgL [] hk ?_
    iterate 2 refine T ?_
    rcases bt v7x1 with hg1 | hg1
    ·refine rwV 0 (.bool v7x1) (.bool true) (by rw [hg1]) ?_
     refine rwV 1 (.bool v7x1) (.bool true) (by rw [hg1]) ?_
     replace hI12:=(bT hg1).symm.trans hI12
     refine oF 1 47 false [2,3,4,5,6] ?_
     iterate 2 refine T ?_
     refine rE [2,3,4,7,8,9,10,11,34,35,36] hk fun a hk=>?_
     obtain rfl:=Option.some.inj hI12
     exact ⟨hk.to,hS⟩
    refine rwV 0 (.bool v7x1) (.bool false) (by rw [hg1]) ?_
    refine rwV 1 (.bool v7x1) (.bool false) (by rw [hg1]) ?_
    replace hI12:=(bF hg1).symm.trans hI12
    refine T ?_
    refine LD 0 hk hS ?_
    refine T ?_
    refine LD 2 hk hS ?_
    iterate 3 refine T ?_
    refine rE [2,3,4,7,8,9,10,11,34,35,36] hk fun a hk=>?_
    obtain rfl:=Option.some.inj hI12
    exact ⟨hk.to,hS⟩
   rintro a w ⟨hk,hS⟩
   refine wp_seq ?_
   refine rgL [] hk ?_
   refine T ?_
   refine LD 3 hk hS ?_
   refine T ?_
   have hcp13:=hS.rdCap (i:=0) rfl
   have hle13:k7 ≤ c.ports.length:=by first | omega | simp_all
   refine rD (.slice (cutA cp.A 0 cp.c 3) ((c.ports.take k7).length) (cp.c - 0)) (fun _ h_=>rk (by rw [show (c.ports.take k7).length = k7 by rw [List.length_take];omega];exact run_cutH (s:=3) rfl (h_.x hk) (h_.x hk) (by omega) rfl (by kernel_rfl) (by kernel_rfl))) ?_
   iterate 2 refine T ?_
   refine rE [2,3,4,7,8,9,11,34,35,36,57,58,59] hk fun a hk=>?_
   obtain ⟨r14,hr14,hI7⟩:=optB_s hI7
   refine wp_cut (fun a_ w_=>Fr a_ 128 [(2,.bool up),(3,pt g2 0),(4,pt g3 0),(7,ptR o05),(8,.bool r14),(9,.bool r12),(34,.slice cp.A c.ports.length cp.c),(35,i6 ((c.ports.length:Nat):Int)),(36,i6 k7)]∧S κ (blkA g9 26 #[i6 z7.lan,i6 z7.prio,i6 z7.cost]::(optR roA o05 q5)::blkA g3 26 #[i6 p.lan,i6 p.prio,i6 p.cost]::blkA g2 24 #[i6 c.id,i6 c.boot,i6 c.room,.slice cp.A c.ports.length cp.c]::L) ((rdA cp.A cp.c 3 c.ports.length (rowC PtV.cells c.ports))::I) w_) ?_ ?_
   ·refine wp_block ?_
    refine wp_loop (fun a_ w_=>∃ k14:Nat,∃ v14x0:Bool,(k14 ≤ ((c.ports.take k7)).length)∧errsFL14 z7 (((c.ports.take k7)).drop k14) v14x0 = some r14∧Fr a_ 128 [(2,.bool up),(3,pt g2 0),(4,pt g3 0),(7,ptR o05),(8,.bool v14x0),(9,.bool r12),(11,pt g9 0),(34,.slice cp.A c.ports.length cp.c),(35,i6 ((c.ports.length:Nat):Int)),(36,i6 k7),(57,.slice (cutA cp.A 0 cp.c 3) ((c.ports.take k7).length) (cp.c - 0)),(58,i6 (((c.ports.take k7).length:Nat):Int)),(59,i6 k14)]∧S κ (blkA g9 26 #[i6 z7.lan,i6 z7.prio,i6 z7.cost]::(optR roA o05 q5)::blkA g3 26 #[i6 p.lan,i6 p.prio,i6 p.cost]::blkA g2 24 #[i6 c.id,i6 c.boot,i6 c.room,.slice cp.A c.ports.length cp.c]::L) ((rdA cp.A cp.c 3 c.ports.length (rowC PtV.cells c.ports))::I) w_) (fun a_ _=>((c.ports.take k7)).length - (intOf (sl a_ 59)).toNat) ?_ ?_
    ·exact ⟨0,r10,Nat.zero_le _,hr14,hk.to,hS⟩
    clear hk hS
    rintro aL14 w ⟨k14,v14x0,hkl14,hI14,hk,hS⟩
    have hmu14:=hk.g (s:=59)
    have hlb14:(c.ports.take k7).length ≤ 9223372036854775807:=by rw [List.length_take];have:=hS.rdLen (i:=0) rfl;omega
    refine wp_seq ?_
    refine rgL [] hk ?_
    refine T ?_
    refine rE [2,3,4,7,8,9,11,34,35,36,57,58,59,60] hk fun a hk=>?_
    refine wp_seq ?_
    refine cD hk (fun hc60=>?_) (fun hc60=>?_)
    ·obtain ⟨z14,hz14⟩:=at_k (show k14 < ((c.ports.take k7)).length by omega)
     rw [drop_at hz14] at hI14
     refine wp_skip ?_
     refine wp_seq ?_
     refine wp_block ?_
     refine wp_seq ?_
     refine rgL [2,3] hk ?_
     refine dX PtV.cells_len' hk (show Reads _ _ 3 (cutA cp.A 0 cp.c 3) (c.ports.take k7).length (RowFn.f PtV.cells_fn (c.ports.take k7)) from Reads.part PtV.cells_fn (hS.rdR (i:=0) rfl) (Nat.zero_le _) hle13 hcp13) (fun b15 o15 z15 hz15 hq15=>?_)
     obtain rfl:z14 = z15:=Option.some.inj (hz14.symm.trans hz15)
     refine dV 3 hq15 hk ?_
     refine eA #[i6 0,i6 0,i6 0] hS (fun g16 w hS _=>?_)
     refine eS 0 hk hS (fun w hS _=>?_)
     refine rE [2,3,4,7,8,9,11,13,34,35,36,57,58,59] hk fun a hk=>?_
     refine rgL [] hk ?_
     iterate 2 refine T ?_
     rcases bt v14x0 with hg1 | hg1
     ·refine rwV 0 (.bool v14x0) (.bool true) (by rw [hg1]) ?_
      refine rwV 1 (.bool v14x0) (.bool true) (by rw [hg1]) ?_
      replace hI14:=(bT hg1).symm.trans hI14
      refine T ?_
      refine LD 1 hk hS ?_
      refine T ?_
      refine LD 0 hk hS ?_
      iterate 3 refine T ?_
      refine rE [2,3,4,7,8,9,11,34,35,36,57,58,59] hk fun a hk=>?_
      refine rgL [] hk ?_
      refine dA hk ?_
      refine T ?_
      refine rE [2,3,4,7,8,9,11,34,35,36,57,58,59] hk fun a hk=>?_
      replace hS:=hS.pk [1,1,1,1] 1
      exact ⟨⟨k14 + 1,(decide ((z7.lan:Int) ≠ z14.lan)),by omega,hI14,hk.to,hS⟩,mu_lt hk.g hmu14 (by omega)⟩
     refine rwV 0 (.bool v14x0) (.bool false) (by rw [hg1]) ?_
     refine rwV 1 (.bool v14x0) (.bool false) (by rw [hg1]) ?_
     replace hI14:=(bF hg1).symm.trans hI14
     refine oF 1 64 true [2,3,4,5,6] ?_
     iterate 2 refine T ?_
     refine rE [2,3,4,7,8,9,11,34,35,36,57,58,59] hk fun a hk=>?_
     refine rgL [] hk ?_
     refine dA hk ?_
     refine T ?_
     refine rE [2,3,4,7,8,9,11,34,35,36,57,58,59] hk fun a hk=>?_
     replace hS:=hS.pk [1,1,1,1] 1
     exact ⟨⟨k14 + 1,false,by omega,hI14,hk.to,hS⟩,mu_lt hk.g hmu14 (by omega)⟩
    obtain rfl:k14 = ((c.ports.take k7)).length:=by omega
    rw [drop_all (Nat.le_refl _)] at hI14
    refine wp_exit ?_
    obtain rfl:=Option.some.inj hI14
    exact ⟨hk.to,hS⟩
   rintro a w ⟨hk,hS⟩
   refine rgL [] hk ?_
   refine dA hk ?_
   refine T ?_
   refine rE [2,3,4,7,8,9,34,35,36] hk fun a hk=>?_
   replace hS:=hS.pk [1,1,1] 1
   exact ⟨⟨k7 + 1,r14,r12,by omega,hI7,hk.to,hS⟩,mu_lt hk.g hmu7 (by omega)⟩
  obtain rfl:k7 = (c.ports).length:=by omega
  rw [drop_all (Nat.le_refl _)] at hI7
  refine wp_exit ?_
  obtain rfl:=Option.some.inj hI7
  exact ⟨hk.to,hS⟩
 rintro a w ⟨hk,hS⟩
 refine wp_seq ?_
 refine wp_seq ?_
 refine rgL [] hk ?_
 iterate 3 refine T ?_
 rcases bt (!r7.1) with hg2 | hg2
 ·refine rwV 1 (.bool (!r7.1)) (.bool true) (by rw [hg2]) ?_
  refine rwV 2 (.bool (!r7.1)) (.bool true) (by rw [hg2]) ?_
  replace ht:=(bT hg2).symm.trans ht
  refine oF 2 75 false [3,4] ?_
  refine T ?_
  refine rE [2,4,7,8,9,78] hk fun a hk=>?_
  refine cT hk ?_
  refine wp_seq ?_
  refine rgL [] hk ?_
  iterate 3 refine T ?_
  refine rwV 1 (.bool (!r7.1)) (.bool true) (by rw [hg2]) ?_
  refine rwV 2 (.bool (!r7.1)) (.bool true) (by rw [hg2]) ?_
  refine T ?_
  rcases optR_cases hS with ⟨ho17,hs17,hS⟩ | ⟨P17,s17,ho17,hs17,hS⟩
  ·replace ht:=(optE_n hs17).symm.trans ht
   rw [ho17] at hk
   replace hk:Fr a 128 [(2,.bool up),(4,pt g3 0),(7,.pointer none),(8,.bool r7.1),(9,.bool r7.2),(78,.bool true)]:=hk.to
   refine rwV 3 (ptR o05) (.pointer none) (by rw [ho17];rfl) ?_
   refine rD (.bool true) (fun _ h_=>r_ok (h_.on 2 81) (run_bin2 rfl (h_.x hk) rfl (fun _=>by kernel_rfl) (fun _=>rfl))) ?_
   iterate 2 refine T ?_
   refine rE [6] hk fun a hk=>?_
   refine wp_ret ?_
   replace hS:=hS.pk [] 2
   obtain rfl:=Option.some.inj ht
   exact rt1 hk (hR_ _ _ ⟨rfl,hS⟩)
  ·replace ht:=(optE_s hs17).symm.trans ht
   rw [ho17] at hk
   replace hk:Fr a 128 [(2,.bool up),(4,pt g3 0),(7,pt P17.g 0),(8,.bool r7.1),(9,.bool r7.2),(78,.bool true)]:=hk.to
   refine rwV 3 (ptR o05) (pt P17.g 0) (by rw [ho17];rfl) ?_
   refine rD (.bool false) (fun _ h_=>r_ok (h_.on 2 81) (run_bin2 rfl (h_.x hk) rfl (fun _=>by kernel_rfl) (fun _=>rfl))) ?_
   iterate 2 refine T ?_
   refine rE [6] hk fun a hk=>?_
   refine wp_ret ?_
   replace hS:=hS.pk [] 3
   obtain rfl:=Option.some.inj ht
   exact rt1 hk (hR_ _ _ ⟨rfl,hS⟩)
 refine rwV 1 (.bool (!r7.1)) (.bool false) (by rw [hg2]) ?_
 refine rwV 2 (.bool (!r7.1)) (.bool false) (by rw [hg2]) ?_
 replace ht:=(bF hg2).symm.trans ht
 refine T ?_
 rcases optR_cases hS with ⟨ho18,hs18,hS⟩ | ⟨P18,s18,ho18,hs18,hS⟩
 ·replace ht:=(optE_n hs18).symm.trans ht
  rw [ho18] at hk
  replace hk:Fr a 128 [(2,.bool up),(4,pt g3 0),(7,.pointer none),(8,.bool r7.1),(9,.bool r7.2)]:=hk.to
  refine rwV 3 (ptR o05) (.pointer none) (by rw [ho18];rfl) ?_
  refine rD (.bool true) (fun _ h_=>r_ok (h_.on 2 75) (run_bin2 rfl (h_.x hk) rfl (fun _=>by kernel_rfl) (fun _=>rfl))) ?_
  refine T ?_
  refine rE [2,4,7,8,9,78] hk fun a hk=>?_
  refine cT hk ?_
  refine wp_seq ?_
  refine rgL [] hk ?_
  iterate 3 refine T ?_
  refine rwV 1 (.bool (!r7.1)) (.bool false) (by rw [hg2]) ?_
  refine rwV 2 (.bool (!r7.1)) (.bool false) (by rw [hg2]) ?_
  refine oF 2 81 true [3,4] ?_
  iterate 2 refine T ?_
  refine rE [6] hk fun a hk=>?_
  refine wp_ret ?_
  replace hS:=hS.pk [] 2
  obtain rfl:=Option.some.inj ht
  exact rt1 hk (hR_ _ _ ⟨rfl,hS⟩)
 ·replace ht:=(optE_s hs18).symm.trans ht
  rw [ho18] at hk
  replace hk:Fr a 128 [(2,.bool up),(4,pt g3 0),(7,pt P18.g 0),(8,.bool r7.1),(9,.bool r7.2)]:=hk.to
  refine rwV 3 (ptR o05) (pt P18.g 0) (by rw [ho18];rfl) ?_
  refine rD (.bool false) (fun _ h_=>r_ok (h_.on 2 75) (run_bin2 rfl (h_.x hk) rfl (fun _=>by kernel_rfl) (fun _=>rfl))) ?_
  refine T ?_
  refine rE [2,4,7,8,9,78] hk fun a hk=>?_
  refine cF hk ?_
  refine wp_skip ?_
  refine wp_seq ?_
  refine rgL [] hk ?_
  refine T ?_
  refine rE [2,4,7,9,14] hk fun a hk=>?_
  refine wp_seq ?_
  refine wp_seq ?_
  refine rgL [1] hk ?_
  refine LDS 1 3 hk hS ?_
  refine eC hk (h:=mayBe_any p _ hS) (k:=?_)
  rintro _ w ⟨rfl,hS⟩
  refine ⟨_,rfl,?_⟩
  replace hS:=hS.nz 3
  refine T ?_
  refine rE [2,4,7,9,14,87] hk fun a hk=>?_
  obtain ⟨r20,hr20,ht⟩:=optB_s ht
  refine wp_cut (fun a_ w_=>Fr a_ 128 [(2,.bool up),(4,pt g3 0),(7,pt P18.g 0),(9,.bool r7.2),(14,i6 r20)]∧S κ (roA P18 s18::blkA g3 26 #[i6 p.lan,i6 p.prio,i6 p.cost]::blkA g2 24 #[i6 c.id,i6 c.boot,i6 c.room,.slice cp.A c.ports.length cp.c]::L) ((rdA cp.A cp.c 3 c.ports.length (rowC PtV.cells c.ports))::I) w_) ?_ ?_
  ·have hI20:=hr20
   refine cB hk (fun hc87=>?_) (fun hc87=>?_)
   ·replace hc87:=nbt hc87
    replace hI20:=(bF hc87).symm.trans hI20
    refine rgL [] hk ?_
    refine T ?_
    refine rE [2,4,7,9,14] hk fun a hk=>?_
    obtain rfl:=Option.some.inj hI20
    exact ⟨hk.to,hS⟩
   replace hc87:=nbf hc87
   replace hI20:=(bT hc87).symm.trans hI20
   refine wp_seq ?_
   refine rgL [] hk ?_
   iterate 2 refine T ?_
   refine rE [2,4,7,9,14,89] hk fun a hk=>?_
   refine cB hk (fun hc89=>?_) (fun hc89=>?_)
   ·replace hc89:=nbt hc89
    replace hI20:=(bF hc89).symm.trans hI20
    refine rgL [] hk ?_
    refine T ?_
    refine rE [2,4,7,9,14] hk fun a hk=>?_
    obtain rfl:=Option.some.inj hI20
    exact ⟨hk.to,hS⟩
   replace hc89:=nbf hc89
   replace hI20:=(bT hc89).symm.trans hI20
   refine wp_skip ?_
   obtain rfl:=Option.some.inj hI20
   exact ⟨hk.to,hS⟩
  rintro a w ⟨hk,hS⟩
  refine wp_seq ?_
  refine wp_seq ?_
  refine rgL [2] hk ?_
  refine T ?_
  refine LDS 1 3 hk hS ?_
  obtain ⟨q21,hq21,ht⟩:=optB_s ht
  refine eC hk (h:=roSet_any P18 p s18 _ hq21 hS) (k:=?_)
  rintro _ w ⟨rfl,hS⟩
  refine ⟨_,rfl,?_⟩
  replace hS:=hS.nz 3
  iterate 2 refine T ?_
  refine rE [2,4,7,9,94] hk fun a hk=>?_
  refine cD hk (fun hc94=>?_) (fun hc94=>?_)
  ·replace ht:=(if_pos hc94).symm.trans ht
   refine wp_seq ?_
   refine rgL [] hk ?_
   refine T ?_
   refine rE [6] hk fun a hk=>?_
   refine wp_ret ?_
   replace hS:=hS.pk [] 3
   obtain rfl:=Option.some.inj ht
   exact rt1 hk (hR_ _ _ ⟨rfl,hS⟩)
  replace ht:=(if_neg hc94).symm.trans ht
  refine wp_skip ?_
  refine wp_seq ?_
  refine rgL [] hk ?_
  refine T ?_
  refine rE [2,4,7,9,14] hk fun a hk=>?_
  refine wp_seq ?_
  refine wp_seq ?_
  refine rgL [] hk ?_
  iterate 2 refine T ?_
  refine rE [2,4,7,9,14,96] hk fun a hk=>?_
  obtain ⟨r22,hr22,ht⟩:=optB_s ht
  refine wp_cut (fun a_ w_=>Fr a_ 128 [(2,.bool up),(4,pt g3 0),(7,pt P18.g 0),(9,.bool r7.2),(14,i6 r22)]∧S κ (roA P18 q21.2::blkA g3 26 #[i6 p.lan,i6 p.prio,i6 p.cost]::blkA g2 24 #[i6 c.id,i6 c.boot,i6 c.room,.slice cp.A c.ports.length cp.c]::L) ((rdA cp.A cp.c 3 c.ports.length (rowC PtV.cells c.ports))::I) w_) ?_ ?_
  ·have hI22:=hr22
   refine cB hk (fun hc96=>?_) (fun hc96=>?_)
   ·replace hc96:=nbt hc96
    replace hI22:=(bF hc96).symm.trans hI22
    refine rgL [] hk ?_
    refine T ?_
    refine rE [2,4,7,9,14] hk fun a hk=>?_
    obtain rfl:=Option.some.inj hI22
    exact ⟨hk.to,hS⟩
   replace hc96:=nbf hc96
   replace hI22:=(bT hc96).symm.trans hI22
   refine wp_seq ?_
   refine rgL [] hk ?_
   refine T ?_
   refine rE [2,4,7,9,14,97] hk fun a hk=>?_
   refine cB hk (fun hc97=>?_) (fun hc97=>?_)
   ·replace hI22:=(bT hc97).symm.trans hI22
    refine rgL [] hk ?_
    refine T ?_
    refine rE [2,4,7,9,14] hk fun a hk=>?_
    obtain rfl:=Option.some.inj hI22
    exact ⟨hk.to,hS⟩
   replace hI22:=(bF hc97).symm.trans hI22
   refine wp_skip ?_
   obtain rfl:=Option.some.inj hI22
   exact ⟨hk.to,hS⟩
  rintro a w ⟨hk,hS⟩
  refine wp_seq ?_
  refine wp_seq ?_
  refine rgL [4] hk ?_
  iterate 2 refine T ?_
  refine LD 1 hk hS ?_
  refine T ?_
  obtain ⟨q23,hq23,ht⟩:=optB_s ht
  refine eC hk (h:=roPlug_any P18 p.lan up q21.2 _ hq23 hS) (k:=?_)
  rintro _ w ⟨rfl,hS⟩
  refine ⟨_,rfl,?_⟩
  replace hS:=hS.nz 3
  iterate 2 refine T ?_
  refine rE [2,4,7,9,104] hk fun a hk=>?_
  refine cD hk (fun hc104=>?_) (fun hc104=>?_)
  ·replace ht:=(if_pos hc104).symm.trans ht
   refine wp_seq ?_
   refine rgL [] hk ?_
   refine T ?_
   refine rE [6] hk fun a hk=>?_
   refine wp_ret ?_
   replace hS:=hS.pk [] 3
   obtain rfl:=Option.some.inj ht
   exact rt1 hk (hR_ _ _ ⟨rfl,hS⟩)
  replace ht:=(if_neg hc104).symm.trans ht
  refine wp_skip ?_
  refine wp_seq ?_
  refine rgL [3,7,8] hk ?_
  iterate 2 refine T ?_
  refine LD 1 hk hS ?_
  obtain ⟨q24,hq24,ht⟩:=optB_s ht
  refine eC hk (h:=roViewAt_any P18 p.lan q23.2 _ hq24 hS) (k:=?_)
  rintro _ w ⟨e024,rfl,hS⟩
  refine ⟨_,rfl,?_⟩
  replace hS:=hS.nz 5
  iterate 3 refine T ?_
  refine eA #[i6 0,i6 0,i6 0,i6 0,i6 0,i6 0,i6 0,.slice none 0 0,.slice none 0 0] hS (fun g25 w hS _=>?_)
  refine eS 0 hk hS (fun w hS _=>?_)
  refine T ?_
  refine rE [2,9,15,16] hk fun a hk=>?_
  refine wp_seq ?_
  refine rgL [] hk ?_
  iterate 2 refine T ?_
  refine rD (.bool (decide (q24.2 = r7.2))) (fun _ h_=>rk (run_bin2 rfl (h_.x hk) (h_.x hk) (fun _=>rfl) (bool_eql _ _))) ?_
  refine T ?_
  rcases dt (q24.2 = r7.2) with ⟨he,hg3⟩ | ⟨he,hg3⟩
  ·rw [he]
   replace ht:=(if_pos hg3).symm.trans ht
   iterate 3 refine T ?_
   rcases bt (!r7.2) with hg6 | hg6
   ·refine rwV 5 (.bool (!r7.2)) (.bool true) (by rw [hg6]) ?_
    refine rwV 6 (.bool (!r7.2)) (.bool true) (by rw [hg6]) ?_
    replace ht:=(bT hg6).symm.trans ht
    refine oF 6 118 false [7,8,9,10,11,12,13] ?_
    iterate 3 refine T ?_
    refine rE [6] hk fun a hk=>?_
    refine wp_ret ?_
    replace hS:=hS.pk [] 6
    obtain rfl:=Option.some.inj ht
    exact rt1 hk (hR_ _ _ ⟨rfl,hS⟩)
   refine rwV 5 (.bool (!r7.2)) (.bool false) (by rw [hg6]) ?_
   refine rwV 6 (.bool (!r7.2)) (.bool false) (by rw [hg6]) ?_
   replace ht:=(bF hg6).symm.trans ht
   iterate 2 refine T ?_
   refine LD 0 hk hS ?_
   iterate 3 refine T ?_
   refine rD (.bool (decide (decide ((q24.1.i.state:Int) = 0) = !up))) (fun _ h_=>r_ok (h_.on 6 118) (run_bin2 rfl (h_.x hk) (h_.x hk) (fun _=>rfl) (bool_eql _ _))) ?_
   iterate 3 refine T ?_
   refine rE [6] hk fun a hk=>?_
   refine wp_ret ?_
   replace hS:=hS.pk [] 6
   obtain rfl:=Option.some.inj ht
   exact rt1 hk (hR_ _ _ ⟨rfl,hS⟩)
  rw [he]
  replace ht:=(if_neg hg3).symm.trans ht
  refine oF 3 115 true [4,5,6] ?_
  refine oF 6 118 false [7,8,9,10,11,12,13] ?_
  refine oF 3 115 true [14] ?_
  iterate 2 refine T ?_
  refine rE [6] hk fun a hk=>?_
  refine wp_ret ?_
  replace hS:=hS.pk [] 6
  obtain rfl:=Option.some.inj ht
  exact rt1 hk (hR_ _ _ ⟨rfl,hS⟩)
end
theorem wakes_true:wakesF = some true:=by decide +kernel
def PoUp (x:PoS):Prop:=x.p.l = List.replicate 16 none∧x.i.state ≠ 0
structure Lone (s:RoS):Prop where
  len:s.ports.length = 4
  up:∀ i x,lookP s.ports i = some x → PoUp x
  w:s.w.length ≤ 100000
theorem peL_quiet {pr:PeV → Bool} {p:PeS} (h:p.l = List.replicate 16 none):peL pr p = []:=by unfold peL;rw [h];rfl
theorem look_set {α:Type} {l:List (Option α)} {i j:Int} {x y:α} (h:lookP l i = some x):lookP (l.set i.toNat (some y)) j = if 0 ≤ j∧j.toNat = i.toNat then some y else lookP l j:=by
  obtain ⟨h0,h1⟩:=lookP_some h
  have hlt:=(List.getElem?_eq_some_iff.1 h1).1
  unfold lookP
  by_cases hj:0 ≤ j
  · rw [if_pos hj,if_pos hj,List.getD_eq_getElem?_getD,List.getD_eq_getElem?_getD,List.getElem?_set]
    by_cases e:i.toNat = j.toNat
    · rw [if_pos e,if_pos (by omega),if_pos ⟨hj,e.symm⟩];rfl
    · rw [if_neg e,if_neg fun h=>e h.2.symm]
  · rw [if_neg hj,if_neg hj,if_neg fun h=>hj h.1]
theorem Lone.set {s:RoS} (h:Lone s) {i:Int} {x y:PoS} (hx:lookP s.ports i = some x) (hy:PoUp y):Lone { s with ports:=s.ports.set i.toNat (some y) }:=by
  refine ⟨by rw [List.length_set];exact h.len,fun j z hz=>?_,h.w⟩
  simp only at hz
  rw [look_set hx] at hz
  split at hz
  · cases hz;exact hy
  · exact h.up j z hz
theorem step4 (i:IfV) (h:i.state ≠ 0):(stepF i 4 []).state ≠ 0:=by
  unfold stepF
  rw [if_neg (by decide)]
  split
  · rename_i h1
    unfold whichF at h1
    split at h1
    · rename_i h2;exact absurd h2.1 h
    · split at h1 <;> cases h1
  · split
    · unfold voteF
      simp only
      split
      · decide
      · split <;> decide
    · exact h
theorem elect_lone {s:RoS} {pk ev:Int} {x:PoS} (hx:lookP s.ports pk = some x) (hq:x.p.l = List.replicate 16 none):roElectF pk ev s = some (if (ifaceStepF x.i ev []).2 = true then { s with ports:=s.ports.set pk.toNat (some { x with i:=(ifaceStepF x.i ev []).1 }) } else s):=by
  unfold roElectF
  rw [optB_eq hx]
  have h1:candL x.p = []:=by unfold candL;rw [peL_quiet hq];rfl
  have h2:peAll x.p = []:=peL_quiet hq
  simp only [letP,h1,h2,List.length_nil]
  rw [if_pos (by decide)]
  cases h:(ifaceStepF x.i ev []).2 <;> rfl
theorem set_lone {s:RoS} {p:PtV} (h:Lone s):(lookP s.ports p.lan = none∧roSetF p s = some (if roRightF p = true then 6 else 1,s)) ∨ ∃ x s' x',lookP s.ports p.lan = some x∧roSetF p s = some (if roRightF p = true then 0 else 1,s')∧Lone s'∧lookP s'.ports p.lan = some x':=by
  unfold roSetF
  cases hr:roRightF p with
  | false=>
    cases hl:lookP s.ports p.lan with
    | none=>exact .inl ⟨rfl,rfl⟩
    | some x=>exact .inr ⟨x,s,x,rfl,rfl,h,hl⟩
  | true=>
    cases hl:lookP s.ports p.lan with
    | none=>exact .inl ⟨rfl,rfl⟩
    | some x=>
      have hu:=h.up _ _ hl
      refine .inr ?_
      have e1:=lookP_set ({ x with pt:=p,i:=(⟨x.i.self,p.prio,x.i.state,x.i.dr,x.i.bdr⟩:IfV) }:PoS) hl
      have h1:=h.set hl (y:={ x with pt:=p,i:=(⟨x.i.self,p.prio,x.i.state,x.i.dr,x.i.bdr⟩:IfV) }) ⟨hu.1,hu.2⟩
      have e2:=elect_lone (ev:=4) (s:={ s with ports:=s.ports.set p.lan.toNat (some ({ x with pt:=p,i:=(⟨x.i.self,p.prio,x.i.state,x.i.dr,x.i.bdr⟩:IfV) }:PoS)) }) e1 hu.1
      show ∃ x_1 s' x',_∧optB (roElectF p.lan 4 _) _ = _∧_∧_
      rw [e2]
      split
      · have hy:PoUp { ({ x with pt:=p,i:=(⟨x.i.self,p.prio,x.i.state,x.i.dr,x.i.bdr⟩:IfV) }:PoS) with i:=(ifaceStepF (⟨x.i.self,p.prio,x.i.state,x.i.dr,x.i.bdr⟩:IfV) 4 []).1 }:=⟨hu.1,step4 _ hu.2⟩
        exact ⟨x,_,_,rfl,rfl,h1.set e1 hy,lookP_set _ e1⟩
      · exact ⟨x,_,_,rfl,rfl,h1,e1⟩
theorem view_none {s:RoS} {lan:Int} (h:lookP s.ports lan = none):∃ v,roViewAtF lan s = some (v,false):=by
  unfold roViewAtF;rw [h];exact ⟨_,rfl⟩
theorem view_some {s:RoS} {lan:Int} {x:PoS} (h:lookP s.ports lan = some x) (hq:x.p.l = List.replicate 16 none):∃ v,roViewAtF lan s = some (v,true)∧v.i = x.i:=by
  unfold roViewAtF
  rw [h]
  show ∃ v,optB (roViewF lan s) _ = _∧_
  unfold roViewF
  rw [optB_eq h]
  have h2:peAll x.p = []:=peL_quiet hq
  simp only [letP,h2]
  exact ⟨_,rfl,rfl⟩
theorem plug_none {s:RoS} {lan:Int} (up:Bool) (h:lookP s.ports lan = none):roPlugF lan up s = some (6,s):=by
  unfold roPlugF;rw [h];rfl
theorem plug_up {s:RoS} {lan:Int} {x:PoS} (h:lookP s.ports lan = some x) (hu:PoUp x):roPlugF lan true s = some (9,s):=by
  unfold roPlugF;rw [h]
  show (if true = decide ((x.i.state:Int) ≠ 0) then _ else _) = _
  rw [if_pos (by simp [hu.2])]
theorem plug_down {s:RoS} {lan:Int} {x:PoS} (hL:Lone s) (h:lookP s.ports lan = some x):∃ s' x',roPlugF lan false s = some (0,s')∧lookP s'.ports lan = some x'∧x'.p.l = List.replicate 16 none∧x'.i.state = 0:=by
  have hu:=hL.up _ _ h
  have h2:peAll x.p = []:=peL_quiet hu.1
  unfold roPlugF;rw [h]
  show ∃ s' x',(if false = decide ((x.i.state:Int) ≠ 0) then _ else _) = _∧_
  rw [if_neg (by simp [hu.2])]
  simp only [letP,h2,cond_false]
  show ∃ s' x',(if s.w.length ≤ 100000 then _ else none) = _∧_
  rw [if_pos hL.w]
  refine ⟨_,_,rfl,lookP_set _ h,rfl,rfl⟩
structure Begun (id:Int) (pre:List Old.PtV) (t:Old.RoS):Prop where
  len:t.ports.length = 4
  ok:∀ y ∈ pre,Old.portOk y.lan y.prio y.cost
  at_:∀ (j:Nat) x,t.ports[j]? = some (some x) → x.p.l = List.replicate 16 none∧x.i.state = 0
  free:∀ j,j < 4 → (t.ports[j]? = some none ↔ ∀ y ∈ pre,y.lan.toNat ≠ j)
  w:t.w = []
theorem begun_0 (id boot room:Int):Begun id [] (Old.ro0 id boot room):=by
  refine ⟨rfl,fun y h=>(by cases h),fun j x h=>?_,fun j hj=>⟨fun _ y h=>(by cases h),fun _=>?_⟩,rfl⟩
  · match j,h with
    | 0,h=>cases h
    | 1,h=>cases h
    | 2,h=>cases h
    | 3,h=>cases h
    | j + 4,h=>cases h
  · match j,hj with
    | 0,_=>rfl
    | 1,_=>rfl
    | 2,_=>rfl
    | 3,_=>rfl
    | j + 4,h=>omega
theorem begun_next {id:Int} {pre:List Old.PtV} {t:Old.RoS} (h:Begun id pre t) {z:Old.PtV} (ho:Old.addOk t z):Begun id (pre ++ [z]) (Old.addP id t z):=by
  obtain ⟨h1,h2⟩:=ho
  have hlt:z.lan.toNat < t.ports.length:=(List.getElem?_eq_some_iff.1 h2).1
  refine ⟨by show (t.ports.set _ _).length = 4;rw [List.length_set];exact h.len,fun y hy=>?_,fun j x hx=>?_,fun j hj=>?_,h.w⟩
  · rcases List.mem_append.1 hy with hy | hy
    · exact h.ok y hy
    · rw [List.mem_singleton.1 hy];exact h1
  · have hx:(t.ports.set z.lan.toNat (some (Old.port0 id z)))[j]? = some (some x):=hx
    rw [List.getElem?_set] at hx
    by_cases e:z.lan.toNat = j
    · rw [if_pos e,if_pos hlt] at hx;cases hx;exact ⟨rfl,rfl⟩
    · rw [if_neg e] at hx;exact h.at_ j x hx
  · show (t.ports.set z.lan.toNat (some (Old.port0 id z)))[j]? = some none ↔ _
    rw [List.getElem?_set]
    by_cases e:z.lan.toNat = j
    · rw [if_pos e,if_pos hlt]
      refine ⟨fun h=>(by cases h),fun h=>absurd e (h z (List.mem_append_right _ (List.mem_singleton.2 rfl)))⟩
    · rw [if_neg e,h.free j hj]
      refine ⟨fun h y hy=>?_,fun h y hy=>h y (List.mem_append_left _ hy)⟩
      rcases List.mem_append.1 hy with hy | hy
      · exact h y hy
      · rw [List.mem_singleton.1 hy];exact e
theorem begun_adds {id:Int}:∀ {l pre:List Old.PtV} {s t:Old.RoS},Begun id pre s → Old.addsF id l s = some t → Begun id (pre ++ l) t
  | [],pre,s,t,h,e=>by cases e;rw [List.append_nil];exact h
  | x::l,pre,s,t,h,e=>by
    unfold Old.addsF at e
    split at e
    · rename_i ho
      have:=begun_adds (begun_next h ho) e
      rwa [List.append_assoc] at this
    · cases e
theorem arm_len (tick:Int) (z:TmV) (l:List (TmV × Int)):(Old.armF tick [z] l).length ≤ l.length + 1:=putL_len _ _ _
theorem step0 (i:IfV) (h:i.state = 0):(stepF i 0 []).state ≠ 0:=by
  unfold stepF whichF beginF
  have e:(if i.state = 0∧(0:Int) = 0 then 1 else if (i.state = 1∧((0:Int) = 2 ∨ (0:Int) = 3)) ∨ ((i.state = 2 ∨ i.state = 3 ∨ i.state = 4)∧(0:Int) = 4) then 2 else 0:Nat) = 1:=if_pos ⟨h,rfl⟩
  rw [if_neg (by decide),e]
  show (if i.prio ≤ 0 then (2:Int) else 1) ≠ 0
  split <;> decide
structure Upped (t:Old.RoS) (k:Nat) (s:Old.RoS):Prop where
  len:s.ports.length = 4
  at_:∀ (j:Nat) x,s.ports[j]? = some (some x) → x.p.l = List.replicate 16 none∧(j < k → x.i.state ≠ 0)∧(k ≤ j → x.i.state = 0)
  free:∀ j:Nat,s.ports[j]? = some none ↔ t.ports[j]? = some none
  w:s.w.length ≤ 2 * k
theorem upped {id:Int} {pre:List Old.PtV} {t:Old.RoS} (h:Begun id pre t):∀ k,Upped t k (Old.upsF k t)
  | 0=>⟨h.len,fun j x hx=>⟨(h.at_ j x hx).1,fun hj=>absurd hj (Nat.not_lt_zero _),fun _=>(h.at_ j x hx).2⟩,fun j=>Iff.rfl,by show t.w.length ≤ _;rw [h.w];exact Nat.zero_le _⟩
  | k + 1=>by
    have ih:=upped h k
    unfold Old.upsF
    split
    · rename_i x hx
      obtain ⟨hp,_,h0⟩:=ih.at_ k x hx
      have hlt:=(List.getElem?_eq_some_iff.1 hx).1
      refine ⟨by show (List.set _ _ _).length = 4;rw [List.length_set];exact ih.len,fun j y hy=>?_,fun j=>?_,?_⟩
      · have hy:((Old.upsF k t).ports.set k (some { x with i:=stepF x.i 0 [] }))[j]? = some (some y):=hy
        rw [List.getElem?_set] at hy
        by_cases e:k = j
        · rw [if_pos e,if_pos hlt] at hy
          cases hy
          exact ⟨hp,fun _=>step0 _ (h0 (Nat.le_refl _)),fun hj=>by omega⟩
        · rw [if_neg e] at hy
          obtain ⟨a,b,c⟩:=ih.at_ j y hy
          exact ⟨a,fun hj=>b (by omega),fun hj=>c (by omega)⟩
      · show ((Old.upsF k t).ports.set k (some { x with i:=stepF x.i 0 [] }))[j]? = some none ↔ _
        rw [List.getElem?_set]
        by_cases e:k = j
        · rw [if_pos e,if_pos hlt]
          refine ⟨fun h=>(by cases h),fun h=>?_⟩
          rw [← ih.free j,← e,hx] at h;cases h
        · rw [if_neg e];exact ih.free j
      · have h1:=arm_len ((Old.upsF k t).now + 1) (Old.tmr 1 x.lan 0) (Old.upsF k t).w
        have h2:=arm_len ((Old.upsF k t).now + 8) (Old.tmr 2 x.lan 0) (Old.armF ((Old.upsF k t).now + 1) [Old.tmr 1 x.lan 0] (Old.upsF k t).w)
        have h3:=ih.w
        show (if (stepF x.i 0 []).state = 1 then _ else _:List (TmV × Int)).length ≤ _
        split <;> omega
    · rename_i hne
      refine ⟨ih.len,fun j x hx=>?_,ih.free,by have:=ih.w;omega⟩
      obtain ⟨a,b,c⟩:=ih.at_ j x hx
      refine ⟨a,fun hj=>?_,fun hj=>c (by omega)⟩
      rcases Nat.lt_or_ge j k with h1 | h1
      · exact b h1
      · obtain rfl:j = k:=by omega
        exact absurd hx (hne x)
theorem lookP_map {α β:Type} (f:α → β) (l:List (Option α)) (i:Int):lookP (l.map (Option.map f)) i = (lookP l i).map f:=by
  unfold lookP
  split
  · rw [List.getD_eq_getElem?_getD,List.getD_eq_getElem?_getD,List.getElem?_map]
    cases l[i.toNat]? with
    | none=>rfl
    | some o=>rfl
  · rfl
theorem new_lone {id boot room:Int} {l:List PtV} {s:RoS} (h:roNewF id boot room l = some s):Lone s∧∀ lan:Int,(lookP s.ports lan).isSome = l.any fun x=>decide (x.lan = lan):=by
  unfold roNewF at h
  cases e:Old.newF id boot room (l.map ptOld) with
  | none=>rw [e] at h;cases h
  | some u=>
    rw [e] at h
    simp only [Option.map_some,Option.some.injEq] at h
    subst h
    unfold Old.newF at e
    split at e
    · cases e
    · cases e2:Old.addsF id (l.map ptOld) (Old.ro0 id boot room) with
      | none=>rw [e2] at e;cases e
      | some t=>
        rw [e2] at e
        simp only [Option.map_some,Option.some.injEq] at e
        subst e
        have hb:=begun_adds (begun_0 id boot room) e2
        rw [List.nil_append] at hb
        have hu:=upped hb 4
        have hlp:∀ lan:Int,lookP (convR (Old.upsF 4 t)).ports lan = (lookP (Old.upsF 4 t).ports lan).map conv:=fun lan=>lookP_map conv _ lan
        refine ⟨⟨by show (List.map _ _).length = 4;rw [List.length_map];exact hu.len,fun i x hx=>?_,by have:=hu.w;show (Old.upsF 4 t).w.length ≤ _;omega⟩,fun lan=>?_⟩
        · rw [hlp] at hx
          cases hy:lookP (Old.upsF 4 t).ports i with
          | none=>rw [hy] at hx;cases hx
          | some y=>
            rw [hy] at hx
            cases hx
            obtain ⟨h0,h1⟩:=lookP_some hy
            obtain ⟨a,b,c⟩:=hu.at_ _ y h1
            have hlt:=(List.getElem?_eq_some_iff.1 h1).1
            rw [hu.len] at hlt
            exact ⟨a,b hlt⟩
        · rw [hlp,Option.isSome_map,Bool.eq_iff_iff,List.any_eq_true]
          have hl4:=hu.len
          constructor
          · intro hs
            obtain ⟨y,hy⟩:=Option.isSome_iff_exists.1 hs
            obtain ⟨h0,h1⟩:=lookP_some hy
            have hlt:=(List.getElem?_eq_some_iff.1 h1).1
            rw [hl4] at hlt
            have hn:¬ (t.ports[lan.toNat]? = some none):=fun h2=>by rw [← hu.free,h1] at h2;cases h2
            rw [hb.free _ hlt] at hn
            have hn2:∃ z ∈ l.map ptOld,z.lan.toNat = lan.toNat:=by
              refine Classical.byContradiction fun hc=>hn fun y hy e=>hc ⟨y,hy,e⟩
            obtain ⟨z,hz,ez⟩:=hn2
            obtain ⟨x,hx,rfl⟩:=List.mem_map.1 hz
            have hok:=(hb.ok _ hz).1
            refine ⟨x,hx,decide_eq_true ?_⟩
            have hok:0 ≤ x.lan:=hok
            have ez:x.lan.toNat = lan.toNat:=ez
            omega
          · rintro ⟨x,hx,hd⟩
            have hd:=of_decide_eq_true hd
            have hz:ptOld x ∈ l.map ptOld:=List.mem_map_of_mem hx
            obtain ⟨o1,o2,_⟩:=hb.ok _ hz
            have o1:0 ≤ x.lan:=o1
            have o2:x.lan ≤ 3:=o2
            have hlt:lan.toNat < 4:=by omega
            have hn:¬ ((Old.upsF 4 t).ports[lan.toNat]? = some none):=fun h2=>by
              rw [hu.free,hb.free _ hlt] at h2
              exact h2 _ hz (by show x.lan.toNat = _;rw [hd])
            have hg:(Old.upsF 4 t).ports[lan.toNat]? = some ((Old.upsF 4 t).ports[lan.toNat]'(by rw [hl4];exact hlt)):=List.getElem?_eq_getElem _
            cases ho:(Old.upsF 4 t).ports[lan.toNat]'(by rw [hl4];exact hlt) with
            | none=>rw [ho] at hg;exact absurd hg hn
            | some y=>rw [ho] at hg;rw [lookP_of (by omega) hg];rfl
theorem loop14 (z:PtV):∀ (l:List PtV) (b:Bool),errsFL14 z l b = some (b && l.all fun y=>decide (z.lan ≠ y.lan))
  | [],b=>by unfold errsFL14;simp
  | y::l,b=>by
    unfold errsFL14
    cases b with
    | true=>rw [cond_true,loop14 z l];simp
    | false=>rw [cond_false,loop14 z l];simp
theorem maybe_iff (z:PtV):mayBeF z = true ↔ Old.portOk (ptOld z).lan (ptOld z).prio (ptOld z).cost:=by
  unfold mayBeF Old.portOk ptOld
  simp only
  split <;> (try split) <;> (try split) <;> (try split) <;> (try split) <;> simp <;> omega
theorem right_same (z:PtV):roRightF z = mayBeF z:=rfl
def mayF (id boot room:Int) (l:List PtV):Bool:=decide (1 ≤ id∧id ≤ 15) && (Old.addsF id (l.map ptOld) (Old.ro0 id boot room)).isSome
theorem may_new (id boot room:Int) (l:List PtV):(roNewF id boot room l).isSome = mayF id boot room l:=by
  unfold roNewF mayF Old.newF
  rw [Option.isSome_map]
  by_cases h:1 ≤ id∧id ≤ 15
  · rw [if_neg (by omega),Option.isSome_map];simp [h]
  · rw [if_pos (by omega)];simp [h]
theorem may_snoc (id boot room:Int) (pre:List PtV) (z:PtV):mayF id boot room (pre ++ [z]) = ((mayF id boot room pre && mayBeF z) && pre.all fun y=>decide (z.lan ≠ y.lan)):=by
  unfold mayF
  rw [List.map_append,List.map_singleton,Old.addsF_snoc]
  cases e:Old.addsF id (pre.map ptOld) (Old.ro0 id boot room) with
  | none=>simp
  | some t=>
    have hb:=begun_adds (begun_0 id boot room) e
    rw [List.nil_append] at hb
    simp only [Option.bind_some,Option.isSome_some,Bool.and_true]
    rw [Bool.and_assoc]
    congr 1
    rw [Bool.eq_iff_iff,Bool.and_eq_true,maybe_iff,List.all_eq_true]
    constructor
    · intro h
      have ho:Old.addOk t (ptOld z):=by
        refine Classical.byContradiction fun hc=>?_
        rw [if_neg hc] at h;cases h
      obtain ⟨o1,o2⟩:=ho
      refine ⟨o1,fun y hy=>decide_eq_true fun e2=>?_⟩
      have hlt:(ptOld z).lan.toNat < 4:=by have:=(List.getElem?_eq_some_iff.1 o2).1;rw [hb.len] at this;exact this
      exact (hb.free _ hlt).1 o2 (ptOld y) (List.mem_map_of_mem hy) (by show y.lan.toNat = z.lan.toNat;rw [e2])
    · rintro ⟨o1,h2⟩
      have hlt:(ptOld z).lan.toNat < 4:=by obtain ⟨a,b,_⟩:=o1;omega
      have ho:Old.addOk t (ptOld z):=by
        refine ⟨o1,(hb.free _ hlt).2 fun y hy e2=>?_⟩
        obtain ⟨x,hx,rfl⟩:=List.mem_map.1 hy
        have h3:=of_decide_eq_true (h2 x hx)
        have h4:=(hb.ok _ hy).1
        have h5:=o1.1
        have h4:0 ≤ x.lan:=h4
        have h5:0 ≤ z.lan:=h5
        have e2:x.lan.toNat = z.lan.toNat:=e2
        exact h3 (by omega)
      rw [if_pos ho];rfl
theorem loop7 (c:CoV) (p:PtV):∀ (xs pre:List PtV) (k:Nat) (on:Bool),c.ports = pre ++ xs → k = pre.length → errsFL7 c p xs k (mayF c.id c.boot c.room pre) on = some (mayF c.id c.boot c.room (pre ++ xs),on || xs.any fun x=>decide (x.lan = p.lan))
  | [],pre,k,on,h,hk=>by unfold errsFL7;simp
  | z::xs,pre,k,on,h,hk=>by
    unfold errsFL7
    have e10:errsFJ10 (mayF c.id c.boot c.room pre) z = some (mayF c.id c.boot c.room pre && mayBeF z):=by
      unfold errsFJ10;cases mayF c.id c.boot c.room pre <;> rfl
    have e12:errsFJ12 p on z = some (on || decide (z.lan = p.lan)):=by
      unfold errsFJ12;cases on <;> rfl
    have ht:c.ports.take k = pre:=by rw [h,hk,List.take_left'];rfl
    rw [optB_eq e10,optB_eq e12,ht,optB_eq (loop14 z pre _),← may_snoc]
    have ih:=loop7 c p xs (pre ++ [z]) (k + 1) (on || decide (z.lan = p.lan)) (by rw [List.append_assoc];exact h) (by rw [List.length_append,hk];rfl)
    rw [ih,List.append_assoc,List.any_cons,Bool.or_assoc]
    rfl
theorem errs_true (c:CoV) (p:PtV) (up:Bool):errsF c p up = some true:=by
  unfold errsF
  rw [optB_eq wakes_true,cond_true]
  by_cases h8:(8:Int) < ((c.ports.length:Nat):Int)
  · rw [if_pos h8]
  rw [if_neg h8]
  have e5:coMakeF c = some (roNewF c.id c.boot c.room c.ports):=by unfold coMakeF;rw [if_pos (by omega)]
  have e6:errsFJ6 c = some (mayF c.id c.boot c.room []):=by
    unfold errsFJ6 mayF
    by_cases h:(1:Int) ≤ c.id
    · rw [if_pos h];simp [h,Old.addsF]
    · rw [if_neg h];simp [h]
  have e7:=loop7 c p c.ports [] 0 false rfl rfl
  rw [List.nil_append,Bool.false_or] at e7
  rw [optB_eq e5,optB_eq e6,optB_eq e7]
  have hm:=may_new c.id c.boot c.room c.ports
  generalize hR:roNewF c.id c.boot c.room c.ports = R at hm ⊢
  generalize hM:mayF c.id c.boot c.room c.ports = m at hm ⊢
  generalize hO:(c.ports.any fun x=>decide (x.lan = p.lan)) = on at ⊢
  cases R with
  | none=>
    have hm:m = false:=hm.symm
    subst hm;rfl
  | some s=>
    have hm:m = true:=hm.symm
    subst hm
    obtain ⟨hL,hlk⟩:=new_lone hR
    have hon:(lookP s.ports p.lan).isSome = on:=(hlk p.lan).trans hO
    show optB (errsFJ20 p (true,on)) _ = _
    have e20:errsFJ20 p (true,on) = some (if mayBeF p = true then (if on = true then 0 else 6) else 1):=by
      unfold errsFJ20;cases mayBeF p <;> cases on <;> rfl
    have e22:errsFJ22 up (true,on) = some (if on = true then (if up = true then 9 else 0) else 6):=by
      unfold errsFJ22;cases up <;> cases on <;> rfl
    rw [optB_eq e20]
    rcases set_lone (p:=p) hL with ⟨hn,hs⟩ | ⟨x,s',x',hx,hs,hL',hx'⟩
    · have hon:on = false:=by rw [← hon,hn];rfl
      subst hon
      rw [optB_eq hs]
      simp only [right_same]
      rw [if_neg (by by_cases hmb:mayBeF p = true <;> simp [hmb]),optB_eq e22,optB_eq (plug_none up hn)]
      simp only
      rw [if_neg (by simp)]
      obtain ⟨v,hv⟩:=view_none hn
      rw [optB_eq hv]
      rfl
    · have hon:on = true:=by rw [← hon,hx];rfl
      subst hon
      rw [optB_eq hs]
      simp only [right_same]
      rw [if_neg (by by_cases hmb:mayBeF p = true <;> simp [hmb]),optB_eq e22]
      have hu:=hL'.up _ _ hx'
      cases up with
      | true=>
        rw [optB_eq (plug_up hx' hu)]
        simp only
        rw [if_neg (by simp)]
        obtain ⟨v,hv,hi⟩:=view_some hx' hu.1
        rw [optB_eq hv]
        simp only
        rw [if_pos trivial,hi]
        simp [hu.2]
      | false=>
        obtain ⟨s2,x2,hp,hx2,hq2,h02⟩:=plug_down hL' hx'
        rw [optB_eq hp]
        simp only
        rw [if_neg (by simp)]
        obtain ⟨v,hv,hi⟩:=view_some hx2 hq2
        rw [optB_eq hv]
        simp only
        rw [if_pos trivial,hi]
        simp [h02]
section
open Go.RowKit Go.ChangeShapes Go.WideShapes
instance:Inhabited PtV:=⟨⟨0,0,0⟩⟩
theorem RowAt.reads {α:Type} {cells:α → List Value} {size:Nat} {w:World} {A:Option Addr} {n:Nat} {l:List α} (hc:∀ a,(cells a).length = size) (hs:0 < size) (h:RowAt cells size w A n l):Reads w w.heap.size size A n (rowC cells l):=by
  obtain ⟨h1,h2⟩:=h
  refine ⟨by rw [rowC_length cells size hc,h1],fun hp=>?_⟩
  obtain ⟨b,off,e,hb,hq⟩:=h2 hp
  refine ⟨b,off,e,hb,fun j u hu=>?_⟩
  have hj:j < l.length * size:=by have:=(List.getElem?_eq_some_iff.1 hu).1;rwa [rowC_length cells size hc] at this
  have hk:j / size < l.length:=Nat.div_lt_of_lt_mul (by rwa [Nat.mul_comm] at hj)
  have hr:j % size < size:=Nat.mod_lt _ hs
  have e1:j / size * size + j % size = j:=by rw [Nat.mul_comm];exact Nat.div_add_mod j size
  have h3:=rowC_at cells size hc l (j / size) (j % size) l[j / size] (List.getElem?_eq_getElem hk) hr
  rw [e1,hu] at h3
  have h4:=hq (j / size) l[j / size] (List.getElem?_eq_getElem hk) (j % size) u h3.symm
  rw [Nat.add_assoc,e1] at h4
  exact h4
theorem oc3:Tryz.prog.cellsOf 3 = 1:=by kernel_rfl
theorem ou26:Tryz.prog.underlying 26 = some (.struct (Tryz.prog.fieldsOf 26)):=by kernel_rfl
theorem ofs26:(Tryz.prog.fieldsOf 26).toList.map (fun f=>(f.type,f.offset)) = [(3,0),(3,1),(3,2)]:=by kernel_rfl
theorem oc26:Tryz.prog.cellsOf 26 = 3:=by kernel_rfl
theorem oc22:Tryz.prog.cellsOf 22 = 1:=by kernel_rfl
theorem ou24:Tryz.prog.underlying 24 = some (.struct (Tryz.prog.fieldsOf 24)):=by kernel_rfl
theorem ofs24:(Tryz.prog.fieldsOf 24).toList.map (fun f=>(f.type,f.offset)) = [(3,0),(3,1),(3,2),(22,3)]:=by kernel_rfl
theorem oc24:Tryz.prog.cellsOf 24 = 4:=by kernel_rfl
section
variable {H:Type} {enc:TypeId × Value → H} {w:World} {base:Nat} {sp:Nat → Bool} {held:Bool}
set_option maxRecDepth 100000 in
theorem port_open {m:Nat} {cs:List Value} {x:DataW H × List MemPlace} (h:DataW.trod enc Tryz.prog w base sp held m 26 cs = some x):∃ z:PtV,cs = z.cells∧True:=by
  obtain ⟨n,fld⟩:=struct_fields ou26 ofs26 h
  have hl:cs.length = 3:=by
    obtain ⟨_,_,_,_,hl,_,_⟩:=DataW.trod_struct ou26 h
    rwa [oc26] at hl
  match cs,hl with
  | [x0,x1,x2],_=>
    obtain ⟨y0,h0⟩:=fld 0 3 0 rfl
    rw [oc3] at h0
    simp only [List.drop_zero,List.drop_succ_cons,List.take_succ_cons,List.take_zero] at h0
    obtain ⟨k0,e0,_,v0⟩:=DataW.trod_int Tryz.underlying3 h0
    simp only [List.cons.injEq,and_true] at e0
    subst e0
    obtain ⟨y1,h1⟩:=fld 1 3 1 rfl
    rw [oc3] at h1
    simp only [List.drop_zero,List.drop_succ_cons,List.take_succ_cons,List.take_zero] at h1
    obtain ⟨k1,e1,_,v1⟩:=DataW.trod_int Tryz.underlying3 h1
    simp only [List.cons.injEq,and_true] at e1
    subst e1
    obtain ⟨y2,h2⟩:=fld 2 3 2 rfl
    rw [oc3] at h2
    simp only [List.drop_zero,List.drop_succ_cons,List.take_succ_cons,List.take_zero] at h2
    obtain ⟨k2,e2,_,v2⟩:=DataW.trod_int Tryz.underlying3 h2
    simp only [List.cons.injEq,and_true] at e2
    subst e2
    exact ⟨⟨k0,k1,k2⟩,rfl,trivial⟩
def PtsOK (w:World) (c:CoV) (p:SlP):Prop:=c.ports.length ≤ p.c∧p.c ≤ 9223372036854775807∧Reads w w.heap.size 3 p.A c.ports.length (rowC PtV.cells c.ports)
set_option maxRecDepth 100000 in
theorem conf_open {m:Nat} {cs:List Value} {x:DataW H × List MemPlace} (h:DataW.trod enc Tryz.prog w base sp held m 24 cs = some x):∃ (v:CoV) (p:SlP),cs = [.int .i64 v.id,.int .i64 v.boot,.int .i64 v.room,.slice p.A v.ports.length p.c]∧PtsOK w v p:=by
  obtain ⟨n,fld⟩:=struct_fields ou24 ofs24 h
  have hl:cs.length = 4:=by
    obtain ⟨_,_,_,_,hl,_,_⟩:=DataW.trod_struct ou24 h
    rwa [oc24] at hl
  match cs,hl with
  | [x0,x1,x2,x3],_=>
    obtain ⟨y0,h0⟩:=fld 0 3 0 rfl
    rw [oc3] at h0
    simp only [List.drop_zero,List.drop_succ_cons,List.take_succ_cons,List.take_zero] at h0
    obtain ⟨k0,e0,_,v0⟩:=DataW.trod_int Tryz.underlying3 h0
    simp only [List.cons.injEq,and_true] at e0
    subst e0
    obtain ⟨y1,h1⟩:=fld 1 3 1 rfl
    rw [oc3] at h1
    simp only [List.drop_zero,List.drop_succ_cons,List.take_succ_cons,List.take_zero] at h1
    obtain ⟨k1,e1,_,v1⟩:=DataW.trod_int Tryz.underlying3 h1
    simp only [List.cons.injEq,and_true] at e1
    subst e1
    obtain ⟨y2,h2⟩:=fld 2 3 2 rfl
    rw [oc3] at h2
    simp only [List.drop_zero,List.drop_succ_cons,List.take_succ_cons,List.take_zero] at h2
    obtain ⟨k2,e2,_,v2⟩:=DataW.trod_int Tryz.underlying3 h2
    simp only [List.cons.injEq,and_true] at e2
    subst e2
    obtain ⟨y3,h3⟩:=fld 3 22 3 rfl
    rw [oc22] at h3
    simp only [List.drop_zero,List.drop_succ_cons,List.take_succ_cons,List.take_zero] at h3
    obtain ⟨A3,n3,c3,rfl⟩:=slice_value Tryz.underlying22 h3
    obtain ⟨l3,hr3,ok3⟩:=rows_open PtV.cells (fun _=>True) 22 26 3 Tryz.underlying22 oc26 (by omega) PtV.cells_len' (fun _ _ _ _ h=>port_open h) h3
    have hn3:=hr3.1
    subst hn3
    exact by
      obtain ⟨hl3,hc3,_⟩:=open_slice_flat (fu:=8) (ks:=[some .i64,some .i64,some .i64]) Tryz.underlying22 (by kernel_rfl) (by simp) h3
      unfold maxLen at hc3
      exact ⟨⟨k0,k1,k2,l3⟩,⟨A3,c3⟩,rfl,hl3,by omega,hr3.reads PtV.cells_len' (by omega)⟩
end
theorem errs_walk (c:CoV) (q:SlP) (p:PtV) (up:Bool) (W:World) (h:PtsOK W c q):
    Calls Tryz.prog 3 #[.agg #[i6 c.id,i6 c.boot,i6 c.room,.slice q.A c.ports.length q.c],.agg #[i6 p.lan,i6 p.prio,i6 p.cost],.bool up] W (fun r w'=>r = .returned (.bool true)∧Below W.heap.size W w'):=by
  obtain ⟨h1,h2,h3⟩:=h
  refine (errs_any (κ:=kap W) (L:=[]) (I:=[memA W W.heap.size]) c q p up W (errs_true c p up) ((S.start W).addRd h1 h2 h3)).mono ?_
  rintro r w' ⟨rfl,hS⟩
  exact ⟨rfl,hS.old (by simp)⟩
def rulesArr:Array Value:=(([0,0,0,0,1,1,1,1,1,3,1,1,1,2,2,2,6,2,0,1,2,2,3,1,3,3,6,3,2,2,3,3,4,0,4,4,4,5,0,5,4,5,6,0,6,4,6,7,0,3,0,6,8,0,0]:List Int).map (Value.int .i64)).toArray
end
end Go.Proofs.YtehpdklphhmbgaaGreatDoor
