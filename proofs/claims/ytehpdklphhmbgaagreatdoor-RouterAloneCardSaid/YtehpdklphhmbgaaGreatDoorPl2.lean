/-
  Part 2 of what lies behind the statement: the model of the program in words of its own, and its walks. No conditions of its own.
-/
import Derived.Test.YtehpdklphhmbgaaGreatDoorPl1
namespace Go.Proofs.YtehpdklphhmbgaaGreatDoor
open Go.RowKit
set_option linter.unusedVariables false
set_option linter.unusedSimpArgs false
section
structure KeyV where
  kind:Int
  id:Int
  adv:Int
 deriving DecidableEq
def KeyV.cells (k:KeyV):List Value:=[.int .i64 k.kind,.int .i64 k.id,.int .i64 k.adv]
structure TmV where
  kind:Int
  lan:Int
  id:Int
  k:KeyV
 deriving DecidableEq
def TmV.cells (t:TmV):List Value:=[.int .i64 t.kind,.int .i64 t.lan,.int .i64 t.id,.int .i64 t.k.kind,.int .i64 t.k.id,.int .i64 t.k.adv]
def tmE (t:TmV):Value:=.agg t.cells.toArray
def moE (m:Int × Int):Value:=.agg #[.int .i64 m.1,.int .i64 m.2]
set_option maxRecDepth 20000 in
theorem AJ (x y:TmV) (w:World):(Op.equal 121 (tmE x) (tmE y)).run Tryz.prog w = .ok (decide (x = y)) w:=by
  obtain ⟨a1,a2,a3,a4,a5,a6⟩:=x
  obtain ⟨b1,b2,b3,b4,b5,b6⟩:=y
  dsimp only [tmE,TmV.cells]
  unfold Op.equal Op.maxDepth
  go_simp
  repeat' split
  all_goals simp_all
theorem tI:KeyK Tryz.prog 121 tmE:=KeyK.ofStruct Tryz.underlying121 AJ (fun e x w=>by
  obtain ⟨a1,a2,a3,a4,a5,a6⟩:=x
  kernel_rfl) (fun x=>by
  obtain ⟨a1,a2,a3,a4,a5,a6⟩:=x
  simp [Instr.sameBits,tmE,TmV.cells])
end
section
section
variable {α β:Type} [DecidableEq α]
theorem kZ {x:α} {v:β}:∀ {l:List (α × β)},(l.map (·.1)).Nodup → (au x l = some v ↔ (x,v) ∈ l)
  | [],_=>by simp [au]
  | (k,u)::l,h=>by
    simp only [List.map_cons,List.nodup_cons] at h
    unfold au
    split
    · rename_i hx;subst hx
      simp only [Option.some.injEq,List.mem_cons,Prod.mk.injEq,true_and]
      exact ⟨fun e=>.inl e.symm,fun e=>e.elim (fun e=>e.symm) (fun hm=>absurd (List.mem_map_of_mem (f:=(·.1)) hm) h.1)⟩
    · rename_i hx
      rw [kZ h.2]
      simp [hx]
theorem sV {l m:List (α × β)} (hl:(l.map (·.1)).Nodup) (hm:(m.map (·.1)).Nodup) (h:∀ p,p ∈ l ↔ p ∈ m) (x:α):au x l = au x m:=by
  apply Option.ext
  intro v
  rw [kZ hl,kZ hm,h]
theorem xG {x:α} {u:β} {l:List (α × β)} (h:au x l = none) (p:α × β):p ∈ aV x u l ↔ p = (x,u) ∨ p ∈ l:=by
  induction l with
  | nil=>simp [aV]
  | cons q l ih=>
    obtain ⟨k,v⟩:=q
    unfold au at h
    split at h
    · cases h
    · rename_i hx
      simp only [aV,if_neg hx,List.mem_cons,ih h]
      constructor
      · rintro (h | h | h) <;> simp [h]
      · rintro (h | h | h) <;> simp [h]
end
theorem S.mapNodup {α β:Type} {ek:α → Value} {ev:β → Value} {κ:Kap} {L I:List Atom} {w:World} {b i:Nat} {l:List (α × β)} (hS:S κ L I w) (hi:L[i]? = some (bq ek ev b l)):(l.map (·.1)).Nodup:=by
  obtain ⟨_,_,_,h⟩:=hS.mapAt hi
  exact h.nodup
section
variable {α β:Type} [DecidableEq α] {P:Program} {K T E:TypeId} {ek:α → Value} {ev:β → Value} {κ:Kap} {L I:List Atom} {Q:Exit → Act → World → Prop}
theorem tr {id n:Nat} {l:List Oper} {a0:Act} {w0:World} (vals:Nat → Nat → Value) (ins:Nat → Option (α × β)) (hn:a0.tmps.size = n) (hK:KeyK P K ek) (hS:S κ L I w0) (hlen:0 < l.length)
    (h0:∀ o,l[0]? = some o → o.op = .makeMap T none∧o.guard = none) (hv0:∀ g,vals g 0 = .map (some g))
    (hins:∀ i o k v,l[i]? = some o → ins i = some (k,v) → o.guard = none∧o.dst = none∧Region.waitsFor .any l.toArray i 0 = true∧vals 0 i = undef∧(∀ g,vals g i = undef) ∧
      ∃ x y z,o.op = .insert T x y z∧∀ g (a:Act),(∀ s,cZ .any l.toArray i s = true → a.tmps.getD s undef = a0.tmps.getD s undef) → (∀ j d,Region.waitsFor .any l.toArray i j = true → (l.toArray[j]?).bind (·.dst) = some d → a.tmps.getD d undef = vals g j) → a.eval x = .map (some g)∧a.eval y = ek k∧a.eval z = ev v)
    (hinj:∀ i j p q,ins i = some p → ins j = some q → p.1 = q.1 → i = j)
    (hread:∀ i o,l[i]? = some o → i ≠ 0 → ins i = none → o.guard = none∧∀ g (a:Act),(∀ s,cZ .any l.toArray i s = true → a.tmps.getD s undef = a0.tmps.getD s undef) → (∀ j d,Region.waitsFor .any l.toArray i j = true → (l.toArray[j]?).bind (·.dst) = some d → a.tmps.getD d undef = vals g j) → ∀ w,(execOp a.eval o).run P w = .ok (.value (vals g i)) w)
    (hQ:∀ g m w a1,Put l (vals g) a0 a1 → S κ (bq ek ev g m::L) I w → (∀ p,p ∈ m ↔ ∃ i,i < l.length∧ins i = some p) → (m.map (·.1)).Nodup → Q .normal a1 w)
    (hTy:P.underlying T = some (.map K E):=by kernel_rfl)
    (hm:P.follows .mixedOrders = true:=by kernel_rfl) (hback:ge .any l.toArray = true:=by kernel_rfl) (hdst:fR l.toArray = true:=by kernel_rfl) (hroom:dy l.toArray n = true:=by kernel_rfl):(Code.region id l.toArray true).wp P Q a0 w0:=by
  rw [← hn] at hroom
  have hSd:S κ L I w0.drew:=hS.eqv rfl (fun _ _=>rfl)
  let Inv:(Nat → Option Value) → World → Prop:=fun vs w=>
    (vs 0 = none∧(∀ i p,ins i = some p → i < l.length → vs i = none)∧S κ L I w∧∀ i v,vs i = some v → ∀ g,v = vals g i) ∨
    (∃ g m,vs 0 = some (vals g 0)∧(∀ i v,vs i = some v → v = vals g i)∧S κ (bq ek ev g m::L) I w∧∀ p,p ∈ m ↔ ∃ i,i < l.length∧(vs i).isSome = true∧ins i = some p)
  refine wp_region_any hm (lE Inv a0 w0.drew hback hdst hroom (fun i o ho vs a w hI hni hat=>?_) (fun vs' vs w hv hI=>?_) _ _ _ _ (fun _=>none) ⟨Below.refl _ _,rfl,rfl,by simp,fun s _=>rfl,fun i o _ h=>?_,fun j oj _ h=>?_⟩ (fun _ _=>rfl) (.inl ⟨rfl,fun _ _ _ _=>rfl,hSd,fun i v h=>by cases h⟩) ?_)
  · have ho':l[i]? = some o:=by simpa using ho
    have hil:i < l.length:=(List.getElem?_eq_some_iff.1 ho').1
    have hbase:∀ s,cZ .any l.toArray i s = true → a.tmps.getD s undef = a0.tmps.getD s undef:=hat.base
    by_cases hi0:i = 0
    · subst hi0
      obtain ⟨e1,e2⟩:=h0 o ho'
      rcases hI with ⟨h1,h2,h3,h4⟩ | ⟨g,m,h1,_⟩
      · refine bV ek ev h3 (ae e2) e1 (fun g w' hS' hb=>⟨_,rfl,.inr ⟨g,[],?_,fun j v hj=>?_,hS',fun p=>?_⟩⟩)
        · rw [cn,hv0]
        · by_cases hj0:j = 0
          · subst hj0;rw [cn] at hj;cases hj;exact (hv0 g).symm
          · rw [bR _ _ hj0] at hj;exact h4 j v hj g
        · constructor
          · intro h;cases h
          · rintro ⟨j,hjl,hj,hp⟩
            exfalso
            by_cases hj0:j = 0
            · subst hj0
              obtain ⟨_,_,_,_,_,x,y,z,e,_⟩:=hins 0 o p.1 p.2 ho' hp
              rw [e1] at e;cases e
            · rw [bR _ _ hj0,h2 j p hp hjl] at hj;cases hj
      · rw [hni] at h1;cases h1
    · cases hp:ins i with
      | none=>
        obtain ⟨e1,e2⟩:=hread i o ho' hi0 hp
        rw [if_pos (ae e1)]
        rcases hI with ⟨h1,h2,h3,h4⟩ | ⟨g,m,h1,h2,h3,h4⟩
        · have hd:∀ g,∀ j d,Region.waitsFor .any l.toArray i j = true → (l.toArray[j]?).bind (·.dst) = some d → a.tmps.getD d undef = vals g j:=fun g j d hw hd=>by
            obtain ⟨v,g1,g2⟩:=hat.fact j hw
            rw [g1 d hd,h4 j v g2 g]
          have hrun:=e2 0 a hbase (hd 0) w
          have heq:∀ g,vals 0 i = vals g i:=fun g=>by
            have:=e2 g a hbase (hd g) w
            rw [hrun] at this
            injection this with this;injection this
          unfold Oper.wp;rw [hrun]
          refine ⟨_,rfl,.inl ⟨?_,fun j p hj hjl=>?_,h3,fun j v hj g=>?_⟩⟩
          · rw [bR _ _ (fun e=>hi0 e.symm)];exact h1
          · rw [bR _ _ (fun e=>by rw [e,hp] at hj;cases hj)];exact h2 j p hj hjl
          · by_cases hji:j = i
            · subst hji;rw [cn] at hj;cases hj;exact heq g
            · rw [bR _ _ hji] at hj;exact h4 j v hj g
        · have hd:∀ j d,Region.waitsFor .any l.toArray i j = true → (l.toArray[j]?).bind (·.dst) = some d → a.tmps.getD d undef = vals g j:=fun j d hw hd=>by
            obtain ⟨v,g1,g2⟩:=hat.fact j hw
            rw [g1 d hd,h2 j v g2]
          unfold Oper.wp;rw [e2 g a hbase hd w]
          refine ⟨_,rfl,.inr ⟨g,m,?_,fun j v hj=>?_,h3,fun p=>?_⟩⟩
          · rw [bR _ _ (fun e=>hi0 e.symm)];exact h1
          · by_cases hji:j = i
            · subst hji;rw [cn] at hj;cases hj;rfl
            · rw [bR _ _ hji] at hj;exact h2 j v hj
          · rw [h4]
            constructor
            · rintro ⟨j,g1,g2,g3⟩
              exact ⟨j,g1,by rw [bR _ _ (fun e=>by rw [e,hp] at g3;cases g3)];exact g2,g3⟩
            · rintro ⟨j,g1,g2,g3⟩
              exact ⟨j,g1,by rwa [bR _ _ (fun e=>by rw [e,hp] at g3;cases g3)] at g2,g3⟩
      | some q=>
        obtain ⟨e1,e2,e3,_,e4,x,y,z,e5,e6⟩:=hins i o q.1 q.2 ho' hp
        rcases hI with ⟨h1,_⟩ | ⟨g,m,h1,h2,h3,h4⟩
        · obtain ⟨v,_,g2⟩:=hat.fact 0 e3
          rw [h1] at g2;cases g2
        · have hd:∀ j d,Region.waitsFor .any l.toArray i j = true → (l.toArray[j]?).bind (·.dst) = some d → a.tmps.getD d undef = vals g j:=fun j d hw hd=>by
            obtain ⟨v,g1,g2⟩:=hat.fact j hw
            rw [g1 d hd,h2 j v g2]
          obtain ⟨f1,f2,f3⟩:=e6 g a hbase hd
          have hnone:au q.1 m = none:=by
            rw [gL]
            intro hmem
            obtain ⟨p,hpm,hpe⟩:=List.mem_map.1 hmem
            obtain ⟨j,g1,g2,g3⟩:=(h4 p).1 hpm
            have:=hinj j i p q g3 hp hpe
            subst this
            rw [hni] at g2;cases g2
          refine cL 0 q.1 q.2 hK h3 (ae e1) (.inr e5) f1 f2 f3 (fun w' hS'=>⟨_,rfl,.inr ⟨g,_,?_,fun j v hj=>?_,hS',fun p=>?_⟩⟩) rfl hTy
          · rw [bR _ _ (fun e=>hi0 e.symm)];exact h1
          · by_cases hji:j = i
            · subst hji;rw [cn] at hj;cases hj;exact (e4 g).symm
            · rw [bR _ _ hji] at hj;exact h2 j v hj
          · rw [xG hnone,h4]
            constructor
            · rintro (rfl | ⟨j,g1,g2,g3⟩)
              · exact ⟨i,hil,by rw [cn];rfl,hp⟩
              · refine ⟨j,g1,?_,g3⟩
                by_cases hji:j = i
                · subst hji;rw [cn];rfl
                · rw [bR _ _ hji];exact g2
            · rintro ⟨j,g1,g2,g3⟩
              by_cases hji:j = i
              · subst hji;rw [hp] at g3;cases g3;exact .inl rfl
              · rw [bR _ _ hji] at g2;exact .inr ⟨j,g1,g2,g3⟩
  · rcases hI with ⟨h1,h2,h3,h4⟩ | ⟨g,m,h1,h2,h3,h4⟩
    · rw [hv 0 (by simpa using hlen)] at h1;cases h1
    · have hvs:∀ i,i < l.length → vs' i = vals g i:=fun i hi=>h2 i _ (hv i (by simpa using hi))
      have hp:=pY (l:=l) (vs:=vs') hdst hroom
      refine hQ g m w _ ⟨hp.size,hp.defers,fun i d hd=>?_,hp.old⟩ h3 (fun p=>?_) (h3.mapNodup (i:=0) rfl)
      · have hil:i < l.length:=by
          rcases Nat.lt_or_ge i l.length with h | h
          · exact h
          · rw [List.getElem?_eq_none h] at hd;cases hd
        rw [hp.new i d hd,hvs i hil]
      · rw [h4]
        exact ⟨fun ⟨i,g1,_,g3⟩=>⟨i,g1,g3⟩,fun ⟨i,g1,g3⟩=>⟨i,g1,by rw [hv i (by simpa using g1)];rfl,g3⟩⟩
  · rw [getD_replicate_false] at h;cases h
  · rw [getD_replicate_false] at h;cases h
  · exact Nat.le_trans List.countP_le_length (by simp)
theorem oM {γ:Type} {i:Nat} {p:γ}:∀ {t:List (Nat × γ)},t.lookup i = some p → (i,p) ∈ t
  | [],h=>by cases h
  | (j,q)::t,h=>by
    rw [List.lookup_cons] at h
    split at h
    · rename_i hj
      simp only [beq_iff_eq] at hj
      simp only [Option.some.injEq] at h
      subst hj;subst h;exact List.mem_cons_self
    · exact List.mem_cons_of_mem _ (oM h)
theorem kX {γ:Type} {i:Nat} {p:γ}:∀ {t:List (Nat × γ)},(t.map (·.1)).Nodup → (i,p) ∈ t → t.lookup i = some p
  | [],_,h=>by cases h
  | (j,q)::t,hn,h=>by
    simp only [List.map_cons,List.nodup_cons] at hn
    rw [List.lookup_cons]
    rcases List.mem_cons.1 h with h | h
    · cases h;simp
    · have hij:i ≠ j:=fun e=>hn.1 (by rw [← e];exact List.mem_map_of_mem (f:=(·.1)) h)
      rw [show (i == j) = false by simpa using hij]
      exact kX hn.2 h
theorem fZ {id n:Nat} {l:List Oper} {a0:Act} {w0:World} (vals:Nat → Nat → Value) (tab:List (Nat × α × β)) (hn:a0.tmps.size = n) (hK:KeyK P K ek) (hS:S κ L I w0) (hlen:0 < l.length)
    (h0:∀ o,l[0]? = some o → o.op = .makeMap T none∧o.guard = none) (hv0:∀ g,vals g 0 = .map (some g))
    (hnd:(tab.map (·.1)).Nodup) (hkd:(tab.map (·.2.1)).Nodup)
    (hins:∀ q ∈ tab,∃ o,l[q.1]? = some o∧o.guard = none∧o.dst = none∧Region.waitsFor .any l.toArray q.1 0 = true∧(∀ g,vals g q.1 = undef) ∧
      ∃ x y z,o.op = .insert T x y z∧∀ g (a:Act),(∀ s,cZ .any l.toArray q.1 s = true → a.tmps.getD s undef = a0.tmps.getD s undef) → (∀ j d,Region.waitsFor .any l.toArray q.1 j = true → (l.toArray[j]?).bind (·.dst) = some d → a.tmps.getD d undef = vals g j) → a.eval x = .map (some g)∧a.eval y = ek q.2.1∧a.eval z = ev q.2.2)
    (hread:∀ i o,l[i]? = some o → i ≠ 0 → i ∉ tab.map (·.1) → o.guard = none∧∀ g (a:Act),(∀ s,cZ .any l.toArray i s = true → a.tmps.getD s undef = a0.tmps.getD s undef) → (∀ j d,Region.waitsFor .any l.toArray i j = true → (l.toArray[j]?).bind (·.dst) = some d → a.tmps.getD d undef = vals g j) → ∀ w,(execOp a.eval o).run P w = .ok (.value (vals g i)) w)
    (hQ:∀ g m w a1,Put l (vals g) a0 a1 → S κ (bq ek ev g m::L) I w → (∀ x,au x m = au x (tab.map (·.2))) → Q .normal a1 w)
    (hTy:P.underlying T = some (.map K E):=by kernel_rfl)
    (hm:P.follows .mixedOrders = true:=by kernel_rfl) (hback:ge .any l.toArray = true:=by kernel_rfl) (hdst:fR l.toArray = true:=by kernel_rfl) (hroom:dy l.toArray n = true:=by kernel_rfl):(Code.region id l.toArray true).wp P Q a0 w0:=by
  have hmem:∀ i p,tab.lookup i = some p → (i,p) ∈ tab:=fun i p h=>oM h
  refine tr (E:=E) (T:=T) (ev:=ev) vals (fun i=>tab.lookup i) hn hK hS hlen h0 hv0 (fun i o k v ho hi=>?_) (fun i j p q hi hj hpq=>?_) (fun i o ho hi0 hi=>?_) (fun g m w a1 hp hS' hmm hnd'=>?_) hTy hm hback hdst hroom
  · obtain ⟨o',h1,h2,h3,h4,h5,h6⟩:=hins _ (hmem i _ hi)
    rw [ho] at h1;cases h1
    exact ⟨h2,h3,h4,h5 0,h5,h6⟩
  · have h1:=hmem _ _ hi
    have h2:=hmem _ _ hj
    have key:∀ {t:List (Nat × α × β)},(t.map (·.2.1)).Nodup → (i,p) ∈ t → (j,q) ∈ t → i = j:=by
      intro t
      induction t with
      | nil=>intro _ h;cases h
      | cons x t ih=>
        intro hn h1 h2
        simp only [List.map_cons,List.nodup_cons] at hn
        rcases List.mem_cons.1 h1 with e1 | k1 <;> rcases List.mem_cons.1 h2 with e2 | k2
        · rw [← e1] at e2;cases e2;rfl
        · subst e1;exact absurd (show p.1 ∈ _ from hpq ▸ List.mem_map_of_mem (f:=fun x=>x.2.1) k2) hn.1
        · subst e2;exact absurd (show q.1 ∈ _ from hpq ▸ List.mem_map_of_mem (f:=fun x=>x.2.1) k1) hn.1
        · exact ih hn.2 k1 k2
    exact key hkd h1 h2
  · refine hread i o ho hi0 (fun h=>?_)
    obtain ⟨⟨j,p⟩,hp,e⟩:=List.mem_map.1 h
    simp only at e;subst e
    rw [kX hnd hp] at hi;cases hi
  · refine hQ g m w a1 hp hS' (sV hnd' (by rw [List.map_map];exact hkd) (fun p=>?_))
    rw [hmm]
    constructor
    · rintro ⟨i,_,hi⟩
      exact List.mem_map.2 ⟨_,hmem i p hi,rfl⟩
    · intro h
      obtain ⟨⟨i,p'⟩,hq,e⟩:=List.mem_map.1 h
      simp only at e;subst e
      obtain ⟨o,h1,_⟩:=hins _ hq
      exact ⟨i,(List.getElem?_eq_some_iff.1 h1).1,kX hnd hq⟩
end
end
section
set_option maxRecDepth 100000
set_option maxHeartbeats 8000000
structure IfV where
  self:Int
  prio:Int
  state:Int
  dr:Int
  bdr:Int
 deriving DecidableEq
def IfV.cells (x:IfV):List Value:=[.int .i64 x.self,.int .i64 x.prio,.int .i64 x.state,.int .i64 x.dr,.int .i64 x.bdr]
def IfV.cand (x:IfV):CdV:=⟨x.self,x.prio,x.dr,x.bdr⟩
def fQ (i:IfV) (others:List CdV):IfV:=
  let d:=fA i.self (i.cand::others)
  { i with dr:=d.1,bdr:=d.2,state:=if i.self = d.1 then 4 else if i.self = d.2 then 3 else 2 }
def dH (i:IfV):IfV:={ i with dr:=0,bdr:=0,state:=if i.prio ≤ 0 then 2 else 1 }
def cM (state event:Int):Nat:=
  if state = 0∧event = 0 then 1
  else if (state = 1∧(event = 2 ∨ event = 3)) ∨ ((state = 2 ∨ state = 3 ∨ state = 4)∧event = 4) then 2 else 0
def dm (i:IfV) (event:Int) (others:List CdV):IfV:=
  if event = 1 then { i with dr:=0,bdr:=0,state:=0 }
  else if cM i.state event = 1 then dH i else if cM i.state event = 2 then fQ i others else i
def iv (B V:Value):List ((Int × Int) × Value):=[((0,0),B),((1,2),V),((1,3),V),((2,4),V),((3,4),V),((4,4),V)]
theorem yS {s e:Int} (B V:Value) (h:cM s e = 1):au (s,e) (iv B V) = some B:=by
  unfold cM at h
  split at h
  · rename_i hc;obtain ⟨rfl,rfl⟩:=hc;rfl
  · split at h <;> cases h
theorem yT {s e:Int} (B V:Value) (h:cM s e = 2):au (s,e) (iv B V) = some V:=by
  unfold cM at h
  split at h
  · cases h
  · split at h
    · rename_i hc
      rcases hc with ⟨rfl,rfl | rfl⟩ | ⟨rfl | rfl | rfl,rfl⟩ <;> rfl
    · cases h
theorem yR {s e:Int} (B V:Value) (h:cM s e = 0):au (s,e) (iv B V) = none:=by
  unfold cM at h
  split at h
  · cases h
  · split at h
    · cases h
    · rename_i h1 h2
      simp only [iv,au,Prod.mk.injEq]
      repeat' split
      all_goals first | rfl | (exfalso;omega)
theorem iw (x y:IfV) (w:World):(binOp .neq 35 (.agg x.cells.toArray) (.agg y.cells.toArray)).run Tryz.prog w = .ok (.bool (decide (x ≠ y))) w:=by
  obtain ⟨a1,a2,a3,a4,a5⟩:=x
  obtain ⟨b1,b2,b3,b4,b5⟩:=y
  dsimp only [IfV.cells]
  go_simp
  repeat' split
  all_goals simp_all
theorem y4 (i:IfV) (W:World):
    Calls Tryz.prog 94 #[.agg #[i6 i.self,i6 i.prio,i6 i.state,i6 i.dr,i6 i.bdr]] W (fun r w'=>r = .returned (.agg i.cand.cells.toArray)∧Below W.heap.size W w'):=by
 have hS:=S.start W
 refine wK 12 Tryz.func94 (fun R_ hR_ a hk=>?_)
 refine sg [0,1] hk ?_
 refine eB hk hS (fun g3 w3 hS3 _=>?_)
 clear hS
 refine eA #[i6 0,i6 0,i6 0,i6 0] hS3 (fun g4 w4 hS4 _=>?_)
 clear hS3
 refine rE [1,2] hk ?_
 clear hk
 intro a2 hk
 refine sg [9] hk ?_
 refine T ?_
 refine LD 1 hk hS4 ?_
 refine T ?_
 refine LD 1 hk hS4 ?_
 refine T ?_
 refine LD 1 hk hS4 ?_
 refine T ?_
 refine LD 1 hk hS4 ?_
 refine rD (.agg #[i6 i.self,i6 i.prio,i6 i.dr,i6 i.bdr]) (fun _ h_=>rk (af rfl (h_.prt hk) (by kernel_rfl))) ?_
 refine eS 0 hk hS4 (fun w6 hS6 _=>?_)
 clear hS4
 refine rE [2] hk ?_
 clear hk
 intro a5 hk
 refine wp_ret ?_
 refine rtC hk (hS6.blk (i:=0) rfl) (hR_ _ _ ?_) Tryz.underlying161
 exact ⟨rfl,(hS6.old (by simp))⟩
theorem uX {L I:List Atom} (i:IfV) (g:Nat) (W0 W:World) (hS:S (kap W0) (ai g 35 #[i6 i.self,i6 i.prio,i6 i.state,i6 i.dr,i6 i.bdr]::L) ((cA W0 W0.heap.size)::I) W):
    Calls Tryz.prog 96 #[pt g 0] W (fun r w'=>r = .returned (.tuple #[])∧S (kap W0) (ai g 35 #[i6 ((dH i).self),i6 ((dH i).prio),i6 ((dH i).state),i6 ((dH i).dr),i6 ((dH i).bdr)]::L) ((cA W0 W0.heap.size)::I) w'):=by
 refine wK 8 Tryz.func96 (fun R_ hR_ a hk=>?_)
 refine sg [1,3,5] hk ?_
 refine T ?_
 refine eS 0 hk hS (fun w3 hS3 _=>?_)
 clear hS
 refine T ?_
 refine eS 0 hk hS3 (fun w4 hS4 _=>?_)
 clear hS3
 refine T ?_
 refine eS 0 hk hS4 (fun w5 hS5 _=>?_)
 clear hS4
 refine rE [0] hk ?_
 clear hk
 intro a2 hk
 refine sg [] hk ?_
 refine T ?_
 refine LD 0 hk hS5 ?_
 refine T ?_
 refine rE [0,6] hk ?_
 clear hk
 intro a6 hk
 refine cD hk (fun hc6=>?_) (fun hc6=>?_)
 ·refine rgL [1] hk ?_
  refine T ?_
  refine eS 0 hk hS5 (fun w8 hS8 _=>?_)
  clear hS5
  refine rE [] hk ?_
  clear hk
  intro a7 hk
  show bodyPost _ _ _ .ret _ _
  refine rt0 hk (hR_ _ _ ?_)
  refine ⟨rfl,?_⟩
  simp only [dH]
  first | (rw [if_pos hc6];exact hS8) | (rw [if_neg hc6];exact hS8)
 refine wp_skip ?_
 show bodyPost _ _ _ .ret _ _
 refine rt0 hk (hR_ _ _ ?_)
 refine ⟨rfl,?_⟩
 simp only [dH]
 first | (rw [if_pos hc6];exact hS5) | (rw [if_neg hc6];exact hS5)
theorem yn {L I:List Atom} (i:IfV) (g h n c:Nat) (A:Option Addr) (l:List CdV) (W0 W:World) (hn:n ≤ 90000) (hR:Reads W0 W0.heap.size 4 A n (ab CdV.cells l)) (hS:S (kap W0) (ai g 35 #[i6 i.self,i6 i.prio,i6 i.state,i6 i.dr,i6 i.bdr]::ai h 150 #[.slice A n c]::L) ((cA W0 W0.heap.size)::I) W):
    Calls Tryz.prog 93 #[pt g 0,pt h 0] W (fun r w'=>r = .returned (.tuple #[])∧S (kap W0) (ai g 35 #[i6 ((fQ i l).self),i6 ((fQ i l).prio),i6 ((fQ i l).state),i6 ((fQ i l).dr),i6 ((fQ i l).bdr)]::ai h 150 #[.slice A n c]::L) ((cA W0 W0.heap.size)::I) w'):=by
 refine wK 30 Tryz.func93 (fun R_ hR_ a hk=>?_)
 refine wp_seq ?_
 refine rgR [[],[0],[0,1],[],[0,1,2,3],[0,1,2,3,4]] [1,2,4] (.rd 0 (.rd 3 (.ef 1 (.ag 3 (.ef 2 (.ag 3 (.ef 4 (.rd 5 (.fin)) .non)) .non)) .non))) hk hS (fun w2 hS2 _=>?_)
 clear hS
 refine LDS 0 5 hk hS2 ?_
 refine LD 1 hk hS2 ?_
 refine eCb hk hS2 (h:=y4 i _) (k:=fun w3 hS3 _=>?_)
 clear hS2
 refine aG (fun _ h_=>rk (ld hS3 1 rfl (h_.x hk))) ?_
 refine eF (fun a_ h_=>aZ (e:=161) (cells:=#[i6 i.self,i6 i.prio,i6 i.dr,i6 i.bdr]) hS3 (ae rfl) rfl (h_.prtL hk) fun g4 w4 hS4 hb4=>⟨_,rfl,?_⟩)
 clear h_ a_ hS3
 clear hb4
 have hSr:S (kap W0) (aa (.slice (some ⟨g4,0,none⟩) 1 1) 161 4 1 (CdV.cells i.cand)::ai g 35 #[i6 i.self,i6 i.prio,i6 i.state,i6 i.dr,i6 i.bdr]::ai h 150 #[.slice A n c]::L) ((cA W0 W0.heap.size)::I) w4:=hS4.litRow rfl (by decide)
 clear hS4
 have hS4:=hSr
 clear hSr
 refine aG (fun _ h_=>rk (ld hS4 2 rfl (h_.x hk))) ?_
 refine eF (fun a_ h_=>sap (bytes:=32) (news:=ab CdV.cells l) hS4 0 (ae rfl) rfl (h_.x hk) (h_.x hk) (hR.old (hS4.old (by simp))) (by exact lL l) (by (try unfold maxLen);omega) (by (try unfold maxLen);omega) fun A5 c5 w5 hS5=>⟨_,rfl,?_⟩)
 clear h_ a_ hS4
 replace hS5:=hS5.nz 3
 replace hS5:S (kap W0) (aa (.slice A5 (1 + n) c5) 161 4 (1 + n) (ab CdV.cells (i.cand::l))::ai g 35 #[i6 i.self,i6 i.prio,i6 i.state,i6 i.dr,i6 i.bdr]::ai h 150 #[.slice A n c]::L) ((cA W0 W0.heap.size)::I) w5:=hS5
 refine T ?_
 refine rE [0,2] hk ?_
 clear hk
 intro a2 hk
 refine sg [3,8,10] hk ?_
 refine T ?_
 refine LD 1 hk hS5 ?_
 refine T ?_
 refine eCb hk hS5 (h:=vg i.self _ _ _ (i.cand::l) _ (by omega) (hS5.rd (i:=0) rfl)) (k:=fun w7 hS7 _=>?_)
 clear hS5
 iterate 4 refine T ?_
 refine eS 1 hk hS7 (fun w8 hS8 _=>?_)
 clear hS7
 refine T ?_
 refine eS 1 hk hS8 (fun w9 hS9 _=>?_)
 clear hS8
 refine rE [0] hk ?_
 clear hk
 intro a6 hk
 refine sg [] hk ?_
 refine T ?_
 refine LD 1 hk hS9 ?_
 refine rE [0,18] hk ?_
 clear hk
 intro a10 hk
 refine wp_block ?_
 refine sg [] hk ?_
 refine T ?_
 refine LD 1 hk hS9 ?_
 iterate 2 refine T ?_
 refine rE [0,18,20] hk ?_
 clear hk
 intro a11 hk
 refine cD hk (fun hc20=>?_) (fun hc20=>?_)
 ·refine rgL [1] hk ?_
  refine T ?_
  refine eS 1 hk hS9 (fun w13 hS13 _=>?_)
  clear hS9
  refine rE [] hk ?_
  clear hk
  intro a12 hk
  show bodyPost _ _ _ .ret _ _
  refine rt0 hk (hR_ _ _ ?_)
  replace hS13:=hS13.drop
  refine ⟨rfl,?_⟩
  simp only [fQ]
  first | (rw [if_pos hc20];exact hS13) | (rw [if_neg hc20,if_pos hc25];exact hS13) | (rw [if_neg hc20,if_neg hc25];exact hS13)
 refine sg [] hk ?_
 refine T ?_
 refine LD 1 hk hS9 ?_
 iterate 2 refine T ?_
 refine rE [0,25] hk ?_
 clear hk
 intro a14 hk
 refine cD hk (fun hc25=>?_) (fun hc25=>?_)
 ·refine rgL [1] hk ?_
  refine T ?_
  refine eS 1 hk hS9 (fun w16 hS16 _=>?_)
  clear hS9
  refine rE [] hk ?_
  clear hk
  intro a15 hk
  show bodyPost _ _ _ .ret _ _
  refine rt0 hk (hR_ _ _ ?_)
  replace hS16:=hS16.drop
  refine ⟨rfl,?_⟩
  simp only [fQ]
  first | (rw [if_pos hc20];exact hS16) | (rw [if_neg hc20,if_pos hc25];exact hS16) | (rw [if_neg hc20,if_neg hc25];exact hS16)
 refine rgL [1] hk ?_
 refine T ?_
 refine eS 1 hk hS9 (fun w18 hS18 _=>?_)
 clear hS9
 refine rE [] hk ?_
 clear hk
 intro a17 hk
 show bodyPost _ _ _ .ret _ _
 refine rt0 hk (hR_ _ _ ?_)
 replace hS18:=hS18.drop
 refine ⟨rfl,?_⟩
 simp only [fQ]
 first | (rw [if_pos hc20];exact hS18) | (rw [if_neg hc20,if_pos hc25];exact hS18) | (rw [if_neg hc20,if_neg hc25];exact hS18)
theorem Au (x y:Int × Int) (w:World):(Op.equal 166 (moE x) (moE y)).run Tryz.prog w = .ok (decide (x = y)) w:=by
  obtain ⟨a1,a2⟩:=x
  obtain ⟨b1,b2⟩:=y
  dsimp only [moE]
  unfold Op.equal Op.maxDepth
  go_simp
  repeat' split
  all_goals simp_all
theorem jL:KeyK Tryz.prog 166 moE:=KeyK.ofStruct Tryz.underlying166 Au (fun e x w=>by
  obtain ⟨a1,a2⟩:=x
  dsimp only [moE]
  kernel_rfl) (fun x=>by
  obtain ⟨a1,a2⟩:=x
  simp [Instr.sameBits,moE])
theorem wi (i:IfV) (e:Int) (A:Option Addr) (n c:Nat) (l:List CdV) (W:World) (hn:n ≤ 90000) (hR:Reads W W.heap.size 4 A n (ab CdV.cells l)) (he1:e = 1):
    Calls Tryz.prog 32 #[.agg #[i6 i.self,i6 i.prio,i6 i.state,i6 i.dr,i6 i.bdr],i6 e,.slice A n c] W (fun r w'=>r = .returned (.tuple #[.agg ({ i with dr:=0,bdr:=0,state:=0 }).cells.toArray,.bool (decide ({ i with dr:=0,bdr:=0,state:=0 } ≠ i))])∧Below W.heap.size W w'):=by
 have hS:=S.start W
 refine wK 52 Tryz.func32 (fun R_ hR_ a hk=>?_)
 refine sg [0,1,2] hk ?_
 refine eB hk hS (fun g3 w3 hS3 _=>?_)
 clear hS
 refine eB hk hS3 (fun g4 w4 hS4 _=>?_)
 clear hS3
 refine eA #[i6 0,i6 0,i6 0,i6 0,i6 0] hS4 (fun g5 w5 hS5 _=>?_)
 clear hS4
 refine T ?_
 refine rE [1,3,5,6,7] hk ?_
 clear hk
 intro a2 hk
 refine sg [1,2] hk ?_
 refine LDS 2 5 hk hS5 ?_
 refine eA #[i6 0,i6 0,i6 0,i6 0,i6 0] hS5 (fun g7 w7 hS7 _=>?_)
 clear hS5
 refine eS 0 hk hS7 (fun w8 hS8 _=>?_)
 clear hS7
 refine rE [1,3,5,6,7,8] hk ?_
 clear hk
 intro a6 hk
 refine sg [] hk ?_
 refine rD (.func (.func 93) #[] #[pt g3 0,pt g4 0]) (fun _ h_=>rk (bu rfl (by simp) (h_.map hk))) ?_
 refine T ?_
 refine rE [1,3,6,7,8,9] hk ?_
 clear hk
 intro a9 hk
 refine sg [] hk ?_
 refine rD (.func (.func 96) #[] #[pt g3 0]) (fun _ h_=>rk (bu rfl (by simp) (h_.map hk))) ?_
 refine T ?_
 refine rE [1,3,6,7,8,9,10] hk ?_
 clear hk
 intro a10 hk
 refine wp_seq ?_
 refine fZ (E:=1) (fun g_ i_=>match i_ with | 0=>.map (some g_) | 1=>moE (0,0) | 2=>.func (.func 96) #[] #[pt g3 0] | 4=>moE (1,2) | 5=>.func (.func 93) #[] #[pt g3 0,pt g4 0] | 7=>moE (1,3) | 8=>.func (.func 93) #[] #[pt g3 0,pt g4 0] | 10=>moE (2,4) | 11=>.func (.func 93) #[] #[pt g3 0,pt g4 0] | 13=>moE (3,4) | 14=>.func (.func 93) #[] #[pt g3 0,pt g4 0] | 16=>moE (4,4) | 17=>.func (.func 93) #[] #[pt g3 0,pt g4 0] | 19=>.map (some g_) | 20=>.map (some g_) | _=>undef) ([(3,(0,0),.func (.func 96) #[] #[pt g3 0]),(6,(1,2),.func (.func 93) #[] #[pt g3 0,pt g4 0]),(9,(1,3),.func (.func 93) #[] #[pt g3 0,pt g4 0]),(12,(2,4),.func (.func 93) #[] #[pt g3 0,pt g4 0]),(15,(3,4),.func (.func 93) #[] #[pt g3 0,pt g4 0]),(18,(4,4),.func (.func 93) #[] #[pt g3 0,pt g4 0])]:List (Nat × (Int × Int) × Value)) hk.size jL (ev:=fun v=>v) hS8 (by decide) (fun o ho=>by cases ho;exact ⟨rfl,rfl⟩) (fun _=>rfl) (by simp) (by simp) ?_ ?_ ?_
 ·intro q hq
  simp only [List.mem_cons,List.not_mem_nil,or_false] at hq
  rcases hq with rfl | rfl | rfl | rfl | rfl | rfl
  · exact ⟨_,rfl,rfl,rfl,by kernel_rfl,fun _=>rfl,_,_,_,rfl,fun g_ a_ hb_ hd_=>⟨hd_ 0 17 (by kernel_rfl) rfl,hd_ 1 18 (by kernel_rfl) rfl,hd_ 2 19 (by kernel_rfl) rfl⟩⟩
  · exact ⟨_,rfl,rfl,rfl,by kernel_rfl,fun _=>rfl,_,_,_,rfl,fun g_ a_ hb_ hd_=>⟨hd_ 0 17 (by kernel_rfl) rfl,hd_ 4 20 (by kernel_rfl) rfl,hd_ 5 21 (by kernel_rfl) rfl⟩⟩
  · exact ⟨_,rfl,rfl,rfl,by kernel_rfl,fun _=>rfl,_,_,_,rfl,fun g_ a_ hb_ hd_=>⟨hd_ 0 17 (by kernel_rfl) rfl,hd_ 7 22 (by kernel_rfl) rfl,hd_ 8 23 (by kernel_rfl) rfl⟩⟩
  · exact ⟨_,rfl,rfl,rfl,by kernel_rfl,fun _=>rfl,_,_,_,rfl,fun g_ a_ hb_ hd_=>⟨hd_ 0 17 (by kernel_rfl) rfl,hd_ 10 24 (by kernel_rfl) rfl,hd_ 11 25 (by kernel_rfl) rfl⟩⟩
  · exact ⟨_,rfl,rfl,rfl,by kernel_rfl,fun _=>rfl,_,_,_,rfl,fun g_ a_ hb_ hd_=>⟨hd_ 0 17 (by kernel_rfl) rfl,hd_ 13 26 (by kernel_rfl) rfl,hd_ 14 27 (by kernel_rfl) rfl⟩⟩
  · exact ⟨_,rfl,rfl,rfl,by kernel_rfl,fun _=>rfl,_,_,_,rfl,fun g_ a_ hb_ hd_=>⟨hd_ 0 17 (by kernel_rfl) rfl,hd_ 16 28 (by kernel_rfl) rfl,hd_ 17 29 (by kernel_rfl) rfl⟩⟩
 ·intro i o ho hi0 hni
  rcases i with _ | _ | _ | _ | _ | _ | _ | _ | _ | _ | _ | _ | _ | _ | _ | _ | _ | _ | _ | _ | _ | i
  · exact absurd rfl hi0
  · cases ho;exact ⟨rfl,fun g_ a_ hb_ hd_ w_=>af (vals:=#[(0,i6 0),(1,i6 0)]) rfl (bp2 rfl rfl) (by kernel_rfl)⟩
  · cases ho;exact ⟨rfl,fun g_ a_ hb_ hd_ w_=>aO rfl ((hb_ 10 (by kernel_rfl)).trans hk.g)⟩
  · exact absurd (by simp) hni
  · cases ho;exact ⟨rfl,fun g_ a_ hb_ hd_ w_=>af (vals:=#[(0,i6 1),(1,i6 2)]) rfl (bp2 rfl rfl) (by kernel_rfl)⟩
  · cases ho;exact ⟨rfl,fun g_ a_ hb_ hd_ w_=>aO rfl ((hb_ 9 (by kernel_rfl)).trans hk.g)⟩
  · exact absurd (by simp) hni
  · cases ho;exact ⟨rfl,fun g_ a_ hb_ hd_ w_=>af (vals:=#[(0,i6 1),(1,i6 3)]) rfl (bp2 rfl rfl) (by kernel_rfl)⟩
  · cases ho;exact ⟨rfl,fun g_ a_ hb_ hd_ w_=>aO rfl ((hb_ 9 (by kernel_rfl)).trans hk.g)⟩
  · exact absurd (by simp) hni
  · cases ho;exact ⟨rfl,fun g_ a_ hb_ hd_ w_=>af (vals:=#[(0,i6 2),(1,i6 4)]) rfl (bp2 rfl rfl) (by kernel_rfl)⟩
  · cases ho;exact ⟨rfl,fun g_ a_ hb_ hd_ w_=>aO rfl ((hb_ 9 (by kernel_rfl)).trans hk.g)⟩
  · exact absurd (by simp) hni
  · cases ho;exact ⟨rfl,fun g_ a_ hb_ hd_ w_=>af (vals:=#[(0,i6 3),(1,i6 4)]) rfl (bp2 rfl rfl) (by kernel_rfl)⟩
  · cases ho;exact ⟨rfl,fun g_ a_ hb_ hd_ w_=>aO rfl ((hb_ 9 (by kernel_rfl)).trans hk.g)⟩
  · exact absurd (by simp) hni
  · cases ho;exact ⟨rfl,fun g_ a_ hb_ hd_ w_=>af (vals:=#[(0,i6 4),(1,i6 4)]) rfl (bp2 rfl rfl) (by kernel_rfl)⟩
  · cases ho;exact ⟨rfl,fun g_ a_ hb_ hd_ w_=>aO rfl ((hb_ 9 (by kernel_rfl)).trans hk.g)⟩
  · exact absurd (by simp) hni
  · cases ho;exact ⟨rfl,fun g_ a_ hb_ hd_ w_=>aO rfl (hd_ 0 17 (by kernel_rfl) rfl)⟩
  · cases ho;exact ⟨rfl,fun g_ a_ hb_ hd_ w_=>bU rfl (hd_ 19 30 (by kernel_rfl) rfl)⟩
  · exact absurd (List.getElem?_eq_some_iff.1 ho).1 (by simp)
 intro g11 m11 w11 a11 hput hS11 hlk
 replace hlk:∀ x,au x m11 = au x (iv (.func (.func 96) #[] #[pt g3 0]) (.func (.func 93) #[] #[pt g3 0,pt g4 0])):=hlk
 clear hS8
 replace hk:Fr a11 52 [(1,i6 e),(3,pt g3 0),(6,pt g5 0),(7,.bool false),(8,pt g7 0),(11,.map (some g11))]:=hk.put hput
 clear hput
 refine wp_seq ?_
 refine sg [] hk ?_
 iterate 2 refine T ?_
 refine rE [1,3,6,7,8,11,32] hk ?_
 clear hk
 intro a12 hk
 refine cD hk (fun hc32=>?_) (fun hc32=>?_)
 ·refine rgL [1,3,5] hk ?_
  refine T ?_
  refine eS 4 hk hS11 (fun w14 hS14 _=>?_)
  clear hS11
  refine T ?_
  refine eS 4 hk hS14 (fun w15 hS15 _=>?_)
  clear hS14
  refine T ?_
  refine eS 4 hk hS15 (fun w16 hS16 _=>?_)
  clear hS15
  refine rE [3,6,7,8] hk ?_
  clear hk
  intro a13 hk
  refine wp_seq ?_
  refine rgR [[],[],[],[1,2],[0],[0,1,2,3,4]] [4] (.rd 0 (.rd 1 (.rd 2 (.rd 3 (.ef 4 (.ag 1 (.ag 2 (.ag 3 (.rd 5 (.fin))))) .non))))) hk hS16 (fun w17 hS17 _=>?_)
  clear hS16
  refine LDS 4 5 hk hS17 ?_
  refine LDS 4 5 hk hS17 ?_
  refine LDS 1 5 hk hS17 ?_
  refine rD (.bool (decide ({ i with dr:=0,bdr:=0,state:=0 } ≠ i))) (fun _ h_=>rk (aq rfl (h_.x hk) (h_.x hk) (fun _=>by kernel_rfl) (iw ({ i with dr:=0,bdr:=0,state:=0 }) i))) ?_
  refine eS 2 hk hS17 (fun w18 hS18 _=>?_)
  clear hS17
  refine aG (fun _ h_=>rk (lbS 5 (hS18.blk (i:=4) rfl) rfl (h_.x hk))) ?_
  refine aG (fun _ h_=>rk (lbS 5 (hS18.blk (i:=1) rfl) rfl (h_.x hk))) ?_
  refine aG (fun _ h_=>rk (aq rfl (h_.x hk) (h_.x hk) (fun _=>by kernel_rfl) (iw ({ i with dr:=0,bdr:=0,state:=0 }) i))) ?_
  refine T ?_
  refine rE [6,7] hk ?_
  clear hk
  intro a17 hk
  refine wp_ret ?_
  refine gs hk (hS18.blk (i:=2) rfl) (hR_ _ _ ?_) Tryz.underlying35
  exact ⟨rfl,(hS18.old (by simp))⟩
 exact absurd he1 hc32
theorem tF (i:IfV) (e:Int) (A:Option Addr) (n c:Nat) (l:List CdV) (W:World) (hn:n ≤ 90000) (hR:Reads W W.heap.size 4 A n (ab CdV.cells l)) (he1:¬ e = 1) (hw:cM i.state e = 1):
    Calls Tryz.prog 32 #[.agg #[i6 i.self,i6 i.prio,i6 i.state,i6 i.dr,i6 i.bdr],i6 e,.slice A n c] W (fun r w'=>r = .returned (.tuple #[.agg (dH i).cells.toArray,.bool (decide (dH i ≠ i))])∧Below W.heap.size W w'):=by
 have hS:=S.start W
 refine wK 52 Tryz.func32 (fun R_ hR_ a hk=>?_)
 refine sg [0,1,2] hk ?_
 refine eB hk hS (fun g3 w3 hS3 _=>?_)
 clear hS
 refine eB hk hS3 (fun g4 w4 hS4 _=>?_)
 clear hS3
 refine eA #[i6 0,i6 0,i6 0,i6 0,i6 0] hS4 (fun g5 w5 hS5 _=>?_)
 clear hS4
 refine T ?_
 refine rE [1,3,5,6,7] hk ?_
 clear hk
 intro a2 hk
 refine sg [1,2] hk ?_
 refine LDS 2 5 hk hS5 ?_
 refine eA #[i6 0,i6 0,i6 0,i6 0,i6 0] hS5 (fun g7 w7 hS7 _=>?_)
 clear hS5
 refine eS 0 hk hS7 (fun w8 hS8 _=>?_)
 clear hS7
 refine rE [1,3,5,6,7,8] hk ?_
 clear hk
 intro a6 hk
 refine sg [] hk ?_
 refine rD (.func (.func 93) #[] #[pt g3 0,pt g4 0]) (fun _ h_=>rk (bu rfl (by simp) (h_.map hk))) ?_
 refine T ?_
 refine rE [1,3,6,7,8,9] hk ?_
 clear hk
 intro a9 hk
 refine sg [] hk ?_
 refine rD (.func (.func 96) #[] #[pt g3 0]) (fun _ h_=>rk (bu rfl (by simp) (h_.map hk))) ?_
 refine T ?_
 refine rE [1,3,6,7,8,9,10] hk ?_
 clear hk
 intro a10 hk
 refine wp_seq ?_
 refine fZ (E:=1) (fun g_ i_=>match i_ with | 0=>.map (some g_) | 1=>moE (0,0) | 2=>.func (.func 96) #[] #[pt g3 0] | 4=>moE (1,2) | 5=>.func (.func 93) #[] #[pt g3 0,pt g4 0] | 7=>moE (1,3) | 8=>.func (.func 93) #[] #[pt g3 0,pt g4 0] | 10=>moE (2,4) | 11=>.func (.func 93) #[] #[pt g3 0,pt g4 0] | 13=>moE (3,4) | 14=>.func (.func 93) #[] #[pt g3 0,pt g4 0] | 16=>moE (4,4) | 17=>.func (.func 93) #[] #[pt g3 0,pt g4 0] | 19=>.map (some g_) | 20=>.map (some g_) | _=>undef) ([(3,(0,0),.func (.func 96) #[] #[pt g3 0]),(6,(1,2),.func (.func 93) #[] #[pt g3 0,pt g4 0]),(9,(1,3),.func (.func 93) #[] #[pt g3 0,pt g4 0]),(12,(2,4),.func (.func 93) #[] #[pt g3 0,pt g4 0]),(15,(3,4),.func (.func 93) #[] #[pt g3 0,pt g4 0]),(18,(4,4),.func (.func 93) #[] #[pt g3 0,pt g4 0])]:List (Nat × (Int × Int) × Value)) hk.size jL (ev:=fun v=>v) hS8 (by decide) (fun o ho=>by cases ho;exact ⟨rfl,rfl⟩) (fun _=>rfl) (by simp) (by simp) ?_ ?_ ?_
 ·intro q hq
  simp only [List.mem_cons,List.not_mem_nil,or_false] at hq
  rcases hq with rfl | rfl | rfl | rfl | rfl | rfl
  · exact ⟨_,rfl,rfl,rfl,by kernel_rfl,fun _=>rfl,_,_,_,rfl,fun g_ a_ hb_ hd_=>⟨hd_ 0 17 (by kernel_rfl) rfl,hd_ 1 18 (by kernel_rfl) rfl,hd_ 2 19 (by kernel_rfl) rfl⟩⟩
  · exact ⟨_,rfl,rfl,rfl,by kernel_rfl,fun _=>rfl,_,_,_,rfl,fun g_ a_ hb_ hd_=>⟨hd_ 0 17 (by kernel_rfl) rfl,hd_ 4 20 (by kernel_rfl) rfl,hd_ 5 21 (by kernel_rfl) rfl⟩⟩
  · exact ⟨_,rfl,rfl,rfl,by kernel_rfl,fun _=>rfl,_,_,_,rfl,fun g_ a_ hb_ hd_=>⟨hd_ 0 17 (by kernel_rfl) rfl,hd_ 7 22 (by kernel_rfl) rfl,hd_ 8 23 (by kernel_rfl) rfl⟩⟩
  · exact ⟨_,rfl,rfl,rfl,by kernel_rfl,fun _=>rfl,_,_,_,rfl,fun g_ a_ hb_ hd_=>⟨hd_ 0 17 (by kernel_rfl) rfl,hd_ 10 24 (by kernel_rfl) rfl,hd_ 11 25 (by kernel_rfl) rfl⟩⟩
  · exact ⟨_,rfl,rfl,rfl,by kernel_rfl,fun _=>rfl,_,_,_,rfl,fun g_ a_ hb_ hd_=>⟨hd_ 0 17 (by kernel_rfl) rfl,hd_ 13 26 (by kernel_rfl) rfl,hd_ 14 27 (by kernel_rfl) rfl⟩⟩
  · exact ⟨_,rfl,rfl,rfl,by kernel_rfl,fun _=>rfl,_,_,_,rfl,fun g_ a_ hb_ hd_=>⟨hd_ 0 17 (by kernel_rfl) rfl,hd_ 16 28 (by kernel_rfl) rfl,hd_ 17 29 (by kernel_rfl) rfl⟩⟩
 ·intro i o ho hi0 hni
  rcases i with _ | _ | _ | _ | _ | _ | _ | _ | _ | _ | _ | _ | _ | _ | _ | _ | _ | _ | _ | _ | _ | i
  · exact absurd rfl hi0
  · cases ho;exact ⟨rfl,fun g_ a_ hb_ hd_ w_=>af (vals:=#[(0,i6 0),(1,i6 0)]) rfl (bp2 rfl rfl) (by kernel_rfl)⟩
  · cases ho;exact ⟨rfl,fun g_ a_ hb_ hd_ w_=>aO rfl ((hb_ 10 (by kernel_rfl)).trans hk.g)⟩
  · exact absurd (by simp) hni
  · cases ho;exact ⟨rfl,fun g_ a_ hb_ hd_ w_=>af (vals:=#[(0,i6 1),(1,i6 2)]) rfl (bp2 rfl rfl) (by kernel_rfl)⟩
  · cases ho;exact ⟨rfl,fun g_ a_ hb_ hd_ w_=>aO rfl ((hb_ 9 (by kernel_rfl)).trans hk.g)⟩
  · exact absurd (by simp) hni
  · cases ho;exact ⟨rfl,fun g_ a_ hb_ hd_ w_=>af (vals:=#[(0,i6 1),(1,i6 3)]) rfl (bp2 rfl rfl) (by kernel_rfl)⟩
  · cases ho;exact ⟨rfl,fun g_ a_ hb_ hd_ w_=>aO rfl ((hb_ 9 (by kernel_rfl)).trans hk.g)⟩
  · exact absurd (by simp) hni
  · cases ho;exact ⟨rfl,fun g_ a_ hb_ hd_ w_=>af (vals:=#[(0,i6 2),(1,i6 4)]) rfl (bp2 rfl rfl) (by kernel_rfl)⟩
  · cases ho;exact ⟨rfl,fun g_ a_ hb_ hd_ w_=>aO rfl ((hb_ 9 (by kernel_rfl)).trans hk.g)⟩
  · exact absurd (by simp) hni
  · cases ho;exact ⟨rfl,fun g_ a_ hb_ hd_ w_=>af (vals:=#[(0,i6 3),(1,i6 4)]) rfl (bp2 rfl rfl) (by kernel_rfl)⟩
  · cases ho;exact ⟨rfl,fun g_ a_ hb_ hd_ w_=>aO rfl ((hb_ 9 (by kernel_rfl)).trans hk.g)⟩
  · exact absurd (by simp) hni
  · cases ho;exact ⟨rfl,fun g_ a_ hb_ hd_ w_=>af (vals:=#[(0,i6 4),(1,i6 4)]) rfl (bp2 rfl rfl) (by kernel_rfl)⟩
  · cases ho;exact ⟨rfl,fun g_ a_ hb_ hd_ w_=>aO rfl ((hb_ 9 (by kernel_rfl)).trans hk.g)⟩
  · exact absurd (by simp) hni
  · cases ho;exact ⟨rfl,fun g_ a_ hb_ hd_ w_=>aO rfl (hd_ 0 17 (by kernel_rfl) rfl)⟩
  · cases ho;exact ⟨rfl,fun g_ a_ hb_ hd_ w_=>bU rfl (hd_ 19 30 (by kernel_rfl) rfl)⟩
  · exact absurd (List.getElem?_eq_some_iff.1 ho).1 (by simp)
 intro g11 m11 w11 a11 hput hS11 hlk
 replace hlk:∀ x,au x m11 = au x (iv (.func (.func 96) #[] #[pt g3 0]) (.func (.func 93) #[] #[pt g3 0,pt g4 0])):=hlk
 clear hS8
 replace hk:Fr a11 52 [(1,i6 e),(3,pt g3 0),(6,pt g5 0),(7,.bool false),(8,pt g7 0),(11,.map (some g11))]:=hk.put hput
 clear hput
 refine wp_seq ?_
 refine sg [] hk ?_
 iterate 2 refine T ?_
 refine rE [1,3,6,7,8,11,32] hk ?_
 clear hk
 intro a12 hk
 refine cD hk (fun hc32=>?_) (fun hc32=>?_)
 ·exact absurd hc32 he1
 refine sg [] hk ?_
 iterate 2 refine T ?_
 refine LD 4 hk hS11 ?_
 refine T ?_
 refine rD (.agg #[i6 i.state,i6 e]) (fun _ h_=>rk (af rfl (h_.prt hk) (by kernel_rfl))) ?_
 refine rD (.tuple #[.func (.func 96) #[] #[pt g3 0],.bool true]) (fun _ h_=>rk (bH (E:=1) (z:=.nilFunc) (i.state,e) jL (hS11.mapAt (i:=0) rfl) rfl (h_.x hk) (h_.x hk) (by rw [hlk,show au (i.state,e) _ = _ from yS _ _ hw];rfl))) ?_
 iterate 5 refine T ?_
 refine rE [3,6,7,8,12,13] hk ?_
 clear hk
 intro a13 hk
 refine sg [] hk ?_
 refine T ?_
 refine rE [3,6,7,8,12,45] hk ?_
 clear hk
 intro a14 hk
 refine cT hk ?_
 refine rgL [1] hk ?_
 refine T ?_
 have hSp:=hS11.fr 4
 refine eV hk (h:=(uX i g3 W _ hSp)) (k:=?_)
 rintro e_ w16 ⟨rfl,hS16⟩
 refine ⟨_,rfl,?_⟩
 clear hS11 hSp
 replace hS16:=hS16.nz 5
 refine rE [3,6,7,8] hk ?_
 clear hk
 intro a15 hk
 refine wp_seq ?_
 refine rgR [[],[],[],[1,2],[0],[0,1,2,3,4]] [4] (.rd 0 (.rd 1 (.rd 2 (.rd 3 (.ef 4 (.ag 1 (.ag 2 (.ag 3 (.rd 5 (.fin))))) .non))))) hk hS16 (fun w17 hS17 _=>?_)
 clear hS16
 refine LDS 0 5 hk hS17 ?_
 refine LDS 0 5 hk hS17 ?_
 refine LDS 2 5 hk hS17 ?_
 refine rD (.bool (decide (dH i ≠ i))) (fun _ h_=>rk (aq rfl (h_.x hk) (h_.x hk) (fun _=>by kernel_rfl) (iw (dH i) i))) ?_
 refine eS 3 hk hS17 (fun w18 hS18 _=>?_)
 clear hS17
 refine aG (fun _ h_=>rk (lbS 5 (hS18.blk (i:=0) rfl) rfl (h_.x hk))) ?_
 refine aG (fun _ h_=>rk (lbS 5 (hS18.blk (i:=2) rfl) rfl (h_.x hk))) ?_
 refine aG (fun _ h_=>rk (aq rfl (h_.x hk) (h_.x hk) (fun _=>by kernel_rfl) (iw (dH i) i))) ?_
 refine T ?_
 refine rE [6,7] hk ?_
 clear hk
 intro a17 hk
 refine wp_ret ?_
 refine gs hk (hS18.blk (i:=3) rfl) (hR_ _ _ ?_) Tryz.underlying35
 exact ⟨rfl,(hS18.old (by simp))⟩
theorem wk (i:IfV) (e:Int) (A:Option Addr) (n c:Nat) (l:List CdV) (W:World) (hn:n ≤ 90000) (hR:Reads W W.heap.size 4 A n (ab CdV.cells l)) (he1:¬ e = 1) (hw:cM i.state e = 2):
    Calls Tryz.prog 32 #[.agg #[i6 i.self,i6 i.prio,i6 i.state,i6 i.dr,i6 i.bdr],i6 e,.slice A n c] W (fun r w'=>r = .returned (.tuple #[.agg (fQ i l).cells.toArray,.bool (decide (fQ i l ≠ i))])∧Below W.heap.size W w'):=by
 have hS:=S.start W
 refine wK 52 Tryz.func32 (fun R_ hR_ a hk=>?_)
 refine sg [0,1,2] hk ?_
 refine eB hk hS (fun g3 w3 hS3 _=>?_)
 clear hS
 refine eB hk hS3 (fun g4 w4 hS4 _=>?_)
 clear hS3
 refine eA #[i6 0,i6 0,i6 0,i6 0,i6 0] hS4 (fun g5 w5 hS5 _=>?_)
 clear hS4
 refine T ?_
 refine rE [1,3,5,6,7] hk ?_
 clear hk
 intro a2 hk
 refine sg [1,2] hk ?_
 refine LDS 2 5 hk hS5 ?_
 refine eA #[i6 0,i6 0,i6 0,i6 0,i6 0] hS5 (fun g7 w7 hS7 _=>?_)
 clear hS5
 refine eS 0 hk hS7 (fun w8 hS8 _=>?_)
 clear hS7
 refine rE [1,3,5,6,7,8] hk ?_
 clear hk
 intro a6 hk
 refine sg [] hk ?_
 refine rD (.func (.func 93) #[] #[pt g3 0,pt g4 0]) (fun _ h_=>rk (bu rfl (by simp) (h_.map hk))) ?_
 refine T ?_
 refine rE [1,3,6,7,8,9] hk ?_
 clear hk
 intro a9 hk
 refine sg [] hk ?_
 refine rD (.func (.func 96) #[] #[pt g3 0]) (fun _ h_=>rk (bu rfl (by simp) (h_.map hk))) ?_
 refine T ?_
 refine rE [1,3,6,7,8,9,10] hk ?_
 clear hk
 intro a10 hk
 refine wp_seq ?_
 refine fZ (E:=1) (fun g_ i_=>match i_ with | 0=>.map (some g_) | 1=>moE (0,0) | 2=>.func (.func 96) #[] #[pt g3 0] | 4=>moE (1,2) | 5=>.func (.func 93) #[] #[pt g3 0,pt g4 0] | 7=>moE (1,3) | 8=>.func (.func 93) #[] #[pt g3 0,pt g4 0] | 10=>moE (2,4) | 11=>.func (.func 93) #[] #[pt g3 0,pt g4 0] | 13=>moE (3,4) | 14=>.func (.func 93) #[] #[pt g3 0,pt g4 0] | 16=>moE (4,4) | 17=>.func (.func 93) #[] #[pt g3 0,pt g4 0] | 19=>.map (some g_) | 20=>.map (some g_) | _=>undef) ([(3,(0,0),.func (.func 96) #[] #[pt g3 0]),(6,(1,2),.func (.func 93) #[] #[pt g3 0,pt g4 0]),(9,(1,3),.func (.func 93) #[] #[pt g3 0,pt g4 0]),(12,(2,4),.func (.func 93) #[] #[pt g3 0,pt g4 0]),(15,(3,4),.func (.func 93) #[] #[pt g3 0,pt g4 0]),(18,(4,4),.func (.func 93) #[] #[pt g3 0,pt g4 0])]:List (Nat × (Int × Int) × Value)) hk.size jL (ev:=fun v=>v) hS8 (by decide) (fun o ho=>by cases ho;exact ⟨rfl,rfl⟩) (fun _=>rfl) (by simp) (by simp) ?_ ?_ ?_
 ·intro q hq
  simp only [List.mem_cons,List.not_mem_nil,or_false] at hq
  rcases hq with rfl | rfl | rfl | rfl | rfl | rfl
  · exact ⟨_,rfl,rfl,rfl,by kernel_rfl,fun _=>rfl,_,_,_,rfl,fun g_ a_ hb_ hd_=>⟨hd_ 0 17 (by kernel_rfl) rfl,hd_ 1 18 (by kernel_rfl) rfl,hd_ 2 19 (by kernel_rfl) rfl⟩⟩
  · exact ⟨_,rfl,rfl,rfl,by kernel_rfl,fun _=>rfl,_,_,_,rfl,fun g_ a_ hb_ hd_=>⟨hd_ 0 17 (by kernel_rfl) rfl,hd_ 4 20 (by kernel_rfl) rfl,hd_ 5 21 (by kernel_rfl) rfl⟩⟩
  · exact ⟨_,rfl,rfl,rfl,by kernel_rfl,fun _=>rfl,_,_,_,rfl,fun g_ a_ hb_ hd_=>⟨hd_ 0 17 (by kernel_rfl) rfl,hd_ 7 22 (by kernel_rfl) rfl,hd_ 8 23 (by kernel_rfl) rfl⟩⟩
  · exact ⟨_,rfl,rfl,rfl,by kernel_rfl,fun _=>rfl,_,_,_,rfl,fun g_ a_ hb_ hd_=>⟨hd_ 0 17 (by kernel_rfl) rfl,hd_ 10 24 (by kernel_rfl) rfl,hd_ 11 25 (by kernel_rfl) rfl⟩⟩
  · exact ⟨_,rfl,rfl,rfl,by kernel_rfl,fun _=>rfl,_,_,_,rfl,fun g_ a_ hb_ hd_=>⟨hd_ 0 17 (by kernel_rfl) rfl,hd_ 13 26 (by kernel_rfl) rfl,hd_ 14 27 (by kernel_rfl) rfl⟩⟩
  · exact ⟨_,rfl,rfl,rfl,by kernel_rfl,fun _=>rfl,_,_,_,rfl,fun g_ a_ hb_ hd_=>⟨hd_ 0 17 (by kernel_rfl) rfl,hd_ 16 28 (by kernel_rfl) rfl,hd_ 17 29 (by kernel_rfl) rfl⟩⟩
 ·intro i o ho hi0 hni
  rcases i with _ | _ | _ | _ | _ | _ | _ | _ | _ | _ | _ | _ | _ | _ | _ | _ | _ | _ | _ | _ | _ | i
  · exact absurd rfl hi0
  · cases ho;exact ⟨rfl,fun g_ a_ hb_ hd_ w_=>af (vals:=#[(0,i6 0),(1,i6 0)]) rfl (bp2 rfl rfl) (by kernel_rfl)⟩
  · cases ho;exact ⟨rfl,fun g_ a_ hb_ hd_ w_=>aO rfl ((hb_ 10 (by kernel_rfl)).trans hk.g)⟩
  · exact absurd (by simp) hni
  · cases ho;exact ⟨rfl,fun g_ a_ hb_ hd_ w_=>af (vals:=#[(0,i6 1),(1,i6 2)]) rfl (bp2 rfl rfl) (by kernel_rfl)⟩
  · cases ho;exact ⟨rfl,fun g_ a_ hb_ hd_ w_=>aO rfl ((hb_ 9 (by kernel_rfl)).trans hk.g)⟩
  · exact absurd (by simp) hni
  · cases ho;exact ⟨rfl,fun g_ a_ hb_ hd_ w_=>af (vals:=#[(0,i6 1),(1,i6 3)]) rfl (bp2 rfl rfl) (by kernel_rfl)⟩
  · cases ho;exact ⟨rfl,fun g_ a_ hb_ hd_ w_=>aO rfl ((hb_ 9 (by kernel_rfl)).trans hk.g)⟩
  · exact absurd (by simp) hni
  · cases ho;exact ⟨rfl,fun g_ a_ hb_ hd_ w_=>af (vals:=#[(0,i6 2),(1,i6 4)]) rfl (bp2 rfl rfl) (by kernel_rfl)⟩
  · cases ho;exact ⟨rfl,fun g_ a_ hb_ hd_ w_=>aO rfl ((hb_ 9 (by kernel_rfl)).trans hk.g)⟩
  · exact absurd (by simp) hni
  · cases ho;exact ⟨rfl,fun g_ a_ hb_ hd_ w_=>af (vals:=#[(0,i6 3),(1,i6 4)]) rfl (bp2 rfl rfl) (by kernel_rfl)⟩
  · cases ho;exact ⟨rfl,fun g_ a_ hb_ hd_ w_=>aO rfl ((hb_ 9 (by kernel_rfl)).trans hk.g)⟩
  · exact absurd (by simp) hni
  · cases ho;exact ⟨rfl,fun g_ a_ hb_ hd_ w_=>af (vals:=#[(0,i6 4),(1,i6 4)]) rfl (bp2 rfl rfl) (by kernel_rfl)⟩
  · cases ho;exact ⟨rfl,fun g_ a_ hb_ hd_ w_=>aO rfl ((hb_ 9 (by kernel_rfl)).trans hk.g)⟩
  · exact absurd (by simp) hni
  · cases ho;exact ⟨rfl,fun g_ a_ hb_ hd_ w_=>aO rfl (hd_ 0 17 (by kernel_rfl) rfl)⟩
  · cases ho;exact ⟨rfl,fun g_ a_ hb_ hd_ w_=>bU rfl (hd_ 19 30 (by kernel_rfl) rfl)⟩
  · exact absurd (List.getElem?_eq_some_iff.1 ho).1 (by simp)
 intro g11 m11 w11 a11 hput hS11 hlk
 replace hlk:∀ x,au x m11 = au x (iv (.func (.func 96) #[] #[pt g3 0]) (.func (.func 93) #[] #[pt g3 0,pt g4 0])):=hlk
 clear hS8
 replace hk:Fr a11 52 [(1,i6 e),(3,pt g3 0),(6,pt g5 0),(7,.bool false),(8,pt g7 0),(11,.map (some g11))]:=hk.put hput
 clear hput
 refine wp_seq ?_
 refine sg [] hk ?_
 iterate 2 refine T ?_
 refine rE [1,3,6,7,8,11,32] hk ?_
 clear hk
 intro a12 hk
 refine cD hk (fun hc32=>?_) (fun hc32=>?_)
 ·exact absurd hc32 he1
 refine sg [] hk ?_
 iterate 2 refine T ?_
 refine LD 4 hk hS11 ?_
 refine T ?_
 refine rD (.agg #[i6 i.state,i6 e]) (fun _ h_=>rk (af rfl (h_.prt hk) (by kernel_rfl))) ?_
 refine rD (.tuple #[.func (.func 93) #[] #[pt g3 0,pt g4 0],.bool true]) (fun _ h_=>rk (bH (E:=1) (z:=.nilFunc) (i.state,e) jL (hS11.mapAt (i:=0) rfl) rfl (h_.x hk) (h_.x hk) (by rw [hlk,show au (i.state,e) _ = _ from yT _ _ hw];rfl))) ?_
 iterate 5 refine T ?_
 refine rE [3,6,7,8,12,13] hk ?_
 clear hk
 intro a13 hk
 refine sg [] hk ?_
 refine T ?_
 refine rE [3,6,7,8,12,45] hk ?_
 clear hk
 intro a14 hk
 refine cT hk ?_
 refine rgL [1] hk ?_
 refine T ?_
 have hSq:=hS11.fr 3
 have hSp:=hSq.fr 4
 refine eV hk (h:=(yn i g3 g4 n c A l W _ hn hR hSp)) (k:=?_)
 rintro e_ w16 ⟨rfl,hS16⟩
 refine ⟨_,rfl,?_⟩
 clear hS11 hSp hSq
 replace hS16:=hS16.nz 5
 refine rE [3,6,7,8] hk ?_
 clear hk
 intro a15 hk
 refine wp_seq ?_
 refine rgR [[],[],[],[1,2],[0],[0,1,2,3,4]] [4] (.rd 0 (.rd 1 (.rd 2 (.rd 3 (.ef 4 (.ag 1 (.ag 2 (.ag 3 (.rd 5 (.fin))))) .non))))) hk hS16 (fun w17 hS17 _=>?_)
 clear hS16
 refine LDS 0 5 hk hS17 ?_
 refine LDS 0 5 hk hS17 ?_
 refine LDS 3 5 hk hS17 ?_
 refine rD (.bool (decide (fQ i l ≠ i))) (fun _ h_=>rk (aq rfl (h_.x hk) (h_.x hk) (fun _=>by kernel_rfl) (iw (fQ i l) i))) ?_
 refine eS 4 hk hS17 (fun w18 hS18 _=>?_)
 clear hS17
 refine aG (fun _ h_=>rk (lbS 5 (hS18.blk (i:=0) rfl) rfl (h_.x hk))) ?_
 refine aG (fun _ h_=>rk (lbS 5 (hS18.blk (i:=3) rfl) rfl (h_.x hk))) ?_
 refine aG (fun _ h_=>rk (aq rfl (h_.x hk) (h_.x hk) (fun _=>by kernel_rfl) (iw (fQ i l) i))) ?_
 refine T ?_
 refine rE [6,7] hk ?_
 clear hk
 intro a17 hk
 refine wp_ret ?_
 refine gs hk (hS18.blk (i:=4) rfl) (hR_ _ _ ?_) Tryz.underlying35
 exact ⟨rfl,(hS18.old (by simp))⟩
theorem wj (i:IfV) (e:Int) (A:Option Addr) (n c:Nat) (l:List CdV) (W:World) (hn:n ≤ 90000) (hR:Reads W W.heap.size 4 A n (ab CdV.cells l)) (he1:¬ e = 1) (hw:cM i.state e = 0):
    Calls Tryz.prog 32 #[.agg #[i6 i.self,i6 i.prio,i6 i.state,i6 i.dr,i6 i.bdr],i6 e,.slice A n c] W (fun r w'=>r = .returned (.tuple #[.agg (i).cells.toArray,.bool (decide (i ≠ i))])∧Below W.heap.size W w'):=by
 have hS:=S.start W
 refine wK 52 Tryz.func32 (fun R_ hR_ a hk=>?_)
 refine sg [0,1,2] hk ?_
 refine eB hk hS (fun g3 w3 hS3 _=>?_)
 clear hS
 refine eB hk hS3 (fun g4 w4 hS4 _=>?_)
 clear hS3
 refine eA #[i6 0,i6 0,i6 0,i6 0,i6 0] hS4 (fun g5 w5 hS5 _=>?_)
 clear hS4
 refine T ?_
 refine rE [1,3,5,6,7] hk ?_
 clear hk
 intro a2 hk
 refine sg [1,2] hk ?_
 refine LDS 2 5 hk hS5 ?_
 refine eA #[i6 0,i6 0,i6 0,i6 0,i6 0] hS5 (fun g7 w7 hS7 _=>?_)
 clear hS5
 refine eS 0 hk hS7 (fun w8 hS8 _=>?_)
 clear hS7
 refine rE [1,3,5,6,7,8] hk ?_
 clear hk
 intro a6 hk
 refine sg [] hk ?_
 refine rD (.func (.func 93) #[] #[pt g3 0,pt g4 0]) (fun _ h_=>rk (bu rfl (by simp) (h_.map hk))) ?_
 refine T ?_
 refine rE [1,3,6,7,8,9] hk ?_
 clear hk
 intro a9 hk
 refine sg [] hk ?_
 refine rD (.func (.func 96) #[] #[pt g3 0]) (fun _ h_=>rk (bu rfl (by simp) (h_.map hk))) ?_
 refine T ?_
 refine rE [1,3,6,7,8,9,10] hk ?_
 clear hk
 intro a10 hk
 refine wp_seq ?_
 refine fZ (E:=1) (fun g_ i_=>match i_ with | 0=>.map (some g_) | 1=>moE (0,0) | 2=>.func (.func 96) #[] #[pt g3 0] | 4=>moE (1,2) | 5=>.func (.func 93) #[] #[pt g3 0,pt g4 0] | 7=>moE (1,3) | 8=>.func (.func 93) #[] #[pt g3 0,pt g4 0] | 10=>moE (2,4) | 11=>.func (.func 93) #[] #[pt g3 0,pt g4 0] | 13=>moE (3,4) | 14=>.func (.func 93) #[] #[pt g3 0,pt g4 0] | 16=>moE (4,4) | 17=>.func (.func 93) #[] #[pt g3 0,pt g4 0] | 19=>.map (some g_) | 20=>.map (some g_) | _=>undef) ([(3,(0,0),.func (.func 96) #[] #[pt g3 0]),(6,(1,2),.func (.func 93) #[] #[pt g3 0,pt g4 0]),(9,(1,3),.func (.func 93) #[] #[pt g3 0,pt g4 0]),(12,(2,4),.func (.func 93) #[] #[pt g3 0,pt g4 0]),(15,(3,4),.func (.func 93) #[] #[pt g3 0,pt g4 0]),(18,(4,4),.func (.func 93) #[] #[pt g3 0,pt g4 0])]:List (Nat × (Int × Int) × Value)) hk.size jL (ev:=fun v=>v) hS8 (by decide) (fun o ho=>by cases ho;exact ⟨rfl,rfl⟩) (fun _=>rfl) (by simp) (by simp) ?_ ?_ ?_
 ·intro q hq
  simp only [List.mem_cons,List.not_mem_nil,or_false] at hq
  rcases hq with rfl | rfl | rfl | rfl | rfl | rfl
  · exact ⟨_,rfl,rfl,rfl,by kernel_rfl,fun _=>rfl,_,_,_,rfl,fun g_ a_ hb_ hd_=>⟨hd_ 0 17 (by kernel_rfl) rfl,hd_ 1 18 (by kernel_rfl) rfl,hd_ 2 19 (by kernel_rfl) rfl⟩⟩
  · exact ⟨_,rfl,rfl,rfl,by kernel_rfl,fun _=>rfl,_,_,_,rfl,fun g_ a_ hb_ hd_=>⟨hd_ 0 17 (by kernel_rfl) rfl,hd_ 4 20 (by kernel_rfl) rfl,hd_ 5 21 (by kernel_rfl) rfl⟩⟩
  · exact ⟨_,rfl,rfl,rfl,by kernel_rfl,fun _=>rfl,_,_,_,rfl,fun g_ a_ hb_ hd_=>⟨hd_ 0 17 (by kernel_rfl) rfl,hd_ 7 22 (by kernel_rfl) rfl,hd_ 8 23 (by kernel_rfl) rfl⟩⟩
  · exact ⟨_,rfl,rfl,rfl,by kernel_rfl,fun _=>rfl,_,_,_,rfl,fun g_ a_ hb_ hd_=>⟨hd_ 0 17 (by kernel_rfl) rfl,hd_ 10 24 (by kernel_rfl) rfl,hd_ 11 25 (by kernel_rfl) rfl⟩⟩
  · exact ⟨_,rfl,rfl,rfl,by kernel_rfl,fun _=>rfl,_,_,_,rfl,fun g_ a_ hb_ hd_=>⟨hd_ 0 17 (by kernel_rfl) rfl,hd_ 13 26 (by kernel_rfl) rfl,hd_ 14 27 (by kernel_rfl) rfl⟩⟩
  · exact ⟨_,rfl,rfl,rfl,by kernel_rfl,fun _=>rfl,_,_,_,rfl,fun g_ a_ hb_ hd_=>⟨hd_ 0 17 (by kernel_rfl) rfl,hd_ 16 28 (by kernel_rfl) rfl,hd_ 17 29 (by kernel_rfl) rfl⟩⟩
 ·intro i o ho hi0 hni
  rcases i with _ | _ | _ | _ | _ | _ | _ | _ | _ | _ | _ | _ | _ | _ | _ | _ | _ | _ | _ | _ | _ | i
  · exact absurd rfl hi0
  · cases ho;exact ⟨rfl,fun g_ a_ hb_ hd_ w_=>af (vals:=#[(0,i6 0),(1,i6 0)]) rfl (bp2 rfl rfl) (by kernel_rfl)⟩
  · cases ho;exact ⟨rfl,fun g_ a_ hb_ hd_ w_=>aO rfl ((hb_ 10 (by kernel_rfl)).trans hk.g)⟩
  · exact absurd (by simp) hni
  · cases ho;exact ⟨rfl,fun g_ a_ hb_ hd_ w_=>af (vals:=#[(0,i6 1),(1,i6 2)]) rfl (bp2 rfl rfl) (by kernel_rfl)⟩
  · cases ho;exact ⟨rfl,fun g_ a_ hb_ hd_ w_=>aO rfl ((hb_ 9 (by kernel_rfl)).trans hk.g)⟩
  · exact absurd (by simp) hni
  · cases ho;exact ⟨rfl,fun g_ a_ hb_ hd_ w_=>af (vals:=#[(0,i6 1),(1,i6 3)]) rfl (bp2 rfl rfl) (by kernel_rfl)⟩
  · cases ho;exact ⟨rfl,fun g_ a_ hb_ hd_ w_=>aO rfl ((hb_ 9 (by kernel_rfl)).trans hk.g)⟩
  · exact absurd (by simp) hni
  · cases ho;exact ⟨rfl,fun g_ a_ hb_ hd_ w_=>af (vals:=#[(0,i6 2),(1,i6 4)]) rfl (bp2 rfl rfl) (by kernel_rfl)⟩
  · cases ho;exact ⟨rfl,fun g_ a_ hb_ hd_ w_=>aO rfl ((hb_ 9 (by kernel_rfl)).trans hk.g)⟩
  · exact absurd (by simp) hni
  · cases ho;exact ⟨rfl,fun g_ a_ hb_ hd_ w_=>af (vals:=#[(0,i6 3),(1,i6 4)]) rfl (bp2 rfl rfl) (by kernel_rfl)⟩
  · cases ho;exact ⟨rfl,fun g_ a_ hb_ hd_ w_=>aO rfl ((hb_ 9 (by kernel_rfl)).trans hk.g)⟩
  · exact absurd (by simp) hni
  · cases ho;exact ⟨rfl,fun g_ a_ hb_ hd_ w_=>af (vals:=#[(0,i6 4),(1,i6 4)]) rfl (bp2 rfl rfl) (by kernel_rfl)⟩
  · cases ho;exact ⟨rfl,fun g_ a_ hb_ hd_ w_=>aO rfl ((hb_ 9 (by kernel_rfl)).trans hk.g)⟩
  · exact absurd (by simp) hni
  · cases ho;exact ⟨rfl,fun g_ a_ hb_ hd_ w_=>aO rfl (hd_ 0 17 (by kernel_rfl) rfl)⟩
  · cases ho;exact ⟨rfl,fun g_ a_ hb_ hd_ w_=>bU rfl (hd_ 19 30 (by kernel_rfl) rfl)⟩
  · exact absurd (List.getElem?_eq_some_iff.1 ho).1 (by simp)
 intro g11 m11 w11 a11 hput hS11 hlk
 replace hlk:∀ x,au x m11 = au x (iv (.func (.func 96) #[] #[pt g3 0]) (.func (.func 93) #[] #[pt g3 0,pt g4 0])):=hlk
 clear hS8
 replace hk:Fr a11 52 [(1,i6 e),(3,pt g3 0),(6,pt g5 0),(7,.bool false),(8,pt g7 0),(11,.map (some g11))]:=hk.put hput
 clear hput
 refine wp_seq ?_
 refine sg [] hk ?_
 iterate 2 refine T ?_
 refine rE [1,3,6,7,8,11,32] hk ?_
 clear hk
 intro a12 hk
 refine cD hk (fun hc32=>?_) (fun hc32=>?_)
 ·exact absurd hc32 he1
 refine sg [] hk ?_
 iterate 2 refine T ?_
 refine LD 4 hk hS11 ?_
 refine T ?_
 refine rD (.agg #[i6 i.state,i6 e]) (fun _ h_=>rk (af rfl (h_.prt hk) (by kernel_rfl))) ?_
 refine rD (.tuple #[.nilFunc,.bool false]) (fun _ h_=>rk (bH (E:=1) (z:=.nilFunc) (i.state,e) jL (hS11.mapAt (i:=0) rfl) rfl (h_.x hk) (h_.x hk) (by rw [hlk,show au (i.state,e) _ = _ from yR (.func (.func 96) #[] #[pt g3 0]) (.func (.func 93) #[] #[pt g3 0,pt g4 0]) hw];rfl))) ?_
 iterate 5 refine T ?_
 refine rE [3,6,7,8,12,13] hk ?_
 clear hk
 intro a13 hk
 refine sg [] hk ?_
 refine T ?_
 refine rE [3,6,7,8,12,45] hk ?_
 clear hk
 intro a14 hk
 refine cF hk ?_
 refine wp_skip ?_
 refine wp_seq ?_
 refine rgR [[],[],[],[1,2],[0],[0,1,2,3,4]] [4] (.rd 0 (.rd 1 (.rd 2 (.rd 3 (.ef 4 (.ag 1 (.ag 2 (.ag 3 (.rd 5 (.fin))))) .non))))) hk hS11 (fun w15 hS15 _=>?_)
 clear hS11
 refine LDS 4 5 hk hS15 ?_
 refine LDS 4 5 hk hS15 ?_
 refine LDS 1 5 hk hS15 ?_
 refine rD (.bool (decide (i ≠ i))) (fun _ h_=>rk (aq rfl (h_.x hk) (h_.x hk) (fun _=>by kernel_rfl) (iw i i))) ?_
 refine eS 2 hk hS15 (fun w16 hS16 _=>?_)
 clear hS15
 refine aG (fun _ h_=>rk (lbS 5 (hS16.blk (i:=4) rfl) rfl (h_.x hk))) ?_
 refine aG (fun _ h_=>rk (lbS 5 (hS16.blk (i:=1) rfl) rfl (h_.x hk))) ?_
 refine aG (fun _ h_=>rk (aq rfl (h_.x hk) (h_.x hk) (fun _=>by kernel_rfl) (iw i i))) ?_
 refine T ?_
 refine rE [6,7] hk ?_
 clear hk
 intro a15 hk
 refine wp_ret ?_
 refine gs hk (hS16.blk (i:=2) rfl) (hR_ _ _ ?_) Tryz.underlying35
 exact ⟨rfl,(hS16.old (by simp))⟩
theorem yr (s e:Int):cM s e = 0 ∨ cM s e = 1 ∨ cM s e = 2:=by
  unfold cM;split
  · simp
  · split <;> simp
theorem rU (i:IfV) (e:Int) (A:Option Addr) (n c:Nat) (l:List CdV) (W:World) (hn:n ≤ 90000) (hR:Reads W W.heap.size 4 A n (ab CdV.cells l)):
    Calls Tryz.prog 32 #[.agg i.cells.toArray,.int .i64 e,.slice A n c] W fun r w'=>r = .returned (.tuple #[.agg (dm i e l).cells.toArray,.bool (decide (dm i e l ≠ i))])∧Below W.heap.size W w':=by
  unfold dm
  by_cases he:e = 1
  · rw [if_pos he];exact wi i e A n c l W hn hR he
  · rw [if_neg he]
    rcases yr i.state e with h | h | h
    · rw [h];exact wj i e A n c l W hn hR he h
    · rw [h];exact tF i e A n c l W hn hR he h
    · rw [h];exact wk i e A n c l W hn hR he h
end
section
set_option maxHeartbeats 4000000
structure HD where
  age:Int
  kind:Int
  id:Int
  adv:Int
  seq:Int
  sum:Int
  long:Int
 deriving DecidableEq
instance:Inhabited HD:=⟨⟨0,0,0,0,0,0,0⟩⟩
abbrev HD.arr (h:HD):Array Value:=#[.int .i64 h.age,.int .i64 h.kind,.int .i64 h.id,.int .i64 h.adv,.int .i64 h.seq,.int .i64 h.sum,.int .i64 h.long]
structure Lk where
  kind:Int
  id:Int
  data:Int
  cost:Int
 deriving DecidableEq
def Lk.cells (x:Lk):List Value:=[.int .i64 x.kind,.int .i64 x.id,.int .i64 x.data,.int .i64 x.cost]
abbrev Lk.arr (x:Lk):Array Value:=#[.int .i64 x.kind,.int .i64 x.id,.int .i64 x.data,.int .i64 x.cost]
theorem Lk.cells_len (x:Lk):x.cells.length = 4:=rfl
theorem Lk.cells_one (x:Lk):∀ u ∈ x.cells,u.oneCell' = true:=by
  intro u hu
  simp [Lk.cells] at hu
  rcases hu with rfl | rfl | rfl | rfl <;> rfl
structure LV where
  hd:HD
  links:List Lk
  mem:List Int
 deriving DecidableEq
instance:Inhabited LV:=⟨⟨default,[],[]⟩⟩
structure LP where
  A:Option Addr
  c:Nat
  B:Option Addr
  d:Nat
abbrev jI (l:LV) (p:LP):Array Value:=
  #[.int .i64 l.hd.age,.int .i64 l.hd.kind,.int .i64 l.hd.id,.int .i64 l.hd.adv,.int .i64 l.hd.seq,.int .i64 l.hd.sum,.int .i64 l.hd.long,.slice p.A l.links.length p.c,.slice p.B l.mem.length p.d]
structure LOK (w:World) (l:LV) (p:LP):Prop where
  links:Reads w w.heap.size 4 p.A l.links.length (ab Lk.cells l.links)
  mem:Reads w w.heap.size 1 p.B l.mem.length (aw l.mem)
theorem LOK.below {w w':World} {l:LV} {p:LP} (h:LOK w l p) (hb:Below w.heap.size w w'):LOK w' l p:=
  ⟨(h.links.below hb).more hb.size,(h.mem.below hb).more hb.size⟩
theorem kW (n a b:Int) (w:World):Calls Tryz.prog 337 #[.int .i64 n,.int .i64 a,.int .i64 b] w fun r w'=>r = .returned (.bool (decide (a ≤ n∧n ≤ b)))∧w' = w:=by
  go_enter Tryz.func337,Tryz.ntmps337
  go_wp2
  all_goals go_ret
  all_goals exact ⟨cm (by grind),rfl⟩
def jM (h:HD):Prop:=(0 ≤ h.age∧h.age ≤ 60)∧(1 ≤ h.kind∧h.kind ≤ 2)∧(1 ≤ h.adv∧h.adv ≤ 15)∧(-2147483647 ≤ h.seq∧h.seq ≤ 2147483647)
instance (h:HD):Decidable (jM h):=inferInstanceAs (Decidable (_∧_))
theorem xb (h:HD) (w:World):Calls Tryz.prog 302 #[.agg h.arr] w fun r w'=>r = .returned (.bool (decide (jM h)))∧Below w.heap.size w w':=by
  obtain ⟨age,kind,id,adv,seq,sum,long⟩:=h
  have HB:=ar (aC w (.cells (HD.arr ⟨age,kind,id,adv,seq,sum,long⟩) 63))
  go_enter Tryz.func302,Tryz.ntmps302
  go_wp2_with (go_at_call 337;refine (kW _ _ _ _).mono ?_;rintro r w' ⟨rfl,rfl⟩)
  all_goals go_ret
  all_goals exact ⟨cm (by simp only [jM];grind),HB.out⟩
def ix (x:Lk):Prop:=(2 ≤ x.kind∧x.kind ≤ 3)∧(0 ≤ x.id∧x.id ≤ 63)∧(0 ≤ x.data∧x.data ≤ 63)∧(1 ≤ x.cost∧x.cost ≤ 100)
instance (x:Lk):Decidable (ix x):=inferInstanceAs (Decidable (_∧_))
def gJ (l:List Lk):Bool:=l.all (fun x=>decide (ix x)) && decide (l.length ≤ 4)
theorem vt (A:Option Addr) (n c:Nat) (l:List Lk) (w:World) (hn:n ≤ 100000) (hr:Reads w w.heap.size 4 A n (ab Lk.cells l)):
    Calls Tryz.prog 336 #[.slice A n c] w fun r w'=>r = .returned (.bool (gJ l))∧Below w.heap.size w w':=by
  have HR:=ar hr
  have HL:=ar (show l.length = n by have:=hr.1;rw [be Lk.cells 4 Lk.cells_len] at this;omega)
  clear hr
  go_enter Tryz.func336,Tryz.ntmps336
  go_wp2_with fail
  go_loopw [7] (fun i wr=>∃ k:Nat,k ≤ n∧i = .int .i64 k∧Hid (∀ x ∈ l.take k,ix x)∧Hid (Below w.heap.size w wr)) (fun i _=>n - (intOf i).toNat)
  case atStart=>exact ⟨0,Nat.zero_le _,rfl,ar (fun x hx=>by cases hx),Below.refl _ _⟩
  case round=>
    obtain ⟨k,hk,rfl,hok,hb⟩:=hrel
    by_cases hlt:k < n
    · obtain ⟨b,off,x,rfl,hbb,hx,hat⟩:=HR.out.row_at Lk.cells 4 Lk.cells_len (by omega) hlt
      have HX:=ar hx
      obtain ⟨kind,id,data,cost⟩:=x
      have d0:wr.cell? ⟨b,off + k * 4,none⟩ = some (.int .i64 kind):=aA (hat 0 _ rfl) hb.out
      have d1:wr.cell? ⟨b,off + k * 4 + 1,none⟩ = some (.int .i64 id):=aA (hat 1 _ rfl) hb.out
      have d2:wr.cell? ⟨b,off + k * 4 + 2,none⟩ = some (.int .i64 data):=aA (hat 2 _ rfl) hb.out
      have d3:wr.cell? ⟨b,off + k * 4 + 3,none⟩ = some (.int .i64 cost):=aA (hat 3 _ rfl) hb.out
      have HB:=ar (cr hb.out (aC wr (.cells (Lk.arr ⟨kind,id,data,cost⟩) 230)))
      clear hat hx
      by_cases hq:ix ⟨kind,id,data,cost⟩
      · have HN:=ar (show ∀ x ∈ l.take (k + 1),ix x by
          rw [bp _ _ _ HX.out]
          intro y hy
          rcases List.mem_append.1 hy with hy | hy
          · exact hok.out y hy
          · obtain rfl:=List.mem_singleton.1 hy
            exact hq)
        obtain ⟨q1,q2,q3,q4⟩:=hq
        have e1:=decide_eq_true q1
        have e2:=decide_eq_true q2
        have e3:=decide_eq_true q3
        have e4:=decide_eq_true q4
        clear q1 q2 q3 q4
        go_wp2_with (go_at_call 337;refine (kW _ _ _ _).mono ?_;rintro r w' ⟨rfl,rfl⟩)
        go_roundw
        case rel=>exact ⟨k + 1,by omega,by go_num,HN,HB⟩
        case measure=>(simp [intOf] <;> omega)
      · have HF:=ar (show gJ l = false by
          rw [gJ,Bool.and_eq_false_iff]
          left
          rw [List.all_eq_false]
          exact ⟨_,List.mem_of_getElem? HX.out,by simpa using hq⟩)
        have HQ:=ar hq
        clear hq
        go_wp2_with (go_at_call 337;refine (kW _ _ _ _).mono ?_;rintro r w' ⟨rfl,rfl⟩)
        all_goals first
          | (go_ret;exact ⟨cm HF.out.symm,HB.out⟩)
          | (exfalso;exact HQ.out (by unfold ix;dsimp only;grind))
    · have hkl:l.take k = l:=List.take_of_length_le (by rw [HL.out];omega)
      rw [hkl] at hok
      have HF:=ar (show gJ l = decide (n ≤ 4) by
        rw [gJ,HL.out]
        have:l.all (fun x=>decide (ix x)) = true:=List.all_eq_true.2 (fun x hx=>decide_eq_true (hok.out x hx))
        rw [this,Bool.true_and])
      clear hkl
      go_wp2
      go_ret
      exact ⟨cm (by rw [HF.out];rw [Bool.eq_iff_iff];simp;omega),hb.out⟩
def jg:Int → List Int → Bool
  | _,[]=>true
  | last,x::r=>decide (last + 1 ≤ x∧x ≤ 15) && jg x r
def fF (l:List Int):Bool:=jg 0 l && decide (0 < l.length)
theorem oN:∀ (l:List Int) (a x:Int),jg a (l ++ [x]) = (jg a l && decide (l.getLastD a + 1 ≤ x∧x ≤ 15))
  | [],a,x=>by simp [jg]
  | y::l,a,x=>by
    rw [List.cons_append,jg,jg,oN l y x,List.getLastD_cons,Bool.and_assoc]
theorem xx (l:List Int) (a:Int) (k:Nat) (h:jg a (l.take k) = false):jg a l = false:=by
  induction l generalizing a k with
  | nil=>simp [jg] at h
  | cons y l ih=>
    cases k with
    | zero=>simp [jg] at h
    | succ k=>
      rw [List.take_succ_cons,jg,Bool.and_eq_false_iff] at h
      rw [jg,Bool.and_eq_false_iff]
      exact h.imp id (ih y k)
theorem re (A:Option Addr) (n c:Nat) (l:List Int) (w:World) (hn:n ≤ 100000) (hr:Reads w w.heap.size 1 A n (aw l)):
    Calls Tryz.prog 338 #[.slice A n c] w fun r w'=>r = .returned (.bool (fF l))∧w' = w:=by
  have HR:=ar hr
  have HL:=ar (show l.length = n by have:=hr.1;simpa [aw] using this)
  clear hr
  go_enter Tryz.func338,Tryz.ntmps338
  go_wp2_with fail
  go_loop [3,8] (fun v i=>∃ (k:Nat) (last:Int),k ≤ n∧i = .int .i64 k∧v = .int .i64 last∧0 ≤ last∧last ≤ 15∧Hid (jg 0 (l.take k) = true∧(l.take k).getLastD 0 = last)) (fun _ i=>n - (intOf i).toNat)
  case atStart=>exact ⟨0,0,Nat.zero_le _,rfl,rfl,by omega,by omega,ar ⟨rfl,rfl⟩⟩
  case round=>
    obtain ⟨k,last,hk,rfl,rfl,hl0,hl1,hok⟩:=hrel
    by_cases hlt:k < n
    · obtain ⟨b,off,x,rfl,hbb,hx,hat⟩:=HR.out.int_at hlt
      have HS:=ar (show jg 0 (l.take (k + 1)) = decide (last + 1 ≤ x∧x ≤ 15) by
        rw [bp _ _ _ hx,oN,hok.out.1,hok.out.2,Bool.true_and])
      have HT:=ar (show (l.take (k + 1)).getLastD 0 = x by rw [bp _ _ _ hx];simp)
      clear hx
      by_cases hq:last + 1 ≤ x∧x ≤ 15
      · have e1:=decide_eq_true hq
        have HN:=ar (show jg 0 (l.take (k + 1)) = true by rw [HS.out];exact e1)
        obtain ⟨q1,q2⟩:=hq
        go_wp2_with (go_at_call 337;refine (kW _ _ _ _).mono ?_;rintro r w' ⟨rfl,rfl⟩;rw [e1])
        go_round
        case rel=>exact ⟨k + 1,x,by omega,by go_num,rfl,by omega,by omega,ar ⟨HN.out,HT.out⟩⟩
        case measure=>(simp [intOf] <;> omega)
      · have e1:=decide_eq_false hq
        have HF:=ar (show fF l = false by
          rw [fF,xx l 0 (k + 1) (by rw [HS.out];exact e1),Bool.false_and])
        clear hq
        go_wp2_with (go_at_call 337;refine (kW _ _ _ _).mono ?_;rintro r w' ⟨rfl,rfl⟩;rw [e1])
        go_ret
        exact ⟨cm HF.out.symm,rfl⟩
    · have hkl:l.take k = l:=List.take_of_length_le (by rw [HL.out];omega)
      rw [hkl] at hok
      have HF:=ar (show fF l = decide (0 < n) by rw [fF,hok.out.1,HL.out,Bool.true_and])
      clear hkl hok
      go_wp2
      go_ret
      exact ⟨cm (by rw [HF.out];try (rw [Bool.eq_iff_iff];simp)),rfl⟩
def eY (l:LV):Bool:=
  decide (jM l.hd) && if l.hd.kind = 1 then decide (l.hd.id = l.hd.adv) && decide (l.mem.length = 0) && gJ l.links else decide (0 ≤ l.hd.id∧l.hd.id ≤ 63) && decide (l.links.length = 0) && fF l.mem
set_option maxRecDepth 20000 in
theorem oX (l:LV) (p:LP) (w:World) (h1:l.links.length ≤ 100000) (h2:l.mem.length ≤ 100000) (hok:LOK w l p):
    Calls Tryz.prog 285 #[.agg (jI l p)] w fun r w'=>r = .returned (.bool (eY l))∧Below w.heap.size w w':=by
  obtain ⟨⟨age,kind,id,adv,seq,sum,long⟩,links,mem⟩:=l
  obtain ⟨A,c,B,d⟩:=p
  have HOK:=ar hok
  clear hok
  dsimp only at h1 h2 ⊢
  have hb0:=Blk.new w 66 #[.int .i64 age,.int .i64 kind,.int .i64 id,.int .i64 adv,.int .i64 seq,.int .i64 sum,.int .i64 long,.slice A links.length c,.slice B mem.length d]
  have hB0:=aC w (.cells #[.int .i64 age,.int .i64 kind,.int .i64 id,.int .i64 adv,.int .i64 seq,.int .i64 sum,.int .i64 long,.slice A links.length c,.slice B mem.length d] 66)
  go_enter Tryz.func285,Tryz.ntmps285
  go_upto_region 1 with (fail)
  generalize w.alloc (.cells #[.int .i64 age,.int .i64 kind,.int .i64 id,.int .i64 adv,.int .i64 seq,.int .i64 sum,.int .i64 long,.slice A links.length c,.slice B mem.length d] 66) = W at hb0 hB0 ⊢
  have q0:W.cell? ⟨w.heap.size,0,none⟩ = some (.int .i64 age):=hb0.cell 0
  have q1:W.cell? ⟨w.heap.size,1,none⟩ = some (.int .i64 kind):=hb0.cell 1
  have q2:W.cell? ⟨w.heap.size,2,none⟩ = some (.int .i64 id):=hb0.cell 2
  have q3:W.cell? ⟨w.heap.size,3,none⟩ = some (.int .i64 adv):=hb0.cell 3
  have q4:W.cell? ⟨w.heap.size,4,none⟩ = some (.int .i64 seq):=hb0.cell 4
  have q5:W.cell? ⟨w.heap.size,5,none⟩ = some (.int .i64 sum):=hb0.cell 5
  have q6:W.cell? ⟨w.heap.size,6,none⟩ = some (.int .i64 long):=hb0.cell 6
  have HB0:=ar hB0
  have HX0:=ar hb0
  clear hb0 hB0
  go_wp2_with fail
  refine (xb ⟨age,kind,id,adv,seq,sum,long⟩ _).mono ?_
  rintro r w1 ⟨rfl,hb1⟩
  have HB1:=ar (cr HB0.out hb1)
  have hx1:=HX0.out.below hb1 HX0.out.lt
  have q1:w1.cell? ⟨w.heap.size,1,none⟩ = some (.int .i64 kind):=hx1.cell 1
  have q2:w1.cell? ⟨w.heap.size,2,none⟩ = some (.int .i64 id):=hx1.cell 2
  have q3:w1.cell? ⟨w.heap.size,3,none⟩ = some (.int .i64 adv):=hx1.cell 3
  have q7:w1.cell? ⟨w.heap.size,7,none⟩ = some (.slice A links.length c):=hx1.cell 7
  have q8:w1.cell? ⟨w.heap.size,8,none⟩ = some (.slice B mem.length d):=hx1.cell 8
  have HK1:=ar (HOK.out.below HB1.out)
  have HK1L:Hid (Reads w1 w1.heap.size 4 A links.length (ab Lk.cells links)):=ar HK1.out.links
  have HK1M:Hid (Reads w1 w1.heap.size 1 B mem.length (aw mem)):=ar HK1.out.mem
  clear hb1 hx1 HX0 HB0 q0 q4 q5 q6
  by_cases hh:jM ⟨age,kind,id,adv,seq,sum,long⟩
  · have HR:=ar (show eY ⟨⟨age,kind,id,adv,seq,sum,long⟩,links,mem⟩ = if kind = 1 then decide (id = adv) && decide (mem.length = 0) && gJ links else decide (0 ≤ id∧id ≤ 63) && decide (links.length = 0) && fF mem by
      rw [eY,decide_eq_true hh,Bool.true_and])
    rw [decide_eq_true hh]
    clear hh
    by_cases hk1:kind = 1
    · have e1:(kind == 1) = true:=by simpa using hk1
      rw [if_pos hk1] at HR
      clear hk1
      by_cases hi:id = adv
      · have e2:(id == adv) = true:=by simpa using hi
        have f2:=decide_eq_true hi
        rw [f2,Bool.true_and] at HR
        clear hi f2
        by_cases hm:mem.length = 0
        · have f3:=decide_eq_true hm
          rw [f3,Bool.true_and] at HR
          have e3:((mem.length:Int) == 0) = true:=by simpa using hm
          clear f3
          go_wp2_with (go_at_call 336;refine (vt A _ c links _ h1 HK1L.out).mono ?_;rintro r w2 ⟨rfl,hb2⟩)
          go_ret
          exact ⟨cm HR.out.symm,cr HB1.out hb2⟩
        · have f3:=decide_eq_false hm
          rw [f3,Bool.false_and] at HR
          have e3:((mem.length:Int) == 0) = false:=by
            rw [beq_eq_false_iff_ne];omega
          clear f3 hm
          go_wp2_with fail
          go_ret
          exact ⟨cm HR.out.symm,HB1.out⟩
      · have e2:(id == adv) = false:=by simpa using hi
        have f2:=decide_eq_false hi
        rw [f2,Bool.false_and,Bool.false_and] at HR
        clear hi f2
        go_wp2_with fail
        go_ret
        exact ⟨cm HR.out.symm,HB1.out⟩
    · have e1:(kind == 1) = false:=by simpa using hk1
      rw [if_neg hk1] at HR
      clear hk1
      obtain ⟨v,hv⟩:∃ v,decide (0 ≤ id∧id ≤ 63) = v:=⟨_,rfl⟩
      have HV:=ar hv
      rw [hv] at HR
      clear hv
      go_wp2_with fail
      refine (kW id 0 63 _).mono ?_
      rintro r w2 ⟨rfl,rfl⟩
      rw [HV.out]
      cases v
      · rw [Bool.false_and,Bool.false_and] at HR
        go_wp2_with fail
        go_ret
        exact ⟨cm HR.out.symm,HB1.out⟩
      · rw [Bool.true_and] at HR
        by_cases hm:links.length = 0
        · have f3:=decide_eq_true hm
          rw [f3,Bool.true_and] at HR
          have e3:((links.length:Int) == 0) = true:=by simpa using hm
          clear f3
          go_wp2_with (go_at_call 338;refine (re B _ d mem _ h2 HK1M.out).mono ?_;rintro r w3 ⟨rfl,rfl⟩)
          go_ret
          exact ⟨cm HR.out.symm,HB1.out⟩
        · have f3:=decide_eq_false hm
          rw [f3,Bool.false_and] at HR
          have e3:((links.length:Int) == 0) = false:=by
            rw [beq_eq_false_iff_ne];omega
          clear f3 hm
          go_wp2_with fail
          go_ret
          exact ⟨cm HR.out.symm,HB1.out⟩
  · have HR:=ar (show eY ⟨⟨age,kind,id,adv,seq,sum,long⟩,links,mem⟩ = false by rw [eY,decide_eq_false hh,Bool.false_and])
    rw [decide_eq_false hh]
    clear hh
    go_wp2_with fail
    go_ret
    exact ⟨cm HR.out.symm,HB1.out⟩
end
section
def dq (w:Int):Nat:=if w < 1 then 1 else if 4 < w then 4 else w.toNat
theorem ps (w:Int):1 ≤ dq w:=by unfold dq;split <;> (try split) <;> omega
theorem nY (w:Int):dq w ≤ 4:=by unfold dq;split <;> (try split) <;> omega
theorem sj (n:Int) (w:World):Calls Tryz.prog 222 #[.int .i64 n] w fun r w'=>r = .returned (.int .i64 (dq n))∧w' = w:=by
  have h:min (max n 1) 4 = (dq n:Int):=by unfold dq;split <;> (try split) <;> omega
  have H:=ar h
  clear h
  go_enter Tryz.func222,Tryz.ntmps222
  go_wp2
  all_goals go_ret
  all_goals refine ⟨uu ?_,rfl⟩
  all_goals (have:=H.out;first | exact this | omega)
def aX:Nat → Int → List Int
  | 0,_=>[]
  | k + 1,n=>n / 2 ^ (8 * k) % 256::aX k n
theorem bm:∀ (k:Nat) (n:Int),(aX k n).length = k
  | 0,_=>rfl
  | k + 1,n=>by simp [aX,bm k n]
theorem i7:∀ (k:Nat) (n z:Int),z ∈ aX k n → 0 ≤ z∧z < 256
  | 0,_,_,h=>by cases h
  | k + 1,n,z,h=>by
    rcases List.mem_cons.1 h with rfl | h
    · omega
    · exact i7 k n z h
def aj (k:Nat) (zs:List Int):List Int:=zs.flatMap (aX k)
theorem aK (k:Nat) (zs:List Int):(aj k zs).length = zs.length * k:=by
  induction zs with
  | nil=>simp [aj]
  | cons z zs ih=>simp only [aj,List.flatMap_cons,List.length_append,bm] at ih ⊢;rw [ih,List.length_cons,Nat.add_mul];omega
theorem dv (k:Nat) (zs:List Int):∀ z ∈ aj k zs,0 ≤ z∧z < 256:=fun z hz=>by
  obtain ⟨n,_,h⟩:=List.mem_flatMap.1 hz
  exact i7 k n z h
theorem vP (k:Nat) (zs:List Int) (z:Int):aj k (zs ++ [z]) = aj k zs ++ aX k z:=by simp [aj]
theorem kF:(Tryz.prog.info? 5).map (fun i=>(i.zero,i.size,i.bytes)) = some (some (.int .u8 0),1,1):=by kernel_rfl
theorem hN (a b:List Int):u8s (a ++ b) = u8s a ++ u8s b:=by simp [u8s]
set_option maxRecDepth 20000 in
set_option maxHeartbeats 4000000 in
theorem ut (v:Int) (A:Option Addr) (n c:Nat) (bs:List Int) (A2:Option Addr) (n2 c2:Nat) (zs:List Int) (w:World) (hn:n ≤ 100000) (hn2:n2 ≤ 10000) (hr:Reads w w.heap.size 1 A n (u8s bs)) (hr2:Reads w w.heap.size 1 A2 n2 (aw zs)):
    Calls Tryz.prog 184 #[.slice A n c,.int .i64 v,.slice A2 n2 c2] w fun r w'=>∃ A' c',r = .returned (.slice A' (n + n2 * dq v) c')∧w'.ownsRow w.heap.size 5 1 (.slice A' (n + n2 * dq v) c') (n + n2 * dq v) (u8s (bs ++ aj (dq v) zs))∧Below w.heap.size w w':=by
  obtain ⟨i0,hi,hz0,hz1,hz2⟩:=info_parts kF
  have HR:=ar hr
  have HR2:=ar hr2
  have HL2:=ar (show zs.length = n2 by have:=hr2.1;simpa [aw] using this)
  have hW1:=ps v
  have hW2:=nY v
  clear hr hr2
  obtain ⟨W,hW⟩:∃ W,dq v = W:=⟨_,rfl⟩
  have HW:=ar hW
  rw [hW] at hW1 hW2 ⊢
  clear hW
  go_enter Tryz.func184,Tryz.ntmps184
  go_wp2_with (first
    | (at_builtin
       refine bn _ rfl (.const (.slice none 0 0)) (.tmp 11) 48 rfl w.heap.size 5 i0 _ 1 1 Tryz.underlying48 hi hz0 hz1 hz2 rfl (by omega) (.slice none 0 0) 0 [] rfl
         (World.ownsRow_nil _ _ _ _) w.heap.size A n c (u8s bs) rfl HR.out (ff _) (by simp only [maxLen];omega) (by omega) (by omega) ?_
       intro A3 c3 w3 hown3 hg3 hloc3
       have HB3:=ar ((Below.refl w.heap.size w).grown hg3 (Nat.le_refl _) (fun g hg=>by simp [Value.ownBlock] at hg))
       have HO3:Hid (w3.ownsRow w.heap.size 5 1 (.slice A3 n c3) n (u8s bs)):=ar (by simpa using hown3)
       clear hown3 hg3 hloc3))
  go_loopw [7,15] (fun s i wr=>∃ (k m:Nat) (A1:Option Addr) (c1:Nat),k ≤ n2∧i = .int .i64 k∧Hid (m = n + k * W)∧m ≤ n + n2 * 4∧s = .slice A1 m c1∧Hid (wr.ownsRow w.heap.size 5 1 (.slice A1 m c1) m (u8s (bs ++ aj W (zs.take k))))∧Hid (Below w.heap.size w wr)) (fun _ i _=>n2 - (intOf i).toNat)
  case atStart=>exact ⟨0,n,A3,c3,Nat.zero_le _,rfl,by apply ar;omega,by omega,rfl,by simpa [aj] using HO3,HB3⟩
  case round=>
    obtain ⟨k,m,A1,c1,hk,rfl,hm,hm2,rfl,hown,hb⟩:=hrel
    by_cases hlt:k < n2
    · obtain ⟨b,off,z,rfl,hbb,hz,hat⟩:=HR2.out.int_at hlt
      have d0:wr.cell? ⟨b,off + k,none⟩ = some (.int .i64 z):=aA hat hb.out
      have HS:=ar (show aj W (zs.take (k + 1)) = aj W (zs.take k) ++ aX W z by rw [bp _ _ _ hz,vP])
      clear hz hat
      go_wp2_with fail
      refine (sj v _).mono ?_
      rintro r w4 ⟨rfl,rfl⟩
      rw [HW.out]
      obtain ⟨wo,rfl⟩:∃ wo:World,wo = w4:=⟨_,rfl⟩
      go_wp2_with fail
      go_loopw [7,10] (fun s i wr=>∃ (j:Int) (q m':Nat) (A1:Option Addr) (c1:Nat) (D:List Int),Hid (j = (q:Int) - 1)∧-1 ≤ j∧j ≤ 3∧i = .int .i64 j∧Hid (D ++ aX q z = aX W z)∧Hid (m' + q = m + W)∧m' ≤ n + n2 * 4∧s = .slice A1 m' c1∧Hid (wr.ownsRow w.heap.size 5 1 (.slice A1 m' c1) m' (u8s (bs ++ aj W (zs.take k) ++ D)))∧Hid (Below w.heap.size w wr)) (fun _ i _=>(intOf i + 1).toNat)
      case atStart=>exact ⟨(W:Int) - 1,W,m,A1,c1,[],ar rfl,by omega,by omega,rfl,ar rfl,ar rfl,hm2,rfl,by simpa using hown,hb⟩
      case round=>
        obtain ⟨j,q,m',A5,c5,D,hj,hj1,hj2,rfl,hD,hmq,hm3,rfl,hown5,hb5⟩:=hrel
        by_cases hj0:0 ≤ j
        · obtain ⟨p,rfl⟩:∃ p:Nat,q = p + 1:=⟨q - 1,by have:=hj.out;omega⟩
          obtain rfl:j = (p:Int):=by have:=hj.out;omega
          have hbs5:=hb5.out.size
          go_wp2_with (first
            | (at_builtin
               refine bn _ rfl (.tmp 26) (.tmp 32) 48 rfl w.heap.size 5 i0 _ 1 1 Tryz.underlying48 hi hz0 hz1 hz2 rfl (by omega) (.slice A5 m' c5) m' (u8s (bs ++ aj W (zs.take k) ++ D)) rfl
                 (hown5.out.alloc _) (wr.heap.size + 1) (some ⟨wr.heap.size,0,none⟩) 1 1 (u8s [z / 2 ^ (8 * p) % 256]) rfl (Reads.new wr #[.int .u8 (z / 2 ^ (8 * p) % 256)] 5 1 1 rfl) (ff _) (by simp only [maxLen];omega) (by omega) (by simp;omega) ?_
               intro A7 c7 w7 hown7 hg7 hloc7
               have HB7:=ar ((hb5.out.alloc hb5.out.size (.cells #[.int .u8 (z / 2 ^ (8 * p) % 256)] 5)).grown hg7 (by simp;omega) (fun g hg=>(df hown5.out hg).1))
               have HO7:=ar hown7
               clear hown7 hg7 hloc7))
          go_roundw
          case rel=>exact ⟨(p:Int) - 1,p,m' + 1,A7,c7,D ++ [z / 2 ^ (8 * p) % 256],ar rfl,by omega,by omega,rfl,(by have:=hD.out;rw [aX] at this;exact ar (by simpa using this)),(by have:=hmq.out;exact ar (by omega)),(by have:=hmq.out;have:=hm.out;have:(k + 1) * W ≤ n2 * 4:=Nat.mul_le_mul (by omega) hW2;rw [Nat.add_mul] at this;omega),rfl,(by have:=HO7.out;rw [← hN,List.append_assoc _ D] at this;exact ar this),HB7⟩
          case measure=>(simp [intOf] <;> omega)
        · obtain rfl:q = 0:=by have:=hj.out;omega
          have hj':j = -1:=by omega
          subst hj'
          have hDD:=hD.out
          rw [aX,List.append_nil] at hDD
          subst hDD
          have hm':m' = m + W:=by have:=hmq.out;omega
          have HM':=ar hm'
          clear hm' hj hD hmq hj0
          go_wp2_with fail
          go_roundw
          case rel=>exact ⟨k + 1,m',A5,c5,by omega,by go_num,(by have:=hm.out;have:=HM'.out;apply ar;rw [Nat.add_mul];omega),hm3,rfl,(by rw [HS.out,← List.append_assoc];exact hown5),hb5⟩
          case measure=>(simp [intOf] <;> omega)
    · have hkn:k = n2:=by omega
      have HM:=ar (show m = n + n2 * W by rw [← hkn];exact hm.out)
      have HT:=ar (show zs.take k = zs from List.take_of_length_le (by rw [HL2.out];omega))
      clear hkn
      go_wp2
      go_ret
      rw [HT.out] at hown
      rw [← HM.out]
      exact ⟨A1,c1,rfl,hown.out,hb.out⟩
end
section
def Nums (zs:List Int) (v:Value) (w:World):Prop:=∃ A c,v = .slice A zs.length c∧Reads w w.heap.size 1 A zs.length (aw zs)
def Byts (B:Nat) (bs:List Int) (v:Value) (w:World):Prop:=∃ A c,v = .slice A bs.length c∧w.ownsRow B 5 1 (.slice A bs.length c) bs.length (u8s bs)
theorem Nums.keep {zs:List Int} {v:Value} {w w':World} (h:Nums zs v w) (hb:Below w.heap.size w w'):Nums zs v w':=by
  obtain ⟨A,c,e,hr⟩:=h
  exact ⟨A,c,e,(hr.below hb).more hb.size⟩
theorem Byts.keep {B:Nat} {bs:List Int} {v:Value} {w w':World} (h:Byts B bs v w) (hb:Below w.heap.size w w'):Byts B bs v w':=by
  obtain ⟨A,c,e,hr⟩:=h
  exact ⟨A,c,e,cI hr hb⟩
theorem Byts.mono {B B':Nat} {bs:List Int} {v:Value} {w:World} (h:Byts B bs v w) (hb:B' ≤ B):Byts B' bs v w:=by
  obtain ⟨A,c,e,hr⟩:=h
  exact ⟨A,c,e,dh hr hb⟩
theorem Nums.new1 (w:World) (a:Int) (t:TypeId):Nums [a] (.slice (some ⟨w.heap.size,0,none⟩) 1 1) (w.alloc (.cells #[.int .i64 a] t)):=
  ⟨_,_,rfl,(Reads.new w #[.int .i64 a] t 1 1 rfl).more (by simp)⟩
theorem Nums.new2 (w:World) (a b:Int) (t:TypeId):Nums [a,b] (.slice (some ⟨w.heap.size,0,none⟩) 2 2) (w.alloc (.cells #[.int .i64 a,.int .i64 b] t)):=
  ⟨_,_,rfl,(Reads.new w #[.int .i64 a,.int .i64 b] t 2 1 rfl).more (by simp)⟩
theorem Nums.new3 (w:World) (a b c:Int) (t:TypeId):Nums [a,b,c] (.slice (some ⟨w.heap.size,0,none⟩) 3 3) (w.alloc (.cells #[.int .i64 a,.int .i64 b,.int .i64 c] t)):=
  ⟨_,_,rfl,(Reads.new w #[.int .i64 a,.int .i64 b,.int .i64 c] t 3 1 rfl).more (by simp)⟩
def Rd (bs:List Int) (v:Value) (w:World):Prop:=∃ A c,v = .slice A bs.length c∧Reads w w.heap.size 1 A bs.length (u8s bs)
theorem Rd.nil (w:World) (c:Nat):Rd [] (.slice none 0 c) w:=⟨none,c,rfl,Reads.none_⟩
theorem Byts.rd {B:Nat} {bs:List Int} {v:Value} {w:World} (h:Byts B bs v w):Rd bs v w:=by
  obtain ⟨A,c,e,hr⟩:=h
  exact ⟨A,c,e,Reads.of_own hr⟩
theorem bP (B k:Nat) (v:Int) (bs zs:List Int) (x y:Value) (w:World) (hk:dq v = k) (hB:B ≤ w.heap.size) (hx:Rd bs x w) (hy:Nums zs y w) (hn:bs.length ≤ 100000) (hn2:zs.length ≤ 10000):
    Calls Tryz.prog 184 #[x,.int .i64 v,y] w fun r w'=>∃ u,r = .returned u∧Byts B (bs ++ aj k zs) u w'∧Below w.heap.size w w':=by
  obtain ⟨A,c,rfl,hr⟩:=hx
  obtain ⟨A2,c2,rfl,hr2⟩:=hy
  refine (ut v A bs.length c bs A2 zs.length c2 zs w hn hn2 hr hr2).mono ?_
  rintro r w' ⟨A',c',rfl,ho,hb⟩
  have hl:bs.length + zs.length * dq v = (bs ++ aj k zs).length:=by rw [List.length_append,aK,hk]
  rw [hl,hk] at ho
  exact ⟨_,rfl,⟨A',c',by rw [hl],dh ho hB⟩,hb⟩
def lT (h:HD):List Int:=aj 2 [h.age] ++ aj 1 [0,h.kind] ++ aj 4 [h.id,h.adv,h.seq] ++ aj 2 [h.sum,h.long]
set_option maxRecDepth 20000 in
set_option maxHeartbeats 4000000 in
theorem rv (h:HD) (w:World):Calls Tryz.prog 304 #[.agg h.arr] w fun r w'=>∃ v,r = .returned v∧Byts w.heap.size (lT h) v w'∧Below w.heap.size w w':=by
  obtain ⟨age,kind,id,adv,seq,sum,long⟩:=h
  go_enter Tryz.func304,Tryz.ntmps304
  go_upto_region 1 with (fail)
  have hb0:=Blk.new w 63 #[.int .i64 age,.int .i64 kind,.int .i64 id,.int .i64 adv,.int .i64 seq,.int .i64 sum,.int .i64 long]
  have hB0:=aC w (.cells #[.int .i64 age,.int .i64 kind,.int .i64 id,.int .i64 adv,.int .i64 seq,.int .i64 sum,.int .i64 long] 63)
  generalize w.alloc (.cells #[.int .i64 age,.int .i64 kind,.int .i64 id,.int .i64 adv,.int .i64 seq,.int .i64 sum,.int .i64 long] 63) = W at hb0 hB0 ⊢
  refine lp (fun i v w'=>match i with
    | 0=>v = .pointer (some ⟨w.heap.size,0,none⟩)
    | 1=>v = .int .i64 age
    | 2=>Nums [age] v w'
    | 3=>Byts W.heap.size (aj 2 [age]) v w'
    | 4=>v = .pointer (some ⟨w.heap.size,1,none⟩)
    | 5=>v = .int .i64 kind
    | 6=>Nums [0,kind] v w'
    | 7=>Byts W.heap.size (aj 2 [age] ++ aj 1 [0,kind]) v w'
    | _=>Byts (W.heap.size) (aj 2 [age] ++ aj 1 [0,kind]) v w')
    (by kernel_rfl) (by kernel_rfl) (by kernel_rfl) (by kernel_rfl) ?_ ⟨?_,?_,?_,?_,?_,?_,?_,?_,?_,trivial⟩ ?_
  · intro i v w1 w2 hb hF
    match i,hF with
    | 0,h=>exact h
    | 1,h=>exact h
    | 2,h=>exact Nums.keep h hb
    | 3,h=>exact Byts.keep h hb
    | 4,h=>exact h
    | 5,h=>exact h
    | 6,h=>exact Nums.keep h hb
    | 7,h=>exact Byts.keep h hb
    | _ + 8,h=>exact Byts.keep h hb
  · intro a w1 hat
    have h1:a.tmps.getD 1 undef = .pointer (some ⟨w.heap.size,0,none⟩):=hat.base 1 (by kernel_rfl)
    (rw [if_pos (by rfl)];go_simp;exact Below.refl _ _)
  · intro a w1 hat
    have h1:a.tmps.getD 4 undef = .pointer (some ⟨w.heap.size,0,none⟩):=hat.dep 0 4 (by kernel_rfl) (by kernel_rfl)
    have hc:=aA (hb0.cell 0) hat.since
    (rw [if_pos (by rfl)];go_simp;exact Below.refl _ _)
  · intro a w1 hat
    have h00:a.tmps.getD 5 undef = .int .i64 age:=hat.dep 1 5 (by kernel_rfl) (by kernel_rfl)
    (have h01:=h00;rw [Array.getD_eq_getD_getElem?] at h01)
    rw [if_pos (by rfl)]
    go_simp
    exact ⟨_,rfl,aC _ _,Nums.new1 _ _ _⟩
  · intro a w1 hat
    have hy:Nums [age] (a.tmps.getD 6 undef) w1:=hat.dep 2 6 (by kernel_rfl) (by kernel_rfl)
    generalize h20:a.tmps.getD 6 undef = y at hy
    (have h21:=h20;rw [Array.getD_eq_getD_getElem?] at h21)
    rw [if_pos (by rfl)]
    go_simp
    refine (bP W.heap.size 2 2 ([]) [age] _ _ w1 (by rfl) hat.since.size (Rd.nil _ _) hy (by ((try simp only [List.length_append,aK,List.length_cons,List.length_nil]);omega)) (by simp)).mono ?_
    rintro r w3 ⟨u,rfl,hu,hb⟩
    exact ⟨u,rfl,hb,hu⟩
  · intro a w1 hat
    have h1:a.tmps.getD 1 undef = .pointer (some ⟨w.heap.size,0,none⟩):=hat.base 1 (by kernel_rfl)
    (rw [if_pos (by rfl)];go_simp;exact Below.refl _ _)
  · intro a w1 hat
    have h1:a.tmps.getD 8 undef = .pointer (some ⟨w.heap.size,1,none⟩):=hat.dep 4 8 (by kernel_rfl) (by kernel_rfl)
    have hc:=aA (hb0.cell 1) hat.since
    (rw [if_pos (by rfl)];go_simp;exact Below.refl _ _)
  · intro a w1 hat
    have h10:a.tmps.getD 9 undef = .int .i64 kind:=hat.dep 5 9 (by kernel_rfl) (by kernel_rfl)
    (have h11:=h10;rw [Array.getD_eq_getD_getElem?] at h11)
    rw [if_pos (by rfl)]
    go_simp
    exact ⟨_,rfl,aC _ _,Nums.new2 _ _ _ _⟩
  · intro a w1 hat
    have hx:Byts (W.heap.size) (aj 2 [age]) (a.tmps.getD 7 undef) w1:=hat.dep 3 7 (by kernel_rfl) (by kernel_rfl)
    have hy:Nums [0,kind] (a.tmps.getD 10 undef) w1:=hat.dep 6 10 (by kernel_rfl) (by kernel_rfl)
    generalize h10:a.tmps.getD 7 undef = x at hx
    (have h11:=h10;rw [Array.getD_eq_getD_getElem?] at h11)
    generalize h20:a.tmps.getD 10 undef = y at hy
    (have h21:=h20;rw [Array.getD_eq_getD_getElem?] at h21)
    rw [if_pos (by rfl)]
    go_simp
    refine (bP W.heap.size 1 1 (aj 2 [age]) [0,kind] _ _ w1 (by rfl) hat.since.size hx.rd hy (by ((try simp only [List.length_append,aK,List.length_cons,List.length_nil]);omega)) (by simp)).mono ?_
    rintro r w3 ⟨u,rfl,hu,hb⟩
    exact ⟨u,rfl,hb,hu⟩
  · intro a w1 hat
    have h1:Byts (W.heap.size) (aj 2 [age] ++ aj 1 [0,kind]) (a.tmps.getD 11 undef) w1:=hat.dep 7 11 (by kernel_rfl) (by kernel_rfl)
    generalize h10:a.tmps.getD 11 undef = x at h1
    (have h11:=h10;rw [Array.getD_eq_getD_getElem?] at h11)
    rw [if_pos (by rfl)]
    go_simp
    exact ⟨_,rfl,Below.refl _ _,h1⟩
  intro vs W1 hW1 hF
  have hv0:vs 0 = .pointer (some ⟨w.heap.size,0,none⟩):=hF 0 (by decide)
  have hv1:vs 1 = .int .i64 age:=hF 1 (by decide)
  have hv2:Nums [age] (vs 2) W1:=hF 2 (by decide)
  have hv3:Byts W.heap.size (aj 2 [age]) (vs 3) W1:=hF 3 (by decide)
  have hv4:vs 4 = .pointer (some ⟨w.heap.size,1,none⟩):=hF 4 (by decide)
  have hv5:vs 5 = .int .i64 kind:=hF 5 (by decide)
  have hv6:Nums [0,kind] (vs 6) W1:=hF 6 (by decide)
  have hv7:Byts W.heap.size (aj 2 [age] ++ aj 1 [0,kind]) (vs 7) W1:=hF 7 (by decide)
  have hv8:Byts (W.heap.size) (aj 2 [age] ++ aj 1 [0,kind]) (vs 8) W1:=hF 8 (by decide)
  simp only [ba,Act.put,List.setIfInBounds_toArray,List.set_cons_zero,List.set_cons_succ,Nat.zero_add,Nat.reduceAdd]
  generalize vs 0 = v0 at hv0 ⊢
  generalize vs 1 = v1 at hv1 ⊢
  generalize vs 2 = v2 at hv2 ⊢
  generalize vs 3 = v3 at hv3 ⊢
  generalize vs 4 = v4 at hv4 ⊢
  generalize vs 5 = v5 at hv5 ⊢
  generalize vs 6 = v6 at hv6 ⊢
  generalize vs 7 = v7 at hv7 ⊢
  generalize vs 8 = v8 at hv8 ⊢
  subst hv0
  subst hv1
  subst hv4
  subst hv5
  clear hF
  have hb1:=hb0.below hW1 hb0.lt
  go_upto_region 2 with (fail)
  refine lp (fun i v w'=>match i with
    | 0=>Byts (W.heap.size) (aj 2 [age] ++ aj 1 [0,kind]) v w'
    | 1=>v = .pointer (some ⟨w.heap.size,2,none⟩)
    | 2=>v = .int .i64 id
    | 3=>v = .pointer (some ⟨w.heap.size,3,none⟩)
    | 4=>v = .int .i64 adv
    | 5=>v = .pointer (some ⟨w.heap.size,4,none⟩)
    | 6=>v = .int .i64 seq
    | 7=>Nums [id,adv,seq] v w'
    | 8=>Byts W1.heap.size (aj 2 [age] ++ aj 1 [0,kind] ++ aj 4 [id,adv,seq]) v w'
    | 9=>v = .pointer (some ⟨w.heap.size,5,none⟩)
    | 10=>v = .int .i64 sum
    | 11=>v = .pointer (some ⟨w.heap.size,6,none⟩)
    | 12=>v = .int .i64 long
    | 13=>Nums [sum,long] v w'
    | 14=>Byts W1.heap.size (aj 2 [age] ++ aj 1 [0,kind] ++ aj 4 [id,adv,seq] ++ aj 2 [sum,long]) v w'
    | _=>Byts (W1.heap.size) (aj 2 [age] ++ aj 1 [0,kind] ++ aj 4 [id,adv,seq] ++ aj 2 [sum,long]) v w')
    (by kernel_rfl) (by kernel_rfl) (by kernel_rfl) (by kernel_rfl) ?_ ⟨?_,?_,?_,?_,?_,?_,?_,?_,?_,?_,?_,?_,?_,?_,?_,?_,trivial⟩ ?_
  · intro i v w1 w2 hb hF
    match i,hF with
    | 0,h=>exact Byts.keep h hb
    | 1,h=>exact h
    | 2,h=>exact h
    | 3,h=>exact h
    | 4,h=>exact h
    | 5,h=>exact h
    | 6,h=>exact h
    | 7,h=>exact Nums.keep h hb
    | 8,h=>exact Byts.keep h hb
    | 9,h=>exact h
    | 10,h=>exact h
    | 11,h=>exact h
    | 12,h=>exact h
    | 13,h=>exact Nums.keep h hb
    | 14,h=>exact Byts.keep h hb
    | _ + 15,h=>exact Byts.keep h hb
  · intro a w1 hat
    have h1:a.tmps.getD 3 undef = v8:=hat.base 3 (by kernel_rfl)
    (have h11:=h1;rw [Array.getD_eq_getD_getElem?] at h11)
    rw [if_pos (by rfl)]
    go_simp
    exact ⟨_,rfl,Below.refl _ _,hv8.keep hat.since⟩
  · intro a w1 hat
    have h1:a.tmps.getD 1 undef = .pointer (some ⟨w.heap.size,0,none⟩):=hat.base 1 (by kernel_rfl)
    (rw [if_pos (by rfl)];go_simp;exact Below.refl _ _)
  · intro a w1 hat
    have h1:a.tmps.getD 13 undef = .pointer (some ⟨w.heap.size,2,none⟩):=hat.dep 1 13 (by kernel_rfl) (by kernel_rfl)
    have hc:=aA (hb1.cell 2) hat.since
    (rw [if_pos (by rfl)];go_simp;exact Below.refl _ _)
  · intro a w1 hat
    have h1:a.tmps.getD 1 undef = .pointer (some ⟨w.heap.size,0,none⟩):=hat.base 1 (by kernel_rfl)
    (rw [if_pos (by rfl)];go_simp;exact Below.refl _ _)
  · intro a w1 hat
    have h1:a.tmps.getD 15 undef = .pointer (some ⟨w.heap.size,3,none⟩):=hat.dep 3 15 (by kernel_rfl) (by kernel_rfl)
    have hc:=aA (hb1.cell 3) hat.since
    (rw [if_pos (by rfl)];go_simp;exact Below.refl _ _)
  · intro a w1 hat
    have h1:a.tmps.getD 1 undef = .pointer (some ⟨w.heap.size,0,none⟩):=hat.base 1 (by kernel_rfl)
    (rw [if_pos (by rfl)];go_simp;exact Below.refl _ _)
  · intro a w1 hat
    have h1:a.tmps.getD 17 undef = .pointer (some ⟨w.heap.size,4,none⟩):=hat.dep 5 17 (by kernel_rfl) (by kernel_rfl)
    have hc:=aA (hb1.cell 4) hat.since
    (rw [if_pos (by rfl)];go_simp;exact Below.refl _ _)
  · intro a w1 hat
    have h00:a.tmps.getD 14 undef = .int .i64 id:=hat.dep 2 14 (by kernel_rfl) (by kernel_rfl)
    (have h01:=h00;rw [Array.getD_eq_getD_getElem?] at h01)
    have h10:a.tmps.getD 16 undef = .int .i64 adv:=hat.dep 4 16 (by kernel_rfl) (by kernel_rfl)
    (have h11:=h10;rw [Array.getD_eq_getD_getElem?] at h11)
    have h20:a.tmps.getD 18 undef = .int .i64 seq:=hat.dep 6 18 (by kernel_rfl) (by kernel_rfl)
    (have h21:=h20;rw [Array.getD_eq_getD_getElem?] at h21)
    rw [if_pos (by rfl)]
    go_simp
    exact ⟨_,rfl,aC _ _,Nums.new3 _ _ _ _ _⟩
  · intro a w1 hat
    have hx:Byts (W.heap.size) (aj 2 [age] ++ aj 1 [0,kind]) (a.tmps.getD 12 undef) w1:=hat.dep 0 12 (by kernel_rfl) (by kernel_rfl)
    have hy:Nums [id,adv,seq] (a.tmps.getD 19 undef) w1:=hat.dep 7 19 (by kernel_rfl) (by kernel_rfl)
    generalize h10:a.tmps.getD 12 undef = x at hx
    (have h11:=h10;rw [Array.getD_eq_getD_getElem?] at h11)
    generalize h20:a.tmps.getD 19 undef = y at hy
    (have h21:=h20;rw [Array.getD_eq_getD_getElem?] at h21)
    rw [if_pos (by rfl)]
    go_simp
    refine (bP W1.heap.size 4 4 (aj 2 [age] ++ aj 1 [0,kind]) [id,adv,seq] _ _ w1 (by rfl) hat.since.size hx.rd hy (by ((try simp only [List.length_append,aK,List.length_cons,List.length_nil]);omega)) (by simp)).mono ?_
    rintro r w3 ⟨u,rfl,hu,hb⟩
    exact ⟨u,rfl,hb,hu⟩
  · intro a w1 hat
    have h1:a.tmps.getD 1 undef = .pointer (some ⟨w.heap.size,0,none⟩):=hat.base 1 (by kernel_rfl)
    (rw [if_pos (by rfl)];go_simp;exact Below.refl _ _)
  · intro a w1 hat
    have h1:a.tmps.getD 21 undef = .pointer (some ⟨w.heap.size,5,none⟩):=hat.dep 9 21 (by kernel_rfl) (by kernel_rfl)
    have hc:=aA (hb1.cell 5) hat.since
    (rw [if_pos (by rfl)];go_simp;exact Below.refl _ _)
  · intro a w1 hat
    have h1:a.tmps.getD 1 undef = .pointer (some ⟨w.heap.size,0,none⟩):=hat.base 1 (by kernel_rfl)
    (rw [if_pos (by rfl)];go_simp;exact Below.refl _ _)
  · intro a w1 hat
    have h1:a.tmps.getD 23 undef = .pointer (some ⟨w.heap.size,6,none⟩):=hat.dep 11 23 (by kernel_rfl) (by kernel_rfl)
    have hc:=aA (hb1.cell 6) hat.since
    (rw [if_pos (by rfl)];go_simp;exact Below.refl _ _)
  · intro a w1 hat
    have h00:a.tmps.getD 22 undef = .int .i64 sum:=hat.dep 10 22 (by kernel_rfl) (by kernel_rfl)
    (have h01:=h00;rw [Array.getD_eq_getD_getElem?] at h01)
    have h10:a.tmps.getD 24 undef = .int .i64 long:=hat.dep 12 24 (by kernel_rfl) (by kernel_rfl)
    (have h11:=h10;rw [Array.getD_eq_getD_getElem?] at h11)
    rw [if_pos (by rfl)]
    go_simp
    exact ⟨_,rfl,aC _ _,Nums.new2 _ _ _ _⟩
  · intro a w1 hat
    have hx:Byts (W1.heap.size) (aj 2 [age] ++ aj 1 [0,kind] ++ aj 4 [id,adv,seq]) (a.tmps.getD 20 undef) w1:=hat.dep 8 20 (by kernel_rfl) (by kernel_rfl)
    have hy:Nums [sum,long] (a.tmps.getD 25 undef) w1:=hat.dep 13 25 (by kernel_rfl) (by kernel_rfl)
    generalize h10:a.tmps.getD 20 undef = x at hx
    (have h11:=h10;rw [Array.getD_eq_getD_getElem?] at h11)
    generalize h20:a.tmps.getD 25 undef = y at hy
    (have h21:=h20;rw [Array.getD_eq_getD_getElem?] at h21)
    rw [if_pos (by rfl)]
    go_simp
    refine (bP W1.heap.size 2 2 (aj 2 [age] ++ aj 1 [0,kind] ++ aj 4 [id,adv,seq]) [sum,long] _ _ w1 (by rfl) hat.since.size hx.rd hy (by ((try simp only [List.length_append,aK,List.length_cons,List.length_nil]);omega)) (by simp)).mono ?_
    rintro r w3 ⟨u,rfl,hu,hb⟩
    exact ⟨u,rfl,hb,hu⟩
  · intro a w1 hat
    have h1:Byts (W1.heap.size) (aj 2 [age] ++ aj 1 [0,kind] ++ aj 4 [id,adv,seq] ++ aj 2 [sum,long]) (a.tmps.getD 26 undef) w1:=hat.dep 14 26 (by kernel_rfl) (by kernel_rfl)
    generalize h10:a.tmps.getD 26 undef = x at h1
    (have h11:=h10;rw [Array.getD_eq_getD_getElem?] at h11)
    rw [if_pos (by rfl)]
    go_simp
    exact ⟨_,rfl,Below.refl _ _,h1⟩
  intro vs W2 hW2 hF
  have hv0:Byts (W.heap.size) (aj 2 [age] ++ aj 1 [0,kind]) (vs 0) W2:=hF 0 (by decide)
  have hv1:vs 1 = .pointer (some ⟨w.heap.size,2,none⟩):=hF 1 (by decide)
  have hv2:vs 2 = .int .i64 id:=hF 2 (by decide)
  have hv3:vs 3 = .pointer (some ⟨w.heap.size,3,none⟩):=hF 3 (by decide)
  have hv4:vs 4 = .int .i64 adv:=hF 4 (by decide)
  have hv5:vs 5 = .pointer (some ⟨w.heap.size,4,none⟩):=hF 5 (by decide)
  have hv6:vs 6 = .int .i64 seq:=hF 6 (by decide)
  have hv7:Nums [id,adv,seq] (vs 7) W2:=hF 7 (by decide)
  have hv8:Byts W1.heap.size (aj 2 [age] ++ aj 1 [0,kind] ++ aj 4 [id,adv,seq]) (vs 8) W2:=hF 8 (by decide)
  have hv9:vs 9 = .pointer (some ⟨w.heap.size,5,none⟩):=hF 9 (by decide)
  have hv10:vs 10 = .int .i64 sum:=hF 10 (by decide)
  have hv11:vs 11 = .pointer (some ⟨w.heap.size,6,none⟩):=hF 11 (by decide)
  have hv12:vs 12 = .int .i64 long:=hF 12 (by decide)
  have hv13:Nums [sum,long] (vs 13) W2:=hF 13 (by decide)
  have hv14:Byts W1.heap.size (aj 2 [age] ++ aj 1 [0,kind] ++ aj 4 [id,adv,seq] ++ aj 2 [sum,long]) (vs 14) W2:=hF 14 (by decide)
  have hv15:Byts (W1.heap.size) (aj 2 [age] ++ aj 1 [0,kind] ++ aj 4 [id,adv,seq] ++ aj 2 [sum,long]) (vs 15) W2:=hF 15 (by decide)
  simp only [ba,Act.put,List.setIfInBounds_toArray,List.set_cons_zero,List.set_cons_succ,Nat.zero_add,Nat.reduceAdd]
  generalize vs 0 = v0 at hv0 ⊢
  generalize vs 1 = v1 at hv1 ⊢
  generalize vs 2 = v2 at hv2 ⊢
  generalize vs 3 = v3 at hv3 ⊢
  generalize vs 4 = v4 at hv4 ⊢
  generalize vs 5 = v5 at hv5 ⊢
  generalize vs 6 = v6 at hv6 ⊢
  generalize vs 7 = v7 at hv7 ⊢
  generalize vs 8 = v8 at hv8 ⊢
  generalize vs 9 = v9 at hv9 ⊢
  generalize vs 10 = v10 at hv10 ⊢
  generalize vs 11 = v11 at hv11 ⊢
  generalize vs 12 = v12 at hv12 ⊢
  generalize vs 13 = v13 at hv13 ⊢
  generalize vs 14 = v14 at hv14 ⊢
  generalize vs 15 = v15 at hv15 ⊢
  subst hv1
  subst hv2
  subst hv3
  subst hv4
  subst hv5
  subst hv6
  subst hv9
  subst hv10
  subst hv11
  subst hv12
  clear hF
  go_wp2
  go_ret
  have hz:w.heap.size ≤ W1.heap.size:=Nat.le_trans hB0.size hW1.size
  exact ⟨_,rfl,hv15.mono hz,(hB0.trans (hW1.mono hB0.size)).trans (hW2.mono hz)⟩
end
theorem nf (n k:Nat) (h0:0 < n):(n * 2 ^ k).log2 = n.log2 + k:=by
  have hp:0 < 2 ^ k:=Nat.two_pow_pos k
  rw [Nat.log2_eq_iff (by have:=Nat.mul_pos h0 hp;omega)]
  obtain ⟨h1,h2⟩:=(Nat.log2_eq_iff (by omega:n ≠ 0)).1 rfl
  refine ⟨?_,?_⟩
  · rw [Nat.pow_add];exact Nat.mul_le_mul_right _ h1
  · rw [show n.log2 + k + 1 = n.log2 + 1 + k by omega,Nat.pow_add];exact Nat.mul_lt_mul_of_pos_right h2 hp
theorem i5 (n:Nat) (h0:0 < n) (h1:n < 2 ^ 53):n.log2 ≤ 52:=by
  have:=(Nat.log2_lt (by omega:n ≠ 0)).2 h1
  omega
def fM (n:Nat):Nat:=(n.log2 + 1022) * 2 ^ 52 + n * 2 ^ (52 - n.log2)
theorem nQ (n:Nat) (h0:0 < n) (h1:n < 2 ^ 53):2 ^ 52 ≤ n * 2 ^ (52 - n.log2)∧n * 2 ^ (52 - n.log2) < 2 ^ 53:=by
  have hl:=i5 n h0 h1
  obtain ⟨h2,h3⟩:=(Nat.log2_eq_iff (by omega:n ≠ 0)).1 rfl
  refine ⟨?_,?_⟩
  · have:=Nat.mul_le_mul_right (2 ^ (52 - n.log2)) h2
    rw [← Nat.pow_add] at this
    rwa [show n.log2 + (52 - n.log2) = 52 by omega] at this
  · have:=Nat.mul_lt_mul_of_pos_right h3 (Nat.two_pow_pos (52 - n.log2))
    rw [← Nat.pow_add] at this
    rwa [show n.log2 + 1 + (52 - n.log2) = 53 by omega] at this
theorem tZ (way:Ieee.Toward) (m drop:Nat) (neg:Bool):way.cut neg (m * 2 ^ drop) drop = m:=by
  unfold Ieee.Toward.cut
  rcases Nat.eq_zero_or_pos m with h0 | h0
  · subst h0
    cases way <;> simp
  · have hl:=nf m drop h0
    have hmin:min drop ((m * 2 ^ drop).log2 + 2) = drop:=by rw [hl];omega
    simp only [hmin,Nat.shiftLeft_eq,Nat.one_mul]
    have hp:0 < 2 ^ drop:=Nat.two_pow_pos drop
    rw [Nat.mul_div_cancel _ hp,Nat.mul_mod_left]
    cases way <;> simp
theorem oq (m drop:Nat) (neg:Bool):Ieee.Toward.even.cut neg (m * 2 ^ drop) drop = m:=tZ .even m drop neg
theorem jp (n k:Nat) (h0:0 < n) (h1:n < 2 ^ 53):Ieee.double.nearest false (n * 2 ^ k) (-(k:Int)) = fM n:=by
  have hl:=i5 n h0 h1
  obtain ⟨b1,b2⟩:=nQ n h0 h1
  have hp:0 < 2 ^ k:=Nat.two_pow_pos k
  have hm:=Nat.mul_pos h0 hp
  unfold Ieee.Format.nearest
  rw [if_neg (by omega),nf n k h0]
  have hlp:Ieee.double.leastPlace = -1074:=by decide
  have hfb:Ieee.double.fractionBits = 52:=rfl
  have hbin:Ieee.double.binade = 2 ^ 52:=rfl
  have hinf:Ieee.double.infRung = 2047 * 2 ^ 52:=by decide
  have hlast:max (-(k:Int) + ((n.log2 + k:Nat):Int) - (Ieee.double.fractionBits:Nat)) (-1074) = (n.log2:Int) - 52:=by rw [hfb];omega
  simp only [hlp,hbin,hinf]
  rw [hlast]
  have hkept:Ieee.Toward.even.cut false ((n * 2 ^ k) <<< (-(k:Int) - ((n.log2:Int) - 52)).toNat) ((n.log2:Int) - 52 - -(k:Int)).toNat = n * 2 ^ (52 - n.log2):=by
    rcases Nat.lt_or_ge (n.log2 + k) 52 with hc | hc
    · rw [show ((n.log2:Int) - 52 - -(k:Int)).toNat = 0 by omega,show (-(k:Int) - ((n.log2:Int) - 52)).toNat = 52 - n.log2 - k by omega,Nat.shiftLeft_eq]
      have:=oq (n * 2 ^ k * 2 ^ (52 - n.log2 - k)) 0 false
      rw [Nat.pow_zero,Nat.mul_one] at this
      rw [this,Nat.mul_assoc,← Nat.pow_add,show k + (52 - n.log2 - k) = 52 - n.log2 by omega]
    · rw [show (-(k:Int) - ((n.log2:Int) - 52)).toNat = 0 by omega,Nat.shiftLeft_zero,show ((n.log2:Int) - 52 - -(k:Int)).toNat = n.log2 + k - 52 by omega]
      have:=oq (n * 2 ^ (52 - n.log2)) (n.log2 + k - 52) false
      rwa [Nat.mul_assoc,← Nat.pow_add,show 52 - n.log2 + (n.log2 + k - 52) = k by omega] at this
  rw [hkept]
  unfold Ieee.Format.word fM
  rw [show ((n.log2:Int) - 52 - -1074).toNat = n.log2 + 1022 by omega]
  simp only [Bool.false_eq_true,if_false]
  exact Nat.min_eq_left (by omega)
theorem vR (n:Nat) (h0:0 < n) (h1:n < 2 ^ 53):Ieee.double.read (fM n) = .number false (n * 2 ^ (52 - n.log2)) ((n.log2:Int) - 52):=by
  have hl:=i5 n h0 h1
  obtain ⟨b1,b2⟩:=nQ n h0 h1
  have hlp:Ieee.double.leastPlace = -1074:=by decide
  have hbin:Ieee.double.binade = 2 ^ 52:=rfl
  have hinf:Ieee.double.infRung = 2047 * 2 ^ 52:=by decide
  have hsw:Ieee.double.signWeight = 2 ^ 63:=rfl
  have hr:fM n < 2 ^ 63:=by unfold fM;omega
  have hr1:¬ fM n < 2 ^ 52:=by unfold fM;omega
  have hr2:fM n < 2047 * 2 ^ 52:=by unfold fM;omega
  have hd:fM n / 2 ^ 52 = n.log2 + 1023:=by unfold fM;omega
  have hm:fM n % 2 ^ 52 = n * 2 ^ (52 - n.log2) - 2 ^ 52:=by unfold fM;omega
  generalize fM n = r at hr hr1 hr2 hd hm ⊢
  unfold Ieee.Format.read
  have e1:r % 2 ^ 63 = r:=Nat.mod_eq_of_lt hr
  have e2:r / 2 ^ 63 = 0:=Nat.div_eq_of_lt hr
  simp only [hlp,hbin,hinf,hsw]
  rw [e1,e2,if_neg hr1,if_pos hr2,hd,hm]
  have e3:2 ^ 52 + (n * 2 ^ (52 - n.log2) - 2 ^ 52) = n * 2 ^ (52 - n.log2):=by omega
  have e4:(-1074:Int) + ((n.log2 + 1023 - 1:Nat):Int) = (n.log2:Int) - 52:=by omega
  rw [e3,e4]
  rfl
def fl (n:Nat):Nat:=if n = 0 then 0 else fM n
theorem wW (n:Nat) (h1:n < 2 ^ 53):floatOfInt .f64 n = fl n:=by
  unfold fl
  rcases Nat.eq_zero_or_pos n with h0 | h0
  · subst h0;decide
  · rw [if_neg (by omega),← jp n 0 h0 h1]
    have e:floatOfInt .f64 (n:Int) = Ieee.double.nearest (decide ((n:Int) < 0)) ((n:Int).natAbs) 0:=rfl
    rw [e,Int.natAbs_natCast,decide_eq_false (by omega),Nat.pow_zero,Nat.mul_one]
    rfl
theorem pH (n:Nat) (hn:n < 2 ^ 53):∃ k:Nat,Ieee.double.read (fl n) = .number false (n * 2 ^ k) (-(k:Int)):=by
  rcases Nat.eq_zero_or_pos n with h0 | h0
  · subst h0
    obtain ⟨k,hk⟩:∃ k:Nat,k = 1074:=⟨_,rfl⟩
    refine ⟨k,?_⟩
    rw [Nat.zero_mul,hk]
    decide
  · have hl:=i5 n h0 hn
    refine ⟨52 - n.log2,?_⟩
    unfold fl
    rw [if_neg (by omega),vR n h0 hn,show ((n.log2:Int) - 52) = -((52 - n.log2:Nat):Int) by omega]
theorem wY (n k:Nat) (hn:n < 2 ^ 53):Ieee.double.write (.number false (n * 2 ^ k) (-(k:Int))) = fl n:=by
  unfold fl
  rcases Nat.eq_zero_or_pos n with h0 | h0
  · subst h0
    rw [if_pos rfl,Nat.zero_mul]
    rfl
  · rw [if_neg (by omega),← jp n k h0 hn]
    rfl
theorem pG (a b:Nat) (hab:a + b < 2 ^ 53):floatBits .add .f64 (fl a) (fl b) = some (fl (a + b)):=by
  obtain ⟨k,hk⟩:=pH a (by omega)
  obtain ⟨j,hj⟩:=pH b (by omega)
  show (Ieee.double.add (fl a) (fl b)) = _
  unfold Ieee.Format.add
  rw [hk,hj]
  obtain ⟨K,hK⟩:∃ K:Nat,max k j = K:=⟨_,rfl⟩
  have hmin:min (-(k:Int)) (-(j:Int)) = -(K:Int):=by omega
  have e1:Ieee.signed false (a * 2 ^ k) (-(k:Int) - -(K:Int)).toNat = ((a * 2 ^ K:Nat):Int):=by
    rw [show (-(k:Int) - -(K:Int)).toNat = K - k by omega]
    simp only [Ieee.signed,Bool.false_eq_true,if_false,Nat.shiftLeft_eq]
    rw [Nat.mul_assoc,← Nat.pow_add,show k + (K - k) = K by omega]
  have e2:Ieee.signed false (b * 2 ^ j) (-(j:Int) - -(K:Int)).toNat = ((b * 2 ^ K:Nat):Int):=by
    rw [show (-(j:Int) - -(K:Int)).toNat = K - j by omega]
    simp only [Ieee.signed,Bool.false_eq_true,if_false,Nat.shiftLeft_eq]
    rw [Nat.mul_assoc,← Nat.pow_add,show j + (K - j) = K by omega]
  have e3:((a * 2 ^ K:Nat):Int) + ((b * 2 ^ K:Nat):Int) = (((a + b) * 2 ^ K:Nat):Int):=by rw [Nat.add_mul];omega
  simp only [Ieee.Datum.sum,hmin,e1,e2,e3,Int.natAbs_natCast,Option.map_some,Bool.and_false,decide_eq_false (Int.not_lt.2 (Int.natCast_nonneg _)),ite_self]
  rw [wY (a + b) K hab]
theorem wX (n:Nat) (hn:n < 2 ^ 53):floatToIntVal .f64 (fl n) .i64 = some (n:Int):=by
  obtain ⟨k,hk⟩:=pH n hn
  have e:FloatKind.decode .f64 (fl n) = .number false (n * 2 ^ k) (-(k:Int)):=hk
  have e2:(Ieee.Datum.number false (n * 2 ^ k) (-(k:Int))).toInt .zero = some (n:Int):=by
    have h1:(-(k:Int)).toNat = 0:=by omega
    have h2:(- -(k:Int)).toNat = k:=by omega
    simp only [Ieee.Datum.toInt,Ieee.Datum.integral,h1,h2,Nat.shiftLeft_zero,tZ]
    simp [Ieee.signed]
  unfold floatToIntVal
  rw [e,e2]
  have h3:IntKind.i64.min ≤ (n:Int)∧(n:Int) ≤ IntKind.i64.max:=by
    have a1:IntKind.i64.min = -9223372036854775808:=by decide
    have a2:IntKind.i64.max = 9223372036854775807:=by decide
    rw [a1,a2]
    omega
  simp only [if_pos h3]
section
set_option maxHeartbeats 4000000
set_option maxRecDepth 100000
def og (w:World) (base g:Nat) (bs:List Int) (at_ e:Int):Prop:=
  base ≤ g∧∃ A c,Blk w g 316 #[.slice A bs.length c,.int .i64 at_,.int .i64 e]∧w.ownsRow base 5 1 (.slice A bs.length c) bs.length (u8s bs)
theorem xH (A:Option Addr) (n c:Nat) (bs:List Int) (w:World) (hn:n ≤ 100000) (hr:Reads w w.heap.size 1 A n (u8s bs)):
    Calls Tryz.prog 146 #[.slice A n c] w fun r w'=>∃ g,r = .returned (.pointer (some ⟨g,0,none⟩))∧og w' w.heap.size g bs 0 0∧Below w.heap.size w w':=by
  obtain ⟨i0,hi,hz0,hz1,hz2⟩:=info_parts kF
  have HR:=ar hr
  have HL:=ar (show bs.length = n by have:=hr.1;simpa [u8s] using this)
  clear hr
  go_enter Tryz.func146,Tryz.ntmps146
  go_wp2_with (first
    | (at_builtin
       refine bn _ rfl (.const (.slice none 0 0)) (.tmp 3) 48 rfl w.heap.size 5 i0 _ 1 1 Tryz.underlying48 hi hz0 hz1 hz2 rfl (by omega) (.slice none 0 0) 0 [] rfl
         (World.ownsRow_nil _ _ _ _) w.heap.size A n c (u8s bs) rfl HR.out (ff _) (by simp only [maxLen];omega) (by omega) (by omega) ?_
       intro A3 c3 w3 hown3 hg3 hloc3
       have HB3:=ar ((Below.refl w.heap.size w).grown hg3 (Nat.le_refl _) (fun g hg=>by simp [Value.ownBlock] at hg))
       have HO3:Hid (w3.ownsRow w.heap.size 5 1 (.slice A3 n c3) n (u8s bs)):=ar (by simpa using hown3)
       clear hown3 hg3 hloc3))
  go_ret
  refine ⟨w3.heap.size,rfl,⟨HB3.out.size,A3,c3,?_,?_⟩,HB3.out.alloc HB3.out.size _⟩
  · rw [HL.out];exact Blk.new w3 _ _
  · rw [HL.out];exact HO3.out.alloc _
theorem sC (A:Option Addr) (n c:Nat) (bs:List Int) (w:World) (hn:n ≤ 100000) (hr:Reads w w.heap.size 1 A n (u8s bs)):
    Calls Tryz.prog 298 #[.slice A n c] w fun r w'=>∃ A' c',r = .returned (.slice A' n c')∧w'.ownsRow w.heap.size 5 1 (.slice A' n c') n (u8s bs)∧Below w.heap.size w w':=by
  have HR:=ar hr
  have HL:=ar (show bs.length = n by have:=hr.1;simpa [u8s] using this)
  clear hr
  obtain ⟨i0,hi,hz0,hz1,hz2⟩:=info_parts kF
  have hsz:(Tryz.prog.info? 5).map (·.size) = some 1:=by rw [hi];simp [hz1]
  obtain ⟨w1,hmk,hown1,hg1⟩:=run_makeSlice_full (P:=Tryz.prog) w w.heap.size 48 5 i0 (.int .u8 0) 1 Tryz.underlying48 hi hz0 hz1 .i64 .i64 n (by omega) (by rw [hz2];omega) (by simp only [maxLen];omega) (Nat.le_refl _)
  have HB1:=ar ((Below.refl w.heap.size w).grown hg1 (Nat.le_refl _) (fun g hg=>by cases hg))
  have HR1:=ar (HR.out.below HB1.out)
  obtain ⟨cur,hcur,hcz,hct⟩:∃ cur:List Value,w1.heap[w.heap.size]? = some (.cells cur.toArray 5 (0,0))∧cur.length = n∧True:=by
    rcases hown1.2 with ⟨h0,_⟩ | ⟨g,cap,cur,h0,_,hh,_,_,hsz2,_⟩
    · cases h0
    · simp only [Value.slice.injEq,Option.some.injEq,Addr.mk.injEq,and_true,true_and] at h0
      obtain ⟨h0,h1⟩:=h0
      subst h0 h1
      exact ⟨cur.toList,by simpa using hh,by simpa using hsz2,trivial⟩
  have HC:=ar hcur
  clear hown1 hg1 hcur hct
  go_enter Tryz.func298,Tryz.ntmps298
  go_wp2_with (with_reducible refine wpList_copy_splice rfl (.tmp 7) (.tmp 8) 48 48 rfl 5 Tryz.underlying48 hsz (some ⟨w.heap.size,0,none⟩) A n n n c rfl rfl w.heap.size 0 cur 5 HC.out (u8s bs) (by rw [dn,HL.out];exact (Nat.min_self n).symm) ?c1 (by rw [dn,HL.out];omega) (ff _) w.heap.size w HB1.out (Nat.le_refl _) ?c2)
  case c1=>
    intro hp
    rw [dn,HL.out] at hp
    obtain ⟨b,off,hA,_,hat⟩:=HR1.out.2 hp
    exact ⟨⟨b,off,none⟩,hA,fun j v hv=>by rw [gf];exact hat j v hv⟩
  case c2=>
    intro w2 hh hb2
    have HB2:=ar hb2
    clear hb2
    go_wp2_with fail
    go_ret
    refine ⟨_,_,rfl,⟨by rw [dn,HL.out];omega,.inr ⟨w.heap.size,n,_,rfl,Nat.le_refl _,hh.out,Nat.le_refl _,by simp only [maxLen];omega,?_,?_⟩⟩,HB2.out⟩
    · simp [splice,dn,HL.out]
      omega
    · rw [splice]
      simp [dn,HL.out,List.drop_of_length_le,hcz]
      exact List.take_of_length_le (by rw [dn,HL.out];omega)
theorem r0 (l:List Int) (k:Nat):u8s (l.drop k) = (u8s l).drop k:=by simp [u8s]
theorem sa (l:List Int) (k:Nat):u8s (l.take k) = (u8s l).take k:=by simp [u8s]
theorem Reads.sub {w:World} {B n i m:Nat} {b off:Nat} {xs:List Value} (h:Reads w B 1 (some ⟨b,off,none⟩) n xs) (him:i + m ≤ n) (hm:0 < m):Reads w B 1 (some ⟨b,off + i,none⟩) m ((xs.drop i).take m):=by
  have hl:=h.1
  refine ⟨by rw [List.length_take,List.length_drop];omega,fun _=>?_⟩
  obtain ⟨b',off',e,hb,hc⟩:=h.2 (by omega)
  simp only [Option.some.injEq,Addr.mk.injEq,and_true] at e
  obtain ⟨rfl,rfl⟩:=e
  refine ⟨b,off + i,rfl,hb,fun j u hu=>?_⟩
  have hj:j < m:=by have:=(List.getElem?_eq_some_iff.1 hu).1;simp at this;omega
  rw [List.getElem?_take_of_lt hj,List.getElem?_drop] at hu
  rw [Nat.add_assoc]
  exact hc _ _ hu
theorem tq (base g:Nat) (bs:List Int) (a m:Nat) (w:World) (h:og w base g bs a 0) (hl:bs.length ≤ 100000) (hm:0 < m) (ham:a + m ≤ bs.length):
    Calls Tryz.prog 221 #[.pointer (some ⟨g,0,none⟩),.int .i64 m] w fun r w'=>∃ A' c',r = .returned (.slice A' m c')∧w'.ownsRow w.heap.size 5 1 (.slice A' m c') m (u8s ((bs.drop a).take m))∧og w' base g bs ((a + m:Nat):Int) 0∧Keeps (fun x=>x = g) w w':=by
  obtain ⟨hg,A,c,hb,hown⟩:=h
  obtain ⟨A',rfl⟩:∃ b,A = some ⟨b,0,none⟩:=by
    obtain ⟨g',e,_⟩:=gn hown (by omega)
    exact ⟨g',e⟩
  have hne:A' ≠ g:=fun e=>dJ hown hb (by decide) (by rw [e];rfl)
  have HOWN:=ar hown
  have HB:=ar hb
  have hcap:bs.length ≤ c:=by
    rcases hown.2 with ⟨h0,_⟩ | ⟨g',cap,cur,h0,_,_,h1,_⟩
    · cases h0
    · cases h0;exact h1
  have c0:w.cell? ⟨g,0,none⟩ = some (.slice (some ⟨A',0,none⟩) bs.length c):=hb.cell 0
  have c1:w.cell? ⟨g,1,none⟩ = some (.int .i64 a):=hb.cell 1
  have c2:w.cell? ⟨g,2,none⟩ = some (.int .i64 0):=hb.cell 2
  have f1:w.frozen? ⟨g,1,none⟩ = false:=hb.frozen 1
  clear hb hown
  go_enter Tryz.func221,Tryz.ntmps221
  go_wp2_with fail
  go_step3
  go_wp2_with fail
  go_quiet (fail)
  have HQ:=ar (lI (Below.refl w.heap.size w) nq)
  have e0:(w.drewN nq).cell? ⟨g,0,none⟩ = some (.slice (some ⟨A',0,none⟩) bs.length c):=c0
  have e1:(w.drewN nq).cell? ⟨g,1,none⟩ = some (.int .i64 a):=c1
  have e2:(w.drewN nq).cell? ⟨g,2,none⟩ = some (.int .i64 0):=c2
  have e3:(w.drewN nq).frozen? ⟨g,1,none⟩ = false:=f1
  have HB1:=ar (HB.out.drewN nq)
  have HO1:Hid ((w.drewN nq).ownsRow base 5 1 (.slice (some ⟨A',0,none⟩) bs.length c) bs.length (u8s bs)):=ar (cI HOWN.out (lI (Below.refl _ _) nq))
  have HK1:Hid (Keeps (fun x=>x = g) w (w.drewN nq)):=ar ((Keeps.refl _ w).drewN nq)
  have hsz:(w.drewN nq).heap.size = w.heap.size:=rfl
  have HSZ:=ar hsz
  clear c0 c1 c2 f1 hsz
  generalize w.drewN nq = W at e0 e1 e2 e3 HB1 HO1 HK1 HSZ ⊢
  go_upto_region 6 with (fail)
  obtain ⟨q,hq⟩:∃ q:Nat,a + m = q:=⟨_,rfl⟩
  have hqi:(a:Int) + (m:Int) = (q:Int):=by omega
  have HQM:=ar hq
  rw [hqi]
  clear hqi
  have HB2:=ar (HB1.out.set_ 1 (.int .i64 (q:Int)))
  have HK2:=ar (HK1.out.setCell (p:=⟨g,1,none⟩) (.inl rfl) (.int .i64 (q:Int)))
  have HK3:=ar ((Keeps.refl (fun x=>x = g) W).setCell (p:=⟨g,1,none⟩) (.inl rfl) (.int .i64 (q:Int)))
  have HO2:=ar (HK3.out.own HO1.out (fun x hx e=>by subst e;simp [Value.ownBlock] at hx;exact hne hx))
  have HB2':Hid (Blk (W.setCell ⟨g,1,none⟩ (.int .i64 (q:Int))) g 316 #[.slice (some ⟨A',0,none⟩) bs.length c,.int .i64 (q:Int),.int .i64 0]):=HB2
  have hsz:(W.setCell ⟨g,1,none⟩ (.int .i64 (q:Int))).heap.size = w.heap.size:=by have:=HSZ.out;simpa [World.setCell] using this
  have HSZ2:=ar hsz
  clear HB2 HK3 HB1 HO1 HK1 HSZ e0 e1 e2 e3 hsz
  generalize W.setCell ⟨g,1,none⟩ (.int .i64 (q:Int)) = W2 at HB2' HK2 HO2 HSZ2 ⊢
  have e0:W2.cell? ⟨g,0,none⟩ = some (.slice (some ⟨A',0,none⟩) bs.length c):=HB2'.out.cell 0
  have e1:W2.cell? ⟨g,1,none⟩ = some (.int .i64 (q:Int)):=HB2'.out.cell 1
  have hR:=(Reads.of_own HO2.out).sub (i:=a) (m:=m) ham hm
  have HR2:=ar hR
  clear hR
  have v1:IntKind.i64.wrap ((q:Int) - (m:Int)) = (a:Int):=by rw [IntWalk.i64_in _ (by omega)];omega
  have u0:(0:Int) ≤ (a:Int):=by omega
  have u1:(a:Int) ≤ (q:Int):=by omega
  have u2:(q:Int) ≤ (c:Int):=by omega
  have u3:(0:Int) ≤ (q:Int):=by omega
  have u4:¬ c = a:=by omega
  have u5:q - a = m:=by omega
  have u6:a ≤ q:=by omega
  have u7:q ≤ c:=by omega
  have u8:a < c:=by omega
  clear hq
  go_still_tail 15,(by kernel_rfl)
  clear v1 u0 u1 u2 u3 u4 u5 u6 u7 u8 e0 e1
  change wpList _ _ _ _ _ (World.drew W2)
  have hR3:Reads W2.drew W2.drew.heap.size 1 (some ⟨A',0 + a,none⟩) m (u8s ((bs.drop a).take m)):=by
    have:=HR2.out.drew
    rwa [← r0,← sa] at this
  rw [Nat.zero_add] at hR3
  have HR3:=ar hR3
  have HBd:=ar (HB2'.out.drew)
  have HOd:Hid (W2.drew.ownsRow base 5 1 (.slice (some ⟨A',0,none⟩) bs.length c) bs.length (u8s bs)):=ar (cI HO2.out (sx W2))
  have HKd:=ar HK2.out.drew
  have HSd:Hid (W2.drew.heap.size = w.heap.size):=HSZ2
  clear hR3 HB2' HO2 HK2 HSZ2 HR2
  generalize W2.drew = W3 at HR3 HBd HOd HKd HSd ⊢
  go_wp2_with fail
  refine (sC _ m _ ((bs.drop a).take m) _ (by omega) HR3.out).mono ?_
  rintro r w5 ⟨A5,c5,rfl,ho5,hb5⟩
  have HO5:=ar ho5
  have HB5:=ar hb5
  clear ho5 hb5
  go_wp2_with fail
  try rw [Exit.noGoto_ret]
  go_ret
  refine ⟨A5,c5,rfl,?_,⟨hg,_,c,?_,cI HOd.out HB5.out⟩,HKd.out.below HB5.out⟩
  · rw [← HSd.out]
    exact HO5.out
  · rw [HQM.out]
    exact HBd.out.below HB5.out HBd.out.lt
def eP (l:List Int):Int:=l.foldl (fun n c=>n * 256 + c) 0
theorem s8 (l:List Int) (c:Int):eP (l ++ [c]) = eP l * 256 + c:=by simp [eP]
theorem rh:∀ (l:List Int) (n p:Int),(∀ z ∈ l,0 ≤ z∧z < 256) → 0 ≤ n → n < p → 0 ≤ l.foldl (fun n c=>n * 256 + c) n∧l.foldl (fun n c=>n * 256 + c) n < p * 256 ^ l.length
  | [],n,p,_,h0,h1=>by simp;omega
  | c::l,n,p,h,h0,h1=>by
    obtain ⟨c0,c1⟩:=h c (by simp)
    have:=rh l (n * 256 + c) (p * 256) (fun z hz=>h z (by simp [hz])) (by omega) (by omega)
    rw [List.foldl_cons,List.length_cons,Int.pow_succ]
    rwa [Int.mul_assoc,Int.mul_comm 256] at this
theorem xB (l:List Int) (h:∀ z ∈ l,0 ≤ z∧z < 256):0 ≤ eP l∧eP l < 256 ^ l.length:=by
  have:=rh l 0 1 h (by omega) (by omega)
  rwa [Int.one_mul] at this
theorem pv (n:Int) (h₀:0 ≤ n) (h₁:n < 2 ^ 62):IntKind.i64.wrap n = n:=by rw [IntKind.wrap_i64];omega
theorem AB (n z:Int) (h0:0 ≤ n) (h1:n < 16777216) (h2:0 ≤ z) (h3:z < 256):bits .or .i64 (n * 256) z = n * 256 + z:=
  bits_join .i64 62 (by decide) pv 8 (n * 256) z (by omega) (by omega) (by omega) h2 (by omega) (by omega)
theorem rz (base g:Nat) (bs:List Int) (a:Nat) (v:Int) (w:World) (l:List Int) (hll:(bs.drop a).take (dq v) = l) (h:og w base g bs a 0) (hl:bs.length ≤ 100000) (hby:∀ z ∈ bs,0 ≤ z∧z < 256) (ham:a + dq v ≤ bs.length):
    Calls Tryz.prog 147 #[.pointer (some ⟨g,0,none⟩),.int .i64 v] w fun r w'=>r = .returned (.int .i64 (eP l))∧og w' base g bs ((a + dq v:Nat):Int) 0∧Keeps (fun x=>x = g) w w':=by
  have hW1:=ps v
  have hW2:=nY v
  obtain ⟨W,hW⟩:∃ W,dq v = W:=⟨_,rfl⟩
  have HW:=ar hW
  rw [hW] at hW1 hW2 ham hll ⊢
  have Hh:=ar h
  have HLL:=ar hll
  clear hW h hll
  go_enter Tryz.func147,Tryz.ntmps147
  go_wp2_with fail
  refine (sj v _).mono ?_
  rintro r w1 ⟨rfl,rfl⟩
  rw [HW.out]
  go_wp2_with fail
  refine (tq base g bs a W _ Hh.out hl (by omega) ham).mono ?_
  rintro r w2 ⟨A2,c2,rfl,ho,hR,hK⟩
  rw [HLL.out] at ho
  have HO:=ar (Reads.of_own ho)
  have HR:=ar hR
  have HK:=ar hK
  have HBY:=ar (show ∀ z ∈ l,0 ≤ z∧z < 256 from fun z hz=>by rw [← HLL.out] at hz;exact hby z (List.mem_of_mem_drop (List.mem_of_mem_take hz)))
  have HLN:=ar (show l.length = W by rw [← HLL.out,List.length_take,List.length_drop];omega)
  clear ho hR hK hby
  go_wp2_with fail
  go_loop [5,13] (fun n i=>∃ k:Nat,k ≤ W∧i = .int .i64 k∧n = .int .i64 (eP (l.take k))) (fun _ i=>W - (intOf i).toNat)
  case atStart=>exact ⟨0,Nat.zero_le _,rfl,rfl⟩
  case round=>
    obtain ⟨k,hk,rfl,rfl⟩:=hrel
    by_cases hlt:k < W
    · obtain ⟨b,off,z,rfl,hbb,hz,hat⟩:=HO.out.byte_at hlt
      obtain ⟨z0,z1⟩:=HBY.out z (List.mem_of_getElem? hz)
      obtain ⟨n0,n1⟩:=xB (l.take k) (fun z hz=>HBY.out z (List.mem_of_mem_take hz))
      have HS:=ar (show eP (l.take (k + 1)) = eP (l.take k) * 256 + z by rw [bp _ _ _ hz,s8])
      have n2:eP (l.take k) < 16777216:=by
        have hk3:(l.take k).length ≤ 3:=by rw [List.length_take];omega
        have:(256:Int) ^ (l.take k).length ≤ 256 ^ 3:=by
          have h:=Nat.pow_le_pow_right (n:=256) (by omega) hk3
          exact_mod_cast h
        omega
      generalize eP (l.take k) = N at n0 n1 n2 HS ⊢
      clear n1 hz
      have HO2:=ar (AB N z n0 n2 z0 z1)
      go_wp2_with fail
      go_round
      case rel=>exact ⟨k + 1,by omega,by go_num,by rw [HO2.out,HS.out]⟩
      case measure=>(simp [intOf] <;> omega)
    · have hkl:l.take k = l:=List.take_of_length_le (by rw [HLN.out];omega)
      rw [hkl]
      go_wp2
      go_ret
      exact ⟨rfl,HR.out,HK.out⟩
end
section
theorem kc (n:Int) (w:World) (h0:-4611686018427387904 ≤ n) (h1:n ≤ 4611686018427387904):Calls Tryz.prog 356 #[.int .i64 n] w fun r w'=>r = .returned (.int .i64 (n % 255))∧w' = w:=by
  obtain ⟨hb1,hb2,hb3⟩:-255 < n.tmod 255∧n.tmod 255 < 255∧(n.tmod 255 + 255) % 255 = n % 255:=by
    by_cases h:n < 0
    · obtain ⟨m,rfl⟩:∃ m:Nat,n = -(m:Int):=⟨(-n).toNat,by omega⟩
      rw [Int.neg_tmod,Int.tmod_eq_emod_of_nonneg (by omega)]
      omega
    · rw [Int.tmod_eq_emod_of_nonneg (by omega)];omega
  have H:=ar hb3
  clear hb3
  go_enter Tryz.func356,Tryz.ntmps356
  go_wp2
  go_ret
  exact ⟨uu H.out,rfl⟩
theorem AV (x y z:Nat) (h1:x + z < 2 ^ 53) (h2:y < 2 ^ 53) (w:World):(binOp .add 418 (.complex .f64 (fl x) (fl y)) (.complex .f64 (fl z) 0)).run Tryz.prog w = .ok (.complex .f64 (fl (x + z)) (fl y)) w:=
  run_complex_sum w .add (.inl rfl) _ .f64 _ _ _ _ _ _ (by
    have e:=pG y 0 (by omega)
    have e2:fl 0 = 0:=rfl
    rw [e2] at e
    unfold cSumBits
    rw [pG x z h1,e]
    rfl)
theorem AW (x y z:Nat) (h1:x < 2 ^ 53) (h2:y + z < 2 ^ 53) (w:World):(binOp .add 418 (.complex .f64 (fl x) (fl y)) (.complex .f64 0 (fl z))).run Tryz.prog w = .ok (.complex .f64 (fl x) (fl (y + z))) w:=
  run_complex_sum w .add (.inl rfl) _ .f64 _ _ _ _ _ _ (by
    have e:=pG x 0 (by omega)
    have e2:fl 0 = 0:=rfl
    rw [e2] at e
    unfold cSumBits
    rw [e,pG y z h2]
    rfl)
theorem mq (n:Nat) (hn:n < 2 ^ 53) (w:World):(convert 386 3 (.float .f64 (fl n))).run Tryz.prog w = .ok (.int .i64 n) w:=
  run_convert_float_int w _ _ .f64 .i64 _ _ (by kernel_rfl) Tryz.underlying3 (wX n hn)
def yd (s:Nat × Nat) (b:Int):Nat × Nat:=((s.1 + b.toNat) % 255,(s.2 + (s.1 + b.toNat)) % 255)
def ee (l:List Int):Nat × Nat:=l.foldl yd (0,0)
theorem wn (l:List Int) (b:Int):ee (l ++ [b]) = yd (ee l) b:=by simp [ee]
theorem uJ (l:List Int):(ee l).1 < 255∧(ee l).2 < 255:=by
  suffices ∀ (l:List Int) (s:Nat × Nat),s.1 < 255 → s.2 < 255 → (l.foldl yd s).1 < 255∧(l.foldl yd s).2 < 255 from this l (0,0) (by decide) (by decide)
  intro l
  induction l with
  | nil=>intro s h1 h2;exact ⟨h1,h2⟩
  | cons b l ih=>intro s h1 h2;exact ih _ (Nat.mod_lt _ (by omega)) (Nat.mod_lt _ (by omega))
set_option maxRecDepth 20000 in
set_option maxHeartbeats 4000000 in
theorem yf (A:Option Addr) (n c:Nat) (bs:List Int) (w:World) (hn:n ≤ 100000) (hr:Reads w w.heap.size 1 A n (u8s bs)) (hby:∀ z ∈ bs,0 ≤ z∧z < 256):
    Calls Tryz.prog 343 #[.slice A n c] w fun r w'=>r = .returned (.tuple #[.int .i64 (ee bs).1,.int .i64 (ee bs).2])∧w' = w:=by
  have HR:=ar hr
  have HBY:=ar hby
  have HL:=ar (show bs.length = n by have:=hr.1;simpa [u8s] using this)
  have hf0:fl 0 = 0:=rfl
  have HF0:=ar hf0
  clear hr hby hf0
  go_enter Tryz.func343,Tryz.ntmps343
  go_wp2_with fail
  go_loop [4,9] (fun v i=>∃ k:Nat,k ≤ n∧i = .int .i64 k∧v = .complex .f64 (fl (ee (bs.take k)).1) (fl (ee (bs.take k)).2)) (fun _ i=>n - (intOf i).toNat)
  case atStart=>exact ⟨0,Nat.zero_le _,rfl,rfl⟩
  case round=>
    obtain ⟨k,hk,rfl,rfl⟩:=hrel
    obtain ⟨l1,l2⟩:=uJ (bs.take k)
    by_cases hlt:k < n
    · obtain ⟨b,off,z,rfl,hbb,hz,hat⟩:=HR.out.byte_at hlt
      obtain ⟨z0,z1⟩:=HBY.out z (List.mem_of_getElem? hz)
      obtain ⟨q,rfl⟩:∃ q:Nat,z = q:=⟨z.toNat,by omega⟩
      have HS:=ar (show ee (bs.take (k + 1)) = yd (ee (bs.take k)) q by rw [bp _ _ _ hz,wn])
      generalize ee (bs.take k) = s at l1 l2 HS ⊢
      obtain ⟨x,y⟩:=s
      dsimp only at l1 l2 ⊢
      have h1:=wW q (by omega)
      have h2:=AV x y q (by omega) (by omega)
      have h3:=AW (x + q) y (x + q) (by omega) (by omega)
      have h4:=mq (x + q) (by omega)
      have h5:=mq (y + (x + q)) (by omega)
      have h6:floatOfInt .f64 (((x:Int) + (q:Int)) % 255) = fl ((x + q) % 255):=by
        have:=wW ((x + q) % 255) (by omega)
        rwa [show (((x + q) % 255:Nat):Int) = ((x:Int) + (q:Int)) % 255 by omega] at this
      have h7:floatOfInt .f64 (((y:Int) + ((x:Int) + (q:Int))) % 255) = fl ((y + (x + q)) % 255):=by
        have:=wW ((y + (x + q)) % 255) (by omega)
        rwa [show (((y + (x + q)) % 255:Nat):Int) = ((y:Int) + ((x:Int) + (q:Int))) % 255 by omega] at this
      clear hz
      go_wp2_with fail
      refine (kc _ _ (by omega) (by omega)).mono ?_
      rintro r w1 ⟨rfl,rfl⟩
      go_wp2_with fail
      refine (kc _ _ (by omega) (by omega)).mono ?_
      rintro r w1 ⟨rfl,rfl⟩
      go_wp2_with fail
      go_round
      case rel=>exact ⟨k + 1,by omega,by go_num,by rw [HS.out];rfl⟩
      case measure=>(simp [intOf] <;> omega)
    · have hkl:bs.take k = bs:=List.take_of_length_le (by rw [HL.out];omega)
      rw [hkl] at l1 l2 ⊢
      have HP:=ar (show (Value.tuple #[.int .i64 ((ee bs).1:Nat),.int .i64 ((ee bs).2:Nat)] = .tuple #[.int .i64 (ee bs).1,.int .i64 (ee bs).2]) from rfl)
      have h4:=mq (ee bs).1 (by omega)
      have h5:=mq (ee bs).2 (by omega)
      clear hkl
      go_wp2
      go_ret2
      exact ⟨rfl,rfl⟩
end
section
def fe (bs:List Int) (a:Nat) (x y:Int):List Int:=(bs.set a x).set (a + 1) y
theorem tK (bs:List Int) (a:Nat) (x y:Int):(fe bs a x y).length = bs.length:=by simp [fe]
theorem rZ (bs:List Int) (a:Nat) (x y:Int) (h:∀ z ∈ bs,0 ≤ z∧z < 256) (hx:0 ≤ x∧x < 256) (hy:0 ≤ y∧y < 256):∀ z ∈ fe bs a x y,0 ≤ z∧z < 256:=fun z hz=>by
  rcases List.mem_or_eq_of_mem_set hz with hz | rfl
  · rcases List.mem_or_eq_of_mem_set hz with hz | rfl
    · exact h z hz
    · exact hx
  · exact hy
def jm (bs:List Int) (a:Nat):List Int:=
  fe bs a ((((bs.length:Int) - a - 1) * (ee (fe bs a 0 0)).1 - (ee (fe bs a 0 0)).2) % 255) (((ee (fe bs a 0 0)).2 - ((bs.length:Int) - a) * (ee (fe bs a 0 0)).1) % 255)
theorem zn (bs:List Int) (a:Nat) (x y x' y':Int):fe (fe bs a x y) a x' y' = fe bs a x' y':=by
  unfold fe
  apply List.ext_getElem?
  intro i
  by_cases h1:i = a + 1
  · subst h1
    simp [List.getElem?_set]
  · by_cases h2:i = a
    · subst h2
      simp [List.getElem?_set]
    · simp [Ne.symm h1,Ne.symm h2]
theorem mE (bs:List Int) (a:Nat) (x:Int):(u8s bs).set a (.int .u8 x) = u8s (bs.set a x):=by simp [u8s]
set_option maxRecDepth 20000 in
set_option maxHeartbeats 4000000 in
theorem wU (A:Option Addr) (n c a:Nat) (bs:List Int) (w:World) (hn:n ≤ 100000) (ha:a + 2 ≤ n) (hr:Reads w w.heap.size 1 A n (u8s bs)) (hby:∀ z ∈ bs,0 ≤ z∧z < 256):
    Calls Tryz.prog 352 #[.slice A n c,.int .i64 a] w fun r w'=>∃ A' c',r = .returned (.tuple #[.slice A' n c',.bool true])∧w'.ownsRow w.heap.size 5 1 (.slice A' n c') n (u8s (jm bs a))∧Below w.heap.size w w':=by
  obtain ⟨i0,hi,hz0,hz1,hz2⟩:=info_parts kF
  have HR:=ar hr
  have HBY:=ar hby
  have HL:=ar (show bs.length = n by have:=hr.1;simpa [u8s] using this)
  clear hr hby
  go_enter Tryz.func352,Tryz.ntmps352
  go_upto_region 4 with (first
    | (at_builtin
       refine bn _ rfl (.const (.slice none 0 0)) (.tmp 19) 48 rfl w.heap.size 5 i0 _ 1 1 Tryz.underlying48 hi hz0 hz1 hz2 rfl (by omega) (.slice none 0 0) 0 [] rfl
         (World.ownsRow_nil _ _ _ _) w.heap.size A n c (u8s bs) rfl HR.out (ff _) (by simp only [maxLen];omega) (by omega) (by omega) ?_
       intro A3 c3 w3 hown3 hg3 hloc3
       have HB3:=ar ((Below.refl w.heap.size w).grown hg3 (Nat.le_refl _) (fun g hg=>by simp [Value.ownBlock] at hg))
       have HO3:Hid (w3.ownsRow w.heap.size 5 1 (.slice A3 n c3) n (u8s bs)):=ar (by simpa using hown3)
       clear hown3 hg3 hloc3))
  obtain ⟨g,hg,hgb,hgl⟩:=gn HO3.out (by omega)
  subst hg
  have HQ:=ar (show n ≤ c3 from by
    rcases HO3.out.2 with ⟨h0,_⟩ | ⟨g',cap,cur,h0,_,_,h1,_⟩
    · cases h0
    · cases h0;exact h1)
  obtain ⟨hs1,hk1⟩:=HO3.out.stored a (.int .u8 0)
  obtain ⟨hs2,hk2⟩:=hs1.stored (a + 1) (.int .u8 0)
  have HS2:Hid (((w3.setCell ⟨g,a,none⟩ (.int .u8 0)).setCell ⟨g,a + 1,none⟩ (.int .u8 0)).ownsRow w.heap.size 5 1 (.slice (some ⟨g,0,none⟩) n c3) n (u8s (fe bs a 0 0))):=ar (by rw [fe,← mE,← mE];exact hs2)
  have HB4:=ar ((HB3.out.setCell (p:=⟨g,a,none⟩) hgb (.int .u8 0)).setCell (p:=⟨g,a + 1,none⟩) hgb (.int .u8 0))
  have fr:∀ i,w3.frozen? ⟨g,i,none⟩ = false:=HO3.out.frozenAt
  have ce:∀ i,i < n → (w3.cell? ⟨g,i,none⟩).isSome = true:=fun i hi=>by
    obtain ⟨b,off,u,e,_,_,hc⟩:=(Reads.of_own HO3.out).at_ hi
    cases e
    rw [← Nat.zero_add i,hc]
    rfl
  obtain ⟨u0,hu0⟩:=Option.isSome_iff_exists.1 (ce a (by omega))
  obtain ⟨u1,hu1⟩:=Option.isSome_iff_exists.1 (ce (a + 1) (by omega))
  clear hs1 hs2 hk1 hk2 ce
  go_upto_region 5 with (fail)
  clear hu0 hu1 fr
  generalize (w3.setCell ⟨g,a,none⟩ (.int .u8 0)).setCell ⟨g,a + 1,none⟩ (.int .u8 0) = W4 at HS2 HB4 ⊢
  have HBZ:=ar (rZ bs a 0 0 HBY.out (by omega) (by omega))
  go_wp2_with fail
  refine (yf _ n c3 (fe bs a 0 0) _ hn ((Reads.of_own HS2.out)) HBZ.out).mono ?_
  rintro r w5 ⟨rfl,rfl⟩
  obtain ⟨l1,l2⟩:=uJ (fe bs a 0 0)
  have HF:=ar (show jm bs a = fe (fe bs a 0 0) a ((((n:Int) - a - 1) * (ee (fe bs a 0 0)).1 - (ee (fe bs a 0 0)).2) % 255) (((ee (fe bs a 0 0)).2 - ((n:Int) - a) * (ee (fe bs a 0 0)).1) % 255) by rw [zn,jm,HL.out])
  generalize fe bs a 0 0 = zs at HS2 HBZ HF l1 l2 ⊢
  generalize (ee zs).1 = x at HF l1 ⊢
  generalize (ee zs).2 = y at HF l2 ⊢
  have p1:0 ≤ ((n:Int) - a - 1) * (x:Int):=Int.mul_nonneg (by omega) (by omega)
  have p2:((n:Int) - a - 1) * (x:Int) ≤ 100000 * 255:=Int.mul_le_mul (by omega) (by omega) (by omega) (by omega)
  have p3:0 ≤ ((n:Int) - a) * (x:Int):=Int.mul_nonneg (by omega) (by omega)
  have p4:((n:Int) - a) * (x:Int) ≤ 100000 * 255:=Int.mul_le_mul (by omega) (by omega) (by omega) (by omega)
  go_wp2_with fail
  refine (kc _ _ (by omega) (by omega)).mono ?_
  rintro r w6 ⟨rfl,rfl⟩
  obtain ⟨v1,hv1⟩:∃ v,(((n:Int) - a - 1) * (x:Int) - y) % 255 = v:=⟨_,rfl⟩
  have b1:0 ≤ v1:=by omega
  have b2:v1 < 256:=by omega
  rw [hv1] at HF ⊢
  clear hv1
  go_wp2_with fail
  refine (kc _ _ (by omega) (by omega)).mono ?_
  rintro r w7 ⟨rfl,rfl⟩
  obtain ⟨v2,hv2⟩:∃ v,((y:Int) - ((n:Int) - a) * (x:Int)) % 255 = v:=⟨_,rfl⟩
  have b3:0 ≤ v2:=by omega
  have b4:v2 < 256:=by omega
  rw [hv2] at HF ⊢
  clear hv2 p1 p2 p3 p4
  obtain ⟨hs1,hk1⟩:=HS2.out.stored a (.int .u8 v1)
  obtain ⟨hs2,hk2⟩:=hs1.stored (a + 1) (.int .u8 v2)
  have HS3:Hid (((w7.setCell ⟨g,a,none⟩ (.int .u8 v1)).setCell ⟨g,a + 1,none⟩ (.int .u8 v2)).ownsRow w.heap.size 5 1 (.slice (some ⟨g,0,none⟩) n c3) n (u8s (jm bs a))):=ar (by rw [HF.out,fe,← mE,← mE];exact hs2)
  have HB5:=ar ((HB4.out.setCell (p:=⟨g,a,none⟩) hgb (.int .u8 v1)).setCell (p:=⟨g,a + 1,none⟩) hgb (.int .u8 v2))
  have fr:∀ i,w7.frozen? ⟨g,i,none⟩ = false:=HS2.out.frozenAt
  have ce:∀ i,i < n → (w7.cell? ⟨g,i,none⟩).isSome = true:=fun i hi=>by
    obtain ⟨b,off,u,e,_,_,hc⟩:=(Reads.of_own HS2.out).at_ hi
    cases e
    rw [← Nat.zero_add i,hc]
    rfl
  obtain ⟨u0,hu0⟩:=Option.isSome_iff_exists.1 (ce a (by omega))
  obtain ⟨u1,hu1⟩:=Option.isSome_iff_exists.1 (ce (a + 1) (by omega))
  clear hs1 hs2 hk1 hk2 ce
  go_wp2_with fail
  go_ret2
  exact ⟨_,_,rfl,HS3.out,HB5.out⟩
end
section
def jo (x:Lk):List Int:=aj 4 [x.id,x.data] ++ aj 1 [x.kind,0] ++ aj 2 [x.cost]
def fU (l:LV):List Int:=if l.hd.kind = 1 then aj 4 [(l.links.length:Int)] ++ l.links.flatMap jo else aj 4 l.mem
def uU (l:LV):List Int:=lT { l.hd with sum:=0,long:=20 + (fU l).length } ++ fU l
def ma (l:LV):List Int:=(uU l).take 2 ++ jm ((uU l).drop 2) 14
theorem pM (x:Lk):(jo x).length = 12:=by simp [jo,aK]
theorem gK:∀ (l:List Lk),(l.flatMap jo).length = 12 * l.length
  | []=>rfl
  | x::l=>by rw [List.flatMap_cons,List.length_append,pM,gK l,List.length_cons];omega
theorem j2 (l:LV) (h1:l.links.length ≤ 5000) (h2:l.mem.length ≤ 5000):(fU l).length ≤ 60004:=by
  unfold fU
  split
  · rw [List.length_append,aK,gK];simp;omega
  · rw [aK];omega
theorem l0 {w:World} {B n g:Nat} {xs:List Value} (h:Reads w B 1 (some ⟨g,0,none⟩) n xs):∀ j u,xs[j]? = some u → w.cell? ((⟨g,0,none⟩:Addr).add j) = some u:=by
  intro j u hu
  have hj:j < n:=by
    have h1:=h.1
    have h2:=(List.getElem?_eq_some_iff.1 hu).1
    omega
  obtain ⟨b,off,u',e,_,hx,hc⟩:=h.at_ hj
  cases e
  rw [hx] at hu
  cases hu
  rw [Addr.add_lit]
  exact hc
theorem cR {a b:List Int} (ha:∀ z ∈ a,0 ≤ z∧z < 256) (hb:∀ z ∈ b,0 ≤ z∧z < 256):∀ z ∈ a ++ b,0 ≤ z∧z < 256:=fun z hz=>(List.mem_append.1 hz).elim (ha z) (hb z)
theorem kO (l:LV):∀ z ∈ uU l,0 ≤ z∧z < 256:=by
  refine cR (cR (cR (cR (dv _ _) (dv _ _)) (dv _ _)) (dv _ _)) ?_
  unfold fU
  split
  · refine cR (dv _ _) (fun z hz=>?_)
    obtain ⟨x,_,hx⟩:=List.mem_flatMap.1 hz
    exact cR (cR (dv _ _) (dv _ _)) (dv _ _) z hx
  · exact dv _ _
set_option maxRecDepth 20000 in
set_option maxHeartbeats 1000000 in
theorem uZ (l:LV) (p:LP) (w:World) (h1:l.links.length ≤ 5000) (h2:l.mem.length ≤ 5000) (hok:LOK w l p):
    Calls Tryz.prog 324 #[.agg (jI l p)] w fun r w'=>∃ v,r = .returned v∧Byts w.heap.size (ma l) v w'∧Below w.heap.size w w':=by
  obtain ⟨i0,hi,hz0,hz1,hz2⟩:=info_parts kF
  have HL:=ar hok.links
  have HM:=ar hok.mem
  clear hok
  obtain ⟨⟨age,kind,id,adv,seq,sum,long⟩,links,mem⟩:=l
  obtain ⟨A,c,B,d⟩:=p
  dsimp only at HL HM h1 h2
  go_enter Tryz.func324,Tryz.ntmps324
  go_upto_region 2 with (fail)
  have hb0:=Blk.new w 66 (jI ⟨⟨age,kind,id,adv,seq,sum,long⟩,links,mem⟩ ⟨A,c,B,d⟩)
  have hB0:=aC w (.cells (jI ⟨⟨age,kind,id,adv,seq,sum,long⟩,links,mem⟩ ⟨A,c,B,d⟩) 66)
  generalize w.alloc (.cells (jI ⟨⟨age,kind,id,adv,seq,sum,long⟩,links,mem⟩ ⟨A,c,B,d⟩) 66) = W at hb0 hB0 ⊢
  have c0:=hb0.cell 0
  have c1:=hb0.cell 1
  have c2:=hb0.cell 2
  have c3:=hb0.cell 3
  have c4:=hb0.cell 4
  have c5:=hb0.cell 5
  have c6:=hb0.cell 6
  have c7:=hb0.cell 7
  have c8:=hb0.cell 8
  have HB:=ar hb0
  have HW:=ar hB0
  clear hb0 hB0
  go_upto_if 13 with (fail)
  generalize hkb:(kind == 1) = kb
  have HK:=ar hkb
  clear hkb
  go_cut [3] (fun v wc=>Hid (Byts w.heap.size (fU ⟨⟨age,kind,id,adv,seq,sum,long⟩,links,mem⟩) v wc)∧Hid (Below W.heap.size W wc))
  case first=>
    cases kb with
    | true=>
      go_upto_region 4 with (go_at_call 184;refine (bP w.heap.size 4 4 [] [(links.length:Int)] _ _ _ (by rfl) (by have:=HW.out.size;simp;omega) (Rd.nil _ _) (Nums.new1 W _ _) (by simp) (by simp)).mono ?_;rintro r W3 ⟨v3,rfl,hv3,hb3⟩)
      have hb3':=(aC W (.cells #[.int .i64 (links.length:Int)] 3)).trans (hb3.mono (by simp))
      have hL3:Reads W3 w.heap.size 4 A links.length (ab Lk.cells links):=HL.out.below (HW.out.trans (hb3'.mono HW.out.size))
      have hV3:=ar hv3
      have HB3:=ar hb3'
      have HL3:=ar hL3
      have c70:=(HB.out.below hb3' HB.out.lt).cell 7
      clear hb3 hb3' hL3 hv3 c0 c1 c2 c3 c4 c5 c6 c7 c8
      go_wp2_with fail
      go_loopw [3,22] (fun v i wr=>∃ (k:Nat) (u:Value),k ≤ links.length∧i = .int .i64 k∧v = u∧Hid (Byts w.heap.size (aj 4 [(links.length:Int)] ++ (links.take k).flatMap jo) u wr)∧Hid (Below W3.heap.size W3 wr)) (fun _ i _=>links.length - (intOf i).toNat)
      case atStart=>exact ⟨0,_,Nat.zero_le _,rfl,rfl,ar (by simpa using hV3.out),ar (Below.refl _ _)⟩
      case round=>
        obtain ⟨k,vv,hk,rfl,hve,hv,hb⟩:=hrel
        rw [hve]
        clear hve
        by_cases hlt:k < links.length
        · obtain ⟨b,off,x,hA,hbb,hx,hat0⟩:=HL3.out.row_at Lk.cells 4 Lk.cells_len (by omega) hlt
          subst hA
          have HX:=ar hx
          obtain ⟨lkind,lid,data,cost⟩:=x
          have d0:wr.cell? ⟨b,off + k * 4,none⟩ = some (.int .i64 lkind):=aA (hat0 0 _ rfl) hb.out
          have d1:wr.cell? ⟨b,off + k * 4 + 1,none⟩ = some (.int .i64 lid):=aA (hat0 1 _ rfl) hb.out
          have d2:wr.cell? ⟨b,off + k * 4 + 2,none⟩ = some (.int .i64 data):=aA (hat0 2 _ rfl) hb.out
          have d3:wr.cell? ⟨b,off + k * 4 + 3,none⟩ = some (.int .i64 cost):=aA (hat0 3 _ rfl) hb.out
          clear hat0 hx
          go_upto_region 7 with (fail)
          clear d0 d1 d2 d3
          have hbl:=Blk.new wr 230 (Lk.arr ⟨lkind,lid,data,cost⟩)
          have hBl:=aC wr (.cells (Lk.arr ⟨lkind,lid,data,cost⟩) 230)
          have hvl:=hv.out.keep hBl
          generalize wr.alloc (.cells (Lk.arr ⟨lkind,lid,data,cost⟩) 230) = wl at hbl hBl hvl ⊢
          have hpl:(aj 4 [(links.length:Int)] ++ (links.take k).flatMap jo).length ≤ 60004:=by
            rw [List.length_append,aK,gK,List.length_take];simp;omega
          obtain ⟨pre,hpre⟩:∃ pre,aj 4 [(links.length:Int)] ++ (links.take k).flatMap jo = pre:=⟨_,rfl⟩
          rw [hpre] at hvl hpl
          have HPRE:=ar hpre
          clear hpre
          refine lp (fun i v w'=>match i with
            | 0=>Byts (w.heap.size) (pre) v w'
            | 1=>v = .pointer (some ⟨wr.heap.size,1,none⟩)
            | 2=>v = .int .i64 lid
            | 3=>v = .pointer (some ⟨wr.heap.size,2,none⟩)
            | 4=>v = .int .i64 data
            | 5=>Nums [lid,data] v w'
            | 6=>Byts wl.heap.size (pre ++ aj 4 [lid,data]) v w'
            | 7=>v = .pointer (some ⟨wr.heap.size,0,none⟩)
            | 8=>v = .int .i64 lkind
            | 9=>Nums [lkind,0] v w'
            | 10=>Byts wl.heap.size (pre ++ aj 4 [lid,data] ++ aj 1 [lkind,0]) v w'
            | 11=>v = .pointer (some ⟨wr.heap.size,3,none⟩)
            | 12=>v = .int .i64 cost
            | 13=>Nums [cost] v w'
            | 14=>Byts wl.heap.size (pre ++ aj 4 [lid,data] ++ aj 1 [lkind,0] ++ aj 2 [cost]) v w'
            | _=>Byts (wl.heap.size) (pre ++ aj 4 [lid,data] ++ aj 1 [lkind,0] ++ aj 2 [cost]) v w')
            (by kernel_rfl) (by kernel_rfl) (by kernel_rfl) (by kernel_rfl) ?_ ⟨?_,?_,?_,?_,?_,?_,?_,?_,?_,?_,?_,?_,?_,?_,?_,?_,trivial⟩ ?_
          · intro i v w1 w2 hb hF
            match i,hF with
            | 0,h=>exact Byts.keep h hb
            | 1,h=>exact h
            | 2,h=>exact h
            | 3,h=>exact h
            | 4,h=>exact h
            | 5,h=>exact Nums.keep h hb
            | 6,h=>exact Byts.keep h hb
            | 7,h=>exact h
            | 8,h=>exact h
            | 9,h=>exact Nums.keep h hb
            | 10,h=>exact Byts.keep h hb
            | 11,h=>exact h
            | 12,h=>exact h
            | 13,h=>exact Nums.keep h hb
            | 14,h=>exact Byts.keep h hb
            | _ + 15,h=>exact Byts.keep h hb
          · intro a w1 hat
            have h1:a.tmps.getD 3 undef = vv:=hat.base 3 (by kernel_rfl)
            (have h11:=h1;rw [Array.getD_eq_getD_getElem?] at h11)
            rw [if_pos (by rfl)]
            go_simp
            exact ⟨_,rfl,Below.refl _ _,hvl.keep hat.since⟩
          · intro a w1 hat
            have h1:a.tmps.getD 5 undef = .pointer (some ⟨wr.heap.size,0,none⟩):=hat.base 5 (by kernel_rfl)
            (rw [if_pos (by rfl)];go_simp;exact Below.refl _ _)
          · intro a w1 hat
            have h1:a.tmps.getD 27 undef = .pointer (some ⟨wr.heap.size,1,none⟩):=hat.dep 1 27 (by kernel_rfl) (by kernel_rfl)
            have hc:=aA (hbl.cell 1) hat.since
            (rw [if_pos (by rfl)];go_simp;exact Below.refl _ _)
          · intro a w1 hat
            have h1:a.tmps.getD 5 undef = .pointer (some ⟨wr.heap.size,0,none⟩):=hat.base 5 (by kernel_rfl)
            (rw [if_pos (by rfl)];go_simp;exact Below.refl _ _)
          · intro a w1 hat
            have h1:a.tmps.getD 29 undef = .pointer (some ⟨wr.heap.size,2,none⟩):=hat.dep 3 29 (by kernel_rfl) (by kernel_rfl)
            have hc:=aA (hbl.cell 2) hat.since
            (rw [if_pos (by rfl)];go_simp;exact Below.refl _ _)
          · intro a w1 hat
            have h00:a.tmps.getD 28 undef = .int .i64 lid:=hat.dep 2 28 (by kernel_rfl) (by kernel_rfl)
            (have h01:=h00;rw [Array.getD_eq_getD_getElem?] at h01)
            have h10:a.tmps.getD 30 undef = .int .i64 data:=hat.dep 4 30 (by kernel_rfl) (by kernel_rfl)
            (have h11:=h10;rw [Array.getD_eq_getD_getElem?] at h11)
            rw [if_pos (by rfl)]
            go_simp
            exact ⟨_,rfl,aC _ _,Nums.new2 _ _ _ _⟩
          · intro a w1 hat
            have hx:Byts (w.heap.size) (pre) (a.tmps.getD 26 undef) w1:=hat.dep 0 26 (by kernel_rfl) (by kernel_rfl)
            have hy:Nums [lid,data] (a.tmps.getD 31 undef) w1:=hat.dep 5 31 (by kernel_rfl) (by kernel_rfl)
            generalize h10:a.tmps.getD 26 undef = x at hx
            (have h11:=h10;rw [Array.getD_eq_getD_getElem?] at h11)
            generalize h20:a.tmps.getD 31 undef = y at hy
            (have h21:=h20;rw [Array.getD_eq_getD_getElem?] at h21)
            rw [if_pos (by rfl)]
            go_simp
            refine (bP wl.heap.size 4 4 (pre) [lid,data] _ _ w1 (by rfl) hat.since.size hx.rd hy (by ((try simp only [List.length_append,aK,List.length_cons,List.length_nil]);omega)) (by simp)).mono ?_
            rintro r w3 ⟨u,rfl,hu,hb⟩
            exact ⟨u,rfl,hb,by first | exact hu | simpa only [List.append_assoc] using hu⟩
          · intro a w1 hat
            have h1:a.tmps.getD 5 undef = .pointer (some ⟨wr.heap.size,0,none⟩):=hat.base 5 (by kernel_rfl)
            (rw [if_pos (by rfl)];go_simp;exact Below.refl _ _)
          · intro a w1 hat
            have h1:a.tmps.getD 33 undef = .pointer (some ⟨wr.heap.size,0,none⟩):=hat.dep 7 33 (by kernel_rfl) (by kernel_rfl)
            have hc:=aA (hbl.cell 0) hat.since
            (rw [if_pos (by rfl)];go_simp;exact Below.refl _ _)
          · intro a w1 hat
            have h00:a.tmps.getD 34 undef = .int .i64 lkind:=hat.dep 8 34 (by kernel_rfl) (by kernel_rfl)
            (have h01:=h00;rw [Array.getD_eq_getD_getElem?] at h01)
            rw [if_pos (by rfl)]
            go_simp
            exact ⟨_,rfl,aC _ _,Nums.new2 _ _ _ _⟩
          · intro a w1 hat
            have hx:Byts (wl.heap.size) (pre ++ aj 4 [lid,data]) (a.tmps.getD 32 undef) w1:=hat.dep 6 32 (by kernel_rfl) (by kernel_rfl)
            have hy:Nums [lkind,0] (a.tmps.getD 35 undef) w1:=hat.dep 9 35 (by kernel_rfl) (by kernel_rfl)
            generalize h10:a.tmps.getD 32 undef = x at hx
            (have h11:=h10;rw [Array.getD_eq_getD_getElem?] at h11)
            generalize h20:a.tmps.getD 35 undef = y at hy
            (have h21:=h20;rw [Array.getD_eq_getD_getElem?] at h21)
            rw [if_pos (by rfl)]
            go_simp
            refine (bP wl.heap.size 1 1 (pre ++ aj 4 [lid,data]) [lkind,0] _ _ w1 (by rfl) hat.since.size hx.rd hy (by ((try simp only [List.length_append,aK,List.length_cons,List.length_nil]);omega)) (by simp)).mono ?_
            rintro r w3 ⟨u,rfl,hu,hb⟩
            exact ⟨u,rfl,hb,by first | exact hu | simpa only [List.append_assoc] using hu⟩
          · intro a w1 hat
            have h1:a.tmps.getD 5 undef = .pointer (some ⟨wr.heap.size,0,none⟩):=hat.base 5 (by kernel_rfl)
            (rw [if_pos (by rfl)];go_simp;exact Below.refl _ _)
          · intro a w1 hat
            have h1:a.tmps.getD 37 undef = .pointer (some ⟨wr.heap.size,3,none⟩):=hat.dep 11 37 (by kernel_rfl) (by kernel_rfl)
            have hc:=aA (hbl.cell 3) hat.since
            (rw [if_pos (by rfl)];go_simp;exact Below.refl _ _)
          · intro a w1 hat
            have h00:a.tmps.getD 38 undef = .int .i64 cost:=hat.dep 12 38 (by kernel_rfl) (by kernel_rfl)
            (have h01:=h00;rw [Array.getD_eq_getD_getElem?] at h01)
            rw [if_pos (by rfl)]
            go_simp
            exact ⟨_,rfl,aC _ _,Nums.new1 _ _ _⟩
          · intro a w1 hat
            have hx:Byts (wl.heap.size) (pre ++ aj 4 [lid,data] ++ aj 1 [lkind,0]) (a.tmps.getD 36 undef) w1:=hat.dep 10 36 (by kernel_rfl) (by kernel_rfl)
            have hy:Nums [cost] (a.tmps.getD 39 undef) w1:=hat.dep 13 39 (by kernel_rfl) (by kernel_rfl)
            generalize h10:a.tmps.getD 36 undef = x at hx
            (have h11:=h10;rw [Array.getD_eq_getD_getElem?] at h11)
            generalize h20:a.tmps.getD 39 undef = y at hy
            (have h21:=h20;rw [Array.getD_eq_getD_getElem?] at h21)
            rw [if_pos (by rfl)]
            go_simp
            refine (bP wl.heap.size 2 2 (pre ++ aj 4 [lid,data] ++ aj 1 [lkind,0]) [cost] _ _ w1 (by rfl) hat.since.size hx.rd hy (by ((try simp only [List.length_append,aK,List.length_cons,List.length_nil]);omega)) (by simp)).mono ?_
            rintro r w3 ⟨u,rfl,hu,hb⟩
            exact ⟨u,rfl,hb,by first | exact hu | simpa only [List.append_assoc] using hu⟩
          · intro a w1 hat
            have h1:Byts (wl.heap.size) (pre ++ aj 4 [lid,data] ++ aj 1 [lkind,0] ++ aj 2 [cost]) (a.tmps.getD 40 undef) w1:=hat.dep 14 40 (by kernel_rfl) (by kernel_rfl)
            generalize h10:a.tmps.getD 40 undef = x at h1
            (have h11:=h10;rw [Array.getD_eq_getD_getElem?] at h11)
            rw [if_pos (by rfl)]
            go_simp
            exact ⟨_,rfl,Below.refl _ _,by first | exact h1 | simpa only [List.append_assoc] using h1⟩
          intro vs wx hwx hF
          have hv0:Byts (w.heap.size) (pre) (vs 0) wx:=hF 0 (by decide)
          have hv1:vs 1 = .pointer (some ⟨wr.heap.size,1,none⟩):=hF 1 (by decide)
          have hv2:vs 2 = .int .i64 lid:=hF 2 (by decide)
          have hv3:vs 3 = .pointer (some ⟨wr.heap.size,2,none⟩):=hF 3 (by decide)
          have hv4:vs 4 = .int .i64 data:=hF 4 (by decide)
          have hv5:Nums [lid,data] (vs 5) wx:=hF 5 (by decide)
          have hv6:Byts wl.heap.size (pre ++ aj 4 [lid,data]) (vs 6) wx:=hF 6 (by decide)
          have hv7:vs 7 = .pointer (some ⟨wr.heap.size,0,none⟩):=hF 7 (by decide)
          have hv8:vs 8 = .int .i64 lkind:=hF 8 (by decide)
          have hv9:Nums [lkind,0] (vs 9) wx:=hF 9 (by decide)
          have hv10:Byts wl.heap.size (pre ++ aj 4 [lid,data] ++ aj 1 [lkind,0]) (vs 10) wx:=hF 10 (by decide)
          have hv11:vs 11 = .pointer (some ⟨wr.heap.size,3,none⟩):=hF 11 (by decide)
          have hv12:vs 12 = .int .i64 cost:=hF 12 (by decide)
          have hv13:Nums [cost] (vs 13) wx:=hF 13 (by decide)
          have hv14:Byts wl.heap.size (pre ++ aj 4 [lid,data] ++ aj 1 [lkind,0] ++ aj 2 [cost]) (vs 14) wx:=hF 14 (by decide)
          have hv15:Byts (wl.heap.size) (pre ++ aj 4 [lid,data] ++ aj 1 [lkind,0] ++ aj 2 [cost]) (vs 15) wx:=hF 15 (by decide)
          simp only [ba,Act.put,List.setIfInBounds_toArray,List.set_cons_zero,List.set_cons_succ,Nat.zero_add,Nat.reduceAdd]
          generalize vs 0 = v0 at hv0 ⊢
          generalize vs 1 = v1 at hv1 ⊢
          generalize vs 2 = v2 at hv2 ⊢
          generalize vs 3 = v3 at hv3 ⊢
          generalize vs 4 = v4 at hv4 ⊢
          generalize vs 5 = v5 at hv5 ⊢
          generalize vs 6 = v6 at hv6 ⊢
          generalize vs 7 = v7 at hv7 ⊢
          generalize vs 8 = v8 at hv8 ⊢
          generalize vs 9 = v9 at hv9 ⊢
          generalize vs 10 = v10 at hv10 ⊢
          generalize vs 11 = v11 at hv11 ⊢
          generalize vs 12 = v12 at hv12 ⊢
          generalize vs 13 = v13 at hv13 ⊢
          generalize vs 14 = v14 at hv14 ⊢
          generalize vs 15 = v15 at hv15 ⊢
          subst hv1
          subst hv2
          subst hv3
          subst hv4
          subst hv7
          subst hv8
          subst hv11
          subst hv12
          clear hF
          have hz:w.heap.size ≤ wl.heap.size:=Nat.le_trans HW.out.size (Nat.le_trans HB3.out.size (Nat.le_trans hb.out.size hBl.size))
          have HN:=ar (show Byts w.heap.size (aj 4 [(links.length:Int)] ++ (links.take (k + 1)).flatMap jo) v15 wx by
            have e:aj 4 [(links.length:Int)] ++ (links.take (k + 1)).flatMap jo = pre ++ aj 4 [lid,data] ++ aj 1 [lkind,0] ++ aj 2 [cost]:=by
              rw [bp _ _ _ HX.out,List.flatMap_append,← List.append_assoc,HPRE.out]
              simp only [List.flatMap_cons,List.flatMap_nil,jo,List.append_nil,List.append_assoc]
            rw [e]
            exact hv15.mono hz)
          have HNB:=ar (show Below W3.heap.size W3 wx from cr (cr hb.out hBl) hwx)
          go_wp2
          go_roundw
          case rel=>exact ⟨k + 1,_,by omega,by go_num,rfl,HN,HNB⟩
          case measure=>(simp [intOf] <;> omega)
        · have hkl:links.take k = links:=List.take_of_length_le (by omega)
          rw [hkl] at hv
          have HK1:=ar (show kind = 1 from eq_of_beq HK.out)
          go_wp2
          go_meet
          refine ⟨ar ?_,ar ?_⟩
          · rw [fU,if_pos HK1.out]
            exact hv.out
          · exact cr HB3.out hb.out
    | false=>
      have hk:kind ≠ 1:=fun e=>by have:=HK.out;rw [e] at this;cases this
      have hM:Nums mem (.slice B mem.length d) W:=⟨B,d,rfl,(HM.out.below HW.out).more HW.out.size⟩
      go_wp2_with (go_at_call 184;refine (bP w.heap.size 4 4 [] mem _ _ W (by rfl) HW.out.size (Rd.nil _ _) hM (by simp) (by omega)).mono ?_;rintro r W3 ⟨v3,rfl,hv3,hb3⟩)
      go_meet
      refine ⟨ar ?_,ar hb3⟩
      rw [fU,if_neg hk]
      exact hv3
  case rest=>
  obtain ⟨hv,hb⟩:=hcut
  have hbl0:=j2 ⟨⟨age,kind,id,adv,seq,sum,long⟩,links,mem⟩ h1 h2
  have HBB:=ar (show uU ⟨⟨age,kind,id,adv,seq,sum,long⟩,links,mem⟩ = lT ⟨age,kind,id,adv,seq,0,20 + (fU ⟨⟨age,kind,id,adv,seq,sum,long⟩,links,mem⟩).length⟩ ++ fU ⟨⟨age,kind,id,adv,seq,sum,long⟩,links,mem⟩ from rfl)
  generalize fU ⟨⟨age,kind,id,adv,seq,sum,long⟩,links,mem⟩ = body at hv hbl0 HBB
  obtain ⟨A9,c9,hv3,ho3⟩:=hv.out
  subst hv3
  have hbw:=HB.out.below hb.out HB.out.lt
  have e0:=hbw.cell 0
  have e1:=hbw.cell 1
  have e2:=hbw.cell 2
  have e3:=hbw.cell 3
  have e4:=hbw.cell 4
  have e5:=hbw.cell 5
  have e6:=hbw.cell 6
  clear c0 c1 c2 c3 c4 c5 c6 c7 c8
  have HO3:=ar ho3
  clear ho3 hbw
  go_upto_region 11 with (fail)
  have hbh:=Blk.new wc 63 (HD.arr ⟨age,kind,id,adv,seq,sum,long⟩)
  have hBh:=aC wc (.cells (HD.arr ⟨age,kind,id,adv,seq,sum,long⟩) 63)
  generalize wc.alloc (.cells (HD.arr ⟨age,kind,id,adv,seq,sum,long⟩) 63) = wh at hbh hBh ⊢
  have hlen:IntKind.i64.wrap (20 + (body.length:Int)) = 20 + (body.length:Int):=pv _ (by omega) (by omega)
  have f5:=hbh.cell 5
  have f6:=hbh.cell 6
  have fr:=hbh.frozen
  clear e0 e1 e2 e3 e4 e5 e6
  go_upto_region 12 with (fail)
  have hbs:Blk ((wh.setCell ⟨wc.heap.size,5,none⟩ (.int .i64 0)).setCell ⟨wc.heap.size,6,none⟩ (.int .i64 (20 + (body.length:Int)))) wc.heap.size 63 (HD.arr ⟨age,kind,id,adv,seq,0,20 + body.length⟩):=(hbh.set_ 5 _).set_ 6 _
  have hBs:=(hBh.setCell (p:=⟨wc.heap.size,5,none⟩) (Nat.le_refl _) (.int .i64 0)).setCell (p:=⟨wc.heap.size,6,none⟩) (Nat.le_refl _) (.int .i64 (20 + (body.length:Int)))
  generalize (wh.setCell ⟨wc.heap.size,5,none⟩ (.int .i64 0)).setCell ⟨wc.heap.size,6,none⟩ (.int .i64 (20 + (body.length:Int))) = ws at hbs hBs ⊢
  clear f5 f6 fr hbh hBh
  have e0:=hbs.cell 0
  have e1:=hbs.cell 1
  have e2:=hbs.cell 2
  have e3:=hbs.cell 3
  have e4:=hbs.cell 4
  have e5:=hbs.cell 5
  have e6:=hbs.cell 6
  have hput:=rv ⟨age,kind,id,adv,seq,0,20 + body.length⟩ ws
  have hhl:(lT ⟨age,kind,id,adv,seq,0,20 + body.length⟩).length = 20:=by simp [lT,aK]
  generalize lT ⟨age,kind,id,adv,seq,0,20 + body.length⟩ = hd at hput hhl HBB
  have HBS:=ar hBs
  have HP:=ar hput
  clear hput hBs hbs
  go_upto_region 13 with (first
    | (at_builtin
       refine bn _ rfl (.tmp 53) (.tmp 54) 48 rfl ws.heap.size 5 i0 _ 1 1 Tryz.underlying48 hi hz0 hz1 hz2 rfl (by omega) (.slice A5 20 c5) 20 (u8s hd) rfl ho5
         w5.heap.size A9 body.length c9 (u8s body) rfl hr9 (ff _) (by simp only [maxLen];omega) (by omega) hb5.size ?_
       intro A6 c6 w6 ho6 hg6 hl6
       have HB6:=ar (hb5.grown hg6 hb5.size (fun g hg=>(df ho5 hg).1))
       have HO6:=ar ho6
       clear ho6 hg6 hl6)
    | (go_at_call 304;refine HP.out.mono ?_;rintro r w5 ⟨v5,rfl,⟨A5,c5,rfl,ho5⟩,hb5⟩;rw [hhl] at ho5 ⊢;have hbw5:=HBS.out.trans (hb5.mono HBS.out.size);have hr9:=((Reads.of_own HO3.out).below hbw5).more hbw5.size))
  clear e0 e1 e2 e3 e4 e5 e6
  obtain ⟨g6,hg6,hgb6,hgl6⟩:=gn HO6.out (by omega)
  subst hg6
  have hq6:20 + body.length ≤ c6:=by
    rcases HO6.out.2 with ⟨h0,_⟩ | ⟨g',cap,cur,h0,_,_,h1,_⟩
    · cases h0
    · cases h0;exact h1
  have HBY:=ar (kO ⟨⟨age,kind,id,adv,seq,sum,long⟩,links,mem⟩)
  have hll:(hd ++ body).length = 20 + body.length:=by rw [List.length_append,hhl]
  have HO6':=ar (show w6.ownsRow ws.heap.size 5 1 (.slice (some ⟨g6,0,none⟩) (20 + body.length) c6) (20 + body.length) (u8s (hd ++ body)) by rw [hN];exact HO6.out)
  clear HO6
  rw [HBB.out] at HBY
  have HSB:=ar (show ma ⟨⟨age,kind,id,adv,seq,sum,long⟩,links,mem⟩ = (hd ++ body).take 2 ++ jm ((hd ++ body).drop 2) 14 by rw [ma,HBB.out])
  clear HBB
  generalize hd ++ body = al at HBY HO6' HSB hll
  have HLL:=ar hll
  have hr6:=Reads.of_own HO6'.out
  have HR2:=ar (show Reads w6 w6.heap.size 1 (some ⟨g6,2,none⟩) (18 + body.length) (u8s (al.drop 2)) by
    have:=hr6.sub (i:=2) (m:=18 + body.length) (by omega) (by omega)
    rw [Nat.zero_add] at this
    have e:((u8s al).drop 2).take (18 + body.length) = u8s (al.drop 2):=by
      rw [List.take_of_length_le (by rw [List.length_drop];simp only [u8s,List.length_map];omega)]
      simp only [u8s,List.map_drop]
    rw [e] at this
    exact this)
  have HR1:=ar (show Reads w6 w6.heap.size 1 (some ⟨g6,0,none⟩) 2 (u8s (al.take 2)) by
    have:=hr6.take (k:=2) (by omega)
    have e:(u8s al).take (2 * 1) = u8s (al.take 2):=by simp only [u8s,List.map_take]
    rw [e] at this
    exact this)
  clear hr6 hll HO6'
  obtain ⟨m,hm⟩:∃ m,m = 18 + body.length:=⟨_,rfl⟩
  have hn6:20 + body.length = m + 2:=by omega
  rw [hn6] at hq6 ⊢
  obtain ⟨k6,rfl⟩:∃ k,c6 = k + 2:=⟨c6 - 2,by omega⟩
  have z1:(2:Int) ≤ ((m + 2:Nat):Int):=by omega
  have z2:((m + 2:Nat):Int) ≤ ((k6 + 2:Nat):Int):=by omega
  go_upto_region 14 with (go_at_call 352;refine (wU (some ⟨g6,2,none⟩) (18 + body.length) k6 14 (al.drop 2) w6 (by omega) (by omega) HR2.out (fun z hz=>HBY.out z (List.mem_of_mem_drop hz))).mono ?_;rintro r w7 ⟨A7,c7,rfl,ho7,hb7⟩)
  have HO7:=ar ho7
  have HB7:=ar hb7
  obtain ⟨g7,hg7,hgb7,hgl7⟩:=gn ho7 (by omega)
  subst hg7
  clear ho7 hb7
  have hr1:=((HR1.out.below HB7.out).more HB7.out.size)
  have hr7:=Reads.of_own HO7.out
  go_wp2_with (
    at_builtin
    refine wpList_append_grows _ rfl (.tmp 63) (.tmp 64) 48 rfl 5 i0 _ 1 1 Tryz.underlying48 hi hz0 hz1 hz2 rfl (by omega) (some ⟨g6,0,none⟩) 2 2 (u8s (al.take 2)) rfl (fun e=>nomatch e) hr1.1
      (fun b e=>by cases e;exact l0 hr1) ⟨g7,0,none⟩ (18 + body.length) c7 (u8s (jm (al.drop 2) 14)) rfl hr7.1 (l0 hr7) (ff _) (by omega) (by simp only [maxLen];omega) (by omega) ?_
    intro v8 w8 ho8 hg8)
  obtain ⟨A8,c8,hv8⟩:=nr ho8
  subst hv8
  go_ret
  have hb8:Below w7.heap.size w7 w8:=(Below.refl w7.heap.size w7).grown hg8 (Nat.le_refl _) (fun k hk=>nomatch hk)
  have hA:=cr (cr (cr (cr (cr HW.out hb.out) HBS.out) HB6.out) HB7.out) hb8
  refine ⟨.slice A8 (2 + (18 + body.length)) c8,rfl,?_,hA⟩
  have hlen8:(ma ⟨⟨age,kind,id,adv,seq,sum,long⟩,links,mem⟩).length = 2 + (18 + body.length):=by
    have h1:=HO7.out.1
    rw [HSB.out,List.length_append,List.length_take,HLL.out]
    simp only [u8s,List.length_map] at h1
    rw [h1];omega
  rw [HSB.out] at hlen8 ⊢
  refine ⟨A8,c8,by rw [hlen8],?_⟩
  rw [hlen8,hN]
  exact dh ho8 (Nat.le_trans HW.out.size (Nat.le_trans hb.out.size (Nat.le_trans HBS.out.size (Nat.le_trans HB6.out.size HB7.out.size))))
end
section
theorem vr:(Tryz.prog.info? 230).map (fun i=>(i.zero,i.size,i.bytes)) = some (some (.agg #[.int .i64 0,.int .i64 0,.int .i64 0,.int .i64 0]),4,32):=by kernel_rfl
theorem xm:(Tryz.prog.info? 3).map (fun i=>(i.zero,i.size,i.bytes)) = some (some (.int .i64 0),1,8):=by kernel_rfl
theorem vu (l:List Lk):∀ u ∈ ab Lk.cells l,u.oneCell' = true:=fun u hu=>by
  obtain ⟨x,_,h⟩:=List.mem_flatMap.1 hu
  exact Lk.cells_one x u h
theorem xo (l:List Int):∀ u ∈ aw l,u.oneCell' = true:=fun u hu=>by
  obtain ⟨x,_,h⟩:=List.mem_map.1 hu
  subst h
  rfl
set_option maxHeartbeats 2000000 in
theorem mO (A:Option Addr) (n c:Nat) (zs:List Int) (w:World) (hn:n ≤ 100000) (hr:Reads w w.heap.size 1 A n (aw zs)):
    Calls Tryz.prog 189 #[.slice A n c] w fun r w'=>∃ A' c',r = .returned (.slice A' n c')∧w'.ownsRow w.heap.size 3 1 (.slice A' n c') n (aw zs)∧Below w.heap.size w w':=by
  have hnc:A = none → n = 0:=fun h=>hr.nil_none h
  have hq:∀ w:World,(binOp .eql 44 (.slice A n c) (.slice none 0 0)).run Tryz.prog w = .ok (.bool A.isNone) w:=fun w=>Lib.run_eql_slice_nil w 44 3 A n c 0 0 Tryz.underlying44
  obtain ⟨i0,hi,hz0,hz1,hz2⟩:=info_parts xm
  have hown:=World.ownsRow_made (e:=3) (size:=1) w #[] 0 (Nat.le_refl _) (Nat.zero_le _) rfl
  go_enter Tryz.func189,Tryz.ntmps189
  cases A with
  | none=>
    obtain rfl:=hnc rfl
    have hbs:=ar (show aw zs = [] from List.eq_nil_of_length_eq_zero (by have:=hr.1;omega))
    go_wp2
    go_ret
    exact ⟨none,0,rfl,by rw [hbs.out];exact World.ownsRow_nil _ _ _ _,Below.refl _ _⟩
  | some A=>
    go_wp2_with (first
      | (at_builtin
         refine bn _ rfl (.tmp 5) (.tmp 6) 44 rfl w.heap.size 3 i0 _ 1 8 Tryz.underlying44 hi hz0 hz1 hz2 rfl (by omega) (.slice (some ⟨w.heap.size,0,none⟩) 0 0) 0 [] rfl
           hown w.heap.size (some A) n c (aw zs) rfl (hr.alloc (Nat.le_refl _) _) (xo zs) (by simp only [maxLen];omega) (by omega) (by simp) ?_
         intro A3 c3 w3 hown3 hg3 hloc3))
    have hb3:Below w.heap.size w w3:=((Below.refl _ _).alloc (Nat.le_refl _) _).grown hg3 (by simp) (fun g hg=>(df hown hg).1)
    go_wp2
    go_ret
    exact ⟨A3,c3,rfl,by simpa using hown3,hb3⟩
set_option maxHeartbeats 2000000 in
theorem mP (A:Option Addr) (n c:Nat) (zs:List Lk) (w:World) (hn:n ≤ 100000) (hr:Reads w w.heap.size 4 A n (ab Lk.cells zs)):
    Calls Tryz.prog 188 #[.slice A n c] w fun r w'=>∃ A' c',r = .returned (.slice A' n c')∧w'.ownsRow w.heap.size 230 4 (.slice A' n c') n (ab Lk.cells zs)∧Below w.heap.size w w':=by
  have hnc:A = none → n = 0:=fun h=>by
    by_cases h0:n = 0
    · exact h0
    · obtain ⟨b,off,e,_⟩:=hr.2 (by omega)
      rw [h] at e;cases e
  have hq:∀ w:World,(binOp .eql 64 (.slice A n c) (.slice none 0 0)).run Tryz.prog w = .ok (.bool A.isNone) w:=fun w=>Lib.run_eql_slice_nil w 64 230 A n c 0 0 Tryz.underlying64
  obtain ⟨i0,hi,hz0,hz1,hz2⟩:=info_parts vr
  have hown:=World.ownsRow_made (e:=230) (size:=4) w #[] 0 (Nat.le_refl _) (Nat.zero_le _) rfl
  go_enter Tryz.func188,Tryz.ntmps188
  cases A with
  | none=>
    obtain rfl:=hnc rfl
    have hbs:=ar (show ab Lk.cells zs = [] from List.eq_nil_of_length_eq_zero (by have:=hr.1;omega))
    go_wp2
    go_ret
    exact ⟨none,0,rfl,by rw [hbs.out];exact World.ownsRow_nil _ _ _ _,Below.refl _ _⟩
  | some A=>
    go_wp2_with (first
      | (at_builtin
         refine bn _ rfl (.tmp 5) (.tmp 6) 64 rfl w.heap.size 230 i0 _ 4 32 Tryz.underlying64 hi hz0 hz1 hz2 rfl (by omega) (.slice (some ⟨w.heap.size,0,none⟩) 0 0) 0 [] rfl
           hown w.heap.size (some A) n c (ab Lk.cells zs) rfl (hr.alloc (Nat.le_refl _) _) (vu zs) (by simp only [maxLen];omega) (by omega) (by simp) ?_
         intro A3 c3 w3 hown3 hg3 hloc3))
    have hb3:Below w.heap.size w w3:=((Below.refl _ _).alloc (Nat.le_refl _) _).grown hg3 (by simp) (fun g hg=>(df hown hg).1)
    go_wp2
    go_ret
    exact ⟨A3,c3,rfl,by simpa using hown3,hb3⟩
end
section
def OwnL (B:Nat) (l:List Lk) (v:Value) (w:World):Prop:=∃ A c,v = .slice A l.length c∧w.ownsRow B 230 4 (.slice A l.length c) l.length (ab Lk.cells l)
def OwnI (B:Nat) (l:List Int) (v:Value) (w:World):Prop:=∃ A c,v = .slice A l.length c∧w.ownsRow B 3 1 (.slice A l.length c) l.length (aw l)
theorem OwnL.keep {B:Nat} {l:List Lk} {v:Value} {w w':World} (h:OwnL B l v w) (hb:Below w.heap.size w w'):OwnL B l v w':=by
  obtain ⟨A,c,e,hr⟩:=h
  exact ⟨A,c,e,cI hr hb⟩
theorem OwnI.keep {B:Nat} {l:List Int} {v:Value} {w w':World} (h:OwnI B l v w) (hb:Below w.heap.size w w'):OwnI B l v w':=by
  obtain ⟨A,c,e,hr⟩:=h
  exact ⟨A,c,e,cI hr hb⟩
def OwnD (B:Nat) (l:LV) (v:Value) (w:World):Prop:=∃ x y,v = .agg (l.hd.arr ++ #[x,y])∧OwnL B l.links x w∧OwnI B l.mem y w
theorem OwnD.keep {B:Nat} {l:LV} {v:Value} {w w':World} (h:OwnD B l v w) (hb:Below w.heap.size w w'):OwnD B l v w':=by
  obtain ⟨x,y,e,hx,hy⟩:=h
  exact ⟨x,y,e,hx.keep hb,hy.keep hb⟩
def OwnB (B:Nat) (t:TypeId) (cs:Array Value) (v:Value) (w:World):Prop:=∃ g,v = .pointer (some ⟨g,0,none⟩)∧B ≤ g∧Blk w g t cs
theorem OwnB.keep {B:Nat} {t:TypeId} {cs:Array Value} {v:Value} {w w':World} (h:OwnB B t cs v w) (hb:Below w.heap.size w w'):OwnB B t cs v w':=by
  obtain ⟨g,e,hg,hk⟩:=h
  exact ⟨g,e,hg,hk.below hb hk.lt⟩
abbrev lsa0:Array Value:=#[.int .i64 0,.int .i64 0,.int .i64 0,.int .i64 0,.int .i64 0,.int .i64 0,.int .i64 0,.slice none 0 0,.slice none 0 0]
theorem mi {P:Program} {ops:Array Oper} {rest:List Oper} {o:Oper} {a:Act} {w:World} {Q:Exit → Act → World → Prop} (hgd:o.guard = none) (ty:TypeId) (x y:Operand) (ho:o.op = .store ty x y)
    (g:Nat) (cells:Array Value) (n:Nat) (hx:a.eval x = .pointer (some ⟨g,0,none⟩)) (hy:a.eval y = .agg cells)
    (t:TypeId) (old:Array Value) (hg:Blk w g t old) (hi:(P.info? ty).map (·.size) = some n)
    (hs:old.size = n∧cells.size = n∧cells.all (·.oneCell') = true)
    (h:wpList P ops Q rest (a.put o.dst undef) (w.setRow g cells)):wpList P ops Q (o::rest) a w:=
  wpList_store_row hgd ty x y ho g cells hx hy t old hg (by rw [hs.2.1];exact hi) (by rw [hs.1,hs.2.1]) hs.2.2 h
theorem pJ (h:HD):(lT h).length = 20:=by simp [lT,aK]
theorem qp (l:LV):(uU l).length = 20 + (fU l).length:=by rw [uU,List.length_append,pJ]
theorem pF (bs:List Int) (a:Nat):(jm bs a).length = bs.length:=tK _ _ _ _
theorem sN (bs:List Int) (a:Nat) (h:∀ z ∈ bs,0 ≤ z∧z < 256):∀ z ∈ jm bs a,0 ≤ z∧z < 256:=by
  unfold jm
  exact rZ _ _ _ _ h (by omega) (by omega)
theorem qY (l:LV):(ma l).length = 20 + (fU l).length:=by
  rw [ma,List.length_append,pF,List.length_take,List.length_drop,qp];omega
theorem vx (l:LV):∀ z ∈ ma l,0 ≤ z∧z < 256:=
  cR (fun z hz=>kO l z (List.mem_of_mem_take hz)) (sN _ _ (fun z hz=>kO l z (List.mem_of_mem_drop hz)))
theorem y5 {w:World} {base:Nat} {e:TypeId} {size n c g o:Nat} {xs:List Value} (h:w.ownsRow base e size (.slice (some ⟨g,o,none⟩) n c) n xs):∃ k,c = k + n∧o = 0:=by
  rcases h.2 with ⟨h0,_⟩ | ⟨g',cap,cur,h0,_,_,h1,_⟩
  · cases h0
  · cases h0
    exact ⟨c - n,by omega,rfl⟩
def bE (l:LV):LV:=if eY l then { l with hd:={ l.hd with sum:=eP (((ma l).drop 16).take 2),long:=eP (((ma l).drop 18).take 2) } } else l
theorem Blk.setRow_ {w:World} {g:Nat} {t:TypeId} {cs:Array Value} (h:Blk w g t cs) (cs':Array Value):Blk (w.setRow g cs') g t cs':=setRow_heap w g cs cs' t (0,0) h
theorem uY {w0 w:World} {B g:Nat} (h:Below B w0 w) (hg:B ≤ g) (cs:Array Value):Below B w0 (w.setRow g cs):=below_setRow h hg cs
theorem Keeps.row {F:Nat → Prop} {a w:World} (h:Keeps F a w) {g:Nat} (hg:F g ∨ a.heap.size ≤ g) (cs:Array Value):Keeps F a (w.setRow g cs):=
  ⟨h.os,h.tape,h.output,by have:=h.size;simpa [World.setRow] using this,fun i hi hF=>by
    rw [setRow_other w g i cs (fun e=>by subst e;rcases hg with hg | hg;exact hF hg;omega)]
    exact h.block i hi hF⟩
structure LOwn (w:World) (B:Nat) (l:LV) (p:LP):Prop where
  links:w.ownsRow B 230 4 (.slice p.A l.links.length p.c) l.links.length (ab Lk.cells l.links)
  mem:w.ownsRow B 3 1 (.slice p.B l.mem.length p.d) l.mem.length (aw l.mem)
set_option maxRecDepth 20000 in
set_option maxHeartbeats 4000000 in
theorem xU (l:LV) (p:LP) (w:World) (h1:l.links.length ≤ 5000) (h2:l.mem.length ≤ 5000) (hok:LOK w l p):
    Calls Tryz.prog 286 #[.agg (jI l p)] w fun r w'=>∃ p':LP,r = .returned (.agg (jI (bE l) p'))∧LOwn w' w.heap.size (bE l) p'∧Below w.heap.size w w':=by
  have HL:=ar hok.links
  have HM:=ar hok.mem
  clear hok
  obtain ⟨⟨age,kind,id,adv,seq,sum,long⟩,links,mem⟩:=l
  obtain ⟨A,c,B,d⟩:=p
  dsimp only at HL HM h1 h2
  go_enter Tryz.func286,Tryz.ntmps286
  go_upto_region 1 with (fail)
  have hb0:=(Blk.new w 66 (jI ⟨⟨age,kind,id,adv,seq,sum,long⟩,links,mem⟩ ⟨A,c,B,d⟩)).alloc (.cells lsa0 66)
  have HWS:=ar (show ((w.alloc (.cells (jI ⟨⟨age,kind,id,adv,seq,sum,long⟩,links,mem⟩ ⟨A,c,B,d⟩) 66)).alloc (.cells lsa0 66)).heap.size = w.heap.size + 2 by simp)
  have hr0:=Blk.new (w.alloc (.cells (jI ⟨⟨age,kind,id,adv,seq,sum,long⟩,links,mem⟩ ⟨A,c,B,d⟩) 66)) 66 lsa0
  rw [show (w.alloc (.cells (jI ⟨⟨age,kind,id,adv,seq,sum,long⟩,links,mem⟩ ⟨A,c,B,d⟩) 66)).heap.size = w.heap.size + 1 by simp] at hr0
  have hB0:=cr (aC w (.cells (jI ⟨⟨age,kind,id,adv,seq,sum,long⟩,links,mem⟩ ⟨A,c,B,d⟩) 66)) (aC _ (.cells lsa0 66))
  generalize (w.alloc (.cells (jI ⟨⟨age,kind,id,adv,seq,sum,long⟩,links,mem⟩ ⟨A,c,B,d⟩) 66)).alloc (.cells lsa0 66) = W at hb0 hB0 HWS hr0 ⊢
  refine nG (l:=[_,_,_,_,_,_,_,_,_,_]) (o:=_) (fun i v w'=>match i with
    | 0=>v = .pointer (some ⟨w.heap.size,0,none⟩)
    | 1=>v = .agg (HD.arr ⟨age,kind,id,adv,seq,sum,long⟩)
    | 2=>v = .pointer (some ⟨w.heap.size,7,none⟩)
    | 3=>v = .slice A links.length c
    | 4=>OwnL W.heap.size links v w'
    | 5=>v = .pointer (some ⟨w.heap.size,8,none⟩)
    | 6=>v = .slice B mem.length d
    | 7=>OwnI W.heap.size mem v w'
    | 8=>OwnD W.heap.size ⟨⟨age,kind,id,adv,seq,sum,long⟩,links,mem⟩ v w'
    | _=>OwnB W.heap.size 66 lsa0 v w')
    (by kernel_rfl) (by kernel_rfl) (by kernel_rfl) (by kernel_rfl) (by kernel_rfl) ?_ ⟨?_,?_,?_,?_,?_,?_,?_,?_,?_,?_,trivial⟩ ?_
  · intro i v w1 w2 hb hF
    match i,hF with
    | 0,h=>exact h
    | 1,h=>exact h
    | 2,h=>exact h
    | 3,h=>exact h
    | 4,h=>exact OwnL.keep h hb
    | 5,h=>exact h
    | 6,h=>exact h
    | 7,h=>exact OwnI.keep h hb
    | 8,h=>exact OwnD.keep h hb
    | _ + 9,h=>exact OwnB.keep h hb
  · intro a w1 hat
    have h1:a.tmps.getD 1 undef = .pointer (some ⟨w.heap.size,0,none⟩):=hat.base 1 (by kernel_rfl)
    (rw [if_pos (by rfl)];go_simp;exact Below.refl _ _)
  · intro a w1 hat
    have h1:a.tmps.getD 5 undef = .pointer (some ⟨w.heap.size,0,none⟩):=hat.dep 0 5 (by kernel_rfl) (by kernel_rfl)
    have c0:=aA (hb0.cell 0) hat.since
    have c1:=aA (hb0.cell 1) hat.since
    have c2:=aA (hb0.cell 2) hat.since
    have c3:=aA (hb0.cell 3) hat.since
    have c4:=aA (hb0.cell 4) hat.since
    have c5:=aA (hb0.cell 5) hat.since
    have c6:=aA (hb0.cell 6) hat.since
    (rw [if_pos (by rfl)];go_simp;exact Below.refl _ _)
  · intro a w1 hat
    have h1:a.tmps.getD 1 undef = .pointer (some ⟨w.heap.size,0,none⟩):=hat.base 1 (by kernel_rfl)
    (rw [if_pos (by rfl)];go_simp;exact Below.refl _ _)
  · intro a w1 hat
    have h1:a.tmps.getD 7 undef = .pointer (some ⟨w.heap.size,7,none⟩):=hat.dep 2 7 (by kernel_rfl) (by kernel_rfl)
    have hc:=aA (hb0.cell 7) hat.since
    (rw [if_pos (by rfl)];go_simp;exact Below.refl _ _)
  · intro a w1 hat
    have h1:a.tmps.getD 8 undef = .slice A links.length c:=hat.dep 3 8 (by kernel_rfl) (by kernel_rfl)
    (have h11:=h1;rw [Array.getD_eq_getD_getElem?] at h11)
    have hbw:=cr hB0 hat.since
    rw [if_pos (by rfl)]
    go_simp
    refine (mP _ _ _ _ w1 (by omega) ((HL.out.below hbw).more hbw.size)).mono ?_
    rintro r w3 ⟨A3,c3,rfl,ho,hb⟩
    exact ⟨_,rfl,hb,A3,c3,rfl,dh ho hat.since.size⟩
  · intro a w1 hat
    have h1:a.tmps.getD 1 undef = .pointer (some ⟨w.heap.size,0,none⟩):=hat.base 1 (by kernel_rfl)
    (rw [if_pos (by rfl)];go_simp;exact Below.refl _ _)
  · intro a w1 hat
    have h1:a.tmps.getD 10 undef = .pointer (some ⟨w.heap.size,8,none⟩):=hat.dep 5 10 (by kernel_rfl) (by kernel_rfl)
    have hc:=aA (hb0.cell 8) hat.since
    (rw [if_pos (by rfl)];go_simp;exact Below.refl _ _)
  · intro a w1 hat
    have h1:a.tmps.getD 11 undef = .slice B mem.length d:=hat.dep 6 11 (by kernel_rfl) (by kernel_rfl)
    (have h11:=h1;rw [Array.getD_eq_getD_getElem?] at h11)
    have hbw:=cr hB0 hat.since
    rw [if_pos (by rfl)]
    go_simp
    refine (mO _ _ _ _ w1 (by omega) ((HM.out.below hbw).more hbw.size)).mono ?_
    rintro r w3 ⟨A3,c3,rfl,ho,hb⟩
    exact ⟨_,rfl,hb,A3,c3,rfl,dh ho hat.since.size⟩
  · intro a w1 hat
    have h1:a.tmps.getD 6 undef = .agg (HD.arr ⟨age,kind,id,adv,seq,sum,long⟩):=hat.dep 1 6 (by kernel_rfl) (by kernel_rfl)
    have h2:OwnL W.heap.size links (a.tmps.getD 9 undef) w1:=hat.dep 4 9 (by kernel_rfl) (by kernel_rfl)
    have h3:OwnI W.heap.size mem (a.tmps.getD 12 undef) w1:=hat.dep 7 12 (by kernel_rfl) (by kernel_rfl)
    obtain ⟨A2,c2,e2,ho2⟩:=h2
    obtain ⟨A3,c3,e3,ho3⟩:=h3
    (have h11:=h1;rw [Array.getD_eq_getD_getElem?] at h11)
    (have e21:=e2;rw [Array.getD_eq_getD_getElem?] at e21)
    (have e31:=e3;rw [Array.getD_eq_getD_getElem?] at e31)
    rw [if_pos (by rfl)]
    go_simp
    exact ⟨_,rfl,Below.refl _ _,_,_,rfl,⟨A2,c2,rfl,ho2⟩,⟨A3,c3,rfl,ho3⟩⟩
  · intro a w1 hat
    rw [if_pos (by rfl)]
    go_simp
    exact ⟨_,rfl,aC _ _,w1.heap.size,rfl,hat.since.size,Blk.new _ _ _⟩
  intro vs W1 hW1 hF
  have hv8:OwnD W.heap.size ⟨⟨age,kind,id,adv,seq,sum,long⟩,links,mem⟩ (vs 8) W1:=hF 8 (by decide)
  have hv9:OwnB W.heap.size 66 lsa0 (vs 9) W1:=hF 9 (by decide)
  rw [if_pos (by rfl)]
  simp only [ba,Act.put,List.setIfInBounds_toArray,List.set_cons_zero,List.set_cons_succ,Nat.zero_add,Nat.reduceAdd]
  have hv0:vs 0 = .pointer (some ⟨w.heap.size,0,none⟩):=hF 0 (by decide)
  clear hF
  obtain ⟨x,y,e8,hx,hy⟩:=hv8
  obtain ⟨g,e9,hg,hk⟩:=hv9
  obtain ⟨A2,c2,ex,hoL⟩:=hx
  obtain ⟨A3,c3,ey,hoM⟩:=hy
  subst ex ey
  have HL1:=ar hoL
  have HM1:=ar hoM
  clear hoL hoM
  dsimp only at HL1 HM1 e8
  have hi:(Tryz.prog.info? 66).map (·.size) = some 9:=by kernel_rfl
  refine wp_store_row 66 (.tmp 3) (.tmp 13) rfl g #[.int .i64 age,.int .i64 kind,.int .i64 id,.int .i64 adv,.int .i64 seq,.int .i64 sum,.int .i64 long,.slice A2 links.length c2,.slice A3 mem.length c3] e9 e8 66 lsa0 hk hi rfl (by simp [Value.oneCell']) ?_
  have hB1:=cr hB0 hW1
  have hgw:w.heap.size + 2 ≤ g:=by
    have:=HWS.out
    omega
  have HB2:=ar (uY hB1 (by omega:w.heap.size ≤ g) #[.int .i64 age,.int .i64 kind,.int .i64 id,.int .i64 adv,.int .i64 seq,.int .i64 sum,.int .i64 long,.slice A2 links.length c2,.slice A3 mem.length c3])
  have hk2:=hk.setRow_ #[.int .i64 age,.int .i64 kind,.int .i64 id,.int .i64 adv,.int .i64 seq,.int .i64 sum,.int .i64 long,.slice A2 links.length c2,.slice A3 mem.length c3]
  have hKr:=(Keeps.refl (fun x=>x = g) W1).row (.inl rfl) #[.int .i64 age,.int .i64 kind,.int .i64 id,.int .i64 adv,.int .i64 seq,.int .i64 sum,.int .i64 long,.slice A2 links.length c2,.slice A3 mem.length c3]
  have HK2:=ar hk2
  have HL2:=ar (hKr.own HL1.out (fun x hx e=>dJ HL1.out hk (by decide) (by rw [hx,e])))
  have HM2:=ar (hKr.own HM1.out (fun x hx e=>dJ HM1.out hk (by decide) (by rw [hx,e])))
  have HA2:=ar (hKr.blk (hb0.below hW1 hb0.lt) (by omega))
  have HR2:=ar (hKr.blk (hr0.below hW1 hr0.lt) (by omega))
  clear hk2 hKr hk hi e8 HL1 HM1
  generalize W1.setRow g #[.int .i64 age,.int .i64 kind,.int .i64 id,.int .i64 adv,.int .i64 seq,.int .i64 sum,.int .i64 long,.slice A2 links.length c2,.slice A3 mem.length c3] = W2 at HB2 HK2 HL2 HM2 HA2 HR2 ⊢
  generalize vs 1 = v1
  generalize vs 2 = v2
  generalize vs 3 = v3
  generalize vs 4 = v4
  generalize vs 5 = v5
  generalize vs 6 = v6
  generalize vs 7 = v7
  generalize vs 8 = v8
  rw [e9,hv0]
  have HZ:=ar (show bE ⟨⟨age,kind,id,adv,seq,sum,long⟩,links,mem⟩ = if eY ⟨⟨age,kind,id,adv,seq,sum,long⟩,links,mem⟩ then ⟨⟨age,kind,id,adv,seq,eP (((ma ⟨⟨age,kind,id,adv,seq,sum,long⟩,links,mem⟩).drop 16).take 2),eP (((ma ⟨⟨age,kind,id,adv,seq,sum,long⟩,links,mem⟩).drop 18).take 2)⟩,links,mem⟩ else ⟨⟨age,kind,id,adv,seq,sum,long⟩,links,mem⟩ by rfl)
  have HOK2:=ar (show LOK W2 ⟨⟨age,kind,id,adv,seq,sum,long⟩,links,mem⟩ ⟨A,c,B,d⟩ from ⟨(HL.out.below HB2.out).more HB2.out.size,(HM.out.below HB2.out).more HB2.out.size⟩)
  have HGW:=ar hgw
  have HWW:=ar hg
  clear hB0 hb0 hW1 hv0 e9 hg hB1 hr0
  have c0:=HA2.out.cell 0
  have c1:=HA2.out.cell 1
  have c2':=HA2.out.cell 2
  have c3':=HA2.out.cell 3
  have c4:=HA2.out.cell 4
  have c5:=HA2.out.cell 5
  have c6:=HA2.out.cell 6
  have c7:=HA2.out.cell 7
  have c8:=HA2.out.cell 8
  have hright:=oX ⟨⟨age,kind,id,adv,seq,sum,long⟩,links,mem⟩ ⟨A,c,B,d⟩ W2 (by omega:links.length ≤ 100000) (by omega:mem.length ≤ 100000) HOK2.out
  dsimp only [jI] at hright
  generalize eY ⟨⟨age,kind,id,adv,seq,sum,long⟩,links,mem⟩ = rb at HZ hright
  have HRC:=ar hright
  clear hright
  go_upto_if 15 with (go_at_call 285;refine HRC.out.mono ?_;rintro r W3 ⟨rfl,hb3⟩)
  have HB3:=ar hb3
  clear hb3 c0 c1 c2' c3' c4 c5 c6 c7 c8
  have HOK3:=ar (HOK2.out.below HB3.out)
  have HBW3:=ar (cr HB2.out HB3.out)
  have HK3:=ar (HK2.out.below HB3.out HK2.out.lt)
  have HR3:=ar (HR2.out.below HB3.out HR2.out.lt)
  have HL3:=ar (cI HL2.out HB3.out)
  have HM3:=ar (cI HM2.out HB3.out)
  have HA3:=ar (HA2.out.below HB3.out HA2.out.lt)
  clear HOK2 HB2 HK2 HR2 HL2 HM2 HA2 HB3 HRC
  go_cut [] (fun wc=>∃ h':HD,Hid (bE ⟨⟨age,kind,id,adv,seq,sum,long⟩,links,mem⟩ = ⟨h',links,mem⟩)∧Hid (Below w.heap.size w wc)∧Hid (Blk wc g 66 (h'.arr ++ #[.slice A2 links.length c2,.slice A3 mem.length c3]))∧Hid (Blk wc (w.heap.size + 1) 66 lsa0)∧Hid (wc.ownsRow W.heap.size 230 4 (.slice A2 links.length c2) links.length (ab Lk.cells links))∧Hid (wc.ownsRow W.heap.size 3 1 (.slice A3 mem.length c3) mem.length (aw mem)))
  case first=>
    cases rb with
    | false=>
      go_wp2_with fail
      go_meet
      exact ⟨⟨age,kind,id,adv,seq,sum,long⟩,HZ,HBW3,HK3,HR3,HL3,HM3⟩
    | true=>
      have c0:=HA3.out.cell 0
      have c1:=HA3.out.cell 1
      have c2':=HA3.out.cell 2
      have c3':=HA3.out.cell 3
      have c4:=HA3.out.cell 4
      have c5:=HA3.out.cell 5
      have c6:=HA3.out.cell 6
      have c7:=HA3.out.cell 7
      have c8:=HA3.out.cell 8
      have hbytes:=uZ ⟨⟨age,kind,id,adv,seq,sum,long⟩,links,mem⟩ ⟨A,c,B,d⟩ W3 h1 h2 HOK3.out
      dsimp only [jI] at hbytes
      have hlen:=qY ⟨⟨age,kind,id,adv,seq,sum,long⟩,links,mem⟩
      have hcap:=j2 ⟨⟨age,kind,id,adv,seq,sum,long⟩,links,mem⟩ h1 h2
      have hbyte:=vx ⟨⟨age,kind,id,adv,seq,sum,long⟩,links,mem⟩
      generalize ma ⟨⟨age,kind,id,adv,seq,sum,long⟩,links,mem⟩ = bs at hbytes hlen hbyte HZ
      generalize (fU ⟨⟨age,kind,id,adv,seq,sum,long⟩,links,mem⟩).length = bl at hlen hcap
      have HBY:=ar hbytes
      have HBB:=ar hbyte
      clear hbytes hbyte
      obtain ⟨n,hn⟩:∃ n,bs.length = n:=⟨_,rfl⟩
      have hn1:20 ≤ n:=by omega
      have hn2:n ≤ 100000:=by omega
      have HN:=ar hn
      clear hlen hcap hn
      go_wp2_with fail
      refine HBY.out.mono ?_
      rintro r W4 ⟨v4',rfl,⟨A4,c4',rfl,ho4⟩,hb4⟩
      rw [HN.out] at ho4 ⊢
      obtain ⟨g4,hA4,hgb,hgl⟩:=gn ho4 (by omega)
      subst hA4
      obtain ⟨k4,hk4,hk5⟩:=y5 ho4
      subst hk4
      clear c0 c1 c2' c3' c4 c5 c6 c7 c8
      have HB4:=ar hb4
      have hr4:=(Reads.of_own ho4).sub (i:=16) (m:=n - 16) (by omega) (by omega)
      rw [← r0,← sa,List.take_of_length_le (by rw [List.length_drop,HN.out];omega),Nat.zero_add] at hr4
      have HR4:=ar hr4
      have HW4:=ar (cr HBW3.out hb4)
      have z1:(16:Int) ≤ (n:Int):=by omega
      have z2:(n:Int) ≤ ((k4 + n:Nat):Int):=by omega
      have z3:¬ k4 + n = 16:=by omega
      clear ho4 hb4 hr4 hk5
      go_wp2_with fail
      refine (xH (some ⟨g4,16,none⟩) (n - 16) (k4 + n - 16) (bs.drop 16) W4 (by omega) HR4.out).mono ?_
      rintro r W5 ⟨g5,rfl,hR5,hb5⟩
      have HR5:=ar hR5
      have HB5:=ar hb5
      have hg5:W4.heap.size ≤ g5:=hR5.1
      have hl16:(bs.drop 16).length = n - 16:=by rw [List.length_drop,HN.out]
      have HL16:=ar hl16
      have HBD:=ar (show ∀ z ∈ bs.drop 16,0 ≤ z∧z < 256 from fun z hz=>HBB.out z (List.mem_of_mem_drop hz))
      have HG5:=ar hg5
      clear hR5 hb5 hg5 hl16 z1 z2 z3
      go_wp2_with fail
      refine (rz W4.heap.size g5 (bs.drop 16) 0 2 W5 ((bs.drop 16).take 2) rfl HR5.out (by rw [HL16.out];omega) HBD.out (by rw [HL16.out];have:=nY 2;omega)).mono ?_
      rintro r W6 ⟨rfl,hR6,hK6⟩
      have HR6:Hid (og W6 W4.heap.size g5 (bs.drop 16) ((2:Nat):Int) 0):=ar hR6
      have HB6:=ar (fT HB5.out hK6 (fun x hx=>by cases hx;exact HG5.out))
      clear hR6 hK6
      go_wp2_with fail
      refine (rz W4.heap.size g5 (bs.drop 16) 2 2 W6 ((bs.drop 18).take 2) (by rw [List.drop_drop];rfl) HR6.out (by rw [HL16.out];omega) HBD.out (by rw [HL16.out];have h2:dq 2 = 2:=rfl;omega)).mono ?_
      rintro r W7 ⟨rfl,hR7,hK7⟩
      have HB7:=ar (cr (show Below W3.heap.size W3 W4 from HB4.out) (fT HB6.out hK7 (fun x hx=>by cases hx;exact HG5.out)))
      clear hR7 hK7
      have HK7:=ar (HK3.out.below HB7.out HK3.out.lt)
      have HR7:=ar (HR3.out.below HB7.out HR3.out.lt)
      have HL7:=ar (cI HL3.out HB7.out)
      have HM7:=ar (cI HM3.out HB7.out)
      have HW7:=ar (cr HBW3.out HB7.out)
      generalize eP ((bs.drop 16).take 2) = s1 at HZ ⊢
      generalize eP ((bs.drop 18).take 2) = s2 at HZ ⊢
      have e5:W7.cell? ⟨g,5,none⟩ = some (.int .i64 sum):=HK7.out.cell 5
      have e6:W7.cell? ⟨g,6,none⟩ = some (.int .i64 long):=HK7.out.cell 6
      have f5:W7.frozen? ⟨g,5,none⟩ = false:=HK7.out.frozen 5
      have f6:W7.frozen? ⟨g,6,none⟩ = false:=HK7.out.frozen 6
      go_wp2_with fail
      go_meet
      have hkx:=(HK7.out.set_ 5 (.int .i64 s1)).set_ 6 (.int .i64 s2)
      have hKx:=((Keeps.refl (fun x=>x = g) W7).setCell (p:=⟨g,5,none⟩) (.inl rfl) (.int .i64 s1)).setCell (p:=⟨g,6,none⟩) (.inl rfl) (.int .i64 s2)
      refine ⟨⟨age,kind,id,adv,seq,s1,s2⟩,HZ,ar ?_,ar hkx,ar (hKx.blk HR7.out (by have:=HGW.out;omega)),ar (hKx.own HL7.out ?_),ar (hKx.own HM7.out ?_)⟩
      · exact fT HW7.out hKx (fun x hx=>by cases hx;have:=HGW.out;omega)
      · exact fun x hx e=>dJ HL7.out HK7.out (by decide) (by rw [hx,e])
      · exact fun x hx e=>dJ HM7.out HK7.out (by decide) (by rw [hx,e])
  obtain ⟨⟨age',kind',id',adv',seq',sum',long'⟩,hz,hbw,hkc,hrc,hlc,hmc⟩:=hcut
  have q0:wc.cell? ⟨g,0,none⟩ = some (.int .i64 age'):=hkc.out.cell 0
  have q1:wc.cell? ⟨g,1,none⟩ = some (.int .i64 kind'):=hkc.out.cell 1
  have q2:wc.cell? ⟨g,2,none⟩ = some (.int .i64 id'):=hkc.out.cell 2
  have q3:wc.cell? ⟨g,3,none⟩ = some (.int .i64 adv'):=hkc.out.cell 3
  have q4:wc.cell? ⟨g,4,none⟩ = some (.int .i64 seq'):=hkc.out.cell 4
  have q5:wc.cell? ⟨g,5,none⟩ = some (.int .i64 sum'):=hkc.out.cell 5
  have q6:wc.cell? ⟨g,6,none⟩ = some (.int .i64 long'):=hkc.out.cell 6
  have q7:wc.cell? ⟨g,7,none⟩ = some (.slice A2 links.length c2):=hkc.out.cell 7
  have q8:wc.cell? ⟨g,8,none⟩ = some (.slice A3 mem.length c3):=hkc.out.cell 8
  have hi:(Tryz.prog.info? 66).map (·.size) = some 9:=by kernel_rfl
  clear HZ HOK3 HBW3 HK3 HR3 HL3 HM3 HA3
  have hs:lsa0.size = 9∧(#[.int .i64 age',.int .i64 kind',.int .i64 id',.int .i64 adv',.int .i64 seq',.int .i64 sum',.int .i64 long',.slice A2 links.length c2,.slice A3 mem.length c3]:Array Value).size = 9∧(#[.int .i64 age',.int .i64 kind',.int .i64 id',.int .i64 adv',.int .i64 seq',.int .i64 sum',.int .i64 long',.slice A2 links.length c2,.slice A3 mem.length c3]:Array Value).all (·.oneCell') = true:=⟨rfl,rfl,by simp [Value.oneCell']⟩
  go_wp2_with (with_reducible refine mi rfl 66 (.tmp 2) (.tmp 28) rfl (w.heap.size + 1) #[.int .i64 age',.int .i64 kind',.int .i64 id',.int .i64 adv',.int .i64 seq',.int .i64 sum',.int .i64 long',.slice A2 links.length c2,.slice A3 mem.length c3] 9 rfl rfl 66 lsa0 hrc.out hi hs ?_)
  have hkr:=hrc.out.setRow_ #[.int .i64 age',.int .i64 kind',.int .i64 id',.int .i64 adv',.int .i64 seq',.int .i64 sum',.int .i64 long',.slice A2 links.length c2,.slice A3 mem.length c3]
  refine bodyPost_ret (results_cell_row (fn:=Tryz.f286) rfl _ _ (w.heap.size + 1) 66 _ (0,0) _ rfl hkr Tryz.underlying66 rfl hi) rfl ?_
  have hKx:=(Keeps.refl (fun x=>x = w.heap.size + 1) wc).row (.inl rfl) #[.int .i64 age',.int .i64 kind',.int .i64 id',.int .i64 adv',.int .i64 seq',.int .i64 sum',.int .i64 long',.slice A2 links.length c2,.slice A3 mem.length c3]
  rw [hz.out]
  have hzw:w.heap.size ≤ W.heap.size:=by have:=HWS.out;omega
  refine ⟨⟨A2,c2,A3,c3⟩,rfl,⟨dh (hKx.own hlc.out ?_) hzw,dh (hKx.own hmc.out ?_) hzw⟩,fT hbw.out hKx (fun x hx=>by cases hx;omega)⟩
  · exact fun x hx e=>dJ hlc.out hrc.out (by decide) (by rw [hx,e])
  · exact fun x hx e=>dJ hmc.out hrc.out (by decide) (by rw [hx,e])
end
section
def eN (n:Int):Value:=.int .i64 n
def dZ (k:KeyV):Value:=.agg k.cells.toArray
structure EnV where
  lan:Int
  id:Int
  k:KeyV
 deriving DecidableEq
def EnV.cells (x:EnV):List Value:=[.int .i64 x.lan,.int .i64 x.id,.int .i64 x.k.kind,.int .i64 x.k.id,.int .i64 x.k.adv]
def enE (x:EnV):Value:=.agg x.cells.toArray
def aH (h:HD):List Value:=[.int .i64 h.age,.int .i64 h.kind,.int .i64 h.id,.int .i64 h.adv,.int .i64 h.seq,.int .i64 h.sum,.int .i64 h.long]
def bz (g:Nat) (l:List (TmV × Int)):Atom:=exA fun m=>bi [ai g 175 #[.map (some m)],bq tmE eN m l]
def cO (g:Nat) (l:List (EnV × Int)):Atom:=exA fun m=>bi [ai g 221 #[.map (some m)],bq enE eN m l]
structure PeV where
  id:Int
  prio:Int
  dr:Int
  bdr:Int
  state:Int
  two:Bool
  at_:Int
 deriving DecidableEq
def PeV.cells (x:PeV):List Value:=[.int .i64 x.id,.int .i64 x.prio,.int .i64 x.dr,.int .i64 x.bdr,.int .i64 x.state,.bool x.two,.int .i64 x.at_]
def ptE {α:Type}:Option (Nat × α) → Value
  | none=>.pointer none
  | some (a,_)=>.pointer (some ⟨a,0,none⟩)
def iA:Option (Nat × PeV) → Atom
  | none=>fK True (bi [])
  | some (a,x)=>ai a 90 x.cells.toArray
structure PeS where
  self:Int
  lan:Int
  l:List (Option PeV)
def bC (g:Nat) (p:PeS):Atom:=exA fun q:List (Option (Nat × PeV))=>fK (q.map (fun x=>x.map (·.2)) = p.l∧q.length = 16)
  (bi (ai g 172 (.int .i64 p.self::.int .i64 p.lan::q.map ptE).toArray::q.map iA))
section
variable {κ:Kap} {L I:List Atom} {w:World} {g:Nat}
theorem hU {l:List (TmV × Int)} (h:S κ (bz g l::L) I w):∃ m,S κ (ai g 175 #[.map (some m)]::bq tmE eN m l::L) I w:=by
  obtain ⟨m,h⟩:=h.ex_open
  exact ⟨m,h.sep_open⟩
theorem eX {m:Nat} {l:List (TmV × Int)} (h:S κ (ai g 175 #[.map (some m)]::bq tmE eN m l::L) I w):S κ (bz g l::L) I w:=
  S.ex_close (f:=fun m=>bi [ai g 175 #[.map (some m)],bq tmE eN m l]) m (S.sep_close (l:=[_,_]) h)
theorem pb {l:List (EnV × Int)} (h:S κ (cO g l::L) I w):∃ m,S κ (ai g 221 #[.map (some m)]::bq enE eN m l::L) I w:=by
  obtain ⟨m,h⟩:=h.ex_open
  exact ⟨m,h.sep_open⟩
theorem fN {m:Nat} {l:List (EnV × Int)} (h:S κ (ai g 221 #[.map (some m)]::bq enE eN m l::L) I w):S κ (cO g l::L) I w:=
  S.ex_close (f:=fun m=>bi [ai g 221 #[.map (some m)],bq enE eN m l]) m (S.sep_close (l:=[_,_]) h)
theorem S.mid1 {a:Atom} {l:List Atom} (h:S κ (bi (a::l)::L) I w):S κ (a::bi l::L) I w:=by
  have h4:=h.sep_open
  rw [List.cons_append] at h4
  exact (S.sep_close (l:=l) (h4.perm (List.perm_middle (l₁:=l) (a:=a) (l₂:=L)).symm)).perm (List.Perm.swap _ _ _)
theorem S.unmid1 {a:Atom} {l:List Atom} (h:S κ (a::bi l::L) I w):S κ (bi (a::l)::L) I w:=by
  refine S.sep_close (l:=a::l) ?_
  exact (h.perm (List.Perm.swap _ _ _)).sep_open.perm (List.perm_middle (l₁:=l) (a:=a) (l₂:=L))
theorem nw {p:PeS} (h:S κ (bC g p::L) I w):∃ q:List (Option (Nat × PeV)),q.map (fun x=>x.map (·.2)) = p.l∧q.length = 16∧S κ (ai g 172 (.int .i64 p.self::.int .i64 p.lan::q.map ptE).toArray::bi (q.map iA)::L) I w:=by
  obtain ⟨q,h⟩:=h.ex_open
  obtain ⟨⟨h1,h2⟩,h3⟩:=h.pure_open
  exact ⟨q,h1,h2,h3.mid1⟩
theorem lX {p:PeS} {q:List (Option (Nat × PeV))} (h1:q.map (fun x=>x.map (·.2)) = p.l) (h2:q.length = 16) (h:S κ (ai g 172 (.int .i64 p.self::.int .i64 p.lan::q.map ptE).toArray::bi (q.map iA)::L) I w):S κ (bC g p::L) I w:=by
  refine S.ex_close (f:=fun q:List (Option (Nat × PeV))=>fK (q.map (fun x=>x.map (·.2)) = p.l∧q.length = 16) (bi (ai g 172 (.int .i64 p.self::.int .i64 p.lan::q.map ptE).toArray::q.map iA))) q (S.pure_close ⟨h1,h2⟩ h.unmid1)
theorem S.sep_at {l:List Atom} {i:Nat} {a:Atom} (h:S κ (bi l::L) I w) (hi:l[i]? = some a):S κ (a::bi (l.eraseIdx i)::L) I w:=by
  have h1:=h.sep_open.perm ((jO hi).append_right L)
  rw [List.cons_append] at h1
  exact (S.sep_close (l:=l.eraseIdx i) (h1.perm (List.perm_middle (l₁:=l.eraseIdx i) (a:=a) (l₂:=L)).symm)).perm (List.Perm.swap _ _ _)
theorem S.sep_put {l:List Atom} {i:Nat} {a c:Atom} (h:S κ (c::bi (l.eraseIdx i)::L) I w) (hi:l[i]? = some a):S κ (bi (l.set i c)::L) I w:=by
  have h1:=(h.perm (List.Perm.swap _ _ _)).sep_open
  have h2:=h1.perm (List.perm_middle (l₁:=l.eraseIdx i) (a:=c) (l₂:=L))
  rw [← List.cons_append] at h2
  exact S.sep_close (l:=l.set i c) (h2.perm ((ro hi).append_right L))
end
end
section
def bw {α β:Type} (x:α) (f:α → β):β:=f x
def ji {α β:Type} (o:Option α) (n:β) (f:α → β):β:=match o with | none=>n | some x=>f x
def exE {ε α β:Type} (o:Except ε α) (n:ε → β) (f:α → β):β:=match o with | .error e=>n e | .ok x=>f x
def aJ {α β:Type} (o:Option α) (f:α → Option β):Option β:=match o with | none=>none | some x=>f x
theorem ao {α β:Type} {o:Option α} {f:α → Option β} {r:β} (h:aJ o f = some r):∃ x,o = some x∧f x = some r:=by
  cases o with
  | none=>cases h
  | some x=>exact ⟨x,rfl,h⟩
theorem av {α β:Type} {o:Option α} {f:α → Option β} {x:α} (h:o = some x):aJ o f = f x:=by rw [h];rfl
theorem gdE {p:Prop} [Decidable p] {α:Type} {x:Option α} {r:α} (h:(if p then x else none) = some r):p∧x = some r:=by
  by_cases hp:p
  · exact ⟨hp,(if_pos hp).symm.trans h⟩
  · exact nomatch (if_neg hp).symm.trans h
theorem am {α β:Type} {x y:α} {f:α → β} (h:x = y):bw x f = f y:=by rw [h];rfl
theorem fG {α β:Type} {o:Option α} {n:β} {f:α → β} (h:o = none):ji o n f = n:=by rw [h];rfl
theorem fH {α β:Type} {o:Option α} {n:β} {f:α → β} {x:α} (h:o = some x):ji o n f = f x:=by rw [h];rfl
theorem fC {ε α β:Type} {o:Except ε α} {n:ε → β} {f:α → β} {x:α} (h:o = .ok x):exE o n f = f x:=by rw [h];rfl
theorem fB {ε α β:Type} {o o':Except ε α} {n:ε → β} {f:α → β} (h:o = o'):exE o n f = exE o' n f:=by rw [h]
theorem bT {α:Type} {b:Bool} {x y:α} (h:b = true):cond b x y = x:=by rw [h];rfl
theorem bF {α:Type} {b:Bool} {x y:α} (h:b = false):cond b x y = y:=by rw [h];rfl
theorem aF {α:Type} {l:List α} {k:Nat} {z:α} (h:l[k]? = some z):l.drop k = z::l.drop (k + 1):=by
  obtain ⟨h1,h2⟩:=List.getElem?_eq_some_iff.1 h
  rw [List.drop_eq_getElem_cons h1,h2]
theorem fV {α:Type} {l:List α} {k:Nat} {z d:α} (h:l[k]? = some z):l.getD k d = z:=by
  rw [List.getD_eq_getElem?_getD,h];rfl
theorem ax {α:Type} {l:List α} {k:Nat} (h:l.length ≤ k):l.drop k = []:=List.drop_of_length_le h
section
variable {P:Program} {l:List Oper} {bs dp:Nat → Nat → Bool} {a0:Act} {Q:Exit → Act → World → Prop} {Qf:(Nat → Value) → World → Prop} {p q:Plan} {m K:List (Nat × Value)} {i n:Nat} {w:World} {v u:Value} {κ:Kap} {L I:List Atom} {o:Oper}
theorem dA {t t':TypeId} {x y:Operand} {a b c:Int} (hk:Fr a0 n K) (k:bb P l.toArray bs dp a0 Q Qf p (vof ((i,i6 c)::m)) w)
    (ho:l.toArray[i]? = some o:=by rfl) (hop:o.op = .binOp .add t x y t':=by rfl) (hx:opV l m K x = some (i6 a):=by rfl) (hy:opV l m K y = some (i6 b):=by rfl) (hc:a + b = c:=by rfl)
    (cx:opC l bs dp m i x = true:=by kernel_rfl) (cy:opC l bs dp m i y = true:=by kernel_rfl) (hg:f7 l dp m i o = true:=by kernel_rfl) (hb:-9223372036854775808 ≤ c∧c ≤ 9223372036854775807:=by omega):bb P l.toArray bs dp a0 Q Qf (.rd i p) (vof m) w:=by
  refine rD _ ?_ k
  unfold ROK;rw [ho]
  exact fun a h_=>bL (aQ h_ hg) (aD hop (h_.x hk hx cx) (h_.x hk hy cy) (by rw [hc];exact hb) hc)
theorem dB {t t':TypeId} {x y:Operand} {a b c:Int} (hk:Fr a0 n K) (k:bb P l.toArray bs dp a0 Q Qf p (vof ((i,i6 c)::m)) w)
    (ho:l.toArray[i]? = some o:=by rfl) (hop:o.op = .binOp .sub t x y t':=by rfl) (hx:opV l m K x = some (i6 a):=by rfl) (hy:opV l m K y = some (i6 b):=by rfl) (hc:a - b = c:=by rfl)
    (cx:opC l bs dp m i x = true:=by kernel_rfl) (cy:opC l bs dp m i y = true:=by kernel_rfl) (hg:f7 l dp m i o = true:=by kernel_rfl) (hb:-9223372036854775808 ≤ c∧c ≤ 9223372036854775807:=by omega):bb P l.toArray bs dp a0 Q Qf (.rd i p) (vof m) w:=by
  refine rD _ ?_ k
  unfold ROK;rw [ho]
  exact fun a h_=>bL (aQ h_ hg) (gu hop (h_.x hk hx cx) (h_.x hk hy cy) (by rw [hc];exact hb) hc)
theorem dX {α:Type} {cells:α → List Value} {size:Nat} (hcl:∀ a,(cells a).length = size) (hk:Fr a0 n K) {A:Option Addr} {xs:List α} {c j B:Nat} (hr:Reads w B size A xs.length (ab cells xs))
    (k:∀ b o z,xs[j]? = some z → (∀ i u,(cells z)[i]? = some u → w.cell? ⟨b,o + i,none⟩ = some u) → bb P l.toArray bs dp a0 Q Qf p (vof ((i,pt b o)::m)) w)
    {t:TypeId} {x y:Operand} (ho:l.toArray[i]? = some o:=by rfl) (hop:o.op = .indexAddr t x y:=by rfl) (hx:opV l m K x = some (.slice A xs.length c):=by rfl) (hy:opV l m K y = some (i6 (j:Int)):=by rfl)
    (ht:jU P t size = true:=by kernel_rfl) (h0:decide (0 < size) = true:=by kernel_rfl)
    (cx:opC l bs dp m i x = true:=by kernel_rfl) (cy:opC l bs dp m i y = true:=by kernel_rfl) (hg:f7 l dp m i o = true:=by kernel_rfl) (hj:j < xs.length:=by omega):bb P l.toArray bs dp a0 Q Qf (.rd i p) (vof m) w:=by
  obtain ⟨b,off,z,hA,_,hz,hq⟩:=Reads.row_at cells size hcl (k:=j) hr (of_decide_eq_true h0) hj
  refine rD _ ?_ (k b (off + j * size) z hz hq)
  unfold ROK;rw [ho]
  exact fun a h_=>bL (aQ h_ hg) (az (size:=size) hop (h_.x hk hx cx) hA (h_.x hk hy cy) ht (by omega) (by simp))
theorem dN (hk:Fr a0 n K) {A:Option Addr} {xs:List Int} {c B:Nat} {j:Nat} (hr:Reads w B 1 A xs.length (aw xs))
    (k:∀ b o z,xs[j]? = some z → (∀ i u,[i6 z][i]? = some u → w.cell? ⟨b,o + i,none⟩ = some u) → bb P l.toArray bs dp a0 Q Qf p (vof ((i,pt b o)::m)) w)
    {t:TypeId} {x y:Operand} (ho:l.toArray[i]? = some o:=by rfl) (hop:o.op = .indexAddr t x y:=by rfl) (hx:opV l m K x = some (.slice A xs.length c):=by rfl) (hy:opV l m K y = some (i6 (j:Int)):=by rfl)
    (ht:jU P t 1 = true:=by kernel_rfl) (cx:opC l bs dp m i x = true:=by kernel_rfl) (cy:opC l bs dp m i y = true:=by kernel_rfl) (hg:f7 l dp m i o = true:=by kernel_rfl) (hj:j < xs.length:=by omega):bb P l.toArray bs dp a0 Q Qf (.rd i p) (vof m) w:=by
  obtain ⟨b,off,z,hA,_,hz,hq⟩:=Reads.int_at (k:=j) hr hj
  refine rD _ ?_ (k b (off + j) z hz (fun i u hu=>by
    cases i with
    | zero=>simp only [List.getElem?_cons_zero,Option.some.injEq] at hu;subst hu;exact hq
    | succ i=>simp at hu))
  unfold ROK;rw [ho]
  exact fun a h_=>bL (aQ h_ hg) (az (size:=1) hop (h_.x hk hx cx) hA (h_.x hk hy cy) ht (by omega) (by simp))
theorem dU (hk:Fr a0 n K) {A:Option Addr} {xs:List Int} {c B:Nat} {j:Nat} (hr:Reads w B 1 A xs.length (u8s xs))
    (k:∀ b o z,xs[j]? = some z → (∀ i u,[.int .u8 z][i]? = some u → w.cell? ⟨b,o + i,none⟩ = some u) → bb P l.toArray bs dp a0 Q Qf p (vof ((i,pt b o)::m)) w)
    {t:TypeId} {x y:Operand} (ho:l.toArray[i]? = some o:=by rfl) (hop:o.op = .indexAddr t x y:=by rfl) (hx:opV l m K x = some (.slice A xs.length c):=by rfl) (hy:opV l m K y = some (i6 (j:Int)):=by rfl)
    (ht:jU P t 1 = true:=by kernel_rfl) (cx:opC l bs dp m i x = true:=by kernel_rfl) (cy:opC l bs dp m i y = true:=by kernel_rfl) (hg:f7 l dp m i o = true:=by kernel_rfl) (hj:j < xs.length:=by omega):bb P l.toArray bs dp a0 Q Qf (.rd i p) (vof m) w:=by
  obtain ⟨b,off,z,hA,_,hz,hq⟩:=Reads.byte_at (k:=j) hr hj
  refine rD _ ?_ (k b (off + j) z hz (fun i u hu=>by
    cases i with
    | zero=>simp only [List.getElem?_cons_zero,Option.some.injEq] at hu;subst hu;exact hq
    | succ i=>simp at hu))
  unfold ROK;rw [ho]
  exact fun a h_=>bL (aQ h_ hg) (az (size:=1) hop (h_.x hk hx cx) hA (h_.x hk hy cy) ht (by omega) (by simp))
theorem dV (N:Nat) {b c:Nat} {cs out:List Value} (hq:∀ i u,cs[i]? = some u → w.cell? ⟨b,c + i,none⟩ = some u) (hk:Fr a0 n K) (k:bb P l.toArray bs dp a0 Q Qf p (vof ((i,.agg out.toArray)::m)) w) {t:TypeId} {x:Operand}
    (hn:nzO N cs = some out:=by rfl) (hl:nzO N out = some out:=by rfl) (ho:l.toArray[i]? = some o:=by rfl) (hop:o.op = .load t x:=by rfl) (hx:opV l m K x = some (pt b c):=by rfl)
    (hT:hE P t N = true:=by kernel_rfl) (hsz:Nat.beq out.length N = true:=by kernel_rfl) (cx:opC l bs dp m i x = true:=by kernel_rfl) (hg:f7 l dp m i o = true:=by kernel_rfl):bb P l.toArray bs dp a0 Q Qf (.rd i p) (vof m) w:=by
  refine rD _ ?_ k
  have e:=s9 N cs hn
  subst e
  unfold ROK;rw [ho]
  exact fun a h_=>bL (aQ h_ hg) (dT (size:=N) hop (h_.x hk hx cx) hT (Nat.eq_of_beq_eq_true hsz) hq)
theorem dF {b c j:Nat} {cs:List Value} (hq:∀ i u,cs[i]? = some u → w.cell? ⟨b,c + i,none⟩ = some u) (hk:Fr a0 n K) (k:bb P l.toArray bs dp a0 Q Qf p (vof ((i,v)::m)) w) {t:TypeId} {x:Operand}
    (ho:l.toArray[i]? = some o:=by rfl) (hop:o.op = .load t x:=by rfl) (hx:opV l m K x = some (pt b (c + j)):=by rfl) (hv:jh cs j = some v:=by rfl)
    (hf:jA P t = true:=by kernel_rfl) (cx:opC l bs dp m i x = true:=by kernel_rfl) (hg:f7 l dp m i o = true:=by kernel_rfl):bb P l.toArray bs dp a0 Q Qf (.rd i p) (vof m) w:=by
  refine rD _ ?_ k
  unfold ROK;rw [ho]
  exact fun a h_=>bL (aQ h_ hg) (bB hop (h_.x hk hx cx) hf (hq j v (by rw [← d9];exact hv)))
theorem dF0 {b c:Nat} {cs:List Value} (hq:∀ i u,cs[i]? = some u → w.cell? ⟨b,c + i,none⟩ = some u) (hk:Fr a0 n K) (k:bb P l.toArray bs dp a0 Q Qf p (vof ((i,v)::m)) w) {t:TypeId} {x:Operand}
    (ho:l.toArray[i]? = some o:=by rfl) (hop:o.op = .load t x:=by rfl) (hx:opV l m K x = some (pt b c):=by rfl) (hv:jh cs 0 = some v:=by rfl)
    (hf:jA P t = true:=by kernel_rfl) (cx:opC l bs dp m i x = true:=by kernel_rfl) (hg:f7 l dp m i o = true:=by kernel_rfl):bb P l.toArray bs dp a0 Q Qf (.rd i p) (vof m) w:=by
  refine rD _ ?_ k
  unfold ROK;rw [ho]
  exact fun a h_=>bL (aQ h_ hg) (bB hop (h_.x hk hx cx) hf (hq 0 v (by rw [← d9];exact hv)))
end
theorem S.rowB {κ:Kap} {L I:List Atom} {w:World} {i e size n:Nat} {v:Value} {xs:List Value} (h:S κ L I w) (hi:L[i]? = some (aa v e size n xs)):n ≤ 9223372036854775807:=by
  rcases (h.row hi).2 with ⟨_,h0⟩ | ⟨g,cap,cur,_,_,_,h1,h2,_⟩
  · omega
  · unfold maxLen at h2;omega
theorem S.rowBI {κ:Kap} {L I:List Atom} {w:World} {i e size n:Nat} {v:Value} {xs:List Value} (h:S κ L I w) (hi:I[i]? = some (aa v e size n xs)):n ≤ 9223372036854775807:=by
  rcases (h.rowI hi).2 with ⟨_,h0⟩ | ⟨g,cap,cur,_,_,_,h1,h2,_⟩
  · omega
  · unfold maxLen at h2;omega
def pkO {α:Type}:List α → List Nat → Option (List α × List α)
  | l,[]=>some ([],l)
  | l,n::ns=>match vT l n with
    | some (b,r)=>(match pkO r ns with | some (bs,r')=>some (b::bs,r') | none=>none)
    | none=>none
theorem rr {α:Type}:∀ (ns:List Nat) (l:List α) {bs r:List α},pkO l ns = some (bs,r) → l.Perm (bs ++ r)
  | [],l,bs,r,h=>by unfold pkO at h;cases h;exact List.Perm.refl _
  | n::ns,l,bs,r,h=>by
    unfold pkO at h
    split at h
    · rename_i b r1 h1
      split at h
      · rename_i bs' r' h2
        cases h
        obtain ⟨e1,e2⟩:=p7 l n h1
        have:=rr ns r1 h2
        rw [← e2] at this
        exact (jO e1).trans (List.Perm.cons b this)
      · cases h
    · cases h
def j6 {α:Type}:Nat → List α → Option (List α)
  | 0,l=>some l
  | _ + 1,[]=>none
  | n + 1,_::l=>j6 n l
theorem qF {α:Type}:∀ (n:Nat) (l:List α) {r:List α},j6 n l = some r → l.drop n = r
  | 0,l,r,h=>by unfold j6 at h;cases h;rfl
  | n + 1,[],r,h=>by unfold j6 at h;cases h
  | n + 1,_::l,r,h=>by unfold j6 at h;exact qF n l h
def wE {α:Type}:List α → List α → Option (List α)
  | [],r=>some r
  | b::bs,r=>match wE bs r with | some x=>some (b::x) | none=>none
theorem tV {α:Type}:∀ (bs r:List α) {x:List α},wE bs r = some x → bs ++ r = x
  | [],r,x,h=>by unfold wE at h;cases h;rfl
  | b::bs,r,x,h=>by
    unfold wE at h
    split at h
    · rename_i y h1
      cases h
      rw [List.cons_append,tV bs r h1]
    · cases h
def pkR {α:Type} (l:List α) (ns:List Nat) (m:Nat):Option (List α):=match pkO l ns with
  | some (bs,r)=>(match j6 m r with | some r'=>wE bs r' | none=>none)
  | none=>none
section
variable {κ:Kap} {L I:List Atom} {w:World}
theorem S.dropN:∀ (n:Nat) {L:List Atom},S κ L I w → S κ (L.drop n) I w
  | 0,L,h=>h
  | n + 1,[],h=>h
  | n + 1,a::L,h=>S.dropN n h.drop
theorem S.pk {M:List Atom} (h:S κ L I w) (ns:List Nat) (m:Nat) (e:pkR L ns m = some M:=by rfl):S κ M I w:=by
  unfold pkR at e
  split at e
  · rename_i bs r h1
    split at e
    · rename_i r' h2
      rw [← tV bs r' e,← qF m r h2]
      have h3:S κ (r ++ bs) I w:=h.perm ((rr ns L h1).trans List.perm_append_comm)
      have h4:S κ ((r ++ bs).take m ++ (r ++ bs).drop m) I w:=by rw [List.take_append_drop];exact h3
      have hm:m ≤ r.length:=by
        have:∀ (m:Nat) (r:List Atom) {r'},j6 m r = some r' → m ≤ r.length:=by
          intro m
          induction m with
          | zero=>intro r r' _;omega
          | succ m ih=>
            intro r r' h
            cases r with
            | nil=>unfold j6 at h;cases h
            | cons a r=>unfold j6 at h;have:=ih r h;simp;omega
        exact this m r h2
      have h5:=S.dropN m h3
      rw [List.drop_append_of_le_length hm] at h5
      exact h5.perm List.perm_append_comm
    · cases e
  · cases e
theorem S.dupI {a:Atom} (h:S κ L I w) (i:Nat) (hi:jh I i = some a:=by rfl):S κ L (a::I) w:=
  h.subI fun x hx=>by
    rcases List.mem_cons.1 hx with rfl | hx
    · rw [d9] at hi;exact List.mem_of_getElem? hi
    · exact hx
end
theorem aB {P:Program} {x:Code} {Q:Exit → Act → World → Prop} {a:Act} {w:World} (M:Act → World → Prop) (h:x.wp P (Exit.then M Q) a w) (h2:∀ a w,M a w → Q .normal a w):x.wp P Q a w:=
  Code.wp_mono (fun e a w q=>by cases e <;> first | exact h2 _ _ q | exact q) h
theorem aP {a A:Act} {i k n:Nat} (h1:sl a i = i6 ((k:Int) + 1)) (h2:sl A i = i6 (k:Int)) (h:k < n):n - (intOf (sl a i)).toNat < n - (intOf (sl A i)).toNat:=by
  rw [h1,h2];simp only [intOf];omega
theorem cq {α:Type} {l:List α} {k:Nat} (h:k < l.length):∃ z,l[k]? = some z:=⟨_,List.getElem?_eq_getElem h⟩
structure RowFn (α:Type) (size:Nat) where
  f:List α → List Value
  app:∀ a b,f (a ++ b) = f a ++ f b
  one:∀ l,∀ u ∈ f l,u.oneCell' = true
  len:∀ l,(f l).length = l.length * size
section
variable {P:Program} {ops:Array Oper} {Q:Exit → Act → World → Prop} {o:Oper} {a:Act} {w:World} {K:Act → World → Prop} {E:Prop} {κ:Kap} {L I:List Atom}
theorem ia {α:Type} {B:Nat} {A A2:Option Addr} {s x:Operand} {t e size bytes c c2 m:Nat} {xs ys:List α} {news:List Value} (F:RowFn α size) (hS:S κ L I w) (i:Nat) (hw:Region.wanted o (yielded ops a.tmps) = true) (ho:o.op = .call { callee:=.builtin .append,args:=#[s,x],argTypes:=#[t,t] })
    (hs:a.eval s = .slice A xs.length c) (hx:a.eval x = .slice A2 m c2) (hr:Reads w B size A2 m news) (hb:xs.length + ys.length ≤ 100000000)
    (h:∀ A' c' w',S κ (L.set i (aa (.slice A' (xs ++ ys).length c') e size (xs ++ ys).length (F.f (xs ++ ys)))) I w' → K (a.put o.dst (.slice A' (xs ++ ys).length c')) w')
    (hm:m = ys.length:=by rfl) (hn:news = F.f ys:=by rfl) (hby:decide (bytes ≤ 10000) = true:=by kernel_rfl)
    (hi:L[i]? = some (aa (.slice A xs.length c) e size xs.length (F.f xs)):=by rfl) (hT:rG P t e size bytes = true:=by kernel_rfl):if Region.wanted o (yielded ops a.tmps) = true then o.wp P a w K Q else E:=by
  subst hm;subst hn
  have hby:=of_decide_eq_true hby
  have h1:(xs.length + ys.length) * bytes ≤ 100000000 * 10000:=Nat.mul_le_mul hb hby
  refine sap hS i hw ho hs hx hr (F.one ys) (by unfold maxLen;omega) (by omega) (fun A' c' w' h2=>?_) hi hT
  rw [← F.app,← List.length_append] at h2
  rw [← List.length_append]
  exact h A' c' w' h2
end
theorem cTk {P:Program} {Q:Exit → Act → World → Prop} {a:Act} {w:World} {c:Operand} {x y:Code} {n:Nat} {K:List (Nat × Value)} {b:Bool} (hk:Fr a n K) (hb:b = true) (h:x.wp P Q a w) (e:opK K c = some (.bool b):=by rfl):(Code.cond c x y).wp P Q a w:=wp_cond_true (by rw [jN hk e,hb]) h
theorem cFk {P:Program} {Q:Exit → Act → World → Prop} {a:Act} {w:World} {c:Operand} {x y:Code} {n:Nat} {K:List (Nat × Value)} {b:Bool} (hk:Fr a n K) (hb:b = false) (h:y.wp P Q a w) (e:opK K c = some (.bool b):=by rfl):(Code.cond c x y).wp P Q a w:=wp_cond_false (by rw [jN hk e,hb]) h
theorem rwV {P:Program} {l:List Oper} {bs dp:Nat → Nat → Bool} {a0:Act} {Q:Exit → Act → World → Prop} {Qf:(Nat → Value) → World → Prop} {p:Plan} {m:List (Nat × Value)} {w:World} (j:Nat) (u v:Value) (hv:u = v) (k:bb P l.toArray bs dp a0 Q Qf p (vof ((j,v)::m)) w) (e:lkV m j = some u:=by rfl):bb P l.toArray bs dp a0 Q Qf p (vof m) w:=by
  subst hv
  have h:vof ((j,u)::m) = vof m:=by
    rw [← kH]
    funext i
    unfold gy
    cases hb:Nat.beq i j with
    | false=>rfl
    | true=>rw [Nat.eq_of_beq_eq_true hb,kI e]
  rw [← h];exact k
end
section
structure SlP where
  A:Option Addr
  c:Nat
structure CFn (α π:Type) (size:Nat) where
  cells:α → π → List Value
  inner:α → π → List Atom
  len:∀ a p,(cells a p).length = size
  one:∀ a p,∀ u ∈ cells a p,u.oneCell' = true
section
variable {α π:Type} {size:Nat} {κ:Kap} {L I:List Atom} {w:World}
def CFn.row (F:CFn α π size) (q:List (α × π)):List Value:=ab (fun x:α × π=>F.cells x.1 x.2) q
def crQ (F:CFn α π size) (T:Nat) (A:Option Addr) (c:Nat) (l:List α) (q:List (α × π)):Atom:=fK (q.map (·.1) = l) (bi (aa (.slice A l.length c) T size l.length (F.row q)::q.flatMap (fun x=>F.inner x.1 x.2)))
def crA (F:CFn α π size) (T:Nat) (A:Option Addr) (c:Nat) (l:List α):Atom:=exA (crQ F T A c l)
theorem S.crNil (F:CFn α π size) (T:Nat) (h:S κ L I w):S κ (crA F T none 0 []::L) I w:=
  S.ex_close (f:=crQ F T none 0 []) [] (S.pure_close rfl (S.sep_close (l:=[_]) (h.nilrow T size)))
theorem S.crOpen {F:CFn α π size} {T:Nat} {A:Option Addr} {c:Nat} {l:List α} (h:S κ (crA F T A c l::L) I w):∃ q:List (α × π),q.map (·.1) = l∧S κ (aa (.slice A l.length c) T size l.length (F.row q)::(q.flatMap (fun x=>F.inner x.1 x.2) ++ L)) I w:=by
  obtain ⟨q,h⟩:=h.ex_open
  obtain ⟨h1,h2⟩:=h.pure_open
  exact ⟨q,h1,h2.sep_open⟩
theorem S.crClose {F:CFn α π size} {T:Nat} {A:Option Addr} {c:Nat} {l:List α} {q:List (α × π)} (h1:q.map (·.1) = l) (h:S κ (aa (.slice A l.length c) T size l.length (F.row q)::(q.flatMap (fun x=>F.inner x.1 x.2) ++ L)) I w):S κ (crA F T A c l::L) I w:=
  S.ex_close (f:=crQ F T A c l) q (S.pure_close h1 (S.sep_close (l:=_::_) h))
theorem Sep.sub:∀ {l:List Atom} {i:Nat} {a:Atom} {w:World} {fp:List Nat},Sep l w fp → l[i]? = some a → ∃ f,a.holds w f∧∀ b ∈ f,b ∈ fp
  | [],i,a,w,fp,_,hi=>by simp at hi
  | c::l,0,a,w,fp,⟨f1,f2,e,_,h1,_⟩,hi=>by
    simp only [List.getElem?_cons_zero,Option.some.injEq] at hi;subst hi
    exact ⟨f1,h1,fun b hb=>by rw [e];exact List.mem_append_left _ hb⟩
  | c::l,i + 1,a,w,fp,⟨f1,f2,e,_,_,h2⟩,hi=>by
    obtain ⟨f,h3,h4⟩:=Sep.sub h2 (by simpa using hi)
    exact ⟨f,h3,fun b hb=>by rw [e];exact List.mem_append_right _ (h4 b hb)⟩
theorem S.crAt {F:CFn α π size} {T:Nat} {A:Option Addr} {c k:Nat} {l:List α} {z:α} (h:S κ L I w) (i:Nat) (hz:l[k]? = some z) (hi:jh I i = some (crA F T A c l):=by rfl):
    ∃ p q,q[k]? = some (z,p)∧q.length = l.length∧Reads w w.heap.size size A l.length (F.row q)∧S κ L (F.inner z p ++ I) w:=by
  rw [d9] at hi
  obtain ⟨hk,fp,hs,hI⟩:=h
  obtain ⟨f,⟨q,h1,h2⟩,h5⟩:=hI _ (List.mem_of_getElem? hi)
  have hq:∃ p,q[k]? = some (z,p):=by
    rw [← h1,List.getElem?_map] at hz
    obtain ⟨y,h3,h4⟩:=Option.map_eq_some_iff.1 hz
    exact ⟨y.2,by rw [h3,← h4]⟩
  obtain ⟨p,hq⟩:=hq
  have h2:Sep (aa (.slice A l.length c) T size l.length (F.row q)::q.flatMap (fun x=>F.inner x.1 x.2)) w f:=h2
  obtain ⟨g,hg⟩:=Sep.get (i:=0) h2 rfl
  refine ⟨p,q,hq,by rw [← h1,List.length_map],Reads.of_own hg.2,hk,fp,hs,fun x hx=>?_⟩
  rcases List.mem_append.1 hx with hx | hx
  · have hm:x ∈ (aa (.slice A l.length c) T size l.length (F.row q)::q.flatMap (fun x=>F.inner x.1 x.2)):=List.mem_cons_of_mem _ (List.mem_flatMap.2 ⟨(z,p),List.mem_of_getElem? hq,hx⟩)
    obtain ⟨j,hj⟩:=List.mem_iff_getElem?.1 hm
    obtain ⟨g,h3,h4⟩:=Sep.sub h2 hj
    exact ⟨g,h3,fun b hb=>h5 b (h4 b hb)⟩
  · exact hI x hx
theorem jl {F:CFn α π size} {T:Nat} {A:Option Addr} {c:Nat} {l:List α} {i:Nat} (h:S κ L I w) (hi:jh I i = some (crA F T A c l):=by rfl):l.length ≤ 9223372036854775807:=by
  rw [d9] at hi
  obtain ⟨hk,fp,hs,hI⟩:=h
  obtain ⟨f,⟨q,h1,h2⟩,h5⟩:=hI _ (List.mem_of_getElem? hi)
  obtain ⟨g,hg⟩:=Sep.get (i:=0) (show Sep (aa (.slice A l.length c) T size l.length (F.row q)::q.flatMap (fun x=>F.inner x.1 x.2)) w f from h2) rfl
  rcases hg.2.2 with ⟨_,h0⟩ | ⟨g,cap,cur,_,_,_,h1,h2,_⟩
  · omega
  · unfold maxLen at h2;omega
end
section
variable {P:Program} {l:List Oper} {bs dp:Nat → Nat → Bool} {a0:Act} {Q:Exit → Act → World → Prop} {Qf:(Nat → Value) → World → Prop} {p q:Plan} {m K:List (Nat × Value)} {i n:Nat} {w:World} {κ:Kap} {L I:List Atom} {o:Oper}
theorem cX {α π:Type} {size:Nat} {F:CFn α π size} {T:Nat} {A:Option Addr} {c c2 j:Nat} {xs:List α} {z:α} (i':Nat) (hz:xs[j]? = some z) (hk:Fr a0 n K) (hS:S κ L I w)
    (k:∀ b o e,S κ L (F.inner z e ++ I) w → (∀ i u,(F.cells z e)[i]? = some u → w.cell? ⟨b,o + i,none⟩ = some u) → bb P l.toArray bs dp a0 Q Qf p (vof ((i,pt b o)::m)) w)
    {t:TypeId} {x y:Operand} (hi:jh I i' = some (crA F T A c xs):=by rfl) (ho:l.toArray[i]? = some o:=by rfl) (hop:o.op = .indexAddr t x y:=by rfl) (hx:opV l m K x = some (.slice A xs.length c2):=by rfl) (hy:opV l m K y = some (i6 (j:Int)):=by rfl)
    (ht:jU P t size = true:=by kernel_rfl) (h0:decide (0 < size) = true:=by kernel_rfl)
    (cx:opC l bs dp m i x = true:=by kernel_rfl) (cy:opC l bs dp m i y = true:=by kernel_rfl) (hg:f7 l dp m i o = true:=by kernel_rfl):bb P l.toArray bs dp a0 Q Qf (.rd i p) (vof m) w:=by
  obtain ⟨e,qs,hq,hl,hr,hS2⟩:=hS.crAt i' hz hi
  obtain ⟨b,off,y',hA,_,hz',hc⟩:=Reads.row_at (fun x:α × π=>F.cells x.1 x.2) size (fun a=>F.len _ _) (k:=j) hr (of_decide_eq_true h0) (List.getElem?_eq_some_iff.1 hz).1
  rw [hq] at hz'
  cases hz'
  refine rD _ ?_ (k b (off + j * size) e hS2 hc)
  have hlt:=(List.getElem?_eq_some_iff.1 hz).1
  unfold ROK;rw [ho]
  exact fun a h_=>bL (aQ h_ hg) (az (size:=size) hop (h_.x hk hx cx) hA (h_.x hk hy cy) ht (by omega) (by simp))
end
section
variable {P:Program} {ops:Array Oper} {Q:Exit → Act → World → Prop} {o:Oper} {a:Act} {w:World} {K:Act → World → Prop} {E:Prop} {κ:Kap} {L I:List Atom}
theorem sA {α π:Type} {size:Nat} (F:CFn α π size) {T:Nat} {A A2:Option Addr} {s x:Operand} {t bytes c c2 B:Nat} {xs:List α} (z:α) (e:π) {news:List Value} {M:List Atom} (hS:S κ (crA F T A c xs::L) I w) (hw:Region.wanted o (yielded ops a.tmps) = true) (ho:o.op = .call { callee:=.builtin .append,args:=#[s,x],argTypes:=#[t,t] })
    (hs:a.eval s = .slice A xs.length c) (hx:a.eval x = .slice A2 1 c2) (hr:Reads w B size A2 1 news) (hb:xs.length + 1 ≤ 100000000)
    (h:∀ A' c' w',S κ (crA F T A' c' (xs ++ [z])::M) I w' → K (a.put o.dst (.slice A' (xs ++ [z]).length c')) w')
    (hM:F.inner z e ++ M = L:=by rfl) (hn:news = F.cells z e:=by rfl) (hby:decide (bytes ≤ 10000) = true:=by kernel_rfl)
    (hT:rG P t T size bytes = true:=by kernel_rfl):if Region.wanted o (yielded ops a.tmps) = true then o.wp P a w K Q else E:=by
  subst hM;subst hn
  have hby:=of_decide_eq_true hby
  have h1:(xs.length + 1) * bytes ≤ 100000000 * 10000:=Nat.mul_le_mul hb hby
  obtain ⟨q,hq,hS⟩:=hS.crOpen
  have hlq:q.length = xs.length:=by rw [← hq,List.length_map]
  refine sap hS 0 hw ho hs hx hr (F.one z e) (by unfold maxLen;omega) (by omega) (fun A' c' w' h2=>?_) rfl hT
  have e1:F.row q ++ F.cells z e = F.row (q ++ [(z,e)]):=by unfold CFn.row;rw [eT];simp [ab]
  have e2:xs.length + 1 = (xs ++ [z]).length:=by simp
  rw [e1,e2] at h2
  rw [e2]
  refine h A' c' w' (S.crClose (q:=q ++ [(z,e)]) (by rw [List.map_append,hq];rfl) ?_)
  rw [List.flatMap_append,List.flatMap_cons,List.flatMap_nil,List.append_nil,List.append_assoc]
  exact h2
end
end
def uf:RowFn Int 1:=⟨aw,qT,fun l u hu=>by
  obtain ⟨x,_,rfl⟩:=List.mem_map.1 hu;rfl,fun l=>by rw [qU];omega⟩
theorem zo (a b:List Int):u8s (a ++ b) = u8s a ++ u8s b:=by simp [u8s]
def iO:RowFn Int 1:=⟨u8s,zo,ff,fun l=>by rw [dn];omega⟩
structure WtV where
  id:Int
  hd:HD
 deriving DecidableEq
def WtV.cells (x:WtV):List Value:=[.int .i64 x.id,.int .i64 x.hd.age,.int .i64 x.hd.kind,.int .i64 x.hd.id,.int .i64 x.hd.adv,.int .i64 x.hd.seq,.int .i64 x.hd.sum,.int .i64 x.hd.long]
structure VwV where
  lan:Int
  cost:Int
  i:IfV
  peers:List PeV
  wants:List WtV
structure SpV where
  lan:Int
  listed:List Int
  sent:Bool
  dst:Int
structure FrV where
  lan:Int
  frm:Int
  dst:Int
  bs:List Int
structure DdV where
  init:Bool
  more:Bool
  master:Bool
  seq:Int
  heads:List HD
theorem KeyV.cells_len' (x:KeyV):(KeyV.cells x).length = 3:=rfl
theorem KeyV.cells_one' (x:KeyV):∀ u ∈ KeyV.cells x,u.oneCell' = true:=by
  intro u hu
  simp only [KeyV.cells,List.mem_cons,List.not_mem_nil,or_false] at hu
  rcases hu with rfl | rfl | rfl <;> rfl
def KeyV.cells_fn:RowFn KeyV 3:=⟨ab KeyV.cells,eT _,fun l u hu=>by
  obtain ⟨x,_,h⟩:=List.mem_flatMap.1 hu
  exact KeyV.cells_one' x u h,be _ _ KeyV.cells_len'⟩
theorem TmV.cells_len' (x:TmV):(TmV.cells x).length = 6:=rfl
theorem TmV.cells_one' (x:TmV):∀ u ∈ TmV.cells x,u.oneCell' = true:=by
  intro u hu
  simp only [TmV.cells,List.mem_cons,List.not_mem_nil,or_false] at hu
  rcases hu with rfl | rfl | rfl | rfl | rfl | rfl <;> rfl
def TmV.cells_fn:RowFn TmV 6:=⟨ab TmV.cells,eT _,fun l u hu=>by
  obtain ⟨x,_,h⟩:=List.mem_flatMap.1 hu
  exact TmV.cells_one' x u h,be _ _ TmV.cells_len'⟩
theorem m3 (x:HD):(aH x).length = 7:=rfl
theorem PeV.cells_len' (x:PeV):(PeV.cells x).length = 7:=rfl
theorem Lk.cells_len' (x:Lk):(Lk.cells x).length = 4:=rfl
theorem Lk.cells_one' (x:Lk):∀ u ∈ Lk.cells x,u.oneCell' = true:=by
  intro u hu
  simp only [Lk.cells,List.mem_cons,List.not_mem_nil,or_false] at hu
  rcases hu with rfl | rfl | rfl | rfl <;> rfl
def Lk.cells_fn:RowFn Lk 4:=⟨ab Lk.cells,eT _,fun l u hu=>by
  obtain ⟨x,_,h⟩:=List.mem_flatMap.1 hu
  exact Lk.cells_one' x u h,be _ _ Lk.cells_len'⟩
theorem WtV.cells_len' (x:WtV):(WtV.cells x).length = 8:=rfl
def lsFn:CFn LV LP 9:=⟨fun x p=>[i6 x.hd.age,i6 x.hd.kind,i6 x.hd.id,i6 x.hd.adv,i6 x.hd.seq,i6 x.hd.sum,i6 x.hd.long,.slice p.A x.links.length p.c,.slice p.B x.mem.length p.d],fun x p=>[aa (.slice p.A x.links.length p.c) 230 4 x.links.length (ab Lk.cells x.links),aa (.slice p.B x.mem.length p.d) 3 1 x.mem.length (aw x.mem)],fun _ _=>rfl,fun x p u hu=>by
  simp only [List.mem_cons,List.not_mem_nil,or_false] at hu
  rcases hu with rfl | rfl | rfl | rfl | rfl | rfl | rfl | rfl | rfl <;> rfl⟩
def co:CFn VwV (SlP × SlP) 9:=⟨fun x p=>[i6 x.lan,i6 x.cost,i6 x.i.self,i6 x.i.prio,i6 x.i.state,i6 x.i.dr,i6 x.i.bdr,.slice p.1.A x.peers.length p.1.c,.slice p.2.A x.wants.length p.2.c],fun x p=>[aa (.slice p.1.A x.peers.length p.1.c) 90 7 x.peers.length (ab PeV.cells x.peers),aa (.slice p.2.A x.wants.length p.2.c) 186 8 x.wants.length (ab WtV.cells x.wants)],fun _ _=>rfl,fun x p u hu=>by
  simp only [List.mem_cons,List.not_mem_nil,or_false] at hu
  rcases hu with rfl | rfl | rfl | rfl | rfl | rfl | rfl | rfl | rfl <;> rfl⟩
def mh:CFn SpV SlP 4:=⟨fun x p=>[i6 x.lan,.slice p.A x.listed.length p.c,.bool x.sent,i6 x.dst],fun x p=>[aa (.slice p.A x.listed.length p.c) 3 1 x.listed.length (aw x.listed)],fun _ _=>rfl,fun x p u hu=>by
  simp only [List.mem_cons,List.not_mem_nil,or_false] at hu
  rcases hu with rfl | rfl | rfl | rfl <;> rfl⟩
def bW:CFn FrV SlP 4:=⟨fun x p=>[i6 x.lan,i6 x.frm,i6 x.dst,.slice p.A x.bs.length p.c],fun x p=>[aa (.slice p.A x.bs.length p.c) 5 1 x.bs.length (u8s x.bs)],fun _ _=>rfl,fun x p u hu=>by
  simp only [List.mem_cons,List.not_mem_nil,or_false] at hu
  rcases hu with rfl | rfl | rfl | rfl <;> rfl⟩
section
theorem rx {α β γ:Type} [DecidableEq α] (f:β → γ) (x:α) (v:β):∀ (l:List (α × β)),aV x (f v) (l.map fun p=>(p.1,f p.2)) = (aV x v l).map fun p=>(p.1,f p.2)
  | []=>rfl
  | (k,u)::l=>by
    simp only [List.map_cons,aV]
    split
    · rfl
    · rw [rx f x v l];rfl
theorem ov {α β γ:Type} [DecidableEq α] (f:β → γ) (x:α):∀ (l:List (α × β)),bS x (l.map fun p=>(p.1,f p.2)) = (bS x l).map fun p=>(p.1,f p.2)
  | []=>rfl
  | (k,v)::l=>by
    simp only [List.map_cons,bS]
    split
    · rfl
    · rw [ov f x l];rfl
theorem oL {α β γ:Type} [DecidableEq α] (f:β → γ) (x:α):∀ (l:List (α × β)),au x (l.map fun p=>(p.1,f p.2)) = (au x l).map f
  | []=>rfl
  | (k,v)::l=>by
    simp only [List.map_cons,au]
    split
    · rfl
    · exact oL f x l
structure MFn (α β π:Type) where
  ek:α → Value
  val:β → π → Value
  inner:β → π → List Atom
section
variable {α β π:Type} {κ:Kap} {L I:List Atom} {w:World}
def MFn.ev (F:MFn α β π) (x:β × π):Value:=F.val x.1 x.2
def dI (F:MFn α β π) (q:List (α × β × π)):Atom:=bi (q.flatMap fun x=>F.inner x.2.1 x.2.2)
def MFn.out (q:List (α × β × π)):List (α × β):=q.map fun x=>(x.1,x.2.1)
def Av (F:MFn α β π) (m:Nat) (l:List (α × β)) (q:List (α × β × π)):Atom:=fK (MFn.out q = l) (bi [bq F.ek F.ev m q,dI F q])
def fS (F:MFn α β π) (m:Nat) (l:List (α × β)):Atom:=exA (Av F m l)
theorem cd {F:MFn α β π} {m:Nat} {l:List (α × β)} (h:S κ (fS F m l::L) I w):∃ q,MFn.out q = l∧S κ (bq F.ek F.ev m q::dI F q::L) I w:=by
  obtain ⟨q,h⟩:=h.ex_open
  obtain ⟨h1,h2⟩:=h.pure_open
  exact ⟨q,h1,h2.sep_open⟩
theorem bd {F:MFn α β π} {m:Nat} {l:List (α × β)} {q:List (α × β × π)} (h1:MFn.out q = l) (h:S κ (bq F.ek F.ev m q::dI F q::L) I w):S κ (fS F m l::L) I w:=
  S.ex_close (f:=Av F m l) q (S.pure_close h1 (S.sep_close (l:=[_,_]) h))
theorem rf [DecidableEq α] {l:List (α × β)} {q:List (α × β × π)} (h:MFn.out q = l) (x:α):au x l = (au x q).map (·.1):=by
  rw [← h];exact oL (fun y:β × π=>y.1) x q
theorem gk [DecidableEq α] {l:List (α × β)} {q:List (α × β × π)} (h:MFn.out q = l) (x:α) (v:β) (p:π):MFn.out (aV x (v,p) q) = aV x v l:=by
  rw [← h];exact (rx (fun y:β × π=>y.1) x (v,p) q).symm
theorem ni [DecidableEq α] {l:List (α × β)} {q:List (α × β × π)} (h:MFn.out q = l) (x:α):MFn.out (bS x q) = bS x l:=by
  rw [← h];exact (ov (fun y:β × π=>y.1) x q).symm
theorem qK [DecidableEq α] (f:α × β × π → List Atom) (x:α) {v:β} {p:π}:∀ {q:List (α × β × π)},au x q = some (v,p) → (q.flatMap f).Perm (f (x,v,p) ++ (bS x q).flatMap f)
  | [],h=>by cases h
  | (k,u)::q,h=>by
    unfold au at h
    unfold bS
    split at h
    · rename_i e
      cases h
      rw [if_pos e,List.flatMap_cons,e]
    · rename_i e
      rw [if_neg e,List.flatMap_cons,List.flatMap_cons]
      have:=(qK f x h).append_left (f (k,u))
      refine this.trans ?_
      rw [← List.append_assoc,← List.append_assoc]
      exact List.perm_append_comm.append_right _
theorem qL [DecidableEq α] (f:α × β × π → List Atom) (x:α) (v:β) (p:π):∀ (q:List (α × β × π)),((aV x (v,p) q).flatMap f).Perm (f (x,v,p) ++ (bS x q).flatMap f)
  | []=>by simp [aV,bS]
  | (k,u)::q=>by
    unfold aV bS
    split
    · rename_i e
      rw [List.flatMap_cons,e]
    · rw [List.flatMap_cons,List.flatMap_cons]
      refine ((qL f x v p q).append_left (f (k,u))).trans ?_
      rw [← List.append_assoc,← List.append_assoc]
      exact List.perm_append_comm.append_right _
theorem S.sepSub {l l':List Atom} (hs:l'.Sublist l) (h:S κ (bi l::L) I w):S κ (bi l'::L) I w:=by
  obtain ⟨m,hm⟩:=hs.exists_perm_append
  have h1:=h.sep_open.perm (hm.append_right L)
  rw [List.append_assoc] at h1
  have h2:=S.sep_close (l:=l') h1
  have h3:S κ (m ++ (bi l'::L)) I w:=h2.perm (List.perm_middle (l₁:=m) (a:=bi l') (l₂:=L)).symm
  exact (S.sep_close (l:=m) h3).drop
theorem lS {γ δ:Type} (f:γ → List δ) {l l':List γ} (h:l'.Sublist l):(l'.flatMap f).Sublist (l.flatMap f):=by
  induction h with
  | slnil=>exact List.Sublist.refl _
  | cons a _ ih=>rw [List.flatMap_cons];exact ih.trans (List.sublist_append_right _ _)
  | cons_cons a _ ih=>rw [List.flatMap_cons,List.flatMap_cons];exact (List.Sublist.refl _).append ih
theorem pR [DecidableEq α] {F:MFn α β π} {q:List (α × β × π)} {x:α} {v:β} {p:π} (hl:au x q = some (v,p)) (h:S κ (dI F q::L) I w):S κ (F.inner v p ++ dI F (bS x q)::L) I w:=by
  have h1:=h.sep_open.perm ((qK (fun x=>F.inner x.2.1 x.2.2) x hl).append_right L)
  rw [List.append_assoc] at h1
  exact (S.sep_close (l:=(bS x q).flatMap fun x=>F.inner x.2.1 x.2.2) (h1.perm (by
    rw [← List.append_assoc,← List.append_assoc];exact List.perm_append_comm.append_right _))).perm List.perm_middle.symm
theorem xy {F:MFn α β π} {q:List (α × β × π)} {p:α × β × π} (hp:p ∈ q) (h:S κ (dI F q::L) I w):∃ R:Atom,S κ (F.inner p.2.1 p.2.2 ++ R::L) I w∧∀ (L' I':List Atom) (w':World),S κ (F.inner p.2.1 p.2.2 ++ R::L') I' w' → S κ (dI F q::L') I' w':=by
  obtain ⟨l1,l2,rfl⟩:=List.append_of_mem hp
  have hperm:((l1 ++ p::l2).flatMap fun x=>F.inner x.2.1 x.2.2).Perm (F.inner p.2.1 p.2.2 ++ (l1 ++ l2).flatMap fun x=>F.inner x.2.1 x.2.2):=by
    rw [List.flatMap_append,List.flatMap_cons,List.flatMap_append,← List.append_assoc,← List.append_assoc]
    exact List.perm_append_comm.append_right _
  refine ⟨bi ((l1 ++ l2).flatMap fun x=>F.inner x.2.1 x.2.2),?_,fun L' I' w' h'=>?_⟩
  · have h1:=h.sep_open.perm (hperm.append_right L)
    rw [List.append_assoc] at h1
    exact (S.sep_close (l:=(l1 ++ l2).flatMap fun x=>F.inner x.2.1 x.2.2) (h1.perm (by
      rw [← List.append_assoc,← List.append_assoc];exact List.perm_append_comm.append_right _))).perm List.perm_middle.symm
  · refine S.sep_close ?_
    have h1:=(h'.perm List.perm_middle).sep_open
    refine h1.perm ?_
    refine List.Perm.trans ?_ (hperm.symm.append_right L')
    rw [List.append_assoc,← List.append_assoc,← List.append_assoc]
    exact List.perm_append_comm.append_right _
theorem iq [DecidableEq α] {F:MFn α β π} {q:List (α × β × π)} {x:α} {v:β} {p:π} (h:S κ (F.inner v p ++ dI F (bS x q)::L) I w):S κ (dI F (aV x (v,p) q)::L) I w:=by
  refine S.sep_close ?_
  have h1:=(h.perm List.perm_middle).sep_open
  refine h1.perm ?_
  refine List.Perm.trans ?_ ((qL (fun x=>F.inner x.2.1 x.2.2) x v p q).symm.append_right L)
  rw [List.append_assoc,← List.append_assoc,← List.append_assoc]
  exact List.perm_append_comm.append_right _
theorem mw [DecidableEq α] {F:MFn α β π} {q:List (α × β × π)} {x:α} {v:β} {p:π} (h:S κ (F.inner v p ++ dI F q::L) I w):S κ (dI F (aV x (v,p) q)::L) I w:=by
  have h1:S κ (dI F (bS x q)::(F.inner v p ++ L)) I w:=S.sepSub (lS _ (ij q)) (h.perm List.perm_middle)
  exact iq (h1.perm List.perm_middle.symm)
theorem pS [DecidableEq α] {F:MFn α β π} {q:List (α × β × π)} {x:α} (h:S κ (dI F q::L) I w):S κ (dI F (bS x q)::L) I w:=S.sepSub (lS _ (ij q)) h
theorem jJ {ev:β → Value} {ek:α → Value} {m:Nat} {q q':List (α × β)} (h:q.map (fun x=>(x.1,ev x.2)) = q'.map (fun x=>(x.1,ev x.2))) (hS:S κ (bq ek ev m q::L) I w):S κ (bq ek ev m q'::L) I w:=by
  refine hS.imp fun w f ⟨h1,es,c,h2,h3⟩=>⟨h1,es,c,h2,?_⟩
  have hk:q.map (·.1) = q'.map (·.1):=by
    have:=congrArg (List.map (·.1)) h
    rw [List.map_map,List.map_map] at this;exact this
  have he:q.map (fun p=>(ek p.1,ev p.2)) = q'.map (fun p=>(ek p.1,ev p.2)):=by
    have:=congrArg (List.map (fun y:α × Value=>(ek y.1,y.2))) h
    rw [List.map_map,List.map_map] at this;exact this
  have h4:=h3.ents
  unfold Ents at h4
  exact { h3 with ents:=by unfold Ents;rw [← he];exact h4,nodup:=by rw [← hk];exact h3.nodup }
theorem ku [DecidableEq α] {ev:β → Value} {x:α} {v v':β} (hv:ev v' = ev v):∀ {q:List (α × β)},au x q = some v → q.map (fun y=>(y.1,ev y.2)) = (aV x v' q).map (fun y=>(y.1,ev y.2))
  | [],h=>by cases h
  | (k,u)::q,h=>by
    unfold au at h
    unfold aV
    split at h
    · rename_i e
      cases h
      rw [if_pos e,List.map_cons,List.map_cons,hv,e]
    · rename_i e
      rw [if_neg e,List.map_cons,List.map_cons,ku hv h]
end
section
variable {α β π:Type} {l:List (α × β)} {q:List (α × β × π)} {x:α} {v:β} {p:π}
theorem ir [DecidableEq α] (h:MFn.out q = l) (hl:au x q = none):au x l = none:=by rw [rf h,hl];rfl
theorem cC [DecidableEq α] (h:MFn.out q = l) (hl:au x q = some (v,p)):au x l = some v:=by rw [rf h,hl];rfl
theorem ki (h:MFn.out q = l):q.length = l.length:=by rw [← h];unfold MFn.out;rw [List.length_map]
theorem rl {es:List (α × β × π)} (h:MFn.out q = l) (hp:es.Perm q):(MFn.out es).Perm l:=by rw [← h];exact hp.map _
theorem td (h:MFn.out q = l) (hn:(q.map (·.1)).Nodup):(l.map (·.1)).Nodup:=by rw [← h];unfold MFn.out;rw [List.map_map];exact hn
theorem xD [DecidableEq α] {n:Nat} (h:MFn.out q = l) (hn:n ≤ q.length):n ≤ l.length:=by rw [← ki h];exact hn
theorem oW [DecidableEq α] {γ:Type}:∀ {l:List (α × γ)} {x:α} {v:γ},au x l = some v → aV x v l = l
  | [],x,v,h=>by cases h
  | (k,u)::l,x,v,h=>by
    unfold au at h
    unfold aV
    split at h
    · rename_i e;cases h;rw [if_pos e,e]
    · rename_i e;rw [if_neg e,oW h]
theorem nj [DecidableEq α] {p':π} (h:MFn.out q = l) (hl:au x q = some (v,p)):MFn.out (aV x (v,p') q) = l:=by
  rw [gk h x v p',oW (cC h hl)]
end
def zy (W:World) (F:List Nat):Atom where
  holds w fp:=fp = F∧∀ b ∈ F,b < W.heap.size∧w.heap[b]? = W.heap[b]?
  loc:=fun ⟨h1,h2⟩ hb=>⟨h1,fun b hm=>⟨(h2 b hm).1,(hb b (by rw [h1];exact hm)).trans (h2 b hm).2⟩⟩
  dom:=fun ⟨h1,h2⟩ b hb=>by
    rw [h1] at hb
    obtain ⟨h3,h4⟩:=h2 b hb
    rw [Array.getElem?_eq_getElem h3] at h4
    exact (Array.getElem?_eq_some_iff.1 h4).1
theorem ue {w:World} {fp:List Nat}:∀ {I:List Atom},(∀ i ∈ I,∃ f,i.holds w f∧∀ b ∈ f,b ∉ fp) → ∃ G:List Nat,(∀ b ∈ G,b ∉ fp∧b < w.heap.size)∧∀ i ∈ I,∃ f,i.holds w f∧∀ b ∈ f,b ∈ G
  | [],_=>⟨[],fun b h=>(by cases h),fun i h=>(by cases h)⟩
  | a::I,h=>by
    obtain ⟨f,h1,h2⟩:=h a List.mem_cons_self
    obtain ⟨G,h3,h4⟩:=ue (fun i hi=>h i (List.mem_cons_of_mem _ hi))
    refine ⟨f ++ G,fun b hb=>?_,fun i hi=>?_⟩
    · rcases List.mem_append.1 hb with hb | hb
      · exact ⟨h2 b hb,a.dom h1 b hb⟩
      · exact h3 b hb
    · rcases List.mem_cons.1 hi with rfl | hi
      · exact ⟨f,h1,fun b hb=>List.mem_append_left _ hb⟩
      · obtain ⟨g,h5,h6⟩:=h4 i hi
        exact ⟨g,h5,fun b hb=>List.mem_append_right _ (h6 b hb)⟩
theorem S.lend {κ:Kap} {M L I:List Atom} {w:World} (h:S κ (M ++ L) I w):∃ m:Atom,S κ L (M ++ m::I) w∧∀ (L':List Atom) (w':World),S κ L' (M ++ m::I) w' → S κ (M ++ L') I w':=by
  obtain ⟨hk,fp,hs,hI⟩:=h
  obtain ⟨f1,f2,rfl,hd,h1,h2⟩:=Sep.app.1 hs
  obtain ⟨G,h3,h4⟩:=ue hI
  refine ⟨zy w (f1 ++ G),⟨hk,f2,h2,fun i hi=>?_⟩,fun L' w' h'=>?_⟩
  · rcases List.mem_append.1 hi with hi | hi
    · obtain ⟨j,hj⟩:=List.mem_iff_getElem?.1 hi
      obtain ⟨g,h5,h6⟩:=Sep.sub h1 hj
      exact ⟨g,h5,fun b hb=>hd b (h6 b hb)⟩
    · rcases List.mem_cons.1 hi with rfl | hi
      · refine ⟨f1 ++ G,⟨rfl,fun b hb=>⟨?_,rfl⟩⟩,fun b hb=>?_⟩
        · rcases List.mem_append.1 hb with hb | hb
          · exact h1.dom b hb
          · exact (h3 b hb).2
        · rcases List.mem_append.1 hb with hb | hb
          · exact hd b hb
          · exact fun hc=>(h3 b hb).1 (List.mem_append_right _ hc)
      · obtain ⟨f,h5,h6⟩:=h4 i hi
        exact ⟨f,h5,fun b hb hc=>(h3 b (h6 b hb)).1 (List.mem_append_right _ hc)⟩
  · obtain ⟨hk',fp',hs',hI'⟩:=h'
    obtain ⟨f,⟨hf,hm⟩,hn⟩:=hI' (zy w (f1 ++ G)) (List.mem_append_right _ List.mem_cons_self)
    subst hf
    refine ⟨hk',f1 ++ fp',Sep.app.2 ⟨f1,fp',rfl,fun b hb=>hn b (List.mem_append_left _ hb),h1.loc fun b hb=>(hm b (List.mem_append_left _ hb)).2,hs'⟩,fun i hi=>?_⟩
    obtain ⟨g,h5,h6⟩:=h4 i hi
    refine ⟨g,i.loc h5 fun b hb=>(hm b (List.mem_append_right _ (h6 b hb))).2,fun b hb hc=>?_⟩
    rcases List.mem_append.1 hc with hc | hc
    · exact (h3 b (h6 b hb)).1 (List.mem_append_left _ hc)
    · exact hn b (List.mem_append_right _ (h6 b hb)) hc
section
variable {P:Program} {o:Oper} {a:Act} {w:World}
def zw (P:Program) (t:Nat):Bool:=match P.underlying t with | some (.map _ _)=>true | _=>false
theorem xQ {α β:Type} [DecidableEq α] {ek:α → Value} {ev:β → Value} {κ:Kap} {L I:List Atom} {x:Operand} {t:TypeId} {b i n:Nat} {l:List (α × β)} (ho:o.op = .call { callee:=.builtin .len,args:=#[x],argTypes:=#[t] }) (hS:S κ L I w) (hi:L[i]? = some (bq ek ev b l)) (hx:a.eval x = .map (some b)) (hn:l.length = n)
    (ht:zw P t = true:=by kernel_rfl):(execOp a.eval o).run P w = .ok (.value (.int .i64 n)) w:=by
  unfold zw at ht
  split at ht
  · rename_i k e hu
    obtain ⟨es,c,h1,h2⟩:=hS.mapAt hi
    have h3:=h2.size
    unfold execOp;simp only [ho]
    simp [resolve,invoke,builtin,Builtin.len_,run_underlying hu,hx,goInt,MapKept.run_getObj_map h1,h3,hn,Result.andThen]
  · cases ht
theorem xR {x y:Operand} {ts:Array TypeId} {p q:Int} (ho:o.op = .call { callee:=.builtin .max,args:=#[x,y],argTypes:=ts }) (hx:a.eval x = .int .i64 p) (hy:a.eval y = .int .i64 q):(execOp a.eval o).run P w = .ok (.value (.int .i64 (max p q))) w:=
  rM ho hx hy (by rw [Int.max_def];split <;> split <;> omega)
end
end
section
structure DbS where
  room:Int
  l:List (KeyV × LV)
def lsMF:MFn KeyV LV LP:=⟨dZ,fun x p=>.agg (lsFn.cells x p).toArray,lsFn.inner⟩
def hdMF:MFn Int (List HD) SlP:=⟨eN,fun l p=>.slice p.A l.length p.c,fun l p=>[aa (.slice p.A l.length p.c) 63 7 l.length (ab aH l)]⟩
def dbA (g:Nat) (d:DbS):Atom:=exA fun m=>bi [ai g 192 #[.int .i64 d.room,.map (some m)],fS lsMF m d.l]
def dL (g:Nat) (l:List (Int × List HD)):Atom:=exA fun m=>bi [ai g 178 #[.map (some m)],fS hdMF m l]
def xa (h:HD):Value:=.agg (aH h).toArray
def tN (g:Nat) (l:List (KeyV × HD)):Atom:=exA fun m=>bi [ai g 271 #[.map (some m)],bq dZ xa m l]
section
variable {κ:Kap} {L I:List Atom} {w:World} {g:Nat}
theorem iT {d:DbS} (h:S κ (dbA g d::L) I w):∃ m,S κ (ai g 192 #[.int .i64 d.room,.map (some m)]::fS lsMF m d.l::L) I w:=by
  obtain ⟨m,h⟩:=h.ex_open
  exact ⟨m,h.sep_open⟩
theorem d7 {d:DbS} {m:Nat} (h:S κ (ai g 192 #[.int .i64 d.room,.map (some m)]::fS lsMF m d.l::L) I w):S κ (dbA g d::L) I w:=
  S.ex_close (f:=fun m=>bi [ai g 192 #[.int .i64 d.room,.map (some m)],fS lsMF m d.l]) m (S.sep_close (l:=[_,_]) h)
theorem uR {l:List (Int × List HD)} (h:S κ (dL g l::L) I w):∃ m,S κ (ai g 178 #[.map (some m)]::fS hdMF m l::L) I w:=by
  obtain ⟨m,h⟩:=h.ex_open
  exact ⟨m,h.sep_open⟩
theorem gC {l:List (Int × List HD)} {m:Nat} (h:S κ (ai g 178 #[.map (some m)]::fS hdMF m l::L) I w):S κ (dL g l::L) I w:=
  S.ex_close (f:=fun m=>bi [ai g 178 #[.map (some m)],fS hdMF m l]) m (S.sep_close (l:=[_,_]) h)
theorem kj {α β π:Type} [DecidableEq α] {F:MFn α β π} {m:Nat} (h:S κ (bq F.ek F.ev m ([]:List (α × β × π))::L) I w):S κ (fS F m []::L) I w:=
  bd (q:=[]) rfl ((S.sep_close (l:=[]) h).perm (List.Perm.swap _ _ _))
end
end
section
def ptO:Option Nat → Value
  | none=>.pointer none
  | some a=>.pointer (some ⟨a,0,none⟩)
def kl {α:Type} (P:Nat → α → Atom):Option Nat → Option α → Atom
  | some g,some x=>P g x
  | none,none=>bi []
  | _,_=>fK False (bi [])
section
variable {κ:Kap} {L I:List Atom} {w:World} {α:Type} {P:Nat → α → Atom}
theorem vC {o:Option Nat} {s:Option α} (h:S κ (kl P o s::L) I w):(o = none∧s = none∧S κ L I w) ∨ ∃ g x,o = some g∧s = some x∧S κ (P g x::L) I w:=by
  cases o with
  | none=>
    cases s with
    | none=>exact .inl ⟨rfl,rfl,S.sep_open (l:=[]) h⟩
    | some x=>exact absurd h.pure_open.1 id
  | some g=>
    cases s with
    | none=>exact absurd h.pure_open.1 id
    | some x=>exact .inr ⟨g,x,rfl,rfl,h⟩
end
structure SuS where
  l:List HD
  at_:Int
structure ExS where
  self:Int
  other:Int
  seq:Int
  agreed:Bool
  leads:Bool
  done:Bool
  li:Bool
  lm:Bool
  lM:Bool
  lq:Int
  si:Bool
  sm:Bool
  sM:Bool
  sq:Int
  sh:List HD
  s:Option SuS
def ye (g:Nat) (x:SuS):Atom:=exA fun e:SlP=>bi [ai g 407 #[.slice e.A x.l.length e.c,i6 x.at_],aa (.slice e.A x.l.length e.c) 63 7 x.l.length (ab aH x.l)]
def wT (g:Nat) (x:ExS):Atom:=exA fun e:SlP × Option Nat=>bi [ai g 292 #[i6 x.self,i6 x.other,i6 x.seq,.bool x.agreed,.bool x.leads,.bool x.done,.bool x.li,.bool x.lm,.bool x.lM,i6 x.lq,.bool x.si,.bool x.sm,.bool x.sM,i6 x.sq,.slice e.1.A x.sh.length e.1.c,ptO e.2],aa (.slice e.1.A x.sh.length e.1.c) 63 7 x.sh.length (ab aH x.sh),kl ye e.2 x.s]
end
section
def jY {α:Type} (F:Nat → α → Atom) (qs:List (Option Nat)) (l:List (Option α)):Atom:=bi (List.zipWith (kl F) qs l)
def wF {α:Type} (F:Nat → α → Atom) (qs:List (Option Nat)) (l:List (Option α)) (k:Nat):Atom:=bi ((List.zipWith (kl F) qs l).eraseIdx k)
def aL {α:Type} (l:List (Option α)) (i:Int):Option α:=if 0 ≤ i then l.getD i.toNat none else none
theorem gN {α:Type} {l:List (Option α)} {i:Int} {x:α} (h:aL l i = some x):0 ≤ i∧l[i.toNat]? = some (some x):=by
  unfold aL at h
  split at h
  · rename_i h0
    rw [List.getD_eq_getElem?_getD] at h
    cases e:l[i.toNat]? with
    | none=>rw [e] at h;cases h
    | some y=>rw [e] at h;exact ⟨h0,congrArg some h⟩
  · cases h
theorem ip {α:Type} {l:List (Option α)} {i:Int} {y:Option α} (h0:0 ≤ i) (h:l[i.toNat]? = some y):aL l i = y:=by
  unfold aL;rw [if_pos h0,List.getD_eq_getElem?_getD,h];rfl
theorem k7 {α:Type} {l:List (Option α)} {i:Int} {x:α} (y:α) (h:aL l i = some x):aL (l.set i.toNat (some y)) i = some y:=by
  obtain ⟨h0,h1⟩:=gN h
  refine ip h0 ?_
  rw [List.getElem?_set_self (List.getElem?_eq_some_iff.1 h1).1]
theorem sW {α:Type} {l:List (Option α)} {i:Int} {x:α} (h:aL l i = some x):l.set i.toNat (some x) = l:=by
  obtain ⟨h0,h1⟩:=gN h
  obtain ⟨h2,h3⟩:=List.getElem?_eq_some_iff.1 h1
  rw [← h3,List.set_getElem_self]
section
variable {κ:Kap} {L I:List Atom} {w:World} {α:Type} {F:Nat → α → Atom} {qs:List (Option Nat)} {l:List (Option α)}
theorem fh (i:Int) (hl:l.length = qs.length) (h:S κ (jY F qs l::L) I w):(aL qs i = none∧aL l i = none∧S κ (jY F qs l::L) I w) ∨ ∃ g x,aL qs i = some g∧aL l i = some x∧S κ (F g x::wF F qs l i.toNat::L) I w:=by
  by_cases h0:0 ≤ i
  · by_cases h1:i.toNat < l.length
    · have e1:qs[i.toNat]? = some qs[i.toNat]:=List.getElem?_eq_getElem (by omega)
      have e2:l[i.toNat]? = some l[i.toNat]:=List.getElem?_eq_getElem h1
      rw [ip h0 e1,ip h0 e2]
      have e3:(List.zipWith (kl F) qs l)[i.toNat]? = some (kl F qs[i.toNat] l[i.toNat]):=by rw [List.getElem?_zipWith,e1,e2]
      have h4:=S.sep_at h e3
      rcases vC h4 with ⟨a,b,_⟩ | ⟨g,x,a,b,h5⟩
      · exact .inl ⟨a,b,h⟩
      · exact .inr ⟨g,x,a,b,h5⟩
    · refine .inl ⟨?_,?_,h⟩ <;> (unfold aL;rw [if_pos h0,List.getD_eq_getElem?_getD,List.getElem?_eq_none (by omega)];rfl)
  · refine .inl ⟨?_,?_,h⟩ <;> (unfold aL;rw [if_neg h0])
theorem jZ {i:Int} {g:Nat} {x y:α} (hq:aL qs i = some g) (hs:aL l i = some x) (h:S κ (F g y::wF F qs l i.toNat::L) I w):S κ (jY F qs (l.set i.toNat (some y))::L) I w:=by
  obtain ⟨h0,h1⟩:=gN hq
  obtain ⟨_,h2⟩:=gN hs
  have e3:(List.zipWith (kl F) qs l)[i.toNat]? = some (kl F (some g) (some x)):=by rw [List.getElem?_zipWith,h1,h2]
  have h4:=S.sep_put (c:=kl F (some g) (some y)) h e3
  have e:(List.zipWith (kl F) qs l).set i.toNat (kl F (some g) (some y)) = List.zipWith (kl F) qs (l.set i.toNat (some y)):=by
    refine List.ext_getElem? fun j=>?_
    rw [List.getElem?_zipWith,List.getElem?_set,List.getElem?_set,List.getElem?_zipWith]
    have hlen:i.toNat < (List.zipWith (kl F) qs l).length:=(List.getElem?_eq_some_iff.1 e3).1
    have hlen2:i.toNat < l.length:=(List.getElem?_eq_some_iff.1 h2).1
    by_cases hj:i.toNat = j
    · subst hj
      simp only [if_true,hlen,hlen2,h1]
    · simp only [hj,if_false]
  rw [e] at h4
  exact h4
theorem bo {i:Int} {g:Nat} {x:α} (hq:aL qs i = some g) (hs:aL l i = some x) (h:S κ (F g x::wF F qs l i.toNat::L) I w):S κ (jY F qs l::L) I w:=by
  have h2:=jZ hq hs h
  rwa [sW hs] at h2
end
section
variable {κ:Kap} {L I:List Atom} {w:World} {α:Type} {F:Nat → α → Atom} {qs:List (Option Nat)} {l:List (Option α)}
theorem sw {i:Int} {x:α} (hs:aL l i = some x) (hl:l.length = qs.length) (h:S κ (jY F qs l::L) I w):∃ g,aL qs i = some g∧S κ (F g x::wF F qs l i.toNat::L) I w:=by
  rcases fh i hl h with ⟨_,b,_⟩ | ⟨g,y,a,b,h5⟩
  · rw [hs] at b;cases b
  · rw [hs] at b;cases b;exact ⟨g,a,h5⟩
theorem py {i:Int} {x:α} {g:Nat} (hq:aL qs i = some g) (hs:aL l i = some x) (hl:l.length = qs.length) (h:S κ (jY F qs l::L) I w):S κ (F g x::wF F qs l i.toNat::L) I w:=by
  obtain ⟨g',h1,h2⟩:=sw hs hl h
  rw [hq] at h1;cases h1;exact h2
end
theorem mX {i:Int} (h0:0 ≤ i) (h1:i < 4):i = 0 ∨ i = 1 ∨ i = 2 ∨ i = 3:=by omega
theorem zu {w:World} {g T m:Nat} {c:Array Value} {a b d e:Option Nat} {i:Int} (hb:Blk w g T c) (h0:0 ≤ i) (h1:i < 4) (ha:c[m]? = some (ptO a)) (hbb:c[m + 1]? = some (ptO b)) (hd:c[m + 2]? = some (ptO d)) (he:c[m + 3]? = some (ptO e)):w.cell? ⟨g,m + i.toNat,none⟩ = some (ptO (aL [a,b,d,e] i)):=by
  rcases mX h0 h1 with rfl | rfl | rfl | rfl
  · exact (hb.cell _).trans ha
  · exact (hb.cell _).trans hbb
  · exact (hb.cell _).trans hd
  · exact (hb.cell _).trans he
theorem yw {a b d e:Option Nat} {i:Int} (h0:0 ≤ i) (h1:i < 4):(#[ptO a,ptO b,ptO d,ptO e]:Array Value)[i.toNat]? = some (ptO (aL [a,b,d,e] i)):=by
  rcases mX h0 h1 with rfl | rfl | rfl | rfl <;> rfl
theorem mj {c:Array Value} {cs:List Value} {n m j:Nat} {u:Value} (h:(c.toList.drop m).take n = cs) (hj:cs[j]? = some u):c[m + j]? = some u:=by
  subst h
  rw [List.getElem?_take] at hj
  split at hj
  · rw [List.getElem?_drop] at hj;rw [← hj];simp
  · cases hj
end
section
set_option maxRecDepth 20000
set_option maxHeartbeats 1000000
def h0:HD:=⟨0,0,0,0,0,0,0⟩
theorem jv (x y:KeyV) (w:World):(Op.equal 111 (.agg (KeyV.cells x).toArray) (.agg (KeyV.cells y).toArray)).run Tryz.prog w = .ok (decide (x = y)) w:=by
  obtain ⟨a0,a1,a2⟩:=x
  obtain ⟨b0,b1,b2⟩:=y
  dsimp only [KeyV.cells]
  unfold Op.equal Op.maxDepth
  go_simp
  repeat' split
  all_goals simp_all
theorem qk (x y:KeyV) (w:World):(binOp .eql 111 (.agg #[i6 x.kind,i6 x.id,i6 x.adv]) (.agg #[i6 y.kind,i6 y.id,i6 y.adv])).run Tryz.prog w = .ok (.bool (decide (x = y))) w:=by
  have h:(Op.equal 111 (.agg #[i6 x.kind,i6 x.id,i6 x.adv]) (.agg #[i6 y.kind,i6 y.id,i6 y.adv])).run Tryz.prog w = .ok (decide (x = y)) w:=jv x y w
  show (Sem.bind (Op.equal 111 _ _) fun b=>pure (Value.bool b)).run _ _ = _
  exact (Sem.run_bind _ _ _ _).trans (by rw [h];rfl)
theorem ww (x y:KeyV) (w:World):(binOp .neq 111 (.agg #[i6 x.kind,i6 x.id,i6 x.adv]) (.agg #[i6 y.kind,i6 y.id,i6 y.adv])).run Tryz.prog w = .ok (.bool (decide (x ≠ y))) w:=by
  have h:(Op.equal 111 (.agg #[i6 x.kind,i6 x.id,i6 x.adv]) (.agg #[i6 y.kind,i6 y.id,i6 y.adv])).run Tryz.prog w = .ok (decide (x = y)) w:=jv x y w
  show (Sem.bind (Op.equal 111 _ _) fun b=>pure (Value.bool !b)).run _ _ = _
  exact (Sem.run_bind _ _ _ _).trans (by rw [h];simp)
theorem bY:KeyK Tryz.prog 111 dZ:=KeyK.ofStruct Tryz.underlying111 (jv) (fun e x w=>by
  obtain ⟨a0,a1,a2⟩:=x
  kernel_rfl) (fun x=>by
  obtain ⟨a0,a1,a2⟩:=x
  simp [Instr.sameBits,dZ,KeyV.cells])
theorem uO (x y:EnV) (w:World):(Op.equal 223 (.agg (EnV.cells x).toArray) (.agg (EnV.cells y).toArray)).run Tryz.prog w = .ok (decide (x = y)) w:=by
  obtain ⟨a0,a1,a2,a3,a4⟩:=x
  obtain ⟨b0,b1,b2,b3,b4⟩:=y
  dsimp only [EnV.cells]
  unfold Op.equal Op.maxDepth
  go_simp
  repeat' split
  all_goals simp_all
theorem zQ:KeyK Tryz.prog 223 enE:=KeyK.ofStruct Tryz.underlying223 (uO) (fun e x w=>by
  obtain ⟨a0,a1,a2,a3,a4⟩:=x
  kernel_rfl) (fun x=>by
  obtain ⟨a0,a1,a2,a3,a4⟩:=x
  simp [Instr.sameBits,enE,EnV.cells])
theorem m7 (x y:HD) (w:World):(Op.equal 63 (.agg (aH x).toArray) (.agg (aH y).toArray)).run Tryz.prog w = .ok (decide (x = y)) w:=by
  obtain ⟨a0,a1,a2,a3,a4,a5,a6⟩:=x
  obtain ⟨b0,b1,b2,b3,b4,b5,b6⟩:=y
  dsimp only [aH]
  unfold Op.equal Op.maxDepth
  go_simp
  repeat' split
  all_goals simp_all
theorem xd (x y:HD) (w:World):(binOp .eql 63 (.agg #[i6 x.age,i6 x.kind,i6 x.id,i6 x.adv,i6 x.seq,i6 x.sum,i6 x.long]) (.agg #[i6 y.age,i6 y.kind,i6 y.id,i6 y.adv,i6 y.seq,i6 y.sum,i6 y.long])).run Tryz.prog w = .ok (.bool (decide (x = y))) w:=by
  have h:(Op.equal 63 (.agg #[i6 x.age,i6 x.kind,i6 x.id,i6 x.adv,i6 x.seq,i6 x.sum,i6 x.long]) (.agg #[i6 y.age,i6 y.kind,i6 y.id,i6 y.adv,i6 y.seq,i6 y.sum,i6 y.long])).run Tryz.prog w = .ok (decide (x = y)) w:=m7 x y w
  show (Sem.bind (Op.equal 63 _ _) fun b=>pure (Value.bool b)).run _ _ = _
  exact (Sem.run_bind _ _ _ _).trans (by rw [h];rfl)
theorem xe (x y:HD) (w:World):(binOp .neq 63 (.agg #[i6 x.age,i6 x.kind,i6 x.id,i6 x.adv,i6 x.seq,i6 x.sum,i6 x.long]) (.agg #[i6 y.age,i6 y.kind,i6 y.id,i6 y.adv,i6 y.seq,i6 y.sum,i6 y.long])).run Tryz.prog w = .ok (.bool (decide (x ≠ y))) w:=by
  have h:(Op.equal 63 (.agg #[i6 x.age,i6 x.kind,i6 x.id,i6 x.adv,i6 x.seq,i6 x.sum,i6 x.long]) (.agg #[i6 y.age,i6 y.kind,i6 y.id,i6 y.adv,i6 y.seq,i6 y.sum,i6 y.long])).run Tryz.prog w = .ok (decide (x = y)) w:=m7 x y w
  show (Sem.bind (Op.equal 63 _ _) fun b=>pure (Value.bool !b)).run _ _ = _
  exact (Sem.run_bind _ _ _ _).trans (by rw [h];simp)
theorem mt:KeyK Tryz.prog 3 eN:=KeyK.ofInt Tryz.underlying3
end
section
open Go.ChangeMaps (setBlock)
structure SeenOK {α β:Type} (l:List (α × β)) (es:List MapEntry) (seen:Array Nat) (d:List α):Prop where
  size:seen.size = d.length
  mem:∀ (j:Nat) (e:MapEntry) (p:α × β),es[j]? = some e → l[j]? = some p → (seen.contains e.born = true ↔ p.1 ∈ d)
  last:∀ (x:α) (d':List α) (j:Nat) (e:MapEntry) (p:α × β),d = x::d' → es[j]? = some e → l[j]? = some p → p.1 = x → seen.back? = some e.born
def bx {α β:Type} (ek:α → Value) (ev:β → Value) (b r:Nat) (l:List (α × β)) (d:List α):Atom where
  holds w fp:=fp = [b,r]∧b ≠ r∧∃ es clock since seen,w.heap[b]? = some (.map es clock)∧w.heap[r]? = some (.mapIter (some b) since seen clock)∧MapOK ek ev l es clock∧(∀ e ∈ es.toList,e.born < since)∧since ≤ clock∧SeenOK l es.toList seen d
  loc:=fun ⟨h1,h2,es,c,s,n,h3,h4,h5⟩ hb=>⟨h1,h2,es,c,s,n,(hb _ (by rw [h1];simp)).trans h3,(hb _ (by rw [h1];simp)).trans h4,h5⟩
  dom:=fun ⟨h1,h2,es,c,s,n,h3,h4,h5⟩ b hb=>by
    rw [h1] at hb;simp at hb
    rcases hb with rfl | rfl
    · exact (Array.getElem?_eq_some_iff.1 h3).1
    · exact (Array.getElem?_eq_some_iff.1 h4).1
section
variable {α β:Type} {ek:α → Value} {ev:β → Value} {l:List (α × β)} {es:Array MapEntry} {clock:Nat} {seen:Array Nat} {d:List α}
theorem MapOK.len (h:MapOK ek ev l es clock):es.toList.length = l.length:=by
  have:=congrArg List.length h.ents;simpa using this
theorem MapOK.at (h:MapOK ek ev l es clock) {j:Nat} {e:MapEntry} (he:es.toList[j]? = some e):∃ p,l[j]? = some p∧e.key = ek p.1∧e.val = ev p.2:=by
  have h1:(es.toList.map (fun e=>(e.key,e.val)))[j]? = (l.map (fun p=>(ek p.1,ev p.2)))[j]?:=by rw [h.ents]
  rw [List.getElem?_map,List.getElem?_map,he] at h1
  obtain ⟨p,hp,e2⟩:=Option.map_eq_some_iff.1 h1.symm
  simp only [Prod.mk.injEq] at e2
  exact ⟨p,hp,e2.1.symm,e2.2.symm⟩
theorem MapOK.key_at (h:MapOK ek ev l es clock) {i j:Nat} {p q:α × β} (hp:l[i]? = some p) (hq:l[j]? = some q) (e:p.1 = q.1):i = j:=by
  have hn:=h.nodup
  have h1:(l.map (·.1))[i]? = some p.1:=by rw [List.getElem?_map,hp];rfl
  have h2:(l.map (·.1))[j]? = some p.1:=by rw [List.getElem?_map,hq,e];rfl
  exact (List.getElem?_inj (List.getElem?_eq_some_iff.1 h1).1 hn).1 (h1.trans h2.symm)
theorem MapOK.born_nodup (h:MapOK ek ev l es clock):(es.toList.map (·.born)).Nodup:=by
  have:=h.rise
  exact this.imp (fun h=>Nat.ne_of_lt h)
theorem MapOK.born_at (h:MapOK ek ev l es clock) {i j:Nat} {p q:MapEntry} (hp:es.toList[i]? = some p) (hq:es.toList[j]? = some q) (e:p.born = q.born):i = j:=by
  have hn:=h.born_nodup
  have h1:(es.toList.map (·.born))[i]? = some p.born:=by rw [List.getElem?_map,hp];rfl
  have h2:(es.toList.map (·.born))[j]? = some p.born:=by rw [List.getElem?_map,hq,e];rfl
  exact (List.getElem?_inj (List.getElem?_eq_some_iff.1 h1).1 hn).1 (h1.trans h2.symm)
theorem SeenOK.none:SeenOK l es.toList #[] ([]:List α) where
  size:=rfl
  mem:=fun j e p _ _=>by simp
  last:=fun x d' j e p h=>by cases h
theorem SeenOK.push (hm:MapOK ek ev l es clock) (h:SeenOK l es.toList seen d) {j:Nat} {e:MapEntry} {p:α × β} (he:es.toList[j]? = some e) (hp:l[j]? = some p):SeenOK l es.toList (seen.push e.born) (p.1::d) where
  size:=by simp [h.size]
  mem:=fun j' e' p' he' hp'=>by
    rw [contains_push,Bool.or_eq_true,h.mem j' e' p' he' hp',beq_iff_eq,List.mem_cons]
    constructor
    · rintro (h1 | h1)
      · exact .inr h1
      · obtain rfl:=hm.born_at he' he h1
        rw [hp] at hp';cases hp';exact .inl rfl
    · rintro (h1 | h1)
      · obtain rfl:=hm.key_at hp' hp h1
        rw [he] at he';cases he';exact .inr rfl
      · exact .inl h1
  last:=fun x d' j' e' p' hd he' hp' hx=>by
    simp only [List.cons.injEq] at hd
    obtain rfl:=hm.key_at hp' hp (hx.trans hd.1.symm)
    rw [he] at he';cases he';simp
end
section
variable {α β:Type} {P:Program} {ek:α → Value} {ev:β → Value} {κ:Kap} {L I:List Atom} {w:World} {b r i:Nat} {l:List (α × β)} {d:List α}
theorem S.rangeNew (hS:S κ L I w) (hi:L[i]? = some (bq ek ev b l)) {t k e:TypeId} (ht:P.underlying t = some (.map k e)):∃ w',(Instr.range t (.map (some b))).run P w = .ok (.pointer (some ⟨w.heap.size,0,none⟩)) w'∧S κ (L.set i (bx ek ev b w.heap.size l [])) I w':=by
  obtain ⟨f,⟨hf,es,clock,hb,hok⟩,h⟩:=(hS.front hi).turn
  have hlt:=(Array.getElem?_eq_some_iff.1 hb).1
  refine ⟨w.alloc (.mapIter (some b) clock #[] clock),run_range_map w t k e b es clock ht hb,S.back ?_ hi⟩
  refine h _ _ [b,w.heap.size] ⟨rfl,Nat.ne_of_lt hlt,es,clock,clock,#[],?_,(MapKept.heap_alloc w _).1,hok,hok.late,Nat.le_refl _,SeenOK.none⟩ rfl (by simp) (fun b' hb'=>?_) (fun b' hlt' _=>heap_alloc_old w _ hlt')
  · rw [heap_alloc_old w _ hlt];exact hb
  · simp at hb'
    rcases hb' with rfl | rfl
    · left;rw [hf];simp
    · right;exact Nat.le_refl _
theorem S.rangeAt (hS:S κ L I w) (hi:L[i]? = some (bx ek ev b r l d)):∃ es clock,w.heap[b]? = some (.map es clock)∧MapOK ek ev l es clock:=by
  obtain ⟨_,_,_,es,clock,_,_,h1,_,h2,_⟩:=hS.own hi
  exact ⟨es,clock,h1,h2⟩
theorem S.rangeNext (hS:S κ L I w) (hi:L[i]? = some (bx ek ev b r l d)) (ty:TypeId):
    ((∀ p ∈ l,p.1 ∈ d)∧(Instr.next (.pointer (some ⟨r,0,none⟩)) false ty).run P w = .ok (.tuple #[.bool false]) w) ∨
    ∃ p w',p ∈ l∧p.1 ∉ d∧(Instr.next (.pointer (some ⟨r,0,none⟩)) false ty).run P w = .ok (.tuple #[.bool true,ek p.1,ev p.2]) w'∧S κ (L.set i (bx ek ev b r l (p.1::d))) I w':=by
  obtain ⟨f,⟨hf,hne,es,clock,since,seen,hb,hr,hok,hold,hsc,hsn⟩,h⟩:=(hS.front hi).turn
  rcases run_next_at (P:=P) w ty r b since clock seen es clock hr hb hold hsc with ⟨h0,hrun⟩ | ⟨e,he,w1,hw1,hrun⟩
  · left
    refine ⟨fun p hp=>?_,hrun⟩
    have hall:=all_seen es seen h0
    obtain ⟨j,hj⟩:=List.getElem?_of_mem hp
    have hlt:j < es.toList.length:=by rw [hok.len];exact (List.getElem?_eq_some_iff.1 hj).1
    have hej:es.toList[j]? = some es.toList[j]:=List.getElem?_eq_getElem hlt
    exact (hsn.mem j _ p hej hj).1 (hall _ (List.mem_of_getElem? hej))
  · right
    obtain ⟨hm,hc⟩:=mem_left he
    obtain ⟨j,hj⟩:=List.getElem?_of_mem hm
    obtain ⟨p,hp,ek1,ev1⟩:=hok.at hj
    have hw:w1.heap = w.heap:=by rcases hw1 with rfl | rfl <;> rfl
    have hkap:kap (setBlock w1 r (.mapIter (some b) since (seen.push e.born) clock)) = kap w:=by rcases hw1 with rfl | rfl <;> rfl
    have hr1:w1.heap[r]? = some (.mapIter (some b) since seen clock):=by rw [hw];exact hr
    have hs:=MapKept.heap_set (o':=Obj.mapIter (some b) since (seen.push e.born) clock) hr1
    refine ⟨p,setBlock w1 r (.mapIter (some b) since (seen.push e.born) clock),List.mem_of_getElem? hp,fun hd=>?_,by rw [hrun,ek1,ev1],S.back ?_ hi⟩
    · have:=(hsn.mem j e p hj hp).2 hd
      rw [hc] at this;cases this
    · refine h _ _ [b,r] ⟨rfl,hne,es,clock,since,seen.push e.born,?_,hs.1,hok,hold,hsc,hsn.push hok hj hp⟩ hkap (by simp [setBlock,hw]) (fun b' hb'=>.inl (by rw [hf];exact hb')) (fun b' _ hn=>?_)
      · show (w1.heap.setIfInBounds r _)[b]? = _
        rw [hs.2 b hne,hw];exact hb
      · show (w1.heap.setIfInBounds r _)[b']? = _
        rw [hs.2 b' (fun e=>hn (by rw [hf,e];simp)),hw]
theorem S.rangeEntry (hS:S κ L I w) {x:α} {u:β} (hi:L[i]? = some (bx ek ev b r l (x::d))) (hx:(x,u) ∈ l):(Instr.entry (.pointer (some ⟨r,0,none⟩))).run P w = .ok (.tuple #[ek x,ev u]) w:=by
  obtain ⟨_,_,hne,es,clock,since,seen,hb,hr,hok,hold,hsc,hsn⟩:=hS.own hi
  obtain ⟨j,hj⟩:=List.getElem?_of_mem hx
  have hlt:j < es.toList.length:=by rw [hok.len];exact (List.getElem?_eq_some_iff.1 hj).1
  have hej:es.toList[j]? = some es.toList[j]:=List.getElem?_eq_getElem hlt
  generalize es.toList[j] = e at hej
  have hl:=hsn.last x d j e _ rfl hej hj rfl
  obtain ⟨p,hp,ek1,ev1⟩:=hok.at hej
  rw [hj] at hp;cases hp
  obtain ⟨ys,rfl⟩:=Array.back?_eq_some_iff.1 hl
  have:=run_entry_at (P:=P) w r b since ys es clock e hr hb (List.mem_of_getElem? hej) hok.born_nodup
  rw [this,ek1,ev1]
theorem S.rangeEnd (hS:S κ L I w) (hi:L[i]? = some (bx ek ev b r l d)):S κ (L.set i (bq ek ev b l)) I w:=by
  obtain ⟨f,⟨hf,hne,es,clock,since,seen,hb,hr,hok,_⟩,h⟩:=(hS.front hi).turn
  refine S.back (h _ _ [b] ⟨rfl,es,clock,hb,hok⟩ rfl (Nat.le_refl _) (fun b' hb'=>.inl (by rw [hf];simp at hb' ⊢;exact .inl hb')) (fun b' _ _=>rfl)) hi
theorem S.rangeLen (hS:S κ L I w) (hi:L[i]? = some (bx ek ev b r l d)):(w.iterSeen r).size = d.length:=by
  obtain ⟨_,_,hne,es,clock,since,seen,hb,hr,hok,hold,hsc,hsn⟩:=hS.own hi
  unfold World.iterSeen;rw [hr];exact hsn.size
end
section
variable {α β:Type} [DecidableEq α] {P:Program} {K T E:TypeId} {ek:α → Value} {ev:β → Value} {κ:Kap} {L I:List Atom} {w:World} {b r i:Nat} {l:List (α × β)} {d:List α}
omit [DecidableEq α] in
theorem S.rangeTurn {es':Array MapEntry} {l':List (α × β)} (hS:S κ L I w) (hi:L[i]? = some (bx ek ev b r l d)) (hm:∀ es clock seen,w.heap[b]? = some (.map es clock) → MapOK ek ev l es clock → SeenOK l es.toList seen d → MapOK ek ev l' es' clock∧SeenOK l' es'.toList seen d∧∀ e ∈ es'.toList,∃ e0 ∈ es.toList,e0.born = e.born) {clock:Nat} {es:Array MapEntry} (hb:w.heap[b]? = some (.map es clock)):
    S κ (L.set i (bx ek ev b r l' d)) I { w with heap:=w.heap.setIfInBounds b (.map es' clock) }:=by
  obtain ⟨f,⟨hf,hne,es0,clock0,since,seen,hb0,hr,hok,hold,hsc,hsn⟩,h⟩:=(hS.front hi).turn
  rw [hb] at hb0;cases hb0
  obtain ⟨h1,h2,h3⟩:=hm es clock seen hb hok hsn
  have hs:=MapKept.heap_set (o':=Obj.map es' clock) hb
  refine S.back ?_ hi
  refine h _ _ [b,r] ⟨rfl,hne,es',clock,since,seen,hs.1,?_,h1,fun e he=>?_,hsc,h2⟩ rfl (by simp) (fun b' hb'=>.inl (by rw [hf];exact hb')) (fun b' _ hn=>hs.2 b' (fun e=>hn (by rw [hf,e];simp)))
  · rw [hs.2 r (Ne.symm hne)];exact hr
  · obtain ⟨e0,he0,e1⟩:=h3 e he
    rw [← e1];exact hold e0 he0
theorem lf (l:List MapEntry) (j k:Nat) (x v:Value):∀ e,(l.modify j fun e=>{ e with key:=x,val:=v })[k]? = some e → ∃ e0,l[k]? = some e0∧e0.born = e.born:=by
  intro e h
  have h1:((l.modify j fun e=>{ e with key:=x,val:=v }).map (·.born))[k]? = some e.born:=by rw [List.getElem?_map,h];rfl
  rw [iu,List.getElem?_map] at h1
  obtain ⟨e0,h2,h3⟩:=Option.map_eq_some_iff.1 h1
  exact ⟨e0,h2,h3⟩
theorem oc (hK:KeyK P K ek) (ht:P.underlying T = some (.map K E)) (hS:S κ L I w) (hi:L[i]? = some (bx ek ev b r l d)) (x:α) (u:β) (hx:(au x l).isSome = true):
    ∃ w',(Instr.mapUpdate T (.map (some b)) (ek x) (ev u)).run P w = .ok () w'∧S κ (L.set i (bx ek ev b r (aV x u l) d)) I w':=by
  obtain ⟨es,clock,hb,hok⟩:=hS.rangeAt hi
  have hf:=hK.find ev l es.toList x w hok.ents
  have hl:=jD (ev:=ev) x l 0
  cases hq:dE ev x l 0 with
  | none=>
    rw [hq] at hl
    have hn:au x l = none:=by simpa using hl.symm
    rw [hn] at hx;cases hx
  | some p=>
    obtain ⟨j,o⟩:=p
    rw [hq] at hf
    obtain ⟨v,e0,_,_⟩:=(cY hq).2.1
    rw [Nat.sub_zero] at e0
    have hset:=(cY hq).2.2.1 u
    rw [Nat.sub_zero] at hset
    refine ⟨_,?_,hS.rangeTurn (es':=es.modify j fun e=>{ e with key:=ek x,val:=ev u }) (l':=aV x u l) hi ?_ hb⟩
    · have hek:((es[j]?).map (·.key)).getD (ek x) = ek x:=by
        have h1:(es.toList.map (fun e=>(e.key,e.val)))[j]? = some (ek x,ev v):=by rw [hok.ents,List.getElem?_map,e0];rfl
        rw [List.getElem?_map] at h1
        obtain ⟨e,he,h2⟩:=Option.map_eq_some_iff.1 h1
        have he':es[j]? = some e:=by simpa using he
        rw [he'];exact (Prod.mk.inj h2).1
      have hst:(Instr.keyThatStays (ek x) (ek x)).run P w = .ok (ek x) w:=by simp [Instr.keyThatStays,hK.bits x]
      simp [Instr.mapUpdate,run_underlying ht,MapKept.run_getObj_map hb,hK.chk,hf,hek,hst,MapKept.run_setObj_map _ hb,Result.andThen]
    · intro es1 clock1 seen hb1 hok1 hsn
      rw [hb] at hb1;cases hb1
      refine ⟨hok.put_old hq,⟨hsn.size,fun k e p he hp=>?_,fun y d' k e p hd he hp hy=>?_⟩,fun e he=>?_⟩
      · rw [Array.toList_modify] at he
        obtain ⟨e1,h1,h2⟩:=lf _ _ _ _ _ e he
        obtain ⟨q,hq1,_,_⟩:=hok.at h1
        have hpq:p.1 = q.1:=by
          rw [hset,List.getElem?_set] at hp
          split at hp
          · rename_i hjk;subst hjk
            rw [e0] at hq1;cases hq1
            split at hp
            · cases hp;rfl
            · cases hp
          · rw [hq1] at hp;cases hp;rfl
        rw [← h2,hpq];exact hsn.mem k e1 q h1 hq1
      · rw [Array.toList_modify] at he
        obtain ⟨e1,h1,h2⟩:=lf _ _ _ _ _ e he
        obtain ⟨q,hq1,_,_⟩:=hok.at h1
        have hpq:p.1 = q.1:=by
          rw [hset,List.getElem?_set] at hp
          split at hp
          · rename_i hjk;subst hjk
            rw [e0] at hq1;cases hq1
            split at hp
            · cases hp;rfl
            · cases hp
          · rw [hq1] at hp;cases hp;rfl
        rw [← h2];exact hsn.last y d' k e1 q hd h1 hq1 (hpq.symm.trans hy)
      · rw [Array.toList_modify] at he
        obtain ⟨k,hk⟩:=List.getElem?_of_mem he
        obtain ⟨e1,h1,h2⟩:=lf _ _ _ _ _ e hk
        exact ⟨e1,List.mem_of_getElem? h1,h2⟩
theorem ob (hK:KeyK P K ek) (ht:P.underlying T = some (.map K E)) (hS:S κ L I w) (hi:L[i]? = some (bx ek ev b r l d)) (x:α) (ts:Array TypeId) (hts:ts[0]? = some T) (ty:TypeId):
    ∃ w',(Builtin.delete_ ts ty #[.map (some b),ek x]).run P w = .ok (.tuple #[]) w'∧S κ (L.set i (bx ek ev b r (bS x l) d)) I w':=by
  obtain ⟨es,clock,hb,hok⟩:=hS.rangeAt hi
  have hf:=hK.find ev l es.toList x w hok.ents
  cases hq:dE ev x l 0 with
  | none=>
    rw [hq] at hf
    refine ⟨_,by simp [Builtin.delete_,hts,run_underlying ht,MapKept.run_getObj_map hb,hK.chk,hf,MapKept.run_setObj_map _ hb,Result.andThen],hS.rangeTurn (es':=es) hi ?_ hb⟩
    intro es1 clock1 seen hb1 hok1 hsn
    rw [hb] at hb1;cases hb1
    rw [(gF hq).2.2]
    exact ⟨hok,hsn,fun e he=>⟨e,he,rfl⟩⟩
  | some p=>
    obtain ⟨j,o⟩:=p
    rw [hq] at hf
    have hdel:=(cY hq).2.2.2
    rw [Nat.sub_zero] at hdel
    refine ⟨_,by simp [Builtin.delete_,hts,run_underlying ht,MapKept.run_getObj_map hb,hK.chk,hf,MapKept.run_setObj_map _ hb,Result.andThen],hS.rangeTurn (es':=es.eraseIdxIfInBounds j) (l':=bS x l) hi ?_ hb⟩
    intro es1 clock1 seen hb1 hok1 hsn
    rw [hb] at hb1;cases hb1
    have e1:(es.eraseIdxIfInBounds j).toList = es.toList.eraseIdx j:=by simp
    have key:∀ (k:Nat) (e:MapEntry) (p:α × β),(es.eraseIdxIfInBounds j).toList[k]? = some e → (bS x l)[k]? = some p → ∃ k':Nat,es.toList[k']? = some e∧l[k']? = some p:=by
      intro k e p he hp
      rw [e1,List.getElem?_eraseIdx] at he
      rw [hdel,List.getElem?_eraseIdx] at hp
      split at he
      · rename_i hk;rw [if_pos hk] at hp;exact ⟨k,he,hp⟩
      · rename_i hk;rw [if_neg hk] at hp;exact ⟨k + 1,he,hp⟩
    refine ⟨hok.del hq,⟨hsn.size,fun k e p he hp=>?_,fun y d' k e p hd he hp hy=>?_⟩,fun e he=>?_⟩
    · obtain ⟨k',h1,h2⟩:=key k e p he hp
      exact hsn.mem k' e p h1 h2
    · obtain ⟨k',h1,h2⟩:=key k e p he hp
      exact hsn.last y d' k' e p hd h1 h2 hy
    · rw [e1] at he
      exact ⟨e,(List.eraseIdx_sublist _ _).subset he,rfl⟩
end
section
variable {α β:Type} {P:Program} {ek:α → Value} {ev:β → Value} {κ:Kap} {L I:List Atom} {w:World} {b r:Nat} {l:List (α × β)} {d:List α} {ops:Array Oper} {Q:Exit → Act → World → Prop} {o:Oper} {a:Act} {KK:Act → World → Prop} {EE:Prop}
theorem fP {t k e:TypeId} {x:Operand} (i:Nat) (hS:S κ L I w) (hw:Region.wanted o (yielded ops a.tmps) = true) (ho:o.op = .range t x) (hx:a.eval x = .map (some b))
    (h:∀ r w',S κ (L.set i (bx ek ev b r l [])) I w' → KK (a.put o.dst (.pointer (some ⟨r,0,none⟩))) w') (hi:L[i]? = some (bq ek ev b l):=by rfl) (ht:P.underlying t = some (.map k e):=by kernel_rfl):if Region.wanted o (yielded ops a.tmps) = true then o.wp P a w KK Q else EE:=by
  obtain ⟨w',hr,hS'⟩:=hS.rangeNew hi ht
  refine aT hw ?_ (h _ _ hS')
  unfold execOp;simp only [ho];rw [hx];simp [hr,Result.andThen]
theorem g0 {x:Operand} (i:Nat) (hS:S κ L I w) (hw:Region.wanted o (yielded ops a.tmps) = true) (ho:o.op = .next x false) (hx:a.eval x = .pointer (some ⟨r,0,none⟩))
    (h1:(∀ p ∈ l,p.1 ∈ d) → KK (a.put o.dst (.tuple #[.bool false])) w)
    (h2:∀ p w',p ∈ l → p.1 ∉ d → S κ (L.set i (bx ek ev b r l (p.1::d))) I w' → KK (a.put o.dst (.tuple #[.bool true,ek p.1,ev p.2])) w') (hi:L[i]? = some (bx ek ev b r l d):=by rfl):if Region.wanted o (yielded ops a.tmps) = true then o.wp P a w KK Q else EE:=by
  rcases hS.rangeNext (P:=P) hi o.type with ⟨hall,hr⟩ | ⟨p,w',hp,hd,hr,hS'⟩
  · refine aT hw ?_ (h1 hall)
    unfold execOp;simp only [ho];rw [hx];simp [hr,Result.andThen]
  · refine aT hw ?_ (h2 p w' hp hd hS')
    unfold execOp;simp only [ho];rw [hx];simp [hr,Result.andThen]
theorem er {it:Operand} {x:α} {u:β} {i:Nat} (hS:S κ L I w) (hi:L[i]? = some (bx ek ev b r l (x::d))) (hx:(x,u) ∈ l) (ho:o.op = .entry it) (hit:a.eval it = .pointer (some ⟨r,0,none⟩)):(execOp a.eval o).run P w = .ok (.value (.tuple #[ek x,ev u])) w:=by
  have:=S.rangeEntry (P:=P) hS hi hx
  unfold execOp;simp only [ho];rw [hit];simp [this,Result.andThen]
end
section
variable {α β:Type} [DecidableEq α] {P:Program} {K T E:TypeId} {ek:α → Value} {ev:β → Value} {κ:Kap} {L I:List Atom} {w:World} {b r:Nat} {l:List (α × β)} {d:List α} {ops:Array Oper} {Q:Exit → Act → World → Prop} {o:Oper} {a:Act} {KK:Act → World → Prop} {EE:Prop}
theorem pf {t:TypeId} {m y v:Operand} (i:Nat) (x:α) (u:β) (hK:KeyK P K ek) (hS:S κ L I w) (hin:(au x l).isSome = true) (hw:Region.wanted o (yielded ops a.tmps) = true) (ho:o.op = .mapUpdate t m y v) (hm:a.eval m = .map (some b)) (hy:a.eval y = ek x) (hv:a.eval v = ev u)
    (h:∀ w',S κ (L.set i (bx ek ev b r (aV x u l) d)) I w' → KK (a.put o.dst undef) w') (hi:L[i]? = some (bx ek ev b r l d):=by rfl) (ht:P.underlying t = some (.map K E):=by kernel_rfl):if Region.wanted o (yielded ops a.tmps) = true then o.wp P a w KK Q else EE:=by
  obtain ⟨w',hr,hS'⟩:=oc hK ht hS hi x u hin
  refine gx hw ?_ (h _ hS')
  unfold execOp;simp only [ho];rw [hm,hy,hv];simp [hr,Result.andThen]
theorem pe {m y:Operand} {t:TypeId} {ts:Array TypeId} (i:Nat) (x:α) (hK:KeyK P K ek) (hS:S κ L I w) (hw:Region.wanted o (yielded ops a.tmps) = true) (ho:o.op = .call { callee:=.builtin .delete,args:=#[m,y],argTypes:=ts }) (hm:a.eval m = .map (some b)) (hy:a.eval y = ek x)
    (h:∀ w',S κ (L.set i (bx ek ev b r (bS x l) d)) I w' → KK (a.put o.dst (.tuple #[])) w') (hi:L[i]? = some (bx ek ev b r l d):=by rfl) (hts:ts[0]? = some t:=by rfl) (ht:P.underlying t = some (.map K E):=by kernel_rfl):if Region.wanted o (yielded ops a.tmps) = true then o.wp P a w KK Q else EE:=by
  obtain ⟨w',hr,hS'⟩:=ob hK ht hS hi x ts hts o.type
  refine aT hw ?_ (h _ hS')
  unfold execOp
  simp only [ho,resolve,invoke,builtin,Sem.run_bind,Sem.run_pure,Result.andThen_ok,List.map_toArray,List.map_cons,List.map_nil,hm,hy,hr]
end
end
section
theorem eH {α:Type} [DecidableEq α]:∀ {l m:List α},l.Nodup → (∀ x ∈ l,x ∈ m) → l.length ≤ m.length
  | [],_,_,_=>Nat.zero_le _
  | x::l,m,hn,h=>by
    rw [List.nodup_cons] at hn
    have h1:=eH (l:=l) (m:=m.erase x) hn.2 (fun y hy=>(List.mem_erase_of_ne (show y ≠ x from fun e=>hn.1 (by rw [← e];exact hy))).2 (h y (List.mem_cons_of_mem _ hy)))
    have hx:=h x List.mem_cons_self
    rw [List.length_erase_of_mem hx] at h1
    have:=List.length_pos_of_mem hx
    simp only [List.length_cons];omega
section
variable {α β:Type} [DecidableEq α]
theorem ig {x:α}:∀ {l:List (α × β)},(l.map (·.1)).Nodup → bS x l = l.filter (fun p=>decide (p.1 ≠ x))
  | [],_=>rfl
  | (k,v)::l,h=>by
    simp only [List.map_cons,List.nodup_cons] at h
    unfold bS
    split
    · rename_i e;subst e
      rw [List.filter_cons_of_neg (by simp)]
      refine (List.filter_eq_self.2 fun p hp=>?_).symm
      simp only [decide_eq_true_eq]
      exact fun e=>h.1 (e ▸ List.mem_map_of_mem hp)
    · rename_i e
      rw [List.filter_cons_of_pos (by simpa using Ne.symm e),ig h.2]
def fD (is:α × β → Bool) (d:List α) (l:List (α × β)):List (α × β):=l.filter fun p=>!(decide (p.1 ∈ d) && is p)
theorem vq (is:α × β → Bool) (l:List (α × β)):fD is [] l = l:=by
  unfold fD
  refine List.filter_eq_self.2 fun p _=>by simp
theorem gj {is:α × β → Bool} {d:List α} {l:List (α × β)} {p:α × β} (h:p ∈ fD is d l):p ∈ l:=(List.mem_filter.1 h).1
theorem leftL_keep {is:α × β → Bool} {d:List α} {l:List (α × β)} {p:α × β} (hn:(l.map (·.1)).Nodup) (hp:p ∈ l) (hi:is p = false):fD is (p.1::d) l = fD is d l:=by
  unfold fD
  refine List.filter_congr fun q hq=>?_
  by_cases e:q.1 = p.1
  · have:q = p:=pair_eq hn hq hp e
    subst this;simp [hi]
  · simp [e]
 where
  pair_eq:∀ {l:List (α × β)} {p q:α × β},(l.map (·.1)).Nodup → p ∈ l → q ∈ l → p.1 = q.1 → p = q
    | y::l,p,q,h,hp,hq,e=>by
      simp only [List.map_cons,List.nodup_cons] at h
      rcases List.mem_cons.1 hp with h1 | h1
      · rcases List.mem_cons.1 hq with h2 | h2
        · rw [h1,h2]
        · exact absurd (by rw [← h1,e];exact List.mem_map_of_mem h2) h.1
      · rcases List.mem_cons.1 hq with h2 | h2
        · exact absurd (by rw [← h2,← e];exact List.mem_map_of_mem h1) h.1
        · exact pair_eq h.2 h1 h2 e
theorem sU {is:α × β → Bool} {d:List α} {l:List (α × β)} {p:α × β} (hn:(l.map (·.1)).Nodup) (hp:p ∈ l) (hi:is p = true):bS p.1 (fD is d l) = fD is (p.1::d) l:=by
  have hs:((fD is d l).map (·.1)).Nodup:=hn.sublist ((List.filter_sublist).map _)
  rw [ig hs]
  unfold fD
  rw [List.filter_filter]
  refine List.filter_congr fun q hq=>?_
  by_cases e:q.1 = p.1
  · have:q = p:=leftL_keep.pair_eq hn hq hp e
    subst this;simp [hi]
  · simp [e]
theorem vo {is:α × β → Bool} {d:List α} {l:List (α × β)} (h:∀ p ∈ fD is d l,p.1 ∈ d):fD is d l = l.filter fun p=>!is p:=by
  unfold fD at *
  refine List.filter_congr fun q hq=>?_
  by_cases e:q.1 ∈ d
  · simp [e]
  · have h2:q ∈ l.filter fun p=>!(decide (p.1 ∈ d) && is p):=List.mem_filter.2 ⟨hq,by simp [e]⟩
    exact absurd (h q h2) e
end
end
section
section
variable {α β:Type} {ek:α → Value} {ev:β → Value} {κ:Kap} {L I:List Atom} {w:World} {b r i:Nat} {l:List (α × β)} {d:List α}
theorem S.rangeNodup (hS:S κ L I w) (hi:L[i]? = some (bx ek ev b r l d)):(l.map (·.1)).Nodup:=by
  obtain ⟨es,c,_,h⟩:=hS.rangeAt hi
  exact h.nodup
variable {es:List (α × β)}
theorem qc (hn:(es.map (·.1)).Nodup):es.Nodup:=(List.pairwise_map.1 hn).imp fun h e=>h (congrArg _ e)
theorem iL (hn:(es.map (·.1)).Nodup) (hs:∀ e ∈ es,e ∈ l):es.length ≤ l.length:=by
  classical exact eH (l:=es) (m:=l) (qc hn) hs
theorem eU {p:α × β} (hp:p ∈ l) (hs:∀ e ∈ es,e ∈ l):∀ e ∈ p::es,e ∈ l:=fun e he=>by
  rcases List.mem_cons.1 he with rfl | he
  · exact hp
  · exact hs e he
theorem kC (hn:(es.map (·.1)).Nodup) (hs:∀ e ∈ es,e ∈ l) (hall:∀ p ∈ l,p.1 ∈ es.map (·.1)) (hl:(l.map (·.1)).Nodup):es.Perm l:=by
  refine (List.perm_ext_iff_of_nodup (qc hn) (qc hl)).2 fun p=>⟨hs p,fun hp=>?_⟩
  obtain ⟨e,he,h⟩:=List.mem_map.1 (hall p hp)
  have:e = p:=by
    obtain ⟨i,hi⟩:=List.mem_iff_getElem?.1 (hs e he)
    obtain ⟨j,hj⟩:=List.mem_iff_getElem?.1 hp
    have h1:(l.map (·.1))[i]? = some e.1:=by rw [List.getElem?_map,hi];rfl
    have h2:(l.map (·.1))[j]? = some e.1:=by rw [List.getElem?_map,hj,h];rfl
    have:=(List.getElem?_inj (List.getElem?_eq_some_iff.1 h1).1 hl).1 (h1.trans h2.symm)
    subst this
    rw [hi] at hj;cases hj;rfl
  rw [← this];exact he
section
variable {v:List (α × β)} {ks:List α} {x:α}
theorem ii [DecidableEq α] {e:α × β} (h:e ∈ bS x v):e ∈ v:=(ij v).subset h
theorem mR [DecidableEq α] {e:α × β} (hx:e.1 ≠ x):∀ {v:List (α × β)},e ∈ v → e ∈ bS x v
  | (k,u)::v,h=>by
    unfold bS
    rcases List.mem_cons.1 h with rfl | h
    · rw [if_neg fun h=>hx h.symm];exact List.mem_cons_self ..
    · split
      · exact h
      · exact List.mem_cons_of_mem _ (mR hx h)
theorem l4 {v':List (α × β)} (h:∀ e ∈ v,e.1 ∉ ks → e ∈ l) (h':∀ e ∈ v',e ∈ v):∀ e ∈ v',e.1 ∉ x::ks → e ∈ l:=fun e he hn=>h e (h' e he) fun h1=>hn (List.mem_cons_of_mem _ h1)
theorem gV (h:∀ e ∈ l,e.1 ∉ ks → e ∈ v):∀ e ∈ l,e.1 ∉ x::ks → e ∈ v:=fun e he hn=>h e he fun h1=>hn (List.mem_cons_of_mem _ h1)
theorem iF [DecidableEq α] (h:∀ e ∈ l,e.1 ∉ ks → e ∈ v):∀ e ∈ l,e.1 ∉ x::ks → e ∈ bS x v:=fun e he hn=>mR (fun h1=>hn (h1 ▸ List.mem_cons_self ..)) (gV h e he hn)
theorem xI (h:∀ e ∈ l,e.1 ∉ ks → e ∈ v) (hall:∀ e ∈ v,e.1 ∈ ks):∀ e ∈ l,e.1 ∈ ks:=fun e he=>by
  refine Classical.byContradiction fun hn=>?_
  exact hn (hall e (h e he hn))
end
theorem jK {wA wB:World} {p:α × β} (h1:(wA.iterSeen r).size = (es.map (·.1)).length) (h2:(wB.iterSeen r).size = (p.1::es.map (·.1)).length) (hn:(es.map (·.1)).Nodup) (hs:∀ e ∈ es,e ∈ l) (hp:p ∈ l) (hpd:p.1 ∉ es.map (·.1)):l.length - (wB.iterSeen r).size < l.length - (wA.iterSeen r).size:=by
  have h:=iL (es:=p::es) (l:=l) (List.nodup_cons.2 ⟨hpd,hn⟩) (eU hp hs)
  rw [h1,h2]
  simp only [List.length_cons,List.length_map] at *
  omega
end
end
end Go.Proofs.YtehpdklphhmbgaaGreatDoor
