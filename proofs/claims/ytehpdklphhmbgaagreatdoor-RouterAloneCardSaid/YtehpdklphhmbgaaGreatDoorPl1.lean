/-
  Part 1 of what lies behind the statement: the model of the program in words of its own, and its walks. No conditions of its own.
-/
import Derived.Test.YtehpdklphhmbgaaGreatDoorRows
import Derived.WalkKit
import Derived.WalkSpells
import Derived.WalkLawsBesides
import Derived.BigQuiet
import Derived.Deep.QuietTactic
import Derived.Deep.Light
import Derived.Deep.Draws
import Derived.Deep.AppendLies
import Derived.Laws.OwnMore
import Derived.Laws.Rows
import Derived.Lib.Hide
import Derived.Maps.AppendAt
import Derived.RegionTactic
import Derived.OwnWalk
import Derived.ProofKit
import Derived.OpenShut
import Derived.Deep.Slices
import Derived.Lib.SliceRun
import Derived.Laws.ResultCell
import Derived.Laws.IdiomCopy
import Derived.Deep.RegionLaw
import Derived.Deep.RegionHeld3
import Derived.StillTailTactics
import Derived.StillTail
import Derived.Laws.CopyRow
import Derived.Great.BuildSlice
import Derived.Laws.BitsLemmas
import Derived.Laws.MakeOwn
import Derived.MapKept
import Derived.IntWalk
import Derived.Deep.DeepCutAuto
import Derived.Laws.ComplexArith
import Derived.Laws.FloatArith
import Derived.Laws.Cover3
import Derived.Laws.CopyOwn
import Derived.WalkMore
import Derived.ArgAppend
import Derived.Maps.RangeRun
import Derived.Laws.Cover2
import Derived.Shelf.SlSortCmp.NoneTotal
import Derived.Shelf.Lay
import Derived.Ground.SlsfProg
namespace Go.Proofs.YtehpdklphhmbgaaGreatDoor
open Go.RowKit
set_option linter.unusedVariables false
set_option linter.unusedSimpArgs false
section
theorem cm {a b:Bool} (h:a = b):Ending.returned (.bool a) = .returned (.bool b):=by rw [h]
theorem uu {k:IntKind} {a b:Int} (h:a = b):Ending.returned (.int k a) = .returned (.int k b):=by rw [h]
theorem ar {p:Prop} (h:p):Hid p:=h
theorem lI {B:Nat} {a w:World} (h:Below B a w) (n:Nat):Below B a (w.drewN n):=⟨h.os,h.tape,h.output,h.size,h.block⟩
theorem jw (a:Addr) (i j:Nat):(a.add i).add j = a.add (i + j):=by
  unfold Addr.add
  by_cases hi:i = 0 <;> by_cases hj:j = 0 <;> simp [hi,hj,Nat.add_assoc]
def Reads (w:World) (B size:Nat) (A:Option Addr) (n:Nat) (xs:List Value):Prop:=
  xs.length = n * size∧(0 < n → ∃ b off,A = some ⟨b,off,none⟩∧b < B∧∀ j u,xs[j]? = some u → w.cell? ⟨b,off + j,none⟩ = some u)
section
variable {w w':World} {B B' size n:Nat} {A:Option Addr} {xs:List Value}
theorem Reads.none_:Reads w B size A 0 []:=⟨by simp,fun h=>absurd h (by omega)⟩
theorem Reads.at_ {k:Nat} (h:Reads w B 1 A n xs) (hk:k < n):∃ b off u,A = some ⟨b,off,none⟩∧b < B∧xs[k]? = some u∧w.cell? ⟨b,off + k,none⟩ = some u:=by
  obtain ⟨b,off,e,hb,hc⟩:=h.2 (by omega)
  have hl:k < xs.length:=by have:=h.1;omega
  exact ⟨b,off,xs[k],e,hb,List.getElem?_eq_getElem hl,hc k _ (List.getElem?_eq_getElem hl)⟩
theorem Reads.keep (h:Reads w B size A n xs) (hk:∀ p:Addr,p.block < B → w'.cell? p = w.cell? p):Reads w' B size A n xs:=
  ⟨h.1,fun hn=>by
    obtain ⟨b,off,e,hb,hc⟩:=h.2 hn
    exact ⟨b,off,e,hb,fun j u hu=>(hk ⟨b,off + j,none⟩ hb).trans (hc j u hu)⟩⟩
theorem Reads.more (h:Reads w B size A n xs) (hB:B ≤ B'):Reads w B' size A n xs:=
  ⟨h.1,fun hn=>by
    obtain ⟨b,off,e,hb,hc⟩:=h.2 hn
    exact ⟨b,off,e,by omega,hc⟩⟩
theorem Reads.below (h:Reads w B size A n xs) (hb:Below B w w'):Reads w' B size A n xs:=h.keep fun _ hp=>hb.cell hp
theorem Reads.drew (h:Reads w B size A n xs):Reads w.drew B size A n xs:=h
theorem Reads.alloc (h:Reads w B size A n xs) (hB:B ≤ w.heap.size) (o:Obj):Reads (w.alloc o) B size A n xs:=h.keep fun p hp=>World.cell?_alloc_lt w o p (by omega)
theorem Reads.take (h:Reads w B size A n xs) {k:Nat} (hk:k ≤ n):Reads w B size A k (xs.take (k * size)):=by
  refine ⟨?_,fun hk0=>?_⟩
  · rw [List.length_take,h.1];exact Nat.min_eq_left (Nat.mul_le_mul_right _ hk)
  · obtain ⟨b,off,rfl,hb,hcell⟩:=h.2 (by omega)
    refine ⟨b,off,rfl,hb,fun j u hu=>hcell j u ?_⟩
    rw [List.getElem?_take] at hu
    split at hu
    · exact hu
    · cases hu
theorem Reads.of_own {base:Nat} {e:TypeId} {c:Nat} (h:w.ownsRow base e size (.slice A n c) n xs):Reads w w.heap.size size A n xs:=by
  refine ⟨h.1,fun hn=>?_⟩
  obtain ⟨g,cap,hv,_,hlt⟩:=h.form hn
  have hA:A = some ⟨g,0,none⟩:=by injection hv
  subst hA
  refine ⟨g,0,rfl,hlt,fun j u hu=>?_⟩
  have:=h.cells (g:=g) rfl j u hu
  rw [← this]
  congr 1
  simp [Addr.add]
end
def Blk (w:World) (g:Nat) (t:TypeId) (cs:Array Value):Prop:=w.heap[g]? = some (.cells cs t (0,0))
section
variable {w w':World} {g:Nat} {t:TypeId} {cs:Array Value}
theorem Blk.lt (h:Blk w g t cs):g < w.heap.size:=by
  rcases Nat.lt_or_ge g w.heap.size with hlt | hge
  · exact hlt
  · unfold Blk at h;rw [Array.getElem?_eq_none hge] at h;cases h
theorem Blk.cell (h:Blk w g t cs) (i:Nat):w.cell? ⟨g,i,none⟩ = cs[i]?:=cell_of_row w g i cs t (0,0) h
theorem Blk.frozen (h:Blk w g t cs) (i:Nat):w.frozen? ⟨g,i,none⟩ = false:=by
  unfold Blk at h
  simp [World.frozen?,h]
theorem Blk.new (w:World) (t:TypeId) (cs:Array Value):Blk (w.alloc (.cells cs t)) w.heap.size t cs:=heap_alloc_new w _
theorem Blk.drew (h:Blk w g t cs):Blk w.drew g t cs:=h
theorem Blk.drewN (h:Blk w g t cs) (n:Nat):Blk (w.drewN n) g t cs:=h
theorem Blk.alloc (h:Blk w g t cs) (o:Obj):Blk (w.alloc o) g t cs:=(Below.heap_alloc w o g h.lt).trans h
theorem Blk.set_ (h:Blk w g t cs) (i:Nat) (u:Value):Blk (w.setCell ⟨g,i,none⟩ u) g t (cs.setIfInBounds i u):=by
  unfold Blk at h ⊢
  simp [World.setCell,Array.getElem?_modify,h]
theorem Blk.below {B:Nat} (h:Blk w g t cs) (hb:Below B w w') (hg:g < B):Blk w' g t cs:=(hb.block g hg).trans h
theorem Blk.ne_ {g':Nat} {t':TypeId} {cs':Array Value} (h:Blk w g t cs) (h':Blk w g' t' cs') (hne:t ≠ t'):g ≠ g':=by
  rintro rfl
  unfold Blk at h h'
  rw [h] at h'
  injection h' with h'
  injection h' with _ ht
  exact hne ht
theorem dJ {base:Nat} {e:TypeId} {size n:Nat} {v:Value} {xs:List Value} (h:w.ownsRow base e size v n xs) (hg:Blk w g t cs) (hne:e ≠ t):v.ownBlock ≠ some g:=by
  rcases h.2 with ⟨rfl,_⟩ | ⟨g',cap,cur,rfl,_,hh,_⟩
  · simp [Value.ownBlock]
  · intro he
    have:g' = g:=by simpa [Value.ownBlock] using he
    subst this
    exact Blk.ne_ (t:=e) hh hg hne rfl
end
theorem Reads.new (w:World) (cs:Array Value) (t:TypeId) (n size:Nat) (h:cs.size = n * size):Reads (w.alloc (.cells cs t)) (w.heap.size + 1) size (some ⟨w.heap.size,0,none⟩) n cs.toList:=by
  refine ⟨by simpa using h,fun _=>⟨w.heap.size,0,rfl,by omega,fun j u hu=>?_⟩⟩
  rw [(Blk.new w t cs).cell]
  simpa using hu
theorem gf (w:World) (b off j:Nat):w.cell? ((⟨b,off,none⟩:Addr).add j) = w.cell? ⟨b,off + j,none⟩:=by
  congr 1
  unfold Addr.add
  split <;> simp_all
section
variable {P:Program} (w:World)
theorem kx (base:Nat) (t ty e:TypeId) (i:TypeInfo) (size:Nat) (ht:P.underlying t = some (.slice e)) (hi:P.info? e = some i)
    (v:Value) (n:Nat) (xs:List Value) (hown:w.ownsRow base e size v n xs) (c:Nat):(Builtin.append_ #[t,t] ty #[v,.slice none 0 c]).run P w = .ok v w:=by
  rcases hown.2 with ⟨rfl,rfl⟩ | ⟨g,cap,cur,rfl,_,_,hnc,_⟩
  · simp [Builtin.append_,run_underlying ht,sizeOf,typeInfo,hi,Builtin.lenOf,Builtin.firstCells]
  · simp [Builtin.append_,run_underlying ht,sizeOf,typeInfo,hi,Builtin.lenOf,Builtin.firstCells,hnc,storeCells]
theorem iJ (base:Nat) (t ty e:TypeId) (i:TypeInfo) (z:Value) (size bytes:Nat) (ht:P.underlying t = some (.slice e)) (hi:P.info? e = some i) (hz:i.zero = some z)
    (hsize:i.size = size) (hby:i.bytes = bytes) (hzs:z.cells.size = size) (hsz:0 < size)
    (v:Value) (n:Nat) (xs:List Value) (hown:w.ownsRow base e size v n xs)
    (B:Nat) (A:Option Addr) (m c:Nat) (news:List Value) (hr:Reads w B size A m news) (h1:∀ u ∈ news,u.oneCell' = true)
    (h63:n + m ≤ maxLen) (hbytes:(n + m) * bytes ≤ 140737488355328) (hbase:base ≤ w.heap.size):
    ∃ v' w',(Builtin.append_ #[t,t] ty #[v,.slice A m c]).run P w = .ok v' w'∧w'.ownsRow base e size v' (n + m) (xs ++ news)∧w.grownBy w' v.ownBlock ∧
      (v'.ownBlock = v.ownBlock ∨ v'.ownBlock = some w.heap.size):=by
  rcases A with _ | ad
  · have hm:m = 0:=by
      rcases Nat.eq_zero_or_pos m with h0 | h0
      · exact h0
      · obtain ⟨_,_,h,_⟩:=hr.2 h0
        cases h
    subst hm
    have hn:news = []:=List.eq_nil_of_length_eq_zero (by simpa using hr.1)
    subst hn
    exact ⟨v,w,kx w base t ty e i size ht hi v n xs hown c,by simpa using hown,World.grownBy.refl w _,.inl rfl⟩
  · have hcells:∀ j u,news[j]? = some u → w.cell? (ad.add j) = some u:=by
      intro j u hu
      rcases Nat.eq_zero_or_pos m with h0 | h0
      · subst h0
        have hn:news = []:=List.eq_nil_of_length_eq_zero (by simpa using hr.1)
        subst hn
        simp at hu
      · obtain ⟨b,off,h,_,hc⟩:=hr.2 h0
        injection h with h
        subst h
        rw [gf]
        exact hc j u hu
    obtain ⟨v',w',hrun,h2,h3,_,h5⟩:=run_append_own_at (P:=P) w base t ty e i z size bytes ht hi hz hsize hby hzs hsz v n xs hown ad m c news hr.1 hcells h1 h63 hbytes hbase
    exact ⟨v',w',hrun,h2,h3,h5⟩
theorem nr {base:Nat} {e:TypeId} {size:Nat} {v:Value} {n:Nat} {xs:List Value} {w:World} (h:w.ownsRow base e size v n xs):∃ A c,v = .slice A n c:=by
  rcases h.2 with ⟨rfl,rfl⟩ | ⟨g,cap,cur,rfl,_⟩
  · exact ⟨_,_,rfl⟩
  · exact ⟨_,_,rfl⟩
theorem od {o:Oper} {a:Act} {K:Act → World → Prop} {Q:Exit → Act → World → Prop} (s x:Operand) (t:TypeId)
    (ho:o.op = .call { callee:=.builtin .append,args:=#[s,x],argTypes:=#[t,t] })
    (base:Nat) (e:TypeId) (i:TypeInfo) (z:Value) (size bytes:Nat) (ht:P.underlying t = some (.slice e)) (hi:P.info? e = some i) (hz:i.zero = some z)
    (hsize:i.size = size) (hby:i.bytes = bytes) (hzs:z.cells.size = size) (hsz:0 < size)
    (v:Value) (n:Nat) (xs:List Value) (hs:a.eval s = v) (hown:w.ownsRow base e size v n xs)
    (B:Nat) (A:Option Addr) (m c:Nat) (news:List Value) (hx:a.eval x = .slice A m c) (hr:Reads w B size A m news) (h1:∀ u ∈ news,u.oneCell' = true)
    (h63:n + m ≤ maxLen) (hbytes:(n + m) * bytes ≤ 140737488355328) (hbase:base ≤ w.heap.size)
    (h:∀ A' c' w',w'.ownsRow base e size (.slice A' (n + m) c') (n + m) (xs ++ news) → w.grownBy w' v.ownBlock → ((Value.slice A' (n + m) c').ownBlock = v.ownBlock ∨ (Value.slice A' (n + m) c').ownBlock = some w.heap.size) → K (a.put o.dst (.slice A' (n + m) c')) w'):o.wp P a w K Q:=by
  obtain ⟨v',w',hrun,h2,h3,h4⟩:=iJ (P:=P) w base t o.type e i z size bytes ht hi hz hsize hby hzs hsz v n xs hown B A m c news hr h1 h63 hbytes hbase
  obtain ⟨A',c',rfl⟩:=nr h2
  unfold Oper.wp execOp
  simp only [ho,resolve,invoke,builtin,Sem.run_bind,Sem.run_pure,Result.andThen_ok,List.map_toArray,List.map_cons,List.map_nil,hs,hx,hrun]
  exact h A' c' w' h2 h3 h4
theorem bn {ops:Array Oper} {rest:List Oper} {o:Oper} {a:Act} {Q:Exit → Act → World → Prop} (hgd:o.guard = none) (s x:Operand) (t:TypeId)
    (ho:o.op = .call { callee:=.builtin .append,args:=#[s,x],argTypes:=#[t,t] })
    (base:Nat) (e:TypeId) (i:TypeInfo) (z:Value) (size bytes:Nat) (ht:P.underlying t = some (.slice e)) (hi:P.info? e = some i) (hz:i.zero = some z)
    (hsize:i.size = size) (hby:i.bytes = bytes) (hzs:z.cells.size = size) (hsz:0 < size)
    (v:Value) (n:Nat) (xs:List Value) (hs:a.eval s = v) (hown:w.ownsRow base e size v n xs)
    (B:Nat) (A:Option Addr) (m c:Nat) (news:List Value) (hx:a.eval x = .slice A m c) (hr:Reads w B size A m news) (h1:∀ u ∈ news,u.oneCell' = true)
    (h63:n + m ≤ maxLen) (hbytes:(n + m) * bytes ≤ 140737488355328) (hbase:base ≤ w.heap.size)
    (h:∀ A' c' w',w'.ownsRow base e size (.slice A' (n + m) c') (n + m) (xs ++ news) → w.grownBy w' v.ownBlock → ((Value.slice A' (n + m) c').ownBlock = v.ownBlock ∨ (Value.slice A' (n + m) c').ownBlock = some w.heap.size) → wpList P ops Q rest (a.put o.dst (.slice A' (n + m) c')) w'):wpList P ops Q (o::rest) a w:=
  wpList_plain hgd fun _ hK=>od w s x t ho base e i z size bytes ht hi hz hsize hby hzs hsz v n xs hs hown B A m c news hx hr h1 h63 hbytes hbase fun A' c' w' h2 h3 h4=>hK _ _ (h A' c' w' h2 h3 h4)
end
end
section
open Go.RowKit Go.WideShapes Go.ChangeShapes
def zJ:Option IntKind → Value → Prop
  | some k,v=>∃ n,v = .int k n∧(Lit.int k n).wf = true
  | none,v=>∃ b,v = .bool b
def AllLeaf:List (Option IntKind) → List Value → Prop
  | [],[]=>True
  | k::ks,v::vs=>zJ k v∧AllLeaf ks vs
  | _,_=>False
theorem AllLeaf.append:∀ {a b:List (Option IntKind)} {x y:List Value},AllLeaf a x → AllLeaf b y → AllLeaf (a ++ b) (x ++ y)
  | [],_,[],_,_,h=>h
  | _::_,_,_::_,_,h,h'=>⟨h.1,AllLeaf.append h.2 h'⟩
  | [],_,_::_,_,h,_=>h.elim
  | _::_,_,[],_,h,_=>h.elim
def kD (f:TypeId → Option (List (Option IntKind))):Nat → List Field → Option (List (Option IntKind))
  | _,[]=>some []
  | off,fd::r=>
    if fd.offset = off then
      match f fd.type with
      | some l=>match kD f (off + l.length) r with
        | some rest=>some (l ++ rest)
        | none=>none
      | none=>none
    else none
def em (P:Program):Nat → TypeId → Option (List (Option IntKind))
  | 0,_=>none
  | fuel + 1,t=>
    match (match P.underlying t with
      | some .bool=>some [none]
      | some (.int k)=>some [some k]
      | some (.struct fs)=>kD (em P fuel) 0 fs.toList
      | some (.array n e)=>(em P fuel e).map fun l=>(List.replicate n l).flatten
      | _=>none) with
    | some l=>if P.cellsOf t = l.length then some l else none
    | none=>none
mutual
def kY {H:Type}:DataW H → List Value
  | .lit (.int k n)=>[.int k n]
  | .lit (.bool b)=>[.bool b]
  | .agg ds=>fi ds
  | _=>[]
def fi {H:Type}:List (DataW H) → List Value
  | []=>[]
  | d::r=>kY d ++ fi r
end
theorem d8 {P:Program} {fu:Nat} {t:TypeId} {ks:List (Option IntKind)} (h:em P fu t = some ks):P.cellsOf t = ks.length:=by
  cases fu with
  | zero=>simp [em] at h
  | succ fu=>
    unfold em at h
    split at h
    · split at h
      · rename_i h'
        cases h
        exact h'
      · cases h
    · cases h
section
variable {H:Type} {enc:TypeId × Value → H} {P:Program} {w:World} {base:Nat} {sp:Nat → Bool} {held:Bool}
theorem rP {fu m:Nat} {cs:List Value}
    (ih:∀ (t:TypeId) (ks:List (Option IntKind)) (cs:List Value) (x:DataW H × List MemPlace),em P fu t = some ks → DataW.trod enc P w base sp held m t cs = some x → AllLeaf ks cs∧x.2 = []∧kY x.1 = cs):
    ∀ (fs:List Field) (off:Nat) (ks:List (Option IntKind)) (xs:List (DataW H × List MemPlace)),kD (em P fu) off fs = some ks → off + ks.length = cs.length →
      xs.length = fs.length → (∀ (i:Nat) (f:Field),fs[i]? = some f → DataW.trod enc P w base sp held m f.type ((cs.drop f.offset).take (P.cellsOf f.type)) = xs[i]?) →
      AllLeaf ks (cs.drop off)∧xs.flatMap (·.2) = []∧fi (xs.map (·.1)) = cs.drop off
  | [],off,ks,xs,hk,hlen,hx,_=>by
    simp only [kD,Option.some.injEq] at hk
    subst hk
    have hx0:xs = []:=List.eq_nil_of_length_eq_zero hx
    subst hx0
    have hd:cs.drop off = []:=List.drop_eq_nil_of_le (by simp at hlen;omega)
    rw [hd]
    exact ⟨trivial,rfl,rfl⟩
  | fd::fs,off,ks,xs,hk,hlen,hx,hf=>by
    unfold kD at hk
    split at hk
    · rename_i ho
      split at hk
      · rename_i l hl
        split at hk
        · rename_i rest hr
          simp only [Option.some.injEq] at hk
          subst hk
          match xs,hx with
          | x::xs,hx=>
            have h0:=hf 0 fd rfl
            simp only [List.getElem?_cons_zero] at h0
            rw [d8 hl,ho] at h0
            obtain ⟨a1,a2,a3⟩:=ih _ _ _ _ hl h0
            have hrest:=rP (cs:=cs) ih fs (off + l.length) rest xs hr (by simp at hlen;omega) (by simpa using hx) (fun i f hi=>by have:=hf (i + 1) f (by simpa using hi);simpa using this)
            obtain ⟨b1,b2,b3⟩:=hrest
            have hcut:cs.drop off = (cs.drop off).take l.length ++ cs.drop (off + l.length):=by
              rw [← List.drop_drop,List.take_append_drop]
            rw [hcut]
            refine ⟨AllLeaf.append a1 b1,?_,?_⟩
            · simp [List.flatMap_cons,a2,b2]
            · simp only [List.map_cons,fi,a3,b3]
        · cases hk
      · cases hk
    · cases hk
theorem qr {fu m:Nat} {e:TypeId} {l:List (Option IntKind)} (he:em P fu e = some l) {cs:List Value}
    (ih:∀ (t:TypeId) (ks:List (Option IntKind)) (cs:List Value) (x:DataW H × List MemPlace),em P fu t = some ks → DataW.trod enc P w base sp held m t cs = some x → AllLeaf ks cs∧x.2 = []∧kY x.1 = cs):
    ∀ (n i0:Nat) (xs:List (DataW H × List MemPlace)),(i0 + n) * l.length = cs.length → xs.length = n →
      (∀ i,i < n → DataW.trod enc P w base sp held m e ((cs.drop ((i0 + i) * l.length)).take l.length) = xs[i]?) →
      AllLeaf ((List.replicate n l).flatten) (cs.drop (i0 * l.length))∧xs.flatMap (·.2) = []∧fi (xs.map (·.1)) = cs.drop (i0 * l.length)
  | 0,i0,xs,hlen,hx,_=>by
    have hx0:xs = []:=List.eq_nil_of_length_eq_zero hx
    subst hx0
    have hd:cs.drop (i0 * l.length) = []:=List.drop_eq_nil_of_le (by rw [← hlen];simp)
    rw [hd]
    exact ⟨trivial,rfl,rfl⟩
  | n + 1,i0,xs,hlen,hx,hf=>by
    match xs,hx with
    | x::xs,hx=>
      have h0:=hf 0 (by omega)
      simp only [List.getElem?_cons_zero,Nat.add_zero] at h0
      obtain ⟨a1,a2,a3⟩:=ih _ _ _ _ he h0
      have hrest:=qr (cs:=cs) he ih n (i0 + 1) xs (by rw [← hlen];congr 1;omega) (by simpa using hx) (fun i hi=>by
        have:=hf (i + 1) (by omega)
        rw [show i0 + 1 + i = i0 + (i + 1) by omega]
        simpa using this)
      obtain ⟨b1,b2,b3⟩:=hrest
      have hcut:cs.drop (i0 * l.length) = (cs.drop (i0 * l.length)).take l.length ++ cs.drop ((i0 + 1) * l.length):=by
        rw [show (i0 + 1) * l.length = i0 * l.length + l.length by rw [Nat.add_mul,Nat.one_mul],← List.drop_drop,List.take_append_drop]
      rw [hcut]
      refine ⟨?_,?_,?_⟩
      · rw [List.replicate_succ,List.flatten_cons]
        exact AllLeaf.append a1 b1
      · simp [List.flatMap_cons,a2,b2]
      · simp only [List.map_cons,fi,a3,b3]
theorem vi:∀ (fu m:Nat) (t:TypeId) (ks:List (Option IntKind)) (cs:List Value) (x:DataW H × List MemPlace),em P fu t = some ks → DataW.trod enc P w base sp held m t cs = some x →
    AllLeaf ks cs∧x.2 = []∧kY x.1 = cs:=by
  intro fu
  induction fu with
  | zero=>intro m t ks cs x hk;simp [em] at hk
  | succ fu ih=>
    intro m t ks cs x hk h
    have hcl:=d8 hk
    unfold em at hk
    split at hk
    · rename_i l hl
      split at hk
      · simp only [Option.some.injEq] at hk
        subst hk
        split at hl
        · rename_i hu
          simp only [Option.some.injEq] at hl
          subst hl
          obtain ⟨b,rfl,rfl⟩:=DataW.trod_bool hu h
          exact ⟨⟨⟨b,rfl⟩,trivial⟩,rfl,rfl⟩
        · rename_i k hu
          simp only [Option.some.injEq] at hl
          subst hl
          obtain ⟨n,rfl,rfl,hw⟩:=DataW.trod_int hu h
          exact ⟨⟨⟨n,rfl,hw⟩,trivial⟩,rfl,rfl⟩
        · rename_i fs hu
          obtain ⟨xs,n,rfl,rfl,hlen,hxl,hf⟩:=DataW.trod_struct hu h
          obtain ⟨r1,r2,r3⟩:=rP (cs:=cs) (fun t ks cs x=>ih n t ks cs x) fs.toList 0 l xs hl (by rw [hlen,hcl];omega) (by simpa using hxl) (fun i f hi=>hf i f (by simpa using hi))
          refine ⟨by simpa using r1,r2,?_⟩
          simpa [kY] using r3
        · rename_i n e hu
          obtain ⟨l',hl',rfl⟩:=Option.map_eq_some_iff.1 hl
          obtain ⟨xs,m',rfl,rfl,hlen,hxl,hf⟩:=DataW.trod_array hu h
          have hce:=d8 hl'
          rw [hce] at hf
          obtain ⟨r1,r2,r3⟩:=qr (cs:=cs) hl' (fun t ks cs x=>ih m' t ks cs x) n 0 xs (by rw [hlen,hcl];simp [List.length_flatten]) hxl (fun i hi=>by simpa using hf i hi)
          refine ⟨by simpa using r1,r2,?_⟩
          simpa [kY] using r3
        · cases hl
      · cases hk
    · cases hk
theorem mb {fu m:Nat} {t e:TypeId} {ks:List (Option IntKind)} {A0:Option Addr} {n c:Nat} {x:DataW H × List MemPlace} (ht:P.underlying t = some (.slice e)) (hk:em P fu e = some ks) (hpos:0 < ks.length)
    (h:DataW.trod enc P w base sp held m t [.slice A0 n c] = some x):
    n ≤ c∧c ≤ maxLen∧∃ xs,Reads w w.heap.size ks.length A0 n xs∧∀ i,i < n → AllLeaf ks ((xs.drop (i * ks.length)).take ks.length):=by
  have hce:=d8 hk
  rcases Deep.open_slice ht h with ⟨h0,_⟩ | ⟨a,len,cap,mm,n',D,Pl,hcs,_,hl,hm,hmm,_,hi⟩
  · simp only [List.cons.injEq,Value.slice.injEq,and_true] at h0
    obtain ⟨rfl,rfl,rfl⟩:=h0
    exact ⟨Nat.le_refl _,by simp [maxLen],[],⟨by simp,fun hn=>absurd hn (by omega)⟩,fun i hn=>absurd hn (by omega)⟩
  · simp only [List.cons.injEq,Value.slice.injEq,and_true] at hcs
    obtain ⟨rfl,rfl,rfl⟩:=hcs
    have hle:n ≤ mm:=by rw [hmm];split <;> omega
    refine ⟨hl,hm,(List.range (n * ks.length)).map (fun j=>(w.cell? (a.add j)).getD undef),?_,?_⟩
    · refine ⟨by simp,fun hn=>?_⟩
      obtain ⟨cs0,hc0,_⟩:=hi 0 (by omega)
      rw [hce] at hc0
      obtain ⟨_,hcl0,hat0⟩:=World.cells?_some hc0
      have h00:=hat0 0 hpos
      have hcell0:w.cell? a = some (cs0[0]'(by omega)):=by
        have:w.cell? ((a.add (0 * ks.length)).add 0) = cs0[0]?:=h00
        rw [List.getElem?_eq_getElem (by omega)] at this
        simpa [Addr.add] using this
      have hspot:=World.cell?_spot hcell0
      obtain ⟨b,off,spot⟩:=a
      simp only at hspot
      subst hspot
      have hb:b < w.heap.size:=by
        rcases Nat.lt_or_ge b w.heap.size with h | h
        · exact h
        · simp [World.cell?,Array.getElem?_eq_none h] at hcell0
      refine ⟨b,off,rfl,hb,fun j u hj=>?_⟩
      simp only [List.getElem?_map,Option.map_eq_some_iff] at hj
      obtain ⟨j',hj',hu⟩:=hj
      have hjl:j < n * ks.length:=by
        rcases Nat.lt_or_ge j (n * ks.length) with h | h
        · exact h
        · simp [Nat.not_lt.2 h] at hj'
      have hjj:j' = j:=by simpa [hjl] using hj'.symm
      subst hjj
      have hdiv:j' / ks.length < n:=(Nat.div_lt_iff_lt_mul hpos).2 hjl
      obtain ⟨cs',hc',_⟩:=hi (j' / ks.length) (by omega)
      rw [hce] at hc'
      obtain ⟨_,hcl,hat⟩:=World.cells?_some hc'
      have hmod:j' % ks.length < ks.length:=Nat.mod_lt _ hpos
      have h1:=hat _ hmod
      rw [jw,Nat.mul_comm,Nat.div_add_mod,List.getElem?_eq_getElem (by omega)] at h1
      rw [← gf,← hu,h1]
      rfl
    · intro i hin
      obtain ⟨cs',hc',ht'⟩:=hi i (by omega)
      rw [hce] at hc'
      obtain ⟨_,hcl,hat⟩:=World.cells?_some hc'
      obtain ⟨r1,_,_⟩:=vi fu n' e ks cs' _ hk ht'
      have he:((((List.range (n * ks.length)).map (fun j=>(w.cell? (a.add j)).getD undef)).drop (i * ks.length)).take ks.length) = cs':=by
        apply List.ext_getElem?
        intro j
        by_cases hj:j < ks.length
        · have h1:=hat j hj
          rw [jw,List.getElem?_eq_getElem (by omega)] at h1
          have hlt:i * ks.length + j < n * ks.length:=by
            have:(i + 1) * ks.length ≤ n * ks.length:=Nat.mul_le_mul_right _ hin
            rw [Nat.add_mul,Nat.one_mul] at this
            omega
          rw [List.getElem?_take_of_lt hj,List.getElem?_drop,List.getElem?_map,List.getElem?_range hlt]
          simp [h1,List.getElem?_eq_getElem (show j < cs'.length by omega)]
        · rw [List.getElem?_take,if_neg hj,List.getElem?_eq_none (by omega)]
      rw [he]
      exact r1
end
end
section
theorem cr {a w w':World} (h:Below a.heap.size a w) (h':Below w.heap.size w w'):Below a.heap.size a w':=h.trans (h'.mono h.size)
structure Keeps (F:Nat → Prop) (w w':World):Prop where
  os:w'.os = w.os
  tape:w'.tape = w.tape
  output:w'.output = w.output
  size:w.heap.size ≤ w'.heap.size
  block:∀ k,k < w.heap.size → ¬ F k → w'.heap[k]? = w.heap[k]?
section
variable {F G:Nat → Prop} {a b w w':World}
theorem Keeps.refl (F:Nat → Prop) (w:World):Keeps F w w:=⟨rfl,rfl,rfl,Nat.le_refl _,fun _ _ _=>rfl⟩
theorem Keeps.trans (h:Keeps F a b) (k:Keeps G b w) (hG:∀ g,G g → F g ∨ a.heap.size ≤ g):Keeps F a w:=
  ⟨k.os.trans h.os,k.tape.trans h.tape,k.output.trans h.output,Nat.le_trans h.size k.size,fun i hi hF=>(k.block i (Nat.lt_of_lt_of_le hi h.size) (fun hg=>(hG i hg).elim hF (fun h'=>by omega))).trans (h.block i hi hF)⟩
theorem Keeps.of_below (h:Below a.heap.size a b):Keeps F a b:=⟨h.os,h.tape,h.output,h.size,fun i hi _=>h.block i hi⟩
theorem Keeps.below (h:Keeps F a b) (k:Below b.heap.size b w):Keeps F a w:=h.trans (Keeps.of_below (F:=F) k) fun _ h=>.inl h
theorem Keeps.drew (h:Keeps F a w):Keeps F a w.drew:=⟨h.os,h.tape,h.output,h.size,h.block⟩
theorem Keeps.drewN (h:Keeps F a w) (n:Nat):Keeps F a (w.drewN n):=⟨h.os,h.tape,h.output,h.size,h.block⟩
theorem Keeps.setCell (h:Keeps F a w) {p:Addr} (hp:F p.block ∨ a.heap.size ≤ p.block) (u:Value):Keeps F a (w.setCell p u):=
  ⟨h.os,h.tape,h.output,by simpa [World.setCell] using h.size,fun i hi hn=>(Below.heap_setCell w p u i (by
    rintro rfl
    rcases hp with hp | hp
    · exact hn hp
    · omega)).trans (h.block i hi hn)⟩
theorem Keeps.blk (h:Keeps F a w) {g:Nat} {t:TypeId} {cs:Array Value} (hb:Blk a g t cs) (hn:¬ F g):Blk w g t cs:=(h.block g hb.lt hn).trans hb
theorem Keeps.own (h:Keeps F a w) {base:Nat} {e:TypeId} {size n:Nat} {v:Value} {xs:List Value} (ho:a.ownsRow base e size v n xs) (hn:∀ g,v.ownBlock = some g → ¬ F g):w.ownsRow base e size v n xs:=by
  refine ⟨ho.1,?_⟩
  rcases ho.2 with h0 | ⟨g,cap,cur,rfl,hb,hh,r⟩
  · exact .inl h0
  · exact .inr ⟨g,cap,cur,rfl,hb,(h.block g (Array.getElem?_eq_some_iff.1 hh).1 (hn g rfl)).trans hh,r⟩
end
end
section
open Go.RowKit Go.ChangeShapes Go.WideShapes
def u8s (bs:List Int):List Value:=bs.map fun b=>.int .u8 b
theorem dn (bs:List Int):(u8s bs).length = bs.length:=by simp [u8s]
theorem ff (bs:List Int):∀ u ∈ u8s bs,u.oneCell' = true:=by
  intro u hu
  obtain ⟨b,_,rfl⟩:=List.mem_map.1 hu
  rfl
def aw (zs:List Int):List Value:=zs.map fun z=>.int .i64 z
theorem qU (zs:List Int):(aw zs).length = zs.length:=by simp [aw]
theorem qT (a b:List Int):aw (a ++ b) = aw a ++ aw b:=by simp [aw]
theorem bp {α:Type} (l:List α) (k:Nat) (x:α) (h:l[k]? = some x):l.take (k + 1) = l.take k ++ [x]:=by
  rw [List.take_add_one,h];rfl
theorem Reads.int_at {w:World} {B n k:Nat} {A:Option Addr} {zs:List Int} (h:Reads w B 1 A n (aw zs)) (hk:k < n):∃ b off z,A = some ⟨b,off,none⟩∧b < B∧zs[k]? = some z∧w.cell? ⟨b,off + k,none⟩ = some (.int .i64 z):=by
  obtain ⟨b,off,u,e,hb,hu,hc⟩:=h.at_ hk
  rw [aw,List.getElem?_map] at hu
  obtain ⟨z,hz,rfl⟩:=Option.map_eq_some_iff.1 hu
  exact ⟨b,off,z,e,hb,hz,hc⟩
theorem Reads.byte_at {w:World} {B n k:Nat} {A:Option Addr} {zs:List Int} (h:Reads w B 1 A n (u8s zs)) (hk:k < n):∃ b off z,A = some ⟨b,off,none⟩∧b < B∧zs[k]? = some z∧w.cell? ⟨b,off + k,none⟩ = some (.int .u8 z):=by
  obtain ⟨b,off,u,e,hb,hu,hc⟩:=h.at_ hk
  rw [u8s,List.getElem?_map] at hu
  obtain ⟨z,hz,rfl⟩:=Option.map_eq_some_iff.1 hu
  exact ⟨b,off,z,e,hb,hz,hc⟩
theorem Reads.nil_none {w:World} {B n:Nat} {A:Option Addr} {xs:List Value} (h:Reads w B 1 A n xs) (hA:A = none):n = 0:=by
  rcases Nat.eq_zero_or_pos n with h0 | h0
  · exact h0
  · obtain ⟨_,_,e',_⟩:=h.2 h0
    rw [hA] at e'
    cases e'
theorem df {w:World} {base:Nat} {e:TypeId} {size n:Nat} {v:Value} {xs:List Value} (h:w.ownsRow base e size v n xs) {g:Nat} (hg:v.ownBlock = some g):base ≤ g∧g < w.heap.size:=by
  rcases h.2 with ⟨rfl,_⟩ | ⟨g',cap,cur,rfl,hb,hh,_⟩
  · simp [Value.ownBlock] at hg
  · have:g' = g:=by simpa [Value.ownBlock] using hg
    subst this
    exact ⟨hb,(Array.getElem?_eq_some_iff.1 hh).1⟩
theorem dh {w:World} {base base':Nat} {e:TypeId} {size n:Nat} {v:Value} {xs:List Value} (h:w.ownsRow base e size v n xs) (hb:base' ≤ base):w.ownsRow base' e size v n xs:=by
  refine ⟨h.1,?_⟩
  rcases h.2 with h0 | ⟨g,cap,cur,rfl,hg,r⟩
  · exact .inl h0
  · exact .inr ⟨g,cap,cur,rfl,Nat.le_trans hb hg,r⟩
theorem vE {w:World} {base base':Nat} {e e':TypeId} {size size' n n':Nat} {v v':Value} {xs xs':List Value} (h:w.ownsRow base e size v n xs) (h':w.ownsRow base' e' size' v' n' xs') (hne:e ≠ e'):v.ownBlock = none ∨ v.ownBlock ≠ v'.ownBlock:=by
  rcases h.2 with ⟨rfl,_⟩ | ⟨g,cap,cur,rfl,_,hh,_⟩
  · exact .inl rfl
  · rcases h'.2 with ⟨rfl,_⟩ | ⟨g',cap',cur',rfl,_,hh',_⟩
    · exact .inr (by simp [Value.ownBlock])
    · refine .inr (fun e0=>?_)
      have:g = g':=by simpa [Value.ownBlock] using e0
      subst this
      rw [hh] at hh'
      injection hh' with hh'
      injection hh' with _ ht
      exact hne ht
theorem gn {w:World} {base:Nat} {e:TypeId} {size n c:Nat} {A:Option Addr} {xs:List Value} (h:w.ownsRow base e size (.slice A n c) n xs) (hn:0 < n):∃ g,A = some ⟨g,0,none⟩∧base ≤ g∧g < w.heap.size:=by
  obtain ⟨g,cap,e,h1,h2⟩:=h.form hn
  injection e with e
  exact ⟨g,e,h1,h2⟩
theorem cI {w w':World} {base:Nat} {e:TypeId} {size n:Nat} {v:Value} {xs:List Value} (h:w.ownsRow base e size v n xs) (hb:Below w.heap.size w w'):w'.ownsRow base e size v n xs:=(Keeps.of_below (F:=fun _=>False) hb).own h (fun _ _ h=>h)
theorem fT {F:Nat → Prop} {a w w':World} (h:Below a.heap.size a w) (hk:Keeps F w w') (hF:∀ g,F g → a.heap.size ≤ g):Below a.heap.size a w':=
  ⟨hk.os.trans h.os,hk.tape.trans h.tape,hk.output.trans h.output,Nat.le_trans h.size hk.size,fun i hi=>(hk.block i (Nat.lt_of_lt_of_le hi h.size) (fun hf=>by have:=hF i hf;omega)).trans (h.block i hi)⟩
theorem aC (w:World) (o:Obj):Below w.heap.size w (w.alloc o):=(Below.refl _ _).alloc (Nat.le_refl _) o
theorem sx (w:World):Below w.heap.size w w.drew:=(Below.refl _ _).drew
theorem aA {w w':World} {p:Addr} {v:Value} (h:w.cell? p = some v) (hb:Below w.heap.size w w'):w'.cell? p = some v:=by
  have hlt:p.block < w.heap.size:=by
    rcases Nat.lt_or_ge p.block w.heap.size with h1 | h1
    · exact h1
    · simp [World.cell?,Array.getElem?_eq_none h1] at h
  exact (hb.cell hlt).trans h
theorem mg {P:Program} {fn:Func} {p u:Tmp} {ty:TypeId} (h:fn.results = #[.cell p ty,.tmp u]) (tmps:Array Value) (w:World) (g:Nat) (t:TypeId) (cs:Array Value) (d:TypeDesc)
    (hp:tmps.getD p undef = .pointer (some ⟨g,0,none⟩)) (hg:Blk w g t cs) (hu:P.underlying ty = some d) (hd:(match d with | .struct _ | .array _ _=>true | _=>false) = true) (hi:(P.info? ty).map (·.size) = some cs.size):
    (results fn tmps).run P w = .ok (.tuple #[.agg cs,tmps.getD u undef]) w:=by
  rw [results_cell_tmp h,hp]
  simp [asAddr,run_loadVar_row w g t ty cs (0,0) d hg hu hd hi,Result.andThen]
def f9 (cs:List Value) (o:Nat) (vs:List Value):List Value:=cs.take o ++ vs ++ cs.drop (o + vs.length)
section
variable {α:Type} (cells:α → List Value) (size:Nat)
def ab (l:List α):List Value:=l.flatMap cells
theorem eT (a b:List α):ab cells (a ++ b) = ab cells a ++ ab cells b:=by simp [ab]
theorem be (h:∀ a,(cells a).length = size) (l:List α):(ab cells l).length = l.length * size:=by
  induction l with
  | nil=>simp [ab]
  | cons x l ih=>simp only [ab,List.flatMap_cons,List.length_append] at ih ⊢;rw [ih,h,List.length_cons,Nat.add_mul,Nat.one_mul,Nat.add_comm]
theorem mC (h:∀ a,(cells a).length = size):∀ (l:List α) (k j:Nat) (x:α),l[k]? = some x → j < size → (ab cells l)[k * size + j]? = (cells x)[j]?
  | [],k,_,_,hk,_=>by simp at hk
  | y::l,0,j,x,hk,hj=>by
    simp only [List.getElem?_cons_zero,Option.some.injEq] at hk
    subst hk
    simp only [ab,List.flatMap_cons,Nat.zero_mul,Nat.zero_add]
    rw [List.getElem?_append_left (by rw [h];exact hj)]
  | y::l,k + 1,j,x,hk,hj=>by
    simp only [List.getElem?_cons_succ] at hk
    have:=mC h l k j x hk hj
    simp only [ab,List.flatMap_cons] at this ⊢
    rw [List.getElem?_append_right (by rw [h,Nat.add_mul,Nat.one_mul];omega),← this,h]
    congr 1
    rw [Nat.add_mul,Nat.one_mul]
    omega
theorem Reads.row_at (h:∀ a,(cells a).length = size) {w:World} {B n k:Nat} {A:Option Addr} {l:List α} (hr:Reads w B size A n (ab cells l)) (hs:0 < size) (hk:k < n):
    ∃ b off x,A = some ⟨b,off,none⟩∧b < B∧l[k]? = some x∧∀ j u,(cells x)[j]? = some u → w.cell? ⟨b,off + k * size + j,none⟩ = some u:=by
  obtain ⟨b,off,e,hb,hc⟩:=hr.2 (by omega)
  have hl:=hr.1
  rw [be cells size h] at hl
  have hlen:k < l.length:=by rw [Nat.mul_right_cancel hs hl];exact hk
  refine ⟨b,off,l[k],e,hb,List.getElem?_eq_getElem hlen,fun j u hu=>?_⟩
  have hj:j < size:=by
    have:=(List.getElem?_eq_some_iff.1 hu).1
    rwa [h] at this
  rw [Nat.add_assoc]
  exact hc (k * size + j) u ((mC cells size h l k j _ (List.getElem?_eq_getElem hlen) hj).trans hu)
end
def RowAt {α:Type} (cells:α → List Value) (size:Nat) (w:World) (A:Option Addr) (n:Nat) (l:List α):Prop:=
  l.length = n∧(0 < n → ∃ b off,A = some ⟨b,off,none⟩∧b < w.heap.size∧∀ k a,l[k]? = some a → ∀ j u,(cells a)[j]? = some u → w.cell? ⟨b,off + k * size + j,none⟩ = some u)
section
variable {H:Type} {enc:TypeId × Value → H} {w:World} {base:Nat} {sp:Nat → Bool} {held:Bool} {P:Program}
theorem jt {m:Nat} {t:TypeId} {fs:Array Field} {cs:List Value} {x:DataW H × List MemPlace} {L:List (TypeId × Nat)} (hu:P.underlying t = some (.struct fs)) (hL:fs.toList.map (fun f=>(f.type,f.offset)) = L) (h:DataW.trod enc P w base sp held m t cs = some x):
    ∃ n,∀ (i:Nat) (t o:Nat),L[i]? = some (t,o) → ∃ y,DataW.trod enc P w base sp held n t ((cs.drop o).take (P.cellsOf t)) = some y:=by
  obtain ⟨xs,n,rfl,_,_,hxl,hf⟩:=DataW.trod_struct hu h
  refine ⟨n,fun i t o hi=>?_⟩
  rw [← hL,List.getElem?_map] at hi
  obtain ⟨f,hf1,hf2⟩:=Option.map_eq_some_iff.1 hi
  have hlt:i < xs.length:=by
    rw [hxl]
    have:=(List.getElem?_eq_some_iff.1 hf1).1
    simpa using this
  have h1:=hf i f (by simpa using hf1)
  rw [List.getElem?_eq_getElem hlt] at h1
  simp only [Prod.mk.injEq] at hf2
  rw [hf2.1,hf2.2] at h1
  exact ⟨_,h1⟩
theorem rQ {m:Nat} {t e:TypeId} {v:Value} {x:DataW H × List MemPlace} (ht:P.underlying t = some (.slice e)) (h:DataW.trod enc P w base sp held m t [v] = some x):∃ A n c,v = .slice A n c:=by
  rcases DataW.trod_slice ht h with ⟨e,_⟩ | ⟨a,len,cap,_,_,_,_,e,_⟩
  · simp only [List.cons.injEq,and_true] at e;exact ⟨_,_,_,e⟩
  · simp only [List.cons.injEq,and_true] at e;exact ⟨_,_,_,e⟩
theorem vW {α:Type} [Inhabited α] (cells:α → List Value) (ok:α → Prop) (t e size:Nat) (ht:P.underlying t = some (.slice e)) (hce:P.cellsOf e = size) (hs:0 < size) (hcl:∀ a,(cells a).length = size)
    (one:∀ (m:Nat) (cs:List Value) (x:DataW H × List MemPlace),cs.length = size → DataW.trod enc P w base sp held m e cs = some x → ∃ a,cs = cells a∧ok a)
    {m:Nat} {A:Option Addr} {n c:Nat} {x:DataW H × List MemPlace} (h:DataW.trod enc P w base sp held m t [.slice A n c] = some x):∃ l,RowAt cells size w A n l∧∀ a ∈ l,ok a:=by
  rcases Deep.open_slice ht h with ⟨h0,_⟩ | ⟨a,len,cap,mm,n',D,Pl,hcs,_,hl,hm,hmm,_,hi⟩
  · simp only [List.cons.injEq,Value.slice.injEq,and_true] at h0
    obtain ⟨rfl,rfl,rfl⟩:=h0
    exact ⟨[],⟨rfl,fun h=>absurd h (by omega)⟩,fun a ha=>by cases ha⟩
  · simp only [List.cons.injEq,Value.slice.injEq,and_true] at hcs
    obtain ⟨rfl,rfl,rfl⟩:=hcs
    have hle:n ≤ mm:=by rw [hmm];split <;> omega
    have hall:∀ i,i < n → ∃ v:α,ok v∧∀ j u,(cells v)[j]? = some u → w.cell? ((a.add (i * size)).add j) = some u:=by
      intro i hin
      obtain ⟨cs',hc',ht'⟩:=hi i (by omega)
      rw [hce] at hc'
      obtain ⟨_,hcl',hat⟩:=World.cells?_some hc'
      obtain ⟨v,rfl,hok⟩:=one _ _ _ hcl' ht'
      refine ⟨v,hok,fun j u hu=>?_⟩
      have hj:j < size:=by
        have:=(List.getElem?_eq_some_iff.1 hu).1
        rwa [hcl] at this
      rw [hat j hj]
      exact hu
    obtain ⟨f,hf⟩:=Deep.choose_lt hall
    refine ⟨(List.range n).map f,⟨by simp,fun hn=>?_⟩,fun v hv=>?_⟩
    · have h00:=(hf 0 hn).2 0 _ (List.getElem?_eq_getElem (by rw [hcl];omega))
      have hspot:=World.cell?_spot h00
      obtain ⟨b,off,spot⟩:=a
      have hs0:spot = none:=by
        have:((({ block:=b,off:=off,spot:=spot }:Addr).add (0 * size)).add 0) = ⟨b,off,spot⟩:=by simp [Addr.add]
        rw [this] at hspot
        exact hspot
      subst hs0
      have hb:b < w.heap.size:=by
        rcases Nat.lt_or_ge b w.heap.size with h | h
        · exact h
        · have:((({ block:=b,off:=off,spot:=none }:Addr).add (0 * size)).add 0) = ⟨b,off,none⟩:=by simp [Addr.add]
          rw [this] at h00
          simp [World.cell?,Array.getElem?_eq_none h] at h00
      refine ⟨b,off,rfl,hb,fun k v hv j u hu=>?_⟩
      rw [List.getElem?_map] at hv
      obtain ⟨k',hk',rfl⟩:=Option.map_eq_some_iff.1 hv
      have hkl:k < n:=by
        rcases Nat.lt_or_ge k n with h | h
        · exact h
        · simp [Nat.not_lt.2 h] at hk'
      have hkk:k' = k:=by simpa [hkl] using hk'.symm
      subst hkk
      have hc:=(hf k' hkl).2 j u hu
      rw [jw,gf,← Nat.add_assoc] at hc
      exact hc
    · obtain ⟨i,hi',rfl⟩:=List.mem_map.1 hv
      exact (hf i (by simpa using hi')).1
end
end
section
section
variable {P:Program} {ops:Array Oper} {md:Region.Mode} {Q:Exit → Act → World → Prop}
def om (ops:Array Oper):Bool:=(List.range ops.size).all fun i=>match ops[i]? with | some o=>o.after.all fun e=>decide (e.on < i) | none=>true
def fR (ops:Array Oper):Bool:=(List.range ops.size).all fun i=>(List.range ops.size).all fun j=>i == j || match (ops[i]?).bind (·.dst),(ops[j]?).bind (·.dst) with | some d,some e=>d != e | _,_=>true
def cZ (md:Region.Mode) (ops:Array Oper) (i s:Nat):Bool:=(List.range ops.size).all fun j=>((ops[j]?).bind (·.dst) != some s) || j == i || Region.waitsFor md ops j i
def dy (ops:Array Oper) (n:Nat):Bool:=ops.all fun o=>match o.dst with | some d=>decide (d < n) | none=>true
structure At (md:Region.Mode) (ops:Array Oper) (F:Nat → Value → World → Prop) (a0:Act) (w0:World) (i:Nat) (a:Act) (w:World):Prop where
  below:Below w0.heap.size w0 w
  base:∀ s,cZ md ops i s = true → a.tmps.getD s undef = a0.tmps.getD s undef
  fact:∀ j,Region.waitsFor md ops i j = true → ∃ v,(∀ d,(ops[j]?).bind (·.dst) = some d → a.tmps.getD d undef = v)∧F j v w
structure FInv (md:Region.Mode) (ops:Array Oper) (F:Nat → Value → World → Prop) (a0:Act) (w0:World) (listed:Array Bool) (a:Act) (w:World):Prop where
  below:Below w0.heap.size w0 w
  size:a.tmps.size = a0.tmps.size
  defers:a.defers = a0.defers
  len:listed.size = ops.size
  old:∀ s,(∀ (i:Nat) o,ops[i]? = some o → listed.getD i false = true → o.dst ≠ some s) → a.tmps[s]? = a0.tmps[s]?
  new:∀ (i:Nat) o,ops[i]? = some o → listed.getD i false = true → ∃ v,(∀ d,o.dst = some d → a.tmps[d]? = some v)∧F i v w
  closed:∀ (j:Nat) oj,ops[j]? = some oj → listed.getD j false = true → ∀ e ∈ oj.after,Region.binds md e = true → listed.getD e.on false = true
def ba:List Oper → (Nat → Value) → Nat → Act → Act
  | [],_,_,a=>a
  | o::l,vs,k,a=>ba l vs (k + 1) (a.put o.dst (vs k))
theorem iE (a:Act) (d:Option Tmp) (v:Value):(a.put d v).tmps.size = a.tmps.size:=by cases d <;> simp [Act.put]
theorem gU (a:Act) (d:Option Tmp) (v:Value):(a.put d v).defers = a.defers:=by cases d <;> simp [Act.put]
theorem iD (a:Act) (d:Option Tmp) (v:Value) (s:Nat) (h:d ≠ some s):(a.put d v).tmps[s]? = a.tmps[s]?:=by
  cases d with
  | none=>rfl
  | some d=>simp only [Act.put];exact Array.getElem?_setIfInBounds_ne (fun e=>h (by rw [e]))
theorem pX (a:Act) (v:Value) (s:Nat) (h:s < a.tmps.size):(a.put (some s) v).tmps[s]? = some v:=by
  simp [Act.put,h]
theorem fY:∀ (l:List Oper) (vs:Nat → Value) (k:Nat) (a:Act),(ba l vs k a).tmps.size = a.tmps.size
  | [],_,_,_=>rfl
  | o::l,vs,k,a=>by rw [ba,fY l,iE]
theorem eI:∀ (l:List Oper) (vs:Nat → Value) (k:Nat) (a:Act),(ba l vs k a).defers = a.defers
  | [],_,_,_=>rfl
  | o::l,vs,k,a=>by rw [ba,eI l,gU]
theorem gT (s:Nat) (t:Value):∀ (l:List Oper) (vs:Nat → Value) (k:Nat) (a:Act),s < a.tmps.size → (∀ (j:Nat) o,l[j]? = some o → o.dst = some s → vs (k + j) = t) →
    (a.tmps[s]? = some t ∨ ∃ (j:Nat) (o:Oper),l[j]? = some o∧o.dst = some s) → (ba l vs k a).tmps[s]? = some t
  | [],_,_,_,_,_,h=>by
    rcases h with h | ⟨j,o,h,_⟩
    · exact h
    · simp at h
  | o::l,vs,k,a,hs,h1,h=>by
    rw [ba]
    refine gT s t l vs (k + 1) _ (by rw [iE];exact hs) (fun j o' hj hd=>?_) ?_
    · have:=h1 (j + 1) o' (by simpa using hj) hd
      rw [show k + 1 + j = k + (j + 1) by omega];exact this
    · by_cases hd:o.dst = some s
      · left
        rw [hd,pX a _ s hs,← h1 0 o rfl hd];rfl
      · rcases h with h | ⟨j,o',hj,hd'⟩
        · left;rw [iD a _ _ s hd];exact h
        · right
          cases j with
          | zero=>simp only [List.getElem?_cons_zero,Option.some.injEq] at hj;subst hj;exact absurd hd' hd
          | succ j=>exact ⟨j,o',by simpa using hj,hd'⟩
theorem iQ {α:Type} (p q:α → Bool):∀ (l:List α),(∀ x ∈ l,p x = true → q x = true) → ∀ x ∈ l,q x = true → p x = false → l.countP p < l.countP q
  | [],_,_,h,_,_=>by cases h
  | y::l,h,x,hx,hq,hp=>by
    have hle:l.countP p ≤ l.countP q:=List.countP_mono_left (fun z hz=>h z (List.mem_cons_of_mem _ hz))
    rcases List.mem_cons.1 hx with rfl | hx
    · rw [List.countP_cons,List.countP_cons,hq,hp];simp;omega
    · have:=iQ p q l (fun z hz=>h z (List.mem_cons_of_mem _ hz)) x hx hq hp
      have hy:=h y List.mem_cons_self
      rw [List.countP_cons,List.countP_cons]
      cases h1:p y with
      | true=>rw [hy h1];simp;exact this
      | false=>simp;omega
theorem qI {F:Nat → Value → World → Prop} {a0:Act} {w0:World} {listed:Array Bool} {a:Act} {w:World} (inv:FInv md ops F a0 w0 listed a w) (hb:om ops = true) (hr:Region.ready md ops listed = []):∀ i,i < ops.size → listed.getD i false = true:=by
  intro i
  induction i using Nat.strongRecOn with
  | ind i ih=>
    intro hi
    cases h:listed.getD i false with
    | true=>rfl
    | false=>
      have hit:listed.getD i true = false:=getD_in (by rw [inv.len];exact hi) h
      have ho:ops[i]? = some ops[i]:=Array.getElem?_eq_getElem hi
      have:i ∈ Region.ready md ops listed:=mem_ready.2 ⟨hit,ops[i],ho,fun e he _=>ih e.on (by
        have:=List.all_eq_true.1 hb i (List.mem_range.2 hi)
        rw [ho] at this
        exact of_decide_eq_true (Array.all_eq_true_iff_forall_mem.1 this e he)) (Nat.lt_trans (by
        have:=List.all_eq_true.1 hb i (List.mem_range.2 hi)
        rw [ho] at this
        exact of_decide_eq_true (Array.all_eq_true_iff_forall_mem.1 this e he)) hi)⟩
      rw [hr] at this
      cases this
theorem qJ {F:Nat → Value → World → Prop} {a0:Act} {w0:World} {listed:Array Bool} {a:Act} {w:World} (inv:FInv md ops F a0 w0 listed a w) (hall:∀ i,i < ops.size → listed.getD i false = true):
    ∃ vs:Nat → Value,(∀ i,i < ops.size → F i (vs i) w)∧a = ba ops.toList vs 0 a0:=by
  have hx:∀ i,∃ v,∀ o,ops[i]? = some o → (∀ d,o.dst = some d → a.tmps[d]? = some v)∧F i v w:=by
    intro i
    by_cases hi:i < ops.size
    · obtain ⟨v,h⟩:=inv.new i ops[i] (Array.getElem?_eq_getElem hi) (hall i hi)
      exact ⟨v,fun o ho=>by rw [Array.getElem?_eq_getElem hi] at ho;cases ho;exact h⟩
    · exact ⟨undef,fun o ho=>by rw [Array.getElem?_eq_none (by omega)] at ho;cases ho⟩
  obtain ⟨vs,hvs⟩:=Classical.axiomOfChoice hx
  refine ⟨vs,fun i hi=>(hvs i _ (Array.getElem?_eq_getElem hi)).2,?_⟩
  have hd:a.defers = (ba ops.toList vs 0 a0).defers:=by rw [eI];exact inv.defers
  have ht:a.tmps = (ba ops.toList vs 0 a0).tmps:=by
    apply Array.ext_getElem?
    intro s
    by_cases hs:s < a0.tmps.size
    · have hs':s < a.tmps.size:=by rw [inv.size];exact hs
      rw [Array.getElem?_eq_getElem hs']
      refine (gT s a.tmps[s] ops.toList vs 0 a0 hs (fun j o hj hd=>?_) ?_).symm
      · rw [Array.getElem?_toList] at hj
        have:=(hvs j o hj).1 s hd
        rw [Array.getElem?_eq_getElem hs'] at this
        rw [Nat.zero_add]
        exact (Option.some.inj this).symm
      · by_cases hw:∃ (j:Nat) (o:Oper),ops[j]? = some o∧o.dst = some s
        · right
          obtain ⟨j,o,hj,hd⟩:=hw
          exact ⟨j,o,by rw [Array.getElem?_toList];exact hj,hd⟩
        · left
          rw [← inv.old s (fun i o ho _ hd=>hw ⟨i,o,ho,hd⟩)]
          exact Array.getElem?_eq_getElem hs'
    · rw [Array.getElem?_eq_none (by rw [inv.size];omega),Array.getElem?_eq_none (by rw [fY];omega)]
  cases a
  cases hp:ba ops.toList vs 0 a0
  rw [hp] at hd ht
  simp only at hd ht
  rw [hd,ht]
theorem t8 {F:Nat → Value → World → Prop} {a0:Act} {w0:World} {listed:Array Bool} {a:Act} {w:World} (inv:FInv md ops F a0 w0 listed a w) {i:Nat} {o:Oper} (ho:ops[i]? = some o) (hun':listed.getD i false = false)
    (hdeps:∀ e ∈ o.after,Region.binds md e = true → listed.getD e.on false = true):At md ops F a0 w0 i a w:=by
    refine ⟨inv.below,fun s hs=>?_,fun j hj=>?_⟩
    · have:=inv.old s (fun j oj hj hl hd=>by
        have h1:=List.all_eq_true.1 hs j (List.mem_range.2 (Array.getElem?_eq_some_iff.1 hj).1)
        simp only [hj,Option.bind_some,hd,bne_self_eq_false,Bool.false_or,Bool.or_eq_true,beq_iff_eq] at h1
        rcases h1 with h1 | h1
        · rw [h1,hun'] at hl;cases hl
        · obtain ⟨oj',hj',e,he,hb,he2⟩:=Region.waitsFor_spec h1
          have:=inv.closed j oj' hj' hl e he hb
          rw [he2,hun'] at this;cases this)
      rw [Array.getD_eq_getD_getElem?,Array.getD_eq_getD_getElem?,this]
    · obtain ⟨o',ho',e,he,hb,he2⟩:=Region.waitsFor_spec hj
      rw [ho] at ho'
      cases ho'
      have hl:=hdeps e he hb
      rw [he2] at hl
      have hj2:j < ops.size:=by
        rcases Nat.lt_or_ge j listed.size with h | h
        · rw [inv.len] at h;exact h
        · rw [Array.getD_eq_getD_getElem?,Array.getElem?_eq_none h] at hl;cases hl
      obtain ⟨v,h1,h2⟩:=inv.new j ops[j] (Array.getElem?_eq_getElem hj2) hl
      refine ⟨v,fun d hd=>?_,h2⟩
      rw [Array.getElem?_eq_getElem hj2] at hd
      rw [Array.getD_eq_getD_getElem?,h1 d hd];rfl
theorem ox {F:Nat → Value → World → Prop} {a0:Act} {w0:World} {listed:Array Bool} {a:Act} {w:World} (hdst:fR ops = true) (hroom:dy ops a0.tmps.size = true)
    (hst:∀ i v w w',Below w.heap.size w w' → F i v w → F i v w') (inv:FInv md ops F a0 w0 listed a w) {i:Nat} {o:Oper} (ho:ops[i]? = some o) (hil:i < ops.size)
    (hdeps:∀ e ∈ o.after,Region.binds md e = true → listed.getD e.on false = true) (v:Value) (w':World) (hbw:Below w.heap.size w w') (hF:F i v w'):FInv md ops F a0 w0 (listed.setIfInBounds i true) (a.put o.dst v) w':=by
    refine ⟨?_,by rw [iE];exact inv.size,by rw [gU];exact inv.defers,by simp [inv.len],fun s hs=>?_,fun j oj hj hl=>?_,fun j oj hj hl e he hb=>?_⟩
    · exact inv.below.trans (hbw.mono inv.below.size)
    · rw [iD a _ _ s (hs i o ho (by simp [inv.len,hil]))]
      exact inv.old s (fun j oj hj hl=>hs j oj hj (by
        by_cases hij:i = j
        · subst hij;simp [inv.len,hil]
        · rwa [getD_set_ne false hij]))
    · by_cases hij:i = j
      · subst hij
        rw [ho] at hj;cases hj
        refine ⟨v,fun d hd=>?_,hF⟩
        rw [hd]
        refine pX a v d ?_
        rw [inv.size]
        have:=Array.all_eq_true_iff_forall_mem.1 hroom o (Array.mem_of_getElem? ho)
        rw [hd] at this
        exact of_decide_eq_true this
      · rw [getD_set_ne false hij] at hl
        obtain ⟨u,h1,h2⟩:=inv.new j oj hj hl
        refine ⟨u,fun d hd=>?_,hst j u w w' hbw h2⟩
        rw [iD a _ _ d (fun e=>?_)]
        · exact h1 d hd
        · have h3:=List.all_eq_true.1 (List.all_eq_true.1 hdst i (List.mem_range.2 hil)) j (List.mem_range.2 (Array.getElem?_eq_some_iff.1 hj).1)
          simp only [ho,hj,Option.bind_some,e,hd,bne_self_eq_false,Bool.or_false,beq_iff_eq] at h3
          exact hij h3
    · have key:∀ k,listed.getD k false = true → (listed.setIfInBounds i true).getD k false = true:=fun k hk=>by
        by_cases hik:i = k
        · subst hik;simp [inv.len,hil]
        · rwa [getD_set_ne false hik]
      by_cases hij:i = j
      · subst hij
        rw [ho] at hj;cases hj
        exact key _ (hdeps e he hb)
      · rw [getD_set_ne false hij] at hl
        exact key _ (inv.closed j oj hj hl e he hb)
def xu (md:Region.Mode) (ops:Array Oper):Bool:=decide (0 < ops.size) && (List.range (ops.size - 1)).all fun j=>Region.waitsFor md ops (ops.size - 1) j
theorem iP {listed:Array Bool} (hall:∀ i,i < ops.size → listed.getD i true = true) {a:Act} {w:World} (h:Q .normal a w):∀ fuel,wpAny P md ops Q fuel listed a w:=by
  have hr:Region.ready md ops listed = []:=by
    cases h:Region.ready md ops listed with
    | nil=>rfl
    | cons i l=>
      have hi:i ∈ Region.ready md ops listed:=by rw [h];exact List.mem_cons_self
      obtain ⟨h1,o,ho,_⟩:=mem_ready.1 hi
      rw [hall i (Array.getElem?_eq_some_iff.1 ho).1] at h1
      cases h1
  intro fuel
  cases fuel with
  | zero=>exact ⟨hr,h⟩
  | succ fuel=>exact ⟨fun _=>h,fun i hi=>by rw [hr] at hi;cases hi⟩
theorem nZ {F:Nat → Value → World → Prop} {a0:Act} {w0:World} {listed:Array Bool} {a:Act} {w:World} (inv:FInv md ops F a0 w0 listed a w) (hall:∀ i,i < ops.size - 1 → listed.getD i false = true) (hlast:listed.getD (ops.size - 1) false = false):
    ∃ vs:Nat → Value,(∀ i,i < ops.size - 1 → F i (vs i) w)∧a = ba ops.toList.dropLast vs 0 a0:=by
  have hx:∀ i,∃ v,∀ o,i < ops.size - 1 → ops[i]? = some o → (∀ d,o.dst = some d → a.tmps[d]? = some v)∧F i v w:=by
    intro i
    by_cases hi:i < ops.size - 1
    · obtain ⟨v,h⟩:=inv.new i ops[i] (Array.getElem?_eq_getElem (by omega)) (hall i hi)
      exact ⟨v,fun o _ ho=>by rw [Array.getElem?_eq_getElem (by omega)] at ho;cases ho;exact h⟩
    · exact ⟨undef,fun o h _=>absurd h hi⟩
  obtain ⟨vs,hvs⟩:=Classical.axiomOfChoice hx
  have hget:∀ (j:Nat) (o:Oper),ops.toList.dropLast[j]? = some o → j < ops.size - 1∧ops[j]? = some o:=by
    intro j o hj
    have h1:=(List.getElem?_eq_some_iff.1 hj).1
    rw [List.length_dropLast,Array.length_toList] at h1
    rw [List.getElem?_dropLast,Array.length_toList,if_pos h1,Array.getElem?_toList] at hj
    exact ⟨h1,hj⟩
  refine ⟨vs,fun i hi=>(hvs i _ hi (Array.getElem?_eq_getElem (by omega))).2,?_⟩
  have hd:a.defers = (ba ops.toList.dropLast vs 0 a0).defers:=by rw [eI];exact inv.defers
  have ht:a.tmps = (ba ops.toList.dropLast vs 0 a0).tmps:=by
    apply Array.ext_getElem?
    intro s
    by_cases hs:s < a0.tmps.size
    · have hs':s < a.tmps.size:=by rw [inv.size];exact hs
      rw [Array.getElem?_eq_getElem hs']
      refine (gT s a.tmps[s] ops.toList.dropLast vs 0 a0 hs (fun j o hj hd=>?_) ?_).symm
      · obtain ⟨h1,h2⟩:=hget j o hj
        have:=(hvs j o h1 h2).1 s hd
        rw [Array.getElem?_eq_getElem hs'] at this
        rw [Nat.zero_add]
        exact (Option.some.inj this).symm
      · by_cases hw:∃ (j:Nat) (o:Oper),j < ops.size - 1∧ops[j]? = some o∧o.dst = some s
        · right
          obtain ⟨j,o,h1,hj,hd⟩:=hw
          exact ⟨j,o,by rw [List.getElem?_dropLast,Array.length_toList,if_pos h1,Array.getElem?_toList];exact hj,hd⟩
        · left
          rw [← inv.old s (fun i o ho hl hd=>hw ⟨i,o,(by
            rcases Nat.lt_or_ge i (ops.size - 1) with h | h
            · exact h
            · have:=(Array.getElem?_eq_some_iff.1 ho).1
              have e:i = ops.size - 1:=by omega
              rw [e,hlast] at hl
              exact Bool.noConfusion hl),ho,hd⟩)]
          exact Array.getElem?_eq_getElem hs'
    · rw [Array.getElem?_eq_none (by rw [inv.size];omega),Array.getElem?_eq_none (by rw [fY];omega)]
  cases a
  cases hp:ba ops.toList.dropLast vs 0 a0
  rw [hp] at hd ht
  simp only at hd ht
  rw [hd,ht]
theorem sk (F:Nat → Value → World → Prop) (a0:Act) (w0:World) (hback:om ops = true) (hdst:fR ops = true) (hroom:dy ops a0.tmps.size = true)
    (hst:∀ i v w w',Below w.heap.size w w' → F i v w → F i v w')
    (hstep:∀ (i:Nat) o,ops[i]? = some o → ∀ a w,At md ops F a0 w0 i a w → if Region.wanted o (yielded ops a.tmps) = true then o.wp P a w (fun a' w'=>∃ v,a' = a.put o.dst v∧Below w.heap.size w w'∧F i v w') Q else F i undef w)
    (hQ:∀ (vs:Nat → Value) w,Below w0.heap.size w0 w → (∀ i,i < ops.size → F i (vs i) w) → Q .normal (ba ops.toList vs 0 a0) w):
    ∀ (fuel:Nat) (listed:Array Bool) (a:Act) (w:World),FInv md ops F a0 w0 listed a w → (List.range ops.size).countP (fun i=>!listed.getD i true) ≤ fuel → wpAny P md ops Q fuel listed a w:=by
  have hend:∀ (listed:Array Bool) (a:Act) (w:World),FInv md ops F a0 w0 listed a w → Region.ready md ops listed = [] → Q .normal a w:=by
    intro listed a w inv hr
    obtain ⟨vs,hF,rfl⟩:=qJ inv (qI inv hback hr)
    exact hQ vs w inv.below hF
  intro fuel
  induction fuel with
  | zero=>
    intro listed a w inv hc
    have hr:Region.ready md ops listed = []:=by
      cases h:Region.ready md ops listed with
      | nil=>rfl
      | cons i l=>
        have hi:i ∈ Region.ready md ops listed:=by rw [h];exact List.mem_cons_self
        obtain ⟨h1,o,ho,_⟩:=mem_ready.1 hi
        have:0 < (List.range ops.size).countP (fun i=>!listed.getD i true):=List.countP_pos_iff.2 ⟨i,List.mem_range.2 (Array.getElem?_eq_some_iff.1 ho).1,by simp only [h1,Bool.not_false]⟩
        omega
    exact ⟨hr,hend _ _ _ inv hr⟩
  | succ fuel ih=>
    intro listed a w inv hc
    refine ⟨hend _ _ _ inv,fun i hi=>?_⟩
    obtain ⟨hun,o,ho,hdeps⟩:=mem_ready.1 hi
    have hil:i < ops.size:=(Array.getElem?_eq_some_iff.1 ho).1
    have hun':listed.getD i false = false:=getD_both hun
    have hat:At md ops F a0 w0 i a w:=by
      refine ⟨inv.below,fun s hs=>?_,fun j hj=>?_⟩
      · have:=inv.old s (fun j oj hj hl hd=>by
          have h1:=List.all_eq_true.1 hs j (List.mem_range.2 (Array.getElem?_eq_some_iff.1 hj).1)
          simp only [hj,Option.bind_some,hd,bne_self_eq_false,Bool.false_or,Bool.or_eq_true,beq_iff_eq] at h1
          rcases h1 with h1 | h1
          · rw [h1,hun'] at hl;cases hl
          · obtain ⟨oj',hj',e,he,hb,he2⟩:=Region.waitsFor_spec h1
            have:=inv.closed j oj' hj' hl e he hb
            rw [he2,hun'] at this;cases this)
        rw [Array.getD_eq_getD_getElem?,Array.getD_eq_getD_getElem?,this]
      · obtain ⟨o',ho',e,he,hb,he2⟩:=Region.waitsFor_spec hj
        rw [ho] at ho'
        cases ho'
        have hl:=hdeps e he hb
        rw [he2] at hl
        have hj2:j < ops.size:=by
          rcases Nat.lt_or_ge j listed.size with h | h
          · rw [inv.len] at h;exact h
          · rw [Array.getD_eq_getD_getElem?,Array.getElem?_eq_none h] at hl;cases hl
        obtain ⟨v,h1,h2⟩:=inv.new j ops[j] (Array.getElem?_eq_getElem hj2) hl
        refine ⟨v,fun d hd=>?_,h2⟩
        rw [Array.getElem?_eq_getElem hj2] at hd
        rw [Array.getD_eq_getD_getElem?,h1 d hd];rfl
    have hs:=hstep i o ho a w hat
    have hcount:(List.range ops.size).countP (fun j=>!(listed.setIfInBounds i true).getD j true) ≤ fuel:=by
      have:(List.range ops.size).countP (fun j=>!(listed.setIfInBounds i true).getD j true) < (List.range ops.size).countP (fun j=>!listed.getD j true):=by
        refine iQ _ _ _ (fun j _ hj=>?_) i (List.mem_range.2 hil) ?_ ?_
        · by_cases hij:i = j
          · subst hij
            simp [inv.len,hil] at hj
          · rwa [getD_set_ne true hij] at hj
        · simp only [hun,Bool.not_false]
        · simp [inv.len,hil]
      omega
    have hnext:∀ v w',Below w.heap.size w w' → F i v w' → wpAny P md ops Q fuel (listed.setIfInBounds i true) (a.put o.dst v) w':=by
      intro v w' hbw hF
      refine ih _ _ _ ⟨?_,by rw [iE];exact inv.size,by rw [gU];exact inv.defers,by simp [inv.len],fun s hs=>?_,fun j oj hj hl=>?_,fun j oj hj hl e he hb=>?_⟩ hcount
      · exact inv.below.trans (hbw.mono inv.below.size)
      · rw [iD a _ _ s (hs i o ho (by simp [inv.len,hil]))]
        exact inv.old s (fun j oj hj hl=>hs j oj hj (by
          by_cases hij:i = j
          · subst hij;simp [inv.len,hil]
          · rwa [getD_set_ne false hij]))
      · by_cases hij:i = j
        · subst hij
          rw [ho] at hj;cases hj
          refine ⟨v,fun d hd=>?_,hF⟩
          rw [hd]
          refine pX a v d ?_
          rw [inv.size]
          have:=Array.all_eq_true_iff_forall_mem.1 hroom o (Array.mem_of_getElem? ho)
          rw [hd] at this
          exact of_decide_eq_true this
        · rw [getD_set_ne false hij] at hl
          obtain ⟨u,h1,h2⟩:=inv.new j oj hj hl
          refine ⟨u,fun d hd=>?_,hst j u w w' hbw h2⟩
          rw [iD a _ _ d (fun e=>?_)]
          · exact h1 d hd
          · have h3:=List.all_eq_true.1 (List.all_eq_true.1 hdst i (List.mem_range.2 hil)) j (List.mem_range.2 (Array.getElem?_eq_some_iff.1 hj).1)
            simp only [ho,hj,Option.bind_some,e,hd,bne_self_eq_false,Bool.or_false,beq_iff_eq] at h3
            exact hij h3
      · have key:∀ k,listed.getD k false = true → (listed.setIfInBounds i true).getD k false = true:=fun k hk=>by
          by_cases hik:i = k
          · subst hik;simp [inv.len,hil]
          · rwa [getD_set_ne false hik]
        by_cases hij:i = j
        · subst hij
          rw [ho] at hj;cases hj
          exact key _ (hdeps e he hb)
        · rw [getD_set_ne false hij] at hl
          exact key _ (inv.closed j oj hj hl e he hb)
    unfold wpOp
    simp only [ho]
    split
    · rename_i hw
      rw [if_pos hw] at hs
      exact Or.inl (Oper.wp_mono (fun a' w' ⟨v,e1,e2,e3⟩=>by subst e1;exact hnext v w' e2 e3) hs)
    · rename_i hw
      rw [if_neg hw] at hs
      exact hnext undef w (Below.refl _ _) hs
theorem pZ {id:Nat} {l:List Oper} {a0:Act} {w0:World} (F:Nat → Value → World → Prop) (hm:P.follows .mixedOrders = true) (hback:om l.toArray = true) (hdst:fR l.toArray = true) (hroom:dy l.toArray a0.tmps.size = true)
    (hst:∀ i v w w',Below w.heap.size w w' → F i v w → F i v w')
    (hstep:∀ (i:Nat) o,l[i]? = some o → ∀ a w,At .any l.toArray F a0 w0.drew i a w → if Region.wanted o (yielded l.toArray a.tmps) = true then o.wp P a w (fun a' w'=>∃ v,a' = a.put o.dst v∧Below w.heap.size w w'∧F i v w') Q else F i undef w)
    (hQ:∀ (vs:Nat → Value) w,Below w0.drew.heap.size w0.drew w → (∀ i,i < l.length → F i (vs i) w) → Q .normal (ba l vs 0 a0) w):(Code.region id l.toArray true).wp P Q a0 w0:=by
  refine wp_region_any hm (sk F a0 w0.drew hback hdst hroom hst (fun i o ho=>hstep i o (by simpa using ho)) (fun vs w hb hF=>hQ vs w hb (fun i hi=>hF i (by simpa using hi))) _ _ _ _ ⟨Below.refl _ _,rfl,rfl,by simp,fun s _=>rfl,fun i o _ h=>?_,fun j oj _ h=>?_⟩ ?_)
  · rw [getD_replicate_false] at h;cases h
  · rw [getD_replicate_false] at h;cases h
  · exact Nat.le_trans List.countP_le_length (by simp)
def pw (P:Program) (md:Region.Mode) (ops:Array Oper) (Q:Exit → Act → World → Prop) (F:Nat → Value → World → Prop) (a0:Act) (w0:World):List Oper → Nat → Prop
  | [],_=>True
  | o::l,i=>(∀ a w,At md ops F a0 w0 i a w → if Region.wanted o (yielded ops a.tmps) = true then o.wp P a w (fun a' w'=>∃ v,a' = a.put o.dst v∧Below w.heap.size w w'∧F i v w') Q else F i undef w)∧pw P md ops Q F a0 w0 l (i + 1)
theorem jW {F:Nat → Value → World → Prop} {a0:Act} {w0:World}:∀ (l:List Oper) (k:Nat),pw P md ops Q F a0 w0 l k → ∀ (i:Nat) o,l[i]? = some o → ∀ a w,At md ops F a0 w0 (k + i) a w → if Region.wanted o (yielded ops a.tmps) = true then o.wp P a w (fun a' w'=>∃ v,a' = a.put o.dst v∧Below w.heap.size w w'∧F (k + i) v w') Q else F (k + i) undef w
  | [],_,_,i,_,h=>by simp at h
  | o::l,k,h,0,o',ho=>by
    simp only [List.getElem?_cons_zero,Option.some.injEq] at ho
    subst ho
    exact h.1
  | o::l,k,h,i + 1,o',ho=>by
    have:=jW l (k + 1) h.2 i o' (by simpa using ho)
    rw [show k + (i + 1) = k + 1 + i by omega]
    exact this
theorem lp {id:Nat} {l:List Oper} {a0:Act} {w0:World} (F:Nat → Value → World → Prop) (hm:P.follows .mixedOrders = true) (hback:om l.toArray = true) (hdst:fR l.toArray = true) (hroom:dy l.toArray a0.tmps.size = true)
    (hst:∀ i v w w',Below w.heap.size w w' → F i v w → F i v w') (hstep:pw P .any l.toArray Q F a0 w0.drew l 0)
    (hQ:∀ (vs:Nat → Value) w,Below w0.heap.size w0 w → (∀ i,i < l.length → F i (vs i) w) → Q .normal (ba l vs 0 a0) w):(Code.region id l.toArray true).wp P Q a0 w0:=
  pZ F hm hback hdst hroom hst (fun i o ho=>by have:=jW l 0 hstep i o ho;rwa [Nat.zero_add] at this) (fun vs w hb hF=>hQ vs w ⟨hb.os,hb.tape,hb.output,hb.size,hb.block⟩ hF)
theorem At.dep {F:Nat → Value → World → Prop} {a0:Act} {w0:World} {i:Nat} {a:Act} {w:World} (h:At md ops F a0 w0 i a w) (j d:Nat) (hj:Region.waitsFor md ops i j = true) (hd:(ops[j]?).bind (·.dst) = some d):F j (a.tmps.getD d undef) w:=by
  obtain ⟨v,h1,h2⟩:=h.fact j hj
  rw [h1 d hd];exact h2
theorem At.since {F:Nat → Value → World → Prop} {a0:Act} {w0:World} {i:Nat} {a:Act} {w:World} (h:At md ops F a0 w0.drew i a w):Below w0.heap.size w0 w:=
  ⟨h.below.os,h.below.tape,h.below.output,h.below.size,h.below.block⟩
theorem tP (F:Nat → Value → World → Prop) (a0:Act) (w0:World) (hdst:fR ops = true) (hroom:dy ops a0.tmps.size = true) (hback:om ops = true) (hl:xu md ops = true)
    (hst:∀ i v w w',Below w.heap.size w w' → F i v w → F i v w')
    (hstep:∀ (i:Nat) o,i < ops.size - 1 → ops[i]? = some o → ∀ a w,At md ops F a0 w0 i a w → if Region.wanted o (yielded ops a.tmps) = true then o.wp P a w (fun a' w'=>∃ v,a' = a.put o.dst v∧Below w.heap.size w w'∧F i v w') Q else F i undef w)
    (hQ:∀ o,ops[ops.size - 1]? = some o → ∀ (vs:Nat → Value) w,Below w0.heap.size w0 w → (∀ i,i < ops.size - 1 → F i (vs i) w) →
      if Region.wanted o (yielded ops (ba ops.toList.dropLast vs 0 a0).tmps) = true then o.wp P (ba ops.toList.dropLast vs 0 a0) w (fun a' w'=>Q .normal a' w') Q else Q .normal ((ba ops.toList.dropLast vs 0 a0).put o.dst undef) w):
    ∀ (fuel:Nat) (listed:Array Bool) (a:Act) (w:World),FInv md ops F a0 w0 listed a w → listed.getD (ops.size - 1) false = false → (List.range ops.size).countP (fun i=>!listed.getD i true) ≤ fuel → wpAny P md ops Q fuel listed a w:=by
  simp only [xu,Bool.and_eq_true,decide_eq_true_eq] at hl
  obtain ⟨hpos,hl⟩:=hl
  intro fuel
  induction fuel with
  | zero=>
    intro listed a w inv hun hc
    have:0 < (List.range ops.size).countP (fun i=>!listed.getD i true):=List.countP_pos_iff.2 ⟨ops.size - 1,List.mem_range.2 (by omega),by simp only [getD_in (by rw [inv.len];omega) hun,Bool.not_false]⟩
    omega
  | succ fuel ih=>
    intro listed a w inv hun0 hc
    refine ⟨fun hr=>?_,fun i hi=>?_⟩
    · have:=qI inv hback hr (ops.size - 1) (by omega)
      rw [hun0] at this;cases this
    obtain ⟨hun,o,ho,hdeps⟩:=mem_ready.1 hi
    have hil:i < ops.size:=(Array.getElem?_eq_some_iff.1 ho).1
    have hun':listed.getD i false = false:=getD_both hun
    unfold wpOp
    simp only [ho]
    by_cases hii:i = ops.size - 1
    · have hall:∀ j,j < ops.size - 1 → listed.getD j false = true:=fun j hj=>by
        obtain ⟨o',ho',e,he,hb,he2⟩:=Region.waitsFor_spec (List.all_eq_true.1 hl j (List.mem_range.2 hj))
        rw [← hii,ho] at ho'
        cases ho'
        rw [← he2]
        exact hdeps e he hb
      obtain ⟨vs,hF,rfl⟩:=nZ inv hall hun0
      have h:=hQ o (by rw [← hii];exact ho) vs w inv.below hF
      have hall':∀ j,j < ops.size → (listed.setIfInBounds i true).getD j true = true:=fun j hj=>by
        by_cases hij:i = j
        · subst hij;simp [inv.len,hil]
        · rw [getD_set_ne true hij]
          have h1:=hall j (by omega)
          rw [Array.getD_eq_getD_getElem?,Array.getElem?_eq_getElem (by rw [inv.len];exact hj)] at h1 ⊢
          exact h1
      split
      · rename_i hw
        rw [if_pos hw] at h
        exact Or.inl (Oper.wp_mono (fun a' w' hq=>iP hall' hq fuel) h)
      · rename_i hw
        rw [if_neg hw] at h
        exact iP hall' h fuel
    · have hs:=hstep i o (by omega) ho a w (t8 inv ho hun' hdeps)
      have hcount:(List.range ops.size).countP (fun j=>!(listed.setIfInBounds i true).getD j true) ≤ fuel:=by
        have:(List.range ops.size).countP (fun j=>!(listed.setIfInBounds i true).getD j true) < (List.range ops.size).countP (fun j=>!listed.getD j true):=by
          refine iQ _ _ _ (fun j _ hj=>?_) i (List.mem_range.2 hil) ?_ ?_
          · by_cases hij:i = j
            · subst hij
              simp [inv.len,hil] at hj
            · rwa [getD_set_ne true hij] at hj
          · simp only [hun,Bool.not_false]
          · simp [inv.len,hil]
        omega
      have hnext:∀ v w',Below w.heap.size w w' → F i v w' → wpAny P md ops Q fuel (listed.setIfInBounds i true) (a.put o.dst v) w':=fun v w' hbw hF=>
        ih _ _ _ (ox hdst hroom hst inv ho hil hdeps v w' hbw hF) (by rw [getD_set_ne false hii];exact hun0) hcount
      split
      · rename_i hw
        rw [if_pos hw] at hs
        exact Or.inl (Oper.wp_mono (fun a' w' ⟨v,e1,e2,e3⟩=>by subst e1;exact hnext v w' e2 e3) hs)
      · rename_i hw
        rw [if_neg hw] at hs
        exact hnext undef w (Below.refl _ _) hs
theorem nG {id:Nat} {l:List Oper} {o:Oper} {a0:Act} {w0:World} (F:Nat → Value → World → Prop) (hm:P.follows .mixedOrders = true) (hback:om (l ++ [o]).toArray = true) (hdst:fR (l ++ [o]).toArray = true) (hroom:dy (l ++ [o]).toArray a0.tmps.size = true) (hl:xu .any (l ++ [o]).toArray = true)
    (hst:∀ i v w w',Below w.heap.size w w' → F i v w → F i v w') (hstep:pw P .any (l ++ [o]).toArray Q F a0 w0.drew l 0)
    (hQ:∀ (vs:Nat → Value) w,Below w0.heap.size w0 w → (∀ i,i < l.length → F i (vs i) w) →
      if Region.wanted o (yielded (l ++ [o]).toArray (ba l vs 0 a0).tmps) = true then o.wp P (ba l vs 0 a0) w (fun a' w'=>Q .normal a' w') Q else Q .normal ((ba l vs 0 a0).put o.dst undef) w):(Code.region id (l ++ [o]).toArray true).wp P Q a0 w0:=by
  have hsz:(l ++ [o]).toArray.size - 1 = l.length:=by simp
  have hdl:(l ++ [o]).toArray.toList.dropLast = l:=by simp
  refine wp_region_any hm (tP F a0 w0.drew hdst hroom hback hl hst (fun i o' hi ho=>?_) (fun o' ho vs w hb hF=>?_) _ _ _ _ ⟨Below.refl _ _,rfl,rfl,by simp,fun s _=>rfl,fun i o _ h=>?_,fun j oj _ h=>?_⟩ (getD_replicate_false _ _) ?_)
  · rw [hsz] at hi
    have:=jW l 0 hstep i o' (by
      rw [List.getElem?_toArray,List.getElem?_append_left hi] at ho
      exact ho)
    rwa [Nat.zero_add] at this
  · rw [hsz] at ho hF
    rw [List.getElem?_toArray,List.getElem?_append_right (Nat.le_refl _),Nat.sub_self] at ho
    cases ho
    rw [hdl]
    exact hQ vs w ⟨hb.os,hb.tape,hb.output,hb.size,hb.block⟩ hF
  · rw [getD_replicate_false] at h;cases h
  · rw [getD_replicate_false] at h;cases h
  · exact Nat.le_trans List.countP_le_length (by simp)
end
end
section
section
variable {P:Program} {ops:Array Oper} {md:Region.Mode} {Q:Exit → Act → World → Prop}
def ge (md:Region.Mode) (ops:Array Oper):Bool:=(List.range ops.size).all fun i=>match ops[i]? with | some o=>o.after.all fun e=>!Region.binds md e || decide (e.on < i) | none=>true
theorem jy {i:Nat} {o:Oper} (hb:ge md ops = true) (ho:ops[i]? = some o) (e:Edge) (he:e ∈ o.after) (hbd:Region.binds md e = true):e.on < i:=by
  have:=List.all_eq_true.1 hb i (List.mem_range.2 (Array.getElem?_eq_some_iff.1 ho).1)
  rw [ho] at this
  have:=Array.all_eq_true_iff_forall_mem.1 this e he
  rw [hbd] at this
  exact of_decide_eq_true this
theorem vh {F:Nat → Value → World → Prop} {a0:Act} {w0:World} {listed:Array Bool} {a:Act} {w:World} (inv:FInv md ops F a0 w0 listed a w) (hb:ge md ops = true) (hr:Region.ready md ops listed = []):∀ i,i < ops.size → listed.getD i false = true:=by
  intro i
  induction i using Nat.strongRecOn with
  | ind i ih=>
    intro hi
    cases h:listed.getD i false with
    | true=>rfl
    | false=>
      have hit:listed.getD i true = false:=getD_in (by rw [inv.len];exact hi) h
      have ho:ops[i]? = some ops[i]:=Array.getElem?_eq_getElem hi
      have:i ∈ Region.ready md ops listed:=mem_ready.2 ⟨hit,ops[i],ho,fun e he hbd=>ih e.on (jy hb ho e he hbd) (Nat.lt_trans (jy hb ho e he hbd) hi)⟩
      rw [hr] at this
      cases this
def upd (vs:Nat → Option Value) (i:Nat) (v:Value):Nat → Option Value:=fun j=>if j = i then some v else vs j
theorem cn (vs:Nat → Option Value) (i:Nat) (v:Value):upd vs i v i = some v:=by simp [upd]
theorem bR (vs:Nat → Option Value) {i j:Nat} (v:Value) (h:j ≠ i):upd vs i v j = vs j:=by simp [upd,h]
theorem FInv.mono {F G:Nat → Value → World → Prop} {a0:Act} {w0:World} {listed:Array Bool} {a:Act} {w:World} (h:FInv md ops F a0 w0 listed a w) (hm:∀ i v,listed.getD i false = true → F i v w → G i v w):FInv md ops G a0 w0 listed a w:=
  ⟨h.below,h.size,h.defers,h.len,h.old,fun i o ho hl=>by
    obtain ⟨v,h1,h2⟩:=h.new i o ho hl
    exact ⟨v,h1,hm i v hl h2⟩,h.closed⟩
theorem lE (I:(Nat → Option Value) → World → Prop) (a0:Act) (wd:World) (hback:ge md ops = true) (hdst:fR ops = true) (hroom:dy ops a0.tmps.size = true)
    (hstep:∀ (i:Nat) o,ops[i]? = some o → ∀ vs a w,I vs w → vs i = none → At md ops (fun j u _=>vs j = some u) a0 wd i a wd →
      if Region.wanted o (yielded ops a.tmps) = true then o.wp P a w (fun a' w'=>∃ v,a' = a.put o.dst v∧I (upd vs i v) w') Q else I (upd vs i undef) w)
    (hQ:∀ (vs':Nat → Value) vs w,(∀ i,i < ops.size → vs i = some (vs' i)) → I vs w → Q .normal (ba ops.toList vs' 0 a0) w):
    ∀ (fuel:Nat) (listed:Array Bool) (a:Act) (w:World) (vs:Nat → Option Value),FInv md ops (fun j u _=>vs j = some u) a0 wd listed a wd → (∀ i,listed.getD i false = false → vs i = none) → I vs w →
      (List.range ops.size).countP (fun i=>!listed.getD i true) ≤ fuel → wpAny P md ops Q fuel listed a w:=by
  have hend:∀ (listed:Array Bool) (a:Act) (w:World) (vs:Nat → Option Value),FInv md ops (fun j u _=>vs j = some u) a0 wd listed a wd → I vs w → Region.ready md ops listed = [] → Q .normal a w:=by
    intro listed a w vs inv hI hr
    obtain ⟨vs',hF,rfl⟩:=qJ inv (vh inv hback hr)
    exact hQ vs' vs w hF hI
  intro fuel
  induction fuel with
  | zero=>
    intro listed a w vs inv hn hI hc
    have hr:Region.ready md ops listed = []:=by
      cases h:Region.ready md ops listed with
      | nil=>rfl
      | cons i l=>
        have hi:i ∈ Region.ready md ops listed:=by rw [h];exact List.mem_cons_self
        obtain ⟨h1,o,ho,_⟩:=mem_ready.1 hi
        have:0 < (List.range ops.size).countP (fun i=>!listed.getD i true):=List.countP_pos_iff.2 ⟨i,List.mem_range.2 (Array.getElem?_eq_some_iff.1 ho).1,by simp only [h1,Bool.not_false]⟩
        omega
    exact ⟨hr,hend _ _ _ _ inv hI hr⟩
  | succ fuel ih=>
    intro listed a w vs inv hn hI hc
    refine ⟨hend _ _ _ _ inv hI,fun i hi=>?_⟩
    obtain ⟨hun,o,ho,hdeps⟩:=mem_ready.1 hi
    have hil:i < ops.size:=(Array.getElem?_eq_some_iff.1 ho).1
    have hun':listed.getD i false = false:=getD_both hun
    have hs:=hstep i o ho vs a w hI (hn i hun') (t8 inv ho hun' hdeps)
    have hcount:(List.range ops.size).countP (fun j=>!(listed.setIfInBounds i true).getD j true) ≤ fuel:=by
      have:(List.range ops.size).countP (fun j=>!(listed.setIfInBounds i true).getD j true) < (List.range ops.size).countP (fun j=>!listed.getD j true):=by
        refine iQ _ _ _ (fun j _ hj=>?_) i (List.mem_range.2 hil) ?_ ?_
        · by_cases hij:i = j
          · subst hij
            simp [inv.len,hil] at hj
          · rwa [getD_set_ne true hij] at hj
        · simp only [hun,Bool.not_false]
        · simp [inv.len,hil]
      omega
    have hnext:∀ v w',I (upd vs i v) w' → wpAny P md ops Q fuel (listed.setIfInBounds i true) (a.put o.dst v) w':=by
      intro v w' hI'
      have inv':FInv md ops (fun j u _=>upd vs i v j = some u) a0 wd listed a wd:=inv.mono (fun j u hl h=>by
        by_cases hij:j = i
        · subst hij;rw [hun'] at hl;cases hl
        · rw [bR vs v hij];exact h)
      refine ih _ _ _ _ (ox hdst hroom (fun _ _ _ _ _ h=>h) inv' ho hil hdeps v wd (Below.refl _ _) (cn vs i v)) (fun j hj=>?_) hI' hcount
      by_cases hij:j = i
      · subst hij
        simp [inv.len,hil] at hj
      · rw [bR vs v hij]
        exact hn j (by rwa [getD_set_ne false (fun e=>hij e.symm)] at hj)
    unfold wpOp
    simp only [ho]
    split
    · rename_i hw
      rw [if_pos hw] at hs
      exact Or.inl (Oper.wp_mono (fun a' w' ⟨v,e1,e2⟩=>by subst e1;exact hnext v w' e2) hs)
    · rename_i hw
      rw [if_neg hw] at hs
      exact hnext undef w hs
end
end
section
section
variable {P:Program} {ops:Array Oper} {Q:Exit → Act → World → Prop}
abbrev mG:=Value → World → Prop
def zM:List mG → Prop
  | []=>True
  | f::l=>(∀ v w w',Below w.heap.size w w' → f v w → f v w')∧zM l
def zH:List mG → (Nat → Value) → Nat → World → Prop
  | [],_,_,_=>True
  | f::l,vs,k,w=>f (vs k) w∧zH l vs (k + 1) w
def jC (l:List mG) (i:Nat):mG:=l.getD i fun _ _=>True
theorem uI:∀ {l:List mG},zM l → ∀ i v w w',Below w.heap.size w w' → jC l i v w → jC l i v w'
  | [],_,i,v,w,w',_,_=>trivial
  | f::l,h,0,v,w,w',hb,hf=>h.1 v w w' hb hf
  | f::l,h,i + 1,v,w,w',hb,hf=>uI (l:=l) h.2 i v w w' hb hf
theorem tU:∀ (l:List mG) (vs:Nat → Value) (k:Nat) (w:World),(∀ i,i < l.length → jC l i (vs (k + i)) w) → zH l vs k w
  | [],_,_,_,_=>trivial
  | f::l,vs,k,w,h=>⟨h 0 (by simp),tU l vs (k + 1) w fun i hi=>by
      have:=h (i + 1) (by simpa using hi)
      rw [show k + 1 + i = k + (i + 1) by omega]
      exact this⟩
structure AtS (ops:Array Oper) (F:Nat → mG) (a0:Act) (i:Nat) (a:Act) (w:World):Prop where
  base:∀ s,cZ .any ops i s = true → a.tmps.getD s undef = a0.tmps.getD s undef
  fact:∀ j,Region.waitsFor .any ops i j = true → ∃ v,(∀ d,(ops[j]?).bind (·.dst) = some d → a.tmps.getD d undef = v)∧F j v w
theorem AtS.dep {F:Nat → mG} {a0:Act} {i:Nat} {a:Act} {w:World} (h:AtS ops F a0 i a w) (j d:Nat) (hj:Region.waitsFor .any ops i j = true) (hd:(ops[j]?).bind (·.dst) = some d):F j (a.tmps.getD d undef) w:=by
  obtain ⟨v,h1,h2⟩:=h.fact j hj
  rw [h1 d hd];exact h2
theorem lF (hback:ge .any ops = true):∀ (fuel k:Nat) (listed:Array Bool) (a:Act) (w:World),listed.size = ops.size → (∀ j,j < k → j < ops.size → listed.getD j true = true) → (∀ j,k ≤ j → j < ops.size → listed.getD j true = false) →
    k ≤ ops.size → ops.size - k ≤ fuel → wpAny P .any ops Q fuel listed a w → wpList P ops Q (ops.toList.drop k) a w:=by
  have hrdy:∀ (k:Nat) (listed:Array Bool),listed.size = ops.size → (∀ j,j < k → j < ops.size → listed.getD j true = true) → (∀ j,k ≤ j → j < ops.size → listed.getD j true = false) → k < ops.size → k ∈ Region.ready .any ops listed:=by
    intro k listed hs h1 h2 hk
    refine mem_ready.2 ⟨h2 k (Nat.le_refl _) hk,ops[k],Array.getElem?_eq_getElem hk,fun e he hb=>?_⟩
    have hlt:=jy hback (Array.getElem?_eq_getElem hk) e he hb
    have:=h1 e.on hlt (Nat.lt_trans hlt hk)
    rw [Array.getD_eq_getD_getElem?,Array.getElem?_eq_getElem (by omega)] at this ⊢
    exact this
  intro fuel
  induction fuel with
  | zero=>
    intro k listed a w hs h1 h2 hk hf h
    have:k = ops.size:=by omega
    subst this
    rw [List.drop_of_length_le (by simp)]
    exact h.2
  | succ fuel ih=>
    intro k listed a w hs h1 h2 hk hf h
    rcases Nat.lt_or_ge k ops.size with hlt | hge
    · have h:=h.2 k (hrdy k listed hs h1 h2 hlt)
      have hnext:∀ a w,wpAny P .any ops Q fuel (listed.setIfInBounds k true) a w → wpList P ops Q (ops.toList.drop (k + 1)) a w:=by
        intro a w h
        refine ih (k + 1) _ a w (by simpa using hs) (fun j hj hj2=>?_) (fun j hj hj2=>?_) hlt (by omega) h
        · by_cases hjk:k = j
          · subst hjk;simp [hs,hj2]
          · rw [getD_set_ne true hjk];exact h1 j (by omega) hj2
        · rw [getD_set_ne true (by omega)];exact h2 j (by omega) hj2
      have hd:ops.toList.drop k = ops[k]::ops.toList.drop (k + 1):=by
        rw [List.drop_eq_getElem_cons (by simpa using hlt)]
        simp
      rw [hd]
      unfold wpOp at h
      simp only [Array.getElem?_eq_getElem hlt] at h
      unfold wpList
      split
      · rename_i hw
        rw [if_pos hw] at h
        exact h.imp (Oper.wp_mono hnext) id
      · rename_i hw
        rw [if_neg hw] at h
        exact hnext _ _ h
    · have:k = ops.size:=by omega
      subst this
      rw [List.drop_of_length_le (by simp)]
      refine h.1 ?_
      cases hr:Region.ready .any ops listed with
      | nil=>rfl
      | cons i l=>
        have hi:i ∈ Region.ready .any ops listed:=by rw [hr];exact List.mem_cons_self
        obtain ⟨h3,o,ho,_⟩:=mem_ready.1 hi
        rw [h1 i (Array.getElem?_eq_some_iff.1 ho).1 (Array.getElem?_eq_some_iff.1 ho).1] at h3
        cases h3
theorem gb {id:Nat} {l:List Oper} {d:Bool} {a0:Act} {w0:World} (hm:P.follows .mixedOrders = true) (hback:ge .any l.toArray = true)
    (h:wpAny P .any l.toArray Q l.toArray.size (Array.replicate l.toArray.size false) a0 (if d then w0.drew else w0)):(Code.region id l.toArray d).wp P Q a0 w0:=by
  cases d with
  | true=>exact wp_region_any hm h
  | false=>
    refine wp_region_lit ?_
    have:=lF hback l.toArray.size 0 _ a0 w0 (by simp) (fun j hj=>by omega) (fun j _ hj=>by
      have hj:j < l.length:=by simpa using hj
      simp [hj]) (Nat.zero_le _) (by omega) h
    simpa using this
structure Put (l:List Oper) (vs:Nat → Value) (a0 a1:Act):Prop where
  size:a1.tmps.size = a0.tmps.size
  defers:a1.defers = a0.defers
  new:∀ i d,(l[i]?).bind (·.dst) = some d → a1.tmps.getD d undef = vs i
  old:∀ s,(l.all fun o=>o.dst != some s) = true → a1.tmps.getD s undef = a0.tmps.getD s undef
theorem nC (s:Nat):∀ (l:List Oper) (vs:Nat → Value) (k:Nat) (a:Act),(l.all fun o=>o.dst != some s) = true → (ba l vs k a).tmps[s]? = a.tmps[s]?
  | [],_,_,_,_=>rfl
  | o::l,vs,k,a,h=>by
    simp only [List.all_cons,Bool.and_eq_true,bne_iff_ne,ne_eq] at h
    rw [ba,nC s l vs (k + 1) _ h.2,iD a _ _ s h.1]
theorem pY {l:List Oper} {vs:Nat → Value} {a0:Act} (hdst:fR l.toArray = true) (hroom:dy l.toArray a0.tmps.size = true):Put l vs a0 (ba l vs 0 a0):=by
  refine ⟨fY l vs 0 a0,eI l vs 0 a0,fun i d h=>?_,fun s h=>?_⟩
  · cases ho:l[i]? with
    | none=>rw [ho] at h;cases h
    | some o=>
      rw [ho] at h
      have hd:o.dst = some d:=h
      have hi:l.toArray[i]? = some o:=by simpa using ho
      have hs:d < a0.tmps.size:=by
        have:=Array.all_eq_true_iff_forall_mem.1 hroom o (Array.mem_of_getElem? hi)
        rw [hd] at this
        exact of_decide_eq_true this
      have:=gT d (vs i) l vs 0 a0 hs (fun j o' hj hd'=>by
        rw [Nat.zero_add]
        by_cases hij:j = i
        · rw [hij]
        · have hj':l.toArray[j]? = some o':=by simpa using hj
          have h3:=List.all_eq_true.1 (List.all_eq_true.1 hdst j (List.mem_range.2 (Array.getElem?_eq_some_iff.1 hj').1)) i (List.mem_range.2 (Array.getElem?_eq_some_iff.1 hi).1)
          simp only [hj',hi,Option.bind_some,hd,hd',bne_self_eq_false,Bool.or_false,beq_iff_eq] at h3
          exact absurd h3 hij) (.inr ⟨i,o,ho,hd⟩)
      rw [Array.getD_eq_getD_getElem?,this];rfl
  · rw [Array.getD_eq_getD_getElem?,Array.getD_eq_getD_getElem?,nC s l vs 0 a0 h]
def so (P:Program) (ops:Array Oper) (Q:Exit → Act → World → Prop) (F:Nat → mG) (a0:Act) (w0:World):List Oper → Nat → Prop
  | [],_=>True
  | o::l,i=>(∀ a w,Below w0.heap.size w0 w → AtS ops F a0 i a w → if Region.wanted o (yielded ops a.tmps) = true then o.wp P a w (fun a' w'=>∃ v,a' = a.put o.dst v∧Below w.heap.size w w'∧F i v w') Q else F i undef w)∧so P ops Q F a0 w0 l (i + 1)
theorem nR {F:Nat → mG} {a0:Act} {w0:World}:∀ (l:List Oper) (k:Nat),so P ops Q F a0 w0 l k → ∀ (i:Nat) o,l[i]? = some o → ∀ a w,Below w0.heap.size w0 w → AtS ops F a0 (k + i) a w → if Region.wanted o (yielded ops a.tmps) = true then o.wp P a w (fun a' w'=>∃ v,a' = a.put o.dst v∧Below w.heap.size w w'∧F (k + i) v w') Q else F (k + i) undef w
  | [],_,_,i,_,h=>by simp at h
  | o::l,k,h,0,o',ho=>by
    simp only [List.getElem?_cons_zero,Option.some.injEq] at ho
    subst ho
    exact h.1
  | o::l,k,h,i + 1,o',ho=>by
    have:=nR l (k + 1) h.2 i o' (by simpa using ho)
    rw [show k + (i + 1) = k + 1 + i by omega]
    exact this
theorem rR {id:Nat} {d:Bool} {l:List Oper} {a0:Act} {w0:World} (FL:List mG) (hm:P.follows .mixedOrders = true) (hback:ge .any l.toArray = true) (hdst:fR l.toArray = true) {n:Nat} (hn:a0.tmps.size = n) (hroom:dy l.toArray n = true) (hlen:l.length = FL.length)
    (hst:zM FL) (hstep:so P l.toArray Q (jC FL) a0 w0 l 0)
    (hQ:∀ (vs:Nat → Value) a1 w,Below w0.heap.size w0 w → zH FL vs 0 w → Put l vs a0 a1 → Q .normal a1 w):(Code.region id l.toArray d).wp P Q a0 w0:=by
  subst hn
  have hb0:Below w0.heap.size w0 (if d then w0.drew else w0):=by cases d;exact Below.refl _ _;exact ⟨rfl,rfl,rfl,Nat.le_refl _,fun _ _=>rfl⟩
  have hh:(if d then w0.drew else w0).heap.size = w0.heap.size:=by cases d <;> rfl
  refine gb hm hback (lE (fun vs w=>(∀ i v,vs i = some v → jC FL i v w)∧Below w0.heap.size w0 w) a0 (if d then w0.drew else w0) hback hdst hroom (fun i o ho vs a w hI hn hat=>?_) (fun vs' vs w hv hI=>?_) _ _ _ _ (fun _=>none) ⟨Below.refl _ _,rfl,rfl,by simp,fun s _=>rfl,fun i o _ h=>?_,fun j oj _ h=>?_⟩ (fun _ _=>rfl) ⟨fun i v h=>by simp at h,hb0⟩ ?_)
  · have hs:=nR l 0 hstep i o (by simpa using ho) a w hI.2 (by
      rw [Nat.zero_add]
      exact ⟨hat.base,fun j hj=>by
        obtain ⟨v,h1,h2⟩:=hat.fact j hj
        exact ⟨v,h1,hI.1 j v h2⟩⟩)
    rw [Nat.zero_add] at hs
    have key:∀ v w',Below w.heap.size w w' → jC FL i v w' → (∀ j u,upd vs i v j = some u → jC FL j u w')∧Below w0.heap.size w0 w':=by
      intro v w' hb hv
      refine ⟨fun j u hj=>?_,hI.2.trans (hb.mono hI.2.size)⟩
      by_cases hij:j = i
      · subst hij;rw [cn] at hj;cases hj;exact hv
      · rw [bR vs v hij] at hj;exact uI hst j u w w' hb (hI.1 j u hj)
    split
    · rename_i hw
      rw [if_pos hw] at hs
      exact Oper.wp_mono (fun a' w' ⟨v,e1,e2,e3⟩=>⟨v,e1,key v w' e2 e3⟩) hs
    · rename_i hw
      rw [if_neg hw] at hs
      exact key undef w (Below.refl _ _) hs
  · exact hQ vs' _ w hI.2 (tU FL vs' 0 w fun i hi=>by
      rw [Nat.zero_add]
      exact hI.1 i _ (hv i (by simpa [hlen] using hi))) (pY hdst hroom)
  · rw [getD_replicate_false] at h;cases h
  · rw [getD_replicate_false] at h;cases h
  · exact Nat.le_trans List.countP_le_length (by simp)
variable {o:Oper} {a:Act} {w:World} {K:Act → World → Prop} {E:Prop} {v:Value}
theorem aT {w':World} (hw:Region.wanted o (yielded ops a.tmps) = true) (hrun:(execOp a.eval o).run P w = .ok (.value v) w') (hK:K (a.put o.dst v) w'):if Region.wanted o (yielded ops a.tmps) = true then o.wp P a w K Q else E:=by
  rw [if_pos hw];unfold Oper.wp;rw [hrun];exact hK
theorem gx {w':World} (hw:Region.wanted o (yielded ops a.tmps) = true) (hrun:(execOp a.eval o).run P w = .ok .skip w') (hK:K (a.put o.dst undef) w'):if Region.wanted o (yielded ops a.tmps) = true then o.wp P a w K Q else E:=by
  rw [if_pos hw];unfold Oper.wp;rw [hrun];exact hK
theorem dW {f:FuncId} {args:Array Value} (hw:Region.wanted o (yielded ops a.tmps) = true) (hrun:(execOp a.eval o).run P w = .ok (.enter f args) w) {R:Ending → World → Prop} (h:Calls P f args w R) (hR:∀ e w',R e w' → ∃ v,e = .returned v∧K (a.put o.dst v) w'):if Region.wanted o (yielded ops a.tmps) = true then o.wp P a w K Q else E:=by
  rw [if_pos hw];unfold Oper.wp;rw [hrun]
  refine h.mono fun e w' he=>?_
  obtain ⟨v,rfl,hk⟩:=hR e w' he
  exact hk
theorem ae (hg:o.guard = none):Region.wanted o (yielded ops a.tmps) = true:=by simp [Region.wanted,hg]
theorem pd {x:Array Value} {d:Nat} {b:Bool} (h:x.getD d undef = .bool b):x[d]? = some (.bool b):=by
  rw [Array.getD_eq_getD_getElem?] at h
  cases hx:x[d]? with
  | none=>rw [hx] at h;cases h
  | some u=>rw [hx] at h;rw [← h];rfl
theorem zX {j d:Nat} {b:Bool} (hg:o.guard = some (j,b)) (hd:(ops[j]?).bind (·.dst) = some d) (h:a.tmps.getD d undef = .bool b):Region.wanted o (yielded ops a.tmps) = true:=by
  simp only [Region.wanted,hg,yielded,hd,Option.bind_some,pd h]
  cases b <;> rfl
theorem yX {j d:Nat} {b:Bool} (hg:o.guard = some (j,b)) (hd:(ops[j]?).bind (·.dst) = some d) (h:a.tmps.getD d undef = .bool (!b)):Region.wanted o (yielded ops a.tmps) = false:=by
  simp only [Region.wanted,hg,yielded,hd,Option.bind_some,pd h]
  cases b <;> rfl
theorem aO {x:Operand} (ho:o.op = .move x) (hx:a.eval x = v):(execOp a.eval o).run P w = .ok (.value v) w:=by
  unfold execOp;simp only [ho];rw [hx];rfl
theorem bU {x:Operand} (ho:o.op = .assign x) (hx:a.eval x = v):(execOp a.eval o).run P w = .ok (.value v) w:=by
  unfold execOp;simp only [ho];rw [hx];rfl
theorem jT {c x y:Operand} (ho:o.op = .pick c x y) (hc:a.eval c = .bool true) (hx:a.eval x = v):(execOp a.eval o).run P w = .ok (.value v) w:=by
  unfold execOp;simp only [ho];rw [hc,hx];rfl
theorem jS {c x y:Operand} (ho:o.op = .pick c x y) (hc:a.eval c = .bool false) (hy:a.eval y = v):(execOp a.eval o).run P w = .ok (.value v) w:=by
  unfold execOp;simp only [ho];rw [hc,hy];rfl
theorem kA {x:Operand} {p:Addr} (ho:o.op = .nilCheck x) (hx:a.eval x = .pointer (some p)):(execOp a.eval o).run P w = .ok (.value (.pointer (some p))) w:=by
  unfold execOp;simp only [ho];rw [hx];rfl
def ik (P:Program) (s:TypeId) (f:Nat):Option Nat:=
  match P.underlying s with
  | some (.struct fs)=>(fs[f]?).bind fun x=>(P.info? x.type).bind fun i=>if i.size = 0 then none else some x.offset
  | _=>none
theorem eK {x:Operand} {s:TypeId} {f g k m n:Nat} (ho:o.op = .fieldAddr s x f) (hx:a.eval x = .pointer (some ⟨g,k,none⟩)) (hf:ik P s f = some m) (hn:k + m = n):(execOp a.eval o).run P w = .ok (.value (.pointer (some ⟨g,n,none⟩))) w:=by
  unfold ik at hf
  split at hf
  · rename_i fs hs
    cases hff:fs[f]? with
    | none=>rw [hff] at hf;cases hf
    | some fd=>
      rw [hff] at hf
      simp only [Option.bind_some] at hf
      cases hi:P.info? fd.type with
      | none=>rw [hi] at hf;cases hf
      | some i=>
        rw [hi] at hf
        simp only [Option.bind_some] at hf
        split at hf
        · cases hf
        · rename_i hz
          cases hf
          subst hn
          unfold execOp;simp only [ho]
          simp [hx,Instr.fieldAt,underlying,hs,hff,Instr.sureAddr,fieldPlace,sizeOf,typeInfo,hi,hz,Addr.add]
  · cases hf
def jA (P:Program) (t:TypeId):Bool:=match P.underlying t with | some (.struct _) | some (.array ..)=>false | some _=>true | none=>false
theorem bB {x:Operand} {t:TypeId} {p:Addr} (ho:o.op = .load t x) (hx:a.eval x = .pointer (some p)) (ht:jA P t = true) (hc:w.cell? p = some v):(execOp a.eval o).run P w = .ok (.value v) w:=by
  unfold execOp;simp only [ho];rw [hx]
  unfold jA at ht
  split at ht
  · cases ht
  · cases ht
  · rename_i u h1 h2 hs
    cases u <;> first
      | exact absurd rfl (h1 _)
      | exact absurd rfl (h2 _ _)
      | simp [Instr.loadAt,Instr.sureAddr,loadVar,isAgg,underlying,hs,load,Sem.run,hc]
  · cases ht
end
end
section
section
variable {P:Program} {ops:Array Oper} {Q:Exit → Act → World → Prop} {o:Oper} {a:Act} {w:World} {K:Act → World → Prop} {E:Prop} {v:Value}
def hE (P:Program) (ty n:Nat):Bool:=match P.underlying ty,P.info? ty with | some (.struct _),some i=>i.size == n | _,_=>false
theorem kz (t n:Nat) (p:Addr) (out:List Value) (hT:hE P t n = true) (hn:out.length = n) (hc:∀ j v,out[j]? = some v → w.cell? (p.add j) = some v):(loadVar t p).run P w = .ok (.agg out.toArray) w:=by
  unfold hE at hT
  split at hT
  · rename_i fs i hu hi
    have hsz:i.size = out.length:=by rw [hn];simpa using hT
    simp [loadVar,isAgg,underlying,hu,sizeOf,typeInfo,hi,hsz,run_loadCells_list (P:=P) w p out hc]
  · cases hT
theorem vY {x:Operand} {t g k n T:Nat} {cs:Array Value} {out:List Value} (ho:o.op = .load t x) (hx:a.eval x = .pointer (some ⟨g,k,none⟩)) (hT:hE P t n = true) (hg:Blk w g T cs) (hcut:(cs.toList.drop k).take n = out) (hn:out.length = n):(execOp a.eval o).run P w = .ok (.value (.agg out.toArray)) w:=by
  have hl:=kz (P:=P) (w:=w) t n ⟨g,k,none⟩ out hT hn (fun j v hj=>by
    rw [← hcut] at hj
    have hj':cs.toList[k + j]? = some v:=by
      rw [List.getElem?_take] at hj
      split at hj
      · rw [List.getElem?_drop] at hj;exact hj
      · cases hj
    have:=hg.cell (k + j)
    have e:(⟨g,k,none⟩:Addr).add j = ⟨g,k + j,none⟩:=by
      unfold Addr.add
      split
      · rename_i h;subst h;rfl
      · rfl
    rw [e,this]
    simpa using hj')
  unfold execOp;simp only [ho];rw [hx]
  simp [Instr.loadAt,Instr.sureAddr,hl]
theorem lx {x y:Operand} {t g k n T:Nat} {cs cells cs':Array Value} (ho:o.op = .store t x y) (hx:a.eval x = .pointer (some ⟨g,k,none⟩)) (hy:a.eval y = v) (hv:v.cells = cells) (hg:Blk w g T cs) (hi:(P.info? t).map (·.size) = some n)
    (hs:k + n ≤ cs.size∧cells.size = n∧cells.all (·.oneCell') = true) (hc:(f9 cs.toList k cells.toList).toArray = cs'):(execOp a.eval o).run P w = .ok .skip (w.setRow g cs'):=by
  have h:=run_storeCells_at (P:=P) g k T cells.toList 0 cs w hg (by simp;omega) (fun v hv=>(Array.all_eq_true_iff_forall_mem.1 hs.2.2) v (by simpa using hv))
  unfold execOp;simp only [ho];rw [hx,hy]
  cases hq:P.info? t with
  | none=>simp [hq] at hi
  | some i=>
    have hsz:cells.size = i.size:=by simp [hq] at hi;omega
    simp only [Nat.add_zero] at h
    subst hc
    simp [Instr.storeAt,Instr.sureAddr,storeVar,sizeOf,typeInfo,hq,hv,hsz,h,f9]
theorem cw {x y:Operand} {t t':TypeId} {op:BinOp} {u u' r:Value} (ho:o.op = .binOp op t x y t') (hx:a.eval x = u) (hy:a.eval y = u') (hr:(do eqGuard op t x y u u';binOp op t u u':Sem Value) = pure r):(execOp a.eval o).run P w = .ok (.value r) w:=by
  unfold execOp;simp only [ho];rw [hx,hy]
  simp only [hr];rfl
theorem aD {x y:Operand} {t t':TypeId} {p q n:Int} (ho:o.op = .binOp .add t x y t') (hx:a.eval x = .int .i64 p) (hy:a.eval y = .int .i64 q) (h:-9223372036854775808 ≤ p + q∧p + q ≤ 9223372036854775807) (hn:p + q = n):(execOp a.eval o).run P w = .ok (.value (.int .i64 n)) w:=by
  rw [cw (P:=P) (w:=w) (r:=.int .i64 (IntKind.wrap .i64 (p + q))) ho hx hy rfl,IntWalk.i64_left,IntWalk.wrap64_in _ h,hn]
theorem gu {x y:Operand} {t t':TypeId} {p q n:Int} (ho:o.op = .binOp .sub t x y t') (hx:a.eval x = .int .i64 p) (hy:a.eval y = .int .i64 q) (h:-9223372036854775808 ≤ p - q∧p - q ≤ 9223372036854775807) (hn:p - q = n):(execOp a.eval o).run P w = .ok (.value (.int .i64 n)) w:=by
  rw [cw (P:=P) (w:=w) (r:=.int .i64 (IntKind.wrap .i64 (p - q))) ho hx hy rfl,IntWalk.i64_left,IntWalk.wrap64_in _ h,hn]
theorem ky {x y:Operand} {t t':TypeId} {op:BinOp} {k:IntKind} {p q:Int} {b b':Bool} (ho:o.op = .binOp op t x y t') (hx:a.eval x = .int k p) (hy:a.eval y = .int k q) (hr:(do eqGuard op t x y (.int k p) (.int k q);binOp op t (.int k p) (.int k q):Sem Value) = pure (.bool b)) (hb:b = b'):(execOp a.eval o).run P w = .ok (.value (.bool b')) w:=by
  rw [cw (P:=P) (w:=w) ho hx hy hr,hb]
theorem uB {x:Operand} {t:TypeId} {b b':Bool} (ho:o.op = .unOp .not t x) (hx:a.eval x = .bool b) (hb:(!b) = b'):(execOp a.eval o).run P w = .ok (.value (.bool b')) w:=by
  unfold execOp;simp only [ho];rw [hx,← hb];rfl
theorem rI {x:Operand} {k:Nat} {vs:Array Value} (ho:o.op = .extract x k) (hx:a.eval x = .tuple vs) (hv:vs[k]? = some v):(execOp a.eval o).run P w = .ok (.value v) w:=by
  unfold execOp;simp only [ho];rw [hx]
  simp [Instr.extract,hv]
theorem ec {f:FuncId} {xs:Array Operand} {ts:Array TypeId} {args:Array Value} (ho:o.op = .call { callee:=.value (.func f),args:=xs,argTypes:=ts }) (ha:xs.map a.eval = args) (hf:(callFunc f args).run P w = .ok (.enter f args) w):(execOp a.eval o).run P w = .ok (.enter f args) w:=by
  unfold execOp;simp only [ho]
  simp [resolve,ha,Act.eval,Deferred.ofValue,invoke,hf]
theorem AN {x:Operand} {u:Value} (hx:a.eval x = u):#[x].map a.eval = #[u]:=by simp [hx]
theorem sY {x y z:Operand} {u v t:Value} (hx:a.eval x = u) (hy:a.eval y = v) (hz:a.eval z = t):#[x,y,z].map a.eval = #[u,v,t]:=by simp [hx,hy,hz]
def jU (P:Program) (t size:Nat):Bool:=match P.underlying t with | some (.slice e)=>(P.info? e).map (·.size) == some size | _=>false
def ug (P:Program) (t:Nat):Bool:=match P.underlying t with | some (.slice _)=>true | _=>false
theorem nO {x:Operand} {t:TypeId} {A:Option Addr} {n c:Nat} (ho:o.op = .call { callee:=.builtin .len,args:=#[x],argTypes:=#[t] }) (hx:a.eval x = .slice A n c) (ht:ug P t = true):(execOp a.eval o).run P w = .ok (.value (.int .i64 n)) w:=by
  unfold ug at ht
  split at ht
  · rename_i e hu
    unfold execOp;simp only [ho]
    simp [resolve,invoke,builtin,Builtin.len_,underlying,hu,hx,goInt]
  · cases ht
theorem nN {x y:Operand} {t:TypeId} {g k n c size m:Nat} {i:Int} (ho:o.op = .indexAddr t x y) (hx:a.eval x = .slice (some ⟨g,k,none⟩) n c) (hy:a.eval y = .int .i64 i) (ht:jU P t size = true) (hi:0 ≤ i∧i < n) (hm:k + i.toNat * size = m):(execOp a.eval o).run P w = .ok (.value (.pointer (some ⟨g,m,none⟩))) w:=by
  unfold jU at ht
  split at ht
  · rename_i e hu
    cases hq:P.info? e with
    | none=>simp [hq] at ht
    | some inf=>
      have hsz:inf.size = size:=by simpa [hq] using ht
      unfold execOp;simp only [ho];rw [hx,hy]
      subst hm
      simp [Instr.indexAt,asIntOf,underlying,hu,hi,sizeOf,typeInfo,hq,hsz,Addr.add]
  · cases ht
theorem ay {w:World} {b e n size:Nat} {cells:Array Value} (h:Blk w b e cells) (hc:cells.size = n * size):Reads w (b + 1) size (some ⟨b,0,none⟩) n cells.toList:=by
  refine ⟨by simpa using hc,fun _=>⟨b,0,rfl,by omega,fun j u hu=>?_⟩⟩
  rw [h.cell]
  simpa using hu
theorem zZ {w:World} {base e size n:Nat} {v:Value} {xs:List Value} (h:w.ownsRow base e size v n xs) {g:Nat} (hg:v.ownBlock = some g):g < w.heap.size:=by
  rcases h.2 with ⟨h0,_⟩ | ⟨g',cap,cur,h0,_,hh,_⟩
  · rw [h0] at hg;cases hg
  · rw [h0] at hg
    have:g' = g:=by simpa [Value.ownBlock] using hg
    subst this
    exact (Array.getElem?_eq_some_iff.1 hh).1
def kg (P:Program) (e n:Nat) (parts:List (Nat × Value)):Option (Array Value):=
  match P.info? e with
  | some ie=>match ie.zero with
    | some z=>if n * ie.size > 2 ^ 24 then none else if n * ie.size = 0 then none else Instr.fill (fun i=>some (i * ie.size,ie.size)) ((Array.range (n * ie.size)).map (z.cells[· % z.cells.size]!)) parts
    | none=>none
  | none=>none
theorem uA {t e n:Nat} {parts:Array (Nat × Operand)} {vals:List (Nat × Value)} {cells:Array Value} (ho:o.op = .buildSlice t n parts) (hp:(parts.map fun (i,x)=>(i,a.eval x)).toList = vals) (ht:P.underlying t = some (.slice e)) (hc:kg P e n vals = some cells):
    (execOp a.eval o).run P w = .ok (.value (.slice (some ⟨w.heap.size,0,none⟩) n n)) (w.alloc (.cells cells e)):=by
  unfold kg at hc
  cases hi:P.info? e with
  | none=>rw [hi] at hc;cases hc
  | some ie=>
    rw [hi] at hc
    dsimp only at hc
    cases hz:ie.zero with
    | none=>rw [hz] at hc;cases hc
    | some z=>
      rw [hz] at hc
      dsimp only at hc
      split at hc
      · cases hc
      rename_i h1
      split at hc
      · cases hc
      rename_i h2
      unfold execOp;simp only [ho]
      have:=run_buildSlice (P:=P) w t e n (parts.map fun (i,x)=>(i,a.eval x)) cells ie z ht hi hz h1 h2 (by rw [hp];exact hc)
      simp only [Sem.run_bind,this];rfl
def rG (P:Program) (t e size bytes:Nat):Bool:=match P.underlying t,P.info? e with
  | some (.slice e'),some i=>e' == e && i.size == size && i.bytes == bytes && decide (0 < size) && (match i.zero with | some z=>z.cells.size == size | none=>false)
  | _,_=>false
def gB (P:Program) (t:Nat):Option (Array Value):=(P.info? t).bind fun i=>i.zero.map (·.cells)
theorem pa {t:TypeId} {cells:Array Value} (ho:o.op = .alloc t) (hz:gB P t = some cells):(execOp a.eval o).run P w = .ok (.value (.pointer (some ⟨w.heap.size,0,none⟩))) (w.alloc (.cells cells t)):=by
  unfold gB at hz
  cases hi:P.info? t with
  | none=>rw [hi] at hz;cases hz
  | some i=>
    cases hzz:i.zero with
    | none=>rw [hi] at hz;simp [hzz] at hz
    | some z=>
      rw [hi] at hz
      simp only [Option.bind_some,hzz,Option.map_some,Option.some.injEq] at hz
      subst hz
      unfold execOp;simp only [ho]
      simp [Instr.alloc,zeroValue,typeInfo,hi,hzz,newVar,newRow]
theorem af {t:TypeId} {parts:Array (Nat × Operand)} {vals:Array (Nat × Value)} {r:Value} (ho:o.op = .build t parts) (hp:(parts.map fun (i,x)=>(i,a.eval x)) = vals) (hr:(Instr.build t vals).run P w = .ok r w):(execOp a.eval o).run P w = .ok (.value r) w:=by
  unfold execOp;simp only [ho,hp]
  simp only [Sem.run_bind,hr];rfl
theorem iK {x:Operand} {src dst:TypeId} {k k':IntKind} {n:Int} (ho:o.op = .convert src dst x) (hx:a.eval x = .int k n) (ht:P.underlying dst = some (.int k')) (hw:k'.wrap n = n) (hs:(P.underlying src).isSome = true):(execOp a.eval o).run P w = .ok (.value (.int k' n)) w:=by
  cases hu:P.underlying src with
  | none=>rw [hu] at hs;cases hs
  | some u=>
    unfold execOp;simp only [ho];rw [hx]
    simp [convert,underlying,hu,ht,Conv.intToInt,hw]
theorem ux {x:Operand} {t:TypeId} {cells:Array Value} {u:Value} (ho:o.op = .box t x) (hx:a.eval x = u) (hc:u.cells = cells):(execOp a.eval o).run P w = .ok (.value (.pointer (some ⟨w.heap.size,0,none⟩))) (w.alloc (.cells cells t)):=by
  unfold execOp;simp only [ho];rw [hx,← hc]
  simp [Instr.box,newVar,newRow]
theorem wrap_i64 {n:Int} (h:-9223372036854775808 ≤ n∧n ≤ 9223372036854775807):IntKind.i64.wrap n = n:=(IntWalk.i64_left _).trans (IntWalk.wrap64_in _ h)
end
end
section
inductive Plan where
  | fin
  | rd (i:Nat) (p:Plan)
  | ag (i:Nat) (p:Plan)
  | ef (i:Nat) (p q:Plan)
  | non
def gy (vs:Nat → Value) (i:Nat) (v:Value):Nat → Value:=fun j=>match Nat.beq j i with | true=>v | false=>vs j
theorem lD (vs:Nat → Value) (i:Nat) (v:Value):gy vs i v i = v:=by
  unfold gy;rw [Nat.beq_refl]
theorem mF (vs:Nat → Value) {i j:Nat} (v:Value) (h:j ≠ i):gy vs i v j = vs j:=by
  unfold gy
  cases hb:Nat.beq j i with
  | true=>exact absurd (Nat.eq_of_beq_eq_true hb) h
  | false=>rfl
section
variable (P:Program) (ops:Array Oper) (bs dp:Nat → Nat → Bool) (a0:Act) (Q:Exit → Act → World → Prop) (Qf:(Nat → Value) → World → Prop)
structure AtV (vs:Nat → Value) (i:Nat) (a:Act):Prop where
  base:∀ s,bs i s = true → a.tmps.getD s undef = a0.tmps.getD s undef
  dep:∀ j d,dp i j = true → (ops[j]?).bind (·.dst) = some d → a.tmps.getD d undef = vs j
def ROK (vs:Nat → Value) (i:Nat) (v:Value) (w:World):Prop:=
  match ops[i]? with
  | some o=>∀ a,AtV ops bs dp a0 vs i a → if Region.wanted o (yielded ops a.tmps) = true then o.wp P a w (fun a' w'=>a' = a.put o.dst v∧w' = w) Q else v = undef
  | none=>True
def bb:Plan → (Nat → Value) → World → Prop
  | .fin,vs,w=>Qf vs w
  | .rd i p,vs,w=>∃ v,ROK P ops bs dp a0 Q vs i v w∧bb p (gy vs i v) w
  | .ag i p,vs,w=>ROK P ops bs dp a0 Q vs i (vs i) w∧bb p vs w
  | .ef i p q,vs,w=>(match ops[i]? with
      | some o=>∀ a,AtV ops bs dp a0 vs i a → if Region.wanted o (yielded ops a.tmps) = true then o.wp P a w (fun a' w'=>∃ v,a' = a.put o.dst v∧bb p (gy vs i v) w') Q else bb p (gy vs i undef) w
      | none=>True)∧bb q vs w
  | .non,_,_=>True
end
section
variable (ops:Array Oper) (tab:List (List Nat)) (ef:List Nat)
def ph:Bool:=(List.range ops.size).all fun i=>(tab.getD i []).all fun j=>Region.waitsFor .any ops i j || (List.range i).any fun m=>Region.waitsFor .any ops i m && (tab.getD m []).contains j
def gD (i:Nat) (intro:List Nat):Bool:=match ops[i]? with | some o=>o.after.all fun e=>!Region.binds .any e || intro.contains e.on | none=>true
def mL (j:Nat) (D:List Nat):Bool:=(tab.getD j []).all fun e=>!ef.contains e || D.contains e
def tY (j:Nat) (D:List Nat):Bool:=D.any fun e=>(tab.getD e []).contains j
def yy (D seg:List Nat):Bool:=(List.range ops.size).all fun j=>ef.contains j || seg.contains j || tY tab j D || !mL tab ef j D
def okP:Plan → Bool → List Nat → List Nat → List Nat → List Nat → Bool
  | .fin,m,D,intro,seg,_=>!m && (yy ops tab ef D seg && ((List.range ops.size).all intro.contains && ef.all D.contains))
  | .rd i p,m,D,intro,seg,_=>!m && (decide (i < ops.size) && (!ef.contains i && (!intro.contains i && (gD ops i intro && okP p false D (i::intro) (i::seg) []))))
  | .ag i p,m,D,intro,seg,_=>!m && (decide (i < ops.size) && (!ef.contains i && (intro.contains i && (gD ops i intro && okP p false D intro (i::seg) []))))
  | .ef i p q,m,D,intro,seg,alts=>yy ops tab ef D seg && (decide (i < ops.size) && (ef.contains i && (!intro.contains i && (gD ops i intro && (okP p false (i::D) (i::intro) [] [] && okP q true D intro seg (i::alts))))))
  | .non,m,D,_,_,alts=>m && ef.all fun e=>D.contains e || (alts.contains e || !mL tab ef e D)
end
section
variable {P:Program} {ops:Array Oper} {a0:Act} {Q:Exit → Act → World → Prop} {Qf:(Nat → Value) → World → Prop} {tab:List (List Nat)} {ef:List Nat}
theorem lN {i j:Nat} {intro:List Nat} (h:gD ops i intro = true) (hw:Region.waitsFor .any ops i j = true):j ∈ intro:=by
  obtain ⟨o,ho,e,he,hb,rfl⟩:=Region.waitsFor_spec hw
  unfold gD at h
  rw [ho] at h
  have:=Array.all_eq_true_iff_forall_mem.1 h e he
  rw [hb] at this
  simpa using this
theorem o1 {vs vs':Nat → Value} {i:Nat} {v:Value} {w:World} (h:∀ j,Region.waitsFor .any ops i j = true → vs j = vs' j) (hr:ROK P ops (cZ .any ops) (Region.waitsFor .any ops) a0 Q vs i v w):ROK P ops (cZ .any ops) (Region.waitsFor .any ops) a0 Q vs' i v w:=by
  unfold ROK at hr ⊢
  split
  · rename_i o ho
    rw [ho] at hr
    intro a hat
    exact hr a ⟨hat.base,fun j d hj hd=>by rw [hat.dep j d hj hd,h j hj]⟩
  · trivial
theorem rV {n:Nat} (htab:ph ops tab = true) {vsO:Nat → Option Value} (hcl:∀ i,vsO i ≠ none → ∀ j,Region.waitsFor .any ops i j = true → vsO j ≠ none) (hlt:∀ i,vsO i ≠ none → i < ops.size):∀ i,(i < n) → (∀ j,Region.waitsFor .any ops i j = true → vsO j ≠ none) → i < ops.size → ∀ j ∈ tab.getD i [],vsO j ≠ none:=by
  induction n with
  | zero=>intro i hi;omega
  | succ n ih=>
    intro i hi hdo hil j hj
    have h1:=List.all_eq_true.1 (List.all_eq_true.1 htab i (List.mem_range.2 hil)) j hj
    simp only [Bool.or_eq_true] at h1
    rcases h1 with h1 | h1
    · exact hdo j h1
    · obtain ⟨m,hm,h2⟩:=List.any_eq_true.1 h1
      simp only [Bool.and_eq_true] at h2
      have hmd:=hdo m h2.1
      exact ih m (by have:=List.mem_range.1 hm;omega) (hcl m hmd) (hlt m hmd) j (by simpa using h2.2)
theorem va {D seg:List Nat} {j:Nat} (h:yy ops tab ef D seg = true) (hj:j < ops.size):j ∈ ef ∨ j ∈ seg ∨ tY tab j D = true ∨ mL tab ef j D = false:=by
  have:=List.all_eq_true.1 h j (List.mem_range.2 hj)
  simp only [Bool.or_eq_true,List.contains_iff_mem,Bool.not_eq_true'] at this
  rcases this with ((h | h) | h) | h
  · exact .inl h
  · exact .inr (.inl h)
  · exact .inr (.inr (.inl h))
  · exact .inr (.inr (.inr h))
abbrev uP (P:Program) (ops:Array Oper) (a0:Act) (Q:Exit → Act → World → Prop) (Qf:(Nat → Value) → World → Prop):=bb P ops (cZ .any ops) (Region.waitsFor .any ops) a0 Q Qf
abbrev Ao (P:Program) (ops:Array Oper) (a0:Act) (Q:Exit → Act → World → Prop):=ROK P ops (cZ .any ops) (Region.waitsFor .any ops) a0 Q
def iC:Plan → Bool
  | .fin=>true
  | .ef _ _ _=>true
  | _=>false
structure PSt (P:Program) (ops:Array Oper) (a0:Act) (Q:Exit → Act → World → Prop) (Qf:(Nat → Value) → World → Prop) (tab:List (List Nat)) (ef:List Nat) (pl:Plan) (D intro seg:List Nat) (vs:Nat → Value) (w:World):Prop where
  ok:okP ops tab ef pl false D intro seg [] = true
  segs:∀ i ∈ seg,Ao P ops a0 Q vs i (vs i) w∧i ∈ intro∧gD ops i intro = true
  seq:uP P ops a0 Q Qf pl vs w
theorem fX:∀ (pl:Plan) (D intro seg:List Nat) (vs:Nat → Value) (w:World),PSt P ops a0 Q Qf tab ef pl D intro seg vs w →
    ∃ pl' intro' seg' vs',iC pl' = true∧PSt P ops a0 Q Qf tab ef pl' D intro' seg' vs' w∧(∀ i ∈ intro,i ∈ intro'∧vs' i = vs i)
  | .fin,D,intro,seg,vs,w,h=>⟨.fin,intro,seg,vs,rfl,h,fun i hi=>⟨hi,rfl⟩⟩
  | .ef i p q,D,intro,seg,vs,w,h=>⟨.ef i p q,intro,seg,vs,rfl,h,fun i hi=>⟨hi,rfl⟩⟩
  | .non,D,intro,seg,vs,w,h=>by have:=h.ok;simp [okP] at this
  | .rd i p,D,intro,seg,vs,w,h=>by
    have hok:=h.ok
    simp only [okP,Bool.not_false,Bool.true_and,Bool.and_eq_true,decide_eq_true_eq,Bool.not_eq_true'] at hok
    obtain ⟨hi,_,hni,hdi,hok⟩:=hok
    have hni:i ∉ intro:=fun hm=>by rw [List.contains_iff_mem.2 hm] at hni;cases hni
    obtain ⟨v,hv,hs⟩:=h.seq
    have hag:∀ j ∈ intro,gy vs i v j = vs j:=fun j hj=>mF vs v (fun e=>hni (e ▸ hj))
    obtain ⟨pl',intro',seg',vs',h1,h2,h3⟩:=fX p D (i::intro) (i::seg) (gy vs i v) w ⟨hok,fun j hj=>by
      rcases List.mem_cons.1 hj with rfl | hj
      · refine ⟨?_,List.mem_cons_self,?_⟩
        · rw [lD]
          exact o1 (fun k hk=>(hag k (lN hdi hk)).symm) hv
        · unfold gD at hdi ⊢
          split
          · rename_i o ho
            rw [ho] at hdi
            refine Array.all_eq_true_iff_forall_mem.2 fun e he=>?_
            have:=Array.all_eq_true_iff_forall_mem.1 hdi e he
            simp only [Bool.or_eq_true,List.contains_iff_mem,List.mem_cons] at this ⊢
            exact this.imp id .inr
          · rfl
      · obtain ⟨a1,a2,a3⟩:=h.segs j hj
        refine ⟨?_,List.mem_cons_of_mem _ a2,?_⟩
        · rw [hag j a2]
          exact o1 (fun k hk=>(hag k (lN a3 hk)).symm) a1
        · unfold gD at a3 ⊢
          split
          · rename_i o ho
            rw [ho] at a3
            refine Array.all_eq_true_iff_forall_mem.2 fun e he=>?_
            have:=Array.all_eq_true_iff_forall_mem.1 a3 e he
            simp only [Bool.or_eq_true,List.contains_iff_mem,List.mem_cons] at this ⊢
            exact this.imp id .inr
          · rfl,hs⟩
    exact ⟨pl',intro',seg',vs',h1,h2,fun j hj=>by
      obtain ⟨b1,b2⟩:=h3 j (List.mem_cons_of_mem _ hj)
      exact ⟨b1,b2.trans (hag j hj)⟩⟩
  | .ag i p,D,intro,seg,vs,w,h=>by
    have hok:=h.ok
    simp only [okP,Bool.not_false,Bool.true_and,Bool.and_eq_true,decide_eq_true_eq,Bool.not_eq_true',List.contains_iff_mem] at hok
    obtain ⟨hi,_,hni,hdi,hok⟩:=hok
    obtain ⟨hv,hs⟩:=h.seq
    exact fX p D intro (i::seg) vs w ⟨hok,fun j hj=>by
      rcases List.mem_cons.1 hj with rfl | hj
      · exact ⟨hv,hni,hdi⟩
      · exact h.segs j hj,hs⟩
theorem rt {D intro seg:List Nat} {vs:Nat → Value} {w:World} {e:Nat} (he:e ∈ ef) (hD:e ∉ D) (hav:mL tab ef e D = true):∀ (pl:Plan) (m:Bool) (alts:List Nat),(m = true ∨ iC pl = true) → e ∉ alts → okP ops tab ef pl m D intro seg alts = true → (ef.all D.contains = true → False) → uP P ops a0 Q Qf pl vs w →
    ∃ p,okP ops tab ef p false (e::D) (e::intro) [] [] = true∧e ∉ intro∧gD ops e intro = true∧∀ o,ops[e]? = some o → ∀ a,AtV ops (cZ .any ops) (Region.waitsFor .any ops) a0 vs e a → if Region.wanted o (yielded ops a.tmps) = true then o.wp P a w (fun a' w'=>∃ v,a' = a.put o.dst v∧uP P ops a0 Q Qf p (gy vs e v) w') Q else uP P ops a0 Q Qf p (gy vs e undef) w
  | .fin,m,alts,hm,hna,hok,hall,h=>by
    simp only [okP,Bool.and_eq_true] at hok
    exact absurd hok.2.2.2 (fun h=>hall h)
  | .rd i p,m,alts,hm,hna,hok,hall,h=>by
    rcases hm with rfl | hm
    · simp [okP] at hok
    · cases hm
  | .ag i p,m,alts,hm,hna,hok,hall,h=>by
    rcases hm with rfl | hm
    · simp [okP] at hok
    · cases hm
  | .non,m,alts,hm,hna,hok,hall,h=>by
    simp only [okP,Bool.and_eq_true] at hok
    have:=List.all_eq_true.1 hok.2 e he
    simp only [Bool.or_eq_true,List.contains_iff_mem,Bool.not_eq_true',hav] at this
    rcases this with h | h | h
    · exact absurd h hD
    · exact absurd h hna
    · cases h
  | .ef i p q,m,alts,hm,hna,hok,hall,h=>by
    simp only [okP,Bool.and_eq_true,decide_eq_true_eq,Bool.not_eq_true',List.contains_iff_mem] at hok
    obtain ⟨_,_,hie,hni,hdi,hp,hq⟩:=hok
    by_cases hei:e = i
    · subst hei
      refine ⟨p,hp,fun hm=>(by rw [List.contains_iff_mem.2 hm] at hni;cases hni),hdi,fun o ho a hat=>?_⟩
      have:=h.1
      rw [ho] at this
      exact this a hat
    · exact rt he hD hav q true (i::alts) (.inl rfl) (by simp [hei,hna]) hq hall h.2
theorem kr {vs vs':Nat → Value}:∀ (l:List Oper) (k:Nat) (a:Act),(∀ i,i < l.length → vs' (k + i) = vs (k + i)) → ba l vs' k a = ba l vs k a
  | [],_,_,_=>rfl
  | o::l,k,a,h=>by
    have h0:=h 0 (by simp)
    rw [Nat.add_zero] at h0
    rw [ba,ba,h0]
    exact kr l (k + 1) _ fun i hi=>by
      have:=h (i + 1) (by simpa using hi)
      rw [show k + 1 + i = k + (i + 1) by omega];exact this
theorem uE {l:List Oper} {w0:World} (tab:List (List Nat)) (ef:List Nat) (pl:Plan) (hback:ge .any l.toArray = true) (hdst:fR l.toArray = true) (hroom:dy l.toArray a0.tmps.size = true)
    (htab:ph l.toArray tab = true) (hok:okP l.toArray tab ef pl false [] [] [] [] = true) (hseq:uP P l.toArray a0 Q Qf pl (fun _=>undef) w0)
    (hQ:∀ (vs:Nat → Value) w,Qf vs w → Q .normal (ba l vs 0 a0) w):wpAny P .any l.toArray Q l.toArray.size (Array.replicate l.toArray.size false) a0 w0:=by
  have hmain:=lE (P:=P) (ops:=l.toArray) (md:=.any) (Q:=Q) (fun vsO w=>∃ pl D intro seg vs,iC pl = true∧PSt P l.toArray a0 Q Qf tab ef pl D intro seg vs w∧(∀ i v,vsO i = some v → vs i = v∧i ∈ intro∧i < l.toArray.size)∧(∀ i ∈ D,vsO i ≠ none)∧(∀ i ∈ ef,vsO i ≠ none → i ∈ D)∧(∀ i,vsO i ≠ none → ∀ j,Region.waitsFor .any l.toArray i j = true → vsO j ≠ none)) a0 w0 hback hdst hroom
    (fun i o ho vsO a w hI hn hat=>?_) (fun vs' vsO w hv hI=>?_)
  · refine hmain _ _ _ _ (fun _=>none) ⟨Below.refl _ _,rfl,rfl,by simp,fun s _=>rfl,fun i o _ h=>?_,fun j oj _ h=>?_⟩ (fun _ _=>rfl) ?_ ?_
    · rw [getD_replicate_false] at h;cases h
    · rw [getD_replicate_false] at h;cases h
    · obtain ⟨pl',intro',seg',vs',h1,h2,_⟩:=fX (P:=P) (ops:=l.toArray) (a0:=a0) (Q:=Q) (Qf:=Qf) (tab:=tab) (ef:=ef) pl [] [] [] (fun _=>undef) w0 ⟨hok,fun i hi=>(by cases hi),hseq⟩
      exact ⟨pl',[],intro',seg',vs',h1,h2,fun i v h=>(by cases h),fun i hi=>(by cases hi),fun i _ h=>absurd rfl h,fun i h=>absurd rfl h⟩
    · exact Nat.le_trans List.countP_le_length (by simp)
  · obtain ⟨pl,D,intro,seg,vs,hhd,hst,hdone,hD,hefD,hcl⟩:=hI
    have hil:i < l.toArray.size:=(Array.getElem?_eq_some_iff.1 ho).1
    have hat':AtV l.toArray (cZ .any l.toArray) (Region.waitsFor .any l.toArray) a0 vs i a:=⟨hat.base,fun j d hj hd=>by
      obtain ⟨u,h1,h2⟩:=hat.fact j hj
      rw [h1 d hd,(hdone j u h2).1]⟩
    have hdo:∀ j,Region.waitsFor .any l.toArray i j = true → vsO j ≠ none:=fun j hj=>by
      obtain ⟨u,_,h2⟩:=hat.fact j hj
      rw [h2];simp
    have hclt:=fun j=>rV (n:=i + 1) htab hcl (fun k hk=>by
      cases hv:vsO k with
      | none=>exact absurd hv hk
      | some u=>exact (hdone k u hv).2.2) i (by omega) hdo hil j
    have hav:mL tab ef i D = true:=by
      refine List.all_eq_true.2 fun e he=>?_
      simp only [Bool.or_eq_true,Bool.not_eq_true',List.contains_iff_mem]
      by_cases hee:e ∈ ef
      · exact .inr (hefD e hee (hclt e he))
      · left
        cases hc:ef.contains e with
        | true=>exact absurd (List.contains_iff_mem.1 hc) hee
        | false=>rfl
    have hnD:i ∉ D:=fun hm=>hD i hm hn
    have hcl':∀ v k,upd vsO i v k ≠ none → ∀ j,Region.waitsFor .any l.toArray k j = true → upd vsO i v j ≠ none:=by
      intro v k hk j hj
      by_cases hji:j = i
      · subst hji;rw [cn];simp
      · rw [bR vsO v hji]
        by_cases hki:k = i
        · subst hki;exact hdo j hj
        · rw [bR vsO v hki] at hk;exact hcl k hk j hj
    by_cases hie:i ∈ ef
    · -- an effect
      obtain ⟨p,hp,hni,hdi,hstep⟩:=rt (P:=P) (ops:=l.toArray) (a0:=a0) (Q:=Q) (Qf:=Qf) (tab:=tab) (ef:=ef) hie hnD hav pl false [] (.inr hhd) (by simp) hst.ok (fun h=>hnD (by have:=List.all_eq_true.1 h i hie;simpa using this)) hst.seq
      have key:∀ v w',uP P l.toArray a0 Q Qf p (gy vs i v) w' → ∃ pl D intro seg vs,iC pl = true∧PSt P l.toArray a0 Q Qf tab ef pl D intro seg vs w'∧(∀ k u,upd vsO i v k = some u → vs k = u∧k ∈ intro∧k < l.toArray.size)∧(∀ k ∈ D,upd vsO i v k ≠ none)∧(∀ k ∈ ef,upd vsO i v k ≠ none → k ∈ D)∧(∀ k,upd vsO i v k ≠ none → ∀ j,Region.waitsFor .any l.toArray k j = true → upd vsO i v j ≠ none):=by
        intro v w' hs
        obtain ⟨pl',intro',seg',vs',h1,h2,h3⟩:=fX (P:=P) (ops:=l.toArray) (a0:=a0) (Q:=Q) (Qf:=Qf) (tab:=tab) (ef:=ef) p (i::D) (i::intro) [] (gy vs i v) w' ⟨hp,fun k hk=>(by cases hk),hs⟩
        refine ⟨pl',i::D,intro',seg',vs',h1,h2,fun k u hk=>?_,fun k hk=>?_,fun k hk hk2=>?_,hcl' v⟩
        · by_cases hki:k = i
          · subst hki
            rw [cn] at hk;cases hk
            obtain ⟨b1,b2⟩:=h3 k List.mem_cons_self
            exact ⟨b2.trans (lD vs k v),b1,hil⟩
          · rw [bR vsO v hki] at hk
            obtain ⟨c1,c2,c3⟩:=hdone k u hk
            obtain ⟨b1,b2⟩:=h3 k (List.mem_cons_of_mem _ c2)
            exact ⟨b2.trans ((mF vs v hki).trans c1),b1,c3⟩
        · by_cases hki:k = i
          · subst hki;rw [cn];simp
          · rw [bR vsO v hki]
            rcases List.mem_cons.1 hk with h | h
            · exact absurd h hki
            · exact hD k h
        · by_cases hki:k = i
          · subst hki;exact List.mem_cons_self
          · rw [bR vsO v hki] at hk2
            exact List.mem_cons_of_mem _ (hefD k hk hk2)
      have hs:=hstep o ho a hat'
      split
      · rename_i hw
        rw [if_pos hw] at hs
        exact Oper.wp_mono (fun a' w' ⟨v,e1,e2⟩=>⟨v,e1,key v w' e2⟩) hs
      · rename_i hw
        rw [if_neg hw] at hs
        exact key undef w hs
    · -- it reads
      have hcov:yy l.toArray tab ef D seg = true:=by
        have:=hst.ok
        cases pl with
        | fin=>simp only [okP,Bool.and_eq_true] at this;exact this.2.1
        | ef _ _ _=>simp only [okP,Bool.and_eq_true] at this;exact this.1
        | rd _ _=>cases hhd
        | ag _ _=>cases hhd
        | non=>cases hhd
      have hseg:i ∈ seg:=by
        rcases va hcov hil with h | h | h | h
        · exact absurd h hie
        · exact h
        · obtain ⟨e,he,hj⟩:=List.any_eq_true.1 h
          have hed:=hD e he
          have:=rV (n:=e + 1) htab hcl (fun k hk=>by
            cases hv:vsO k with
            | none=>exact absurd hv hk
            | some u=>exact (hdone k u hv).2.2) e (by omega) (hcl e hed) (by
            cases hv:vsO e with
            | none=>exact absurd hv hed
            | some u=>exact (hdone e u hv).2.2) i (by simpa using hj)
          exact absurd hn this
        · rw [hav] at h;cases h
      obtain ⟨hr,hin,_⟩:=hst.segs i hseg
      have key:∃ pl D intro seg vs',iC pl = true∧PSt P l.toArray a0 Q Qf tab ef pl D intro seg vs' w∧(∀ k u,upd vsO i (vs i) k = some u → vs' k = u∧k ∈ intro∧k < l.toArray.size)∧(∀ k ∈ D,upd vsO i (vs i) k ≠ none)∧(∀ k ∈ ef,upd vsO i (vs i) k ≠ none → k ∈ D)∧(∀ k,upd vsO i (vs i) k ≠ none → ∀ j,Region.waitsFor .any l.toArray k j = true → upd vsO i (vs i) j ≠ none):=by
        refine ⟨pl,D,intro,seg,vs,hhd,hst,fun k u hk=>?_,fun k hk=>?_,fun k hk hk2=>?_,hcl' _⟩
        · by_cases hki:k = i
          · subst hki;rw [cn] at hk;cases hk;exact ⟨rfl,hin,hil⟩
          · rw [bR vsO _ hki] at hk;exact hdone k u hk
        · have hki:k ≠ i:=fun e=>hnD (e ▸ hk)
          rw [bR vsO _ hki];exact hD k hk
        · have hki:k ≠ i:=fun e=>hie (e ▸ hk)
          rw [bR vsO _ hki] at hk2;exact hefD k hk hk2
      unfold Ao ROK at hr
      rw [ho] at hr
      have hr:=hr a hat'
      split
      · rename_i hw
        rw [if_pos hw] at hr
        exact Oper.wp_mono (fun a' w' ⟨e1,e2⟩=>⟨vs i,e1,e2 ▸ key⟩) hr
      · rename_i hw
        rw [if_neg hw] at hr
        rw [← hr]
        exact key
  · obtain ⟨pl,D,intro,seg,vs,hhd,hst,hdone,hD,hefD,hcl⟩:=hI
    have hfin:pl = .fin:=by
      cases pl with
      | fin=>rfl
      | ef i p q=>
        have:=hst.ok
        simp only [okP,Bool.and_eq_true,decide_eq_true_eq,Bool.not_eq_true',List.contains_iff_mem] at this
        obtain ⟨_,h1,_,h2,_⟩:=this
        have:=(hdone i _ (hv i h1)).2.1
        rw [List.contains_iff_mem.2 this] at h2;cases h2
      | rd _ _=>cases hhd
      | ag _ _=>cases hhd
      | non=>cases hhd
    subst hfin
    have hq:=hQ vs w hst.seq
    have e:ba l vs' 0 a0 = ba l vs 0 a0:=kr l 0 a0 fun i hi=>by
      rw [Nat.zero_add]
      exact ((hdone i _ (hv i (by simpa using hi))).1).symm
    rw [show l.toArray.toList = l by simp,e]
    exact hq
abbrev Fin (Q:Exit → Act → World → Prop) (l:List Oper) (a0:Act):(Nat → Value) → World → Prop:=fun vs w=>∀ a1,Put l vs a0 a1 → Q .normal a1 w
theorem tE {id:Nat} {d:Bool} {l:List Oper} {w0:World} (tab:List (List Nat)) (ef:List Nat) (pl:Plan) (hm:P.follows .mixedOrders = true) (hback:ge .any l.toArray = true) (hdst:fR l.toArray = true) {n:Nat} (hn:a0.tmps.size = n) (hroom:dy l.toArray n = true)
    (htab:ph l.toArray tab = true) (hok:okP l.toArray tab ef pl false [] [] [] [] = true)
    (hseq:∀ w1,Below w0.heap.size w0 w1 → bb P l.toArray (cZ .any l.toArray) (Region.waitsFor .any l.toArray) a0 Q (Fin Q l a0) pl (fun _=>undef) w1):(Code.region id l.toArray d).wp P Q a0 w0:=by
  subst hn
  have hb0:Below w0.heap.size w0 (if d then w0.drew else w0):=by cases d;exact Below.refl _ _;exact ⟨rfl,rfl,rfl,Nat.le_refl _,fun _ _=>rfl⟩
  exact gb hm hback (uE tab ef pl hback hdst hroom htab hok (hseq _ hb0) fun vs w h=>h _ (pY hdst hroom))
def bsL (ops:Array Oper) (i s:Nat):Bool:=(List.range i).all fun j=>(ops[j]?).bind (·.dst) != some s
def dpL (i j:Nat):Bool:=decide (j < i)
def okL (n:Nat):Plan → Nat → Bool
  | .fin,k=>k == n
  | .rd i p,k=>i == k && okL n p (k + 1)
  | .ef i p .non,k=>i == k && okL n p (k + 1)
  | _,_=>false
structure LInv (l:List Oper) (a0:Act) (k:Nat) (vs:Nat → Value) (a:Act):Prop where
  size:a.tmps.size = a0.tmps.size
  defers:a.defers = a0.defers
  base:∀ s,bsL l.toArray k s = true → a.tmps.getD s undef = a0.tmps.getD s undef
  dep:∀ j d,j < k → (l[j]?).bind (·.dst) = some d → a.tmps.getD d undef = vs j
theorem iZ {l:List Oper} {k:Nat} {vs:Nat → Value} {a:Act} {o:Oper} (hdst:fR l.toArray = true) (hroom:dy l.toArray a0.tmps.size = true) (ho:l[k]? = some o) (v:Value) (h:LInv l a0 k vs a):LInv l a0 (k + 1) (gy vs k v) (a.put o.dst v):=by
  have hkl:k < l.length:=(List.getElem?_eq_some_iff.1 ho).1
  refine ⟨by rw [iE];exact h.size,by rw [gU];exact h.defers,fun s hs=>?_,fun j d hj hd=>?_⟩
  · have hs2:o.dst ≠ some s:=by
      have:=List.all_eq_true.1 hs k (List.mem_range.2 (by omega))
      simpa [ho] using this
    rw [Array.getD_eq_getD_getElem?,iD a _ _ s hs2,← Array.getD_eq_getD_getElem?]
    exact h.base s (List.all_eq_true.2 fun j hj=>List.all_eq_true.1 hs j (List.mem_range.2 (by have:=List.mem_range.1 hj;omega)))
  · by_cases hjk:j = k
    · subst hjk
      rw [ho] at hd
      have hd:o.dst = some d:=hd
      rw [hd,lD,Array.getD_eq_getD_getElem?,pX a v d,Option.getD_some]
      rw [h.size]
      have:=Array.all_eq_true_iff_forall_mem.1 hroom o (Array.mem_of_getElem? (by simpa using ho))
      rw [hd] at this
      exact of_decide_eq_true this
    · rw [mF vs v hjk,Array.getD_eq_getD_getElem?,iD a _ _ d (fun e=>?_),← Array.getD_eq_getD_getElem?]
      · exact h.dep j d (by omega) hd
      · have h3:=List.all_eq_true.1 (List.all_eq_true.1 hdst k (List.mem_range.2 (by simpa using hkl))) j (List.mem_range.2 (by simp;omega))
        simp only [List.getElem?_toArray,ho,Option.bind_some,e,hd,bne_self_eq_false,Bool.or_false,beq_iff_eq] at h3
        exact hjk h3.symm
theorem xV {l:List Oper} (hdst:fR l.toArray = true) (hroom:dy l.toArray a0.tmps.size = true):∀ (pl:Plan) (k:Nat) (vs:Nat → Value) (a:Act) (w:World),LInv l a0 k vs a → okL l.length pl k = true →
    bb P l.toArray (bsL l.toArray) dpL a0 Q (Fin Q l a0) pl vs w → wpList P l.toArray Q (l.drop k) a w:=by
  have hat:∀ {k:Nat} {vs:Nat → Value} {a:Act},LInv l a0 k vs a → AtV l.toArray (bsL l.toArray) dpL a0 vs k a:=fun h=>⟨h.base,fun j d hj hd=>h.dep j d (of_decide_eq_true hj) (by simpa using hd)⟩
  intro pl
  induction pl with
  | fin=>
    intro k vs a w hI hok hs
    have hk:k = l.length:=by simpa [okL] using hok
    subst hk
    rw [List.drop_of_length_le (Nat.le_refl _)]
    exact hs a ⟨hI.size,hI.defers,fun i d hd=>by
      have hi:i < l.length:=by
        cases ho:l[i]? with
        | none=>rw [ho] at hd;cases hd
        | some o=>exact (List.getElem?_eq_some_iff.1 ho).1
      exact hI.dep i d hi hd,fun s hs=>hI.base s (by
      refine List.all_eq_true.2 fun j hj=>?_
      have hj:=List.mem_range.1 hj
      have:=List.all_eq_true.1 hs l[j] (List.getElem_mem hj)
      simpa [List.getElem?_eq_getElem hj] using this)⟩
  | rd i p ih=>
    intro k vs a w hI hok hs
    simp only [okL,Bool.and_eq_true,beq_iff_eq] at hok
    obtain ⟨rfl,hok⟩:=hok
    obtain ⟨v,hr,hs⟩:=hs
    rcases Nat.lt_or_ge i l.length with hlt | hge
    · have hoi:l[i]? = some l[i]:=List.getElem?_eq_getElem hlt
      rw [List.drop_eq_getElem_cons hlt]
      unfold ROK at hr
      rw [List.getElem?_toArray,hoi] at hr
      have hr:=hr a (hat hI)
      unfold wpList
      split
      · rename_i hw
        rw [if_pos hw] at hr
        refine .inl (Oper.wp_mono (fun a' w' ⟨e1,e2⟩=>?_) hr)
        subst e1;subst e2
        exact ih (i + 1) _ _ _ (iZ hdst hroom hoi v hI) hok hs
      · rename_i hw
        rw [if_neg hw] at hr
        rw [← hr]
        exact ih (i + 1) _ _ _ (iZ hdst hroom hoi v hI) hok hs
    · exfalso
      revert hok
      have:∀ (p:Plan) (k:Nat),l.length < k → okL l.length p k = true → False:=by
        intro p
        induction p with
        | fin=>intro k hk h;simp [okL] at h;omega
        | rd j q ihq=>intro k hk h;simp only [okL,Bool.and_eq_true] at h;exact ihq (k + 1) (by omega) h.2
        | ag j q _=>intro k hk h;simp [okL] at h
        | ef j q r ihq _=>
          intro k hk h
          cases r with
          | non=>simp only [okL,Bool.and_eq_true] at h;exact ihq (k + 1) (by omega) h.2
          | _=>simp [okL] at h
        | non=>intro k hk h;simp [okL] at h
      exact this p (i + 1) (by omega)
  | ag i p _=>intro k vs a w hI hok hs;simp [okL] at hok
  | ef i p q ih _=>
    intro k vs a w hI hok hs
    cases q with
    | non=>
      simp only [okL,Bool.and_eq_true,beq_iff_eq] at hok
      obtain ⟨rfl,hok⟩:=hok
      obtain ⟨hs,_⟩:=hs
      rcases Nat.lt_or_ge i l.length with hlt | hge
      · have hoi:l[i]? = some l[i]:=List.getElem?_eq_getElem hlt
        rw [List.drop_eq_getElem_cons hlt]
        rw [List.getElem?_toArray,hoi] at hs
        have hs:=hs a (hat hI)
        unfold wpList
        split
        · rename_i hw
          rw [if_pos hw] at hs
          refine .inl (Oper.wp_mono (fun a' w' ⟨v,e1,e2⟩=>?_) hs)
          subst e1
          exact ih (i + 1) _ _ _ (iZ hdst hroom hoi v hI) hok e2
        · rename_i hw
          rw [if_neg hw] at hs
          exact ih (i + 1) _ _ _ (iZ hdst hroom hoi undef hI) hok hs
      · exfalso
        revert hok
        have:∀ (p:Plan) (k:Nat),l.length < k → okL l.length p k = true → False:=by
          intro p
          induction p with
          | fin=>intro k hk h;simp [okL] at h;omega
          | rd j q ihq=>intro k hk h;simp only [okL,Bool.and_eq_true] at h;exact ihq (k + 1) (by omega) h.2
          | ag j q _=>intro k hk h;simp [okL] at h
          | ef j q r ihq _=>
            intro k hk h
            cases r with
            | non=>simp only [okL,Bool.and_eq_true] at h;exact ihq (k + 1) (by omega) h.2
            | _=>simp [okL] at h
          | non=>intro k hk h;simp [okL] at h
        exact this p (i + 1) (by omega)
    | _=>simp [okL] at hok
  | non=>intro k vs a w hI hok hs;simp [okL] at hok
theorem zi {id:Nat} {l:List Oper} {w0:World} (pl:Plan) (hdst:fR l.toArray = true) {n:Nat} (hn:a0.tmps.size = n) (hroom:dy l.toArray n = true) (hok:okL l.length pl 0 = true)
    (hseq:bb P l.toArray (bsL l.toArray) dpL a0 Q (Fin Q l a0) pl (fun _=>undef) w0):(Code.region id l.toArray false).wp P Q a0 w0:=by
  subst hn
  exact wp_region_lit (xV hdst hroom pl 0 _ a0 w0 ⟨rfl,rfl,fun _ _=>rfl,fun j d hj=>by omega⟩ hok hseq)
theorem bL {ops:Array Oper} {o:Oper} {a:Act} {w:World} {v:Value} (hw:Region.wanted o (yielded ops a.tmps) = true) (hrun:(execOp a.eval o).run P w = .ok (.value v) w):if Region.wanted o (yielded ops a.tmps) = true then o.wp P a w (fun a' w'=>a' = a.put o.dst v∧w' = w) Q else v = undef:=by
  rw [if_pos hw];unfold Oper.wp;rw [hrun];exact ⟨rfl,rfl⟩
theorem rk {ops:Array Oper} {o:Oper} {a:Act} {w:World} {v:Value} (hrun:(execOp a.eval o).run P w = .ok (.value v) w) (hg:o.guard = none:=by rfl):if Region.wanted o (yielded ops a.tmps) = true then o.wp P a w (fun a' w'=>a' = a.put o.dst v∧w' = w) Q else v = undef:=bL (ae hg) hrun
theorem zB {ops:Array Oper} {o:Oper} {a:Act} {w:World} {v:Value} (hw:Region.wanted o (yielded ops a.tmps) = false) (hv:v = undef):if Region.wanted o (yielded ops a.tmps) = true then o.wp P a w (fun a' w'=>a' = a.put o.dst v∧w' = w) Q else v = undef:=by rw [if_neg (by rw [hw];simp)];exact hv
end
section
variable {P:Program} {ops:Array Oper} {bs dp:Nat → Nat → Bool} {a0:Act} {Q:Exit → Act → World → Prop} {Qf:(Nat → Value) → World → Prop}
theorem AtV.b {vs:Nat → Value} {i:Nat} {a:Act} (h:AtV ops bs dp a0 vs i a) (s:Nat) {v:Value} (hs:a0.tmps.getD s undef = v) (hb:bs i s = true:=by kernel_rfl):a.tmps.getD s undef = v:=(h.base s hb).trans hs
theorem AtV.d {vs:Nat → Value} {i:Nat} {a:Act} (h:AtV ops bs dp a0 vs i a) (j d:Nat) (hj:dp i j = true:=by kernel_rfl) (hd:(ops[j]?).bind (·.dst) = some d:=by kernel_rfl):a.tmps.getD d undef = vs j:=h.dep j d hj hd
abbrev sl (a:Act) (i:Nat):Value:=a.tmps.getD i undef
theorem Put.o {l:List Oper} {vs:Nat → Value} {a0 a1:Act} (h:Put l vs a0 a1) (s:Nat) {v:Value} (hs:a0.tmps.getD s undef = v) (hb:(l.all fun o=>o.dst != some s) = true:=by kernel_rfl):a1.tmps.getD s undef = v:=(h.old s hb).trans hs
theorem AtV.on {vs:Nat → Value} {i:Nat} {a:Act} {o:Oper} (h:AtV ops bs dp a0 vs i a) (j d:Nat) {b:Bool} (hv:vs j = .bool b:=by rfl) (hg:o.guard = some (j,b):=by rfl) (hj:dp i j = true:=by kernel_rfl) (hd:(ops[j]?).bind (·.dst) = some d:=by kernel_rfl):Region.wanted o (yielded ops a.tmps) = true:=zX hg hd ((h.dep j d hj hd).trans hv)
def rds:List Nat → Plan → Plan
  | [],p=>p
  | i::l,p=>.rd i (rds l p)
def qf:List Nat → (Nat → Value) → (Nat → Value)
  | [],vs=>vs
  | i::l,vs=>qf l (gy vs i undef)
def ta (ops:Array Oper) (dp:Nat → Nat → Bool) (j d:Nat) (b:Bool) (l:List Nat):Bool:=((ops[j]?).bind (·.dst) == some d) && l.all fun i=>i != j && (dp i j && match ops[i]? with | some o=>o.guard == some (j,b) | none=>false)
theorem xt {o:Oper} {a:Act} {j d:Nat} {b:Bool} {v:Value} (hg:o.guard = some (j,b)) (hd:(ops[j]?).bind (·.dst) = some d) (h:a.tmps.getD d undef = v) (hv:v = .bool (!b) ∨ v = undef):Region.wanted o (yielded ops a.tmps) = false:=by
  rcases hv with rfl | rfl
  · exact yX hg hd h
  · rw [Array.getD_eq_getD_getElem?] at h
    cases hx:a.tmps[d]? with
    | none=>simp only [Region.wanted,hg,yielded,hd,Option.bind_some,hx];rfl
    | some u=>
      rw [hx] at h
      have h:u = undef:=h
      subst h
      simp only [Region.wanted,hg,yielded,hd,Option.bind_some,hx];rfl
theorem uF {j d:Nat} {b:Bool} {p:Plan} {w:World}:∀ (l:List Nat) (vs:Nat → Value),ta ops dp j d b l = true → (vs j = .bool (!b) ∨ vs j = undef) → bb P ops bs dp a0 Q Qf p (qf l vs) w → bb P ops bs dp a0 Q Qf (rds l p) vs w
  | [],vs,_,_,h=>h
  | i::l,vs,hB,hv,h=>by
    simp only [ta,List.all_cons,Bool.and_eq_true,beq_iff_eq,bne_iff_ne] at hB
    obtain ⟨hd,⟨hij,hj,hg⟩,hl⟩:=hB
    refine ⟨undef,?_,uF (j:=j) (d:=d) (b:=b) l (gy vs i undef) ?_ ?_ h⟩
    · unfold ROK
      split
      · rename_i o ho
        rw [ho] at hg
        intro a hat
        exact zB (xt (by simpa using hg) hd (hat.dep j d hj hd) hv) rfl
      · trivial
    · simp only [ta,Bool.and_eq_true,beq_iff_eq]
      exact ⟨hd,hl⟩
    · rw [mF vs undef (fun e=>hij e.symm)];exact hv
theorem xW {j d i:Nat} {b:Bool} {p:Plan} {w:World} {vs:Nat → Value} (hB:ta ops dp j d b [i] = true) (hv:vs j = .bool (!b) ∨ vs j = undef) (h:bb P ops bs dp a0 Q Qf p (gy vs i undef) w):bb P ops bs dp a0 Q Qf (.ef i p .non) vs w:=by
  simp only [ta,List.all_cons,Bool.and_eq_true,beq_iff_eq,bne_iff_ne] at hB
  obtain ⟨hd,⟨hij,hj,hg⟩,hl⟩:=hB
  refine ⟨?_,trivial⟩
  split
  · rename_i o ho
    rw [ho] at hg
    intro a hat
    rw [if_neg (by rw [xt (by simpa using hg) hd (hat.dep j d hj hd) hv];simp)]
    exact h
  · trivial
end
def lY (efs:List Nat):Nat → Nat → Plan
  | 0,_=>.fin
  | n + 1,k=>match efs.contains k with
    | true=>.ef k (lY efs n (k + 1)) .non
    | false=>.rd k (lY efs n (k + 1))
theorem fO {P:Program} {Q:Exit → Act → World → Prop} {a0:Act} {id:Nat} {l:List Oper} {w0:World} (efs:List Nat) {n:Nat} (hn:a0.tmps.size = n) (hseq:bb P l.toArray (bsL l.toArray) dpL a0 Q (Fin Q l a0) (lY efs l.length 0) (fun _=>undef) w0)
    (hdst:fR l.toArray = true:=by kernel_rfl) (hroom:dy l.toArray n = true:=by kernel_rfl) (hok:okL l.length (lY efs l.length 0) 0 = true:=by kernel_rfl):(Code.region id l.toArray false).wp P Q a0 w0:=zi _ hdst hn hroom hok hseq
theorem AI {P:Program} {Q:Exit → Act → World → Prop} {a0:Act} {id:Nat} {d:Bool} {l:List Oper} {w0:World} (tab:List (List Nat)) (ef:List Nat) (pl:Plan) {n:Nat} (hn:a0.tmps.size = n)
    (hseq:∀ w1,Below w0.heap.size w0 w1 → bb P l.toArray (cZ .any l.toArray) (Region.waitsFor .any l.toArray) a0 Q (Fin Q l a0) pl (fun _=>undef) w1)
    (hm:P.follows .mixedOrders = true:=by kernel_rfl) (hback:ge .any l.toArray = true:=by kernel_rfl) (hdst:fR l.toArray = true:=by kernel_rfl) (hroom:dy l.toArray n = true:=by kernel_rfl)
    (htab:ph l.toArray tab = true:=by kernel_rfl) (hok:okP l.toArray tab ef pl false [] [] [] [] = true:=by kernel_rfl):(Code.region id l.toArray d).wp P Q a0 w0:=tE tab ef pl hm hback hdst hn hroom htab hok hseq
abbrev i6 (n:Int):Value:=.int .i64 n
abbrev pt (g k:Nat):Value:=.pointer (some ⟨g,k,none⟩)
theorem bt (b:Bool):b = true ∨ b = false:=by cases b <;> simp
theorem dt (p:Prop) [Decidable p]:(decide p = true∧p) ∨ (decide p = false∧¬ p):=by by_cases h:p <;> simp [h]
theorem nt (p:Prop) [Decidable p]:((!(decide p)) = true∧¬ p) ∨ ((!(decide p)) = false∧p):=by by_cases h:p <;> simp [h]
theorem lG {P:Program} {Q:Exit → Act → World → Prop} {a:Act} {w:World} {c:Operand} {b:Bool} {x y:Code} (h:a.eval c = .bool b) (h1:b = true → x.wp P Q a w) (h2:b = false → y.wp P Q a w):(Code.cond c x y).wp P Q a w:=by
  cases b
  · exact wp_cond_false h (h2 rfl)
  · exact wp_cond_true h (h1 rfl)
theorem jf {P:Program} {Q:Exit → Act → World → Prop} {a:Act} {w:World} {c:Operand} {p:Prop} [Decidable p] {x y:Code} (h:a.eval c = .bool (decide p)) (h1:p → x.wp P Q a w) (h2:¬ p → y.wp P Q a w):(Code.cond c x y).wp P Q a w:=
  lG h (fun e=>h1 (of_decide_eq_true e)) (fun e=>h2 (of_decide_eq_false e))
theorem wv {P:Program} {Q:Exit → Act → World → Prop} {a:Act} {w:World} {c:Operand} {p:Prop} [Decidable p] {x y:Code} (h:a.eval c = .bool (!(decide p))) (h1:¬ p → x.wp P Q a w) (h2:p → y.wp P Q a w):(Code.cond c x y).wp P Q a w:=
  lG h (fun e=>h1 (by simpa using e)) (fun e=>h2 (by simpa using e))
end
section
structure Atom where
  holds:World → List Nat → Prop
  loc:∀ {w w':World} {fp:List Nat},holds w fp → (∀ b ∈ fp,w'.heap[b]? = w.heap[b]?) → holds w' fp
  dom:∀ {w:World} {fp:List Nat},holds w fp → ∀ b ∈ fp,b < w.heap.size
def Sep:List Atom → World → List Nat → Prop
  | [],_,fp=>fp = []
  | a::l,w,fp=>∃ f1 f2,fp = f1 ++ f2∧(∀ b ∈ f1,b ∉ f2)∧a.holds w f1∧Sep l w f2
abbrev Kap:=Os × (Nat → Question → Nat) × Array (Nat × ByteArray)
def kap (w:World):Kap:=(w.os,w.tape,w.output)
def S (κ:Kap) (L I:List Atom) (w:World):Prop:=kap w = κ∧∃ fp,Sep L w fp∧∀ i ∈ I,∃ f,i.holds w f∧∀ b ∈ f,b ∉ fp
section
variable {κ:Kap} {L I:List Atom} {w w':World}
theorem Sep.loc:∀ {L:List Atom} {w w':World} {fp:List Nat},Sep L w fp → (∀ b ∈ fp,w'.heap[b]? = w.heap[b]?) → Sep L w' fp
  | [],_,_,_,h,_=>h
  | a::l,w,w',fp,⟨f1,f2,e,hd,h1,h2⟩,hb=>by
    subst e
    exact ⟨f1,f2,rfl,hd,a.loc h1 (fun b h=>hb b (List.mem_append_left _ h)),h2.loc (fun b h=>hb b (List.mem_append_right _ h))⟩
theorem Sep.dom:∀ {L:List Atom} {w:World} {fp:List Nat},Sep L w fp → ∀ b ∈ fp,b < w.heap.size
  | [],_,_,h,b,hb=>by rw [show _ = [] from h] at hb;cases hb
  | a::l,w,fp,⟨f1,f2,e,hd,h1,h2⟩,b,hb=>by
    subst e
    rcases List.mem_append.1 hb with h | h
    · exact a.dom h1 b h
    · exact h2.dom b h
theorem Sep.app:∀ {L M:List Atom} {w:World} {fp:List Nat},Sep (L ++ M) w fp ↔ ∃ f1 f2,fp = f1 ++ f2∧(∀ b ∈ f1,b ∉ f2)∧Sep L w f1∧Sep M w f2
  | [],M,w,fp=>⟨fun h=>⟨[],fp,rfl,fun _ h=>(by cases h),rfl,h⟩,fun ⟨f1,f2,e,_,h1,h2⟩=>by
    rw [show f1 = [] from h1,List.nil_append] at e;subst e;exact h2⟩
  | a::L,M,w,fp=>by
    constructor
    · rintro ⟨f1,f2,rfl,hd,h1,h2⟩
      obtain ⟨g1,g2,rfl,hd2,h3,h4⟩:=Sep.app.1 h2
      refine ⟨f1 ++ g1,g2,(List.append_assoc _ _ _).symm,fun b hb=>?_,⟨f1,g1,rfl,fun b hb hc=>hd b hb (List.mem_append_left _ hc),h1,h3⟩,h4⟩
      rcases List.mem_append.1 hb with h | h
      · exact fun hc=>hd b h (List.mem_append_right _ hc)
      · exact hd2 b h
    · rintro ⟨f,g2,rfl,hd,⟨f1,g1,rfl,hd2,h1,h3⟩,h4⟩
      refine ⟨f1,g1 ++ g2,List.append_assoc _ _ _,fun b hb hc=>?_,h1,Sep.app.2 ⟨g1,g2,rfl,fun b hb=>hd b (List.mem_append_right _ hb),h3,h4⟩⟩
      rcases List.mem_append.1 hc with h | h
      · exact hd2 b hb h
      · exact hd b (List.mem_append_left _ hb) h
theorem Sep.perm {L M:List Atom} (hp:L.Perm M):∀ {w:World} {fp:List Nat},Sep L w fp → ∃ fq,Sep M w fq∧∀ b,b ∈ fq ↔ b ∈ fp:=by
  induction hp with
  | nil=>intro w fp h;exact ⟨fp,h,fun _=>Iff.rfl⟩
  | cons a _ ih=>
    rintro w fp ⟨f1,f2,rfl,hd,h1,h2⟩
    obtain ⟨g,hg,hm⟩:=ih h2
    exact ⟨f1 ++ g,⟨f1,g,rfl,fun b hb hc=>hd b hb ((hm b).1 hc),h1,hg⟩,fun b=>by simp [hm b]⟩
  | swap a c l=>
    rintro w fp ⟨f1,f2,rfl,hd,h1,g1,g2,rfl,hd2,h3,h4⟩
    refine ⟨g1 ++ (f1 ++ g2),⟨g1,f1 ++ g2,rfl,fun b hb hc=>?_,h3,f1,g2,rfl,fun b hb hc=>hd b hb (List.mem_append_right _ hc),h1,h4⟩,fun b=>by
      simp only [List.mem_append]
      constructor
      · rintro (h | h | h)
        · exact .inr (.inl h)
        · exact .inl h
        · exact .inr (.inr h)
      · rintro (h | h | h)
        · exact .inr (.inl h)
        · exact .inl h
        · exact .inr (.inr h)⟩
    rcases List.mem_append.1 hc with h | h
    · exact hd b h (List.mem_append_left _ hb)
    · exact hd2 b hb h
  | trans _ _ i1 i2=>
    intro w fp h
    obtain ⟨g,hg,hm⟩:=i1 h
    obtain ⟨g2,hg2,hm2⟩:=i2 hg
    exact ⟨g2,hg2,fun b=>(hm2 b).trans (hm b)⟩
theorem S.perm {M:List Atom} (h:S κ L I w) (hp:L.Perm M):S κ M I w:=by
  obtain ⟨hk,fp,hs,hi⟩:=h
  obtain ⟨fq,hq,hm⟩:=hs.perm hp
  exact ⟨hk,fq,hq,fun i hin=>by
    obtain ⟨f,h1,h2⟩:=hi i hin
    exact ⟨f,h1,fun b hb hc=>h2 b hb ((hm b).1 hc)⟩⟩
theorem S.eqv (h:S κ L I w) (hk:kap w' = kap w) (hb:∀ b,b < w.heap.size → w'.heap[b]? = w.heap[b]?):S κ L I w':=by
  obtain ⟨hκ,fp,hs,hi⟩:=h
  exact ⟨hk.trans hκ,fp,hs.loc (fun b hm=>hb b (hs.dom b hm)),fun i hin=>by
    obtain ⟨f,h1,h2⟩:=hi i hin
    exact ⟨f,i.loc h1 (fun b hm=>hb b (i.dom h1 b hm)),h2⟩⟩
theorem oJ {B:Nat} (hb:Below B w w'):kap w' = kap w:=by unfold kap;rw [hb.os,hb.tape,hb.output]
theorem S.below (h:S κ L I w) (hb:Below w.heap.size w w'):S κ L I w':=h.eqv (oJ hb) hb.block
theorem Sep.get:∀ {L:List Atom} {i:Nat} {a:Atom} {w:World} {fp:List Nat},Sep L w fp → L[i]? = some a → ∃ f,a.holds w f
  | [],i,a,w,fp,_,hi=>by simp at hi
  | c::l,0,a,w,fp,⟨f1,f2,_,_,h1,_⟩,hi=>by simp only [List.getElem?_cons_zero,Option.some.injEq] at hi;subst hi;exact ⟨f1,h1⟩
  | c::l,i + 1,a,w,fp,⟨f1,f2,_,_,_,h2⟩,hi=>Sep.get h2 (by simpa using hi)
theorem S.own {i:Nat} {a:Atom} (h:S κ L I w) (hi:L[i]? = some a):∃ f,a.holds w f:=h.2.elim fun _ h=>h.1.get hi
theorem S.imm {i:Nat} {a:Atom} (h:S κ L I w) (hi:I[i]? = some a):∃ f,a.holds w f:=by
  obtain ⟨_,fp,_,hI⟩:=h
  obtain ⟨f,h1,_⟩:=hI a (List.mem_of_getElem? hi)
  exact ⟨f,h1⟩
theorem S.drop {a:Atom} (h:S κ (a::L) I w):S κ L I w:=by
  obtain ⟨hk,fp,⟨f1,f2,rfl,hd,h1,h2⟩,hi⟩:=h
  exact ⟨hk,f2,h2,fun i hin=>by
    obtain ⟨f,h3,h4⟩:=hi i hin
    exact ⟨f,h3,fun b hb hc=>h4 b hb (List.mem_append_right _ hc)⟩⟩
theorem S.dropI {a:Atom} (h:S κ L (a::I) w):S κ L I w:=⟨h.1,h.2.imp fun fp ⟨h1,h2⟩=>⟨h1,fun i hi=>h2 i (List.mem_cons_of_mem _ hi)⟩⟩
theorem S.subI {J:List Atom} (h:S κ L I w) (hJ:∀ i ∈ J,i ∈ I):S κ L J w:=⟨h.1,h.2.imp fun fp ⟨h1,h2⟩=>⟨h1,fun i hi=>h2 i (hJ i hi)⟩⟩
theorem S.freeze {a:Atom} (h:S κ (a::L) I w):S κ L (a::I) w:=by
  obtain ⟨hk,fp,⟨f1,f2,rfl,hd,h1,h2⟩,hi⟩:=h
  refine ⟨hk,f2,h2,fun i hin=>?_⟩
  rcases List.mem_cons.1 hin with rfl | hin
  · exact ⟨f1,h1,hd⟩
  · obtain ⟨f,h3,h4⟩:=hi i hin
    exact ⟨f,h3,fun b hb hc=>h4 b hb (List.mem_append_right _ hc)⟩
theorem S.push {a:Atom} {f:List Nat} (h:S κ L I w) (hb:Below w.heap.size w w') (ha:a.holds w' f) (hf:∀ b ∈ f,w.heap.size ≤ b):S κ (a::L) I w':=by
  obtain ⟨hk,fp,hs,hi⟩:=h
  have hdom:=hs.dom
  refine ⟨(oJ hb).trans hk,f ++ fp,⟨f,fp,rfl,fun b h1 h2=>?_,ha,hs.loc (fun b hm=>hb.block b (hdom b hm))⟩,fun i hin=>?_⟩
  · have:=hf b h1;have:=hdom b h2;omega
  · obtain ⟨g,h3,h4⟩:=hi i hin
    refine ⟨g,i.loc h3 (fun b hm=>hb.block b (i.dom h3 b hm)),fun b hb2 hc=>?_⟩
    rcases List.mem_append.1 hc with h | h
    · have:=hf b h;have:=i.dom h3 b hb2;omega
    · exact h4 b hb2 h
theorem S.pushI {a:Atom} {f:List Nat} (h:S κ L I w) (hb:Below w.heap.size w w') (ha:a.holds w' f) (hf:∀ b ∈ f,w.heap.size ≤ b):S κ L (a::I) w':=(h.push hb ha hf).freeze
theorem S.turn {a:Atom} (h:S κ (a::L) I w):∃ f,a.holds w f∧∀ (a':Atom) (w':World) (f':List Nat),a'.holds w' f' → kap w' = kap w → w.heap.size ≤ w'.heap.size → (∀ b ∈ f',b ∈ f ∨ w.heap.size ≤ b) → (∀ b,b < w.heap.size → b ∉ f → w'.heap[b]? = w.heap[b]?) → S κ (a'::L) I w':=by
  obtain ⟨hk,fp,⟨f1,f2,rfl,hd,h1,h2⟩,hi⟩:=h
  refine ⟨f1,h1,fun a' w' f' ha hk' hsz hf hb=>⟨hk'.trans hk,f' ++ f2,⟨f',f2,rfl,fun b h3 h4=>?_,ha,h2.loc (fun b hm=>hb b (h2.dom b hm) (fun hc=>hd b hc hm))⟩,fun i hin=>?_⟩⟩
  · rcases hf b h3 with h | h
    · exact hd b h h4
    · have:=h2.dom b h4;omega
  · obtain ⟨g,h3,h4⟩:=hi i hin
    refine ⟨g,i.loc h3 (fun b hm=>hb b (i.dom h3 b hm) (fun hc=>h4 b hm (List.mem_append_left _ hc))),fun b hb2 hc=>?_⟩
    rcases List.mem_append.1 hc with h | h
    · rcases hf b h with h5 | h5
      · exact h4 b hb2 (List.mem_append_left _ h5)
      · have:=i.dom h3 b hb2;omega
    · exact h4 b hb2 (List.mem_append_right _ h)
theorem jO {α:Type} {l:List α} {i:Nat} {a:α} (h:l[i]? = some a):l.Perm (a::l.eraseIdx i):=by
  induction l generalizing i with
  | nil=>simp at h
  | cons c l ih=>
    cases i with
    | zero=>simp only [List.getElem?_cons_zero,Option.some.injEq] at h;subst h;simp
    | succ i=>
      have:=ih (i:=i) (by simpa using h)
      rw [List.eraseIdx_cons_succ]
      exact (List.Perm.cons c this).trans (List.Perm.swap _ _ _)
theorem ro {α:Type} {l:List α} {i:Nat} {a c:α} (h:l[i]? = some a):(c::l.eraseIdx i).Perm (l.set i c):=by
  induction l generalizing i with
  | nil=>simp at h
  | cons d l ih=>
    cases i with
    | zero=>simp
    | succ i=>
      have:=ih (i:=i) (by simpa using h)
      rw [List.eraseIdx_cons_succ,List.set_cons_succ]
      exact (List.Perm.swap _ _ _).trans (List.Perm.cons d this)
theorem S.front {i:Nat} {a:Atom} (h:S κ L I w) (hi:L[i]? = some a):S κ (a::L.eraseIdx i) I w:=h.perm (jO hi)
theorem S.back {i:Nat} {a c:Atom} (h:S κ (c::L.eraseIdx i) I w) (hi:L[i]? = some a):S κ (L.set i c) I w:=h.perm (ro hi)
theorem S.imp {a c:Atom} (h:S κ (a::L) I w) (hc:∀ w f,a.holds w f → c.holds w f):S κ (c::L) I w:=by
  obtain ⟨hk,fp,⟨f1,f2,e,hd,h1,h2⟩,hi⟩:=h
  exact ⟨hk,fp,⟨f1,f2,e,hd,hc _ _ h1,h2⟩,hi⟩
def ai (g:Nat) (t:TypeId) (cs:Array Value):Atom where
  holds w fp:=fp = [g]∧Blk w g t cs
  loc:=fun ⟨h1,h2⟩ hb=>⟨h1,(hb _ (by rw [h1];simp)).trans h2⟩
  dom:=fun ⟨h1,h2⟩ b hb=>by rw [h1] at hb;simp at hb;subst hb;exact h2.lt
def aa (v:Value) (e size n:Nat) (xs:List Value):Atom where
  holds w fp:=fp = v.ownBlock.toList∧w.ownsRow 0 e size v n xs
  loc:=fun ⟨h1,ho⟩ hb=>⟨h1,ho.1,by
    rcases ho.2 with h0 | ⟨g,cap,cur,rfl,h3,hh,r⟩
    · exact .inl h0
    · exact .inr ⟨g,cap,cur,rfl,h3,(hb g (by rw [h1];simp [Value.ownBlock])).trans hh,r⟩⟩
  dom:=fun ⟨h1,h2⟩ b hb=>by
    rw [h1] at hb
    exact zZ h2 (by simpa using hb)
def cA (W:World) (B:Nat):Atom where
  holds w fp:=fp = List.range B∧B ≤ w.heap.size∧∀ b,b < B → w.heap[b]? = W.heap[b]?
  loc:=fun {w w' fp} ⟨h1,h2,h3⟩ hb=>⟨h1,by
    rcases Nat.lt_or_ge w'.heap.size B with hlt | hge
    · have hk:=hb w'.heap.size (by rw [h1];exact List.mem_range.2 hlt)
      rw [Array.getElem?_eq_none (Nat.le_refl _),Array.getElem?_eq_getElem (by omega)] at hk
      cases hk
    · exact hge,fun b hlt=>(hb b (by rw [h1];exact List.mem_range.2 hlt)).trans (h3 b hlt)⟩
  dom:=fun ⟨h1,h2,_⟩ b hb=>by rw [h1] at hb;have:=List.mem_range.1 hb;omega
def exA {α:Type} (f:α → Atom):Atom where
  holds w fp:=∃ x,(f x).holds w fp
  loc:=fun ⟨x,h⟩ hb=>⟨x,(f x).loc h hb⟩
  dom:=fun ⟨x,h⟩ b hb=>(f x).dom h b hb
def bi (l:List Atom):Atom where
  holds w fp:=Sep l w fp
  loc:=fun h hb=>Sep.loc h hb
  dom:=fun h b hb=>Sep.dom h b hb
def fK (p:Prop) (a:Atom):Atom where
  holds w fp:=p∧a.holds w fp
  loc:=fun ⟨h1,h2⟩ hb=>⟨h1,a.loc h2 hb⟩
  dom:=fun ⟨_,h2⟩ b hb=>a.dom h2 b hb
theorem S.ex_open {α:Type} {f:α → Atom} (h:S κ (exA f::L) I w):∃ x,S κ (f x::L) I w:=by
  obtain ⟨hk,fp,⟨f1,f2,e,hd,⟨x,h1⟩,h2⟩,hi⟩:=h
  exact ⟨x,hk,fp,⟨f1,f2,e,hd,h1,h2⟩,hi⟩
theorem S.ex_close {α:Type} {f:α → Atom} (x:α) (h:S κ (f x::L) I w):S κ (exA f::L) I w:=h.imp fun _ _ h=>⟨x,h⟩
theorem S.pure_open {p:Prop} {a:Atom} (h:S κ (fK p a::L) I w):p∧S κ (a::L) I w:=by
  obtain ⟨f,hf⟩:=h.own (i:=0) rfl
  exact ⟨hf.1,h.imp fun _ _ h=>h.2⟩
theorem S.pure_close {p:Prop} {a:Atom} (hp:p) (h:S κ (a::L) I w):S κ (fK p a::L) I w:=h.imp fun _ _ h=>⟨hp,h⟩
theorem S.sep_open {l:List Atom} (h:S κ (bi l::L) I w):S κ (l ++ L) I w:=by
  obtain ⟨hk,fp,⟨f1,f2,e,hd,h1,h2⟩,hi⟩:=h
  exact ⟨hk,fp,Sep.app.2 ⟨f1,f2,e,hd,h1,h2⟩,hi⟩
theorem S.sep_close {l:List Atom} (h:S κ (l ++ L) I w):S κ (bi l::L) I w:=by
  obtain ⟨hk,fp,hs,hi⟩:=h
  obtain ⟨f1,f2,e,hd,h1,h2⟩:=Sep.app.1 hs
  exact ⟨hk,fp,⟨f1,f2,e,hd,h1,h2⟩,hi⟩
theorem S.blk {i g t:Nat} {cs:Array Value} (h:S κ L I w) (hi:L[i]? = some (ai g t cs)):Blk w g t cs:=(h.own hi).elim fun _ h=>h.2
theorem S.blkI {i g t:Nat} {cs:Array Value} (h:S κ L I w) (hi:I[i]? = some (ai g t cs)):Blk w g t cs:=(h.imm hi).elim fun _ h=>h.2
theorem S.row {i e size n:Nat} {v:Value} {xs:List Value} (h:S κ L I w) (hi:L[i]? = some (aa v e size n xs)):w.ownsRow 0 e size v n xs:=(h.own hi).elim fun _ h=>h.2
theorem S.rowI {i e size n:Nat} {v:Value} {xs:List Value} (h:S κ L I w) (hi:I[i]? = some (aa v e size n xs)):w.ownsRow 0 e size v n xs:=(h.imm hi).elim fun _ h=>h.2
theorem S.old {W:World} (h:S (kap W) L I w) (hm:cA W W.heap.size ∈ I):Below W.heap.size W w:=by
  obtain ⟨hk,fp,_,hI⟩:=h
  obtain ⟨f,⟨_,h2,h3⟩,_⟩:=hI _ hm
  have hk:(w.os,w.tape,w.output) = (W.os,W.tape,W.output):=hk
  simp only [Prod.mk.injEq] at hk
  exact ⟨hk.1,hk.2.1,hk.2.2,h2,h3⟩
theorem S.start (W:World):S (kap W) [] [cA W W.heap.size] W:=
  ⟨rfl,[],rfl,fun i hi=>by simp at hi;subst hi;exact ⟨_,⟨rfl,Nat.le_refl _,fun _ _=>rfl⟩,fun _ _ h=>by cases h⟩⟩
end
section
variable {P:Program} {ops:Array Oper} {Q:Exit → Act → World → Prop} {o:Oper} {a:Act} {w:World} {K:Act → World → Prop} {E:Prop} {v:Value} {κ:Kap} {L I:List Atom}
theorem ya {t:TypeId} {cells:Array Value} (hS:S κ L I w) (hw:Region.wanted o (yielded ops a.tmps) = true) (ho:o.op = .alloc t) (hz:gB P t = some cells)
    (h:∀ g w',S κ (ai g t cells::L) I w' → Below w.heap.size w w' → K (a.put o.dst (.pointer (some ⟨g,0,none⟩))) w'):if Region.wanted o (yielded ops a.tmps) = true then o.wp P a w K Q else E:=
  aT hw (pa ho hz) (h _ _ (hS.push (aC w _) ⟨rfl,Blk.new w t cells⟩ (by simp)) (aC w _))
theorem Aj {t:TypeId} {x:Operand} {cells:Array Value} {u:Value} (hS:S κ L I w) (hw:Region.wanted o (yielded ops a.tmps) = true) (ho:o.op = .box t x) (hx:a.eval x = u) (hc:u.cells = cells)
    (h:∀ g w',S κ (ai g t cells::L) I w' → Below w.heap.size w w' → K (a.put o.dst (.pointer (some ⟨g,0,none⟩))) w'):if Region.wanted o (yielded ops a.tmps) = true then o.wp P a w K Q else E:=
  aT hw (ux ho hx hc) (h _ _ (hS.push (aC w _) ⟨rfl,Blk.new w t cells⟩ (by simp)) (aC w _))
theorem iM (w:World) (g:Nat) (cs:Array Value):(w.setRow g cs).heap.size = w.heap.size:=by simp [World.setRow]
theorem jH (w:World) (g:Nat) (cs:Array Value):kap (w.setRow g cs) = kap w:=rfl
theorem S.store {g T:Nat} {cs:Array Value} (i:Nat) (cs':Array Value) (hS:S κ L I w) (hi:L[i]? = some (ai g T cs)):S κ (L.set i (ai g T cs')) I (w.setRow g cs'):=by
  refine S.back ?_ hi
  obtain ⟨f,⟨hf,hb⟩,h⟩:=(hS.front hi).turn
  refine h _ _ [g] ⟨rfl,setRow_heap w g cs cs' T (0,0) hb⟩ (jH _ _ _) (by rw [iM];exact Nat.le_refl _) (fun b hb=>.inl (by rw [hf];exact hb)) (fun b hlt hn=>?_)
  exact setRow_other w g b cs' (fun e=>hn (by rw [hf,e];simp))
theorem rT {x y:Operand} {t g k n T:Nat} {cs cells cs':Array Value} {u:Value} (i:Nat) (hS:S κ L I w) (hi:L[i]? = some (ai g T cs)) (hw:Region.wanted o (yielded ops a.tmps) = true) (ho:o.op = .store t x y) (hx:a.eval x = .pointer (some ⟨g,k,none⟩)) (hy:a.eval y = u) (hv:u.cells = cells)
    (hsz:(P.info? t).map (·.size) = some n) (hs:k + n ≤ cs.size∧cells.size = n∧cells.all (·.oneCell') = true) (hc:(f9 cs.toList k cells.toList).toArray = cs')
    (h:∀ w',S κ (L.set i (ai g T cs')) I w' → w' = w.setRow g cs' → K (a.put o.dst undef) w'):if Region.wanted o (yielded ops a.tmps) = true then o.wp P a w K Q else E:=
  gx hw (lx ho hx hy hv (hS.blk hi) hsz hs hc) (h _ (hS.store i cs' hi) rfl)
theorem qd {f:FuncId} {args:Array Value} {R:Ending → World → Prop} (hw:Region.wanted o (yielded ops a.tmps) = true) (hrun:(execOp a.eval o).run P w = .ok (.enter f args) w) (h:Calls P f args w R) (hR:∀ e w',R e w' → ∃ v,e = .returned v∧K (a.put o.dst v) w'):if Region.wanted o (yielded ops a.tmps) = true then o.wp P a w K Q else E:=dW hw hrun h hR
theorem S.append {e size n m:Nat} {v v':Value} {xs ys:List Value} {w':World} (i:Nat) (hS:S κ L I w) (hi:L[i]? = some (aa v e size n xs)) (ho:w'.ownsRow 0 e size v' m ys) (hg:w.grownBy w' v.ownBlock) (hv:v'.ownBlock = v.ownBlock ∨ v'.ownBlock = some w.heap.size):S κ (L.set i (aa v' e size m ys)) I w':=by
  refine S.back ?_ hi
  obtain ⟨f,⟨hf,hb⟩,h⟩:=(hS.front hi).turn
  refine h _ _ _ ⟨rfl,ho⟩ (by unfold kap;rw [hg.os,hg.tape,hg.output]) hg.size (fun b hb=>?_) (fun b hlt hn=>hg.block b hlt (fun e=>hn (by rw [hf,← e];simp)))
  rcases hv with h1 | h1
  · left;rw [hf,← h1];exact hb
  · right;rw [h1] at hb;simp at hb;omega
theorem we {B:Nat} {A:Option Addr} (s x:Operand) (t:TypeId) (i e size bytes:Nat) (hS:S κ L I w) (hw:Region.wanted o (yielded ops a.tmps) = true) (ho:o.op = .call { callee:=.builtin .append,args:=#[s,x],argTypes:=#[t,t] }) (hT:rG P t e size bytes = true)
    (n:Nat) (xs:List Value) (hs:a.eval s = v) (hi:L[i]? = some (aa v e size n xs)) (m c:Nat) (news:List Value) (hx:a.eval x = .slice A m c) (hr:Reads w B size A m news) (h1:∀ u ∈ news,u.oneCell' = true)
    (h63:n + m ≤ maxLen) (hbytes:(n + m) * bytes ≤ 140737488355328)
    (h:∀ A' c' w',S κ (L.set i (aa (.slice A' (n + m) c') e size (n + m) (xs ++ news))) I w' → K (a.put o.dst (.slice A' (n + m) c')) w'):
    if Region.wanted o (yielded ops a.tmps) = true then o.wp P a w K Q else E:=by
  unfold rG at hT
  split at hT
  · rename_i e' ti hu hti
    simp only [Bool.and_eq_true,beq_iff_eq,decide_eq_true_eq] at hT
    obtain ⟨⟨⟨⟨rfl,h2⟩,h3⟩,h4⟩,h5⟩:=hT
    cases hz:ti.zero with
    | none=>rw [hz] at h5;cases h5
    | some z=>
      rw [hz] at h5
      obtain ⟨v',w',hrun,g2,g3,g5⟩:=iJ (P:=P) w 0 t o.type e' ti z size bytes hu hti hz h2 h3 (by simpa using h5) h4 v n xs (hS.row hi) B A m c news hr h1 h63 hbytes (Nat.zero_le _)
      obtain ⟨A',c',rfl⟩:=nr g2
      refine aT (w':=w') (v:=.slice A' (n + m) c') hw ?_ (h A' c' w' (hS.append i hi g2 g3 g5))
      unfold execOp
      simp only [ho,resolve,invoke,builtin,Sem.run_bind,Sem.run_pure,Result.andThen_ok,List.map_toArray,List.map_cons,List.map_nil,hs,hx,hrun]
  · cases hT
end
section
variable {P:Program} {o:Oper} {a:Act} {w:World}
theorem az {x y:Operand} {t:TypeId} {A:Option Addr} {b off n c size m:Nat} {i:Int} (ho:o.op = .indexAddr t x y) (hx:a.eval x = .slice A n c) (hA:A = some ⟨b,off,none⟩) (hy:a.eval y = .int .i64 i) (ht:jU P t size = true) (hi:0 ≤ i∧i < n) (hm:off + i.toNat * size = m):(execOp a.eval o).run P w = .ok (.value (.pointer (some ⟨b,m,none⟩))) w:=
  nN ho (hx.trans (by rw [hA])) hy ht hi hm
theorem dT {x:Operand} {t b m size:Nat} {cs:List Value} (ho:o.op = .load t x) (hx:a.eval x = .pointer (some ⟨b,m,none⟩)) (hT:hE P t size = true) (hn:cs.length = size) (hc:∀ j u,cs[j]? = some u → w.cell? ⟨b,m + j,none⟩ = some u):(execOp a.eval o).run P w = .ok (.value (.agg cs.toArray)) w:=by
  have hl:=kz (P:=P) (w:=w) t size ⟨b,m,none⟩ cs hT hn (fun j v hj=>by rw [gf];exact hc j v hj)
  unfold execOp;simp only [ho];rw [hx]
  simp [Instr.loadAt,Instr.sureAddr,hl]
end
theorem nbt {b:Bool} (h:(!b) = true):b = false:=by simpa using h
theorem nbf {b:Bool} (h:(!b) = false):b = true:=by simpa using h
theorem mx (a b:Int):(a != b) = decide (a ≠ b):=by by_cases h:a = b <;> simp [h]
theorem pE (a b:Int):(a == b) = decide (a = b):=by by_cases h:a = b <;> simp [h]
section
variable {P:Program} {ops:Array Oper} {Q:Exit → Act → World → Prop} {o:Oper} {a:Act} {w:World} {K:Act → World → Prop} {E:Prop} {v:Value} {κ:Kap} {L I:List Atom}
theorem ld {x:Operand} {t g k T:Nat} {cs:Array Value} (hS:S κ L I w) (i:Nat) (ho:o.op = .load t x) (hx:a.eval x = .pointer (some ⟨g,k,none⟩)) (hi:L[i]? = some (ai g T cs):=by rfl) (hv:cs[k]? = some v:=by rfl) (hf:jA P t = true:=by kernel_rfl):(execOp a.eval o).run P w = .ok (.value v) w:=bB ho hx hf ((hS.blk hi).cell k |>.trans hv)
theorem lb {x:Operand} {t g k T:Nat} {cs:Array Value} (hK:Blk w g T cs) (ho:o.op = .load t x) (hx:a.eval x = .pointer (some ⟨g,k,none⟩)) (hv:cs[k]? = some v:=by rfl) (hf:jA P t = true:=by kernel_rfl):(execOp a.eval o).run P w = .ok (.value v) w:=bB ho hx hf ((hK.cell k).trans hv)
theorem lbS {x:Operand} {t g k T:Nat} {cs:Array Value} {out:List Value} (n:Nat) (hg:Blk w g T cs) (ho:o.op = .load t x) (hx:a.eval x = .pointer (some ⟨g,k,none⟩)) (hcut:(cs.toList.drop k).take n = out:=by rfl) (hn:out.length = n:=by rfl) (hT:hE P t n = true:=by kernel_rfl):(execOp a.eval o).run P w = .ok (.value (.agg out.toArray)) w:=vY ho hx hT hg hcut hn
theorem fa {x:Operand} {t g k f n:Nat} (m:Nat) (ho:o.op = .fieldAddr t x f) (hx:a.eval x = .pointer (some ⟨g,k,none⟩)) (hf:ik P t f = some m:=by kernel_rfl) (hn:k + m = n:=by rfl):(execOp a.eval o).run P w = .ok (.value (.pointer (some ⟨g,n,none⟩))) w:=eK ho hx hf hn
end
section
variable {P:Program} {ops:Array Oper} {Q:Exit → Act → World → Prop} {o:Oper} {a:Act} {w:World} {v:Value}
theorem rmv {d:Nat} (hx:a.tmps.getD d undef = v) (ho:o.op = .move (.tmp d):=by rfl) (hg:o.guard = none:=by rfl):if Region.wanted o (yielded ops a.tmps) = true then o.wp P a w (fun a' w'=>a' = a.put o.dst v∧w' = w) Q else v = undef:=rk (aO ho hx) hg
theorem ras {d:Nat} (hx:a.tmps.getD d undef = v) (ho:o.op = .assign (.tmp d):=by rfl) (hg:o.guard = none:=by rfl):if Region.wanted o (yielded ops a.tmps) = true then o.wp P a w (fun a' w'=>a' = a.put o.dst v∧w' = w) Q else v = undef:=rk (bU ho hx) hg
end
theorem jz {P:Program} {f:FuncId} {fn:Func} {c:Code} {args:Array Value} {W:World} {R0:Ending → World → Prop} (hf:P.funcs[f]? = some fn) (hb:fn.body = some c)
    (h:∀ (R:Ending → World → Prop),(∀ v w,R0 (.returned v) w → R (.returned v) w) → ∀ a:Act,a.tmps.size = args.size + (fn.ntmps - args.size) → a.defers = [] → (∀ i v,args[i]? = some v → a.tmps.getD i undef = v) → c.wp P (bodyPost P fn R) a W):Calls P f args W R0:=by
  refine calls_of_wp hf hb (h R0 (fun _ _ h=>h) _ (by simp) rfl fun i v hi=>?_)
  have hlt:=(Array.getElem?_eq_some_iff.1 hi).1
  rw [Array.getD_eq_getD_getElem?,Array.getElem?_append_left hlt,hi];rfl
section
variable {P:Program} {fn:Func} {R:Ending → World → Prop} {a:Act} {w:World} {u v:Value} {t t2:Nat}
theorem AQ (hd:a.defers = []) (h:R (.returned (.tuple #[])) w) (hr:fn.results = #[]:=by kernel_rfl):bodyPost P fn R .ret a w:=bodyPost_ret (results_none hr _ _ _) hd h
theorem Ad (hd:a.defers = []) (s:a.tmps.getD t undef = v) (h:R (.returned v) w) (hr:fn.results = #[.tmp t]:=by kernel_rfl):bodyPost P fn R .ret a w:=bodyPost_ret (by rw [results_tmp hr,s]) hd h
theorem AR (hd:a.defers = []) (s:a.tmps.getD t undef = v) (s2:a.tmps.getD t2 undef = u) (h:R (.returned (.tuple #[v,u])) w) (hr:fn.results = #[.tmp t,.tmp t2]:=by kernel_rfl):bodyPost P fn R .ret a w:=bodyPost_ret (by rw [results_tmp2 hr,s,s2]) hd h
theorem AS {g T ty:Nat} {cs:Array Value} {d:TypeDesc} (hd:a.defers = []) (s:a.tmps.getD t undef = pt g 0) (hg:Blk w g T cs) (h:R (.returned (.agg cs)) w) (hu:P.underlying ty = some d) (hr:fn.results = #[.cell t ty]:=by kernel_rfl) (hk:(match d with | .struct _ | .array _ _=>true | _=>false) = true:=by rfl) (hi:(P.info? ty).map (·.size) = some cs.size:=by kernel_rfl):bodyPost P fn R .ret a w:=bodyPost_ret (results_cell_row hr _ _ _ _ _ _ _ s hg hu hk hi) hd h
theorem AG {g T ty:Nat} {cs:Array Value} {d:TypeDesc} (hd:a.defers = []) (s:a.tmps.getD t undef = pt g 0) (s2:a.tmps.getD t2 undef = u) (hg:Blk w g T cs) (h:R (.returned (.tuple #[.agg cs,u])) w) (hu:P.underlying ty = some d) (hr:fn.results = #[.cell t ty,.tmp t2]:=by kernel_rfl) (hk:(match d with | .struct _ | .array _ _=>true | _=>false) = true:=by rfl) (hi:(P.info? ty).map (·.size) = some cs.size:=by kernel_rfl):bodyPost P fn R .ret a w:=bodyPost_ret ((mg hr _ _ _ _ _ _ s hg hu hk hi).trans (by rw [s2])) hd h
end
theorem kB {P:Program} {o:Oper} {a:Act} {w:World} {c x y:Operand} {b d:Bool} (ho:o.op = .pick c x y) (hc:a.eval c = .bool b) (hx:a.eval x = .bool d) (hy:a.eval y = .bool false):(execOp a.eval o).run P w = .ok (.value (.bool (b && d))) w:=by
  cases b
  · exact jS ho hc hy
  · exact (jT ho hc hx).trans (by simp)
theorem l8 {P:Program} {o:Oper} {a:Act} {w:World} {c x y:Operand} {b d:Bool} (ho:o.op = .pick c x y) (hc:a.eval c = .bool b) (hx:a.eval x = .bool true) (hy:a.eval y = .bool d):(execOp a.eval o).run P w = .ok (.value (.bool (b || d))) w:=by
  cases b
  · exact (jS ho hc hy).trans (by simp)
  · exact jT ho hc hx
theorem aq {P:Program} {o:Oper} {a:Act} {w:World} {x y:Operand} {t t':TypeId} {op:BinOp} {u u' r:Value} (ho:o.op = .binOp op t x y t') (hx:a.eval x = u) (hy:a.eval y = u') (hg:∀ w,(eqGuard op t x y u u').run P w = .ok () w) (hr:∀ w,(binOp op t u u').run P w = .ok r w):(execOp a.eval o).run P w = .ok (.value r) w:=by
  unfold execOp;simp only [ho];rw [hx,hy]
  simp [Sem.run_bind,hg,hr]
theorem bp1 {a:Act} {i:Nat} {x:Operand} {u:Value} (hx:a.eval x = u):((#[(i,x)]:Array (Nat × Operand)).map fun (i,x)=>(i,a.eval x)) = #[(i,u)]:=by simp [hx]
theorem bp2 {a:Act} {i j:Nat} {x y:Operand} {u v:Value} (hx:a.eval x = u) (hy:a.eval y = v):((#[(i,x),(j,y)]:Array (Nat × Operand)).map fun (i,x)=>(i,a.eval x)) = #[(i,u),(j,v)]:=by simp [hx,hy]
theorem bp3 {a:Act} {i j k:Nat} {x y z:Operand} {u v t:Value} (hx:a.eval x = u) (hy:a.eval y = v) (hz:a.eval z = t):((#[(i,x),(j,y),(k,z)]:Array (Nat × Operand)).map fun (i,x)=>(i,a.eval x)) = #[(i,u),(j,v),(k,t)]:=by simp [hx,hy,hz]
end
section
section
variable {P:Program} {ops:Array Oper} {Q:Exit → Act → World → Prop} {o:Oper} {a:Act} {w:World} {K:Act → World → Prop} {E:Prop} {v:Value} {κ:Kap} {L I:List Atom}
theorem bu {fn:Fn} {fs cs:Array Operand} {first cap:Array Value} (ho:o.op = .makeFunc fn fs cs) (hf:fs.map a.eval = first) (hc:cs.map a.eval = cap):(execOp a.eval o).run P w = .ok (.value (.func fn first cap)) w:=by
  unfold execOp;simp only [ho];subst hf;subst hc;rfl
theorem vX {f:FuncId} {x:Operand} {xs:Array Operand} {ts:Array TypeId} {first args cap full:Array Value} (ho:o.op = .call { callee:=.value x,args:=xs,argTypes:=ts }) (hx:a.eval x = .func (.func f) first cap) (ha:xs.map a.eval = args) (hl:first ++ args ++ cap = full) (hf:(callFunc f full).run P w = .ok (.enter f full) w):(execOp a.eval o).run P w = .ok (.enter f full) w:=by
  unfold execOp;simp only [ho]
  simp [resolve,ha,hx,Deferred.ofValue,invoke]
  rw [← Array.append_assoc,hl]
  exact hf
def Ap (P:Program) (t n size:Nat):Bool:=match P.underlying t with | some (.array m e)=>m == n && (P.info? e).map (·.size) == some size | _=>false
theorem gZ {x y:Operand} {t:TypeId} {g k n size m:Nat} {i:Int} (ho:o.op = .indexAddr t x y) (hx:a.eval x = .pointer (some ⟨g,k,none⟩)) (hy:a.eval y = .int .i64 i) (ht:Ap P t n size = true) (hi:0 ≤ i∧i < n) (hm:k + i.toNat * size = m):(execOp a.eval o).run P w = .ok (.value (.pointer (some ⟨g,m,none⟩))) w:=by
  unfold Ap at ht
  split at ht
  · rename_i m' e hu
    simp only [Bool.and_eq_true,beq_iff_eq] at ht
    obtain ⟨rfl,ht⟩:=ht
    cases hq:P.info? e with
    | none=>simp [hq] at ht
    | some inf=>
      have hsz:inf.size = size:=by simpa [hq] using ht
      unfold execOp;simp only [ho];rw [hx,hy]
      subst hm
      simp [Instr.indexAt,Instr.sureAddr,asIntOf,underlying,hu,hi,sizeOf,typeInfo,hq,hsz,Addr.add]
  · cases ht
def zv (P:Program) (t:Nat):Bool:=match P.underlying t with | some (.struct _)=>false | some (.array _ _)=>false | some _=>true | none=>false
theorem et {x y:Operand} {t e:TypeId} {n:Nat} {cs:Array Value} {i:Int} {u:Value} (ho:o.op = .index t x y) (hx:a.eval x = .agg cs) (hy:a.eval y = .int .i64 i) (ht:P.underlying t = some (.array n e)) (he:(P.info? e).map (·.size) = some 1) (hf:zv P e = true) (hi:0 ≤ i∧i < n) (hu:cs[i.toNat]? = some u):(execOp a.eval o).run P w = .ok (.value u) w:=by
  cases hq:P.info? e with
  | none=>simp [hq] at he
  | some inf=>
    have hsz:inf.size = 1:=by simpa [hq] using he
    unfold zv at hf
    unfold execOp;simp only [ho];rw [hx,hy]
    cases hue:P.underlying e with
    | none=>rw [hue] at hf;cases hf
    | some d=>
      rw [hue] at hf
      cases d <;> first | (simp at hf;done) | simp [Instr.index,asIntOf,underlying,ht,hi,sizeOf,typeInfo,hq,hsz,part,isAgg,hue,hu]
theorem qV (cs:Array Value) (k:Nat) (v:Value) (h:k < cs.size):(f9 cs.toList k [v]).toArray = cs.setIfInBounds k v:=by
  apply Array.ext_getElem?
  intro i
  unfold f9
  simp only [List.getElem?_toArray,List.length_singleton,Array.getElem?_setIfInBounds]
  rw [List.append_assoc,List.getElem?_append]
  by_cases hik:i < k
  · rw [if_pos (by simp;omega),if_neg (by omega)]
    rw [List.getElem?_take_of_lt hik];simp
  · rw [if_neg (by simp;omega)]
    by_cases he:k = i
    · subst he;simp [h,Nat.min_eq_left (Nat.le_of_lt h)]
    · rw [if_neg he]
      have hl:(List.take k cs.toList).length = k:=by simp;omega
      rw [hl,List.getElem?_append_right (by simp;omega),List.getElem?_drop]
      simp only [List.length_singleton]
      rw [show k + 1 + (i - k - 1) = i by omega];simp
theorem uH {x y:Operand} {t g k T:Nat} {cs:Array Value} {u:Value} (i:Nat) (hS:S κ L I w) (hi:L[i]? = some (ai g T cs)) (hw:Region.wanted o (yielded ops a.tmps) = true) (ho:o.op = .store t x y) (hx:a.eval x = .pointer (some ⟨g,k,none⟩)) (hy:a.eval y = u) (hv:u.cells = #[u])
    (hsz:(P.info? t).map (·.size) = some 1) (hs:k < cs.size) (h1:u.oneCell' = true)
    (h:∀ w',S κ (L.set i (ai g T (cs.setIfInBounds k u))) I w' → w' = w.setRow g (cs.setIfInBounds k u) → K (a.put o.dst undef) w'):if Region.wanted o (yielded ops a.tmps) = true then o.wp P a w K Q else E:=
  rT i hS hi hw ho hx hy hv hsz ⟨by omega,rfl,by simp [h1]⟩ (qV cs k u hs) h
theorem dS {x:Operand} {src dst:TypeId} {k k':IntKind} {n m:Int} (ho:o.op = .convert src dst x) (hx:a.eval x = .int k n) (ht:P.underlying dst = some (.int k')) (hw:k'.wrap n = m) (hs:(P.underlying src).isSome = true):(execOp a.eval o).run P w = .ok (.value (.int k' m)) w:=by
  cases hu:P.underlying src with
  | none=>rw [hu] at hs;cases hs
  | some d=>
    unfold execOp;simp only [ho];rw [hx]
    subst hw
    simp [convert,underlying,hu,ht,Conv.intToInt]
theorem xT {x y:Operand} {t t':TypeId} {p q n:Int} (ho:o.op = .binOp .mul t x y t') (hx:a.eval x = .int .i64 p) (hy:a.eval y = .int .i64 q) (h:-9223372036854775808 ≤ p * q∧p * q ≤ 9223372036854775807) (hn:p * q = n):(execOp a.eval o).run P w = .ok (.value (.int .i64 n)) w:=
  cw ho hx hy (by subst hn;show (pure _:Sem Value) = pure _;exact congrArg _ (congrArg _ (wrap_i64 h)))
theorem wrap_u8 {n:Int} (h:0 ≤ n∧n < 256):IntKind.u8.wrap n = n:=by
  rw [IntKind.wrap_u8];omega
theorem sn (n:Int):IntKind.u64.wrap n = n % 18446744073709551616:=by simp [IntKind.wrap,IntKind.bits,IntKind.signed]
theorem yP (z:Value) (n:Nat):madeCells #[z] n = Array.replicate n z:=by
  apply Array.ext_getElem?
  intro i
  by_cases h:i < n <;> simp [madeCells,h,Nat.mod_one]
theorem zk {t e:TypeId} {x y:Operand} {n:Nat} {z:Value} {by_:Nat} (hS:S κ L I w) (hw:Region.wanted o (yielded ops a.tmps) = true) (ho:o.op = .makeSlice t x y) (hx:a.eval x = .int .i64 n) (hy:a.eval y = .int .i64 n) (hn:by_ * n ≤ 281474976710656)
    (h:∀ g w',S κ (ai g e (Array.replicate n z)::L) I w' → Below w.heap.size w w' → K (a.put o.dst (.slice (some ⟨g,0,none⟩) n n)) w')
    (h63:n ≤ 9223372036854775807:=by omega) (ht:P.underlying t = some (.slice e):=by kernel_rfl) (he:(P.info? e).map (fun i=>(i.zero,i.size,i.bytes)) = some (some z,1,by_):=by kernel_rfl) (hz:z.cells = #[z]:=by rfl):if Region.wanted o (yielded ops a.tmps) = true then o.wp P a w K Q else E:=by
  cases hi:P.info? e with
  | none=>rw [hi] at he;cases he
  | some i=>
    rw [hi] at he
    simp only [Option.map_some,Option.some.injEq,Prod.mk.injEq] at he
    obtain ⟨e1,e2,e3⟩:=he
    have hr:=run_make (P:=P) w t e i z ht hi e1 .i64 .i64 n n (by omega) (by omega) (by rw [e3,← Int.natCast_mul];omega) (by omega)
    rw [e2,hz,Nat.mul_one,Int.toNat_natCast,yP] at hr
    refine aT (w':=w.alloc (.cells (Array.replicate n z) e)) (v:=.slice (some ⟨w.heap.size,0,none⟩) n n) hw ?_ (h _ _ (hS.push (aC w _) ⟨rfl,Blk.new w e _⟩ (by simp)) (aC w _))
    unfold execOp;simp only [ho];rw [hx,hy]
    simp only [Sem.run_bind,hr];rfl
theorem aZ {t e n:Nat} {parts:Array (Nat × Operand)} {vals:List (Nat × Value)} {cells:Array Value} (hS:S κ L I w) (hw:Region.wanted o (yielded ops a.tmps) = true) (ho:o.op = .buildSlice t n parts) (hp:(parts.map fun (i,x)=>(i,a.eval x)).toList = vals)
    (h:∀ g w',S κ (ai g e cells::L) I w' → Below w.heap.size w w' → K (a.put o.dst (.slice (some ⟨g,0,none⟩) n n)) w')
    (ht:P.underlying t = some (.slice e):=by kernel_rfl) (hc:kg P e n vals = some cells:=by kernel_rfl):if Region.wanted o (yielded ops a.tmps) = true then o.wp P a w K Q else E:=
  aT hw (uA ho hp ht hc) (h _ _ (hS.push (aC w _) ⟨rfl,Blk.new w e cells⟩ (by simp)) (aC w _))
theorem sap {B:Nat} {A A2:Option Addr} {s x:Operand} {t e size bytes n m c c2:Nat} {xs news:List Value} (hS:S κ L I w) (i:Nat) (hw:Region.wanted o (yielded ops a.tmps) = true) (ho:o.op = .call { callee:=.builtin .append,args:=#[s,x],argTypes:=#[t,t] })
    (hs:a.eval s = .slice A n c) (hx:a.eval x = .slice A2 m c2) (hr:Reads w B size A2 m news) (h1:∀ u ∈ news,u.oneCell' = true) (h63:n + m ≤ maxLen) (hbytes:(n + m) * bytes ≤ 140737488355328)
    (h:∀ A' c' w',S κ (L.set i (aa (.slice A' (n + m) c') e size (n + m) (xs ++ news))) I w' → K (a.put o.dst (.slice A' (n + m) c')) w')
    (hi:L[i]? = some (aa (.slice A n c) e size n xs):=by rfl) (hT:rG P t e size bytes = true:=by kernel_rfl):if Region.wanted o (yielded ops a.tmps) = true then o.wp P a w K Q else E:=
  we s x t i e size bytes hS hw ho hT n xs hs hi m c2 news hx hr h1 h63 hbytes h
theorem tX {w:World} {base g n size:Nat} {e:TypeId} {cs:Array Value} (h:Blk w g e cs) (hg:base ≤ g) (hs:cs.size = n * size) (hn:n ≤ 9223372036854775807):w.ownsRow base e size (.slice (some ⟨g,0,none⟩) n n) n cs.toList:=
  ⟨by simp [hs],.inr ⟨g,n,cs,rfl,hg,h,Nat.le_refl _,by simpa [maxLen] using hn,hs,by rw [List.take_of_length_le (by simp [hs])]⟩⟩
theorem S.nilrow (hS:S κ L I w) (e size:Nat):S κ (aa (.slice none 0 0) e size 0 []::L) I w:=
  hS.push (Below.refl _ _) (f:=[]) ⟨rfl,World.ownsRow_nil _ _ _ _⟩ (by simp)
theorem S.pushRow {w':World} {e size n:Nat} {v:Value} {xs:List Value} (hS:S κ L I w) (hb:Below w.heap.size w w') (ho:w'.ownsRow w.heap.size e size v n xs):S κ (aa v e size n xs::L) I w':=
  hS.push hb (f:=v.ownBlock.toList) ⟨rfl,dh ho (Nat.zero_le _)⟩ (fun b hb=>(df ho (by simpa using hb)).1)
theorem S.pushRowI {w':World} {e size n:Nat} {v:Value} {xs:List Value} (hS:S κ L I w) (hb:Below w.heap.size w w') (ho:w'.ownsRow w.heap.size e size v n xs):S κ L (aa v e size n xs::I) w':=
  hS.pushI hb (f:=v.ownBlock.toList) ⟨rfl,dh ho (Nat.zero_le _)⟩ (fun b hb=>(df ho (by simpa using hb)).1)
theorem S.rdI {i e size n c:Nat} {A:Option Addr} {xs:List Value} (h:S κ L I w) (hi:I[i]? = some (aa (.slice A n c) e size n xs)):Reads w w.heap.size size A n xs:=Reads.of_own (h.rowI hi)
theorem S.rd {i e size n c:Nat} {A:Option Addr} {xs:List Value} (h:S κ L I w) (hi:L[i]? = some (aa (.slice A n c) e size n xs)):Reads w w.heap.size size A n xs:=Reads.of_own (h.row hi)
theorem S.rowBase {i e size n B:Nat} {W:World} {v:Value} {xs:List Value} (h:S κ L I w) (hi:L[i]? = some (aa v e size n xs)) (hm:cA W B ∈ I):w.ownsRow B e size v n xs:=by
  obtain ⟨_,fp,⟨f1,f2,rfl,hd,⟨h1,ho⟩,_⟩,hI⟩:=h.front hi
  obtain ⟨f,⟨h2,_,_⟩,h3⟩:=hI _ hm
  refine ⟨ho.1,?_⟩
  rcases ho.2 with h0 | ⟨g,cap,cur,rfl,hb,r⟩
  · exact .inl h0
  · refine .inr ⟨g,cap,cur,rfl,?_,r⟩
    rcases Nat.lt_or_ge g B with hlt | hge
    · exact absurd (List.mem_append_left _ (by rw [h1];simp [Value.ownBlock])) (h3 g (by rw [h2];exact List.mem_range.2 hlt))
    · exact hge
theorem S.base {i g t B:Nat} {W:World} {cs:Array Value} (h:S κ L I w) (hi:L[i]? = some (ai g t cs)) (hm:cA W B ∈ I):B ≤ g:=by
  obtain ⟨_,fp,⟨f1,f2,rfl,hd,⟨h1,_⟩,_⟩,hI⟩:=h.front hi
  obtain ⟨f,⟨h2,_,_⟩,h3⟩:=hI _ hm
  rcases Nat.lt_or_ge g B with hlt | hge
  · exact absurd (List.mem_append_left _ (by rw [h1];simp)) (h3 g (by rw [h2];exact List.mem_range.2 hlt))
  · exact hge
end
theorem S.rowAt {κ:Kap} {L I:List Atom} {w:World} {i e size n c:Nat} {A:Option Addr} {xs:List Value} (h:S κ L I w) (hi:L[i]? = some (aa (.slice A n c) e size n xs)) (hn:0 < n):∃ g,A = some ⟨g,0,none⟩:=by
  have ho:=h.row hi
  rcases ho.2 with ⟨h',_⟩ | ⟨g,cap,cur,h',_⟩
  · cases h';omega
  · cases h';exact ⟨g,rfl⟩
theorem gz (n:Int):IntKind.u8.wrap n = n % 256:=by simp [IntKind.wrap,IntKind.bits,IntKind.signed]
end
section
def lkV:List (Nat × Value) → Nat → Option Value
  | [],_=>none
  | (i,v)::l,j=>match Nat.beq j i with | true=>some v | false=>lkV l j
structure Fr (a:Act) (n:Nat) (K:List (Nat × Value)):Prop where
  size:a.tmps.size = n
  dfr:a.defers = []
  slot:∀ s v,lkV K s = some v → a.tmps.getD s undef = v
theorem Fr.g {a:Act} {n:Nat} {K:List (Nat × Value)} (h:Fr a n K) {s:Nat} {v:Value} (e:lkV K s = some v:=by rfl):sl a s = v:=h.slot s v e
def zI (K:List (Nat × Value)):List (Nat × Value) → Prop
  | []=>True
  | (s,v)::r=>lkV K s = some v∧zI K r
theorem ol {K:List (Nat × Value)}:∀ {M:List (Nat × Value)},zI K M → ∀ s v,lkV M s = some v → lkV K s = some v
  | [],_,s,v,h=>by cases h
  | (i,u)::M,hA,s,v,h=>by
    unfold lkV at h
    split at h
    · rename_i hb
      have:=Nat.eq_of_beq_eq_true hb
      subst this
      cases h
      exact hA.1
    · exact ol hA.2 s v h
theorem Fr.to {a:Act} {n:Nat} {K M:List (Nat × Value)} (h:Fr a n K) (e:zI K M:=by repeat' (first | exact True.intro | refine And.intro rfl ?_)):Fr a n M:=⟨h.size,h.dfr,fun s v hs=>h.slot s v (ol e s v hs)⟩
def vof (m:List (Nat × Value)) (i:Nat):Value:=match lkV m i with | some v=>v | none=>undef
theorem kH (m:List (Nat × Value)) (i:Nat) (v:Value):gy (vof m) i v = vof ((i,v)::m):=by
  funext j
  unfold gy vof
  rw [lkV]
  cases Nat.beq j i <;> rfl
theorem kI {m:List (Nat × Value)} {i:Nat} {v:Value} (h:lkV m i = some v):vof m i = v:=by unfold vof;rw [h]
def jOf:List Oper → Nat → Nat → Option Nat
  | [],_,_=>none
  | o::l,k,s=>match o.dst with
    | some d=>(match Nat.beq d s with | true=>some k | false=>jOf l (k + 1) s)
    | none=>jOf l (k + 1) s
theorem kf:∀ {l:List Oper} {k s j:Nat},jOf l k s = some j → k ≤ j∧(l[j - k]?).bind (·.dst) = some s
  | [],k,s,j,h=>by cases h
  | o::l,k,s,j,h=>by
    have key:jOf l (k + 1) s = some j → k ≤ j∧((o::l)[j - k]?).bind (·.dst) = some s:=fun h=>by
      obtain ⟨h1,h2⟩:=kf h
      refine ⟨by omega,?_⟩
      rw [show j - k = (j - (k + 1)) + 1 by omega,List.getElem?_cons_succ]
      exact h2
    unfold jOf at h
    cases hd:o.dst with
    | none=>rw [hd] at h;exact key h
    | some d=>
      rw [hd] at h
      dsimp only at h
      cases hb:Nat.beq d s with
      | false=>rw [hb] at h;exact key h
      | true=>
        rw [hb] at h
        cases h
        refine ⟨Nat.le_refl _,?_⟩
        rw [Nat.sub_self,List.getElem?_cons_zero]
        show o.dst = some s
        rw [hd,Nat.eq_of_beq_eq_true hb]
theorem nb:∀ {l:List Oper} {k s:Nat},jOf l k s = none → (l.all fun o=>o.dst != some s) = true
  | [],k,s,h=>rfl
  | o::l,k,s,h=>by
    have key:jOf l (k + 1) s = none → (l.all fun o=>o.dst != some s) = true:=nb
    unfold jOf at h
    rw [List.all_cons,Bool.and_eq_true]
    cases hd:o.dst with
    | none=>rw [hd] at h;exact ⟨rfl,key h⟩
    | some d=>
      rw [hd] at h
      dsimp only at h
      cases hb:Nat.beq d s with
      | true=>rw [hb] at h;cases h
      | false=>
        rw [hb] at h
        refine ⟨?_,key h⟩
        simp only [bne_iff_ne,ne_eq,Option.some.injEq]
        intro e
        rw [e,Nat.beq_refl] at hb
        cases hb
def slV (l:List Oper) (m K:List (Nat × Value)) (s:Nat):Option Value:=match jOf l 0 s with
  | some j=>(match lkV m j with | some v=>some v | none=>lkV K s)
  | none=>lkV K s
def slC (l:List Oper) (bs dp:Nat → Nat → Bool) (m:List (Nat × Value)) (i s:Nat):Bool:=match jOf l 0 s with
  | some j=>(match lkV m j with | some _=>dp i j | none=>bs i s)
  | none=>bs i s
def opV (l:List Oper) (m K:List (Nat × Value)):Operand → Option Value
  | .tmp s=>slV l m K s
  | .const v=>some v
  | .func f=>some (.func (.func f) #[] #[])
  | .global g=>some (.pointer (some ⟨g,0,none⟩))
def opC (l:List Oper) (bs dp:Nat → Nat → Bool) (m:List (Nat × Value)) (i:Nat):Operand → Bool
  | .tmp s=>slC l bs dp m i s
  | _=>true
section
variable {l:List Oper} {bs dp:Nat → Nat → Bool} {a0:Act} {m K:List (Nat × Value)} {i n:Nat} {a:Act}
theorem AtV.x (h:AtV l.toArray bs dp a0 (vof m) i a) (hk:Fr a0 n K) {x:Operand} {v:Value} (e:opV l m K x = some v:=by rfl) (c:opC l bs dp m i x = true:=by kernel_rfl):a.eval x = v:=by
  cases x with
  | const u=>exact Option.some.inj e
  | func f=>exact Option.some.inj e
  | global g=>exact Option.some.inj e
  | tmp s=>
    simp only [opV] at e
    simp only [opC] at c
    unfold slV at e
    unfold slC at c
    show a.tmps.getD s undef = v
    cases hj:jOf l 0 s with
    | none=>
      rw [hj] at e c
      exact (h.base s c).trans (hk.slot s v e)
    | some j=>
      rw [hj] at e c
      dsimp only at e c
      cases hm:lkV m j with
      | none=>
        rw [hm] at e c
        exact (h.base s c).trans (hk.slot s v e)
      | some u=>
        rw [hm] at e c
        cases e
        rw [h.dep j s c (by
          have:=(kf hj).2
          rw [Nat.sub_zero] at this
          simpa using this),kI hm]
def rj (l:List Oper) (m K:List (Nat × Value)):List Operand → Option (List Value)
  | []=>some []
  | x::xs=>match opV l m K x with
    | some v=>(match rj l m K xs with | some vs=>some (v::vs) | none=>none)
    | none=>none
def n5 (l:List Oper) (bs dp:Nat → Nat → Bool) (m:List (Nat × Value)) (i:Nat) (xs:List Operand):Bool:=xs.all (opC l bs dp m i)
theorem AtV.xs (h:AtV l.toArray bs dp a0 (vof m) i a) (hk:Fr a0 n K):∀ {xs:List Operand} {vs:List Value},rj l m K xs = some vs → n5 l bs dp m i xs = true → xs.map a.eval = vs
  | [],vs,e,c=>by cases e;rfl
  | x::xs,vs,e,c=>by
    unfold rj at e
    simp only [n5,List.all_cons,Bool.and_eq_true] at c
    cases h1:opV l m K x with
    | none=>rw [h1] at e;cases e
    | some v=>
      rw [h1] at e
      dsimp only at e
      cases h2:rj l m K xs with
      | none=>rw [h2] at e;cases e
      | some us=>
        rw [h2] at e
        cases e
        rw [List.map_cons,h.x hk h1 c.1,AtV.xs h hk h2 c.2]
def vM (l:List Oper) (m K:List (Nat × Value)):List (Nat × Operand) → Option (List (Nat × Value))
  | []=>some []
  | (k,x)::xs=>match opV l m K x with
    | some v=>(match vM l m K xs with | some vs=>some ((k,v)::vs) | none=>none)
    | none=>none
theorem AtV.pts (h:AtV l.toArray bs dp a0 (vof m) i a) (hk:Fr a0 n K):∀ {xs:List (Nat × Operand)} {vs:List (Nat × Value)},vM l m K xs = some vs → n5 l bs dp m i (xs.map (·.2)) = true → xs.map (fun (j,x)=>(j,a.eval x)) = vs
  | [],vs,e,c=>by cases e;rfl
  | (k,x)::xs,vs,e,c=>by
    unfold vM at e
    simp only [n5,List.map_cons,List.all_cons,Bool.and_eq_true] at c
    cases h1:opV l m K x with
    | none=>rw [h1] at e;cases e
    | some v=>
      rw [h1] at e
      dsimp only at e
      cases h2:vM l m K xs with
      | none=>rw [h2] at e;cases e
      | some us=>
        rw [h2] at e
        cases e
        rw [List.map_cons,AtV.pts h hk h2 c.2]
        show (k,a.eval x)::us = _
        rw [h.x hk h1 c.1]
theorem AtV.map (h:AtV l.toArray bs dp a0 (vof m) i a) (hk:Fr a0 n K) {xs:List Operand} {vs:List Value} (e:rj l m K xs = some vs:=by rfl) (c:n5 l bs dp m i xs = true:=by kernel_rfl):xs.toArray.map a.eval = vs.toArray:=by
  rw [List.map_toArray,h.xs hk e c]
theorem AtV.prt (h:AtV l.toArray bs dp a0 (vof m) i a) (hk:Fr a0 n K) {xs:List (Nat × Operand)} {vs:List (Nat × Value)} (e:vM l m K xs = some vs:=by rfl) (c:n5 l bs dp m i (xs.map (·.2)) = true:=by kernel_rfl):(xs.toArray.map fun (j,x)=>(j,a.eval x)) = vs.toArray:=by
  rw [List.map_toArray,h.pts hk e c]
theorem AtV.prtL (h:AtV l.toArray bs dp a0 (vof m) i a) (hk:Fr a0 n K) {xs:List (Nat × Operand)} {vs:List (Nat × Value)} (e:vM l m K xs = some vs:=by rfl) (c:n5 l bs dp m i (xs.map (·.2)) = true:=by kernel_rfl):(xs.toArray.map fun (j,x)=>(j,a.eval x)).toList = vs:=by
  rw [h.prt hk e c]
def f7 (l:List Oper) (dp:Nat → Nat → Bool) (m:List (Nat × Value)) (i:Nat) (o:Oper):Bool:=match o.guard with
  | none=>true
  | some (j,b)=>dp i j && ((match lkV m j with | some (.bool c)=>c == b | _=>false) && ((l[j]?).bind (·.dst)).isSome)
theorem aQ {o:Oper} (h:AtV l.toArray bs dp a0 (vof m) i a) (hg:f7 l dp m i o = true):Region.wanted o (yielded l.toArray a.tmps) = true:=by
  unfold f7 at hg
  cases ho:o.guard with
  | none=>exact ae ho
  | some jb=>
    obtain ⟨j,b⟩:=jb
    rw [ho] at hg
    simp only [Bool.and_eq_true] at hg
    obtain ⟨h1,h2,h3⟩:=hg
    cases hd:(l[j]?).bind (·.dst) with
    | none=>rw [hd] at h3;cases h3
    | some d=>
      refine h.on j d ?_ ho h1 (by simpa using hd)
      cases hm:lkV m j with
      | none=>rw [hm] at h2;cases h2
      | some u=>
        rw [hm] at h2
        cases u <;> first | cases h2 | skip
        rw [kI hm,beq_iff_eq.1 h2]
end
section
variable {P:Program} {Q:Exit → Act → World → Prop} {a0:Act} {n:Nat} {K:List (Nat × Value)}
theorem rgL {id:Nat} {l:List Oper} {w0:World} (efs:List Nat) (hk:Fr a0 n K) (hseq:bb P l.toArray (bsL l.toArray) dpL a0 Q (Fin Q l a0) (lY efs l.length 0) (vof []) w0)
    (hdst:fR l.toArray = true:=by kernel_rfl) (hroom:dy l.toArray n = true:=by kernel_rfl) (hok:okL l.length (lY efs l.length 0) 0 = true:=by kernel_rfl):(Code.region id l.toArray false).wp P Q a0 w0:=fO efs hk.size hseq hdst hroom hok
theorem sg {P:Program} {Q:Exit → Act → World → Prop} {a0:Act} {n:Nat} {K:List (Nat × Value)} {id:Nat} {l:List Oper} {y:Code} {w0:World} (efs:List Nat) (hk:Fr a0 n K) (h:bb P l.toArray (bsL l.toArray) dpL a0 (Exit.then (y.wp P Q) Q) (Fin (Exit.then (y.wp P Q) Q) l a0) (lY efs l.length 0) (vof []) w0)
 (hdst:fR l.toArray = true:=by kernel_rfl) (hroom:dy l.toArray n = true:=by kernel_rfl) (hok:okL l.length (lY efs l.length 0) 0 = true:=by kernel_rfl):(Code.seq (Code.region id l.toArray false) y).wp P Q a0 w0:=wp_seq (rgL efs hk h hdst hroom hok)
theorem rgR {id:Nat} {d:Bool} {l:List Oper} {w0:World} {κ:Kap} {L I:List Atom} (tab:List (List Nat)) (ef:List Nat) (pl:Plan) (hk:Fr a0 n K) (hS:S κ L I w0)
    (hseq:∀ w1,S κ L I w1 → Below w0.heap.size w0 w1 → bb P l.toArray (cZ .any l.toArray) (Region.waitsFor .any l.toArray) a0 Q (Fin Q l a0) pl (vof []) w1)
    (hm:P.follows .mixedOrders = true:=by kernel_rfl) (hback:ge .any l.toArray = true:=by kernel_rfl) (hdst:fR l.toArray = true:=by kernel_rfl) (hroom:dy l.toArray n = true:=by kernel_rfl)
    (htab:ph l.toArray tab = true:=by kernel_rfl) (hok:okP l.toArray tab ef pl false [] [] [] [] = true:=by kernel_rfl):(Code.region id l.toArray d).wp P Q a0 w0:=
  AI tab ef pl hk.size (fun w1 hb=>hseq w1 (hS.below hb) hb) hm hback hdst hroom htab hok
end
section
variable {P:Program} {l:List Oper} {bs dp:Nat → Nat → Bool} {a0:Act} {Q:Exit → Act → World → Prop} {Qf:(Nat → Value) → World → Prop} {p q:Plan} {m:List (Nat × Value)} {i:Nat} {w:World}
theorem rD (v:Value) (h:ROK P l.toArray bs dp a0 Q (vof m) i v w) (k:bb P l.toArray bs dp a0 Q Qf p (vof ((i,v)::m)) w):bb P l.toArray bs dp a0 Q Qf (.rd i p) (vof m) w:=⟨v,h,by rw [kH];exact k⟩
theorem aG (h:ROK P l.toArray bs dp a0 Q (vof m) i (vof m i) w) (k:bb P l.toArray bs dp a0 Q Qf p (vof m) w):bb P l.toArray bs dp a0 Q Qf (.ag i p) (vof m) w:=⟨h,k⟩
theorem eF (h:match l.toArray[i]? with
      | some o=>∀ a,AtV l.toArray bs dp a0 (vof m) i a → if Region.wanted o (yielded l.toArray a.tmps) = true then o.wp P a w (fun a' w'=>∃ v,a' = a.put o.dst v∧bb P l.toArray bs dp a0 Q Qf p (vof ((i,v)::m)) w') Q else bb P l.toArray bs dp a0 Q Qf p (vof ((i,undef)::m)) w
      | none=>True):bb P l.toArray bs dp a0 Q Qf (.ef i p .non) (vof m) w:=by
  refine ⟨?_,True.intro⟩
  simp only [kH]
  exact h
theorem efk (h:bb P l.toArray bs dp a0 Q Qf (.ef i p .non) (vof m) w) (k:bb P l.toArray bs dp a0 Q Qf q (vof m) w):bb P l.toArray bs dp a0 Q Qf (.ef i p q) (vof m) w:=⟨h.1,k⟩
def zW:List Nat → List (Nat × Value) → List (Nat × Value)
  | [],m=>m
  | i::l,m=>zW l ((i,undef)::m)
theorem nT:∀ (l:List Nat) (m:List (Nat × Value)),qf l (vof m) = vof (zW l m)
  | [],m=>rfl
  | i::l,m=>by rw [qf,kH];exact nT l _
theorem oF (j d:Nat) (b:Bool) (is:List Nat) (k:bb P l.toArray bs dp a0 Q Qf p (vof (zW is m)) w) (hB:ta l.toArray dp j d b is = true:=by kernel_rfl) (hv:vof m j = .bool (!b) ∨ vof m j = undef:=by first | exact .inl rfl | exact .inr rfl):bb P l.toArray bs dp a0 Q Qf (rds is p) (vof m) w:=
  uF (j:=j) (d:=d) (b:=b) is _ hB hv (by rw [nT];exact k)
theorem oE (j d:Nat) (b:Bool) (k:bb P l.toArray bs dp a0 Q Qf p (vof ((i,undef)::m)) w) (hB:ta l.toArray dp j d b [i] = true:=by kernel_rfl) (hv:vof m j = .bool (!b) ∨ vof m j = undef:=by first | exact .inl rfl | exact .inr rfl):bb P l.toArray bs dp a0 Q Qf (.ef i p .non) (vof m) w:=
  xW (j:=j) (d:=d) (b:=b) hB hv (by rw [kH];exact k)
def nwK (l:List Oper) (m K:List (Nat × Value)):List Nat → Option (List (Nat × Value))
  | []=>some []
  | t::ts=>match (match jOf l 0 t with | some j=>lkV m j | none=>lkV K t) with
    | some v=>(match nwK l m K ts with | some r=>some ((t,v)::r) | none=>none)
    | none=>none
theorem ri {a1:Act} {n:Nat} {K:List (Nat × Value)} (hk:Fr a0 n K) (hp:Put l (vof m) a0 a1):∀ {ts:List Nat} {M:List (Nat × Value)},nwK l m K ts = some M → ∀ s v,lkV M s = some v → a1.tmps.getD s undef = v
  | [],M,e,s,v,h=>by cases e;cases h
  | t::ts,M,e,s,v,h=>by
    unfold nwK at e
    cases h1:(match jOf l 0 t with | some j=>lkV m j | none=>lkV K t) with
    | none=>rw [h1] at e;cases e
    | some u=>
      rw [h1] at e
      dsimp only at e
      cases h2:nwK l m K ts with
      | none=>rw [h2] at e;cases e
      | some r=>
        rw [h2] at e
        cases e
        unfold lkV at h
        cases hb:Nat.beq s t with
        | false=>rw [hb] at h;exact ri hk hp h2 s v h
        | true=>
          rw [hb] at h
          cases h
          have:=Nat.eq_of_beq_eq_true hb
          subst this
          cases hj:jOf l 0 s with
          | none=>rw [hj] at h1;exact (hp.old s (nb hj)).trans (hk.slot s _ h1)
          | some j=>
            rw [hj] at h1
            rw [hp.new j s (by have:=(kf hj).2;rwa [Nat.sub_zero] at this),kI h1]
theorem rE {n:Nat} {K M:List (Nat × Value)} {C:Act → Prop} (live:List Nat) (hk:Fr a0 n K) (k:∀ a1,Fr a1 n M → C a1) (e:nwK l m K live = some M:=by rfl)
    (h:∀ a1,C a1 → Q .normal a1 w:=by intro a1_ h_;first | (change Code.wp _ _ _ _ _;exact h_) | exact h_):bb P l.toArray bs dp a0 Q (Fin Q l a0) .fin (vof m) w:=
  fun a1 hp=>h a1 (k a1 ⟨hp.size.trans hk.size,hp.defers.trans hk.dfr,ri hk hp e⟩)
end
def Ac (l:List Oper) (vs:Nat → Value) (K:List (Nat × Value)):List (Nat × Value) → Prop
  | []=>True
  | (s,v)::r=>(match jOf l 0 s with | some j=>vs j = v | none=>lkV K s = some v)∧Ac l vs K r
theorem oV {l:List Oper} {vs:Nat → Value} {K:List (Nat × Value)} {a0 a1:Act} {n:Nat} (hk:Fr a0 n K) (hp:Put l vs a0 a1):∀ {M:List (Nat × Value)},Ac l vs K M → ∀ s v,lkV M s = some v → a1.tmps.getD s undef = v
  | [],_,s,v,h=>by cases h
  | (t,u)::M,hC,s,v,h=>by
    unfold lkV at h
    cases hb:Nat.beq s t with
    | false=>rw [hb] at h;exact oV hk hp hC.2 s v h
    | true=>
      rw [hb] at h
      cases h
      have:=Nat.eq_of_beq_eq_true hb
      subst this
      have h1:=hC.1
      cases hj:jOf l 0 s with
      | none=>rw [hj] at h1;exact (hp.old s (nb hj)).trans (hk.slot s _ h1)
      | some j=>
        rw [hj] at h1
        rw [hp.new j s (by have:=(kf hj).2;rwa [Nat.sub_zero] at this)]
        exact h1
theorem Fr.put {l:List Oper} {vs:Nat → Value} {K M:List (Nat × Value)} {a0 a1:Act} {n:Nat} (hk:Fr a0 n K) (hp:Put l vs a0 a1) (h:Ac l vs K M:=by repeat' (first | exact True.intro | refine And.intro rfl ?_)):Fr a1 n M:=⟨hp.size.trans hk.size,hp.defers.trans hk.dfr,oV hk hp h⟩
def AL (op:BinOp) (p q:Int):Option Value:=match op with
  | .lss=>some (.bool (decide (p < q)))
  | .leq=>some (.bool (decide (p ≤ q)))
  | .gtr=>some (.bool (decide (q < p)))
  | .geq=>some (.bool (decide (q ≤ p)))
  | .eql=>some (.bool (decide (p = q)))
  | .neq=>some (.bool (decide (p ≠ q)))
  | _=>none
theorem rH {P:Program} {o:Oper} {a:Act} {w:World} {x y:Operand} {t t':TypeId} {op:BinOp} {k:IntKind} {p q:Int} {v:Value} (ho:o.op = .binOp op t x y t') (hx:a.eval x = .int k p) (hy:a.eval y = .int k q) (e:AL op p q = some v:=by rfl):(execOp a.eval o).run P w = .ok (.value v) w:=by
  cases op <;> first | (cases e;done) | (cases e;cases k <;> exact ky ho hx hy rfl (by first | rfl | exact mx _ _ | exact pE _ _ | simp))
def yU (n:Nat):Option Nat:=match n with
  | 0=>some 0
  | 1=>some 1
  | 2=>some 2
  | 3=>some 3
  | 4=>some 4
  | 5=>some 5
  | 6=>some 6
  | 7=>some 7
  | 8=>some 8
  | 9=>some 9
  | 10=>some 10
  | 11=>some 11
  | 12=>some 12
  | 13=>some 13
  | 14=>some 14
  | 15=>some 15
  | 16=>some 16
  | 17=>some 17
  | 18=>some 18
  | 19=>some 19
  | 20=>some 20
  | 21=>some 21
  | 22=>some 22
  | 23=>some 23
  | 24=>some 24
  | 25=>some 25
  | 26=>some 26
  | 27=>some 27
  | 28=>some 28
  | 29=>some 29
  | 30=>some 30
  | 31=>some 31
  | 32=>some 32
  | 33=>some 33
  | 34=>some 34
  | 35=>some 35
  | 36=>some 36
  | 37=>some 37
  | 38=>some 38
  | 39=>some 39
  | _=>none
theorem uj {n m:Nat} (h:yU n = some m):n = m:=by
  unfold yU at h
  split at h <;> cases h <;> rfl
def qN (P:Program) (s:TypeId) (f:Nat):Option Nat:=match ik P s f with | some n=>yU n | none=>none
theorem mT {P:Program} {s:TypeId} {f m:Nat} (h:qN P s f = some m):ik P s f = some m:=by
  unfold qN at h
  split at h
  · rename_i n h1;rw [h1,uj h]
  · cases h
theorem rK {P:Program} {o:Oper} {a:Act} {w:World} {x:Operand} {s:TypeId} {f g k m n:Nat} (ho:o.op = .fieldAddr s x f) (hx:a.eval x = .pointer (some ⟨g,k,none⟩)) (hf:qN P s f = some m:=by rfl) (hn:yU (k + m) = some n:=by rfl):(execOp a.eval o).run P w = .ok (.value (.pointer (some ⟨g,n,none⟩))) w:=eK ho hx (mT hf) (uj hn)
theorem rL {P:Program} {o:Oper} {a:Act} {w:World} {x:Operand} {s:TypeId} {f g k m:Nat} (ho:o.op = .fieldAddr s x f) (hx:a.eval x = .pointer (some ⟨g,k,none⟩)) (hf:qN P s f = some m:=by rfl):(execOp a.eval o).run P w = .ok (.value (.pointer (some ⟨g,k + m,none⟩))) w:=eK ho hx (mT hf) rfl
theorem rJ {P:Program} {o:Oper} {a:Act} {w:World} {x:Operand} {s:TypeId} {f g k:Nat} (ho:o.op = .fieldAddr s x f) (hx:a.eval x = .pointer (some ⟨g,k,none⟩)) (hf:qN P s f = some 0:=by rfl):(execOp a.eval o).run P w = .ok (.value (.pointer (some ⟨g,k,none⟩))) w:=eK ho hx (mT hf) rfl
def jh {α:Type}:List α → Nat → Option α
  | [],_=>none
  | a::_,0=>some a
  | _::l,n + 1=>jh l n
theorem d9 {α:Type}:∀ (l:List α) (n:Nat),jh l n = l[n]?
  | [],n=>by cases n <;> rfl
  | a::l,0=>rfl
  | a::l,n + 1=>by rw [jh,d9 l n,List.getElem?_cons_succ]
def Ax:Array Value → Nat → Option Value
  | ⟨l⟩,n=>jh l n
theorem yW (cs:Array Value) (n:Nat):Ax cs n = cs[n]?:=by
  obtain ⟨l⟩:=cs
  show jh l n = _
  rw [d9];simp
def AK:Value → Nat → Option Value
  | .tuple ⟨l⟩,n=>jh l n
  | _,_=>none
theorem uy {P:Program} {o:Oper} {a:Act} {w:World} {x:Operand} {k:Nat} {u v:Value} (ho:o.op = .extract x k) (hx:a.eval x = u) (hv:AK u k = some v:=by rfl):(execOp a.eval o).run P w = .ok (.value v) w:=by
  cases u with
  | tuple vs=>
    obtain ⟨l⟩:=vs
    exact rI ho hx (by rw [show AK (.tuple ⟨l⟩) k = jh l k from rfl,d9] at hv;simpa using hv)
  | _=>cases hv
def AF:Value → Value → Value → Option Value
  | .bool true,x,_=>some x
  | .bool false,_,y=>some y
  | _,_,_=>none
theorem uC {P:Program} {o:Oper} {a:Act} {w:World} {c x y:Operand} {b u u' v:Value} (ho:o.op = .pick c x y) (hc:a.eval c = b) (hx:a.eval x = u) (hy:a.eval y = u') (hv:AF b u u' = some v:=by rfl):(execOp a.eval o).run P w = .ok (.value v) w:=by
  cases b with
  | bool b=>
    cases b
    · cases hv;exact jS ho hc hy
    · cases hv;exact jT ho hc hx
  | _=>cases hv
section
variable {P:Program} {l:List Oper} {bs dp:Nat → Nat → Bool} {a0:Act} {Q:Exit → Act → World → Prop} {Qf:(Nat → Value) → World → Prop} {p q:Plan} {m:List (Nat × Value)} {i:Nat} {w:World} {v:Value}
theorem T (k:bb P l.toArray bs dp a0 Q Qf p (vof ((i,v)::m)) w) (h:ROK P l.toArray bs dp a0 Q (vof m) i v w:=by
    refine fun _ h_=>?_
    first
      | exact bL (aQ h_ (by kernel_rfl)) (aO rfl (h_.x hk))
      | exact bL (aQ h_ (by kernel_rfl)) (bU rfl (h_.x hk))
      | exact bL (aQ h_ (by kernel_rfl)) (rK rfl (h_.x hk))
      | exact bL (aQ h_ (by kernel_rfl)) (rJ rfl (h_.x hk))
      | exact bL (aQ h_ (by kernel_rfl)) (rL rfl (h_.x hk))
      | exact bL (aQ h_ (by kernel_rfl)) (rH rfl (h_.x hk) (h_.x hk))
      | exact bL (aQ h_ (by kernel_rfl)) (kA rfl (h_.x hk))
      | exact bL (aQ h_ (by kernel_rfl)) (nO rfl (h_.x hk) (by kernel_rfl))
      | exact bL (aQ h_ (by kernel_rfl)) (uy rfl (h_.x hk))
      | exact bL (aQ h_ (by kernel_rfl)) (uB rfl (h_.x hk) rfl)
      | exact bL (aQ h_ (by kernel_rfl)) (uC rfl (h_.x hk) (h_.x hk) (h_.x hk))
      | exact bL (aQ h_ (by kernel_rfl)) (kB rfl (h_.x hk) (h_.x hk) (h_.x hk))
      | exact bL (aQ h_ (by kernel_rfl)) (l8 rfl (h_.x hk) (h_.x hk) (h_.x hk))):bb P l.toArray bs dp a0 Q Qf (.rd i p) (vof m) w:=rD v h k
theorem TA (k:bb P l.toArray bs dp a0 Q Qf p (vof m) w) (h:ROK P l.toArray bs dp a0 Q (vof m) i (vof m i) w:=by
    refine fun _ h_=>?_
    first
      | exact bL (aQ h_ (by kernel_rfl)) (aO rfl (h_.x hk))
      | exact bL (aQ h_ (by kernel_rfl)) (bU rfl (h_.x hk))
      | exact bL (aQ h_ (by kernel_rfl)) (rK rfl (h_.x hk))
      | exact bL (aQ h_ (by kernel_rfl)) (rJ rfl (h_.x hk))
      | exact bL (aQ h_ (by kernel_rfl)) (rL rfl (h_.x hk))
      | exact bL (aQ h_ (by kernel_rfl)) (rH rfl (h_.x hk) (h_.x hk))
      | exact bL (aQ h_ (by kernel_rfl)) (kA rfl (h_.x hk))
      | exact bL (aQ h_ (by kernel_rfl)) (nO rfl (h_.x hk) (by kernel_rfl))
      | exact bL (aQ h_ (by kernel_rfl)) (uy rfl (h_.x hk))
      | exact bL (aQ h_ (by kernel_rfl)) (uB rfl (h_.x hk) rfl)
      | exact bL (aQ h_ (by kernel_rfl)) (uC rfl (h_.x hk) (h_.x hk) (h_.x hk))
      | exact bL (aQ h_ (by kernel_rfl)) (kB rfl (h_.x hk) (h_.x hk) (h_.x hk))
      | exact bL (aQ h_ (by kernel_rfl)) (l8 rfl (h_.x hk) (h_.x hk) (h_.x hk))):bb P l.toArray bs dp a0 Q Qf (.ag i p) (vof m) w:=aG h k
end
section
variable {P:Program} {l:List Oper} {bs dp:Nat → Nat → Bool} {a0:Act} {Q:Exit → Act → World → Prop} {Qf:(Nat → Value) → World → Prop} {p q:Plan} {m K:List (Nat × Value)} {i n:Nat} {w:World} {v u:Value} {κ:Kap} {L I:List Atom} {o:Oper}
def qB {α:Type}:List α → Nat → Nat → Option (List α)
  | l,_,0=>some []
  | [],_,_ + 1=>none
  | _::l,k + 1,n + 1=>qB l k (n + 1)
  | a::l,0,n + 1=>match qB l 0 n with | some r=>some (a::r) | none=>none
theorem pC {α:Type}:∀ (l:List α) (k n:Nat) {r:List α},qB l k n = some r → (l.drop k).take n = r∧r.length = n
  | l,k,0,r,h=>by
    have:qB l k 0 = some []:=by cases l <;> cases k <;> rfl
    rw [this] at h;cases h;simp
  | [],k,n + 1,r,h=>by cases k <;> simp [qB] at h
  | a::l,k + 1,n + 1,r,h=>by
    unfold qB at h
    obtain ⟨h1,h2⟩:=pC l k (n + 1) h
    exact ⟨by simpa using h1,h2⟩
  | a::l,0,n + 1,r,h=>by
    unfold qB at h
    split at h
    · rename_i r' h'
      cases h
      obtain ⟨h1,h2⟩:=pC l 0 n h'
      rw [List.drop_zero] at h1
      exact ⟨by simp [h1],by simp [h2]⟩
    · cases h
def Aq:Array Value → Nat → Nat → Option (List Value)
  | ⟨l⟩,k,n=>qB l k n
theorem LD (j:Nat) (hk:Fr a0 n K) (hS:S κ L I w) (k:bb P l.toArray bs dp a0 Q Qf p (vof ((i,v)::m)) w) {t g c T:Nat} {x:Operand} {cs:Array Value}
    (ho:l.toArray[i]? = some o:=by rfl) (hop:o.op = .load t x:=by rfl) (hx:opV l m K x = some (.pointer (some ⟨g,c,none⟩)):=by rfl) (hi:jh L j = some (ai g T cs):=by rfl) (hv:Ax cs c = some v:=by rfl)
    (hf:jA P t = true:=by kernel_rfl) (cx:opC l bs dp m i x = true:=by kernel_rfl) (hg:f7 l dp m i o = true:=by kernel_rfl):bb P l.toArray bs dp a0 Q Qf (.rd i p) (vof m) w:=by
  refine rD v ?_ k
  unfold ROK
  rw [ho]
  exact fun a h_=>bL (aQ h_ hg) (ld hS j hop (h_.x hk hx cx) (by rw [← d9];exact hi) (by rw [← yW];exact hv) hf)
theorem LDS (j N:Nat) (hk:Fr a0 n K) (hS:S κ L I w) {out:List Value} (k:bb P l.toArray bs dp a0 Q Qf p (vof ((i,.agg out.toArray)::m)) w) {t g c T:Nat} {x:Operand} {cs:Array Value}
    (ho:l.toArray[i]? = some o:=by rfl) (hop:o.op = .load t x:=by rfl) (hx:opV l m K x = some (.pointer (some ⟨g,c,none⟩)):=by rfl) (hi:jh L j = some (ai g T cs):=by rfl) (hv:Aq cs c N = some out:=by rfl)
    (hf:hE P t N = true:=by kernel_rfl) (cx:opC l bs dp m i x = true:=by kernel_rfl) (hg:f7 l dp m i o = true:=by kernel_rfl):bb P l.toArray bs dp a0 Q Qf (.rd i p) (vof m) w:=by
  refine rD _ ?_ k
  unfold ROK
  rw [ho]
  obtain ⟨cl⟩:=cs
  obtain ⟨h1,h2⟩:=pC cl c N hv
  exact fun a h_=>bL (aQ h_ hg) (lbS N (hS.blk (by rw [← d9];exact hi)) hop (h_.x hk hx cx) h1 h2 hf)
theorem eA (cells:Array Value) (hS:S κ L I w) {t:Nat} (k:∀ g w',S κ (ai g t cells::L) I w' → Below w.heap.size w w' → bb P l.toArray bs dp a0 Q Qf p (vof ((i,pt g 0)::m)) w')
    (ho:l.toArray[i]? = some o:=by rfl) (hop:o.op = .alloc t:=by rfl) (hz:gB P t = some cells:=by kernel_rfl) (hg:f7 l dp m i o = true:=by kernel_rfl):bb P l.toArray bs dp a0 Q Qf (.ef i p .non) (vof m) w:=by
  refine eF ?_
  rw [ho]
  exact fun a h_=>ya hS (aQ h_ hg) hop hz fun g w' hS hb=>⟨_,rfl,k g w' hS hb⟩
def pA:Value → Option (List Value)
  | .agg ⟨l⟩=>some l
  | v=>some [v]
theorem kR {v:Value} {c:List Value} (h:pA v = some c):v.cells = c.toArray:=by
  cases v with
  | agg cs=>obtain ⟨l⟩:=cs;cases h;rfl
  | _=>cases h;rfl
theorem eB (hk:Fr a0 n K) (hS:S κ L I w) {t:Nat} {x:Operand} {cells:List Value} (k:∀ g w',S κ (ai g t cells.toArray::L) I w' → Below w.heap.size w w' → bb P l.toArray bs dp a0 Q Qf p (vof ((i,pt g 0)::m)) w')
    (ho:l.toArray[i]? = some o:=by rfl) (hop:o.op = .box t x:=by rfl) (hx:opV l m K x = some u:=by rfl) (hc:pA u = some cells:=by rfl) (cx:opC l bs dp m i x = true:=by kernel_rfl) (hg:f7 l dp m i o = true:=by kernel_rfl):bb P l.toArray bs dp a0 Q Qf (.ef i p .non) (vof m) w:=by
  refine eF ?_
  rw [ho]
  exact fun a h_=>Aj hS (aQ h_ hg) hop (h_.x hk hx cx) (kR hc) fun g w' hS hb=>⟨_,rfl,k g w' hS hb⟩
def pK {α:Type}:List α → Nat → List α → Option (List α)
  | l,_,[]=>some l
  | [],_,_::_=>none
  | a::l,k + 1,cs=>match pK l k cs with | some r=>some (a::r) | none=>none
  | _::l,0,c::cs=>match pK l 0 cs with | some r=>some (c::r) | none=>none
theorem pL:∀ (l:List Value) (k:Nat) (cs:List Value) {r:List Value},pK l k cs = some r → cs ≠ [] → f9 l k cs = r∧k + cs.length ≤ l.length
  | l,k,[],r,h,hn=>absurd rfl hn
  | [],k,c::cs,r,h,_=>by cases k <;> simp [pK] at h
  | a::l,k + 1,c::cs,r,h,hn=>by
    unfold pK at h
    split at h
    · rename_i r' h'
      cases h
      obtain ⟨h1,h2⟩:=pL l k (c::cs) h' hn
      refine ⟨?_,by simp at h2 ⊢;omega⟩
      rw [← h1];unfold f9
      rw [show k + 1 + (c::cs).length = (k + (c::cs).length) + 1 by omega]
      simp
    · cases h
  | a::l,0,[c],r,h,hn=>by
    unfold pK at h
    have:pK l 0 [] = some l:=by cases l <;> rfl
    rw [this] at h
    cases h
    exact ⟨by simp [f9],by simp⟩
  | a::l,0,c::d::cs,r,h,hn=>by
    unfold pK at h
    split at h
    · rename_i r' h'
      cases h
      obtain ⟨h1,h2⟩:=pL l 0 (d::cs) h' (by simp)
      refine ⟨?_,by simp at h2 ⊢;omega⟩
      rw [← h1];unfold f9
      rw [show 0 + (c::d::cs).length = (0 + (d::cs).length) + 1 by simp]
      simp
    · cases h
def nzO {α:Type}:Nat → List α → Option (List α)
  | 0,l=>some l
  | _ + 1,[]=>some []
  | n + 1,a::l=>match nzO n l with | some r=>some (a::r) | none=>none
theorem s9 {α:Type}:∀ (n:Nat) (l:List α) {r:List α},nzO n l = some r → l = r
  | 0,l,r,h=>by unfold nzO at h;cases h;rfl
  | n + 1,[],r,h=>by unfold nzO at h;cases h;rfl
  | n + 1,a::l,r,h=>by
    unfold nzO at h
    split at h
    · rename_i r' h'
      cases h
      rw [s9 n l h']
    · cases h
theorem S.nz {M:List Atom} (h:S κ L I w) (n:Nat) (e:nzO n L = some M:=by rfl):S κ M I w:=s9 n L e ▸ h
def vT {α:Type}:List α → Nat → Option (α × List α)
  | [],_=>none
  | a::l,0=>some (a,l)
  | a::l,n + 1=>match vT l n with | some (b,r)=>some (b,a::r) | none=>none
theorem p7 {α:Type}:∀ (l:List α) (n:Nat) {b:α} {r:List α},vT l n = some (b,r) → l[n]? = some b∧l.eraseIdx n = r
  | [],n,b,r,h=>by cases n <;> cases h
  | a::l,0,b,r,h=>by unfold vT at h;cases h;exact ⟨rfl,rfl⟩
  | a::l,n + 1,b,r,h=>by
    unfold vT at h
    split at h
    · rename_i b' r' h'
      cases h
      obtain ⟨h1,h2⟩:=p7 l n h'
      exact ⟨by simpa using h1,by simp [h2]⟩
    · cases h
theorem S.fr {M:List Atom} {b:Atom} (h:S κ L I w) (n:Nat) (e:vT L n = some (b,M):=by rfl):S κ (b::M) I w:=by
  obtain ⟨h1,h2⟩:=p7 L n e
  rw [← h2];exact h.front h1
def xX {α:Type}:List α → Nat → α → Option (List α)
  | [],_,_=>none
  | _::l,0,b=>some (b::l)
  | a::l,n + 1,b=>match xX l n b with | some r=>some (a::r) | none=>none
theorem uG {α:Type}:∀ (l:List α) (n:Nat) (b:α) {r:List α},xX l n b = some r → l.set n b = r
  | [],n,b,r,h=>by cases n <;> cases h
  | a::l,0,b,r,h=>by unfold xX at h;cases h;rfl
  | a::l,n + 1,b,r,h=>by
    unfold xX at h
    split at h
    · rename_i r' h'
      cases h
      rw [List.set_cons_succ,uG l n b h']
    · cases h
theorem eS (j:Nat) (hk:Fr a0 n K) (hS:S κ L I w) {t g c T:Nat} {x y:Operand} {cl cs cells:List Value} {M:List Atom} (k:∀ w',S κ M I w' → w' = w.setRow g cs.toArray → bb P l.toArray bs dp a0 Q Qf p (vof ((i,undef)::m)) w')
    (ho:l.toArray[i]? = some o:=by rfl) (hop:o.op = .store t x y:=by rfl) (hx:opV l m K x = some (.pointer (some ⟨g,c,none⟩)):=by rfl) (hi:jh L j = some (ai g T cl.toArray):=by rfl)
    (hy:opV l m K y = some u:=by rfl) (hc:pA u = some cells:=by rfl) (hcs:pK cl c cells = some cs:=by rfl) (hM:xX L j (ai g T cs.toArray) = some M:=by rfl)
    (hsz:(P.info? t).map (·.size) = some cells.length:=by kernel_rfl) (h1:(!cells.isEmpty && cells.all (·.oneCell')) = true:=by kernel_rfl)
    (cx:opC l bs dp m i x = true:=by kernel_rfl) (cy:opC l bs dp m i y = true:=by kernel_rfl) (hg:f7 l dp m i o = true:=by kernel_rfl):bb P l.toArray bs dp a0 Q Qf (.ef i p .non) (vof m) w:=by
  simp only [Bool.and_eq_true,Bool.not_eq_true',List.isEmpty_eq_false_iff] at h1
  obtain ⟨h3,h4⟩:=pL cl c cells hcs h1.1
  refine eF ?_
  rw [ho]
  refine fun a h_=>rT (n:=cells.length) j hS (by rw [← d9];exact hi) (aQ h_ hg) hop (h_.x hk hx cx) (h_.x hk hy cy) (kR hc) hsz ⟨by simpa using h4,by simp,by simpa using h1.2⟩ (by rw [← h3]) fun w' hS' he=>⟨_,rfl,k w' ?_ he⟩
  rw [uG L j _ hM] at hS'
  exact hS'
theorem eC (hk:Fr a0 n K) {f:FuncId} {xs:List Operand} {ts:Array TypeId} {args:List Value} {R:Ending → World → Prop}
    (ho:l.toArray[i]? = some o:=by rfl) (hop:o.op = .call { callee:=.value (.func f),args:=xs.toArray,argTypes:=ts }:=by rfl) (ha:rj l m K xs = some args:=by rfl) (ca:n5 l bs dp m i xs = true:=by kernel_rfl) (hg:f7 l dp m i o = true:=by kernel_rfl)
    (h:Calls P f args.toArray w R) (k:∀ e w',R e w' → ∃ v,e = .returned v∧bb P l.toArray bs dp a0 Q Qf p (vof ((i,v)::m)) w') (hf:(callFunc f args.toArray).run P w = .ok (.enter f args.toArray) w:=by rfl):bb P l.toArray bs dp a0 Q Qf (.ef i p .non) (vof m) w:=by
  refine eF ?_
  rw [ho]
  refine fun a h_=>qd (aQ h_ hg) (ec hop (by rw [List.map_toArray,h_.xs hk ha ca]) hf) h fun e w' he=>?_
  obtain ⟨v,rfl,hv⟩:=k e w' he
  exact ⟨v,rfl,v,rfl,hv⟩
theorem eV (hk:Fr a0 n K) {f:FuncId} {x:Operand} {xs:List Operand} {ts:Array TypeId} {args:List Value} {first cap full:Array Value} {R:Ending → World → Prop}
    (ho:l.toArray[i]? = some o:=by rfl) (hop:o.op = .call { callee:=.value x,args:=xs.toArray,argTypes:=ts }:=by rfl) (hx:opV l m K x = some (.func (.func f) first cap):=by rfl) (ha:rj l m K xs = some args:=by rfl) (cx:opC l bs dp m i x = true:=by kernel_rfl) (ca:n5 l bs dp m i xs = true:=by kernel_rfl) (hg:f7 l dp m i o = true:=by kernel_rfl)
    (h:Calls P f full w R) (k:∀ e w',R e w' → ∃ v,e = .returned v∧bb P l.toArray bs dp a0 Q Qf p (vof ((i,v)::m)) w') (hl:first ++ args.toArray ++ cap = full:=by rfl) (hf:(callFunc f full).run P w = .ok (.enter f full) w:=by rfl):bb P l.toArray bs dp a0 Q Qf (.ef i p .non) (vof m) w:=by
  refine eF ?_
  rw [ho]
  refine fun a h_=>qd (aQ h_ hg) (vX hop (h_.x hk hx cx) (by rw [List.map_toArray,h_.xs hk ha ca]) hl hf) h fun e w' he=>?_
  obtain ⟨v,rfl,hv⟩:=k e w' he
  exact ⟨v,rfl,v,rfl,hv⟩
theorem eCb (hk:Fr a0 n K) (hS:S κ L I w) {f:FuncId} {xs:List Operand} {ts:Array TypeId} {args:List Value}
    (ho:l.toArray[i]? = some o:=by rfl) (hop:o.op = .call { callee:=.value (.func f),args:=xs.toArray,argTypes:=ts }:=by rfl) (ha:rj l m K xs = some args:=by rfl) (ca:n5 l bs dp m i xs = true:=by kernel_rfl) (hg:f7 l dp m i o = true:=by kernel_rfl)
    (h:Calls P f args.toArray w fun r w'=>r = .returned v∧Below w.heap.size w w') (k:∀ w',S κ L I w' → Below w.heap.size w w' → bb P l.toArray bs dp a0 Q Qf p (vof ((i,v)::m)) w') (hf:(callFunc f args.toArray).run P w = .ok (.enter f args.toArray) w:=by rfl):bb P l.toArray bs dp a0 Q Qf (.ef i p .non) (vof m) w:=
  eC hk ho hop ha ca hg h (fun e w' ⟨he,hb⟩=>⟨v,he,k w' (hS.below hb) hb⟩) hf
end
def opK (K:List (Nat × Value)):Operand → Option Value
  | .tmp s=>lkV K s
  | .const v=>some v
  | _=>none
theorem jN {a:Act} {n:Nat} {K:List (Nat × Value)} (hk:Fr a n K) {c:Operand} {v:Value} (e:opK K c = some v):a.eval c = v:=by
  cases c with
  | tmp s=>exact hk.slot s v e
  | const u=>exact Option.some.inj e
  | func f=>cases e
  | global g=>cases e
section
variable {P:Program} {Q:Exit → Act → World → Prop} {a:Act} {w:World} {c:Operand} {x y:Code} {n:Nat} {K:List (Nat × Value)}
theorem cB {b:Bool} (hk:Fr a n K) (h1:b = true → x.wp P Q a w) (h2:b = false → y.wp P Q a w) (e:opK K c = some (.bool b):=by rfl):(Code.cond c x y).wp P Q a w:=lG (jN hk e) h1 h2
theorem cD {p:Prop} {_:Decidable p} (hk:Fr a n K) (h1:p → x.wp P Q a w) (h2:¬ p → y.wp P Q a w) (e:opK K c = some (.bool (decide p)):=by rfl):(Code.cond c x y).wp P Q a w:=jf (jN hk e) h1 h2
theorem cN {p:Prop} {_:Decidable p} (hk:Fr a n K) (h1:¬ p → x.wp P Q a w) (h2:p → y.wp P Q a w) (e:opK K c = some (.bool (!(decide p))):=by rfl):(Code.cond c x y).wp P Q a w:=wv (jN hk e) h1 h2
theorem cT (hk:Fr a n K) (h:x.wp P Q a w) (e:opK K c = some (.bool true):=by rfl):(Code.cond c x y).wp P Q a w:=wp_cond_true (jN hk e) h
theorem cF (hk:Fr a n K) (h:y.wp P Q a w) (e:opK K c = some (.bool false):=by rfl):(Code.cond c x y).wp P Q a w:=wp_cond_false (jN hk e) h
end
def xz:Nat → List Value → Option (List (Nat × Value))
  | _,[]=>some []
  | k,v::l=>match xz (k + 1) l with | some r=>some ((k,v)::r) | none=>none
theorem oQ:∀ (k:Nat) (l:List Value) {M:List (Nat × Value)},xz k l = some M → ∀ s v,lkV M s = some v → k ≤ s∧l[s - k]? = some v
  | k,[],M,e,s,v,h=>by unfold xz at e;cases e;cases h
  | k,u::l,M,e,s,v,h=>by
    unfold xz at e
    split at e
    · rename_i r h'
      cases e
      unfold lkV at h
      cases hb:Nat.beq s k with
      | true=>
        rw [hb] at h;cases h
        have:=Nat.eq_of_beq_eq_true hb
        subst this
        simp
      | false=>
        rw [hb] at h
        obtain ⟨h1,h2⟩:=oQ (k + 1) l h' s v h
        refine ⟨by omega,?_⟩
        rw [show s - k = (s - (k + 1)) + 1 by omega,List.getElem?_cons_succ]
        exact h2
    · cases e
theorem wK {P:Program} {f:FuncId} {fn:Func} {c:Code} {args:List Value} {W:World} {R0:Ending → World → Prop} {K:List (Nat × Value)} (n:Nat) (hf:P.funcs[f]? = some fn)
    (h:∀ (R:Ending → World → Prop),(∀ v w,R0 (.returned v) w → R (.returned v) w) → ∀ a:Act,Fr a n K → c.wp P (bodyPost P fn R) a W) (hb:fn.body = some c:=by rfl) (hK:xz 0 args = some K:=by rfl) (hn:args.toArray.size + (fn.ntmps - args.toArray.size) = n:=by kernel_rfl):Calls P f args.toArray W R0:=
  jz hf hb fun R hR a hz hd ha=>h R hR a ⟨hz.trans hn,hd,fun s v hs=>ha s v (by
    obtain ⟨_,h2⟩:=oQ 0 args hK s v hs
    rw [Nat.sub_zero] at h2
    simpa using h2)⟩
section
variable {P:Program} {fn:Func} {R:Ending → World → Prop} {a:Act} {w:World} {u v:Value} {t t2 n:Nat} {K:List (Nat × Value)}
theorem rt0 (hk:Fr a n K) (h:R (.returned (.tuple #[])) w) (hr:fn.results = #[]:=by rfl):bodyPost P fn R .ret a w:=AQ hk.dfr h hr
theorem rt1 (hk:Fr a n K) (h:R (.returned v) w) (hr:fn.results = #[.tmp t]:=by rfl) (e:lkV K t = some v:=by rfl):bodyPost P fn R .ret a w:=Ad hk.dfr (hk.slot t v e) h hr
theorem rt2 (hk:Fr a n K) (h:R (.returned (.tuple #[v,u])) w) (hr:fn.results = #[.tmp t,.tmp t2]:=by rfl) (e:lkV K t = some v:=by rfl) (e2:lkV K t2 = some u:=by rfl):bodyPost P fn R .ret a w:=AR hk.dfr (hk.slot t v e) (hk.slot t2 u e2) h hr
theorem rtC {g T ty:Nat} {cs:Array Value} {d:TypeDesc} (hk:Fr a n K) (hg:Blk w g T cs) (h:R (.returned (.agg cs)) w) (hu:P.underlying ty = some d) (hr:fn.results = #[.cell t ty]:=by rfl) (e:lkV K t = some (pt g 0):=by rfl) (hd:(match d with | .struct _ | .array _ _=>true | _=>false) = true:=by rfl) (hi:(P.info? ty).map (·.size) = some cs.size:=by kernel_rfl):bodyPost P fn R .ret a w:=AS hk.dfr (hk.slot t _ e) hg h hu hr hd hi
theorem gs {g T ty:Nat} {cs:Array Value} {d:TypeDesc} (hk:Fr a n K) (hg:Blk w g T cs) (h:R (.returned (.tuple #[.agg cs,u])) w) (hu:P.underlying ty = some d) (hr:fn.results = #[.cell t ty,.tmp t2]:=by rfl) (e:lkV K t = some (pt g 0):=by rfl) (e2:lkV K t2 = some u:=by rfl) (hd:(match d with | .struct _ | .array _ _=>true | _=>false) = true:=by rfl) (hi:(P.info? ty).map (·.size) = some cs.size:=by kernel_rfl):bodyPost P fn R .ret a w:=AG hk.dfr (hk.slot t _ e) (hk.slot t2 _ e2) hg h hu hr hd hi
end
end
section
def hY {α:Type} (p:α → Bool):List α → Int
  | []=>-1
  | x::l=>if p x then 0 else if hY p l < 0 then -1 else hY p l + 1
theorem oG {α:Type} (p:α → Bool):∀ (l:List α) (k:Nat),l.length ≤ k → (∀ j x,j < k → l[j]? = some x → p x = false) → hY p l = -1
  | [],k,_,_=>rfl
  | y::l,k,hk,h=>by
    have h0:=h 0 y (by simp at hk;omega) rfl
    have:=oG p l (k - 1) (by simp at hk;omega) (fun j x hj hx=>h (j + 1) x (by omega) (by simpa using hx))
    unfold hY
    rw [h0,this];simp
theorem oH {α:Type} (p:α → Bool):∀ (l:List α) (k:Nat) (z:α),(∀ j x,j < k → l[j]? = some x → p x = false) → l[k]? = some z → p z = true → hY p l = k
  | [],k,z,_,h,_=>by simp at h
  | y::l,0,z,h,hz,hp=>by simp at hz;subst hz;unfold hY;rw [hp];simp
  | y::l,k + 1,z,h,hz,hp=>by
    have h0:=h 0 y (by omega) rfl
    have:=oH p l k z (fun j x hj hx=>h (j + 1) x (by omega) (by simpa using hx)) (by simpa using hz) hp
    unfold hY
    rw [h0,this]
    simp
    omega
theorem vz {α:Type} {l:List α} {k:Nat} {z:α} {pr:α → Bool} (h:∀ j x,j < k → l[j]? = some x → pr x = false) (hz:l[k]? = some z) (hp:pr z = false):∀ j x,j < k + 1 → l[j]? = some x → pr x = false:=by
  intro j x hj hx
  rcases Nat.lt_or_ge j k with h1 | h1
  · exact h j x h1 hx
  · obtain rfl:j = k:=by omega
    rw [hz] at hx;cases hx;exact hp
theorem uL {w:World} {B n:Nat} {A:Option Addr} {bs:List Int} (h:Reads w B 1 A n (u8s bs)):bs.length = n:=by have:=h.1;simpa [u8s] using this
theorem Reads.old {W w:World} {size n:Nat} {A:Option Addr} {xs:List Value} (h:Reads W W.heap.size size A n xs) (hb:Below W.heap.size W w):Reads w w.heap.size size A n xs:=(h.below hb).more hb.size
theorem rM {P:Program} {o:Oper} {a:Act} {w:World} {x y:Operand} {ts:Array TypeId} {p q r:Int} (ho:o.op = .call { callee:=.builtin .max,args:=#[x,y],argTypes:=ts }) (hx:a.eval x = .int .i64 p) (hy:a.eval y = .int .i64 q) (hr:(if q > p then q else p) = r):(execOp a.eval o).run P w = .ok (.value (.int .i64 r)) w:=by
  unfold execOp;simp only [ho]
  simp [resolve,invoke,builtin,hx,hy,run_max_int2,hr]
theorem xS {P:Program} {o:Oper} {a:Act} {w:World} {x y:Operand} {ts:Array TypeId} {p q r:Int} (ho:o.op = .call { callee:=.builtin .min,args:=#[x,y],argTypes:=ts }) (hx:a.eval x = .int .i64 p) (hy:a.eval y = .int .i64 q) (hr:(if q < p then q else p) = r):(execOp a.eval o).run P w = .ok (.value (.int .i64 r)) w:=by
  unfold execOp;simp only [ho]
  simp [resolve,invoke,builtin,hx,hy,run_min_int2,hr]
section
variable {P:Program} {o:Oper} {a:Act} {w:World}
theorem eu {x:Operand} {t b m n:Nat} {cs:List Value} (ho:o.op = .load t x) (hx:a.eval x = .pointer (some ⟨b,m,none⟩)) (hT:(match P.underlying t,P.info? t with | some (.array _ _),some i=>i.size == n | _,_=>false) = true) (hn:cs.length = n) (hc:∀ j u,cs[j]? = some u → w.cell? ⟨b,m + j,none⟩ = some u):(execOp a.eval o).run P w = .ok (.value (.agg cs.toArray)) w:=by
  have hl:(loadVar t ⟨b,m,none⟩).run P w = .ok (.agg cs.toArray) w:=by
    split at hT
    · rename_i m e i hu hi
      have hsz:i.size = cs.length:=by rw [hn];simpa using hT
      simp [loadVar,isAgg,underlying,hu,sizeOf,typeInfo,hi,hsz,run_loadCells_list (P:=P) w ⟨b,_,none⟩ cs (fun j v hj=>by
        rw [gf];exact hc j v hj)]
    · cases hT
  unfold execOp;simp only [ho];rw [hx]
  simp [Instr.loadAt,Instr.sureAddr,hl]
end
end
section
theorem oK (l:List Value) (m:Nat) (v:List Value) (h:m + v.length ≤ l.length):(f9 l m v).length = l.length:=by
  unfold f9
  simp only [List.length_append,List.length_take,List.length_drop]
  omega
theorem xv (l:List Value) (m q:Nat) (v:List Value) (h:m + v.length ≤ q) (hq:q ≤ l.length):(f9 l m v).take q = f9 (l.take q) m v:=by
  unfold f9
  rw [List.append_assoc,List.append_assoc,List.take_append,List.take_append,List.length_take,Nat.min_eq_left (show m ≤ l.length by omega),List.take_take,Nat.min_eq_right (show m ≤ q by omega),List.take_take,Nat.min_eq_left (show m ≤ q by omega),List.take_of_length_le (show v.length ≤ q - m by omega),List.drop_take,show q - m - v.length = q - (m + v.length) by omega]
section
variable {P:Program} {ops:Array Oper} {o:Oper} {a:Act} {w:World} {κ:Kap} {L I:List Atom} {K:Act → World → Prop} {Q:Exit → Act → World → Prop} {E:Prop}
theorem dl {x y:Operand} {A:Option Addr} {t g k n c e s m:Nat} {xs:List Value} {u:Value} {cells:Array Value} (i:Nat) (hS:S κ L I w) (hA:A = some ⟨g,0,none⟩) (hi:L[i]? = some (aa (.slice A n c) e s n xs)) (hw:Region.wanted o (yielded ops a.tmps) = true) (ho:o.op = .store t x y) (hx:a.eval x = .pointer (some ⟨g,m,none⟩)) (hm:k * s = m) (hy:a.eval y = u) (hv:u.cells = cells)
    (hsz:(P.info? t).map (·.size) = some s) (hk:k < n) (hc:cells.size = s∧cells.all (·.oneCell') = true)
    (h:∀ w',S κ (L.set i (aa (.slice A n c) e s n (f9 xs m cells.toList))) I w' → K (a.put o.dst undef) w'):if Region.wanted o (yielded ops a.tmps) = true then o.wp P a w K Q else E:=by
  subst hA
  obtain ⟨hlen,hr2⟩:=hS.row hi
  rcases hr2 with ⟨h',_⟩ | ⟨g',cap',cur,h',hb,hg,hnc,hcm,hcs,htake⟩
  · cases h'
  · cases h'
    have h1:m + s ≤ n * s:=by
      have:=Nat.mul_le_mul_right s (show k + 1 ≤ n by omega)
      rw [Nat.add_mul,Nat.one_mul] at this;omega
    have h2:n * s ≤ cur.size:=by rw [hcs];exact Nat.mul_le_mul_right s hnc
    have hcl:cells.toList.length = s:=by simpa using hc.1
    refine gx hw (lx (g:=g) (k:=m) (n:=s) (T:=e) (cs:=cur) (cells:=cells) (cs':=(f9 cur.toList m cells.toList).toArray) ho hx hy hv hg hsz ⟨by omega,hc.1,hc.2⟩ rfl) (h _ (S.back ?_ hi))
    obtain ⟨f,⟨hf,hb'⟩,hT⟩:=(hS.front hi).turn
    refine hT (aa (.slice (some ⟨g,0,none⟩) n c) e s n (f9 xs m cells.toList)) _ [g] ⟨rfl,?_,.inr ⟨g,c,(f9 cur.toList m cells.toList).toArray,rfl,Nat.zero_le _,setRow_heap w g cur _ e (0,0) hg,hnc,hcm,?_,?_⟩⟩ (jH _ _ _) (by rw [iM];exact Nat.le_refl _) (fun b hb=>.inl (by rw [hf];exact hb)) (fun b hlt hn=>?_)
    · rw [oK _ _ _ (by rw [hlen,hcl];omega),hlen]
    · rw [List.size_toArray,oK _ _ _ (by rw [hcl];simp;omega)];simpa using hcs
    · rw [← htake]
      exact xv _ _ _ _ (by rw [hcl];exact h1) (by simpa using h2)
    · exact setRow_other w g b _ (fun e=>hn (by rw [hf,e];simp [Value.ownBlock]))
end
end
section
section
variable {P:Program} {ops:Array Oper} {o:Oper} {a:Act} {w:World} {κ:Kap} {L I:List Atom} {K:Act → World → Prop} {Q:Exit → Act → World → Prop} {E:Prop}
theorem dj {x y:Operand} {A:Option Addr} {t g k n c e s:Nat} {xs:List Value} {u:Value} (i:Nat) (hS:S κ L I w) (hA:A = some ⟨g,0,none⟩) (hi:L[i]? = some (aa (.slice A n c) e s n xs)) (hw:Region.wanted o (yielded ops a.tmps) = true) (ho:o.op = .store t x y) (hx:a.eval x = .pointer (some ⟨g,k,none⟩)) (hy:a.eval y = u) (hv:u.cells = #[u])
    (hsz:(P.info? t).map (·.size) = some 1) (hk:k < n * s) (h1:u.oneCell' = true)
    (h:∀ w',S κ (L.set i (aa (.slice A n c) e s n (xs.set k u))) I w' → K (a.put o.dst undef) w'):if Region.wanted o (yielded ops a.tmps) = true then o.wp P a w K Q else E:=by
  subst hA
  obtain ⟨hlen,hr2⟩:=hS.row hi
  rcases hr2 with ⟨h',_⟩ | ⟨g',cap',cur,h',hb,hg,hnc,hcm,hcs,htake⟩
  · cases h'
  · cases h'
    have h2:n * s ≤ cur.size:=by rw [hcs];exact Nat.mul_le_mul_right s hnc
    have hkc:k < cur.size:=by omega
    refine gx hw (lx (g:=g) (k:=k) (n:=1) (T:=e) (cs:=cur) (cells:=#[u]) (cs':=cur.setIfInBounds k u) ho hx hy hv hg hsz ⟨by omega,rfl,by simp [h1]⟩ (qV cur k u hkc)) (h _ (S.back ?_ hi))
    obtain ⟨f,⟨hf,hb'⟩,hT⟩:=(hS.front hi).turn
    refine hT (aa (.slice (some ⟨g,0,none⟩) n c) e s n (xs.set k u)) _ [g] ⟨rfl,by simpa using hlen,.inr ⟨g,c,cur.setIfInBounds k u,rfl,Nat.zero_le _,setRow_heap w g cur _ e (0,0) hg,hnc,hcm,by simpa using hcs,by rw [Array.toList_setIfInBounds,← htake,List.take_set]⟩⟩ (jH _ _ _) (by rw [iM];exact Nat.le_refl _) (fun b hb=>.inl (by rw [hf];exact hb)) (fun b hlt hn=>?_)
    exact setRow_other w g b _ (fun e=>hn (by rw [hf,e];simp [Value.ownBlock]))
end
theorem S.litRow {κ:Kap} {L I:List Atom} {w:World} {g t size n:Nat} {cs:Array Value} (h:S κ (ai g t cs::L) I w) (hs:cs.size = n * size) (hn:n ≤ 9223372036854775807):S κ (aa (.slice (some ⟨g,0,none⟩) n n) t size n cs.toList::L) I w:=
  h.imp fun w f ⟨h1,h2⟩=>⟨by rw [h1];rfl,tX h2 (Nat.zero_le _) hs hn⟩
theorem ch {α:Type} {cells:α → List Value} {s:Nat} (hc:∀ a,(cells a).length = s) {l:List α} {i f:Nat} {z z':α} {u:Value} (hz:l[i]? = some z) (hf:f < s) (h:(cells z).set f u = cells z'):(ab cells l).set (i * s + f) u = ab cells (l.set i z'):=by
  induction l generalizing i with
  | nil=>simp at hz
  | cons x l ih=>
    cases i with
    | zero=>
      simp only [List.getElem?_cons_zero,Option.some.injEq] at hz;subst hz
      simp only [ab,List.flatMap_cons,List.set_cons_zero,Nat.zero_mul,Nat.zero_add]
      rw [List.set_append_left _ _ (by rw [hc];exact hf),h]
    | succ i=>
      have:=ih (i:=i) (by simpa using hz)
      simp only [ab,List.flatMap_cons,List.set_cons_succ] at this ⊢
      rw [List.set_append_right _ _ (by rw [hc,Nat.add_mul];omega),hc,show (i + 1) * s + f - s = i * s + f by rw [Nat.add_mul];omega,this]
end
section
set_option maxRecDepth 100000
set_option maxHeartbeats 8000000
structure CdV where
  id:Int
  prio:Int
  dr:Int
  bdr:Int
 deriving DecidableEq
def CdV.cells (x:CdV):List Value:=[.int .i64 x.id,.int .i64 x.prio,.int .i64 x.dr,.int .i64 x.bdr]
theorem CdV.cells_len (x:CdV):x.cells.length = 4:=rfl
def cd0:CdV:=⟨0,0,0,0⟩
def j3 (pr:CdV → Bool) (b c:CdV):CdV:=if 0 < c.prio∧pr c = true∧(b.id = 0 ∨ b.prio < c.prio ∨ (c.prio = b.prio∧b.id < c.id)) then c else b
def qt (pr:CdV → Bool) (l:List CdV):Int:=(l.foldl (j3 pr) cd0).id
theorem kQ {pr:CdV → Bool} {l:List CdV} {k:Nat} {b z:CdV} (hb:b = (l.take k).foldl (j3 pr) cd0) (hz:l[k]? = some z) (h:0 < z.prio∧pr z = true∧(b.id = 0 ∨ b.prio < z.prio ∨ (z.prio = b.prio∧b.id < z.id))):z = (l.take (k + 1)).foldl (j3 pr) cd0:=by
  rw [bp l k z hz,List.foldl_append,← hb]
  simp only [List.foldl_cons,List.foldl_nil,j3,if_pos h]
theorem j1 {pr:CdV → Bool} {l:List CdV} {k:Nat} {b z:CdV} (hb:b = (l.take k).foldl (j3 pr) cd0) (hz:l[k]? = some z) (h:¬ (0 < z.prio∧pr z = true∧(b.id = 0 ∨ b.prio < z.prio ∨ (z.prio = b.prio∧b.id < z.id)))):b = (l.take (k + 1)).foldl (j3 pr) cd0:=by
  rw [bp l k z hz,List.foldl_append,← hb]
  simp only [List.foldl_cons,List.foldl_nil,j3,if_neg h]
def goF (l:List CdV):Int × Int:=
  let b0:=qt (fun c=>decide (c.dr ≠ c.id) && decide (c.bdr = c.id)) l
  let bdr:=if b0 = 0 then qt (fun c=>decide (c.dr ≠ c.id)) l else b0
  let d0:=qt (fun c=>decide (c.dr = c.id)) l
  (if d0 = 0 then bdr else d0,bdr)
def np (self:Int) (d:Int × Int) (l:List CdV) (i:Nat) (c:CdV):List CdV:=
  l.set i { c with dr:=if d.1 = self then self else 0,bdr:=if d.1 = self then 0 else if d.2 = self then self else 0 }
def fA (self:Int) (l:List CdV):Int × Int:=
  let d:=goF l
  let i:=hY (fun c=>decide (c.id = self)) l
  if i < 0 then d else
  match l[i.toNat]? with
  | none=>d
  | some c=>if decide (d.1 = self) = decide (c.dr = self)∧decide (d.2 = self) = decide (c.bdr = self) then d else goF (np self d l i.toNat c)
theorem pz {w:World} {B n:Nat} {A:Option Addr} {l:List CdV} (h:Reads w B 4 A n (ab CdV.cells l)):l.length = n:=by have:=h.1;rw [be CdV.cells 4 CdV.cells_len] at this;omega
theorem j0 (A:Option Addr) (n c:Nat) (l:List CdV) (f:Nat) (cap:Array Value) (pr:CdV → Bool) (W:World) (hn:n ≤ 100000) (hR:Reads W W.heap.size 4 A n (ab CdV.cells l)) (hcl:∀ w z,Below W.heap.size W w → Calls Tryz.prog f (#[.agg (CdV.cells z).toArray] ++ cap) w fun r w'=>r = .returned (.bool (pr z))∧Below w.heap.size w w') (hfn:∀ xs w,(callFunc f xs).run Tryz.prog w = .ok (.enter f xs) w):
    Calls Tryz.prog 252 #[.slice A n c,.func (.func f) #[] cap] W (fun r w'=>r = .returned (.int .i64 (qt pr l))∧Below W.heap.size W w'):=by
 have hS:=S.start W
 refine wK 52 Tryz.func252 (fun R_ hR_ a hk=>?_)
 refine sg [] hk ?_
 refine T ?_
 refine rE [0,1,4] hk ?_
 clear hk
 intro a2 hk
 refine sg [0] hk ?_
 refine eA #[i6 0,i6 0,i6 0,i6 0] hS (fun g4 w4 hS4 _=>?_)
 clear hS
 refine rE [0,1,4,5] hk ?_
 clear hk
 intro a3 hk
 refine wp_seq ?_
 refine sg [] hk ?_
 iterate 3 refine T ?_
 refine rE [1,4,5,8,9,10] hk ?_
 clear hk
 intro a5 hk
 refine wp_block ?_
 refine wp_loop (fun a_ w_=>∃ k:Nat,∃ b:CdV,(k ≤ n)∧(b = (l.take k).foldl (j3 pr) cd0)∧Fr a_ 52 [(1,.func (.func f) #[] cap),(4,i6 0),(5,pt g4 0),(8,.slice A n c),(9,i6 n),(10,i6 k)]∧S (kap W) (ai g4 161 #[i6 b.id,i6 b.prio,i6 b.dr,i6 b.bdr]::[]) ((cA W W.heap.size)::[]) w_) (fun a_ _=>n - (intOf (sl a_ 10)).toNat) ?_ ?_
 ·exact ⟨0,cd0,Nat.zero_le _,rfl,hk.to,hS4⟩
 clear hk hS4
 rintro a6 w6 ⟨k,b,hc0_0,hc0_1,hk,hS6⟩
 have hmu0:=hk.g (s:=10)
 refine sg [] hk ?_
 refine T ?_
 refine rE [1,4,5,8,9,10,11] hk ?_
 clear hk
 intro a7 hk
 refine wp_seq ?_
 refine cD hk (fun hc11=>?_) (fun hc11=>?_)
 ·refine wp_skip ?_
  refine wp_seq ?_
  refine wp_block ?_
  refine sg [2,3] hk ?_
  obtain ⟨b9,o9,z9,hA9,hb9,hz9,hq9⟩:=Reads.row_at CdV.cells 4 CdV.cells_len (k:=k) (hR.old (hS6.old (by simp))) (by decide) (by omega)
  refine rD (pt b9 (o9 + k * 4)) (fun _ h_=>rk (az (size:=4) rfl (h_.x hk) hA9 (h_.x hk) (by kernel_rfl) (by omega) (by simp))) ?_
  refine rD (.agg #[i6 z9.id,i6 z9.prio,i6 z9.dr,i6 z9.bdr]) (fun _ h_=>rk (dT (size:=4) (cs:=CdV.cells z9) rfl (h_.x hk) (by kernel_rfl) rfl hq9)) ?_
  refine eA #[i6 0,i6 0,i6 0,i6 0] hS6 (fun g10 w10 hS10 _=>?_)
  clear hS6
  refine eS 0 hk hS10 (fun w11 hS11 _=>?_)
  clear hS10
  refine rE [1,4,5,7,8,9,10,12,13] hk ?_
  clear hk
  intro a8 hk
  refine sg [6] hk ?_
  refine T ?_
  refine LD 0 hk hS11 ?_
  iterate 2 refine T ?_
  rcases dt ((0:Int) < z9.prio) with ⟨he,hg3⟩ | ⟨he,hg3⟩
  ·rw [he]
   clear he
   refine T ?_
   refine LDS 0 4 hk hS11 ?_
   refine eV hk (h:=hcl _ z9 (hS11.old (by simp))) (k:=?_) (hf:=hfn _ _)
   rintro e w13 ⟨rfl,hb13⟩
   refine ⟨_,rfl,?_⟩
   have hS13:=hS11.below hb13
   clear hS11 hb13
   iterate 2 refine T ?_
   rcases bt (pr z9) with hg8 | hg8
   ·rw [hg8]
    refine T ?_
    refine LD 1 hk hS13 ?_
    iterate 2 refine T ?_
    rcases dt ((b.id:Int) = 0) with ⟨he,hg12⟩ | ⟨he,hg12⟩
    ·rw [he]
     clear he
     refine oF 12 26 false [13,14,15,16,17] ?_
     iterate 2 refine T ?_
     refine oF 19 33 false [20,21,22,23,24,25] ?_
     refine oF 25 39 true [26,27,28,29,30] ?_
     refine oF 19 33 false [31] ?_
     iterate 2 refine T ?_
     refine rE [1,4,5,7,8,9,10,12,13,14,15,16,17,18,19,20,21,22,23,24,25,26,32,33,46,47] hk ?_
     clear hk
     intro a12 hk
     refine cT hk ?_
     refine rgL [1] hk ?_
     refine LDS 0 4 hk hS13 ?_
     refine eS 1 hk hS13 (fun w15 hS15 _=>?_)
     clear hS13
     refine rE [1,4,5,7,8,9,10,12,13,14,15,16,17,18,19,20,21,22,23,24,25,26,32,33,46,47,48] hk ?_
     clear hk
     intro a14 hk
     refine rgL [] hk ?_
     refine rD (i6 (k + 1)) (fun _ h_=>rk (aD rfl (h_.x hk) rfl (by omega) rfl)) ?_
     refine T ?_
     refine rE [1,4,5,7,8,9,10,12,13,14,15,16,17,18,19,20,21,22,23,24,25,26,32,33,46,47,48,49] hk ?_
     clear hk
     intro a16 hk
     have hSd:=hS15.drop
     refine ⟨⟨k + 1,z9,by omega,kQ hc0_1 hz9 ⟨by omega,by simp_all,by omega⟩,hk.to,hSd⟩,?_⟩
     show n - (intOf (sl a16 10)).toNat < n - (intOf (sl a6 10)).toNat
     rw [show sl a16 10 = _ from hk.g,show sl a6 10 = _ from hmu0]
     simp only [intOf]
     omega
    rw [he]
    clear he
    refine T ?_
    refine LD 0 hk hS13 ?_
    refine T ?_
    refine LD 1 hk hS13 ?_
    iterate 3 refine T ?_
    rcases dt ((b.prio:Int) < z9.prio) with ⟨he,hg19⟩ | ⟨he,hg19⟩
    ·rw [he]
     clear he
     refine oF 19 33 false [20,21,22,23,24,25] ?_
     refine oF 25 39 true [26,27,28,29,30] ?_
     refine oF 19 33 false [31] ?_
     iterate 2 refine T ?_
     refine rE [1,4,5,7,8,9,10,12,13,14,15,16,17,18,19,20,21,22,23,24,25,26,27,28,29,30,31,32,33,46,47] hk ?_
     clear hk
     intro a12 hk
     refine cT hk ?_
     refine rgL [1] hk ?_
     refine LDS 0 4 hk hS13 ?_
     refine eS 1 hk hS13 (fun w18 hS18 _=>?_)
     clear hS13
     refine rE [1,4,5,7,8,9,10,12,13,14,15,16,17,18,19,20,21,22,23,24,25,26,27,28,29,30,31,32,33,46,47,48] hk ?_
     clear hk
     intro a17 hk
     refine rgL [] hk ?_
     refine rD (i6 (k + 1)) (fun _ h_=>rk (aD rfl (h_.x hk) rfl (by omega) rfl)) ?_
     refine T ?_
     refine rE [1,4,5,7,8,9,10,12,13,14,15,16,17,18,19,20,21,22,23,24,25,26,27,28,29,30,31,32,33,46,47,48,49] hk ?_
     clear hk
     intro a19 hk
     have hSd:=hS18.drop
     refine ⟨⟨k + 1,z9,by omega,kQ hc0_1 hz9 ⟨by omega,by simp_all,by omega⟩,hk.to,hSd⟩,?_⟩
     show n - (intOf (sl a19 10)).toNat < n - (intOf (sl a6 10)).toNat
     rw [show sl a19 10 = _ from hk.g,show sl a6 10 = _ from hmu0]
     simp only [intOf]
     omega
    rw [he]
    clear he
    refine T ?_
    refine LD 0 hk hS13 ?_
    refine T ?_
    refine LD 1 hk hS13 ?_
    iterate 2 refine T ?_
    rcases dt ((z9.prio:Int) = b.prio) with ⟨he,hg25⟩ | ⟨he,hg25⟩
    ·rw [he]
     clear he
     refine T ?_
     refine LD 0 hk hS13 ?_
     refine T ?_
     refine LD 1 hk hS13 ?_
     iterate 4 refine T ?_
     refine rE [1,4,5,7,8,9,10,12,13,14,15,16,17,18,19,20,21,22,23,24,25,26,27,28,29,30,31,32,33,34,35,36,37,38,39,40,41,42,43,44,45,46,47] hk ?_
     clear hk
     intro a12 hk
     refine cD hk (fun hc47=>?_) (fun hc47=>?_)
     ·refine rgL [1] hk ?_
      refine LDS 0 4 hk hS13 ?_
      refine eS 1 hk hS13 (fun w21 hS21 _=>?_)
      clear hS13
      refine rE [1,4,5,7,8,9,10,12,13,14,15,16,17,18,19,20,21,22,23,24,25,26,27,28,29,30,31,32,33,34,35,36,37,38,39,40,41,42,43,44,45,46,48] hk ?_
      clear hk
      intro a20 hk
      refine rgL [] hk ?_
      refine rD (i6 (k + 1)) (fun _ h_=>rk (aD rfl (h_.x hk) rfl (by omega) rfl)) ?_
      refine T ?_
      refine rE [1,4,5,7,8,9,10,12,13,14,15,16,17,18,19,20,21,22,23,24,25,26,27,28,29,30,31,32,33,34,35,36,37,38,39,40,41,42,43,44,45,46,48,49] hk ?_
      clear hk
      intro a22 hk
      have hSd:=hS21.drop
      refine ⟨⟨k + 1,z9,by omega,kQ hc0_1 hz9 ⟨by omega,by simp_all,by omega⟩,hk.to,hSd⟩,?_⟩
      show n - (intOf (sl a22 10)).toNat < n - (intOf (sl a6 10)).toNat
      rw [show sl a22 10 = _ from hk.g,show sl a6 10 = _ from hmu0]
      simp only [intOf]
      omega
     refine wp_skip ?_
     refine rgL [] hk ?_
     refine rD (i6 (k + 1)) (fun _ h_=>rk (aD rfl (h_.x hk) rfl (by omega) rfl)) ?_
     refine T ?_
     refine rE [1,4,5,7,8,9,10,12,13,14,15,16,17,18,19,20,21,22,23,24,25,26,27,28,29,30,31,32,33,34,35,36,37,38,39,40,41,42,43,44,45,46,49] hk ?_
     clear hk
     intro a23 hk
     have hSd:=hS13.drop
     refine ⟨⟨k + 1,b,by omega,j1 hc0_1 hz9 (by rintro ⟨h1,h2,h3⟩;first | omega | simp_all),hk.to,hSd⟩,?_⟩
     show n - (intOf (sl a23 10)).toNat < n - (intOf (sl a6 10)).toNat
     rw [show sl a23 10 = _ from hk.g,show sl a6 10 = _ from hmu0]
     simp only [intOf]
     omega
    rw [he]
    clear he
    refine oF 25 39 true [26,27,28,29,30] ?_
    iterate 3 refine T ?_
    refine rE [1,4,5,7,8,9,10,12,13,14,15,16,17,18,19,20,21,22,23,24,25,26,27,28,29,30,31,32,33,34,35,36,37,38,39,45,46,47] hk ?_
    clear hk
    intro a12 hk
    refine cF hk ?_
    refine wp_skip ?_
    refine rgL [] hk ?_
    refine rD (i6 (k + 1)) (fun _ h_=>rk (aD rfl (h_.x hk) rfl (by omega) rfl)) ?_
    refine T ?_
    refine rE [1,4,5,7,8,9,10,12,13,14,15,16,17,18,19,20,21,22,23,24,25,26,27,28,29,30,31,32,33,34,35,36,37,38,39,45,46,47,49] hk ?_
    clear hk
    intro a24 hk
    have hSd:=hS13.drop
    refine ⟨⟨k + 1,b,by omega,j1 hc0_1 hz9 (by rintro ⟨h1,h2,h3⟩;first | omega | simp_all),hk.to,hSd⟩,?_⟩
    show n - (intOf (sl a24 10)).toNat < n - (intOf (sl a6 10)).toNat
    rw [show sl a24 10 = _ from hk.g,show sl a6 10 = _ from hmu0]
    simp only [intOf]
    omega
   rw [hg8]
   refine oF 8 22 true [9,10,11,12] ?_
   refine oF 12 26 false [13,14,15,16,17] ?_
   refine oF 8 22 true [18,19] ?_
   refine oF 19 33 false [20,21,22,23,24,25] ?_
   refine oF 25 39 true [26,27,28,29,30] ?_
   refine oF 19 33 false [31] ?_
   refine oF 8 22 true [32] ?_
   refine T ?_
   refine rE [1,4,5,7,8,9,10,12,13,14,15,16,17,18,19,20,21,22,47] hk ?_
   clear hk
   intro a12 hk
   refine cF hk ?_
   refine wp_skip ?_
   refine rgL [] hk ?_
   refine rD (i6 (k + 1)) (fun _ h_=>rk (aD rfl (h_.x hk) rfl (by omega) rfl)) ?_
   refine T ?_
   refine rE [1,4,5,7,8,9,10,12,13,14,15,16,17,18,19,20,21,22,47,49] hk ?_
   clear hk
   intro a25 hk
   have hSd:=hS13.drop
   refine ⟨⟨k + 1,b,by omega,j1 hc0_1 hz9 (by rintro ⟨h1,h2,h3⟩;first | omega | simp_all),hk.to,hSd⟩,?_⟩
   show n - (intOf (sl a25 10)).toNat < n - (intOf (sl a6 10)).toNat
   rw [show sl a25 10 = _ from hk.g,show sl a6 10 = _ from hmu0]
   simp only [intOf]
   omega
  rw [he]
  clear he
  refine oF 3 17 true [4,5] ?_
  refine oE 3 17 true ?_
  iterate 2 refine T ?_
  refine oF 8 22 true [9,10,11,12] ?_
  refine oF 12 26 false [13,14,15,16,17] ?_
  refine oF 8 22 true [18,19] ?_
  refine oF 19 33 false [20,21,22,23,24,25] ?_
  refine oF 25 39 true [26,27,28,29,30] ?_
  refine oF 19 33 false [31] ?_
  refine oF 8 22 true [32] ?_
  refine T ?_
  refine rE [1,4,5,7,8,9,10,12,13,14,15,16,17,21,22,47] hk ?_
  clear hk
  intro a12 hk
  refine cF hk ?_
  refine wp_skip ?_
  refine rgL [] hk ?_
  refine rD (i6 (k + 1)) (fun _ h_=>rk (aD rfl (h_.x hk) rfl (by omega) rfl)) ?_
  refine T ?_
  refine rE [1,4,5,7,8,9,10,12,13,14,15,16,17,21,22,47,49] hk ?_
  clear hk
  intro a26 hk
  have hSd:=hS11.drop
  refine ⟨⟨k + 1,b,by omega,j1 hc0_1 hz9 (by rintro ⟨h1,h2,h3⟩;first | omega | simp_all),hk.to,hSd⟩,?_⟩
  show n - (intOf (sl a26 10)).toNat < n - (intOf (sl a6 10)).toNat
  rw [show sl a26 10 = _ from hk.g,show sl a6 10 = _ from hmu0]
  simp only [intOf]
  omega
 refine wp_exit ?_
 refine sg [] hk ?_
 refine T ?_
 refine LD 0 hk hS6 ?_
 refine T ?_
 refine rE [4] hk ?_
 clear hk
 intro a27 hk
 refine wp_ret ?_
 refine rt1 hk (hR_ _ _ ?_)
 obtain rfl:k = n:=by omega
 rw [List.take_of_length_le (by have:=pz hR;omega)] at hc0_1
 exact ⟨by rw [hc0_1];rfl,(hS6.old (by simp))⟩
theorem yI (z:CdV) (W:World):
    Calls Tryz.prog 253 #[.agg #[i6 z.id,i6 z.prio,i6 z.dr,i6 z.bdr]] W (fun r w'=>r = .returned (.bool (decide (z.dr ≠ z.id) && decide (z.bdr = z.id)))∧Below W.heap.size W w'):=by
 have hS:=S.start W
 refine wK 15 Tryz.func253 (fun R_ hR_ a hk=>?_)
 refine sg [0] hk ?_
 refine eB hk hS (fun g3 w3 hS3 _=>?_)
 clear hS
 refine T ?_
 refine rE [1,2] hk ?_
 clear hk
 intro a2 hk
 refine sg [] hk ?_
 refine T ?_
 refine LD 0 hk hS3 ?_
 refine T ?_
 refine LD 0 hk hS3 ?_
 iterate 2 refine T ?_
 rcases dt ((z.dr:Int) ≠ z.id) with ⟨he,hg5⟩ | ⟨he,hg5⟩
 ·rw [he]
  clear he
  refine T ?_
  refine LD 0 hk hS3 ?_
  refine T ?_
  refine LD 0 hk hS3 ?_
  iterate 3 refine T ?_
  refine rE [2] hk ?_
  clear hk
  intro a4 hk
  refine wp_ret ?_
  refine rt1 hk (hR_ _ _ ?_)
  exact ⟨by first | rfl | (congr 2;simp_all),(hS3.old (by simp))⟩
 rw [he]
 clear he
 refine oF 5 8 true [6,7,8,9,10] ?_
 iterate 2 refine T ?_
 refine rE [2] hk ?_
 clear hk
 intro a4 hk
 refine wp_ret ?_
 refine rt1 hk (hR_ _ _ ?_)
 exact ⟨by first | rfl | (congr 2;simp_all),(hS3.old (by simp))⟩
theorem yJ (z:CdV) (W:World):
    Calls Tryz.prog 254 #[.agg #[i6 z.id,i6 z.prio,i6 z.dr,i6 z.bdr]] W (fun r w'=>r = .returned (.bool (decide (z.dr ≠ z.id)))∧Below W.heap.size W w'):=by
 have hS:=S.start W
 refine wK 8 Tryz.func254 (fun R_ hR_ a hk=>?_)
 refine sg [0] hk ?_
 refine eB hk hS (fun g3 w3 hS3 _=>?_)
 clear hS
 refine T ?_
 refine rE [1,2] hk ?_
 clear hk
 intro a2 hk
 refine sg [] hk ?_
 refine T ?_
 refine LD 0 hk hS3 ?_
 refine T ?_
 refine LD 0 hk hS3 ?_
 iterate 2 refine T ?_
 refine rE [2] hk ?_
 clear hk
 intro a4 hk
 refine wp_ret ?_
 refine rt1 hk (hR_ _ _ ?_)
 exact ⟨by first | rfl | (congr 2;simp_all),(hS3.old (by simp))⟩
theorem ua (z:CdV) (W:World):
    Calls Tryz.prog 255 #[.agg #[i6 z.id,i6 z.prio,i6 z.dr,i6 z.bdr]] W (fun r w'=>r = .returned (.bool (decide (z.dr = z.id)))∧Below W.heap.size W w'):=by
 have hS:=S.start W
 refine wK 8 Tryz.func255 (fun R_ hR_ a hk=>?_)
 refine sg [0] hk ?_
 refine eB hk hS (fun g3 w3 hS3 _=>?_)
 clear hS
 refine T ?_
 refine rE [1,2] hk ?_
 clear hk
 intro a2 hk
 refine sg [] hk ?_
 refine T ?_
 refine LD 0 hk hS3 ?_
 refine T ?_
 refine LD 0 hk hS3 ?_
 iterate 2 refine T ?_
 refine rE [2] hk ?_
 clear hk
 intro a4 hk
 refine wp_ret ?_
 refine rt1 hk (hR_ _ _ ?_)
 exact ⟨by first | rfl | (congr 2;simp_all),(hS3.old (by simp))⟩
theorem jE (A:Option Addr) (n c:Nat) (l:List CdV) (W:World) (hn:n ≤ 100000) (hR:Reads W W.heap.size 4 A n (ab CdV.cells l)):
    Calls Tryz.prog 175 #[.slice A n c] W (fun r w'=>r = .returned (.tuple #[.int .i64 (goF l).1,.int .i64 (goF l).2])∧Below W.heap.size W w'):=by
 have hS:=S.start W
 refine wK 19 Tryz.func175 (fun R_ hR_ a hk=>?_)
 refine sg [] hk ?_
 iterate 2 refine T ?_
 refine rE [0,2,3] hk ?_
 clear hk
 intro a2 hk
 refine sg [1] hk ?_
 refine T ?_
 refine eC hk (h:=(j0 A n c l 253 #[] (fun c=>decide (c.dr ≠ c.id) && decide (c.bdr = c.id)) _ hn (hR.old (hS.old (by simp))) (fun w z hb=>yI z w) (fun _ _=>by kernel_rfl))) (k:=?_)
 rintro e w4 ⟨rfl,hb4⟩
 refine ⟨_,rfl,?_⟩
 have hS4:=hS.below hb4
 clear hS hb4
 refine T ?_
 refine rE [0,2,3,4] hk ?_
 clear hk
 intro a3 hk
 refine wp_seq ?_
 refine sg [] hk ?_
 iterate 2 refine T ?_
 refine rE [0,2,3,4,9] hk ?_
 clear hk
 intro a5 hk
 refine cD hk (fun hc9=>?_) (fun hc9=>?_)
 ·refine rgL [1] hk ?_
  refine T ?_
  refine eC hk (h:=(j0 A n c l 254 #[] (fun c=>decide (c.dr ≠ c.id)) _ hn (hR.old (hS4.old (by simp))) (fun w z hb=>yJ z w) (fun _ _=>by kernel_rfl))) (k:=?_)
  rintro e w7 ⟨rfl,hb7⟩
  refine ⟨_,rfl,?_⟩
  have hS7:=hS4.below hb7
  clear hS4 hb7
  refine T ?_
  refine rE [0,2,3,4] hk ?_
  clear hk
  intro a6 hk
  refine sg [1] hk ?_
  refine T ?_
  refine eC hk (h:=(j0 A n c l 255 #[] (fun c=>decide (c.dr = c.id)) _ hn (hR.old (hS7.old (by simp))) (fun w z hb=>ua z w) (fun _ _=>by kernel_rfl))) (k:=?_)
  rintro e w9 ⟨rfl,hb9⟩
  refine ⟨_,rfl,?_⟩
  have hS9:=hS7.below hb9
  clear hS7 hb9
  refine T ?_
  refine rE [2,3,4,5] hk ?_
  clear hk
  intro a8 hk
  refine wp_seq ?_
  refine sg [] hk ?_
  iterate 2 refine T ?_
  refine rE [2,3,4,5,15] hk ?_
  clear hk
  intro a10 hk
  refine cD hk (fun hc15=>?_) (fun hc15=>?_)
  ·refine rgL [] hk ?_
   iterate 2 refine T ?_
   refine rE [2,3,4,5] hk ?_
   clear hk
   intro a11 hk
   refine sg [] hk ?_
   iterate 4 refine T ?_
   refine rE [2,3] hk ?_
   clear hk
   intro a12 hk
   refine wp_ret ?_
   refine rt2 hk (hR_ _ _ ?_)
   refine ⟨?_,(hS9.old (by simp))⟩
   congr 3
   unfold goF
   simp_all
  refine wp_skip ?_
  refine sg [] hk ?_
  iterate 4 refine T ?_
  refine rE [2,3] hk ?_
  clear hk
  intro a13 hk
  refine wp_ret ?_
  refine rt2 hk (hR_ _ _ ?_)
  refine ⟨?_,(hS9.old (by simp))⟩
  congr 3
  unfold goF
  simp_all
 refine wp_skip ?_
 refine sg [1] hk ?_
 refine T ?_
 refine eC hk (h:=(j0 A n c l 255 #[] (fun c=>decide (c.dr = c.id)) _ hn (hR.old (hS4.old (by simp))) (fun w z hb=>ua z w) (fun _ _=>by kernel_rfl))) (k:=?_)
 rintro e w15 ⟨rfl,hb15⟩
 refine ⟨_,rfl,?_⟩
 have hS15:=hS4.below hb15
 clear hS4 hb15
 refine T ?_
 refine rE [2,3,4,5] hk ?_
 clear hk
 intro a14 hk
 refine wp_seq ?_
 refine sg [] hk ?_
 iterate 2 refine T ?_
 refine rE [2,3,4,5,15] hk ?_
 clear hk
 intro a16 hk
 refine cD hk (fun hc15=>?_) (fun hc15=>?_)
 ·refine rgL [] hk ?_
  iterate 2 refine T ?_
  refine rE [2,3,4,5] hk ?_
  clear hk
  intro a17 hk
  refine sg [] hk ?_
  iterate 4 refine T ?_
  refine rE [2,3] hk ?_
  clear hk
  intro a18 hk
  refine wp_ret ?_
  refine rt2 hk (hR_ _ _ ?_)
  refine ⟨?_,(hS15.old (by simp))⟩
  congr 3
  unfold goF
  simp_all
 refine wp_skip ?_
 refine sg [] hk ?_
 iterate 4 refine T ?_
 refine rE [2,3] hk ?_
 clear hk
 intro a19 hk
 refine wp_ret ?_
 refine rt2 hk (hR_ _ _ ?_)
 refine ⟨?_,(hS15.old (by simp))⟩
 congr 3
 unfold goF
 simp_all
theorem sS (A:Option Addr) (n c:Nat) (l:List CdV) (f:Nat) (cap:Array Value) (pr:CdV → Bool) (W:World) (hn:n ≤ 100000) (hR:Reads W W.heap.size 4 A n (ab CdV.cells l)) (hcl:∀ w z,Below W.heap.size W w → Calls Tryz.prog f (#[.agg (CdV.cells z).toArray] ++ cap) w fun r w'=>r = .returned (.bool (pr z))∧Below w.heap.size w w') (hfn:∀ xs w,(callFunc f xs).run Tryz.prog w = .ok (.enter f xs) w):
    Calls Tryz.prog 176 #[.slice A n c,.func (.func f) #[] cap] W (fun r w'=>r = .returned (.int .i64 (hY pr l))∧Below W.heap.size W w'):=by
 have hS:=S.start W
 refine wK 19 Tryz.func176 (fun R_ hR_ a hk=>?_)
 refine sg [] hk ?_
 refine T ?_
 refine rE [0,1,4] hk ?_
 clear hk
 intro a2 hk
 refine wp_seq ?_
 refine sg [] hk ?_
 iterate 3 refine T ?_
 refine rE [0,1,4,7,8] hk ?_
 clear hk
 intro a3 hk
 refine wp_block ?_
 refine wp_loop (fun a_ w_=>∃ k:Nat,(k ≤ n)∧(∀ j x,j < k → l[j]? = some x → pr x = false)∧Fr a_ 19 [(0,.slice A n c),(1,.func (.func f) #[] cap),(7,i6 n),(8,i6 k)]∧S (kap W) ([]) ((cA W W.heap.size)::[]) w_) (fun a_ _=>n - (intOf (sl a_ 8)).toNat) ?_ ?_
 ·exact ⟨0,Nat.zero_le _,(fun j x hj=>absurd hj (Nat.not_lt_zero _)),hk.to,hS⟩
 clear hk hS
 rintro a4 w4 ⟨k,hc0_0,hc0_1,hk,hS4⟩
 have hmu0:=hk.g (s:=8)
 refine sg [] hk ?_
 refine T ?_
 refine rE [0,1,7,8,9] hk ?_
 clear hk
 intro a5 hk
 refine wp_seq ?_
 refine cD hk (fun hc9=>?_) (fun hc9=>?_)
 ·refine wp_skip ?_
  refine wp_seq ?_
  refine wp_block ?_
  refine sg [] hk ?_
  iterate 2 refine T ?_
  refine rE [0,1,5,7,8,10] hk ?_
  clear hk
  intro a6 hk
  refine sg [5] hk ?_
  iterate 3 refine T ?_
  obtain ⟨b8,o8,z8,hA8,hb8,hz8,hq8⟩:=Reads.row_at CdV.cells 4 CdV.cells_len (k:=k) (hR.old (hS4.old (by simp))) (by decide) (by omega)
  refine rD (pt b8 (o8 + k * 4)) (fun _ h_=>rk (az (size:=4) rfl (h_.x hk) hA8 (h_.x hk) (by kernel_rfl) (by omega) (by simp))) ?_
  refine rD (.agg #[i6 z8.id,i6 z8.prio,i6 z8.dr,i6 z8.bdr]) (fun _ h_=>rk (dT (size:=4) (cs:=CdV.cells z8) rfl (h_.x hk) (by kernel_rfl) rfl hq8)) ?_
  refine eV hk (h:=hcl _ z8 (hS4.old (by simp))) (k:=?_) (hf:=hfn _ _)
  rintro e w9 ⟨rfl,hb9⟩
  refine ⟨_,rfl,?_⟩
  have hS9:=hS4.below hb9
  clear hS4 hb9
  refine rE [0,1,5,7,8,10,11,12,13,14,15,16] hk ?_
  clear hk
  intro a7 hk
  refine cB hk (fun hc16=>?_) (fun hc16=>?_)
  ·refine sg [] hk ?_
   iterate 2 refine T ?_
   refine rE [0,1,4,5,7,8,10,11,12,13,14,15,17] hk ?_
   clear hk
   intro a10 hk
   refine wp_ret ?_
   refine rt1 hk (hR_ _ _ ?_)
   exact ⟨by rw [oH pr l k _ hc0_1 hz8 hc16],(hS9.old (by simp))⟩
  refine wp_skip ?_
  refine rgL [] hk ?_
  refine rD (i6 (k + 1)) (fun _ h_=>rk (aD rfl (h_.x hk) rfl (by omega) rfl)) ?_
  refine T ?_
  refine rE [0,1,5,7,8,10,11,12,13,14,15,18] hk ?_
  clear hk
  intro a11 hk
  refine ⟨⟨k + 1,by omega,vz hc0_1 hz8 hc16,hk.to,hS9⟩,?_⟩
  show n - (intOf (sl a11 8)).toNat < n - (intOf (sl a4 8)).toNat
  rw [show sl a11 8 = _ from hk.g,show sl a4 8 = _ from hmu0]
  simp only [intOf]
  omega
 refine wp_exit ?_
 refine sg [] hk ?_
 refine T ?_
 refine rE [4] hk ?_
 clear hk
 intro a12 hk
 refine wp_ret ?_
 refine rt1 hk (hR_ _ _ ?_)
 exact ⟨by rw [oG pr l k (by have:=pz hR;omega) hc0_1],(hS4.old (by simp))⟩
theorem sH (z:CdV) (self:Int) (g:Nat) (W:World) (hg:Blk W g 3 #[.int .i64 self]):
    Calls Tryz.prog 177 #[.agg #[i6 z.id,i6 z.prio,i6 z.dr,i6 z.bdr],pt g 0] W (fun r w'=>r = .returned (.bool (decide (z.id = self)))∧Below W.heap.size W w'):=by
 have hS:=S.start W
 refine wK 8 Tryz.func177 (fun R_ hR_ a hk=>?_)
 refine sg [0] hk ?_
 refine eB hk hS (fun g3 w3 hS3 _=>?_)
 clear hS
 refine T ?_
 refine rE [1,2,3] hk ?_
 clear hk
 intro a2 hk
 refine sg [] hk ?_
 refine T ?_
 refine LD 0 hk hS3 ?_
 refine rD (i6 self) (fun _ h_=>rk (lb (hg.below (hS3.old (by simp)) hg.lt) rfl (h_.x hk))) ?_
 iterate 2 refine T ?_
 refine rE [3] hk ?_
 clear hk
 intro a4 hk
 refine wp_ret ?_
 refine rt1 hk (hR_ _ _ ?_)
 exact ⟨rfl,(hS3.old (by simp))⟩
theorem pB:(Tryz.prog.info? 161).map (fun i=>(i.zero,i.size,i.bytes)) = some (some (.agg #[.int .i64 0,.int .i64 0,.int .i64 0,.int .i64 0]),4,32):=by kernel_rfl
theorem lL (l:List CdV):∀ u ∈ ab CdV.cells l,u.oneCell' = true:=fun u hu=>by
  obtain ⟨x,_,h⟩:=List.mem_flatMap.1 hu
  simp [CdV.cells] at h
  rcases h with rfl | rfl | rfl | rfl <;> rfl
theorem lK (A:Option Addr) (n c:Nat) (zs:List CdV) (w:World) (hn:n ≤ 100000) (hr:Reads w w.heap.size 4 A n (ab CdV.cells zs)):
    Calls Tryz.prog 178 #[.slice A n c] w fun r w'=>∃ A' c',r = .returned (.slice A' n c')∧w'.ownsRow w.heap.size 161 4 (.slice A' n c') n (ab CdV.cells zs)∧Below w.heap.size w w':=by
  have hnc:A = none → n = 0:=fun h=>by
    by_cases h0:n = 0
    · exact h0
    · obtain ⟨b,off,e,_⟩:=hr.2 (by omega)
      rw [h] at e;cases e
  have hq:∀ w:World,(binOp .eql 150 (.slice A n c) (.slice none 0 0)).run Tryz.prog w = .ok (.bool A.isNone) w:=fun w=>Lib.run_eql_slice_nil w 150 161 A n c 0 0 Tryz.underlying150
  obtain ⟨i0,hi,hz0,hz1,hz2⟩:=info_parts pB
  have hown:=World.ownsRow_made (e:=161) (size:=4) w #[] 0 (Nat.le_refl _) (Nat.zero_le _) rfl
  go_enter Tryz.func178,Tryz.ntmps178
  cases A with
  | none=>
    obtain rfl:=hnc rfl
    have hbs:=ar (show ab CdV.cells zs = [] from List.eq_nil_of_length_eq_zero (by have:=hr.1;omega))
    go_wp2
    go_ret
    exact ⟨none,0,rfl,by rw [hbs.out];exact World.ownsRow_nil _ _ _ _,Below.refl _ _⟩
  | some A=>
    go_wp2_with (first
      | (at_builtin
         refine bn _ rfl (.tmp 5) (.tmp 6) 150 rfl w.heap.size 161 i0 _ 4 32 Tryz.underlying150 hi hz0 hz1 hz2 rfl (by omega) (.slice (some ⟨w.heap.size,0,none⟩) 0 0) 0 [] rfl
           hown w.heap.size (some A) n c (ab CdV.cells zs) rfl (hr.alloc (Nat.le_refl _) _) (lL zs) (by simp only [maxLen];omega) (by omega) (by simp) ?_
         intro A3 c3 w3 hown3 hg3 hloc3))
    have hb3:Below w.heap.size w w3:=((Below.refl _ _).alloc (Nat.le_refl _) _).grown hg3 (by simp) (fun g hg=>(df hown hg).1)
    go_wp2
    go_ret
    exact ⟨A3,c3,rfl,by simpa using hown3,hb3⟩
theorem iN {α:Type} {l:List α} {i:Nat} {a b:α} (h:l[i]? = some a):(l.set i b)[i]? = some b:=by
  have hlt:=(List.getElem?_eq_some_iff.1 h).1
  simp [hlt]
theorem ud {α:Type} {p:α → Bool}:∀ {l:List α},0 ≤ hY p l → hY p l < l.length
  | [],h=>by simp [hY] at h
  | x::l,h=>by
    have h2:=ud (p:=p) (l:=l)
    unfold hY at h ⊢
    split
    · simp;try omega
    · rename_i hp
      rw [if_neg hp] at h
      split at h
      · omega
      · rename_i h3
        have:=h2 (by omega)
        rw [if_neg h3];simp;omega
theorem dO {self:Int} {l:List CdV} (h:hY (fun c=>decide (c.id = self)) l < 0):fA self l = goF l:=by
  unfold fA;simp only;rw [if_pos h]
theorem cU {self:Int} {l:List CdV} {i:Nat} {z:CdV} (h:hY (fun c=>decide (c.id = self)) l = (i:Int)) (hz:l[i]? = some z) (h1:((decide ((goF l).1 = self)) == decide (z.dr = self)) = true) (h2:(decide ((goF l).2 = self) == decide (z.bdr = self)) = true):fA self l = goF l:=by
  unfold fA;simp only;rw [if_neg (by omega),h,Int.toNat_natCast,hz]
  simp only
  rw [if_pos ⟨by simpa using h1,by simpa using h2⟩]
theorem cV {self:Int} {l:List CdV} {i:Nat} {z:CdV} (h:hY (fun c=>decide (c.id = self)) l = (i:Int)) (hz:l[i]? = some z) (h1:¬ (((decide ((goF l).1 = self)) == decide (z.dr = self)) = true∧(decide ((goF l).2 = self) == decide (z.bdr = self)) = true)):fA self l = goF (np self (goF l) l i z):=by
  unfold fA;simp only;rw [if_neg (by omega),h,Int.toNat_natCast,hz]
  simp only
  rw [if_neg (fun hc=>h1 ⟨by simpa using hc.1,by simpa using hc.2⟩)]
theorem vg (self:Int) (A:Option Addr) (n c:Nat) (l:List CdV) (W:World) (hn:n ≤ 100000) (hR:Reads W W.heap.size 4 A n (ab CdV.cells l)):
    Calls Tryz.prog 95 #[i6 self,.slice A n c] W (fun r w'=>r = .returned (.tuple #[.int .i64 (fA self l).1,.int .i64 (fA self l).2])∧Below W.heap.size W w'):=by
 have hS:=S.start W
 refine wK 77 Tryz.func95 (fun R_ hR_ a hk=>?_)
 refine sg [0] hk ?_
 refine eB hk hS (fun g3 w3 hS3 _=>?_)
 clear hS
 iterate 2 refine T ?_
 refine rE [1,2,4,5] hk ?_
 clear hk
 intro a2 hk
 refine sg [1] hk ?_
 refine T ?_
 refine eC hk (h:=(jE A n c l _ hn (hR.old (hS3.old (by simp))))) (k:=?_)
 rintro e w5 ⟨rfl,hb5⟩
 refine ⟨_,rfl,?_⟩
 have hS5:=hS3.below hb5
 clear hS3 hb5
 iterate 5 refine T ?_
 refine rE [1,2,4,5,6,7] hk ?_
 clear hk
 intro a4 hk
 refine sg [2] hk ?_
 refine T ?_
 refine rD (.func (.func 177) #[] #[pt g3 0]) (fun _ h_=>rk (bu rfl (by simp) (h_.map hk))) ?_
 refine eCb hk hS5 (h:=sS A n c l 177 #[pt g3 0] (fun c=>decide (c.id = self)) _ hn (hR.old (hS5.old (by simp))) (fun w z hb=>sH z self g3 w ((hS5.blk (i:=0) rfl).below hb (hS5.blk (i:=0) rfl).lt)) (fun _ _=>by kernel_rfl)) (k:=fun w7 hS7 _=>?_)
 clear hS5
 refine T ?_
 refine rE [1,2,4,5,6,7,8] hk ?_
 clear hk
 intro a6 hk
 refine wp_seq ?_
 refine sg [] hk ?_
 iterate 2 refine T ?_
 refine rE [1,2,4,5,6,7,8,20] hk ?_
 clear hk
 intro a8 hk
 refine cD hk (fun hc20=>?_) (fun hc20=>?_)
 ·refine sg [] hk ?_
  iterate 4 refine T ?_
  refine rE [1,2,4,5,6,7,8] hk ?_
  clear hk
  intro a9 hk
  refine wp_ret ?_
  refine rt2 hk (hR_ _ _ ?_)
  first | exact ⟨by rw [dO (by omega)],(hS7.old (by simp))⟩ | exact ⟨by rw [cU hi hz (by assumption) (by assumption)],(hS7.old (by simp))⟩ | (refine ⟨?_,(hS7.old (by simp))⟩;rw [cV hi hz (by simp_all)];simp only [np,List.set_set];simp_all)
 obtain ⟨i,hi⟩:∃ i:Nat,hY (fun c=>decide (c.id = self)) l = (i:Int):=⟨_,(Int.toNat_of_nonneg (by omega)).symm⟩
 have hil:(i:Int) < n:=by have:=ud (p:=(fun c=>decide (c.id = self))) (l:=l) (by omega);have:=pz hR;omega
 rw [hi] at hk
 refine wp_skip ?_
 refine sg [4,5] hk ?_
 iterate 2 refine T ?_
 obtain ⟨b11,o11,z11,hA11,hb11,hz11,hq11⟩:=Reads.row_at CdV.cells 4 CdV.cells_len (k:=i) (hR.old (hS7.old (by simp))) (by decide) (by omega)
 refine rD (pt b11 (o11 + i * 4)) (fun _ h_=>rk (az (size:=4) rfl (h_.x hk) hA11 (h_.x hk) (by kernel_rfl) (by omega) (by simp))) ?_
 refine rD (.agg #[i6 z11.id,i6 z11.prio,i6 z11.dr,i6 z11.bdr]) (fun _ h_=>rk (dT (size:=4) (cs:=CdV.cells z11) rfl (h_.x hk) (by kernel_rfl) rfl hq11)) ?_
 refine eA #[i6 0,i6 0,i6 0,i6 0] hS7 (fun g12 w12 hS12 _=>?_)
 clear hS7
 refine eS 0 hk hS12 (fun w13 hS13 _=>?_)
 clear hS12
 refine rE [1,2,4,5,6,7,8,9] hk ?_
 clear hk
 intro a10 hk
 refine wp_seq ?_
 refine sg [] hk ?_
 refine T ?_
 refine LD 1 hk hS13 ?_
 iterate 2 refine T ?_
 refine LD 0 hk hS13 ?_
 refine LD 1 hk hS13 ?_
 refine T ?_
 refine rD (.bool (decide (((goF l).1:Int) = self) == decide ((z11.dr:Int) = self))) (fun _ h_=>rk (aq rfl (h_.x hk) (h_.x hk) (fun _=>rfl) (fun _=>rfl))) ?_
 refine T ?_
 rcases bt (decide (((goF l).1:Int) = self) == decide ((z11.dr:Int) = self)) with hg8 | hg8
 ·rw [hg8]
  refine T ?_
  refine LD 1 hk hS13 ?_
  iterate 2 refine T ?_
  refine LD 0 hk hS13 ?_
  refine LD 1 hk hS13 ?_
  refine T ?_
  refine rD (.bool (decide (((goF l).2:Int) = self) == decide ((z11.bdr:Int) = self))) (fun _ h_=>bL (h_.on 8 35) (aq rfl (h_.x hk) (h_.x hk) (fun _=>rfl) (fun _=>rfl))) ?_
  refine T ?_
  refine rE [1,2,4,5,6,7,8,44] hk ?_
  clear hk
  intro a14 hk
  refine cB hk (fun hc44=>?_) (fun hc44=>?_)
  ·refine sg [] hk ?_
   iterate 4 refine T ?_
   refine rE [1,2,4,5,6,7,8] hk ?_
   clear hk
   intro a15 hk
   refine wp_ret ?_
   refine rt2 hk (hR_ _ _ ?_)
   first | exact ⟨by rw [dO (by omega)],(hS13.old (by simp))⟩ | exact ⟨by rw [cU hi hz11 (by assumption) (by assumption)],(hS13.old (by simp))⟩ | (refine ⟨?_,(hS13.old (by simp))⟩;rw [cV hi hz11 (by simp_all)];simp only [np,List.set_set];simp_all)
  refine wp_skip ?_
  refine sg [1] hk ?_
  refine T ?_
  refine eC hk (h:=lK A n c l _ hn (hR.old (hS13.old (by simp)))) (k:=?_)
  rintro e w17 ⟨A17,c17,rfl,ho17,hb17⟩
  refine ⟨_,rfl,?_⟩
  have hS17:=hS13.pushRow hb17 ho17
  clear hS13 hb17 ho17
  refine T ?_
  refine rE [2,4,5,6,7,8,10] hk ?_
  clear hk
  intro a16 hk
  refine sg [6,9] hk ?_
  iterate 4 refine T ?_
  obtain ⟨gA,hgA⟩:=hS17.rowAt (i:=0) rfl (by omega)
  refine rD (pt gA (i * 4)) (fun _ h_=>rk (az (size:=4) rfl (h_.x hk) hgA (h_.x hk) (by kernel_rfl) (by omega) (by simp))) ?_
  refine T ?_
  refine eF (fun a_ h_=>dj (k:=i * 4 + 2) (s:=4) (u:=i6 0) 0 hS17 hgA rfl (ae rfl) rfl (h_.x hk) rfl rfl (by kernel_rfl) (by omega) rfl fun w19 hS19=>⟨_,rfl,?_⟩)
  clear h_ a_ hS17
  replace hS19:=hS19
  rw [ch (z':={ z11 with dr:=0 }) CdV.cells_len hz11 (by omega) rfl] at hS19
  replace hS19:S (kap W) (aa (.slice A17 n c17) 161 4 n (ab CdV.cells (l.set i { z11 with dr:=0 }))::ai g12 161 #[i6 z11.id,i6 z11.prio,i6 z11.dr,i6 z11.bdr]::ai g3 3 #[i6 self]::[]) ((cA W W.heap.size)::[]) w19:=hS19
  have hzz19:(l.set i { z11 with dr:=0 })[i]? = some ({ z11 with dr:=0 }):=iN hz11
  refine rD (pt gA (i * 4)) (fun _ h_=>rk (az (size:=4) rfl (h_.x hk) hgA (h_.x hk) (by kernel_rfl) (by omega) (by simp))) ?_
  refine T ?_
  refine eF (fun a_ h_=>dj (k:=i * 4 + 3) (s:=4) (u:=i6 0) 0 hS19 hgA rfl (ae rfl) rfl (h_.x hk) rfl rfl (by kernel_rfl) (by omega) rfl fun w20 hS20=>⟨_,rfl,?_⟩)
  clear h_ a_ hS19
  replace hS20:=hS20
  rw [ch (z':={ { z11 with dr:=0 } with bdr:=0 }) CdV.cells_len hzz19 (by omega) rfl] at hS20
  replace hS20:S (kap W) ((aa (.slice A17 n c17) 161 4 n (ab CdV.cells ((l.set i { z11 with dr:=0 }).set i { { z11 with dr:=0 } with bdr:=0 })))::ai g12 161 #[i6 z11.id,i6 z11.prio,i6 z11.dr,i6 z11.bdr]::ai g3 3 #[i6 self]::[]) ((cA W W.heap.size)::[]) w20:=hS20
  have hzz20:((l.set i { z11 with dr:=0 }).set i { { z11 with dr:=0 } with bdr:=0 })[i]? = some ({ { z11 with dr:=0 } with bdr:=0 }):=iN hzz19
  refine rE [2,4,5,6,7,8,10] hk ?_
  clear hk
  intro a18 hk
  refine wp_seq ?_
  refine sg [] hk ?_
  refine T ?_
  refine LD 2 hk hS20 ?_
  refine T ?_
  refine rE [2,4,5,7,8,10,59] hk ?_
  clear hk
  intro a21 hk
  refine cD hk (fun hc59=>?_) (fun hc59=>?_)
  ·refine rgL [5] hk ?_
   iterate 2 refine T ?_
   refine LD 2 hk hS20 ?_
   refine rD (pt gA (i * 4)) (fun _ h_=>rk (az (size:=4) rfl (h_.x hk) hgA (h_.x hk) (by kernel_rfl) (by omega) (by simp))) ?_
   refine T ?_
   refine eF (fun a_ h_=>dj (k:=i * 4 + 2) (s:=4) (u:=i6 self) 0 hS20 hgA rfl (ae rfl) rfl (h_.x hk) (h_.x hk) rfl (by kernel_rfl) (by omega) rfl fun w23 hS23=>⟨_,rfl,?_⟩)
   clear h_ a_ hS20
   replace hS23:=hS23
   rw [ch (z':={ { { z11 with dr:=0 } with bdr:=0 } with dr:=self }) CdV.cells_len hzz20 (by omega) rfl] at hS23
   replace hS23:S (kap W) ((aa (.slice A17 n c17) 161 4 n (ab CdV.cells (((l.set i { z11 with dr:=0 }).set i { { z11 with dr:=0 } with bdr:=0 }).set i { { { z11 with dr:=0 } with bdr:=0 } with dr:=self })))::ai g12 161 #[i6 z11.id,i6 z11.prio,i6 z11.dr,i6 z11.bdr]::ai g3 3 #[i6 self]::[]) ((cA W W.heap.size)::[]) w23:=hS23
   have hzz23:(((l.set i { z11 with dr:=0 }).set i { { z11 with dr:=0 } with bdr:=0 }).set i { { { z11 with dr:=0 } with bdr:=0 } with dr:=self })[i]? = some ({ { { z11 with dr:=0 } with bdr:=0 } with dr:=self }):=iN hzz20
   refine rE [4,5,10] hk ?_
   clear hk
   intro a22 hk
   refine sg [1] hk ?_
   refine T ?_
   refine eC hk (h:=(jE A17 n c17 (((l.set i { z11 with dr:=0 }).set i { { z11 with dr:=0 } with bdr:=0 }).set i { { { z11 with dr:=0 } with bdr:=0 } with dr:=self }) _ hn (hS23.rd (i:=0) rfl))) (k:=?_)
   rintro e w25 ⟨rfl,hb25⟩
   refine ⟨_,rfl,?_⟩
   have hS25:=hS23.below hb25
   clear hS23 hb25
   iterate 4 refine T ?_
   refine rE [4,5] hk ?_
   clear hk
   intro a24 hk
   refine wp_ret ?_
   refine rt2 hk (hR_ _ _ ?_)
   first | exact ⟨by rw [dO (by omega)],(hS25.old (by simp))⟩ | exact ⟨by rw [cU hi hz11 (by assumption) (by assumption)],(hS25.old (by simp))⟩ | (refine ⟨?_,(hS25.old (by simp))⟩;rw [cV hi hz11 (by simp_all)];simp only [np,List.set_set];simp_all)
  refine sg [] hk ?_
  refine T ?_
  refine LD 2 hk hS20 ?_
  refine T ?_
  refine rE [2,4,5,8,10,67] hk ?_
  clear hk
  intro a26 hk
  refine cD hk (fun hc67=>?_) (fun hc67=>?_)
  ·refine rgL [5] hk ?_
   iterate 2 refine T ?_
   refine LD 2 hk hS20 ?_
   refine rD (pt gA (i * 4)) (fun _ h_=>rk (az (size:=4) rfl (h_.x hk) hgA (h_.x hk) (by kernel_rfl) (by omega) (by simp))) ?_
   refine T ?_
   refine eF (fun a_ h_=>dj (k:=i * 4 + 3) (s:=4) (u:=i6 self) 0 hS20 hgA rfl (ae rfl) rfl (h_.x hk) (h_.x hk) rfl (by kernel_rfl) (by omega) rfl fun w28 hS28=>⟨_,rfl,?_⟩)
   clear h_ a_ hS20
   replace hS28:=hS28
   rw [ch (z':={ { { z11 with dr:=0 } with bdr:=0 } with bdr:=self }) CdV.cells_len hzz20 (by omega) rfl] at hS28
   replace hS28:S (kap W) ((aa (.slice A17 n c17) 161 4 n (ab CdV.cells (((l.set i { z11 with dr:=0 }).set i { { z11 with dr:=0 } with bdr:=0 }).set i { { { z11 with dr:=0 } with bdr:=0 } with bdr:=self })))::ai g12 161 #[i6 z11.id,i6 z11.prio,i6 z11.dr,i6 z11.bdr]::ai g3 3 #[i6 self]::[]) ((cA W W.heap.size)::[]) w28:=hS28
   have hzz28:(((l.set i { z11 with dr:=0 }).set i { { z11 with dr:=0 } with bdr:=0 }).set i { { { z11 with dr:=0 } with bdr:=0 } with bdr:=self })[i]? = some ({ { { z11 with dr:=0 } with bdr:=0 } with bdr:=self }):=iN hzz20
   refine rE [4,5,10] hk ?_
   clear hk
   intro a27 hk
   refine sg [1] hk ?_
   refine T ?_
   refine eC hk (h:=(jE A17 n c17 (((l.set i { z11 with dr:=0 }).set i { { z11 with dr:=0 } with bdr:=0 }).set i { { { z11 with dr:=0 } with bdr:=0 } with bdr:=self }) _ hn (hS28.rd (i:=0) rfl))) (k:=?_)
   rintro e w30 ⟨rfl,hb30⟩
   refine ⟨_,rfl,?_⟩
   have hS30:=hS28.below hb30
   clear hS28 hb30
   iterate 4 refine T ?_
   refine rE [4,5] hk ?_
   clear hk
   intro a29 hk
   refine wp_ret ?_
   refine rt2 hk (hR_ _ _ ?_)
   first | exact ⟨by rw [dO (by omega)],(hS30.old (by simp))⟩ | exact ⟨by rw [cU hi hz11 (by assumption) (by assumption)],(hS30.old (by simp))⟩ | (refine ⟨?_,(hS30.old (by simp))⟩;rw [cV hi hz11 (by simp_all)];simp only [np,List.set_set];simp_all)
  refine wp_skip ?_
  refine sg [1] hk ?_
  refine T ?_
  refine eC hk (h:=(jE A17 n c17 ((l.set i { z11 with dr:=0 }).set i { { z11 with dr:=0 } with bdr:=0 }) _ hn (hS20.rd (i:=0) rfl))) (k:=?_)
  rintro e w32 ⟨rfl,hb32⟩
  refine ⟨_,rfl,?_⟩
  have hS32:=hS20.below hb32
  clear hS20 hb32
  iterate 4 refine T ?_
  refine rE [4,5] hk ?_
  clear hk
  intro a31 hk
  refine wp_ret ?_
  refine rt2 hk (hR_ _ _ ?_)
  first | exact ⟨by rw [dO (by omega)],(hS32.old (by simp))⟩ | exact ⟨by rw [cU hi hz11 (by assumption) (by assumption)],(hS32.old (by simp))⟩ | (refine ⟨?_,(hS32.old (by simp))⟩;rw [cV hi hz11 (by simp_all)];simp only [np,List.set_set];simp_all)
 rw [hg8]
 refine oF 8 35 true [9,10,11,12,13,14,15,16] ?_
 refine T ?_
 refine rE [1,2,4,5,6,7,8,44] hk ?_
 clear hk
 intro a14 hk
 refine cF hk ?_
 refine wp_skip ?_
 refine sg [1] hk ?_
 refine T ?_
 refine eC hk (h:=lK A n c l _ hn (hR.old (hS13.old (by simp)))) (k:=?_)
 rintro e w34 ⟨A34,c34,rfl,ho34,hb34⟩
 refine ⟨_,rfl,?_⟩
 have hS34:=hS13.pushRow hb34 ho34
 clear hS13 hb34 ho34
 refine T ?_
 refine rE [2,4,5,6,7,8,10] hk ?_
 clear hk
 intro a33 hk
 refine sg [6,9] hk ?_
 iterate 4 refine T ?_
 obtain ⟨gA,hgA⟩:=hS34.rowAt (i:=0) rfl (by omega)
 refine rD (pt gA (i * 4)) (fun _ h_=>rk (az (size:=4) rfl (h_.x hk) hgA (h_.x hk) (by kernel_rfl) (by omega) (by simp))) ?_
 refine T ?_
 refine eF (fun a_ h_=>dj (k:=i * 4 + 2) (s:=4) (u:=i6 0) 0 hS34 hgA rfl (ae rfl) rfl (h_.x hk) rfl rfl (by kernel_rfl) (by omega) rfl fun w36 hS36=>⟨_,rfl,?_⟩)
 clear h_ a_ hS34
 replace hS36:=hS36
 rw [ch (z':={ z11 with dr:=0 }) CdV.cells_len hz11 (by omega) rfl] at hS36
 replace hS36:S (kap W) (aa (.slice A34 n c34) 161 4 n (ab CdV.cells (l.set i { z11 with dr:=0 }))::ai g12 161 #[i6 z11.id,i6 z11.prio,i6 z11.dr,i6 z11.bdr]::ai g3 3 #[i6 self]::[]) ((cA W W.heap.size)::[]) w36:=hS36
 have hzz36:(l.set i { z11 with dr:=0 })[i]? = some ({ z11 with dr:=0 }):=iN hz11
 refine rD (pt gA (i * 4)) (fun _ h_=>rk (az (size:=4) rfl (h_.x hk) hgA (h_.x hk) (by kernel_rfl) (by omega) (by simp))) ?_
 refine T ?_
 refine eF (fun a_ h_=>dj (k:=i * 4 + 3) (s:=4) (u:=i6 0) 0 hS36 hgA rfl (ae rfl) rfl (h_.x hk) rfl rfl (by kernel_rfl) (by omega) rfl fun w37 hS37=>⟨_,rfl,?_⟩)
 clear h_ a_ hS36
 replace hS37:=hS37
 rw [ch (z':={ { z11 with dr:=0 } with bdr:=0 }) CdV.cells_len hzz36 (by omega) rfl] at hS37
 replace hS37:S (kap W) ((aa (.slice A34 n c34) 161 4 n (ab CdV.cells ((l.set i { z11 with dr:=0 }).set i { { z11 with dr:=0 } with bdr:=0 })))::ai g12 161 #[i6 z11.id,i6 z11.prio,i6 z11.dr,i6 z11.bdr]::ai g3 3 #[i6 self]::[]) ((cA W W.heap.size)::[]) w37:=hS37
 have hzz37:((l.set i { z11 with dr:=0 }).set i { { z11 with dr:=0 } with bdr:=0 })[i]? = some ({ { z11 with dr:=0 } with bdr:=0 }):=iN hzz36
 refine rE [2,4,5,6,7,8,10] hk ?_
 clear hk
 intro a35 hk
 refine wp_seq ?_
 refine sg [] hk ?_
 refine T ?_
 refine LD 2 hk hS37 ?_
 refine T ?_
 refine rE [2,4,5,7,8,10,59] hk ?_
 clear hk
 intro a38 hk
 refine cD hk (fun hc59=>?_) (fun hc59=>?_)
 ·refine rgL [5] hk ?_
  iterate 2 refine T ?_
  refine LD 2 hk hS37 ?_
  refine rD (pt gA (i * 4)) (fun _ h_=>rk (az (size:=4) rfl (h_.x hk) hgA (h_.x hk) (by kernel_rfl) (by omega) (by simp))) ?_
  refine T ?_
  refine eF (fun a_ h_=>dj (k:=i * 4 + 2) (s:=4) (u:=i6 self) 0 hS37 hgA rfl (ae rfl) rfl (h_.x hk) (h_.x hk) rfl (by kernel_rfl) (by omega) rfl fun w40 hS40=>⟨_,rfl,?_⟩)
  clear h_ a_ hS37
  replace hS40:=hS40
  rw [ch (z':={ { { z11 with dr:=0 } with bdr:=0 } with dr:=self }) CdV.cells_len hzz37 (by omega) rfl] at hS40
  replace hS40:S (kap W) ((aa (.slice A34 n c34) 161 4 n (ab CdV.cells (((l.set i { z11 with dr:=0 }).set i { { z11 with dr:=0 } with bdr:=0 }).set i { { { z11 with dr:=0 } with bdr:=0 } with dr:=self })))::ai g12 161 #[i6 z11.id,i6 z11.prio,i6 z11.dr,i6 z11.bdr]::ai g3 3 #[i6 self]::[]) ((cA W W.heap.size)::[]) w40:=hS40
  have hzz40:(((l.set i { z11 with dr:=0 }).set i { { z11 with dr:=0 } with bdr:=0 }).set i { { { z11 with dr:=0 } with bdr:=0 } with dr:=self })[i]? = some ({ { { z11 with dr:=0 } with bdr:=0 } with dr:=self }):=iN hzz37
  refine rE [4,5,10] hk ?_
  clear hk
  intro a39 hk
  refine sg [1] hk ?_
  refine T ?_
  refine eC hk (h:=(jE A34 n c34 (((l.set i { z11 with dr:=0 }).set i { { z11 with dr:=0 } with bdr:=0 }).set i { { { z11 with dr:=0 } with bdr:=0 } with dr:=self }) _ hn (hS40.rd (i:=0) rfl))) (k:=?_)
  rintro e w42 ⟨rfl,hb42⟩
  refine ⟨_,rfl,?_⟩
  have hS42:=hS40.below hb42
  clear hS40 hb42
  iterate 4 refine T ?_
  refine rE [4,5] hk ?_
  clear hk
  intro a41 hk
  refine wp_ret ?_
  refine rt2 hk (hR_ _ _ ?_)
  first | exact ⟨by rw [dO (by omega)],(hS42.old (by simp))⟩ | exact ⟨by rw [cU hi hz11 (by assumption) (by assumption)],(hS42.old (by simp))⟩ | (refine ⟨?_,(hS42.old (by simp))⟩;rw [cV hi hz11 (by simp_all)];simp only [np,List.set_set];simp_all)
 refine sg [] hk ?_
 refine T ?_
 refine LD 2 hk hS37 ?_
 refine T ?_
 refine rE [2,4,5,8,10,67] hk ?_
 clear hk
 intro a43 hk
 refine cD hk (fun hc67=>?_) (fun hc67=>?_)
 ·refine rgL [5] hk ?_
  iterate 2 refine T ?_
  refine LD 2 hk hS37 ?_
  refine rD (pt gA (i * 4)) (fun _ h_=>rk (az (size:=4) rfl (h_.x hk) hgA (h_.x hk) (by kernel_rfl) (by omega) (by simp))) ?_
  refine T ?_
  refine eF (fun a_ h_=>dj (k:=i * 4 + 3) (s:=4) (u:=i6 self) 0 hS37 hgA rfl (ae rfl) rfl (h_.x hk) (h_.x hk) rfl (by kernel_rfl) (by omega) rfl fun w45 hS45=>⟨_,rfl,?_⟩)
  clear h_ a_ hS37
  replace hS45:=hS45
  rw [ch (z':={ { { z11 with dr:=0 } with bdr:=0 } with bdr:=self }) CdV.cells_len hzz37 (by omega) rfl] at hS45
  replace hS45:S (kap W) ((aa (.slice A34 n c34) 161 4 n (ab CdV.cells (((l.set i { z11 with dr:=0 }).set i { { z11 with dr:=0 } with bdr:=0 }).set i { { { z11 with dr:=0 } with bdr:=0 } with bdr:=self })))::ai g12 161 #[i6 z11.id,i6 z11.prio,i6 z11.dr,i6 z11.bdr]::ai g3 3 #[i6 self]::[]) ((cA W W.heap.size)::[]) w45:=hS45
  have hzz45:(((l.set i { z11 with dr:=0 }).set i { { z11 with dr:=0 } with bdr:=0 }).set i { { { z11 with dr:=0 } with bdr:=0 } with bdr:=self })[i]? = some ({ { { z11 with dr:=0 } with bdr:=0 } with bdr:=self }):=iN hzz37
  refine rE [4,5,10] hk ?_
  clear hk
  intro a44 hk
  refine sg [1] hk ?_
  refine T ?_
  refine eC hk (h:=(jE A34 n c34 (((l.set i { z11 with dr:=0 }).set i { { z11 with dr:=0 } with bdr:=0 }).set i { { { z11 with dr:=0 } with bdr:=0 } with bdr:=self }) _ hn (hS45.rd (i:=0) rfl))) (k:=?_)
  rintro e w47 ⟨rfl,hb47⟩
  refine ⟨_,rfl,?_⟩
  have hS47:=hS45.below hb47
  clear hS45 hb47
  iterate 4 refine T ?_
  refine rE [4,5] hk ?_
  clear hk
  intro a46 hk
  refine wp_ret ?_
  refine rt2 hk (hR_ _ _ ?_)
  first | exact ⟨by rw [dO (by omega)],(hS47.old (by simp))⟩ | exact ⟨by rw [cU hi hz11 (by assumption) (by assumption)],(hS47.old (by simp))⟩ | (refine ⟨?_,(hS47.old (by simp))⟩;rw [cV hi hz11 (by simp_all)];simp only [np,List.set_set];simp_all)
 refine wp_skip ?_
 refine sg [1] hk ?_
 refine T ?_
 refine eC hk (h:=(jE A34 n c34 ((l.set i { z11 with dr:=0 }).set i { { z11 with dr:=0 } with bdr:=0 }) _ hn (hS37.rd (i:=0) rfl))) (k:=?_)
 rintro e w49 ⟨rfl,hb49⟩
 refine ⟨_,rfl,?_⟩
 have hS49:=hS37.below hb49
 clear hS37 hb49
 iterate 4 refine T ?_
 refine rE [4,5] hk ?_
 clear hk
 intro a48 hk
 refine wp_ret ?_
 refine rt2 hk (hR_ _ _ ?_)
 first | exact ⟨by rw [dO (by omega)],(hS49.old (by simp))⟩ | exact ⟨by rw [cU hi hz11 (by assumption) (by assumption)],(hS49.old (by simp))⟩ | (refine ⟨?_,(hS49.old (by simp))⟩;rw [cV hi hz11 (by simp_all)];simp only [np,List.set_set];simp_all)
end
section
def Ents {α β:Type} (ek:α → Value) (ev:β → Value) (l:List (α × β)) (es:List MapEntry):Prop:=es.map (fun e=>(e.key,e.val)) = l.map (fun p=>(ek p.1,ev p.2))
def dE {α β:Type} [DecidableEq α] (ev:β → Value) (x:α):List (α × β) → Nat → Option (Nat × Value)
  | [],_=>none
  | (k,v)::l,i=>if x = k then some (i,ev v) else dE ev x l (i + 1)
structure KeyK {α:Type} [DecidableEq α] (P:Program) (K:TypeId) (ek:α → Value):Prop where
  chk:∀ (e:Bool) (a:α) (w:World),(Instr.checkKey e 10000 K (ek a)).run P w = .ok () w
  bits:∀ a,Instr.sameBits 10000 (ek a) (ek a) = true
  find:∀ {β:Type} (ev:β → Value) (l:List (α × β)) (es:List MapEntry) (x:α) (w:World),Ents ek ev l es → (Instr.findKey K (ek x) es).run P w = .ok (dE ev x l 0) w
section
variable {α β:Type} {ek:α → Value} {ev:β → Value}
theorem Ents.cons_inv {p:α × β} {l:List (α × β)} {es:List MapEntry} (h:Ents ek ev (p::l) es):∃ e es',es = e::es'∧e.key = ek p.1∧e.val = ev p.2∧Ents ek ev l es':=by
  cases es with
  | nil=>cases h
  | cons e es=>
    simp only [Ents,List.map_cons,List.cons.injEq,Prod.mk.injEq] at h
    exact ⟨e,es,rfl,h.1.1,h.1.2,h.2⟩
theorem Ents.nil_inv {es:List MapEntry} (h:Ents ek ev ([]:List (α × β)) es):es = []:=by
  cases es with
  | nil=>rfl
  | cons e es=>cases h
end
section
variable {α β:Type} [DecidableEq α] {P:Program} {K:TypeId} {ek:α → Value} {ev:β → Value}
theorem il (heq:∀ (a b:α) (w:World),(Op.equal K (ek a) (ek b)).run P w = .ok (decide (a = b)) w):∀ (l:List (α × β)) (es:List MapEntry) (i:Nat) (x:α) (w:World),Ents ek ev l es → (Instr.findAsking K (ek x) es i).run P w = .ok (dE ev x l i) w
  | [],es,i,x,w,h=>by
    rw [h.nil_inv];rfl
  | (k,v)::l,es,i,x,w,h=>by
    obtain ⟨e,es',rfl,h1,h2,h3⟩:=h.cons_inv
    simp only [Instr.findAsking,Sem.run_bind,h1,heq,Result.andThen,dE]
    by_cases hx:x = k
    · simp [hx,h2]
    · simp only [hx,decide_false,Bool.false_eq_true,if_false]
      exact il heq l es' (i + 1) x w h3
theorem KeyK.ofStruct {fs:Array Field} (hu:P.underlying K = some (.struct fs)) (heq:∀ (a b:α) (w:World),(Op.equal K (ek a) (ek b)).run P w = .ok (decide (a = b)) w)
    (hchk:∀ (e:Bool) (a:α) (w:World),(Instr.checkKey e 10000 K (ek a)).run P w = .ok () w) (hbits:∀ a,Instr.sameBits 10000 (ek a) (ek a) = true):KeyK P K ek where
  chk:=hchk
  bits:=hbits
  find:=fun {β} ev l es x w h=>by
    have hn:Instr.findNow (.struct fs) (ek x) es 0 = none ∨ es = []:=by
      cases es with
      | nil=>exact .inr rfl
      | cons e es=>left;simp [Instr.findNow,Instr.sameNow]
    rcases hn with hn | rfl
    · simp only [Instr.findKey,Sem.run_bind,run_underlying hu,Result.andThen,hn]
      exact il heq l es 0 x w h
    · cases l with
      | nil=>simp [Instr.findKey,run_underlying hu,Result.andThen,Instr.findNow,dE]
      | cons p l=>cases h
theorem lR {q:IntKind} {qv:IntKind} {f:α → Int} (hf:∀ a b,(f a == f b) = decide (a = b)):∀ (l:List (α × β)) (es:List MapEntry) (i:Nat) (x:α),Ents (fun a=>.int q (f a)) ev l es → Instr.findNow (.int qv) (.int q (f x)) es i = some (dE ev x l i)
  | [],es,i,x,h=>by rw [h.nil_inv];rfl
  | (k,v)::l,es,i,x,h=>by
    obtain ⟨e,es',rfl,h1,h2,h3⟩:=h.cons_inv
    simp only at h1
    simp only [Instr.findNow,h1,Instr.sameNow,if_true,hf,dE]
    by_cases hx:x = k
    · simp [hx,h2]
    · simp only [hx,decide_false,if_false]
      exact lR hf l es' (i + 1) x h3
theorem KeyK.ofInt (hu:P.underlying K = some (.int .i64)):KeyK P K (fun a:Int=>.int .i64 a) where
  chk:=fun e a w=>by unfold Instr.checkKey;simp [run_underlying hu,Result.andThen]
  bits:=fun a=>by unfold Instr.sameBits;simp
  find:=fun {β} ev l es x w h=>by
    have:=lR (q:=.i64) (qv:=.i64) (f:=fun a:Int=>a) (fun a b=>by by_cases h:a = b <;> simp [h]) l es 0 x h
    simp [Instr.findKey,run_underlying hu,Result.andThen,this]
def au (x:α):List (α × β) → Option β
  | []=>none
  | (k,v)::l=>if x = k then some v else au x l
theorem jD (x:α):∀ (l:List (α × β)) (i:Nat),(dE ev x l i).map (·.2) = (au x l).map ev
  | [],_=>rfl
  | (k,v)::l,i=>by
    unfold dE au
    split
    · rfl
    · exact jD x l _
def aV (x:α) (u:β):List (α × β) → List (α × β)
  | []=>[(x,u)]
  | (k,v)::l=>if x = k then (x,u)::l else (k,v)::aV x u l
def bS (x:α):List (α × β) → List (α × β)
  | []=>[]
  | (k,v)::l=>if x = k then l else (k,v)::bS x l
theorem gF {x:α}:∀ {l:List (α × β)} {i:Nat},dE ev x l i = none → au x l = none∧(∀ u:β,aV x u l = l ++ [(x,u)])∧bS x l = l
  | [],_,_=>⟨rfl,fun _=>rfl,rfl⟩
  | (k,v)::l,i,h=>by
    unfold dE at h
    split at h
    · cases h
    · rename_i hx
      obtain ⟨h1,h2,h3⟩:=gF h
      simp [au,aV,bS,hx,h1,h2,h3]
theorem cY {x:α} {j:Nat} {u:Value}:∀ {l:List (α × β)} {i:Nat},dE ev x l i = some (j,u) → i ≤ j∧(∃ v,l[j - i]? = some (x,v)∧u = ev v∧au x l = some v)∧(∀ u:β,aV x u l = l.set (j - i) (x,u))∧bS x l = l.eraseIdx (j - i)
  | [],_,h=>by cases h
  | (k,v)::l,i,h=>by
    unfold dE at h
    split at h
    · rename_i hx
      simp only [Option.some.injEq,Prod.mk.injEq] at h
      obtain ⟨rfl,rfl⟩:=h
      subst hx
      simp [au,aV,bS]
    · rename_i hx
      obtain ⟨h0,⟨v',h1,h2,h3⟩,h4,h5⟩:=cY h
      have e:j - i = (j - (i + 1)) + 1:=by omega
      refine ⟨by omega,⟨v',by rw [e];simpa using h1,h2,by simp [au,hx,h3]⟩,fun u=>?_,?_⟩
      · rw [e];simp [aV,hx,h4 u]
      · rw [e];simp [bS,hx,h5]
theorem vQ {x:α} {u:β} {l:List (α × β)}:(aV x u l).map (·.1) = if au x l = none then l.map (·.1) ++ [x] else l.map (·.1):=by
  induction l with
  | nil=>rfl
  | cons p l ih=>
    obtain ⟨k,v⟩:=p
    unfold aV au
    split
    · rename_i h;subst h;simp
    · simp only [List.map_cons,ih];split <;> simp
theorem gL {x:α} {l:List (α × β)}:au x l = none ↔ x ∉ l.map (·.1):=by
  induction l with
  | nil=>simp [au]
  | cons p l ih=>
    obtain ⟨k,v⟩:=p
    unfold au
    split
    · rename_i h;subst h;simp
    · rename_i h;simp [ih,h]
theorem nD {x:α} {u:β} {l:List (α × β)} (h:(l.map (·.1)).Nodup):((aV x u l).map (·.1)).Nodup:=by
  rw [vQ]
  split
  · rename_i hn
    rw [gL] at hn
    exact List.nodup_append.2 ⟨h,by simp,fun a ha b hb=>by simp at hb;subst hb;exact fun e=>hn (e ▸ ha)⟩
  · exact h
theorem ij {x:α}:∀ l:List (α × β),(bS x l).Sublist l
  | []=>List.Sublist.slnil
  | (k,v)::l=>by
    unfold bS
    split
    · exact List.sublist_cons_self _ _
    · exact (ij l).cons_cons _
theorem sG {x:α} {l:List (α × β)} (h:(l.map (·.1)).Nodup):((bS x l).map (·.1)).Nodup:=h.sublist ((ij l).map _)
structure MapOK (ek:α → Value) (ev:β → Value) (l:List (α × β)) (es:Array MapEntry) (clock:Nat):Prop where
  ents:Ents ek ev l es.toList
  nodup:(l.map (·.1)).Nodup
  rise:(es.toList.map (·.born)).Pairwise (· < ·)
  late:∀ e ∈ es.toList,e.born < clock
def bq (ek:α → Value) (ev:β → Value) (b:Nat) (l:List (α × β)):Atom where
  holds w fp:=fp = [b]∧∃ es clock,w.heap[b]? = some (.map es clock)∧MapOK ek ev l es clock
  loc:=fun ⟨h1,es,c,h2,h3⟩ hb=>⟨h1,es,c,(hb _ (by rw [h1];simp)).trans h2,h3⟩
  dom:=fun ⟨h1,es,c,h2,h3⟩ b hb=>by rw [h1] at hb;simp at hb;subst hb;exact (Array.getElem?_eq_some_iff.1 h2).1
theorem MapOK.put_new {l:List (α × β)} {es:Array MapEntry} {clock:Nat} {x:α} {u:β} (h:MapOK ek ev l es clock) (hn:dE ev x l 0 = none):MapOK ek ev (aV x u l) (es.push { key:=ek x,val:=ev u,born:=clock }) (clock + 1) where
  ents:=by
    have h2:=h.ents
    rw [(gF hn).2.1 u]
    unfold Ents at h2 ⊢
    rw [Array.toList_push,List.map_append,List.map_append,h2]
    rfl
  nodup:=nD h.nodup
  rise:=by
    simp only [Array.toList_push,List.map_append,List.map_cons,List.map_nil,List.pairwise_append]
    refine ⟨h.rise,by simp,fun a ha b hb=>?_⟩
    simp only [List.mem_singleton] at hb;subst hb
    obtain ⟨e,he,rfl⟩:=List.mem_map.1 ha
    exact h.late e he
  late:=fun e he=>by
    simp only [Array.toList_push,List.mem_append,List.mem_singleton] at he
    rcases he with he | rfl
    · exact Nat.lt_succ_of_lt (h.late e he)
    · exact Nat.lt_succ_self _
theorem iu (l:List MapEntry) (j:Nat) (k v:Value):(l.modify j fun e=>{ e with key:=k,val:=v }).map (·.born) = l.map (·.born):=by
  induction l generalizing j with
  | nil=>simp
  | cons e l ih=>cases j <;> simp [List.modify_cons,ih]
theorem rg (l:List MapEntry) (j:Nat) (k v:Value):(l.modify j fun e=>{ e with key:=k,val:=v }).map (fun e=>(e.key,e.val)) = (l.map (fun e=>(e.key,e.val))).set j (k,v):=by
  induction l generalizing j with
  | nil=>simp
  | cons e l ih=>cases j <;> simp [List.modify_cons,ih]
theorem MapOK.put_old {l:List (α × β)} {es:Array MapEntry} {clock j:Nat} {x:α} {u:β} {o:Value} (h:MapOK ek ev l es clock) (hn:dE ev x l 0 = some (j,o)):MapOK ek ev (aV x u l) (es.modify j fun e=>{ e with key:=ek x,val:=ev u }) clock where
  ents:=by
    have h1:=(cY hn).2.2.1 u
    rw [Nat.sub_zero] at h1
    rw [h1]
    unfold Ents
    rw [Array.toList_modify,rg,h.ents,List.map_set]
  nodup:=nD h.nodup
  rise:=by rw [Array.toList_modify,iu];exact h.rise
  late:=fun e he=>by
    rw [Array.toList_modify] at he
    have:e.born ∈ es.toList.map (·.born):=by
      rw [← iu es.toList j (ek x) (ev u)];exact List.mem_map_of_mem he
    obtain ⟨e',he',e2⟩:=List.mem_map.1 this
    rw [← e2];exact h.late e' he'
theorem la {γ δ:Type} (f:γ → δ):∀ (l:List γ) (j:Nat),(l.eraseIdx j).map f = (l.map f).eraseIdx j
  | [],_=>by simp
  | _::_,0=>by simp
  | x::l,j + 1=>by simp [la f l j]
theorem MapOK.del {l:List (α × β)} {es:Array MapEntry} {clock j:Nat} {x:α} {o:Value} (h:MapOK ek ev l es clock) (hn:dE ev x l 0 = some (j,o)):MapOK ek ev (bS x l) (es.eraseIdxIfInBounds j) clock:=by
  have h1:=(cY hn).2.2.2
  rw [Nat.sub_zero] at h1
  have e:(es.eraseIdxIfInBounds j).toList = es.toList.eraseIdx j:=by simp
  have hs:=List.eraseIdx_sublist es.toList j
  refine ⟨?_,sG h.nodup,?_,?_⟩
  · rw [h1];unfold Ents;rw [e,la,h.ents,la]
  · rw [e];exact h.rise.sublist (hs.map _)
  · rw [e];exact fun x hx=>h.late x (hs.subset hx)
end
section
variable {α β:Type} {ek:α → Value} {ev:β → Value} {κ:Kap} {L I:List Atom} {w:World} {b i:Nat} {l:List (α × β)}
theorem MapOK.size {es:Array MapEntry} {clock:Nat} (h:MapOK ek ev l es clock):es.size = l.length:=by
  have:=congrArg List.length h.ents
  simpa using this
theorem S.mapAt (hS:S κ L I w) (hi:L[i]? = some (bq ek ev b l)):∃ es clock,w.heap[b]? = some (.map es clock)∧MapOK ek ev l es clock:=(hS.own hi).elim fun _ h=>h.2
theorem S.mapTurn {es':Array MapEntry} {clock':Nat} {l':List (α × β)} (hS:S κ L I w) (hi:L[i]? = some (bq ek ev b l)) (hm:MapOK ek ev l' es' clock'):S κ (L.set i (bq ek ev b l')) I { w with heap:=w.heap.setIfInBounds b (.map es' clock') }:=by
  refine S.back ?_ hi
  obtain ⟨f,⟨hf,es,c,hb,hok⟩,h⟩:=(hS.front hi).turn
  have hs:=MapKept.heap_set (o':=Obj.map es' clock') hb
  refine h _ _ [b] ⟨rfl,es',clock',hs.1,hm⟩ rfl (by simp) (fun b hb=>.inl (by rw [hf];exact hb)) (fun b' _ hn=>hs.2 b' (fun e=>hn (by rw [hf,e];simp)))
end
section
variable {α β:Type} [DecidableEq α] {P:Program} {K T E:TypeId} {ek:α → Value} {ev:β → Value} {w:World} {b:Nat} {l:List (α × β)}
theorem l7 (hK:KeyK P K ek) (ht:P.underlying T = some (.map K E)) {z:Value} (hz:∀ w,(zeroValue E).run P w = .ok z w) (c:Bool) (h:∃ es clock,w.heap[b]? = some (.map es clock)∧MapOK ek ev l es clock) (x:α):
    (Instr.lookup T (.map (some b)) (ek x) c).run P w = .ok (if c then .tuple #[((au x l).map ev).getD z,.bool (au x l).isSome] else ((au x l).map ev).getD z) w:=by
  obtain ⟨es,clock,hb,hok⟩:=h
  have hf:=hK.find ev l es.toList x w hok.ents
  have hl:=jD (ev:=ev) x l 0
  unfold Instr.lookup
  simp only [Sem.run_bind,run_underlying ht,Result.andThen,MapKept.run_getObj_map hb,Sem.run_pure,hK.chk,hf]
  cases hq:dE ev x l 0 with
  | none=>
    rw [hq] at hl
    have hn:au x l = none:=by simpa using hl.symm
    simp [hn,hz,Result.andThen]
  | some p=>
    obtain ⟨j,u⟩:=p
    obtain ⟨v,_,e1,e2⟩:=(cY hq).2.1
    simp [e2,e1]
theorem tC (hK:KeyK P K ek) (ht:P.underlying T = some (.map K E)) (hb:∃ es clock,w.heap[b]? = some (.map es clock)∧MapOK ek ev l es clock) (x:α) (u:β):
    ∃ es' clock',(Instr.mapUpdate T (.map (some b)) (ek x) (ev u)).run P w = .ok () { w with heap:=w.heap.setIfInBounds b (.map es' clock') }∧MapOK ek ev (aV x u l) es' clock':=by
  obtain ⟨es,clock,hb,hok⟩:=hb
  have hf:=hK.find ev l es.toList x w hok.ents
  cases hq:dE ev x l 0 with
  | none=>
    rw [hq] at hf
    refine ⟨_,_,?_,hok.put_new hq⟩
    simp [Instr.mapUpdate,run_underlying ht,MapKept.run_getObj_map hb,hK.chk,hf,MapKept.run_setObj_map _ hb,Result.andThen]
  | some p=>
    obtain ⟨j,o⟩:=p
    rw [hq] at hf
    refine ⟨_,_,?_,hok.put_old hq⟩
    obtain ⟨v,e0,_,_⟩:=(cY hq).2.1
    rw [Nat.sub_zero] at e0
    have hek:((es[j]?).map (·.key)).getD (ek x) = ek x:=by
      have h1:(es.toList.map (fun e=>(e.key,e.val)))[j]? = some (ek x,ev v):=by rw [hok.ents,List.getElem?_map,e0];rfl
      rw [List.getElem?_map] at h1
      obtain ⟨e,he,h2⟩:=Option.map_eq_some_iff.1 h1
      have he':es[j]? = some e:=by simpa using he
      rw [he'];exact (Prod.mk.inj h2).1
    have hst:(Instr.keyThatStays (ek x) (ek x)).run P w = .ok (ek x) w:=by simp [Instr.keyThatStays,hK.bits x]
    simp [Instr.mapUpdate,run_underlying ht,MapKept.run_getObj_map hb,hK.chk,hf,hek,hst,MapKept.run_setObj_map _ hb,Result.andThen]
theorem tB (hK:KeyK P K ek) (ht:P.underlying T = some (.map K E)) (hb:∃ es clock,w.heap[b]? = some (.map es clock)∧MapOK ek ev l es clock) (x:α) (ts:Array TypeId) (hts:ts[0]? = some T) (ty:TypeId):
    ∃ es' clock',(Builtin.delete_ ts ty #[.map (some b),ek x]).run P w = .ok (.tuple #[]) { w with heap:=w.heap.setIfInBounds b (.map es' clock') }∧MapOK ek ev (bS x l) es' clock':=by
  obtain ⟨es,clock,hb,hok⟩:=hb
  have hf:=hK.find ev l es.toList x w hok.ents
  cases hq:dE ev x l 0 with
  | none=>
    rw [hq] at hf
    refine ⟨es,clock,?_,by rw [(gF hq).2.2];exact hok⟩
    simp [Builtin.delete_,hts,run_underlying ht,MapKept.run_getObj_map hb,hK.chk,hf,MapKept.run_setObj_map _ hb,Result.andThen]
  | some p=>
    obtain ⟨j,o⟩:=p
    rw [hq] at hf
    refine ⟨_,_,?_,hok.del hq⟩
    simp [Builtin.delete_,hts,run_underlying ht,MapKept.run_getObj_map hb,hK.chk,hf,MapKept.run_setObj_map _ hb,Result.andThen]
end
section
variable {α β:Type} {P:Program} {κ:Kap} {L I:List Atom} {w:World} {ops:Array Oper} {Q:Exit → Act → World → Prop} {o:Oper} {a:Act} {KK:Act → World → Prop} {EE:Prop}
theorem bV (ek:α → Value) (ev:β → Value) {t:TypeId} (hS:S κ L I w) (hw:Region.wanted o (yielded ops a.tmps) = true) (ho:o.op = .makeMap t none)
    (h:∀ g w',S κ (bq ek ev g ([]:List (α × β))::L) I w' → Below w.heap.size w w' → KK (a.put o.dst (.map (some g))) w'):if Region.wanted o (yielded ops a.tmps) = true then o.wp P a w KK Q else EE:=by
  have hr:(execOp a.eval o).run P w = .ok (.value (.map (some w.heap.size))) (w.alloc (.map #[] 0)):=by
    unfold execOp;simp only [ho];rfl
  refine aT hw hr (h _ _ (hS.push (aC w _) (f:=[w.heap.size]) ⟨rfl,#[],0,(MapKept.heap_alloc w _).1,⟨rfl,List.nodup_nil,List.Pairwise.nil,fun e he=>by cases he⟩⟩ (by simp)) (aC w _))
end
section
variable {α β:Type} [DecidableEq α] {P:Program} {K T E:TypeId} {ek:α → Value} {ev:β → Value} {κ:Kap} {L I:List Atom} {w:World} {b:Nat} {l:List (α × β)} {ops:Array Oper} {Q:Exit → Act → World → Prop} {o:Oper} {a:Act} {KK:Act → World → Prop} {EE:Prop}
theorem cL {t:TypeId} {m y v:Operand} (i:Nat) (x:α) (u:β) (hK:KeyK P K ek) (hS:S κ L I w) (hw:Region.wanted o (yielded ops a.tmps) = true) (ho:o.op = .mapUpdate t m y v ∨ o.op = .insert t m y v) (hm:a.eval m = .map (some b)) (hy:a.eval y = ek x) (hv:a.eval v = ev u)
    (h:∀ w',S κ (L.set i (bq ek ev b (aV x u l))) I w' → KK (a.put o.dst undef) w') (hi:L[i]? = some (bq ek ev b l):=by rfl) (ht:P.underlying t = some (.map K E):=by kernel_rfl):if Region.wanted o (yielded ops a.tmps) = true then o.wp P a w KK Q else EE:=by
  obtain ⟨es',c',hr,hok⟩:=tC hK ht (hS.mapAt hi) x u
  refine gx hw ?_ (h _ (hS.mapTurn hi hok))
  unfold execOp
  rcases ho with ho | ho <;> simp only [ho] <;> rw [hm,hy,hv] <;> simp [hr,Result.andThen]
theorem lB {m y:Operand} {t:TypeId} {ts:Array TypeId} (i:Nat) (x:α) (hK:KeyK P K ek) (hS:S κ L I w) (hw:Region.wanted o (yielded ops a.tmps) = true) (ho:o.op = .call { callee:=.builtin .delete,args:=#[m,y],argTypes:=ts }) (hm:a.eval m = .map (some b)) (hy:a.eval y = ek x)
    (h:∀ w',S κ (L.set i (bq ek ev b (bS x l))) I w' → KK (a.put o.dst (.tuple #[])) w') (hi:L[i]? = some (bq ek ev b l):=by rfl) (hts:ts[0]? = some t:=by rfl) (ht:P.underlying t = some (.map K E):=by kernel_rfl):if Region.wanted o (yielded ops a.tmps) = true then o.wp P a w KK Q else EE:=by
  obtain ⟨es',c',hr,hok⟩:=tB hK ht (hS.mapAt hi) x ts hts o.type
  refine aT hw ?_ (h _ (hS.mapTurn hi hok))
  unfold execOp
  simp only [ho,resolve,invoke,builtin,Sem.run_bind,Sem.run_pure,Result.andThen_ok,List.map_toArray,List.map_cons,List.map_nil,hm,hy,hr]
theorem bH {m y:Operand} {t:TypeId} {z r:Value} (x:α) (hK:KeyK P K ek) (h:∃ es clock,w.heap[b]? = some (.map es clock)∧MapOK ek ev l es clock) (ho:o.op = .lookup t m y true) (hm:a.eval m = .map (some b)) (hy:a.eval y = ek x) (hr:Value.tuple #[((au x l).map ev).getD z,.bool (au x l).isSome] = r)
    (ht:P.underlying t = some (.map K E):=by kernel_rfl) (hz:∀ w,(zeroValue E).run P w = .ok z w:=by intro w;rfl):(execOp a.eval o).run P w = .ok (.value r) w:=by
  have:=l7 hK ht hz true h x
  unfold execOp;simp only [ho];rw [hm,hy]
  simp only [if_true] at this
  simp only [Sem.run_bind,this,Result.andThen,Sem.run_pure]
  rw [hr]
theorem lw {m y:Operand} {t:TypeId} {z r:Value} (x:α) (hK:KeyK P K ek) (h:∃ es clock,w.heap[b]? = some (.map es clock)∧MapOK ek ev l es clock) (ho:o.op = .lookup t m y false) (hm:a.eval m = .map (some b)) (hy:a.eval y = ek x) (hr:((au x l).map ev).getD z = r)
    (ht:P.underlying t = some (.map K E):=by kernel_rfl) (hz:∀ w,(zeroValue E).run P w = .ok z w:=by intro w;rfl):(execOp a.eval o).run P w = .ok (.value r) w:=by
  have:=l7 hK ht hz false h x
  unfold execOp;simp only [ho];rw [hm,hy]
  simp only [Bool.false_eq_true,if_false] at this
  simp only [Sem.run_bind,this,Result.andThen,Sem.run_pure]
  rw [hr]
end
end
end Go.Proofs.YtehpdklphhmbgaaGreatDoor
