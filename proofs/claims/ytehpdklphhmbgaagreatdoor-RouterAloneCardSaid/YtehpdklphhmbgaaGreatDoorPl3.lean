/-
  Part 3 of what lies behind the statement: the model of the program in words of its own, and its walks. No conditions of its own.
-/
import Derived.Test.YtehpdklphhmbgaaGreatDoorPl2
namespace Go.Proofs.YtehpdklphhmbgaaGreatDoor
open Go.RowKit
set_option linter.unusedVariables false
set_option linter.unusedSimpArgs false
section
set_option maxRecDepth 100000
set_option maxHeartbeats 8000000
theorem qX {α β:Type} [DecidableEq α] {x:α} {v:β}:∀ {l:List (α × β)},au x l = some v → (x,v) ∈ l
  | [],h=>by cases h
  | (k,u)::l,h=>by
    unfold au at h
    split at h
    · rename_i e;subst e;cases h;exact List.mem_cons_self
    · exact List.mem_cons_of_mem _ (qX h)
def sr (a b:Int):Nat:=(floatBits .sub .f64 (floatOfInt .f64 a) (floatOfInt .f64 b)).getD 0
def fGt (x y:Nat):Bool:=FloatKind.f64.format.order x y == some Ordering.gt
def fLt (x y:Nat):Bool:=FloatKind.f64.format.order x y == some Ordering.lt
theorem yv:∀ a b:_root_.Fin 61,floatBits .sub .f64 (floatOfInt .f64 (a.val:Int)) (floatOfInt .f64 (b.val:Int)) = some (sr a.val b.val)∧fGt (sr a.val b.val) 4618441417868443648 = decide ((a.val:Int) - b.val > 6)∧fLt (sr a.val b.val) 13841813454723219456 = decide ((a.val:Int) - b.val < -6):=by decide +kernel
def cP (h:HD):Prop:=0 ≤ h.age∧h.age ≤ 60
theorem ss {a b:HD} (ha:cP a) (hb:cP b):floatBits .sub .f64 (floatOfInt .f64 a.age) (floatOfInt .f64 b.age) = some (sr a.age b.age)∧fGt (sr a.age b.age) 4618441417868443648 = decide (a.age - b.age > 6)∧fLt (sr a.age b.age) 13841813454723219456 = decide (a.age - b.age < -6):=by
  have h:=yv ⟨a.age.toNat,by have:=ha.2;have:=ha.1;omega⟩ ⟨b.age.toNat,by have:=hb.2;have:=hb.1;omega⟩
  have e1:((a.age.toNat:Nat):Int) = a.age:=Int.toNat_of_nonneg ha.1
  have e2:((b.age.toNat:Nat):Int) = b.age:=Int.toNat_of_nonneg hb.1
  simp only [e1,e2] at h
  exact h
section
variable {P:Program} {o:Oper} {a:Act} {w:World}
theorem uz {x:Operand} {src dst:TypeId} {k:IntKind} {n:Int} (ho:o.op = .convert src dst x) (hx:a.eval x = .int k n) (ht:P.underlying dst = some (.float .f64)) (hs:(P.underlying src).isSome = true):(execOp a.eval o).run P w = .ok (.value (.float .f64 (floatOfInt .f64 n))) w:=by
  unfold execOp;simp only [ho];rw [hx]
  simp [run_convert_int_float _ _ _ _ _ _ hs ht,Result.andThen]
theorem xP {x y:Operand} {t t':TypeId} {p q r:Nat} (ho:o.op = .binOp .sub t x y t') (hx:a.eval x = .float .f64 p) (hy:a.eval y = .float .f64 q) (h:floatBits .sub .f64 p q = some r):(execOp a.eval o).run P w = .ok (.value (.float .f64 r)) w:=
  aq ho hx hy (fun _=>rfl) (fun w=>run_float_arith w .sub t .f64 p q r h)
theorem zg {x y:Operand} {t t':TypeId} {p q:Nat} {b:Bool} (ho:o.op = .binOp .gtr t x y t') (hx:a.eval x = .float .f64 p) (hy:a.eval y = .float .f64 q) (h:fGt p q = b):(execOp a.eval o).run P w = .ok (.value (.bool b)) w:=
  aq ho hx hy (fun _=>rfl) (fun w=>by rw [← h];rfl)
theorem zh {x y:Operand} {t t':TypeId} {p q:Nat} {b:Bool} (ho:o.op = .binOp .lss t x y t') (hx:a.eval x = .float .f64 p) (hy:a.eval y = .float .f64 q) (h:fLt p q = b):(execOp a.eval o).run P w = .ok (.value (.bool b)) w:=
  aq ho hx hy (fun _=>rfl) (fun w=>by rw [← h];rfl)
end
def na (n:Int):Bool:=decide ((n:Int) ≠ n)
theorem oI {κ:Kap} {L I:List Atom} (n:Int) (W:World) (hS:S κ (L) (I) W):
    Calls Tryz.prog 207 #[i6 n] W (fun r w'=>r = .returned (.bool (na n))∧S κ (L) (I) w'):=by
 generalize ht:(na n) = t_
 refine wK 6 Tryz.func207 (fun R_ hR_ a hk=>?_)
 refine sg [] hk ?_
 refine T ?_
 refine rE [0] hk fun a hk=>?_
 refine sg [] hk ?_
 iterate 4 refine T ?_
 refine rE [2] hk fun a hk=>?_
 refine wp_ret ?_
 subst ht
 exact rt1 hk (hR_ _ _ ⟨rfl,hS⟩)
def bN (x:Int) (y:Int):Int:=cond (na x) (cond (na y) (0) (-1)) (cond (na y) (1) (if (x:Int) < y then -1 else if (y:Int) < x then 1 else 0))
theorem eL {κ:Kap} {L I:List Atom} (x:Int) (y:Int) (W:World) (hS:S κ (L) (I) W):
    Calls Tryz.prog 127 #[i6 x,i6 y] W (fun r w'=>r = .returned (i6 (bN x y))∧S κ (L) (I) w'):=by
 generalize ht:(bN x y) = t_
 refine wK 20 Tryz.func127 (fun R_ hR_ a hk=>?_)
 refine sg [] hk ?_
 refine T ?_
 refine rE [0,1] hk fun a hk=>?_
 refine sg [1] hk ?_
 refine T ?_
 refine eC hk (h:=oI x _ hS) (k:=?_)
 rintro _ w ⟨rfl,hS⟩
 refine ⟨_,rfl,?_⟩
 replace hS:=hS.nz 0
 refine T ?_
 refine rE [0,1,5] hk fun a hk=>?_
 refine sg [1] hk ?_
 refine T ?_
 refine eC hk (h:=oI y _ hS) (k:=?_)
 rintro _ w ⟨rfl,hS⟩
 refine ⟨_,rfl,?_⟩
 replace hS:=hS.nz 0
 refine T ?_
 refine rE [0,1,5,6] hk fun a hk=>?_
 refine wp_seq ?_
 refine sg [] hk ?_
 refine T ?_
 refine rE [0,1,6,11] hk fun a hk=>?_
 refine cB hk (fun hc11=>?_) (fun hc11=>?_)
 ·replace ht:=(bT hc11).symm.trans ht
  refine wp_seq ?_
  refine sg [] hk ?_
  refine T ?_
  refine rE [12] hk fun a hk=>?_
  refine cB hk (fun hc12=>?_) (fun hc12=>?_)
  ·replace ht:=(bT hc12).symm.trans ht
   refine sg [] hk ?_
   refine T ?_
   refine rE [4] hk fun a hk=>?_
   refine wp_ret ?_
   subst ht
   exact rt1 hk (hR_ _ _ ⟨rfl,hS⟩)
  replace ht:=(bF hc12).symm.trans ht
  refine wp_skip ?_
  refine sg [] hk ?_
  refine T ?_
  refine rE [4] hk fun a hk=>?_
  refine wp_ret ?_
  subst ht
  exact rt1 hk (hR_ _ _ ⟨rfl,hS⟩)
 replace ht:=(bF hc11).symm.trans ht
 refine wp_skip ?_
 refine wp_seq ?_
 refine sg [] hk ?_
 refine T ?_
 refine rE [0,1,13] hk fun a hk=>?_
 refine cB hk (fun hc13=>?_) (fun hc13=>?_)
 ·replace ht:=(bT hc13).symm.trans ht
  refine sg [] hk ?_
  refine T ?_
  refine rE [4] hk fun a hk=>?_
  refine wp_ret ?_
  subst ht
  exact rt1 hk (hR_ _ _ ⟨rfl,hS⟩)
 replace ht:=(bF hc13).symm.trans ht
 refine wp_skip ?_
 refine wp_seq ?_
 refine sg [] hk ?_
 iterate 3 refine T ?_
 refine rE [0,1,16] hk fun a hk=>?_
 refine cD hk (fun hc16=>?_) (fun hc16=>?_)
 ·replace ht:=(if_pos hc16).symm.trans ht
  refine sg [] hk ?_
  refine T ?_
  refine rE [4] hk fun a hk=>?_
  refine wp_ret ?_
  subst ht
  exact rt1 hk (hR_ _ _ ⟨rfl,hS⟩)
 replace ht:=(if_neg hc16).symm.trans ht
 refine wp_skip ?_
 refine wp_seq ?_
 refine sg [] hk ?_
 iterate 3 refine T ?_
 refine rE [19] hk fun a hk=>?_
 refine cD hk (fun hc19=>?_) (fun hc19=>?_)
 ·replace ht:=(if_pos hc19).symm.trans ht
  refine sg [] hk ?_
  refine T ?_
  refine rE [4] hk fun a hk=>?_
  refine wp_ret ?_
  subst ht
  exact rt1 hk (hR_ _ _ ⟨rfl,hS⟩)
 replace ht:=(if_neg hc19).symm.trans ht
 refine wp_skip ?_
 refine sg [] hk ?_
 refine T ?_
 refine rE [4] hk fun a hk=>?_
 refine wp_ret ?_
 subst ht
 exact rt1 hk (hR_ _ _ ⟨rfl,hS⟩)
def km:List Int → Except (Int) (Unit)
  | []=>.ok ()
  | z2::xs2=>if (z2:Int) ≠ 0 then .error z2 else km xs2
def tc (l:List Int):Int:=exE (km l) (fun e=>e) fun r2=>0
theorem vD {κ:Kap} {L I:List Atom} (l:List Int) (lA:Option Addr) (lc:Nat) (W:World) (hS:S κ (L) (aa (.slice lA l.length lc) 3 1 l.length (aw l)::I) W):
    Calls Tryz.prog 126 #[.slice lA l.length lc] W (fun r w'=>r = .returned (i6 (tc l))∧S κ (L) (aa (.slice lA l.length lc) 3 1 l.length (aw l)::I) w'):=by
 generalize ht:(tc l) = t_
 refine wK 18 Tryz.func126 (fun R_ hR_ a hk=>?_)
 refine sg [] hk ?_
 refine T ?_
 refine rE [0] hk fun a hk=>?_
 refine sg [] hk ?_
 refine T ?_
 refine rE [0,3] hk fun a hk=>?_
 refine wp_seq ?_
 refine sg [] hk ?_
 iterate 3 refine T ?_
 refine rE [3,6,7,8] hk fun a hk=>?_
 obtain ⟨x2,hr2⟩:∃ y_,km l = y_:=⟨_,rfl⟩
 refine aB (fun a_ w_=>∃ r2,x2 = .ok r2∧Fr a_ 18 [(3,i6 0)]∧S κ (L) (aa (.slice lA l.length lc) 3 1 l.length (aw l)::I) w_) ?_ ?_
 ·refine wp_block ?_
  refine wp_loop (fun a_ w_=>∃ k2:Nat,(k2 ≤ (l).length)∧km ((l).drop k2) = x2∧Fr a_ 18 [(3,i6 0),(6,.slice lA l.length lc),(7,i6 ((l.length:Nat):Int)),(8,i6 k2)]∧S κ (L) (aa (.slice lA l.length lc) 3 1 l.length (aw l)::I) w_) (fun a_ _=>(l).length - (intOf (sl a_ 8)).toNat) ?_ ?_
  ·exact ⟨0,Nat.zero_le _,hr2,hk.to,hS⟩
  clear hk hS
  rintro aL2 w ⟨k2,hkl2,hI2,hk,hS⟩
  have hmu2:=hk.g (s:=8)
  have hlb2:=hS.rowBI (i:=0) rfl
  refine sg [] hk ?_
  refine T ?_
  refine rE [3,6,7,8,9] hk fun a hk=>?_
  refine wp_seq ?_
  refine cD hk (fun hc9=>?_) (fun hc9=>?_)
  ·obtain ⟨z2,hz2⟩:=cq (show k2 < (l).length by omega)
   rw [aF hz2] at hI2
   refine wp_skip ?_
   refine wp_seq ?_
   refine wp_block ?_
   refine sg [] hk ?_
   refine dN hk (hS.rdI (i:=0) rfl) (fun b3 o3 z3 hz3 hq3=>?_)
   obtain rfl:z2 = z3:=Option.some.inj (hz2.symm.trans hz3)
   refine dF0 hq3 hk ?_
   refine T ?_
   refine rE [3,5,6,7,8] hk fun a hk=>?_
   refine sg [] hk ?_
   iterate 3 refine T ?_
   refine rE [3,5,6,7,8,14] hk fun a hk=>?_
   refine cD hk (fun hc14=>?_) (fun hc14=>?_)
   ·replace hI2:=(if_pos hc14).symm.trans hI2
    refine sg [] hk ?_
    iterate 2 refine T ?_
    refine rE [2] hk fun a hk=>?_
    refine wp_ret ?_
    replace ht:=(fB hr2).symm.trans ht
    subst hI2
    subst ht
    exact rt1 hk (hR_ _ _ ⟨rfl,hS⟩)
   replace hI2:=(if_neg hc14).symm.trans hI2
   refine wp_skip ?_
   refine rgL [] hk ?_
   refine dA hk ?_
   refine T ?_
   refine rE [3,6,7,8] hk fun a hk=>?_
   exact ⟨⟨k2 + 1,by omega,hI2,hk.to,hS⟩,aP hk.g hmu2 (by omega)⟩
  obtain rfl:k2 = (l).length:=by omega
  rw [ax (Nat.le_refl _)] at hI2
  refine wp_exit ?_
  subst hI2
  exact ⟨_,rfl,hk.to,hS⟩
 rintro a w ⟨r2,hx,hk,hS⟩
 replace ht:=(fC (hr2.trans hx)).symm.trans ht
 refine sg [] hk ?_
 iterate 2 refine T ?_
 refine rE [2] hk fun a hk=>?_
 refine wp_ret ?_
 subst ht
 exact rt1 hk (hR_ _ _ ⟨rfl,hS⟩)
def cE (h:HD):Int:=if (h.age:Int) = 60 then 1 else 0
theorem lV {κ:Kap} {L I:List Atom} (h:HD) (W:World) (hS:S κ (L) (I) W):
    Calls Tryz.prog 245 #[.agg #[i6 h.age,i6 h.kind,i6 h.id,i6 h.adv,i6 h.seq,i6 h.sum,i6 h.long]] W (fun r w'=>r = .returned (i6 (cE h))∧S κ (L) (I) w'):=by
 generalize ht:(cE h) = t_
 refine wK 6 Tryz.func245 (fun R_ hR_ a hk=>?_)
 refine sg [0] hk ?_
 refine eB hk hS (fun g2 w hS _=>?_)
 refine T ?_
 refine rE [1] hk fun a hk=>?_
 refine wp_seq ?_
 refine sg [] hk ?_
 refine T ?_
 refine LD 0 hk hS ?_
 refine T ?_
 refine rE [5] hk fun a hk=>?_
 refine cD hk (fun hc5=>?_) (fun hc5=>?_)
 ·replace ht:=(if_pos hc5).symm.trans ht
  refine sg [] hk ?_
  refine T ?_
  refine rE [2] hk fun a hk=>?_
  refine wp_ret ?_
  replace hS:=hS.pk [] 1
  subst ht
  exact rt1 hk (hR_ _ _ ⟨rfl,hS⟩)
 replace ht:=(if_neg hc5).symm.trans ht
 refine wp_skip ?_
 refine sg [] hk ?_
 refine T ?_
 refine rE [2] hk fun a hk=>?_
 refine wp_ret ?_
 replace hS:=hS.pk [] 1
 subst ht
 exact rt1 hk (hR_ _ _ ⟨rfl,hS⟩)
def fj (x:HD) (y:HD):Int:=if x.age - y.age > 6 then (bN y.age x.age) else if x.age - y.age < -6 then (bN y.age x.age) else 0
theorem pT {κ:Kap} {L I:List Atom} (x:HD) (y:HD) (W:World) (hx:cP x) (hy:cP y) (hS:S κ (L) (I) W):
    Calls Tryz.prog 246 #[.agg #[i6 x.age,i6 x.kind,i6 x.id,i6 x.adv,i6 x.seq,i6 x.sum,i6 x.long],.agg #[i6 y.age,i6 y.kind,i6 y.id,i6 y.adv,i6 y.seq,i6 y.sum,i6 y.long]] W (fun r w'=>r = .returned (i6 (fj x y))∧S κ (L) (I) w'):=by
 generalize ht:(fj x y) = t_
 refine wK 24 Tryz.func246 (fun R_ hR_ a hk=>?_)
 refine sg [0,1] hk ?_
 refine eB hk hS (fun g2 w hS _=>?_)
 refine eB hk hS (fun g3 w hS _=>?_)
 refine T ?_
 refine rE [2,3] hk fun a hk=>?_
 refine wp_seq ?_
 refine sg [] hk ?_
 refine T ?_
 refine LD 1 hk hS ?_
 refine rD (.float .f64 (floatOfInt .f64 x.age)) (fun _ h_=>rk (uz rfl (h_.x hk) (by kernel_rfl) (by kernel_rfl))) ?_
 refine T ?_
 refine LD 0 hk hS ?_
 refine rD (.float .f64 (floatOfInt .f64 y.age)) (fun _ h_=>rk (uz rfl (h_.x hk) (by kernel_rfl) (by kernel_rfl))) ?_
 refine rD (.float .f64 (sr x.age y.age)) (fun _ h_=>rk (xP rfl (h_.x hk) (h_.x hk) (ss hx hy).1)) ?_
 refine T ?_
 refine rE [2,3,5] hk fun a hk=>?_
 refine sg [] hk ?_
 refine T ?_
 refine rD (.bool (decide (x.age - y.age > 6))) (fun _ h_=>rk (zg rfl (h_.x hk) rfl (ss hx hy).2.1)) ?_
 refine T ?_
 rcases dt (x.age - y.age > 6) with ⟨he,hg2⟩ | ⟨he,hg2⟩
 ·rw [he]
  replace ht:=(if_pos hg2).symm.trans ht
  refine oF 2 15 false [3,4] ?_
  refine T ?_
  refine rE [2,3,18] hk fun a hk=>?_
  refine cT hk ?_
  refine sg [4] hk ?_
  refine T ?_
  refine LD 0 hk hS ?_
  refine T ?_
  refine LD 1 hk hS ?_
  refine eC hk (h:=eL y.age x.age _ hS) (k:=?_)
  rintro _ w ⟨rfl,hS⟩
  refine ⟨_,rfl,?_⟩
  replace hS:=hS.nz 2
  refine T ?_
  refine rE [4] hk fun a hk=>?_
  refine wp_ret ?_
  replace hS:=hS.pk [] 2
  subst ht
  exact rt1 hk (hR_ _ _ ⟨rfl,hS⟩)
 rw [he]
 replace ht:=(if_neg hg2).symm.trans ht
 refine T ?_
 refine rD (.bool (decide (x.age - y.age < -6))) (fun _ h_=>bL (h_.on 2 15) (zh rfl (h_.x hk) rfl (ss hx hy).2.2)) ?_
 refine T ?_
 refine rE [2,3,18] hk fun a hk=>?_
 refine cD hk (fun hc18=>?_) (fun hc18=>?_)
 ·replace ht:=(if_pos hc18).symm.trans ht
  refine sg [4] hk ?_
  refine T ?_
  refine LD 0 hk hS ?_
  refine T ?_
  refine LD 1 hk hS ?_
  refine eC hk (h:=eL y.age x.age _ hS) (k:=?_)
  rintro _ w ⟨rfl,hS⟩
  refine ⟨_,rfl,?_⟩
  replace hS:=hS.nz 2
  refine T ?_
  refine rE [4] hk fun a hk=>?_
  refine wp_ret ?_
  replace hS:=hS.pk [] 2
  subst ht
  exact rt1 hk (hR_ _ _ ⟨rfl,hS⟩)
 replace ht:=(if_neg hc18).symm.trans ht
 refine wp_skip ?_
 refine sg [] hk ?_
 refine T ?_
 refine rE [4] hk fun a hk=>?_
 refine wp_ret ?_
 replace hS:=hS.pk [] 2
 subst ht
 exact rt1 hk (hR_ _ _ ⟨rfl,hS⟩)
def s3 (x:HD) (y:HD):Int:=(tc [(bN x.seq y.seq),(bN x.sum y.sum),(bN (cE x) (cE y)),(fj x y)])
theorem vy {κ:Kap} {L I:List Atom} (x:HD) (y:HD) (W:World) (hx:cP x) (hy:cP y) (hS:S κ (L) (I) W):
    Calls Tryz.prog 166 #[.agg #[i6 x.age,i6 x.kind,i6 x.id,i6 x.adv,i6 x.seq,i6 x.sum,i6 x.long],.agg #[i6 y.age,i6 y.kind,i6 y.id,i6 y.adv,i6 y.seq,i6 y.sum,i6 y.long]] W (fun r w'=>r = .returned (i6 (s3 x y))∧S κ (L) (I) w'):=by
 generalize ht:(s3 x y) = t_
 refine wK 25 Tryz.func166 (fun R_ hR_ a hk=>?_)
 refine sg [0,1] hk ?_
 refine eB hk hS (fun g2 w hS _=>?_)
 refine eB hk hS (fun g3 w hS _=>?_)
 refine T ?_
 refine rE [2,3] hk fun a hk=>?_
 refine wp_seq ?_
 refine rgR [[],[0],[],[2],[0,1,2,3],[],[5],[],[7],[0,1,2,3,4,5,6,7,8],[],[0,1,2,3,4,5,6,7,8,9,10],[],[0,1,2,3,4,5,6,7,8,9,10,11,12],[0,1,2,3,4,5,6,7,8,9,10,11,12,13],[],[],[0,1,2,3,4,5,6,7,8,9,10,11,12,13,14,15,16],[0,1,2,3,4,5,6,7,8,9,10,11,12,13,14,15,16,17],[0,1,2,3,4,5,6,7,8,9,10,11,12,13,14,15,16,17,18],[0,1,2,3,4,5,6,7,8,9,10,11,12,13,14,15,16,17,18,19]] [4,9,11,13,14,17,18,19] (.rd 0 (.rd 1 (.rd 2 (.rd 3 (.rd 5 (.rd 6 (.rd 7 (.rd 8 (.rd 10 (.rd 12 (.rd 15 (.rd 16 (.ef 4 (.ag 5 (.ag 6 (.ag 7 (.ag 8 (.ag 10 (.ag 12 (.ag 15 (.ag 16 (.ef 9 (.ag 10 (.ag 12 (.ag 15 (.ag 16 (.ef 11 (.ag 12 (.ag 15 (.ag 16 (.ef 13 (.ag 15 (.ag 16 (.ef 14 (.ag 15 (.ag 16 (.ef 17 (.ef 18 (.ef 19 (.rd 20 (.fin)) .non) .non) .non))) .non))) .non)))) .non))))) .non))))))))) .non))))))))))))) hk hS (fun w hS _=>?_)
 refine T ?_
 refine LD 1 hk hS ?_
 refine T ?_
 refine LD 0 hk hS ?_
 refine T ?_
 refine LD 1 hk hS ?_
 refine T ?_
 refine LD 0 hk hS ?_
 refine LDS 1 7 hk hS ?_
 refine LDS 0 7 hk hS ?_
 refine LDS 1 7 hk hS ?_
 refine LDS 0 7 hk hS ?_
 refine eC hk (h:=eL x.seq y.seq _ hS) (k:=?_)
 rintro _ w ⟨rfl,hS⟩
 refine ⟨_,rfl,?_⟩
 replace hS:=hS.nz 2
 refine TA ?_
 refine aG (fun _ h_=>rk (ld hS 1 rfl (h_.x hk))) ?_
 refine TA ?_
 refine aG (fun _ h_=>rk (ld hS 0 rfl (h_.x hk))) ?_
 refine aG (fun _ h_=>rk (lbS 7 (hS.blk (i:=1) rfl) rfl (h_.x hk))) ?_
 refine aG (fun _ h_=>rk (lbS 7 (hS.blk (i:=0) rfl) rfl (h_.x hk))) ?_
 refine aG (fun _ h_=>rk (lbS 7 (hS.blk (i:=1) rfl) rfl (h_.x hk))) ?_
 refine aG (fun _ h_=>rk (lbS 7 (hS.blk (i:=0) rfl) rfl (h_.x hk))) ?_
 refine eC hk (h:=eL x.sum y.sum _ hS) (k:=?_)
 rintro _ w ⟨rfl,hS⟩
 refine ⟨_,rfl,?_⟩
 replace hS:=hS.nz 2
 refine aG (fun _ h_=>rk (lbS 7 (hS.blk (i:=1) rfl) rfl (h_.x hk))) ?_
 refine aG (fun _ h_=>rk (lbS 7 (hS.blk (i:=0) rfl) rfl (h_.x hk))) ?_
 refine aG (fun _ h_=>rk (lbS 7 (hS.blk (i:=1) rfl) rfl (h_.x hk))) ?_
 refine aG (fun _ h_=>rk (lbS 7 (hS.blk (i:=0) rfl) rfl (h_.x hk))) ?_
 refine eC hk (h:=lV x _ hS) (k:=?_)
 rintro _ w ⟨rfl,hS⟩
 refine ⟨_,rfl,?_⟩
 replace hS:=hS.nz 2
 refine aG (fun _ h_=>rk (lbS 7 (hS.blk (i:=0) rfl) rfl (h_.x hk))) ?_
 refine aG (fun _ h_=>rk (lbS 7 (hS.blk (i:=1) rfl) rfl (h_.x hk))) ?_
 refine aG (fun _ h_=>rk (lbS 7 (hS.blk (i:=0) rfl) rfl (h_.x hk))) ?_
 refine eC hk (h:=lV y _ hS) (k:=?_)
 rintro _ w ⟨rfl,hS⟩
 refine ⟨_,rfl,?_⟩
 replace hS:=hS.nz 2
 refine aG (fun _ h_=>rk (lbS 7 (hS.blk (i:=1) rfl) rfl (h_.x hk))) ?_
 refine aG (fun _ h_=>rk (lbS 7 (hS.blk (i:=0) rfl) rfl (h_.x hk))) ?_
 refine eC hk (h:=eL (cE x) (cE y) _ hS) (k:=?_)
 rintro _ w ⟨rfl,hS⟩
 refine ⟨_,rfl,?_⟩
 replace hS:=hS.nz 2
 refine aG (fun _ h_=>rk (lbS 7 (hS.blk (i:=1) rfl) rfl (h_.x hk))) ?_
 refine aG (fun _ h_=>rk (lbS 7 (hS.blk (i:=0) rfl) rfl (h_.x hk))) ?_
 refine eC hk (h:=pT x y _ (by first | assumption | exact age_of (by assumption)) (by first | assumption | exact age_of (by assumption)) hS) (k:=?_)
 rintro _ w ⟨rfl,hS⟩
 refine ⟨_,rfl,?_⟩
 replace hS:=hS.nz 2
 refine eF (fun a_ h_=>aZ (e:=3) (cells:=#[i6 (bN x.seq y.seq),i6 (bN x.sum y.sum),i6 (bN (cE x) (cE y)),i6 (fj x y)]) hS (ae rfl) rfl (h_.prtL hk) fun g10 w hS _=>⟨_,rfl,?_⟩)
 replace hS:S κ ((aa (.slice (some ⟨g10,0,none⟩) 4 4) 3 1 4 (aw [(bN x.seq y.seq),(bN x.sum y.sum),(bN (cE x) (cE y)),(fj x y)]))::ai g3 63 #[i6 y.age,i6 y.kind,i6 y.id,i6 y.adv,i6 y.seq,i6 y.sum,i6 y.long]::ai g2 63 #[i6 x.age,i6 x.kind,i6 x.id,i6 x.adv,i6 x.seq,i6 x.sum,i6 x.long]::L) (I) w:=hS.litRow rfl (by decide)
 obtain ⟨J11,hS,hJ11⟩:=S.lend (M:=[_]) hS
 refine eC hk (h:=vD [(bN x.seq y.seq),(bN x.sum y.sum),(bN (cE x) (cE y)),(fj x y)] (some ⟨g10,0,none⟩) 4 _ hS) (k:=?_)
 rintro _ w ⟨rfl,hS⟩
 refine ⟨_,rfl,?_⟩
 replace hS:=hJ11 _ _ hS
 replace hS:=hS.nz 3
 refine T ?_
 refine rE [4] hk fun a hk=>?_
 refine wp_ret ?_
 replace hS:=hS.pk [] 3
 subst ht
 exact rt1 hk (hR_ _ _ ⟨rfl,hS⟩)
end
section
structure PtV where
  lan:Int
  prio:Int
  cost:Int
def PtV.cells (p:PtV):List Value:=[.int .i64 p.lan,.int .i64 p.prio,.int .i64 p.cost]
def kN (lan:Int) (id:Int):Int:=bits .or .i64 (IntKind.i64.wrap (lan * 2 ^ 4)) id
set_option maxRecDepth 100000 in
set_option maxHeartbeats 8000000 in
theorem oh {κ:Kap} {L I:List Atom} (lan:Int) (id:Int) (W:World) (hS:S κ (L) (I) W):
    Calls Tryz.prog 14 #[i6 lan,i6 id] W (fun r w'=>r = .returned (i6 (kN lan id))∧S κ (L) (I) w'):=by
 generalize ht:(kN lan id) = t_
 refine wK 9 Tryz.func14 (fun R_ hR_ a hk=>?_)
 refine sg [] hk ?_
 refine T ?_
 refine rE [0,1] hk fun a hk=>?_
 refine sg [] hk ?_
 refine T ?_
 refine rD (i6 (IntKind.i64.wrap (lan * 2 ^ 4))) (fun _ h_=>rk (aq rfl (h_.x hk) rfl (fun _=>by first | rfl | kernel_rfl) (fun _=>rfl))) ?_
 refine T ?_
 refine rD (i6 (bits .or .i64 (IntKind.i64.wrap (lan * 2 ^ 4)) id)) (fun _ h_=>rk (aq rfl (h_.x hk) (h_.x hk) (fun _=>by first | rfl | kernel_rfl) (fun _=>rfl))) ?_
 refine T ?_
 refine rE [4] hk fun a hk=>?_
 refine wp_ret ?_
 subst ht
 exact rt1 hk (hR_ _ _ ⟨rfl,hS⟩)
def aI (lan:Int) (id:Int):Int:=if (id:Int) = 0 then 0 else (kN lan id)
set_option maxRecDepth 100000 in
set_option maxHeartbeats 8000000 in
theorem fL {κ:Kap} {L I:List Atom} (lan:Int) (id:Int) (W:World) (hS:S κ (L) (I) W):
    Calls Tryz.prog 196 #[i6 lan,i6 id] W (fun r w'=>r = .returned (i6 (aI lan id))∧S κ (L) (I) w'):=by
 generalize ht:(aI lan id) = t_
 refine wK 10 Tryz.func196 (fun R_ hR_ a hk=>?_)
 refine sg [] hk ?_
 refine T ?_
 refine rE [0,1] hk fun a hk=>?_
 refine wp_seq ?_
 refine sg [] hk ?_
 iterate 2 refine T ?_
 refine rE [0,1,6] hk fun a hk=>?_
 refine cD hk (fun hc6=>?_) (fun hc6=>?_)
 ·replace ht:=(if_pos hc6).symm.trans ht
  refine sg [] hk ?_
  refine T ?_
  refine rE [4] hk fun a hk=>?_
  refine wp_ret ?_
  subst ht
  exact rt1 hk (hR_ _ _ ⟨rfl,hS⟩)
 replace ht:=(if_neg hc6).symm.trans ht
 refine wp_skip ?_
 refine sg [2] hk ?_
 iterate 2 refine T ?_
 refine eC hk (h:=oh lan id _ hS) (k:=?_)
 rintro _ w ⟨rfl,hS⟩
 refine ⟨_,rfl,?_⟩
 replace hS:=hS.nz 0
 refine T ?_
 refine rE [4] hk fun a hk=>?_
 refine wp_ret ?_
 subst ht
 exact rt1 hk (hR_ _ _ ⟨rfl,hS⟩)
end
section
open Go.Shelf Go.Lib
open Go.Sort hiding Below
section
variable {α:Type} [Inhabited α] {cells:α → List Value} {k:Nat}
theorem qM (hk:∀ x,(cells x).length = k) (l:List α):flatK cells k l.toArray = (ab cells l).toArray:=by
  have hlen:=be cells k hk l
  refine ext_get! (by simp [hlen]) fun t ht=>?_
  have ht':t < l.toArray.size * k:=by simpa using ht
  rw [get_flatK _ _ _ _ ht']
  have hl:t < l.length * k:=by simpa using ht'
  have hkp:0 < k:=by
    rcases Nat.eq_zero_or_pos k with h | h
    · rw [h] at hl;omega
    · exact h
  have hj:t / k < l.length:=(Nat.div_lt_iff_lt_mul hkp).2 hl
  have hr:t % k < k:=Nat.mod_lt _ hkp
  have hx:l[t / k]? = some l[t / k]:=List.getElem?_eq_getElem hj
  have h1:=mC cells k hk l (t / k) (t % k) _ hx hr
  rw [Nat.mul_comm,Nat.div_add_mod] at h1
  have e1:l.toArray[t / k]! = l[t / k]:=by rw [getElem!_pos _ _ (by simpa using hj)];simp
  rw [e1]
  have hc:(cells l[t / k])[t % k]? = some (cells l[t / k])[t % k]!:=by
    rw [List.getElem?_eq_getElem (by rw [hk];exact hr),getElem!_pos _ _ (by rw [hk];exact hr)]
  have ht2:t < (ab cells l).length:=by rw [hlen];exact hl
  rw [hc,List.getElem?_eq_getElem ht2] at h1
  have g2:(ab cells l).toArray[t]! = (ab cells l)[t]:=by rw [getElem!_pos (ab cells l).toArray t (by simpa using ht2)];simp
  rw [g2]
  simp only [Option.some.injEq] at h1
  exact h1.symm
theorem vl {w:World} {g:Nat} {e:TypeId} {cur:Array Value} {F:Array Value} (h:Blk w g e cur) (hF:cur.toList.take F.size = F.toList):Holds id w g 0 F:=fun j hj=>by
  refine ⟨?_,by rw [Nat.zero_add];exact h.frozen j⟩
  rw [Nat.zero_add,h.cell]
  have h1:(cur.toList.take F.size)[j]? = F.toList[j]?:=by rw [hF]
  rw [List.getElem?_take_of_lt hj] at h1
  simp only [Array.getElem?_toList] at h1
  rw [h1,Array.getElem?_eq_getElem hj,getElem!_pos F j hj];rfl
theorem y9 {F cur:Array Value} (h:F.size ≤ cur.size):(putCells id 0 F cur).size = cur.size∧(putCells id 0 F cur).toList.take F.size = F.toList:=by
  refine ⟨by simp [putCells],?_⟩
  apply List.ext_getElem?
  intro j
  rw [List.getElem?_take]
  split
  · rename_i hj
    have hc:j < cur.size:=by omega
    simp only [putCells,Array.getElem?_toList,Array.getElem?_mapIdx,Array.getElem?_eq_getElem hc,Option.map_some]
    rw [if_pos ⟨Nat.zero_le _,by omega⟩,Array.getElem?_eq_getElem hj,Nat.sub_zero,getElem!_pos F j hj];rfl
  · rename_i hj
    rw [List.getElem?_eq_none (by simp;omega)]
end
end
section
open Go.Shelf Go.Lib
open Go.Sort hiding Below
section
variable {α:Type} [Inhabited α] {cf:α → α → Int}
def aW (cf:α → α → Int) (l:List α):List α:=(pdq (ltOf cf) l.toArray 0 l.length (Lib.bitLen l.length) true true).toList
theorem go (hO:SWO (ltOf cf)) (l:List α):(aW cf l).Perm l∧(aW cf l).Pairwise (fun a b=>ltOf cf b a = false):=by
  obtain ⟨⟨hsz,_,hp⟩,hs⟩:=pdq_sorts (ltOf cf) hO l.toArray 0 l.toArray.size (Lib.bitLen l.toArray.size) true true (Nat.zero_le _) (Nat.le_refl _) (Or.inl rfl)
  have e0:l.toArray.size = l.length:=by simp
  rw [e0] at hsz hp hs
  unfold aW
  generalize hd:pdq (ltOf cf) l.toArray 0 l.length (Lib.bitLen l.length) true true = d' at *
  have e1:d'.extract 0 l.length = d':=by rw [← hsz];exact Array.extract_size
  have e2:l.toArray.extract 0 l.length = l.toArray:=by rw [← e0];exact Array.extract_size
  rw [e1,e2] at hp
  refine ⟨by simpa using hp,?_⟩
  rw [List.pairwise_iff_getElem]
  intro i j hi hj hij
  have hi':i < d'.size:=by simpa using hi
  have hj':j < d'.size:=by simpa using hj
  have:=hs i j (Nat.zero_le _) hij (by omega)
  rw [getElem!_pos d' j hj',getElem!_pos d' i hi'] at this
  simpa using this
theorem i8 (hO:SWO (ltOf cf)) (l:List α):(aW cf l).Perm l:=(go hO l).1
theorem bK (hO:SWO (ltOf cf)) (l:List α):(aW cf l).length = l.length:=(i8 hO l).length_eq
theorem gp (hO:SWO (ltOf cf)):aW cf ([]:List α) = []:=(i8 hO []).eq_nil
end
section
variable {α:Type} {cf:α → α → Int}
theorem jV {l m:List α} (hD:∀ a ∈ l,∀ b ∈ l,ltOf cf a b = false → ltOf cf b a = false → a = b) (hp:l.Perm m) (h1:l.Pairwise (fun a b=>ltOf cf b a = false)) (h2:m.Pairwise (fun a b=>ltOf cf b a = false)):l = m:=
  List.Perm.eq_of_pairwise (le:=fun x y=>ltOf cf y x = false) (fun a b ha hb h3 h4=>hD a ha b (hp.mem_iff.2 hb) h4 h3) h1 h2 hp
end
section
variable {α:Type} [Inhabited α] {cf:α → α → Int}
theorem nu (hO:SWO (ltOf cf)) {l m:List α} (hD:∀ a ∈ l,∀ b ∈ l,ltOf cf a b = false → ltOf cf b a = false → a = b) (hp:l.Perm m):aW cf l = aW cf m:=by
  obtain ⟨p1,s1⟩:=go hO l
  obtain ⟨p2,s2⟩:=go hO m
  exact jV (fun a ha b hb=>hD a (p1.mem_iff.1 ha) b (p1.mem_iff.1 hb)) (p1.trans (hp.trans p2.symm)) s1 s2
theorem vF (hO:SWO (ltOf cf)) {l:List α} (hD:∀ a ∈ l,∀ b ∈ l,ltOf cf a b = false → ltOf cf b a = false → a = b) (h:l.Pairwise (fun a b=>ltOf cf b a = false)):aW cf l = l:=by
  obtain ⟨p1,s1⟩:=go hO l
  exact jV (fun a ha b hb=>hD a (p1.mem_iff.1 ha) b (p1.mem_iff.1 hb)) p1 s1 h
end
theorem gw {P:Program} {ρ:Ren} {α:Type} [Inhabited α] {κ:Kap} {L I:List Atom} {w:World} (L0:SlLaysF0.n6 P ρ) (k:Nat) (aE:∀ w,(isAgg (ρ.t 24)).run P w = .ok true w) (zE:∀ w,(Go.sizeOf (ρ.t 24)).run P w = .ok k w) (cells:α → List Value) (hk:∀ x,(cells x).length = k) (h1:∀ x,∀ v ∈ cells x,v.oneCell' = true)
    (cf:α → α → Int) (hO:SWO (ltOf cf)) (g:Nat) (cb:Array Value) (eg:∀ args w,(callFunc g args).run P w = .ok (.enter g args) w)
    (hcmp:∀ x y W,Calls P g (#[.agg (cells x).toArray,.agg (cells y).toArray] ++ cb) W fun e w'=>e = .returned (.int .i64 (cf x y))∧∃ q os',w' = grow (W.drewN q) os')
    (A:Option Addr) (n c:Nat) (e:TypeId) (l:List α) (hS:S κ (aa (.slice A n c) e k n (ab cells l)::L) I w) (hn:n < 4611686018427387904) (hkp:0 < k):
    Calls P (ρ.f 6) #[.slice A n c,.func (.func g) #[] cb] w fun r w'=>r = .returned (.tuple #[])∧S κ (aa (.slice A n c) e k n (ab cells (aW cf l))::L) I w':=by
  obtain ⟨f,⟨hf,hlen,hown⟩,hturn⟩:=hS.turn
  have hl:l.length = n:=by
    have:=be cells k hk l
    rw [hlen] at this
    exact (Nat.eq_of_mul_eq_mul_right hkp this).symm
  rcases hown with ⟨h0,hn0⟩ | ⟨b,cap,cur,hv,hb0,hh,hcap,hmax,hsz,hcur⟩
  · subst hn0
    cases h0
    have:l = []:=List.eq_nil_of_length_eq_zero hl
    subst this
    refine (AnyF.slices_SortFunc_none L0 none 0 _ w).mono ?_
    rintro r w' ⟨rfl,rfl⟩
    refine ⟨rfl,?_⟩
    rw [gp hO];exact hS
  · cases hv
    have hblk:Blk w b e cur:=hh
    have hsF:(flatK cells k l.toArray).size = n * k:=by simp [hl]
    have hH:HoldsK cells k w b 0 l.toArray:=by
      refine vl hblk ?_
      rw [hsF,hcur,qM hk]
    have hsort:=AnyQ.slices_SortFunc_eq L0 k aE zE cells hk h1 cf hO g cb b 0 c l.toArray w eg (fun m os dk _ x y=>hcmp x y _) hH hblk.lt (by simpa [hl] using hn)
    have e1:l.toArray.size = n:=by simp [hl]
    rw [e1] at hsort
    refine hsort.mono ?_
    rintro r w' ⟨rfl,m,os,rfl⟩
    refine ⟨rfl,?_⟩
    have e2:pdq (ltOf cf) l.toArray 0 n (Lib.bitLen n) true true = (aW cf l).toArray:=by unfold aW;rw [hl]
    rw [e2]
    have hF:(flatK cells k (aW cf l).toArray) = (ab cells (aW cf l)).toArray:=qM hk _
    have hFs:(flatK cells k (aW cf l).toArray).size = n * k:=by simp [bK hO,hl]
    obtain ⟨p1,p2⟩:=y9 (F:=flatK cells k (aW cf l).toArray) (cur:=cur) (by rw [hFs,hsz];exact Nat.mul_le_mul_right k hcap)
    have hnew:(sortWorldK cells k w b 0 m (aW cf l).toArray os).heap[b]? = some (.cells (putCells id 0 (flatK cells k (aW cf l).toArray) cur) e (0,0)):=by
      unfold sortWorldK putRowK putRow
      rw [heap_grow_old _ _ (by simp [mapBlock];exact hblk.lt)]
      simp [mapBlock,Array.getElem?_modify,hh,onCells]
    have hother:∀ b',b' < w.heap.size → b' ≠ b → (sortWorldK cells k w b 0 m (aW cf l).toArray os).heap[b']? = w.heap[b']?:=by
      intro b' hb' hne
      unfold sortWorldK putRowK putRow
      rw [heap_grow_old _ _ (by simp [mapBlock];exact hb')]
      simp [mapBlock,Array.getElem?_modify,Ne.symm hne]
    refine hturn _ _ [b] ⟨by simp [Value.ownBlock],?_,.inr ⟨b,c,_,rfl,Nat.zero_le _,hnew,hcap,hmax,by rw [p1,hsz],?_⟩⟩ rfl (by simp [sortWorldK,putRowK]) (fun b' hb'=>.inl (by rw [hf];simpa [Value.ownBlock] using hb')) (fun b' hlt hn'=>hother b' hlt (fun e=>hn' (by rw [hf,e];simp [Value.ownBlock])))
    · rw [be cells k hk,bK hO,hl]
    · rw [hFs] at p2
      rw [p2,hF]
end
section
set_option maxRecDepth 100000
set_option maxHeartbeats 8000000
section
variable {P:Program} {ops:Array Oper} {Q:Exit → Act → World → Prop} {o:Oper} {a:Act} {w:World} {K:Act → World → Prop} {E:Prop} {κ:Kap} {L I:List Atom}
theorem kE {t e n:Nat} {parts:Array (Nat × Operand)} {vals:List (Nat × Value)} {cells:Array Value} (hS:S κ L I w) (hw:Region.wanted o (yielded ops a.tmps) = true) (ho:o.op = .buildSlice t n parts) (hp:(parts.map fun (i,x)=>(i,a.eval x)).toList = vals)
    (h:∀ g w',S κ (ai g e cells::L) I w' → Below w.heap.size w w' → w.drawn ≤ w'.drawn → K (a.put o.dst (.slice (some ⟨g,0,none⟩) n n)) w')
    (ht:P.underlying t = some (.slice e):=by kernel_rfl) (hc:kg P e n vals = some cells:=by kernel_rfl):if Region.wanted o (yielded ops a.tmps) = true then o.wp P a w K Q else E:=
  aT hw (uA ho hp ht hc) (h _ _ (hS.push (aC w _) ⟨rfl,Blk.new w e cells⟩ (by simp)) (aC w _) (Nat.le_refl _))
end
section
variable {P:Program} {l:List Oper} {bs dp:Nat → Nat → Bool} {a0:Act} {Q:Exit → Act → World → Prop} {Qf:(Nat → Value) → World → Prop} {p q:Plan} {m K:List (Nat × Value)} {i n:Nat} {w:World} {v u:Value} {κ:Kap} {L I:List Atom} {o:Oper}
theorem eAD (cells:Array Value) (hS:S κ L I w) {t:Nat} (k:∀ g w',S κ (ai g t cells::L) I w' → Below w.heap.size w w' → w.drawn ≤ w'.drawn → bb P l.toArray bs dp a0 Q Qf p (vof ((i,pt g 0)::m)) w')
    (ho:l.toArray[i]? = some o:=by rfl) (hop:o.op = .alloc t:=by rfl) (hz:gB P t = some cells:=by kernel_rfl) (hg:f7 l dp m i o = true:=by kernel_rfl):bb P l.toArray bs dp a0 Q Qf (.ef i p .non) (vof m) w:=by
  refine eF ?_
  rw [ho]
  exact fun a h_=>aT (aQ h_ hg) (pa hop hz) ⟨_,rfl,k _ _ (hS.push (aC w _) ⟨rfl,Blk.new w t cells⟩ (by simp)) (aC w _) (Nat.le_refl _)⟩
theorem eBD (hk:Fr a0 n K) (hS:S κ L I w) {t:Nat} {x:Operand} {cells:List Value} (k:∀ g w',S κ (ai g t cells.toArray::L) I w' → Below w.heap.size w w' → w.drawn ≤ w'.drawn → bb P l.toArray bs dp a0 Q Qf p (vof ((i,pt g 0)::m)) w')
    (ho:l.toArray[i]? = some o:=by rfl) (hop:o.op = .box t x:=by rfl) (hx:opV l m K x = some u:=by rfl) (hc:pA u = some cells:=by rfl) (cx:opC l bs dp m i x = true:=by kernel_rfl) (hg:f7 l dp m i o = true:=by kernel_rfl):bb P l.toArray bs dp a0 Q Qf (.ef i p .non) (vof m) w:=by
  refine eF ?_
  rw [ho]
  exact fun a h_=>aT (aQ h_ hg) (ux hop (h_.x hk hx cx) (kR hc)) ⟨_,rfl,k _ _ (hS.push (aC w _) ⟨rfl,Blk.new w t _⟩ (by simp)) (aC w _) (Nat.le_refl _)⟩
theorem tt {id:Nat} {d:Bool} {w0:World} (tab:List (List Nat)) (ef:List Nat) (pl:Plan) (hk:Fr a0 n K) (hS:S κ L I w0)
    (hseq:∀ w1,S κ L I w1 → Below w0.heap.size w0 w1 → w0.drawn ≤ w1.drawn → bb P l.toArray (cZ .any l.toArray) (Region.waitsFor .any l.toArray) a0 Q (Fin Q l a0) pl (vof []) w1)
    (hm:P.follows .mixedOrders = true:=by kernel_rfl) (hback:ge .any l.toArray = true:=by kernel_rfl) (hdst:fR l.toArray = true:=by kernel_rfl) (hroom:dy l.toArray n = true:=by kernel_rfl)
    (htab:ph l.toArray tab = true:=by kernel_rfl) (hok:okP l.toArray tab ef pl false [] [] [] [] = true:=by kernel_rfl):(Code.region id l.toArray d).wp P Q a0 w0:=by
  have hn:=hk.size
  subst hn
  have hb0:Below w0.heap.size w0 (if d then w0.drew else w0):=by cases d;exact Below.refl _ _;exact ⟨rfl,rfl,rfl,Nat.le_refl _,fun _ _=>rfl⟩
  have hd0:w0.drawn ≤ (if d then w0.drew else w0).drawn:=by cases d;exact Nat.le_refl _;exact Nat.le_succ _
  exact gb hm hback (uE tab ef pl hback hdst hroom htab hok (hseq _ (hS.below hb0) hb0 hd0) fun vs w h=>h _ (pY hdst hroom))
end
theorem im {w w':World} (h:Below w.heap.size w w') (hd:w.drawn ≤ w'.drawn):∃ q os',w' = Go.Sort.grow (w.drewN q) os':=by
  refine ⟨w'.drawn - w.drawn,w'.heap.extract w.heap.size w'.heap.size,?_⟩
  obtain ⟨h1,h2,h3,h4,h5⟩:=h
  obtain ⟨hp,tp,dr,os,ou⟩:=w'
  obtain ⟨hp0,tp0,dr0,os0,ou0⟩:=w
  simp only at h1 h2 h3 h4 h5 hd
  subst h1;subst h2;subst h3
  simp only [Go.Sort.grow,World.drewN,World.mk.injEq,true_and,and_true]
  refine ⟨?_,by omega⟩
  apply Array.ext_getElem?
  intro k
  rw [Array.getElem?_append]
  split
  · rename_i hk;exact h5 k hk
  · rename_i hk
    rw [Array.getElem?_extract]
    split
    · rw [show hp0.size + (k - hp0.size) = k by omega]
    · rw [Array.getElem?_eq_none (by omega)]
def orF:List Int → Int
  | []=>0
  | x::l=>if x ≠ 0 then x else orF l
theorem nm:∀ {l:List Int} {k:Nat},(∀ j x,j < k → l[j]? = some x → x = 0) → orF l = orF (l.drop k)
  | l,0,_=>rfl
  | [],k + 1,_=>by simp
  | x::l,k + 1,h=>by
    have hx:=h 0 x (by omega) rfl
    unfold orF
    rw [if_neg (by omega),List.drop_succ_cons]
    have:=nm (l:=l) (k:=k) (fun j y hj hy=>h (j + 1) y (by omega) hy)
    rw [this]
    cases l.drop k <;> rfl
def bj (x y:Int):Int:=if x < y then -1 else if y < x then 1 else 0
theorem fb {x y:Int}:bj x y < 0 ↔ x < y:=by unfold bj;(repeat' split) <;> omega
theorem eZ {x y:Int}:bj x y = 0 ↔ x = y:=by unfold bj;(repeat' split) <;> omega
theorem xr (x:Int) (W:World):
    Calls Tryz.prog 207 #[i6 x] W (fun r w'=>r = .returned (.bool false)∧Below W.heap.size W w'∧W.drawn ≤ w'.drawn):=by
 have hD:W.drawn ≤ W.drawn:=Nat.le_refl _
 have hS:=S.start W
 refine wK 6 Tryz.func207 (fun R_ hR_ a hk=>?_)
 refine sg [] hk ?_
 refine T ?_
 refine rE [0,2] hk ?_
 clear hk
 intro a2 hk
 refine sg [] hk ?_
 iterate 2 refine T ?_
 refine rD (.bool false) (fun _ h_=>rk (ky rfl (h_.x hk) (h_.x hk) rfl (by simp))) ?_
 refine T ?_
 refine rE [2] hk ?_
 clear hk
 intro a3 hk
 refine wp_ret ?_
 refine rt1 hk (hR_ _ _ ?_)
 exact ⟨rfl,(hS.old (by simp)),hD⟩
theorem bk (x y:Int) (W:World):
    Calls Tryz.prog 127 #[i6 x,i6 y] W (fun r w'=>r = .returned (.int .i64 (bj x y))∧Below W.heap.size W w'∧W.drawn ≤ w'.drawn):=by
 have hD:W.drawn ≤ W.drawn:=Nat.le_refl _
 have hS:=S.start W
 refine wK 20 Tryz.func127 (fun R_ hR_ a hk=>?_)
 refine sg [] hk ?_
 refine T ?_
 refine rE [0,1,4] hk ?_
 clear hk
 intro a2 hk
 refine sg [1] hk ?_
 refine T ?_
 refine eC hk (h:=xr x _) (k:=?_)
 rintro e w4 ⟨rfl,hb4,hq4⟩
 refine ⟨_,rfl,?_⟩
 have hS4:=hS.below hb4
 replace hD:=Nat.le_trans hD hq4
 clear hS hb4 hq4
 refine T ?_
 refine rE [0,1,4,5] hk ?_
 clear hk
 intro a3 hk
 refine sg [1] hk ?_
 refine T ?_
 refine eC hk (h:=xr y _) (k:=?_)
 rintro e w6 ⟨rfl,hb6,hq6⟩
 refine ⟨_,rfl,?_⟩
 have hS6:=hS4.below hb6
 replace hD:=Nat.le_trans hD hq6
 clear hS4 hb6 hq6
 refine T ?_
 refine rE [0,1,4,5,6] hk ?_
 clear hk
 intro a5 hk
 refine wp_seq ?_
 refine sg [] hk ?_
 refine T ?_
 refine rE [0,1,4,6,11] hk ?_
 clear hk
 intro a7 hk
 refine cF hk ?_
 refine wp_skip ?_
 refine wp_seq ?_
 refine sg [] hk ?_
 refine T ?_
 refine rE [0,1,4,13] hk ?_
 clear hk
 intro a8 hk
 refine cF hk ?_
 refine wp_skip ?_
 refine wp_seq ?_
 refine sg [] hk ?_
 iterate 3 refine T ?_
 refine rE [0,1,4,16] hk ?_
 clear hk
 intro a9 hk
 refine cD hk (fun hc16=>?_) (fun hc16=>?_)
 ·refine sg [] hk ?_
  refine T ?_
  refine rE [0,1,4] hk ?_
  clear hk
  intro a10 hk
  refine wp_ret ?_
  refine rt1 hk (hR_ _ _ ?_)
  refine ⟨?_,(hS6.old (by simp)),hD⟩
  congr 2
  unfold bj
  first | (rw [if_pos (by assumption)]) | (rw [if_neg (by assumption),if_pos (by assumption)]) | (rw [if_neg (by assumption),if_neg (by assumption)])
 refine wp_skip ?_
 refine wp_seq ?_
 refine sg [] hk ?_
 iterate 3 refine T ?_
 refine rE [4,19] hk ?_
 clear hk
 intro a11 hk
 refine cD hk (fun hc19=>?_) (fun hc19=>?_)
 ·refine sg [] hk ?_
  refine T ?_
  refine rE [4] hk ?_
  clear hk
  intro a12 hk
  refine wp_ret ?_
  refine rt1 hk (hR_ _ _ ?_)
  refine ⟨?_,(hS6.old (by simp)),hD⟩
  congr 2
  unfold bj
  first | (rw [if_pos (by assumption)]) | (rw [if_neg (by assumption),if_pos (by assumption)]) | (rw [if_neg (by assumption),if_neg (by assumption)])
 refine wp_skip ?_
 refine sg [] hk ?_
 refine T ?_
 refine rE [4] hk ?_
 clear hk
 intro a13 hk
 refine wp_ret ?_
 refine rt1 hk (hR_ _ _ ?_)
 refine ⟨?_,(hS6.old (by simp)),hD⟩
 congr 2
 unfold bj
 first | (rw [if_pos (by assumption)]) | (rw [if_neg (by assumption),if_pos (by assumption)]) | (rw [if_neg (by assumption),if_neg (by assumption)])
theorem orD (A:Option Addr) (n c:Nat) (l:List Int) (W:World) (hn:n ≤ 100000) (hR:Reads W W.heap.size 1 A n (aw l)):
    Calls Tryz.prog 126 #[.slice A n c] W (fun r w'=>r = .returned (.int .i64 (orF l))∧Below W.heap.size W w'∧W.drawn ≤ w'.drawn):=by
 have hD:W.drawn ≤ W.drawn:=Nat.le_refl _
 have hS:=S.start W
 refine wK 18 Tryz.func126 (fun R_ hR_ a hk=>?_)
 refine sg [] hk ?_
 refine T ?_
 refine rE [0,2] hk ?_
 clear hk
 intro a2 hk
 refine sg [] hk ?_
 refine T ?_
 refine rE [0,2,3] hk ?_
 clear hk
 intro a3 hk
 refine wp_seq ?_
 refine sg [] hk ?_
 iterate 3 refine T ?_
 refine rE [2,3,6,7,8] hk ?_
 clear hk
 intro a4 hk
 refine wp_block ?_
 refine wp_loop (fun a_ w_=>∃ k:Nat,(k ≤ n)∧(∀ j x,j < k → l[j]? = some x → x = 0)∧(W.drawn ≤ w_.drawn)∧Fr a_ 18 [(2,i6 0),(3,i6 0),(6,.slice A n c),(7,i6 n),(8,i6 k)]∧S (kap W) ([]) ((cA W W.heap.size)::[]) w_) (fun a_ _=>n - (intOf (sl a_ 8)).toNat) ?_ ?_
 ·exact ⟨0,Nat.zero_le _,(fun j x hj=>absurd hj (Nat.not_lt_zero _)),hD,hk.to,hS⟩
 clear hk hS
 rintro a5 w5 ⟨k,hc0_0,hc0_1,hc0_2,hk,hS5⟩
 have hmu0:=hk.g (s:=8)
 replace hD:=hc0_2
 refine sg [] hk ?_
 refine T ?_
 refine rE [2,3,6,7,8,9] hk ?_
 clear hk
 intro a6 hk
 refine wp_seq ?_
 refine cD hk (fun hc9=>?_) (fun hc9=>?_)
 ·refine wp_skip ?_
  refine wp_seq ?_
  refine wp_block ?_
  refine sg [] hk ?_
  obtain ⟨b8,o8,z8,hA8,hb8,hz8,hq8⟩:=Reads.int_at (k:=k) (hR.old (hS5.old (by simp))) (by omega)
  refine rD (pt b8 (o8 + k)) (fun _ h_=>rk (az (size:=1) rfl (h_.x hk) hA8 (h_.x hk) (by kernel_rfl) (by omega) (by simp))) ?_
  refine rD (i6 z8) (fun _ h_=>rk (bB rfl (h_.x hk) (by kernel_rfl) (show w5.cell? ⟨b8,o8 + k,none⟩ = some (i6 z8) from hq8))) ?_
  refine T ?_
  refine rE [2,3,5,6,7,8,10,11] hk ?_
  clear hk
  intro a7 hk
  refine sg [] hk ?_
  iterate 3 refine T ?_
  refine rE [2,3,5,6,7,8,10,11,12,13,14] hk ?_
  clear hk
  intro a9 hk
  refine cD hk (fun hc14=>?_) (fun hc14=>?_)
  ·refine sg [] hk ?_
   iterate 2 refine T ?_
   refine rE [2,3,5,6,7,8,10,11,12,13,15] hk ?_
   clear hk
   intro a10 hk
   refine wp_ret ?_
   refine rt1 hk (hR_ _ _ ?_)
   refine ⟨?_,(hS5.old (by simp)),hD⟩
   rw [nm hc0_1,List.drop_eq_getElem_cons (List.getElem?_eq_some_iff.1 hz8).1,(List.getElem?_eq_some_iff.1 hz8).2]
   unfold orF;rw [if_pos (by omega)]
  refine wp_skip ?_
  refine rgL [] hk ?_
  refine rD (i6 (k + 1)) (fun _ h_=>rk (aD rfl (h_.x hk) rfl (by omega) rfl)) ?_
  refine T ?_
  refine rE [2,3,5,6,7,8,10,11,12,13,16] hk ?_
  clear hk
  intro a11 hk
  refine ⟨⟨k + 1,by omega,(fun j x hj hx=>by rcases (by omega:j < k ∨ j = k) with h | rfl;exact hc0_1 j x h hx;rw [hz8] at hx;cases hx;omega),hD,hk.to,hS5⟩,?_⟩
  show n - (intOf (sl a11 8)).toNat < n - (intOf (sl a5 8)).toNat
  rw [show sl a11 8 = _ from hk.g,show sl a5 8 = _ from hmu0]
  simp only [intOf]
  omega
 refine wp_exit ?_
 refine sg [] hk ?_
 iterate 2 refine T ?_
 refine rE [2] hk ?_
 clear hk
 intro a12 hk
 refine wp_ret ?_
 refine rt1 hk (hR_ _ _ ?_)
 refine ⟨?_,(hS5.old (by simp)),hD⟩
 have hln:l.length = n:=by have:=hR.1;simpa [aw] using this
 rw [nm hc0_1,List.drop_of_length_le (by omega)];rfl
def dC (x y:KeyV):Int:=orF [bj x.kind y.kind,bj x.id y.id,bj x.adv y.adv]
def dc (x y:KeyV):Int:=orF [bj x.kind y.kind,bj x.id y.id]
theorem nh (x y:KeyV) (W:World):
    Calls Tryz.prog 102 #[.agg #[i6 x.kind,i6 x.id,i6 x.adv],.agg #[i6 y.kind,i6 y.id,i6 y.adv]] W (fun r w'=>r = .returned (.int .i64 (dC x y))∧Below W.heap.size W w'∧W.drawn ≤ w'.drawn):=by
 have hD:W.drawn ≤ W.drawn:=Nat.le_refl _
 have hS:=S.start W
 refine wK 22 Tryz.func102 (fun R_ hR_ a hk=>?_)
 refine sg [0,1] hk ?_
 refine eBD hk hS (fun g3 w3 hS3 _ hq3=>?_)
 replace hD:=Nat.le_trans hD hq3
 clear hq3
 clear hS
 refine eBD hk hS3 (fun g4 w4 hS4 _ hq4=>?_)
 replace hD:=Nat.le_trans hD hq4
 clear hq4
 clear hS3
 refine T ?_
 refine rE [2,3,4] hk ?_
 clear hk
 intro a2 hk
 refine wp_seq ?_
 refine tt [[],[0],[],[2],[0,1,2,3],[],[5],[],[7],[0,1,2,3,4,5,6,7,8],[],[10],[],[12],[0,1,2,3,4,5,6,7,8,9,10,11,12,13],[0,1,2,3,4,5,6,7,8,9,10,11,12,13,14],[0,1,2,3,4,5,6,7,8,9,10,11,12,13,14,15],[0,1,2,3,4,5,6,7,8,9,10,11,12,13,14,15,16]] [4,9,14,15,16] (.rd 0 (.rd 1 (.rd 2 (.rd 3 (.rd 5 (.rd 6 (.rd 7 (.rd 8 (.rd 10 (.rd 11 (.rd 12 (.rd 13 (.ef 4 (.ag 5 (.ag 6 (.ag 7 (.ag 8 (.ag 10 (.ag 11 (.ag 12 (.ag 13 (.ef 9 (.ag 10 (.ag 11 (.ag 12 (.ag 13 (.ef 14 (.ef 15 (.ef 16 (.rd 17 (.fin)) .non) .non) .non))))) .non))))))))) .non))))))))))))) hk hS4 (fun w5 hS5 _ hq5=>?_)
 replace hD:=Nat.le_trans hD hq5
 clear hq5
 clear hS4
 refine T ?_
 refine LD 1 hk hS5 ?_
 refine T ?_
 refine LD 0 hk hS5 ?_
 refine T ?_
 refine LD 1 hk hS5 ?_
 refine T ?_
 refine LD 0 hk hS5 ?_
 refine T ?_
 refine LD 1 hk hS5 ?_
 refine T ?_
 refine LD 0 hk hS5 ?_
 refine eC hk (h:=bk x.kind y.kind _) (k:=?_)
 rintro e w6 ⟨rfl,hb6,hq6⟩
 refine ⟨_,rfl,?_⟩
 have hS6:=hS5.below hb6
 replace hD:=Nat.le_trans hD hq6
 clear hS5 hb6 hq6
 refine TA ?_
 refine aG (fun _ h_=>rk (ld hS6 1 rfl (h_.x hk))) ?_
 refine TA ?_
 refine aG (fun _ h_=>rk (ld hS6 0 rfl (h_.x hk))) ?_
 refine TA ?_
 refine aG (fun _ h_=>rk (ld hS6 1 rfl (h_.x hk))) ?_
 refine TA ?_
 refine aG (fun _ h_=>rk (ld hS6 0 rfl (h_.x hk))) ?_
 refine eC hk (h:=bk x.id y.id _) (k:=?_)
 rintro e w7 ⟨rfl,hb7,hq7⟩
 refine ⟨_,rfl,?_⟩
 have hS7:=hS6.below hb7
 replace hD:=Nat.le_trans hD hq7
 clear hS6 hb7 hq7
 refine TA ?_
 refine aG (fun _ h_=>rk (ld hS7 1 rfl (h_.x hk))) ?_
 refine TA ?_
 refine aG (fun _ h_=>rk (ld hS7 0 rfl (h_.x hk))) ?_
 refine eC hk (h:=bk x.adv y.adv _) (k:=?_)
 rintro e w8 ⟨rfl,hb8,hq8⟩
 refine ⟨_,rfl,?_⟩
 have hS8:=hS7.below hb8
 replace hD:=Nat.le_trans hD hq8
 clear hS7 hb8 hq8
 refine eF (fun a_ h_=>kE (e:=3) (cells:=#[i6 (bj x.kind y.kind),i6 (bj x.id y.id),i6 (bj x.adv y.adv)]) hS8 (ae rfl) rfl (h_.prtL hk) fun g9 w9 hS9 hb9 hq9=>⟨_,rfl,?_⟩)
 replace hD:=Nat.le_trans hD hq9
 clear hq9
 clear h_ a_ hS8
 clear hb9
 refine eC hk (h:=(orD _ 3 3 [bj x.kind y.kind,bj x.id y.id,bj x.adv y.adv] _ (by omega) ((ay (size:=1) (n:=3) (hS9.blk (i:=0) rfl) rfl).more (hS9.blk (i:=0) rfl).lt))) (k:=?_)
 rintro e w10 ⟨rfl,hb10,hq10⟩
 refine ⟨_,rfl,?_⟩
 have hS10:=hS9.below hb10
 replace hD:=Nat.le_trans hD hq10
 clear hS9 hb10 hq10
 refine T ?_
 refine rE [4] hk ?_
 clear hk
 intro a5 hk
 refine wp_ret ?_
 refine rt1 hk (hR_ _ _ ?_)
 exact ⟨rfl,(hS10.old (by simp)),hD⟩
theorem tG (x y:KeyV) (W:World):
    Calls Tryz.prog 129 #[.agg #[i6 x.kind,i6 x.id,i6 x.adv],.agg #[i6 y.kind,i6 y.id,i6 y.adv]] W (fun r w'=>r = .returned (.int .i64 (dC x y))∧Below W.heap.size W w'∧W.drawn ≤ w'.drawn):=by
 have hD:W.drawn ≤ W.drawn:=Nat.le_refl _
 have hS:=S.start W
 refine wK 22 Tryz.func129 (fun R_ hR_ a hk=>?_)
 refine sg [0,1] hk ?_
 refine eBD hk hS (fun g3 w3 hS3 _ hq3=>?_)
 replace hD:=Nat.le_trans hD hq3
 clear hq3
 clear hS
 refine eBD hk hS3 (fun g4 w4 hS4 _ hq4=>?_)
 replace hD:=Nat.le_trans hD hq4
 clear hq4
 clear hS3
 refine T ?_
 refine rE [2,3,4] hk ?_
 clear hk
 intro a2 hk
 refine wp_seq ?_
 refine tt [[],[0],[],[2],[0,1,2,3],[],[5],[],[7],[0,1,2,3,4,5,6,7,8],[],[10],[],[12],[0,1,2,3,4,5,6,7,8,9,10,11,12,13],[0,1,2,3,4,5,6,7,8,9,10,11,12,13,14],[0,1,2,3,4,5,6,7,8,9,10,11,12,13,14,15],[0,1,2,3,4,5,6,7,8,9,10,11,12,13,14,15,16]] [4,9,14,15,16] (.rd 0 (.rd 1 (.rd 2 (.rd 3 (.rd 5 (.rd 6 (.rd 7 (.rd 8 (.rd 10 (.rd 11 (.rd 12 (.rd 13 (.ef 4 (.ag 5 (.ag 6 (.ag 7 (.ag 8 (.ag 10 (.ag 11 (.ag 12 (.ag 13 (.ef 9 (.ag 10 (.ag 11 (.ag 12 (.ag 13 (.ef 14 (.ef 15 (.ef 16 (.rd 17 (.fin)) .non) .non) .non))))) .non))))))))) .non))))))))))))) hk hS4 (fun w5 hS5 _ hq5=>?_)
 replace hD:=Nat.le_trans hD hq5
 clear hq5
 clear hS4
 refine T ?_
 refine LD 1 hk hS5 ?_
 refine T ?_
 refine LD 0 hk hS5 ?_
 refine T ?_
 refine LD 1 hk hS5 ?_
 refine T ?_
 refine LD 0 hk hS5 ?_
 refine T ?_
 refine LD 1 hk hS5 ?_
 refine T ?_
 refine LD 0 hk hS5 ?_
 refine eC hk (h:=bk x.kind y.kind _) (k:=?_)
 rintro e w6 ⟨rfl,hb6,hq6⟩
 refine ⟨_,rfl,?_⟩
 have hS6:=hS5.below hb6
 replace hD:=Nat.le_trans hD hq6
 clear hS5 hb6 hq6
 refine TA ?_
 refine aG (fun _ h_=>rk (ld hS6 1 rfl (h_.x hk))) ?_
 refine TA ?_
 refine aG (fun _ h_=>rk (ld hS6 0 rfl (h_.x hk))) ?_
 refine TA ?_
 refine aG (fun _ h_=>rk (ld hS6 1 rfl (h_.x hk))) ?_
 refine TA ?_
 refine aG (fun _ h_=>rk (ld hS6 0 rfl (h_.x hk))) ?_
 refine eC hk (h:=bk x.id y.id _) (k:=?_)
 rintro e w7 ⟨rfl,hb7,hq7⟩
 refine ⟨_,rfl,?_⟩
 have hS7:=hS6.below hb7
 replace hD:=Nat.le_trans hD hq7
 clear hS6 hb7 hq7
 refine TA ?_
 refine aG (fun _ h_=>rk (ld hS7 1 rfl (h_.x hk))) ?_
 refine TA ?_
 refine aG (fun _ h_=>rk (ld hS7 0 rfl (h_.x hk))) ?_
 refine eC hk (h:=bk x.adv y.adv _) (k:=?_)
 rintro e w8 ⟨rfl,hb8,hq8⟩
 refine ⟨_,rfl,?_⟩
 have hS8:=hS7.below hb8
 replace hD:=Nat.le_trans hD hq8
 clear hS7 hb8 hq8
 refine eF (fun a_ h_=>kE (e:=3) (cells:=#[i6 (bj x.kind y.kind),i6 (bj x.id y.id),i6 (bj x.adv y.adv)]) hS8 (ae rfl) rfl (h_.prtL hk) fun g9 w9 hS9 hb9 hq9=>⟨_,rfl,?_⟩)
 replace hD:=Nat.le_trans hD hq9
 clear hq9
 clear h_ a_ hS8
 clear hb9
 refine eC hk (h:=(orD _ 3 3 [bj x.kind y.kind,bj x.id y.id,bj x.adv y.adv] _ (by omega) ((ay (size:=1) (n:=3) (hS9.blk (i:=0) rfl) rfl).more (hS9.blk (i:=0) rfl).lt))) (k:=?_)
 rintro e w10 ⟨rfl,hb10,hq10⟩
 refine ⟨_,rfl,?_⟩
 have hS10:=hS9.below hb10
 replace hD:=Nat.le_trans hD hq10
 clear hS9 hb10 hq10
 refine T ?_
 refine rE [4] hk ?_
 clear hk
 intro a5 hk
 refine wp_ret ?_
 refine rt1 hk (hR_ _ _ ?_)
 exact ⟨rfl,(hS10.old (by simp)),hD⟩
theorem yZ (x y:KeyV) (W:World):
    Calls Tryz.prog 125 #[.agg #[i6 x.kind,i6 x.id,i6 x.adv],.agg #[i6 y.kind,i6 y.id,i6 y.adv]] W (fun r w'=>r = .returned (.int .i64 (dc x y))∧Below W.heap.size W w'∧W.drawn ≤ w'.drawn):=by
 have hD:W.drawn ≤ W.drawn:=Nat.le_refl _
 have hS:=S.start W
 refine wK 17 Tryz.func125 (fun R_ hR_ a hk=>?_)
 refine sg [0,1] hk ?_
 refine eBD hk hS (fun g3 w3 hS3 _ hq3=>?_)
 replace hD:=Nat.le_trans hD hq3
 clear hq3
 clear hS
 refine eBD hk hS3 (fun g4 w4 hS4 _ hq4=>?_)
 replace hD:=Nat.le_trans hD hq4
 clear hq4
 clear hS3
 refine T ?_
 refine rE [2,3,4] hk ?_
 clear hk
 intro a2 hk
 refine wp_seq ?_
 refine tt [[],[0],[],[2],[0,1,2,3],[],[5],[],[7],[0,1,2,3,4,5,6,7,8],[0,1,2,3,4,5,6,7,8,9],[0,1,2,3,4,5,6,7,8,9,10],[0,1,2,3,4,5,6,7,8,9,10,11]] [4,9,10,11] (.rd 0 (.rd 1 (.rd 2 (.rd 3 (.rd 5 (.rd 6 (.rd 7 (.rd 8 (.ef 4 (.ag 5 (.ag 6 (.ag 7 (.ag 8 (.ef 9 (.ef 10 (.ef 11 (.rd 12 (.fin)) .non) .non) .non))))) .non))))))))) hk hS4 (fun w5 hS5 _ hq5=>?_)
 replace hD:=Nat.le_trans hD hq5
 clear hq5
 clear hS4
 refine T ?_
 refine LD 1 hk hS5 ?_
 refine T ?_
 refine LD 0 hk hS5 ?_
 refine T ?_
 refine LD 1 hk hS5 ?_
 refine T ?_
 refine LD 0 hk hS5 ?_
 refine eC hk (h:=bk x.kind y.kind _) (k:=?_)
 rintro e w6 ⟨rfl,hb6,hq6⟩
 refine ⟨_,rfl,?_⟩
 have hS6:=hS5.below hb6
 replace hD:=Nat.le_trans hD hq6
 clear hS5 hb6 hq6
 refine TA ?_
 refine aG (fun _ h_=>rk (ld hS6 1 rfl (h_.x hk))) ?_
 refine TA ?_
 refine aG (fun _ h_=>rk (ld hS6 0 rfl (h_.x hk))) ?_
 refine eC hk (h:=bk x.id y.id _) (k:=?_)
 rintro e w7 ⟨rfl,hb7,hq7⟩
 refine ⟨_,rfl,?_⟩
 have hS7:=hS6.below hb7
 replace hD:=Nat.le_trans hD hq7
 clear hS6 hb7 hq7
 refine eF (fun a_ h_=>kE (e:=3) (cells:=#[i6 (bj x.kind y.kind),i6 (bj x.id y.id)]) hS7 (ae rfl) rfl (h_.prtL hk) fun g8 w8 hS8 hb8 hq8=>⟨_,rfl,?_⟩)
 replace hD:=Nat.le_trans hD hq8
 clear hq8
 clear h_ a_ hS7
 clear hb8
 refine eC hk (h:=(orD _ 2 2 [bj x.kind y.kind,bj x.id y.id] _ (by omega) ((ay (size:=1) (n:=2) (hS8.blk (i:=0) rfl) rfl).more (hS8.blk (i:=0) rfl).lt))) (k:=?_)
 rintro e w9 ⟨rfl,hb9,hq9⟩
 refine ⟨_,rfl,?_⟩
 have hS9:=hS8.below hb9
 replace hD:=Nat.le_trans hD hq9
 clear hS8 hb9 hq9
 refine T ?_
 refine rE [4] hk ?_
 clear hk
 intro a5 hk
 refine wp_ret ?_
 refine rt1 hk (hR_ _ _ ?_)
 exact ⟨rfl,(hS9.old (by simp)),hD⟩
end
section
set_option maxRecDepth 100000
set_option maxHeartbeats 8000000
open Go.Shelf
open Go.Sort hiding Below
structure DuV where
  tick:Int
  t:TmV
 deriving DecidableEq
instance:Inhabited KeyV:=⟨⟨0,0,0⟩⟩
instance:Inhabited TmV:=⟨⟨0,0,0,default⟩⟩
instance:Inhabited DuV:=⟨⟨0,default⟩⟩
def DuV.cells (x:DuV):List Value:=.int .i64 x.tick::x.t.cells
def dD (x y:DuV):Int:=orF [bj x.tick y.tick,bj x.t.kind y.t.kind,bj x.t.lan y.t.lan,bj x.t.id y.t.id,bj x.t.k.kind y.t.k.kind,bj x.t.k.id y.t.k.id,bj x.t.k.adv y.t.k.adv]
def f8 (h:HD):KeyV:=⟨h.kind,h.id,h.adv⟩
theorem sd (x y:DuV) (W:World):
    Calls Tryz.prog 111 #[.agg #[i6 x.tick,i6 x.t.kind,i6 x.t.lan,i6 x.t.id,i6 x.t.k.kind,i6 x.t.k.id,i6 x.t.k.adv],.agg #[i6 y.tick,i6 y.t.kind,i6 y.t.lan,i6 y.t.id,i6 y.t.k.kind,i6 y.t.k.id,i6 y.t.k.adv]] W (fun r w'=>r = .returned (.int .i64 (dD x y))∧Below W.heap.size W w'∧W.drawn ≤ w'.drawn):=by
 have hD:W.drawn ≤ W.drawn:=Nat.le_refl _
 have hS:=S.start W
 refine wK 54 Tryz.func111 (fun R_ hR_ a hk=>?_)
 refine sg [0,1] hk ?_
 refine eBD hk hS (fun g3 w3 hS3 _ hq3=>?_)
 replace hD:=Nat.le_trans hD hq3
 clear hq3
 clear hS
 refine eBD hk hS3 (fun g4 w4 hS4 _ hq4=>?_)
 replace hD:=Nat.le_trans hD hq4
 clear hq4
 clear hS3
 refine T ?_
 refine rE [2,3,4] hk ?_
 clear hk
 intro a2 hk
 refine wp_seq ?_
 refine tt [[],[0],[],[2],[],[],[0,1,4,5],[0,1,2,3,4,5,6]] [4,5,6,7] (.rd 0 (.rd 1 (.rd 2 (.rd 3 (.ef 4 (.ag 0 (.ag 1 (.ag 2 (.ag 3 (.ef 5 (.ag 0 (.ag 1 (.ag 2 (.ag 3 (.ef 6 (.ag 2 (.ag 3 (.ef 7 (.fin) .non))) .non))))) .non))))) (.ef 5 (.ag 0 (.ag 1 (.ag 2 (.ag 3 (.ef 4 (.ag 0 (.ag 1 (.ag 2 (.ag 3 (.ef 6 (.ag 2 (.ag 3 (.ef 7 (.fin) .non))) .non))))) .non))))) .non)))))) hk hS4 (fun w5 hS5 _ hq5=>?_)
 replace hD:=Nat.le_trans hD hq5
 clear hq5
 clear hS4
 refine T ?_
 refine LDS 1 6 hk hS5 ?_
 refine T ?_
 refine LDS 0 6 hk hS5 ?_
 refine efk ?_ ?_
 ·refine eAD #[i6 0,i6 0,i6 0,i6 0,i6 0,i6 0] hS5 (fun g6 w6 hS6 _ hq6=>?_)
  replace hD:=Nat.le_trans hD hq6
  clear hq6
  clear hS5
  refine TA ?_
  refine aG (fun _ h_=>rk (lbS 6 (hS6.blk (i:=2) rfl) rfl (h_.x hk))) ?_
  refine TA ?_
  refine aG (fun _ h_=>rk (lbS 6 (hS6.blk (i:=1) rfl) rfl (h_.x hk))) ?_
  refine eAD #[i6 0,i6 0,i6 0,i6 0,i6 0,i6 0] hS6 (fun g7 w7 hS7 _ hq7=>?_)
  replace hD:=Nat.le_trans hD hq7
  clear hq7
  clear hS6
  refine TA ?_
  refine aG (fun _ h_=>rk (lbS 6 (hS7.blk (i:=3) rfl) rfl (h_.x hk))) ?_
  refine TA ?_
  refine aG (fun _ h_=>rk (lbS 6 (hS7.blk (i:=2) rfl) rfl (h_.x hk))) ?_
  refine eS 1 hk hS7 (fun w8 hS8 he8=>?_)
  replace hD:W.drawn ≤ w8.drawn:=by rw [he8];exact hD
  clear hS7
  refine TA ?_
  refine aG (fun _ h_=>rk (lbS 6 (hS8.blk (i:=2) rfl) rfl (h_.x hk))) ?_
  refine eS 0 hk hS8 (fun w9 hS9 he9=>?_)
  replace hD:W.drawn ≤ w9.drawn:=by rw [he9];exact hD
  clear hS8
  refine rE [2,3,4,5,6] hk ?_
  clear hk
  intro a5 hk
  refine wp_seq ?_
  refine tt [[],[0],[],[2],[0,1,2,3],[],[5],[],[7],[0,1,2,3,4,5,6,7,8],[],[10],[],[12],[0,1,2,3,4,5,6,7,8,9,10,11,12,13],[],[15],[],[17],[0,1,2,3,4,5,6,7,8,9,10,11,12,13,14,15,16,17,18],[],[20],[20,21],[],[23],[23,24],[0,1,2,3,4,5,6,7,8,9,10,11,12,13,14,15,16,17,18,19,20,21,22,23,24,25],[],[27],[27,28],[],[30],[30,31],[0,1,2,3,4,5,6,7,8,9,10,11,12,13,14,15,16,17,18,19,20,21,22,23,24,25,26,27,28,29,30,31,32],[],[34],[34,35],[],[37],[37,38],[0,1,2,3,4,5,6,7,8,9,10,11,12,13,14,15,16,17,18,19,20,21,22,23,24,25,26,27,28,29,30,31,32,33,34,35,36,37,38,39],[0,1,2,3,4,5,6,7,8,9,10,11,12,13,14,15,16,17,18,19,20,21,22,23,24,25,26,27,28,29,30,31,32,33,34,35,36,37,38,39,40],[0,1,2,3,4,5,6,7,8,9,10,11,12,13,14,15,16,17,18,19,20,21,22,23,24,25,26,27,28,29,30,31,32,33,34,35,36,37,38,39,40,41],[0,1,2,3,4,5,6,7,8,9,10,11,12,13,14,15,16,17,18,19,20,21,22,23,24,25,26,27,28,29,30,31,32,33,34,35,36,37,38,39,40,41,42]] [4,9,14,19,26,33,40,41,42] (.rd 0 (.rd 1 (.rd 2 (.rd 3 (.rd 5 (.rd 6 (.rd 7 (.rd 8 (.rd 10 (.rd 11 (.rd 12 (.rd 13 (.rd 15 (.rd 16 (.rd 17 (.rd 18 (.rd 20 (.rd 21 (.rd 22 (.rd 23 (.rd 24 (.rd 25 (.rd 27 (.rd 28 (.rd 29 (.rd 30 (.rd 31 (.rd 32 (.rd 34 (.rd 35 (.rd 36 (.rd 37 (.rd 38 (.rd 39 (.ef 4 (.ag 5 (.ag 6 (.ag 7 (.ag 8 (.ag 10 (.ag 11 (.ag 12 (.ag 13 (.ag 15 (.ag 16 (.ag 17 (.ag 18 (.ag 20 (.ag 21 (.ag 22 (.ag 23 (.ag 24 (.ag 25 (.ag 27 (.ag 28 (.ag 29 (.ag 30 (.ag 31 (.ag 32 (.ag 34 (.ag 35 (.ag 36 (.ag 37 (.ag 38 (.ag 39 (.ef 9 (.ag 10 (.ag 11 (.ag 12 (.ag 13 (.ag 15 (.ag 16 (.ag 17 (.ag 18 (.ag 20 (.ag 21 (.ag 22 (.ag 23 (.ag 24 (.ag 25 (.ag 27 (.ag 28 (.ag 29 (.ag 30 (.ag 31 (.ag 32 (.ag 34 (.ag 35 (.ag 36 (.ag 37 (.ag 38 (.ag 39 (.ef 14 (.ag 15 (.ag 16 (.ag 17 (.ag 18 (.ag 20 (.ag 21 (.ag 22 (.ag 23 (.ag 24 (.ag 25 (.ag 27 (.ag 28 (.ag 29 (.ag 30 (.ag 31 (.ag 32 (.ag 34 (.ag 35 (.ag 36 (.ag 37 (.ag 38 (.ag 39 (.ef 19 (.ag 20 (.ag 21 (.ag 22 (.ag 23 (.ag 24 (.ag 25 (.ag 27 (.ag 28 (.ag 29 (.ag 30 (.ag 31 (.ag 32 (.ag 34 (.ag 35 (.ag 36 (.ag 37 (.ag 38 (.ag 39 (.ef 26 (.ag 27 (.ag 28 (.ag 29 (.ag 30 (.ag 31 (.ag 32 (.ag 34 (.ag 35 (.ag 36 (.ag 37 (.ag 38 (.ag 39 (.ef 33 (.ag 34 (.ag 35 (.ag 36 (.ag 37 (.ag 38 (.ag 39 (.ef 40 (.ef 41 (.ef 42 (.rd 43 (.fin)) .non) .non) .non))))))) .non))))))))))))) .non))))))))))))))))))) .non))))))))))))))))))))))) .non))))))))))))))))))))))))))) .non))))))))))))))))))))))))))))))) .non))))))))))))))))))))))))))))))))))) hk hS9 (fun w10 hS10 _ hq10=>?_)
  replace hD:=Nat.le_trans hD hq10
  clear hq10
  clear hS9
  refine T ?_
  refine LD 3 hk hS10 ?_
  refine T ?_
  refine LD 2 hk hS10 ?_
  refine T ?_
  refine LD 1 hk hS10 ?_
  refine T ?_
  refine LD 0 hk hS10 ?_
  refine T ?_
  refine LD 1 hk hS10 ?_
  refine T ?_
  refine LD 0 hk hS10 ?_
  refine T ?_
  refine LD 1 hk hS10 ?_
  refine T ?_
  refine LD 0 hk hS10 ?_
  iterate 2 refine T ?_
  refine LD 1 hk hS10 ?_
  iterate 2 refine T ?_
  refine LD 0 hk hS10 ?_
  iterate 2 refine T ?_
  refine LD 1 hk hS10 ?_
  iterate 2 refine T ?_
  refine LD 0 hk hS10 ?_
  iterate 2 refine T ?_
  refine LD 1 hk hS10 ?_
  iterate 2 refine T ?_
  refine LD 0 hk hS10 ?_
  refine eC hk (h:=bk x.tick y.tick _) (k:=?_)
  rintro e w11 ⟨rfl,hb11,hq11⟩
  refine ⟨_,rfl,?_⟩
  have hS11:=hS10.below hb11
  replace hD:=Nat.le_trans hD hq11
  clear hS10 hb11 hq11
  refine TA ?_
  refine aG (fun _ h_=>rk (ld hS11 1 rfl (h_.x hk))) ?_
  refine TA ?_
  refine aG (fun _ h_=>rk (ld hS11 0 rfl (h_.x hk))) ?_
  refine TA ?_
  refine aG (fun _ h_=>rk (ld hS11 1 rfl (h_.x hk))) ?_
  refine TA ?_
  refine aG (fun _ h_=>rk (ld hS11 0 rfl (h_.x hk))) ?_
  refine TA ?_
  refine aG (fun _ h_=>rk (ld hS11 1 rfl (h_.x hk))) ?_
  refine TA ?_
  refine aG (fun _ h_=>rk (ld hS11 0 rfl (h_.x hk))) ?_
  iterate 2 refine TA ?_
  refine aG (fun _ h_=>rk (ld hS11 1 rfl (h_.x hk))) ?_
  iterate 2 refine TA ?_
  refine aG (fun _ h_=>rk (ld hS11 0 rfl (h_.x hk))) ?_
  iterate 2 refine TA ?_
  refine aG (fun _ h_=>rk (ld hS11 1 rfl (h_.x hk))) ?_
  iterate 2 refine TA ?_
  refine aG (fun _ h_=>rk (ld hS11 0 rfl (h_.x hk))) ?_
  iterate 2 refine TA ?_
  refine aG (fun _ h_=>rk (ld hS11 1 rfl (h_.x hk))) ?_
  iterate 2 refine TA ?_
  refine aG (fun _ h_=>rk (ld hS11 0 rfl (h_.x hk))) ?_
  refine eC hk (h:=bk x.t.kind y.t.kind _) (k:=?_)
  rintro e w12 ⟨rfl,hb12,hq12⟩
  refine ⟨_,rfl,?_⟩
  have hS12:=hS11.below hb12
  replace hD:=Nat.le_trans hD hq12
  clear hS11 hb12 hq12
  refine TA ?_
  refine aG (fun _ h_=>rk (ld hS12 1 rfl (h_.x hk))) ?_
  refine TA ?_
  refine aG (fun _ h_=>rk (ld hS12 0 rfl (h_.x hk))) ?_
  refine TA ?_
  refine aG (fun _ h_=>rk (ld hS12 1 rfl (h_.x hk))) ?_
  refine TA ?_
  refine aG (fun _ h_=>rk (ld hS12 0 rfl (h_.x hk))) ?_
  iterate 2 refine TA ?_
  refine aG (fun _ h_=>rk (ld hS12 1 rfl (h_.x hk))) ?_
  iterate 2 refine TA ?_
  refine aG (fun _ h_=>rk (ld hS12 0 rfl (h_.x hk))) ?_
  iterate 2 refine TA ?_
  refine aG (fun _ h_=>rk (ld hS12 1 rfl (h_.x hk))) ?_
  iterate 2 refine TA ?_
  refine aG (fun _ h_=>rk (ld hS12 0 rfl (h_.x hk))) ?_
  iterate 2 refine TA ?_
  refine aG (fun _ h_=>rk (ld hS12 1 rfl (h_.x hk))) ?_
  iterate 2 refine TA ?_
  refine aG (fun _ h_=>rk (ld hS12 0 rfl (h_.x hk))) ?_
  refine eC hk (h:=bk x.t.lan y.t.lan _) (k:=?_)
  rintro e w13 ⟨rfl,hb13,hq13⟩
  refine ⟨_,rfl,?_⟩
  have hS13:=hS12.below hb13
  replace hD:=Nat.le_trans hD hq13
  clear hS12 hb13 hq13
  refine TA ?_
  refine aG (fun _ h_=>rk (ld hS13 1 rfl (h_.x hk))) ?_
  refine TA ?_
  refine aG (fun _ h_=>rk (ld hS13 0 rfl (h_.x hk))) ?_
  iterate 2 refine TA ?_
  refine aG (fun _ h_=>rk (ld hS13 1 rfl (h_.x hk))) ?_
  iterate 2 refine TA ?_
  refine aG (fun _ h_=>rk (ld hS13 0 rfl (h_.x hk))) ?_
  iterate 2 refine TA ?_
  refine aG (fun _ h_=>rk (ld hS13 1 rfl (h_.x hk))) ?_
  iterate 2 refine TA ?_
  refine aG (fun _ h_=>rk (ld hS13 0 rfl (h_.x hk))) ?_
  iterate 2 refine TA ?_
  refine aG (fun _ h_=>rk (ld hS13 1 rfl (h_.x hk))) ?_
  iterate 2 refine TA ?_
  refine aG (fun _ h_=>rk (ld hS13 0 rfl (h_.x hk))) ?_
  refine eC hk (h:=bk x.t.id y.t.id _) (k:=?_)
  rintro e w14 ⟨rfl,hb14,hq14⟩
  refine ⟨_,rfl,?_⟩
  have hS14:=hS13.below hb14
  replace hD:=Nat.le_trans hD hq14
  clear hS13 hb14 hq14
  iterate 2 refine TA ?_
  refine aG (fun _ h_=>rk (ld hS14 1 rfl (h_.x hk))) ?_
  iterate 2 refine TA ?_
  refine aG (fun _ h_=>rk (ld hS14 0 rfl (h_.x hk))) ?_
  iterate 2 refine TA ?_
  refine aG (fun _ h_=>rk (ld hS14 1 rfl (h_.x hk))) ?_
  iterate 2 refine TA ?_
  refine aG (fun _ h_=>rk (ld hS14 0 rfl (h_.x hk))) ?_
  iterate 2 refine TA ?_
  refine aG (fun _ h_=>rk (ld hS14 1 rfl (h_.x hk))) ?_
  iterate 2 refine TA ?_
  refine aG (fun _ h_=>rk (ld hS14 0 rfl (h_.x hk))) ?_
  refine eC hk (h:=bk x.t.k.kind y.t.k.kind _) (k:=?_)
  rintro e w15 ⟨rfl,hb15,hq15⟩
  refine ⟨_,rfl,?_⟩
  have hS15:=hS14.below hb15
  replace hD:=Nat.le_trans hD hq15
  clear hS14 hb15 hq15
  iterate 2 refine TA ?_
  refine aG (fun _ h_=>rk (ld hS15 1 rfl (h_.x hk))) ?_
  iterate 2 refine TA ?_
  refine aG (fun _ h_=>rk (ld hS15 0 rfl (h_.x hk))) ?_
  iterate 2 refine TA ?_
  refine aG (fun _ h_=>rk (ld hS15 1 rfl (h_.x hk))) ?_
  iterate 2 refine TA ?_
  refine aG (fun _ h_=>rk (ld hS15 0 rfl (h_.x hk))) ?_
  refine eC hk (h:=bk x.t.k.id y.t.k.id _) (k:=?_)
  rintro e w16 ⟨rfl,hb16,hq16⟩
  refine ⟨_,rfl,?_⟩
  have hS16:=hS15.below hb16
  replace hD:=Nat.le_trans hD hq16
  clear hS15 hb16 hq16
  iterate 2 refine TA ?_
  refine aG (fun _ h_=>rk (ld hS16 1 rfl (h_.x hk))) ?_
  iterate 2 refine TA ?_
  refine aG (fun _ h_=>rk (ld hS16 0 rfl (h_.x hk))) ?_
  refine eC hk (h:=bk x.t.k.adv y.t.k.adv _) (k:=?_)
  rintro e w17 ⟨rfl,hb17,hq17⟩
  refine ⟨_,rfl,?_⟩
  have hS17:=hS16.below hb17
  replace hD:=Nat.le_trans hD hq17
  clear hS16 hb17 hq17
  refine eF (fun a_ h_=>kE (e:=3) (cells:=#[i6 (bj x.tick y.tick),i6 (bj x.t.kind y.t.kind),i6 (bj x.t.lan y.t.lan),i6 (bj x.t.id y.t.id),i6 (bj x.t.k.kind y.t.k.kind),i6 (bj x.t.k.id y.t.k.id),i6 (bj x.t.k.adv y.t.k.adv)]) hS17 (ae rfl) rfl (h_.prtL hk) fun g18 w18 hS18 hb18 hq18=>⟨_,rfl,?_⟩)
  replace hD:=Nat.le_trans hD hq18
  clear hq18
  clear h_ a_ hS17
  clear hb18
  refine eC hk (h:=(orD _ 7 7 [bj x.tick y.tick,bj x.t.kind y.t.kind,bj x.t.lan y.t.lan,bj x.t.id y.t.id,bj x.t.k.kind y.t.k.kind,bj x.t.k.id y.t.k.id,bj x.t.k.adv y.t.k.adv] _ (by omega) ((ay (size:=1) (n:=7) (hS18.blk (i:=0) rfl) rfl).more (hS18.blk (i:=0) rfl).lt))) (k:=?_)
  rintro e w19 ⟨rfl,hb19,hq19⟩
  refine ⟨_,rfl,?_⟩
  have hS19:=hS18.below hb19
  replace hD:=Nat.le_trans hD hq19
  clear hS18 hb19 hq19
  refine T ?_
  refine rE [4] hk ?_
  clear hk
  intro a10 hk
  refine wp_ret ?_
  refine rt1 hk (hR_ _ _ ?_)
  exact ⟨rfl,(hS19.old (by simp)),hD⟩
 refine eAD #[i6 0,i6 0,i6 0,i6 0,i6 0,i6 0] hS5 (fun g20 w20 hS20 _ hq20=>?_)
 replace hD:=Nat.le_trans hD hq20
 clear hq20
 clear hS5
 refine TA ?_
 refine aG (fun _ h_=>rk (lbS 6 (hS20.blk (i:=2) rfl) rfl (h_.x hk))) ?_
 refine TA ?_
 refine aG (fun _ h_=>rk (lbS 6 (hS20.blk (i:=1) rfl) rfl (h_.x hk))) ?_
 refine eAD #[i6 0,i6 0,i6 0,i6 0,i6 0,i6 0] hS20 (fun g21 w21 hS21 _ hq21=>?_)
 replace hD:=Nat.le_trans hD hq21
 clear hq21
 clear hS20
 refine TA ?_
 refine aG (fun _ h_=>rk (lbS 6 (hS21.blk (i:=3) rfl) rfl (h_.x hk))) ?_
 refine TA ?_
 refine aG (fun _ h_=>rk (lbS 6 (hS21.blk (i:=2) rfl) rfl (h_.x hk))) ?_
 refine eS 0 hk hS21 (fun w22 hS22 he22=>?_)
 replace hD:W.drawn ≤ w22.drawn:=by rw [he22];exact hD
 clear hS21
 refine TA ?_
 refine aG (fun _ h_=>rk (lbS 6 (hS22.blk (i:=2) rfl) rfl (h_.x hk))) ?_
 refine eS 1 hk hS22 (fun w23 hS23 he23=>?_)
 replace hD:W.drawn ≤ w23.drawn:=by rw [he23];exact hD
 clear hS22
 refine rE [2,3,4,5,6] hk ?_
 clear hk
 intro a5 hk
 refine wp_seq ?_
 refine tt [[],[0],[],[2],[0,1,2,3],[],[5],[],[7],[0,1,2,3,4,5,6,7,8],[],[10],[],[12],[0,1,2,3,4,5,6,7,8,9,10,11,12,13],[],[15],[],[17],[0,1,2,3,4,5,6,7,8,9,10,11,12,13,14,15,16,17,18],[],[20],[20,21],[],[23],[23,24],[0,1,2,3,4,5,6,7,8,9,10,11,12,13,14,15,16,17,18,19,20,21,22,23,24,25],[],[27],[27,28],[],[30],[30,31],[0,1,2,3,4,5,6,7,8,9,10,11,12,13,14,15,16,17,18,19,20,21,22,23,24,25,26,27,28,29,30,31,32],[],[34],[34,35],[],[37],[37,38],[0,1,2,3,4,5,6,7,8,9,10,11,12,13,14,15,16,17,18,19,20,21,22,23,24,25,26,27,28,29,30,31,32,33,34,35,36,37,38,39],[0,1,2,3,4,5,6,7,8,9,10,11,12,13,14,15,16,17,18,19,20,21,22,23,24,25,26,27,28,29,30,31,32,33,34,35,36,37,38,39,40],[0,1,2,3,4,5,6,7,8,9,10,11,12,13,14,15,16,17,18,19,20,21,22,23,24,25,26,27,28,29,30,31,32,33,34,35,36,37,38,39,40,41],[0,1,2,3,4,5,6,7,8,9,10,11,12,13,14,15,16,17,18,19,20,21,22,23,24,25,26,27,28,29,30,31,32,33,34,35,36,37,38,39,40,41,42]] [4,9,14,19,26,33,40,41,42] (.rd 0 (.rd 1 (.rd 2 (.rd 3 (.rd 5 (.rd 6 (.rd 7 (.rd 8 (.rd 10 (.rd 11 (.rd 12 (.rd 13 (.rd 15 (.rd 16 (.rd 17 (.rd 18 (.rd 20 (.rd 21 (.rd 22 (.rd 23 (.rd 24 (.rd 25 (.rd 27 (.rd 28 (.rd 29 (.rd 30 (.rd 31 (.rd 32 (.rd 34 (.rd 35 (.rd 36 (.rd 37 (.rd 38 (.rd 39 (.ef 4 (.ag 5 (.ag 6 (.ag 7 (.ag 8 (.ag 10 (.ag 11 (.ag 12 (.ag 13 (.ag 15 (.ag 16 (.ag 17 (.ag 18 (.ag 20 (.ag 21 (.ag 22 (.ag 23 (.ag 24 (.ag 25 (.ag 27 (.ag 28 (.ag 29 (.ag 30 (.ag 31 (.ag 32 (.ag 34 (.ag 35 (.ag 36 (.ag 37 (.ag 38 (.ag 39 (.ef 9 (.ag 10 (.ag 11 (.ag 12 (.ag 13 (.ag 15 (.ag 16 (.ag 17 (.ag 18 (.ag 20 (.ag 21 (.ag 22 (.ag 23 (.ag 24 (.ag 25 (.ag 27 (.ag 28 (.ag 29 (.ag 30 (.ag 31 (.ag 32 (.ag 34 (.ag 35 (.ag 36 (.ag 37 (.ag 38 (.ag 39 (.ef 14 (.ag 15 (.ag 16 (.ag 17 (.ag 18 (.ag 20 (.ag 21 (.ag 22 (.ag 23 (.ag 24 (.ag 25 (.ag 27 (.ag 28 (.ag 29 (.ag 30 (.ag 31 (.ag 32 (.ag 34 (.ag 35 (.ag 36 (.ag 37 (.ag 38 (.ag 39 (.ef 19 (.ag 20 (.ag 21 (.ag 22 (.ag 23 (.ag 24 (.ag 25 (.ag 27 (.ag 28 (.ag 29 (.ag 30 (.ag 31 (.ag 32 (.ag 34 (.ag 35 (.ag 36 (.ag 37 (.ag 38 (.ag 39 (.ef 26 (.ag 27 (.ag 28 (.ag 29 (.ag 30 (.ag 31 (.ag 32 (.ag 34 (.ag 35 (.ag 36 (.ag 37 (.ag 38 (.ag 39 (.ef 33 (.ag 34 (.ag 35 (.ag 36 (.ag 37 (.ag 38 (.ag 39 (.ef 40 (.ef 41 (.ef 42 (.rd 43 (.fin)) .non) .non) .non))))))) .non))))))))))))) .non))))))))))))))))))) .non))))))))))))))))))))))) .non))))))))))))))))))))))))))) .non))))))))))))))))))))))))))))))) .non))))))))))))))))))))))))))))))))))) hk hS23 (fun w24 hS24 _ hq24=>?_)
 replace hD:=Nat.le_trans hD hq24
 clear hq24
 clear hS23
 refine T ?_
 refine LD 3 hk hS24 ?_
 refine T ?_
 refine LD 2 hk hS24 ?_
 refine T ?_
 refine LD 0 hk hS24 ?_
 refine T ?_
 refine LD 1 hk hS24 ?_
 refine T ?_
 refine LD 0 hk hS24 ?_
 refine T ?_
 refine LD 1 hk hS24 ?_
 refine T ?_
 refine LD 0 hk hS24 ?_
 refine T ?_
 refine LD 1 hk hS24 ?_
 iterate 2 refine T ?_
 refine LD 0 hk hS24 ?_
 iterate 2 refine T ?_
 refine LD 1 hk hS24 ?_
 iterate 2 refine T ?_
 refine LD 0 hk hS24 ?_
 iterate 2 refine T ?_
 refine LD 1 hk hS24 ?_
 iterate 2 refine T ?_
 refine LD 0 hk hS24 ?_
 iterate 2 refine T ?_
 refine LD 1 hk hS24 ?_
 refine eC hk (h:=bk x.tick y.tick _) (k:=?_)
 rintro e w25 ⟨rfl,hb25,hq25⟩
 refine ⟨_,rfl,?_⟩
 have hS25:=hS24.below hb25
 replace hD:=Nat.le_trans hD hq25
 clear hS24 hb25 hq25
 refine TA ?_
 refine aG (fun _ h_=>rk (ld hS25 0 rfl (h_.x hk))) ?_
 refine TA ?_
 refine aG (fun _ h_=>rk (ld hS25 1 rfl (h_.x hk))) ?_
 refine TA ?_
 refine aG (fun _ h_=>rk (ld hS25 0 rfl (h_.x hk))) ?_
 refine TA ?_
 refine aG (fun _ h_=>rk (ld hS25 1 rfl (h_.x hk))) ?_
 refine TA ?_
 refine aG (fun _ h_=>rk (ld hS25 0 rfl (h_.x hk))) ?_
 refine TA ?_
 refine aG (fun _ h_=>rk (ld hS25 1 rfl (h_.x hk))) ?_
 iterate 2 refine TA ?_
 refine aG (fun _ h_=>rk (ld hS25 0 rfl (h_.x hk))) ?_
 iterate 2 refine TA ?_
 refine aG (fun _ h_=>rk (ld hS25 1 rfl (h_.x hk))) ?_
 iterate 2 refine TA ?_
 refine aG (fun _ h_=>rk (ld hS25 0 rfl (h_.x hk))) ?_
 iterate 2 refine TA ?_
 refine aG (fun _ h_=>rk (ld hS25 1 rfl (h_.x hk))) ?_
 iterate 2 refine TA ?_
 refine aG (fun _ h_=>rk (ld hS25 0 rfl (h_.x hk))) ?_
 iterate 2 refine TA ?_
 refine aG (fun _ h_=>rk (ld hS25 1 rfl (h_.x hk))) ?_
 refine eC hk (h:=bk x.t.kind y.t.kind _) (k:=?_)
 rintro e w26 ⟨rfl,hb26,hq26⟩
 refine ⟨_,rfl,?_⟩
 have hS26:=hS25.below hb26
 replace hD:=Nat.le_trans hD hq26
 clear hS25 hb26 hq26
 refine TA ?_
 refine aG (fun _ h_=>rk (ld hS26 0 rfl (h_.x hk))) ?_
 refine TA ?_
 refine aG (fun _ h_=>rk (ld hS26 1 rfl (h_.x hk))) ?_
 refine TA ?_
 refine aG (fun _ h_=>rk (ld hS26 0 rfl (h_.x hk))) ?_
 refine TA ?_
 refine aG (fun _ h_=>rk (ld hS26 1 rfl (h_.x hk))) ?_
 iterate 2 refine TA ?_
 refine aG (fun _ h_=>rk (ld hS26 0 rfl (h_.x hk))) ?_
 iterate 2 refine TA ?_
 refine aG (fun _ h_=>rk (ld hS26 1 rfl (h_.x hk))) ?_
 iterate 2 refine TA ?_
 refine aG (fun _ h_=>rk (ld hS26 0 rfl (h_.x hk))) ?_
 iterate 2 refine TA ?_
 refine aG (fun _ h_=>rk (ld hS26 1 rfl (h_.x hk))) ?_
 iterate 2 refine TA ?_
 refine aG (fun _ h_=>rk (ld hS26 0 rfl (h_.x hk))) ?_
 iterate 2 refine TA ?_
 refine aG (fun _ h_=>rk (ld hS26 1 rfl (h_.x hk))) ?_
 refine eC hk (h:=bk x.t.lan y.t.lan _) (k:=?_)
 rintro e w27 ⟨rfl,hb27,hq27⟩
 refine ⟨_,rfl,?_⟩
 have hS27:=hS26.below hb27
 replace hD:=Nat.le_trans hD hq27
 clear hS26 hb27 hq27
 refine TA ?_
 refine aG (fun _ h_=>rk (ld hS27 0 rfl (h_.x hk))) ?_
 refine TA ?_
 refine aG (fun _ h_=>rk (ld hS27 1 rfl (h_.x hk))) ?_
 iterate 2 refine TA ?_
 refine aG (fun _ h_=>rk (ld hS27 0 rfl (h_.x hk))) ?_
 iterate 2 refine TA ?_
 refine aG (fun _ h_=>rk (ld hS27 1 rfl (h_.x hk))) ?_
 iterate 2 refine TA ?_
 refine aG (fun _ h_=>rk (ld hS27 0 rfl (h_.x hk))) ?_
 iterate 2 refine TA ?_
 refine aG (fun _ h_=>rk (ld hS27 1 rfl (h_.x hk))) ?_
 iterate 2 refine TA ?_
 refine aG (fun _ h_=>rk (ld hS27 0 rfl (h_.x hk))) ?_
 iterate 2 refine TA ?_
 refine aG (fun _ h_=>rk (ld hS27 1 rfl (h_.x hk))) ?_
 refine eC hk (h:=bk x.t.id y.t.id _) (k:=?_)
 rintro e w28 ⟨rfl,hb28,hq28⟩
 refine ⟨_,rfl,?_⟩
 have hS28:=hS27.below hb28
 replace hD:=Nat.le_trans hD hq28
 clear hS27 hb28 hq28
 iterate 2 refine TA ?_
 refine aG (fun _ h_=>rk (ld hS28 0 rfl (h_.x hk))) ?_
 iterate 2 refine TA ?_
 refine aG (fun _ h_=>rk (ld hS28 1 rfl (h_.x hk))) ?_
 iterate 2 refine TA ?_
 refine aG (fun _ h_=>rk (ld hS28 0 rfl (h_.x hk))) ?_
 iterate 2 refine TA ?_
 refine aG (fun _ h_=>rk (ld hS28 1 rfl (h_.x hk))) ?_
 iterate 2 refine TA ?_
 refine aG (fun _ h_=>rk (ld hS28 0 rfl (h_.x hk))) ?_
 iterate 2 refine TA ?_
 refine aG (fun _ h_=>rk (ld hS28 1 rfl (h_.x hk))) ?_
 refine eC hk (h:=bk x.t.k.kind y.t.k.kind _) (k:=?_)
 rintro e w29 ⟨rfl,hb29,hq29⟩
 refine ⟨_,rfl,?_⟩
 have hS29:=hS28.below hb29
 replace hD:=Nat.le_trans hD hq29
 clear hS28 hb29 hq29
 iterate 2 refine TA ?_
 refine aG (fun _ h_=>rk (ld hS29 0 rfl (h_.x hk))) ?_
 iterate 2 refine TA ?_
 refine aG (fun _ h_=>rk (ld hS29 1 rfl (h_.x hk))) ?_
 iterate 2 refine TA ?_
 refine aG (fun _ h_=>rk (ld hS29 0 rfl (h_.x hk))) ?_
 iterate 2 refine TA ?_
 refine aG (fun _ h_=>rk (ld hS29 1 rfl (h_.x hk))) ?_
 refine eC hk (h:=bk x.t.k.id y.t.k.id _) (k:=?_)
 rintro e w30 ⟨rfl,hb30,hq30⟩
 refine ⟨_,rfl,?_⟩
 have hS30:=hS29.below hb30
 replace hD:=Nat.le_trans hD hq30
 clear hS29 hb30 hq30
 iterate 2 refine TA ?_
 refine aG (fun _ h_=>rk (ld hS30 0 rfl (h_.x hk))) ?_
 iterate 2 refine TA ?_
 refine aG (fun _ h_=>rk (ld hS30 1 rfl (h_.x hk))) ?_
 refine eC hk (h:=bk x.t.k.adv y.t.k.adv _) (k:=?_)
 rintro e w31 ⟨rfl,hb31,hq31⟩
 refine ⟨_,rfl,?_⟩
 have hS31:=hS30.below hb31
 replace hD:=Nat.le_trans hD hq31
 clear hS30 hb31 hq31
 refine eF (fun a_ h_=>kE (e:=3) (cells:=#[i6 (bj x.tick y.tick),i6 (bj x.t.kind y.t.kind),i6 (bj x.t.lan y.t.lan),i6 (bj x.t.id y.t.id),i6 (bj x.t.k.kind y.t.k.kind),i6 (bj x.t.k.id y.t.k.id),i6 (bj x.t.k.adv y.t.k.adv)]) hS31 (ae rfl) rfl (h_.prtL hk) fun g32 w32 hS32 hb32 hq32=>⟨_,rfl,?_⟩)
 replace hD:=Nat.le_trans hD hq32
 clear hq32
 clear h_ a_ hS31
 clear hb32
 refine eC hk (h:=(orD _ 7 7 [bj x.tick y.tick,bj x.t.kind y.t.kind,bj x.t.lan y.t.lan,bj x.t.id y.t.id,bj x.t.k.kind y.t.k.kind,bj x.t.k.id y.t.k.id,bj x.t.k.adv y.t.k.adv] _ (by omega) ((ay (size:=1) (n:=7) (hS32.blk (i:=0) rfl) rfl).more (hS32.blk (i:=0) rfl).lt))) (k:=?_)
 rintro e w33 ⟨rfl,hb33,hq33⟩
 refine ⟨_,rfl,?_⟩
 have hS33:=hS32.below hb33
 replace hD:=Nat.le_trans hD hq33
 clear hS32 hb33 hq33
 refine T ?_
 refine rE [4] hk ?_
 clear hk
 intro a24 hk
 refine wp_ret ?_
 refine rt1 hk (hR_ _ _ ?_)
 exact ⟨rfl,(hS33.old (by simp)),hD⟩
theorem zx (h:HD) (W:World):
    Calls Tryz.prog 104 #[.agg #[i6 h.age,i6 h.kind,i6 h.id,i6 h.adv,i6 h.seq,i6 h.sum,i6 h.long]] W (fun r w'=>r = .returned (.agg #[i6 h.kind,i6 h.id,i6 h.adv])∧Below W.heap.size W w'∧W.drawn ≤ w'.drawn):=by
 have hD:W.drawn ≤ W.drawn:=Nat.le_refl _
 have hS:=S.start W
 refine wK 10 Tryz.func104 (fun R_ hR_ a hk=>?_)
 refine sg [0,1] hk ?_
 refine eBD hk hS (fun g3 w3 hS3 _ hq3=>?_)
 replace hD:=Nat.le_trans hD hq3
 clear hq3
 clear hS
 refine eAD #[i6 0,i6 0,i6 0] hS3 (fun g4 w4 hS4 _ hq4=>?_)
 replace hD:=Nat.le_trans hD hq4
 clear hq4
 clear hS3
 refine rE [1,2] hk ?_
 clear hk
 intro a2 hk
 refine sg [7] hk ?_
 refine T ?_
 refine LD 1 hk hS4 ?_
 refine T ?_
 refine LD 1 hk hS4 ?_
 refine T ?_
 refine LD 1 hk hS4 ?_
 refine rD (.agg #[i6 h.kind,i6 h.id,i6 h.adv]) (fun _ h_=>rk (af rfl (h_.prt hk) (by kernel_rfl))) ?_
 refine eS 0 hk hS4 (fun w6 hS6 he6=>?_)
 replace hD:W.drawn ≤ w6.drawn:=by rw [he6];exact hD
 clear hS4
 refine rE [2] hk ?_
 clear hk
 intro a5 hk
 refine wp_ret ?_
 refine rtC hk (hS6.blk (i:=0) rfl) (hR_ _ _ ?_) Tryz.underlying111
 exact ⟨rfl,(hS6.old (by simp)),hD⟩
theorem yN (x y:LV) (p q:LP) (W:World):
    Calls Tryz.prog 132 #[.agg #[i6 x.hd.age,i6 x.hd.kind,i6 x.hd.id,i6 x.hd.adv,i6 x.hd.seq,i6 x.hd.sum,i6 x.hd.long,.slice p.A x.links.length p.c,.slice p.B x.mem.length p.d],.agg #[i6 y.hd.age,i6 y.hd.kind,i6 y.hd.id,i6 y.hd.adv,i6 y.hd.seq,i6 y.hd.sum,i6 y.hd.long,.slice q.A y.links.length q.c,.slice q.B y.mem.length q.d]] W (fun r w'=>r = .returned (.int .i64 (dC (f8 x.hd) (f8 y.hd)))∧Below W.heap.size W w'∧W.drawn ≤ w'.drawn):=by
 have hD:W.drawn ≤ W.drawn:=Nat.le_refl _
 have hS:=S.start W
 refine wK 12 Tryz.func132 (fun R_ hR_ a hk=>?_)
 refine sg [0,1] hk ?_
 refine eBD hk hS (fun g3 w3 hS3 _ hq3=>?_)
 replace hD:=Nat.le_trans hD hq3
 clear hq3
 clear hS
 refine eBD hk hS3 (fun g4 w4 hS4 _ hq4=>?_)
 replace hD:=Nat.le_trans hD hq4
 clear hq4
 clear hS3
 refine T ?_
 refine rE [2,3,4] hk ?_
 clear hk
 intro a2 hk
 refine wp_seq ?_
 refine tt [[],[0],[0,1],[],[3],[0,1,2,3,4],[0,1,2,3,4,5],[0,1,2,3,4,5,6]] [2,5,6] (.rd 0 (.rd 1 (.rd 3 (.rd 4 (.ef 2 (.ag 3 (.ag 4 (.ef 5 (.ef 6 (.rd 7 (.fin)) .non) .non))) .non))))) hk hS4 (fun w5 hS5 _ hq5=>?_)
 replace hD:=Nat.le_trans hD hq5
 clear hq5
 clear hS4
 refine T ?_
 refine LDS 1 7 hk hS5 ?_
 refine T ?_
 refine LDS 0 7 hk hS5 ?_
 refine eC hk (h:=zx x.hd _) (k:=?_)
 rintro e w6 ⟨rfl,hb6,hq6⟩
 refine ⟨_,rfl,?_⟩
 have hS6:=hS5.below hb6
 replace hD:=Nat.le_trans hD hq6
 clear hS5 hb6 hq6
 refine TA ?_
 refine aG (fun _ h_=>rk (lbS 7 (hS6.blk (i:=0) rfl) rfl (h_.x hk))) ?_
 refine eC hk (h:=zx y.hd _) (k:=?_)
 rintro e w7 ⟨rfl,hb7,hq7⟩
 refine ⟨_,rfl,?_⟩
 have hS7:=hS6.below hb7
 replace hD:=Nat.le_trans hD hq7
 clear hS6 hb7 hq7
 refine eC hk (h:=nh (f8 x.hd) (f8 y.hd) _) (k:=?_)
 rintro e w8 ⟨rfl,hb8,hq8⟩
 refine ⟨_,rfl,?_⟩
 have hS8:=hS7.below hb8
 replace hD:=Nat.le_trans hD hq8
 clear hS7 hb8 hq8
 refine T ?_
 refine rE [4] hk ?_
 clear hk
 intro a5 hk
 refine wp_ret ?_
 refine rt1 hk (hR_ _ _ ?_)
 exact ⟨rfl,(hS8.old (by simp)),hD⟩
theorem gl (x:Int) (l:List Int):orF (x::l) = if x ≠ 0 then x else orF l:=rfl
theorem gI {x y:KeyV}:dC x y < 0 ↔ x.kind < y.kind ∨ (x.kind = y.kind∧(x.id < y.id ∨ (x.id = y.id∧x.adv < y.adv))):=by
  have h1:=@fb x.kind y.kind;have h2:=@eZ x.kind y.kind;have h3:=@fb x.id y.id;have h4:=@eZ x.id y.id;have h5:=@fb x.adv y.adv;have h6:=@eZ x.adv y.adv
  unfold dC
  simp only [gl,orF]
  (repeat' split) <;> omega
theorem ck:SWO (ltOf dC) where
  irrefl x:=by unfold ltOf;rw [decide_eq_false_iff_not,gI];omega
  trans x y z h1 h2:=by
    unfold ltOf at *
    rw [decide_eq_true_iff,gI] at *
    omega
  ntrans x y z h1 h2:=by
    unfold ltOf at *
    rw [decide_eq_false_iff_not,gI] at *
    omega
theorem nd (x y:KeyV) (h1:ltOf dC x y = false) (h2:ltOf dC y x = false):x = y:=by
  unfold ltOf at *
  rw [decide_eq_false_iff_not,gI] at *
  obtain ⟨a,b,c⟩:=x
  obtain ⟨a',b',c'⟩:=y
  simp only [KeyV.mk.injEq] at *
  omega
theorem mr {x y:DuV}:dD x y < 0 ↔ x.tick < y.tick ∨ (x.tick = y.tick∧(x.t.kind < y.t.kind ∨ (x.t.kind = y.t.kind∧(x.t.lan < y.t.lan ∨ (x.t.lan = y.t.lan∧(x.t.id < y.t.id ∨ (x.t.id = y.t.id∧dC x.t.k y.t.k < 0))))))):=by
  have h1:=@fb x.tick y.tick;have h2:=@eZ x.tick y.tick;have h3:=@fb x.t.kind y.t.kind;have h4:=@eZ x.t.kind y.t.kind;have h5:=@fb x.t.lan y.t.lan;have h6:=@eZ x.t.lan y.t.lan;have h7:=@fb x.t.id y.t.id;have h8:=@eZ x.t.id y.t.id
  unfold dD
  rw [gl,gl,gl,gl]
  change (if bj x.tick y.tick ≠ 0 then _ else if bj x.t.kind y.t.kind ≠ 0 then _ else if bj x.t.lan y.t.lan ≠ 0 then _ else if bj x.t.id y.t.id ≠ 0 then _ else dC x.t.k y.t.k) < 0 ↔ _
  generalize dC x.t.k y.t.k = kk
  (repeat' split) <;> omega
theorem fz:SWO (ltOf dD) where
  irrefl x:=by unfold ltOf;rw [decide_eq_false_iff_not,mr,gI];omega
  trans x y z h1 h2:=by
    unfold ltOf at *
    rw [decide_eq_true_iff,mr,gI] at *
    omega
  ntrans x y z h1 h2:=by
    unfold ltOf at *
    rw [decide_eq_false_iff_not,mr,gI] at *
    omega
theorem qG (x y:DuV) (h1:ltOf dD x y = false) (h2:ltOf dD y x = false):x = y:=by
  unfold ltOf at *
  rw [decide_eq_false_iff_not,mr] at *
  have hk:x.t.k = y.t.k ∨ ¬ (¬ dC x.t.k y.t.k < 0∧¬ dC y.t.k x.t.k < 0):=by
    by_cases h:¬ dC x.t.k y.t.k < 0∧¬ dC y.t.k x.t.k < 0
    · exact .inl (nd _ _ (by unfold ltOf;rw [decide_eq_false_iff_not];exact h.1) (by unfold ltOf;rw [decide_eq_false_iff_not];exact h.2))
    · exact .inr h
  obtain ⟨a,b,c,d,e⟩:=x
  obtain ⟨a',b',c',d',e'⟩:=y
  simp only [DuV.mk.injEq,TmV.mk.injEq] at *
  refine ⟨by omega,by omega,by omega,by omega,?_⟩
  rcases hk with h | h
  · exact h
  · exfalso;omega
def Tryz.sortKey_ren:Go.Shelf.Ren:=⟨fun | 6=>101 | 15=>187 | 14=>186 | 28=>268 | 29=>269 | 20=>260 | 21=>261 | 22=>262 | 23=>263 | 24=>264 | 25=>265 | 26=>266 | 27=>267 | 46=>325 | 47=>326 | 48=>327 | 49=>328 | 50=>329 | 57=>353 | n=>n,fun | 22=>53 | 24=>111 | 25=>194 | 3=>3 | 39=>125 | 0=>0 | 53=>356 | 55=>311 | 4=>4 | 46=>350 | 45=>349 | 50=>252 | 5=>5 | 9=>9 | 66=>392 | 70=>396 | 76=>414 | 77=>163 | n=>n,fun | n=>n⟩
theorem Tryz.sortKey:Go.Proofs.SlLaysF0.n6 Tryz.prog Tryz.sortKey_ren:={
  mixed:=by kernel_rfl
  f6:=⟨Tryz.f101.name,by decide,Tryz.func101.trans (congrArg some (by kernel_rfl))⟩
  f14:=⟨Tryz.f186.name,by decide,Tryz.func186.trans (congrArg some (by kernel_rfl))⟩
  f15:=Tryz.func187.trans (congrArg some (by kernel_rfl))
  f20:=⟨Tryz.f260.name,by decide,Tryz.func260.trans (congrArg some (by kernel_rfl))⟩
  f21:=⟨Tryz.f261.name,by decide,Tryz.func261.trans (congrArg some (by kernel_rfl))⟩
  f22:=⟨Tryz.f262.name,by decide,Tryz.func262.trans (congrArg some (by kernel_rfl))⟩
  f23:=⟨Tryz.f263.name,by decide,Tryz.func263.trans (congrArg some (by kernel_rfl))⟩
  f24:=⟨Tryz.f264.name,by decide,Tryz.func264.trans (congrArg some (by kernel_rfl))⟩
  f25:=⟨Tryz.f265.name,by decide,Tryz.func265.trans (congrArg some (by kernel_rfl))⟩
  f26:=⟨Tryz.f266.name,by decide,Tryz.func266.trans (congrArg some (by kernel_rfl))⟩
  f27:=⟨Tryz.f267.name,by decide,Tryz.func267.trans (congrArg some (by kernel_rfl))⟩
  f28:=Tryz.func268.trans (congrArg some (by kernel_rfl))
  f29:=Tryz.func269.trans (congrArg some (by kernel_rfl))
  f46:=⟨Tryz.f325.name,by decide,Tryz.func325.trans (congrArg some (by kernel_rfl))⟩
  f47:=Tryz.func326.trans (congrArg some (by kernel_rfl))
  f48:=Tryz.func327.trans (congrArg some (by kernel_rfl))
  f49:=⟨Tryz.f328.name,by decide,Tryz.func328.trans (congrArg some (by kernel_rfl))⟩
  f50:=⟨Tryz.f329.name,by decide,Tryz.func329.trans (congrArg some (by kernel_rfl))⟩
  f57:=⟨Tryz.f353.name,by decide,Tryz.func353.trans (congrArg some (by kernel_rfl))⟩
  t0:=Tryz.underlying0
  a0:=Tryz.isAgg0
  z0:=Tryz.sizeOf0
  v0:=Tryz.zeroValue0
  t3:=Tryz.underlying3
  a3:=Tryz.isAgg3
  z3:=Tryz.sizeOf3
  v3:=Tryz.zeroValue3
  t4:=Tryz.underlying4
  a4:=Tryz.isAgg4
  z4:=Tryz.sizeOf4
  v4:=Tryz.zeroValue4
  t5:=Tryz.underlying5
  a5:=Tryz.isAgg5
  z5:=Tryz.sizeOf5
  v5:=Tryz.zeroValue5
  t9:=Tryz.underlying9
  a9:=Tryz.isAgg9
  z9:=Tryz.sizeOf9
  v9:=Tryz.zeroValue9
  t22:=Tryz.underlying53
  a22:=Tryz.isAgg53
  z22:=Tryz.sizeOf53
  v22:=Tryz.zeroValue53
  t25:=Tryz.underlying194
  a25:=Tryz.isAgg194
  z25:=Tryz.sizeOf194
  v25:=Tryz.zeroValue194
  t39:=Tryz.underlying125
  a39:=Tryz.isAgg125
  z39:=Tryz.sizeOf125
  v39:=Tryz.zeroValue125
  t45:=Tryz.underlying349
  a45:=Tryz.isAgg349
  z45:=Tryz.sizeOf349
  v45:=Tryz.zeroValue349
  t46:=Tryz.underlying350
  a46:=Tryz.isAgg350
  z46:=Tryz.sizeOf350
  v46:=Tryz.zeroValue350
  t50:=Tryz.underlying252
  a50:=Tryz.isAgg252
  z50:=Tryz.sizeOf252
  v50:=Tryz.zeroValue252
  t53:=Tryz.underlying356
  a53:=Tryz.isAgg356
  z53:=Tryz.sizeOf356
  v53:=Tryz.zeroValue356
  t55:=Tryz.underlying311
  a55:=Tryz.isAgg311
  z55:=Tryz.sizeOf311
  v55:=Tryz.zeroValue311
  t66:=Tryz.underlying392
  a66:=Tryz.isAgg392
  z66:=Tryz.sizeOf392
  v66:=Tryz.zeroValue392
  t70:=Tryz.underlying396
  a70:=Tryz.isAgg396
  z70:=Tryz.sizeOf396
  v70:=Tryz.zeroValue396
  t76:=Tryz.underlying414
  a76:=Tryz.isAgg414
  z76:=Tryz.sizeOf414
  v76:=Tryz.zeroValue414
  t77:=Tryz.underlying163
  a77:=Tryz.isAgg163
  z77:=Tryz.sizeOf163
  v77:=Tryz.zeroValue163
  }
def Tryz.sortDue_ren:Go.Shelf.Ren:=⟨fun | 6=>110 | 15=>187 | 14=>195 | 28=>268 | 29=>269 | 20=>271 | 21=>272 | 22=>273 | 23=>274 | 24=>275 | 25=>276 | 26=>277 | 27=>278 | 46=>330 | 47=>326 | 48=>327 | 49=>331 | 50=>332 | 57=>354 | n=>n,fun | 22=>204 | 24=>206 | 25=>208 | 3=>3 | 39=>125 | 0=>0 | 53=>356 | 55=>311 | 4=>4 | 46=>350 | 45=>349 | 50=>252 | 5=>5 | 9=>9 | 66=>392 | 70=>396 | 76=>414 | 77=>163 | n=>n,fun | n=>n⟩
theorem Tryz.sortDue:Go.Proofs.SlLaysF0.n6 Tryz.prog Tryz.sortDue_ren:={
  mixed:=by kernel_rfl
  f6:=⟨Tryz.f110.name,by decide,Tryz.func110.trans (congrArg some (by kernel_rfl))⟩
  f14:=⟨Tryz.f195.name,by decide,Tryz.func195.trans (congrArg some (by kernel_rfl))⟩
  f15:=Tryz.func187.trans (congrArg some (by kernel_rfl))
  f20:=⟨Tryz.f271.name,by decide,Tryz.func271.trans (congrArg some (by kernel_rfl))⟩
  f21:=⟨Tryz.f272.name,by decide,Tryz.func272.trans (congrArg some (by kernel_rfl))⟩
  f22:=⟨Tryz.f273.name,by decide,Tryz.func273.trans (congrArg some (by kernel_rfl))⟩
  f23:=⟨Tryz.f274.name,by decide,Tryz.func274.trans (congrArg some (by kernel_rfl))⟩
  f24:=⟨Tryz.f275.name,by decide,Tryz.func275.trans (congrArg some (by kernel_rfl))⟩
  f25:=⟨Tryz.f276.name,by decide,Tryz.func276.trans (congrArg some (by kernel_rfl))⟩
  f26:=⟨Tryz.f277.name,by decide,Tryz.func277.trans (congrArg some (by kernel_rfl))⟩
  f27:=⟨Tryz.f278.name,by decide,Tryz.func278.trans (congrArg some (by kernel_rfl))⟩
  f28:=Tryz.func268.trans (congrArg some (by kernel_rfl))
  f29:=Tryz.func269.trans (congrArg some (by kernel_rfl))
  f46:=⟨Tryz.f330.name,by decide,Tryz.func330.trans (congrArg some (by kernel_rfl))⟩
  f47:=Tryz.func326.trans (congrArg some (by kernel_rfl))
  f48:=Tryz.func327.trans (congrArg some (by kernel_rfl))
  f49:=⟨Tryz.f331.name,by decide,Tryz.func331.trans (congrArg some (by kernel_rfl))⟩
  f50:=⟨Tryz.f332.name,by decide,Tryz.func332.trans (congrArg some (by kernel_rfl))⟩
  f57:=⟨Tryz.f354.name,by decide,Tryz.func354.trans (congrArg some (by kernel_rfl))⟩
  t0:=Tryz.underlying0
  a0:=Tryz.isAgg0
  z0:=Tryz.sizeOf0
  v0:=Tryz.zeroValue0
  t3:=Tryz.underlying3
  a3:=Tryz.isAgg3
  z3:=Tryz.sizeOf3
  v3:=Tryz.zeroValue3
  t4:=Tryz.underlying4
  a4:=Tryz.isAgg4
  z4:=Tryz.sizeOf4
  v4:=Tryz.zeroValue4
  t5:=Tryz.underlying5
  a5:=Tryz.isAgg5
  z5:=Tryz.sizeOf5
  v5:=Tryz.zeroValue5
  t9:=Tryz.underlying9
  a9:=Tryz.isAgg9
  z9:=Tryz.sizeOf9
  v9:=Tryz.zeroValue9
  t22:=Tryz.underlying204
  a22:=Tryz.isAgg204
  z22:=Tryz.sizeOf204
  v22:=Tryz.zeroValue204
  t25:=Tryz.underlying208
  a25:=Tryz.isAgg208
  z25:=Tryz.sizeOf208
  v25:=Tryz.zeroValue208
  t39:=Tryz.underlying125
  a39:=Tryz.isAgg125
  z39:=Tryz.sizeOf125
  v39:=Tryz.zeroValue125
  t45:=Tryz.underlying349
  a45:=Tryz.isAgg349
  z45:=Tryz.sizeOf349
  v45:=Tryz.zeroValue349
  t46:=Tryz.underlying350
  a46:=Tryz.isAgg350
  z46:=Tryz.sizeOf350
  v46:=Tryz.zeroValue350
  t50:=Tryz.underlying252
  a50:=Tryz.isAgg252
  z50:=Tryz.sizeOf252
  v50:=Tryz.zeroValue252
  t53:=Tryz.underlying356
  a53:=Tryz.isAgg356
  z53:=Tryz.sizeOf356
  v53:=Tryz.zeroValue356
  t55:=Tryz.underlying311
  a55:=Tryz.isAgg311
  z55:=Tryz.sizeOf311
  v55:=Tryz.zeroValue311
  t66:=Tryz.underlying392
  a66:=Tryz.isAgg392
  z66:=Tryz.sizeOf392
  v66:=Tryz.zeroValue392
  t70:=Tryz.underlying396
  a70:=Tryz.isAgg396
  z70:=Tryz.sizeOf396
  v70:=Tryz.zeroValue396
  t76:=Tryz.underlying414
  a76:=Tryz.isAgg414
  z76:=Tryz.sizeOf414
  v76:=Tryz.zeroValue414
  t77:=Tryz.underlying163
  a77:=Tryz.isAgg163
  z77:=Tryz.sizeOf163
  v77:=Tryz.zeroValue163
  }
end
section
open Go.Shelf
open Go.Sort hiding Below
def pQ (x y:LV):Int:=dC (f8 x.hd) (f8 y.hd)
def yO (x y:LV × LP):Int:=pQ x.1 y.1
theorem yg {α β:Type} {cf:α → α → Int} (h:SWO (ltOf cf)) (f:β → α):SWO (ltOf fun x y=>cf (f x) (f y)):=⟨fun x=>h.irrefl (f x),fun x y z=>h.trans (f x) (f y) (f z),fun x y z=>h.ntrans (f x) (f y) (f z)⟩
theorem fE:SWO (ltOf pQ):=yg ck fun x:LV=>f8 x.hd
theorem kh:SWO (ltOf yO):=yg fE fun x:LV × LP=>x.1
theorem nc {x y:KeyV}:dc x y < 0 ↔ x.kind < y.kind ∨ (x.kind = y.kind∧x.id < y.id):=by
  have h1:=@fb x.kind y.kind;have h2:=@eZ x.kind y.kind;have h3:=@fb x.id y.id;have h4:=@eZ x.id y.id
  unfold dc
  simp only [gl,orF]
  (repeat' split) <;> omega
theorem gi:SWO (ltOf dc) where
  irrefl x:=by unfold ltOf;rw [decide_eq_false_iff_not,nc];omega
  trans x y z h1 h2:=by
    unfold ltOf at *
    rw [decide_eq_true_iff,nc] at *
    omega
  ntrans x y z h1 h2:=by
    unfold ltOf at *
    rw [decide_eq_false_iff_not,nc] at *
    omega
instance:Inhabited LP:=⟨⟨none,0,none,0⟩⟩
def Tryz.sortHead_ren:Go.Shelf.Ren:=⟨fun | 6=>179 | 15=>187 | 14=>256 | 28=>268 | 29=>269 | 20=>316 | 21=>317 | 22=>318 | 23=>319 | 24=>320 | 25=>321 | 26=>322 | 27=>323 | 46=>349 | 47=>326 | 48=>327 | 49=>350 | 50=>351 | 57=>359 | n=>n,fun | 22=>50 | 24=>63 | 25=>258 | 3=>3 | 39=>125 | 0=>0 | 53=>356 | 55=>311 | 4=>4 | 46=>350 | 45=>349 | 50=>252 | 5=>5 | 9=>9 | 66=>392 | 70=>396 | 76=>414 | 77=>163 | n=>n,fun | n=>n⟩
theorem Tryz.sortHead:Go.Proofs.SlLaysF0.n6 Tryz.prog Tryz.sortHead_ren:={
  mixed:=by kernel_rfl
  f6:=⟨Tryz.f179.name,by decide,Tryz.func179.trans (congrArg some (by kernel_rfl))⟩
  f14:=⟨Tryz.f256.name,by decide,Tryz.func256.trans (congrArg some (by kernel_rfl))⟩
  f15:=Tryz.func187.trans (congrArg some (by kernel_rfl))
  f20:=⟨Tryz.f316.name,by decide,Tryz.func316.trans (congrArg some (by kernel_rfl))⟩
  f21:=⟨Tryz.f317.name,by decide,Tryz.func317.trans (congrArg some (by kernel_rfl))⟩
  f22:=⟨Tryz.f318.name,by decide,Tryz.func318.trans (congrArg some (by kernel_rfl))⟩
  f23:=⟨Tryz.f319.name,by decide,Tryz.func319.trans (congrArg some (by kernel_rfl))⟩
  f24:=⟨Tryz.f320.name,by decide,Tryz.func320.trans (congrArg some (by kernel_rfl))⟩
  f25:=⟨Tryz.f321.name,by decide,Tryz.func321.trans (congrArg some (by kernel_rfl))⟩
  f26:=⟨Tryz.f322.name,by decide,Tryz.func322.trans (congrArg some (by kernel_rfl))⟩
  f27:=⟨Tryz.f323.name,by decide,Tryz.func323.trans (congrArg some (by kernel_rfl))⟩
  f28:=Tryz.func268.trans (congrArg some (by kernel_rfl))
  f29:=Tryz.func269.trans (congrArg some (by kernel_rfl))
  f46:=⟨Tryz.f349.name,by decide,Tryz.func349.trans (congrArg some (by kernel_rfl))⟩
  f47:=Tryz.func326.trans (congrArg some (by kernel_rfl))
  f48:=Tryz.func327.trans (congrArg some (by kernel_rfl))
  f49:=⟨Tryz.f350.name,by decide,Tryz.func350.trans (congrArg some (by kernel_rfl))⟩
  f50:=⟨Tryz.f351.name,by decide,Tryz.func351.trans (congrArg some (by kernel_rfl))⟩
  f57:=⟨Tryz.f359.name,by decide,Tryz.func359.trans (congrArg some (by kernel_rfl))⟩
  t0:=Tryz.underlying0
  a0:=Tryz.isAgg0
  z0:=Tryz.sizeOf0
  v0:=Tryz.zeroValue0
  t3:=Tryz.underlying3
  a3:=Tryz.isAgg3
  z3:=Tryz.sizeOf3
  v3:=Tryz.zeroValue3
  t4:=Tryz.underlying4
  a4:=Tryz.isAgg4
  z4:=Tryz.sizeOf4
  v4:=Tryz.zeroValue4
  t5:=Tryz.underlying5
  a5:=Tryz.isAgg5
  z5:=Tryz.sizeOf5
  v5:=Tryz.zeroValue5
  t9:=Tryz.underlying9
  a9:=Tryz.isAgg9
  z9:=Tryz.sizeOf9
  v9:=Tryz.zeroValue9
  t22:=Tryz.underlying50
  a22:=Tryz.isAgg50
  z22:=Tryz.sizeOf50
  v22:=Tryz.zeroValue50
  t25:=Tryz.underlying258
  a25:=Tryz.isAgg258
  z25:=Tryz.sizeOf258
  v25:=Tryz.zeroValue258
  t39:=Tryz.underlying125
  a39:=Tryz.isAgg125
  z39:=Tryz.sizeOf125
  v39:=Tryz.zeroValue125
  t45:=Tryz.underlying349
  a45:=Tryz.isAgg349
  z45:=Tryz.sizeOf349
  v45:=Tryz.zeroValue349
  t46:=Tryz.underlying350
  a46:=Tryz.isAgg350
  z46:=Tryz.sizeOf350
  v46:=Tryz.zeroValue350
  t50:=Tryz.underlying252
  a50:=Tryz.isAgg252
  z50:=Tryz.sizeOf252
  v50:=Tryz.zeroValue252
  t53:=Tryz.underlying356
  a53:=Tryz.isAgg356
  z53:=Tryz.sizeOf356
  v53:=Tryz.zeroValue356
  t55:=Tryz.underlying311
  a55:=Tryz.isAgg311
  z55:=Tryz.sizeOf311
  v55:=Tryz.zeroValue311
  t66:=Tryz.underlying392
  a66:=Tryz.isAgg392
  z66:=Tryz.sizeOf392
  v66:=Tryz.zeroValue392
  t70:=Tryz.underlying396
  a70:=Tryz.isAgg396
  z70:=Tryz.sizeOf396
  v70:=Tryz.zeroValue396
  t76:=Tryz.underlying414
  a76:=Tryz.isAgg414
  z76:=Tryz.sizeOf414
  v76:=Tryz.zeroValue414
  t77:=Tryz.underlying163
  a77:=Tryz.isAgg163
  z77:=Tryz.sizeOf163
  v77:=Tryz.zeroValue163
  }
def Tryz.sortLsa_ren:Go.Shelf.Ren:=⟨fun | 6=>131 | 15=>187 | 14=>210 | 28=>268 | 29=>269 | 20=>287 | 21=>288 | 22=>289 | 23=>290 | 24=>291 | 25=>292 | 26=>293 | 27=>294 | 46=>339 | 47=>326 | 48=>327 | 49=>340 | 50=>341 | 57=>355 | n=>n,fun | 22=>54 | 24=>66 | 25=>218 | 3=>3 | 39=>125 | 0=>0 | 53=>356 | 55=>311 | 4=>4 | 46=>350 | 45=>349 | 50=>252 | 5=>5 | 9=>9 | 66=>392 | 70=>396 | 76=>414 | 77=>163 | n=>n,fun | n=>n⟩
theorem Tryz.sortLsa:Go.Proofs.SlLaysF0.n6 Tryz.prog Tryz.sortLsa_ren:={
  mixed:=by kernel_rfl
  f6:=⟨Tryz.f131.name,by decide,Tryz.func131.trans (congrArg some (by kernel_rfl))⟩
  f14:=⟨Tryz.f210.name,by decide,Tryz.func210.trans (congrArg some (by kernel_rfl))⟩
  f15:=Tryz.func187.trans (congrArg some (by kernel_rfl))
  f20:=⟨Tryz.f287.name,by decide,Tryz.func287.trans (congrArg some (by kernel_rfl))⟩
  f21:=⟨Tryz.f288.name,by decide,Tryz.func288.trans (congrArg some (by kernel_rfl))⟩
  f22:=⟨Tryz.f289.name,by decide,Tryz.func289.trans (congrArg some (by kernel_rfl))⟩
  f23:=⟨Tryz.f290.name,by decide,Tryz.func290.trans (congrArg some (by kernel_rfl))⟩
  f24:=⟨Tryz.f291.name,by decide,Tryz.func291.trans (congrArg some (by kernel_rfl))⟩
  f25:=⟨Tryz.f292.name,by decide,Tryz.func292.trans (congrArg some (by kernel_rfl))⟩
  f26:=⟨Tryz.f293.name,by decide,Tryz.func293.trans (congrArg some (by kernel_rfl))⟩
  f27:=⟨Tryz.f294.name,by decide,Tryz.func294.trans (congrArg some (by kernel_rfl))⟩
  f28:=Tryz.func268.trans (congrArg some (by kernel_rfl))
  f29:=Tryz.func269.trans (congrArg some (by kernel_rfl))
  f46:=⟨Tryz.f339.name,by decide,Tryz.func339.trans (congrArg some (by kernel_rfl))⟩
  f47:=Tryz.func326.trans (congrArg some (by kernel_rfl))
  f48:=Tryz.func327.trans (congrArg some (by kernel_rfl))
  f49:=⟨Tryz.f340.name,by decide,Tryz.func340.trans (congrArg some (by kernel_rfl))⟩
  f50:=⟨Tryz.f341.name,by decide,Tryz.func341.trans (congrArg some (by kernel_rfl))⟩
  f57:=⟨Tryz.f355.name,by decide,Tryz.func355.trans (congrArg some (by kernel_rfl))⟩
  t0:=Tryz.underlying0
  a0:=Tryz.isAgg0
  z0:=Tryz.sizeOf0
  v0:=Tryz.zeroValue0
  t3:=Tryz.underlying3
  a3:=Tryz.isAgg3
  z3:=Tryz.sizeOf3
  v3:=Tryz.zeroValue3
  t4:=Tryz.underlying4
  a4:=Tryz.isAgg4
  z4:=Tryz.sizeOf4
  v4:=Tryz.zeroValue4
  t5:=Tryz.underlying5
  a5:=Tryz.isAgg5
  z5:=Tryz.sizeOf5
  v5:=Tryz.zeroValue5
  t9:=Tryz.underlying9
  a9:=Tryz.isAgg9
  z9:=Tryz.sizeOf9
  v9:=Tryz.zeroValue9
  t22:=Tryz.underlying54
  a22:=Tryz.isAgg54
  z22:=Tryz.sizeOf54
  v22:=Tryz.zeroValue54
  t25:=Tryz.underlying218
  a25:=Tryz.isAgg218
  z25:=Tryz.sizeOf218
  v25:=Tryz.zeroValue218
  t39:=Tryz.underlying125
  a39:=Tryz.isAgg125
  z39:=Tryz.sizeOf125
  v39:=Tryz.zeroValue125
  t45:=Tryz.underlying349
  a45:=Tryz.isAgg349
  z45:=Tryz.sizeOf349
  v45:=Tryz.zeroValue349
  t46:=Tryz.underlying350
  a46:=Tryz.isAgg350
  z46:=Tryz.sizeOf350
  v46:=Tryz.zeroValue350
  t50:=Tryz.underlying252
  a50:=Tryz.isAgg252
  z50:=Tryz.sizeOf252
  v50:=Tryz.zeroValue252
  t53:=Tryz.underlying356
  a53:=Tryz.isAgg356
  z53:=Tryz.sizeOf356
  v53:=Tryz.zeroValue356
  t55:=Tryz.underlying311
  a55:=Tryz.isAgg311
  z55:=Tryz.sizeOf311
  v55:=Tryz.zeroValue311
  t66:=Tryz.underlying392
  a66:=Tryz.isAgg392
  z66:=Tryz.sizeOf392
  v66:=Tryz.zeroValue392
  t70:=Tryz.underlying396
  a70:=Tryz.isAgg396
  z70:=Tryz.sizeOf396
  v70:=Tryz.zeroValue396
  t76:=Tryz.underlying414
  a76:=Tryz.isAgg414
  z76:=Tryz.sizeOf414
  v76:=Tryz.zeroValue414
  t77:=Tryz.underlying163
  a77:=Tryz.isAgg163
  z77:=Tryz.sizeOf163
  v77:=Tryz.zeroValue163
  }
theorem x8 {κ:Kap} {L I:List Atom} {w:World} (A:Option Addr) (c:Nat) (l:List KeyV) (hn:l.length ≤ 100000000) (hS:S κ (aa (.slice A l.length c) 111 3 l.length (ab KeyV.cells l)::L) I w):
    Calls Tryz.prog 101 #[.slice A l.length c,.func (.func 102) #[] #[]] w fun r w'=>r = .returned (.tuple #[])∧S κ (aa (.slice A (aW dC l).length c) 111 3 (aW dC l).length (ab KeyV.cells (aW dC l))::L) I w':=by
  rw [bK ck]
  exact gw (Tryz.sortKey) 3 (fun w=>by kernel_rfl) (fun w=>by kernel_rfl) KeyV.cells KeyV.cells_len' KeyV.cells_one' dC ck 102 #[] (fun _ _=>by kernel_rfl)
    (fun x y W=>(nh x y W).mono fun _ _ ⟨h1,h2,h3⟩=>⟨h1,im h2 h3⟩) A l.length c 111 l hS (by omega) (by omega)
theorem x9 {κ:Kap} {L I:List Atom} {w:World} (A:Option Addr) (c:Nat) (l:List KeyV) (hn:l.length ≤ 100000000) (hS:S κ (aa (.slice A l.length c) 111 3 l.length (ab KeyV.cells l)::L) I w):
    Calls Tryz.prog 101 #[.slice A l.length c,.func (.func 129) #[] #[]] w fun r w'=>r = .returned (.tuple #[])∧S κ (aa (.slice A (aW dC l).length c) 111 3 (aW dC l).length (ab KeyV.cells (aW dC l))::L) I w':=by
  rw [bK ck]
  exact gw (Tryz.sortKey) 3 (fun w=>by kernel_rfl) (fun w=>by kernel_rfl) KeyV.cells KeyV.cells_len' KeyV.cells_one' dC ck 129 #[] (fun _ _=>by kernel_rfl)
    (fun x y W=>(tG x y W).mono fun _ _ ⟨h1,h2,h3⟩=>⟨h1,im h2 h3⟩) A l.length c 111 l hS (by omega) (by omega)
theorem zj {κ:Kap} {L I:List Atom} {w:World} (A:Option Addr) (c:Nat) (l:List KeyV) (hn:l.length ≤ 100000000) (hS:S κ (aa (.slice A l.length c) 111 3 l.length (ab KeyV.cells l)::L) I w):
    Calls Tryz.prog 101 #[.slice A l.length c,.func (.func 125) #[] #[]] w fun r w'=>r = .returned (.tuple #[])∧S κ (aa (.slice A (aW dc l).length c) 111 3 (aW dc l).length (ab KeyV.cells (aW dc l))::L) I w':=by
  rw [bK gi]
  exact gw (Tryz.sortKey) 3 (fun w=>by kernel_rfl) (fun w=>by kernel_rfl) KeyV.cells KeyV.cells_len' KeyV.cells_one' dc gi 125 #[] (fun _ _=>by kernel_rfl)
    (fun x y W=>(yZ x y W).mono fun _ _ ⟨h1,h2,h3⟩=>⟨h1,im h2 h3⟩) A l.length c 111 l hS (by omega) (by omega)
theorem zO {α π:Type} {size:Nat} {F:CFn α π size} {q q':List (α × π)} (h:q.Perm q'):(q.flatMap fun x=>F.inner x.1 x.2).Perm (q'.flatMap fun x=>F.inner x.1 x.2):=h.flatMap_right _
def oe (l:List LV):Prop:=(l.map fun x=>f8 x.hd).Nodup
theorem yV {α β:Type} {f:α → β} {l:List α} (h:(l.map f).Nodup) {a b:α} (ha:a ∈ l) (hb:b ∈ l) (e:f a = f b):a = b:=by
  obtain ⟨i,hi⟩:=List.mem_iff_getElem?.1 ha
  obtain ⟨j,hj⟩:=List.mem_iff_getElem?.1 hb
  have h1:(l.map f)[i]? = some (f a):=by rw [List.getElem?_map,hi];rfl
  have h2:(l.map f)[j]? = some (f a):=by rw [List.getElem?_map,hj,e];rfl
  have:=(List.getElem?_inj (List.getElem?_eq_some_iff.1 h1).1 h).1 (h1.trans h2.symm)
  subst this
  rw [hi] at hj;cases hj;rfl
theorem ra {l:List LV} (h:oe l):∀ a ∈ l,∀ b ∈ l,ltOf pQ a b = false → ltOf pQ b a = false → a = b:=fun a ha b hb h1 h2=>
  yV h ha hb (nd _ _ h1 h2)
theorem uk {q:List (LV × LP)} (h:oe (q.map (·.1))):(aW yO q).map (·.1) = aW pQ (q.map (·.1)):=by
  obtain ⟨p1,s1⟩:=go kh q
  obtain ⟨p2,s2⟩:=go fE (q.map (·.1))
  refine jV (cf:=pQ) (fun a ha b hb=>ra h a ((p1.map (·.1)).mem_iff.1 ha) b ((p1.map (·.1)).mem_iff.1 hb)) ((p1.map (·.1)).trans p2.symm) ?_ s2
  rw [List.pairwise_map]
  exact s1
set_option maxHeartbeats 1000000 in
theorem xZ {κ:Kap} {L I:List Atom} {w:World} (A:Option Addr) (c:Nat) (l:List LV) (hn:l.length ≤ 100000000) (hd:oe l) (hS:S κ (crA lsFn 66 A c l::L) I w):
    Calls Tryz.prog 131 #[.slice A l.length c,.func (.func 132) #[] #[]] w fun r w'=>r = .returned (.tuple #[])∧S κ (crA lsFn 66 A c (aW pQ l)::L) I w':=by
  obtain ⟨q,hq,hS⟩:=hS.crOpen
  subst hq
  have h:=gw (Tryz.sortLsa) 9 (fun w=>by kernel_rfl) (fun w=>by kernel_rfl) (fun x:LV × LP=>lsFn.cells x.1 x.2) (fun x=>lsFn.len _ _) (fun x=>lsFn.one _ _) yO kh 132 #[] (fun _ _=>by kernel_rfl)
    (fun x y W=>(yN x.1 y.1 x.2 y.2 W).mono fun _ _ ⟨h1,h2,h3⟩=>⟨h1,im h2 h3⟩) A (q.map (·.1)).length c 66 q hS (by omega) (by omega)
  refine h.mono ?_
  rintro r w' ⟨h1,h2⟩
  refine ⟨h1,S.crClose (q:=aW yO q) (uk hd) ?_⟩
  rw [← uk hd,List.length_map,bK kh]
  rw [List.length_map] at h2
  exact h2.perm (List.Perm.cons _ ((zO (i8 kh q).symm).append_right L))
end
theorem qx {κ:Kap} {L I:List Atom} (l:List Lk) (lA:Option Addr) (lc:Nat) (W:World) (hn:l.length ≤ 100000) (hS:S κ L (aa (.slice lA l.length lc) 230 4 l.length (ab Lk.cells l)::I) W):
    Calls Tryz.prog 188 #[.slice lA l.length lc] W (fun r w'=>∃ B0 d0,r = .returned (.slice B0 l.length d0)∧S κ (aa (.slice B0 l.length d0) 230 4 l.length (ab Lk.cells l)::L) (aa (.slice lA l.length lc) 230 4 l.length (ab Lk.cells l)::I) w'):=by
  refine (mP lA l.length lc l W hn (hS.rdI (i:=0) rfl)).mono ?_
  rintro r w' ⟨A',c',h1,h2,h3⟩
  exact ⟨A',c',h1,hS.pushRow h3 h2⟩
theorem oo {κ:Kap} {L I:List Atom} (l:List Int) (lA:Option Addr) (lc:Nat) (W:World) (hn:l.length ≤ 100000) (hS:S κ L (aa (.slice lA l.length lc) 3 1 l.length (aw l)::I) W):
    Calls Tryz.prog 189 #[.slice lA l.length lc] W (fun r w'=>∃ B0 d0,r = .returned (.slice B0 l.length d0)∧S κ (aa (.slice B0 l.length d0) 3 1 l.length (aw l)::L) (aa (.slice lA l.length lc) 3 1 l.length (aw l)::I) w'):=by
  refine (mO lA l.length lc l W hn (hS.rdI (i:=0) rfl)).mono ?_
  rintro r w' ⟨A',c',h1,h2,h3⟩
  exact ⟨A',c',h1,hS.pushRow h3 h2⟩
theorem xw {κ:Kap} {L I:List Atom} (l:LV) (p:LP) (W:World) (h1:l.links.length ≤ 100000) (h2:l.mem.length ≤ 100000) (hS:S κ L (aa (.slice p.A l.links.length p.c) 230 4 l.links.length (ab Lk.cells l.links)::aa (.slice p.B l.mem.length p.d) 3 1 l.mem.length (aw l.mem)::I) W):
    Calls Tryz.prog 285 #[.agg (lsFn.cells l p).toArray] W (fun r w'=>r = .returned (.bool (eY l))∧S κ L (aa (.slice p.A l.links.length p.c) 230 4 l.links.length (ab Lk.cells l.links)::aa (.slice p.B l.mem.length p.d) 3 1 l.mem.length (aw l.mem)::I) w'):=by
  refine (oX l p W h1 h2 ⟨hS.rdI (i:=0) rfl,hS.rdI (i:=1) rfl⟩).mono ?_
  rintro r w' ⟨h1,h2⟩
  exact ⟨h1,hS.below h2⟩
theorem S.pushOwn2 {κ:Kap} {L I:List Atom} {W w':World} {e1 e2 s1 s2 n1 n2:Nat} {v1 v2:Value} {x1 x2:List Value} (hS:S κ L I W) (hb:Below W.heap.size W w') (h1:w'.ownsRow W.heap.size e1 s1 v1 n1 x1) (h2:w'.ownsRow W.heap.size e2 s2 v2 n2 x2) (hne:e1 ≠ e2:=by decide):S κ (aa v1 e1 s1 n1 x1::aa v2 e2 s2 n2 x2::L) I w':=by
  have h3:=hS.pushRow hb h2
  obtain ⟨hk,fp,hs,hI⟩:=hS
  obtain ⟨hk',fq,hs',hI'⟩:=h3
  have hdom:=hs.dom
  refine ⟨hk',v1.ownBlock.toList ++ (v2.ownBlock.toList ++ fp),⟨v1.ownBlock.toList,v2.ownBlock.toList ++ fp,rfl,fun b hb1 hb2=>?_,⟨rfl,dh h1 (Nat.zero_le _)⟩,v2.ownBlock.toList,fp,rfl,fun b hb1 hb2=>?_,⟨rfl,dh h2 (Nat.zero_le _)⟩,hs.loc fun b hm=>hb.block b (hdom b hm)⟩,fun i hi=>?_⟩
  · have hb1:v1.ownBlock = some b:=by simpa using hb1
    rcases List.mem_append.1 hb2 with h | h
    · have h:v2.ownBlock = some b:=by simpa using h
      rcases vE h1 h2 hne with h4 | h4
      · rw [h4] at hb1;cases hb1
      · exact h4 (hb1.trans h.symm)
    · have:=(df h1 hb1).1;have:=hdom b h;omega
  · have hb1:v2.ownBlock = some b:=by simpa using hb1
    have:=(df h2 hb1).1;have:=hdom b hb2;omega
  · obtain ⟨f,h5,h6⟩:=hI i hi
    refine ⟨f,i.loc h5 fun b hm=>hb.block b (i.dom h5 b hm),fun b hb1 hb2=>?_⟩
    have hlt:=i.dom h5 b hb1
    rcases List.mem_append.1 hb2 with h | h
    · have:=(df h1 (by simpa using h:v1.ownBlock = some b)).1;omega
    · rcases List.mem_append.1 h with h | h
      · have:=(df h2 (by simpa using h:v2.ownBlock = some b)).1;omega
      · exact h6 b hb1 h
theorem pP {κ:Kap} {L I:List Atom} (l:LV) (p:LP) (W:World) (h1:l.links.length ≤ 5000) (h2:l.mem.length ≤ 5000) (hS:S κ L (aa (.slice p.A l.links.length p.c) 230 4 l.links.length (ab Lk.cells l.links)::aa (.slice p.B l.mem.length p.d) 3 1 l.mem.length (aw l.mem)::I) W):
    Calls Tryz.prog 286 #[.agg (lsFn.cells l p).toArray] W (fun r w'=>∃ e0:LP,r = .returned (.agg (lsFn.cells (bE l) e0).toArray)∧S κ (aa (.slice e0.A (bE l).links.length e0.c) 230 4 (bE l).links.length (ab Lk.cells (bE l).links)::aa (.slice e0.B (bE l).mem.length e0.d) 3 1 (bE l).mem.length (aw (bE l).mem)::L) (aa (.slice p.A l.links.length p.c) 230 4 l.links.length (ab Lk.cells l.links)::aa (.slice p.B l.mem.length p.d) 3 1 l.mem.length (aw l.mem)::I) w'):=by
  refine (xU l p W h1 h2 ⟨hS.rdI (i:=0) rfl,hS.rdI (i:=1) rfl⟩).mono ?_
  rintro r w' ⟨q,h1,h2,h3⟩
  refine ⟨q,h1,?_⟩
  exact S.pushOwn2 hS h3 h2.links h2.mem
section
def ah (h:HD):KeyV:=(⟨h.kind,h.id,h.adv⟩:KeyV)
set_option maxRecDepth 100000 in
set_option maxHeartbeats 8000000 in
theorem ct {κ:Kap} {L I:List Atom} (h:HD) (W:World) (hS:S κ (L) (I) W):
    Calls Tryz.prog 104 #[.agg #[i6 h.age,i6 h.kind,i6 h.id,i6 h.adv,i6 h.seq,i6 h.sum,i6 h.long]] W (fun r w'=>r = .returned (.agg #[i6 ((ah h).kind),i6 ((ah h).id),i6 ((ah h).adv)])∧S κ (L) (I) w'):=by
 generalize ht:(ah h) = t_
 refine wK 10 Tryz.func104 (fun R_ hR_ a hk=>?_)
 refine sg [0,1] hk ?_
 refine eB hk hS (fun g2 w hS _=>?_)
 refine eA #[i6 0,i6 0,i6 0] hS (fun g3 w hS _=>?_)
 refine rE [1,2] hk fun a hk=>?_
 refine sg [7] hk ?_
 refine T ?_
 refine LD 1 hk hS ?_
 refine T ?_
 refine LD 1 hk hS ?_
 refine T ?_
 refine LD 1 hk hS ?_
 refine rD (.agg #[i6 h.kind,i6 h.id,i6 h.adv]) (fun _ h_=>rk (af rfl (h_.prt hk) (by kernel_rfl))) ?_
 refine eS 0 hk hS (fun w hS _=>?_)
 refine rE [2] hk fun a hk=>?_
 refine wp_ret ?_
 have hCb:=hS.blk (i:=0) rfl
 replace hS:=hS.pk [] 2
 subst ht
 exact rtC hk hCb (hR_ _ _ ⟨rfl,hS⟩) Tryz.underlying111
end
section
set_option maxRecDepth 100000
set_option maxHeartbeats 8000000
def zL (x:LV):Prop:=x.links.length ≤ 5000∧x.mem.length ≤ 5000
def dz (d:DbS):Prop:=∀ y ∈ d.l,(zL y.2∧cP y.2.hd)∧y.1 = f8 y.2.hd
theorem iS {d:DbS} (h:dz d) {k:KeyV} {v:LV} (hv:au k d.l = some v):v.links.length ≤ 100000∧v.mem.length ≤ 100000:=by
  have:=(h _ (qX hv)).1.1
  exact ⟨Nat.le_trans this.1 (by omega),Nat.le_trans this.2 (by omega)⟩
def bX (x:LV):LV:=x
theorem kT {κ:Kap} {L I:List Atom} (x:LV) (xp:LP) (W:World) (hx1:x.links.length ≤ 100000) (hx2:x.mem.length ≤ 100000) (hS:S κ (L) (aa (.slice xp.A x.links.length xp.c) 230 4 x.links.length (ab Lk.cells x.links)::aa (.slice xp.B x.mem.length xp.d) 3 1 x.mem.length (aw x.mem)::I) W):
    Calls Tryz.prog 103 #[.agg #[i6 x.hd.age,i6 x.hd.kind,i6 x.hd.id,i6 x.hd.adv,i6 x.hd.seq,i6 x.hd.sum,i6 x.hd.long,.slice xp.A x.links.length xp.c,.slice xp.B x.mem.length xp.d]] W (fun r w'=>∃ e0:LP,r = .returned (.agg #[i6 (((bX x).hd).age),i6 (((bX x).hd).kind),i6 (((bX x).hd).id),i6 (((bX x).hd).adv),i6 (((bX x).hd).seq),i6 (((bX x).hd).sum),i6 (((bX x).hd).long),.slice e0.A ((bX x).links.length) e0.c,.slice e0.B ((bX x).mem.length) e0.d])∧S κ ((aa (.slice e0.A ((bX x).links.length) e0.c) 230 4 ((bX x).links.length) (ab Lk.cells ((bX x).links)))::(aa (.slice e0.B ((bX x).mem.length) e0.d) 3 1 ((bX x).mem.length) (aw ((bX x).mem)))::L) (aa (.slice xp.A x.links.length xp.c) 230 4 x.links.length (ab Lk.cells x.links)::aa (.slice xp.B x.mem.length xp.d) 3 1 x.mem.length (aw x.mem)::I) w'):=by
 generalize ht:(bX x) = t_
 refine wK 12 Tryz.func103 (fun R_ hR_ a hk=>?_)
 refine sg [0,1] hk ?_
 refine eB hk hS (fun g2 w hS _=>?_)
 refine eA #[i6 0,i6 0,i6 0,i6 0,i6 0,i6 0,i6 0,.slice none 0 0,.slice none 0 0] hS (fun g3 w hS _=>?_)
 refine rE [1,2] hk fun a hk=>?_
 refine wp_seq ?_
 refine rgR [[],[0],[],[2],[2,3],[],[5],[2,3,4,5,6],[0,1,2,3,4,5,6,7],[0,1,2,3,4,5,6,7,8]] [4,7,9] (.rd 0 (.rd 1 (.rd 2 (.rd 3 (.rd 5 (.rd 6 (.ef 4 (.ag 0 (.ag 1 (.ag 5 (.ag 6 (.ef 7 (.ag 0 (.ag 1 (.rd 8 (.ef 9 (.fin) .non)))) .non))))) .non))))))) hk hS (fun w hS _=>?_)
 refine T ?_
 refine LDS 1 7 hk hS ?_
 refine T ?_
 refine LD 1 hk hS ?_
 refine T ?_
 refine LD 1 hk hS ?_
 refine eC hk (h:=qx x.links xp.A xp.c _ (by first | assumption | omega | simp) hS) (k:=?_)
 rintro _ w ⟨B04,d04,rfl,hS⟩
 refine ⟨_,rfl,?_⟩
 replace hS:=hS.nz 3
 refine TA ?_
 refine aG (fun _ h_=>rk (lbS 7 (hS.blk (i:=2) rfl) rfl (h_.x hk))) ?_
 refine TA ?_
 refine aG (fun _ h_=>rk (ld hS 2 rfl (h_.x hk))) ?_
 replace hS:=hS.dupI 1
 refine eC hk (h:=oo x.mem xp.B xp.d _ (by first | assumption | omega | simp) hS) (k:=?_)
 rintro _ w ⟨B05,d05,rfl,hS⟩
 refine ⟨_,rfl,?_⟩
 replace hS:=hS.dropI
 replace hS:=hS.nz 4
 refine TA ?_
 refine aG (fun _ h_=>rk (lbS 7 (hS.blk (i:=3) rfl) rfl (h_.x hk))) ?_
 refine rD (.agg #[i6 x.hd.age,i6 x.hd.kind,i6 x.hd.id,i6 x.hd.adv,i6 x.hd.seq,i6 x.hd.sum,i6 x.hd.long,.slice B04 x.links.length d04,.slice B05 x.mem.length d05]) (fun _ h_=>rk (af rfl (h_.prt hk) (by kernel_rfl))) ?_
 refine eS 2 hk hS (fun w hS _=>?_)
 refine rE [2] hk fun a hk=>?_
 refine wp_ret ?_
 have hCb:=hS.blk (i:=2) rfl
 replace hS:=hS.pk [1,0] 2
 subst ht
 exact rtC hk hCb (hR_ _ _ ⟨(⟨B04,d04,B05,d05⟩:LP),rfl,hS⟩) Tryz.underlying66
def bh (k:KeyV) (d:DbS):LV × Bool:=ji (au k d.l) (bw (bX (⟨(⟨0,0,0,0,0,0,0⟩:HD),[],[]⟩:LV)) fun q9=>(q9,false)) fun v6=>bw (bX v6) fun q12=>(q12,true)
theorem dM {κ:Kap} {L I:List Atom} (g:Nat) (k:KeyV) (d:DbS) (W:World) (hd:dz d) (hS:S κ ((dbA g d)::L) (I) W):
    Calls Tryz.prog 41 #[pt g 0,.agg #[i6 k.kind,i6 k.id,i6 k.adv]] W (fun r w'=>∃ e0:LP,r = .returned (.tuple #[.agg #[i6 ((((bh k d).1).hd).age),i6 ((((bh k d).1).hd).kind),i6 ((((bh k d).1).hd).id),i6 ((((bh k d).1).hd).adv),i6 ((((bh k d).1).hd).seq),i6 ((((bh k d).1).hd).sum),i6 ((((bh k d).1).hd).long),.slice e0.A (((bh k d).1).links.length) e0.c,.slice e0.B (((bh k d).1).mem.length) e0.d],.bool ((bh k d).2)])∧S κ ((aa (.slice e0.A (((bh k d).1).links.length) e0.c) 230 4 (((bh k d).1).links.length) (ab Lk.cells (((bh k d).1).links)))::(aa (.slice e0.B (((bh k d).1).mem.length) e0.d) 3 1 (((bh k d).1).mem.length) (aw (((bh k d).1).mem)))::(dbA g d)::L) (I) w'):=by
 generalize ht:(bh k d) = t_
 refine wK 23 Tryz.func41 (fun R_ hR_ a hk=>?_)
 refine sg [0,1] hk ?_
 refine eB hk hS (fun g2 w hS _=>?_)
 refine eA #[i6 0,i6 0,i6 0,i6 0,i6 0,i6 0,i6 0,.slice none 0 0,.slice none 0 0] hS (fun g3 w hS _=>?_)
 refine T ?_
 refine rE [0,3,4] hk fun a hk=>?_
 refine wp_seq ?_
 refine sg [] hk ?_
 refine T ?_
 refine rD (.bool false) (fun _ h_=>rk (aq rfl (h_.x hk) rfl (fun _=>by kernel_rfl) (fun _=>rfl))) ?_
 refine rE [0,3,4,9] hk fun a hk=>?_
 refine cF hk ?_
 refine wp_skip ?_
 refine wp_seq ?_
 refine rgR [[],[0],[0,1],[0,1,2],[],[0,1,2,3,4],[0,1,2,3,4,5],[0,1,2,3,4,5,6],[0,1,2,3,4,5,6],[],[0,1,2,3,4,5,6,7,9],[0,1,2,3,4,5,6,7,8,9,10]] [9,10] (.rd 0 (.rd 1 (.rd 2 (.rd 3 (.rd 4 (.rd 5 (.rd 6 (.rd 7 (.rd 8 (.ef 9 (.ag 0 (.ag 1 (.ag 2 (.ag 3 (.ag 4 (.ag 5 (.ag 6 (.ag 7 (.ag 8 (.ef 10 (.ag 8 (.rd 11 (.fin))) .non)))))))))) .non)))))))))) hk hS (fun w hS _=>?_)
 iterate 3 refine T ?_
 replace hS:=hS.fr 2
 obtain ⟨m4,hS⟩:=iT hS
 refine LD 0 hk hS ?_
 refine LDS 3 3 hk hS ?_
 replace hS:=hS.fr 1
 obtain ⟨q5,hq5,hS⟩:=cd (F:=lsMF) hS
 rcases hl6:au k q5 with _ | ⟨v6,p6⟩
 ·replace ht:=(fG (ir hq5 hl6)).symm.trans ht
  refine rD (.tuple #[.agg #[i6 0,i6 0,i6 0,i6 0,i6 0,i6 0,i6 0,.slice none 0 0,.slice none 0 0],.bool false]) (fun _ h_=>rk (bH (E:=66) (z:=(.agg #[i6 0,i6 0,i6 0,i6 0,i6 0,i6 0,i6 0,.slice none 0 0,.slice none 0 0])) k bY (hS.mapAt (i:=0) rfl) rfl (h_.x hk) (h_.x hk) (by rw [hl6];rfl))) ?_
  iterate 3 refine T ?_
  refine eA #[i6 0,i6 0,i6 0,i6 0,i6 0,i6 0,i6 0,.slice none 0 0,.slice none 0 0] hS (fun g7 w hS _=>?_)
  iterate 3 refine TA ?_
  refine aG (fun _ h_=>rk (ld hS 3 rfl (h_.x hk))) ?_
  refine aG (fun _ h_=>rk (lbS 3 (hS.blk (i:=5) rfl) rfl (h_.x hk))) ?_
  refine aG (fun _ h_=>rk (bH (E:=66) (z:=(.agg #[i6 0,i6 0,i6 0,i6 0,i6 0,i6 0,i6 0,.slice none 0 0,.slice none 0 0])) k bY (hS.mapAt (i:=1) rfl) rfl (h_.x hk) (h_.x hk) (by rw [hl6];rfl))) ?_
  iterate 3 refine TA ?_
  refine eS 0 hk hS (fun w hS _=>?_)
  refine TA ?_
  refine T ?_
  refine rE [4,6,7] hk fun a hk=>?_
  refine sg [1,3] hk ?_
  refine LDS 0 9 hk hS ?_
  have hS:=hS.nilrow 230 4
  replace hS:=hS.nz 7
  have hS:=hS.nilrow 3 1
  replace hS:=hS.nz 8
  replace hS:=hS.pk [1,0] 0
  obtain ⟨J8,hS,hJ8⟩:=S.lend (M:=[_,_]) hS
  refine eC hk (h:=kT (⟨(⟨0,0,0,0,0,0,0⟩:HD),[],[]⟩:LV) (⟨none,0,none,0⟩:LP) _ (by first | exact Nat.zero_le _ | assumption | exact (iS hd (cC (by assumption) (by assumption))).1 | exact (hlp _ (by assumption)).1) (by first | exact Nat.zero_le _ | assumption | exact (iS hd (cC (by assumption) (by assumption))).2 | exact (hlp _ (by assumption)).2) hS) (k:=?_)
  rintro _ w ⟨e09,rfl,hS⟩
  refine ⟨_,rfl,?_⟩
  generalize hq9:bX (⟨(⟨0,0,0,0,0,0,0⟩:HD),[],[]⟩:LV) = q9 at hS ⊢
  replace ht:=(am hq9).symm.trans ht
  replace hS:=hJ8 _ _ hS
  replace hS:=hS.nz 10
  refine T ?_
  refine eS 8 hk hS (fun w hS _=>?_)
  refine T ?_
  refine rE [4,5] hk fun a hk=>?_
  refine wp_ret ?_
  have hCb:=hS.blk (i:=8) rfl
  replace hS:=hS.pk [5,5] 0
  replace hS:=bd (F:=lsMF) hq5 hS
  replace hS:=hS.pk [6,0] 0
  replace hS:=d7 (d:=d) hS
  replace hS:=hS.pk [3,3,0] 5
  subst ht
  exact gs hk hCb (hR_ _ _ ⟨e09,rfl,hS⟩) Tryz.underlying66
 ·replace ht:=(fH (cC hq5 hl6)).symm.trans ht
  replace hS:=hS.fr 1
  replace hS:=pR (F:=lsMF) hl6 hS
  replace hS:=hS.nz 7
  refine rD (.tuple #[.agg #[i6 v6.hd.age,i6 v6.hd.kind,i6 v6.hd.id,i6 v6.hd.adv,i6 v6.hd.seq,i6 v6.hd.sum,i6 v6.hd.long,.slice p6.A v6.links.length p6.c,.slice p6.B v6.mem.length p6.d],.bool true]) (fun _ h_=>rk (bH (E:=66) (z:=(.agg #[i6 0,i6 0,i6 0,i6 0,i6 0,i6 0,i6 0,.slice none 0 0,.slice none 0 0])) k bY (hS.mapAt (i:=3) rfl) rfl (h_.x hk) (h_.x hk) (by rw [hl6];rfl))) ?_
  iterate 3 refine T ?_
  refine eA #[i6 0,i6 0,i6 0,i6 0,i6 0,i6 0,i6 0,.slice none 0 0,.slice none 0 0] hS (fun g10 w hS _=>?_)
  iterate 3 refine TA ?_
  refine aG (fun _ h_=>rk (ld hS 5 rfl (h_.x hk))) ?_
  refine aG (fun _ h_=>rk (lbS 3 (hS.blk (i:=7) rfl) rfl (h_.x hk))) ?_
  refine aG (fun _ h_=>rk (bH (E:=66) (z:=(.agg #[i6 0,i6 0,i6 0,i6 0,i6 0,i6 0,i6 0,.slice none 0 0,.slice none 0 0])) k bY (hS.mapAt (i:=4) rfl) rfl (h_.x hk) (h_.x hk) (by rw [hl6];rfl))) ?_
  iterate 3 refine TA ?_
  refine eS 0 hk hS (fun w hS _=>?_)
  refine TA ?_
  refine T ?_
  refine rE [4,6,7] hk fun a hk=>?_
  refine sg [1,3] hk ?_
  refine LDS 0 9 hk hS ?_
  replace hS:=hS.pk [1,1] 0
  obtain ⟨J11,hS,hJ11⟩:=S.lend (M:=[_,_]) hS
  refine eC hk (h:=kT v6 p6 _ (by first | exact Nat.zero_le _ | assumption | exact (iS hd (cC (by assumption) (by assumption))).1 | exact (hlp _ (by assumption)).1) (by first | exact Nat.zero_le _ | assumption | exact (iS hd (cC (by assumption) (by assumption))).2 | exact (hlp _ (by assumption)).2) hS) (k:=?_)
  rintro _ w ⟨e012,rfl,hS⟩
  refine ⟨_,rfl,?_⟩
  generalize hq12:bX v6 = q12 at hS ⊢
  replace ht:=(am hq12).symm.trans ht
  replace hS:=hJ11 _ _ hS
  replace hS:=hS.nz 10
  refine T ?_
  refine eS 8 hk hS (fun w hS _=>?_)
  refine T ?_
  refine rE [4,5] hk fun a hk=>?_
  refine wp_ret ?_
  have hCb:=hS.blk (i:=8) rfl
  replace hS:=hS.pk [0,0,3] 0
  replace hS:=iq (F:=lsMF) (x:=k) (v:=v6) (p:=p6) hS
  replace hS:=hS.pk [4] 0
  replace hS:=jJ (ku (v':=(v6,p6)) rfl hl6) hS
  have hq13:=nj (p':=p6) hq5 hl6
  replace hS:=bd (F:=lsMF) hq13 hS
  replace hS:=hS.pk [4,0] 0
  replace hS:=d7 (d:=d) hS
  replace hS:=hS.pk [1,1,0] 3
  subst ht
  exact gs hk hCb (hR_ _ _ ⟨e012,rfl,hS⟩) Tryz.underlying66
def j5 (k:KeyV) (d:DbS):Bool × DbS:=bw (bh k d) fun q3=>cond q3.2 ((q3.2,(⟨d.room,bS k d.l⟩:DbS))) ((q3.2,d))
theorem sD {κ:Kap} {L I:List Atom} (g:Nat) (k:KeyV) (d:DbS) (W:World) (hd:dz d) (hS:S κ ((dbA g d)::L) (I) W):
    Calls Tryz.prog 52 #[pt g 0,.agg #[i6 k.kind,i6 k.id,i6 k.adv]] W (fun r w'=>r = .returned (.bool ((j5 k d).1))∧S κ ((dbA g ((j5 k d).2))::L) (I) w'):=by
 generalize ht:(j5 k d) = t_
 refine wK 20 Tryz.func52 (fun R_ hR_ a hk=>?_)
 refine sg [0] hk ?_
 refine eB hk hS (fun g2 w hS _=>?_)
 refine T ?_
 refine rE [0,3] hk fun a hk=>?_
 refine sg [2,6,7] hk ?_
 refine T ?_
 refine LDS 0 3 hk hS ?_
 replace hS:=hS.pk [1] 0
 refine eC hk (h:=dM g k d _ (by assumption) hS) (k:=?_)
 rintro _ w ⟨e03,rfl,hS⟩
 refine ⟨_,rfl,?_⟩
 generalize hq3:bh k d = q3 at hS ⊢
 replace ht:=(am hq3).symm.trans ht
 replace hS:=hS.nz 4
 iterate 3 refine T ?_
 refine eA #[i6 0,i6 0,i6 0,i6 0,i6 0,i6 0,i6 0,.slice none 0 0,.slice none 0 0] hS (fun g4 w hS _=>?_)
 refine eS 0 hk hS (fun w hS _=>?_)
 refine T ?_
 refine rE [0,3,6] hk fun a hk=>?_
 refine wp_seq ?_
 refine sg [] hk ?_
 refine T ?_
 refine rE [0,3,6,13] hk fun a hk=>?_
 refine cB hk (fun hc13=>?_) (fun hc13=>?_)
 ·replace ht:=(bT hc13).symm.trans ht
  refine rgR [[],[0],[0,1],[0,1,2],[],[0,1,2,3,4]] [5] (.rd 0 (.rd 1 (.rd 2 (.rd 3 (.rd 4 (.ef 5 (.fin) .non)))))) hk hS (fun w hS _=>?_)
  iterate 3 refine T ?_
  replace hS:=hS.fr 3
  obtain ⟨m5,hS⟩:=iT hS
  refine LD 0 hk hS ?_
  refine LDS 5 3 hk hS ?_
  replace hS:=hS.fr 1
  obtain ⟨q6,hq6,hS⟩:=cd (F:=lsMF) hS
  refine eF (fun a_ h_=>lB (E:=66) 0 k bY hS (ae rfl) rfl (h_.x hk) (h_.x hk) fun w hS=>⟨_,rfl,?_⟩)
  replace hS:=hS.nz 7
  replace hS:=hS.fr 1
  replace hS:=pS (F:=lsMF) (x:=k) hS
  have hq7:=ni hq6 k
  replace hS:=hS.pk [1,0] 0
  replace hS:=bd (F:=lsMF) hq7 hS
  refine rE [6] hk fun a hk=>?_
  refine sg [] hk ?_
  iterate 2 refine T ?_
  refine rE [4] hk fun a hk=>?_
  refine wp_ret ?_
  replace hS:=hS.pk [1,0] 0
  replace hS:=d7 (d:=(⟨d.room,bS k d.l⟩:DbS)) hS
  replace hS:=hS.pk [0] 4
  subst ht
  exact rt1 hk (hR_ _ _ ⟨rfl,hS⟩)
 replace ht:=(bF hc13).symm.trans ht
 refine wp_skip ?_
 refine sg [] hk ?_
 iterate 2 refine T ?_
 refine rE [4] hk fun a hk=>?_
 refine wp_ret ?_
 replace hS:=hS.pk [3] 4
 subst ht
 exact rt1 hk (hR_ _ _ ⟨rfl,hS⟩)
def ej (x:LV) (d:DbS):Int × DbS:=cond ((eY x)) (ji (au (ah x.hd) d.l) (if (((d.l.length:Nat):Int):Int) = d.room then (7,d) else bw ((bE x)) fun q10=>(0,(⟨d.room,aV (ah x.hd) q10 d.l⟩:DbS))) fun v8=>bw ((bE x)) fun q13=>(0,(⟨d.room,aV (ah x.hd) q13 d.l⟩:DbS))) ((1,d))
theorem iR {κ:Kap} {L I:List Atom} (g:Nat) (x:LV) (xp:LP) (d:DbS) (W:World) (hx1:x.links.length ≤ 5000) (hx2:x.mem.length ≤ 5000) (hS:S κ ((dbA g d)::L) (aa (.slice xp.A x.links.length xp.c) 230 4 x.links.length (ab Lk.cells x.links)::aa (.slice xp.B x.mem.length xp.d) 3 1 x.mem.length (aw x.mem)::I) W):
    Calls Tryz.prog 209 #[pt g 0,.agg #[i6 x.hd.age,i6 x.hd.kind,i6 x.hd.id,i6 x.hd.adv,i6 x.hd.seq,i6 x.hd.sum,i6 x.hd.long,.slice xp.A x.links.length xp.c,.slice xp.B x.mem.length xp.d]] W (fun r w'=>r = .returned (i6 ((ej x d).1))∧S κ ((dbA g ((ej x d).2))::L) (aa (.slice xp.A x.links.length xp.c) 230 4 x.links.length (ab Lk.cells x.links)::aa (.slice xp.B x.mem.length xp.d) 3 1 x.mem.length (aw x.mem)::I) w'):=by
 generalize ht:(ej x d) = t_
 refine wK 48 Tryz.func209 (fun R_ hR_ a hk=>?_)
 refine sg [0] hk ?_
 refine eB hk hS (fun g2 w hS _=>?_)
 refine T ?_
 refine rE [0,3] hk fun a hk=>?_
 refine wp_seq ?_
 refine wp_block ?_
 refine sg [] hk ?_
 refine T ?_
 refine rD (.bool false) (fun _ h_=>rk (aq rfl (h_.x hk) rfl (fun _=>by kernel_rfl) (fun _=>rfl))) ?_
 refine T ?_
 refine rE [0,3,8] hk fun a hk=>?_
 refine cF hk ?_
 refine sg [1] hk ?_
 refine LDS 0 9 hk hS ?_
 refine eC hk (h:=xw x xp _ (by first | assumption | omega | exact (hls _ (by assumption)).1) (by first | assumption | omega | exact (hls _ (by assumption)).2) hS) (k:=?_)
 rintro _ w ⟨rfl,hS⟩
 refine ⟨_,rfl,?_⟩
 replace hS:=hS.nz 2
 iterate 2 refine T ?_
 refine rE [0,3,11] hk fun a hk=>?_
 refine cB hk (fun hc11=>?_) (fun hc11=>?_)
 ·replace hc11:=nbt hc11
  replace ht:=(bF hc11).symm.trans ht
  refine sg [] hk ?_
  refine T ?_
  refine rE [4] hk fun a hk=>?_
  refine wp_ret ?_
  replace hS:=hS.pk [1] 1
  subst ht
  exact rt1 hk (hR_ _ _ ⟨rfl,hS⟩)
 replace hc11:=nbf hc11
 replace ht:=(bT hc11).symm.trans ht
 refine wp_skip ?_
 refine sg [2,3,4] hk ?_
 refine T ?_
 refine LDS 0 7 hk hS ?_
 refine eC hk (h:=ct x.hd _ hS) (k:=?_)
 rintro _ w ⟨rfl,hS⟩
 refine ⟨_,rfl,?_⟩
 replace hS:=hS.nz 2
 refine eA #[i6 0,i6 0,i6 0] hS (fun g5 w hS _=>?_)
 refine eS 0 hk hS (fun w hS _=>?_)
 refine rE [0,3,5] hk fun a hk=>?_
 refine wp_seq ?_
 refine wp_seq ?_
 refine rgR [[],[0],[0,1],[0,1,2],[],[0,1,2,3,4],[0,1,2,3,4,5],[0,1,2,3,4,5,6],[0,1,2,3,4,5,6],[],[0,1,2,3,4,5,6,7,9],[0,1,2,3,4,5,6,7,8,9,10]] [9,10] (.rd 0 (.rd 1 (.rd 2 (.rd 3 (.rd 4 (.rd 5 (.rd 6 (.rd 7 (.rd 8 (.ef 9 (.ag 0 (.ag 1 (.ag 2 (.ag 3 (.ag 4 (.ag 5 (.ag 6 (.ag 7 (.ag 8 (.ef 10 (.ag 8 (.rd 11 (.fin))) .non)))))))))) .non)))))))))) hk hS (fun w hS _=>?_)
 iterate 3 refine T ?_
 replace hS:=hS.fr 2
 obtain ⟨m6,hS⟩:=iT hS
 refine LD 0 hk hS ?_
 refine LDS 2 3 hk hS ?_
 replace hS:=hS.fr 1
 obtain ⟨q7,hq7,hS⟩:=cd (F:=lsMF) hS
 rcases hl8:au (ah x.hd) q7 with _ | ⟨v8,p8⟩
 ·replace ht:=(fG (ir hq7 hl8)).symm.trans ht
  refine rD (.tuple #[.agg #[i6 0,i6 0,i6 0,i6 0,i6 0,i6 0,i6 0,.slice none 0 0,.slice none 0 0],.bool false]) (fun _ h_=>rk (bH (E:=66) (z:=(.agg #[i6 0,i6 0,i6 0,i6 0,i6 0,i6 0,i6 0,.slice none 0 0,.slice none 0 0])) (ah x.hd) bY (hS.mapAt (i:=0) rfl) rfl (h_.x hk) (h_.x hk) (by rw [hl8];rfl))) ?_
  iterate 3 refine T ?_
  refine eA #[i6 0,i6 0,i6 0,i6 0,i6 0,i6 0,i6 0,.slice none 0 0,.slice none 0 0] hS (fun g9 w hS _=>?_)
  iterate 3 refine TA ?_
  refine aG (fun _ h_=>rk (ld hS 3 rfl (h_.x hk))) ?_
  refine aG (fun _ h_=>rk (lbS 3 (hS.blk (i:=4) rfl) rfl (h_.x hk))) ?_
  refine aG (fun _ h_=>rk (bH (E:=66) (z:=(.agg #[i6 0,i6 0,i6 0,i6 0,i6 0,i6 0,i6 0,.slice none 0 0,.slice none 0 0])) (ah x.hd) bY (hS.mapAt (i:=1) rfl) rfl (h_.x hk) (h_.x hk) (by rw [hl8];rfl))) ?_
  iterate 3 refine TA ?_
  refine eS 0 hk hS (fun w hS _=>?_)
  refine TA ?_
  refine T ?_
  refine rE [0,3,5,7] hk fun a hk=>?_
  refine wp_seq ?_
  refine rgR [[],[0],[0,1],[0,1,2],[0,1,2,3],[0,1,2,3,4],[0,1,2,3,4,5],[0,1,2,3,4,5,6],[0,1,2],[0,1,2,8],[0,1,2,8,9],[0,1,2,8,9,10],[0,1,2,3,4,5,6,7,8,9,10,11],[0,1,2,3,4,5,6,7,8,9,10,11,12]] [] (.rd 0 (.rd 1 (.rd 2 (.rd 3 (.rd 4 (.rd 5 (.rd 6 (.rd 7 (.rd 8 (.rd 9 (.rd 10 (.rd 11 (.rd 12 (.rd 13 (.fin))))))))))))))) hk hS (fun w hS _=>?_)
  iterate 6 refine T ?_
  refine LD 3 hk hS ?_
  refine rD (i6 ((d.l.length:Nat):Int)) (fun _ h_=>bL (h_.on 2 29) (xQ rfl hS (i:=1) rfl (h_.x hk) (ki hq7))) ?_
  iterate 3 refine T ?_
  refine LD 3 hk hS ?_
  iterate 2 refine T ?_
  refine rE [0,3,5,40] hk fun a hk=>?_
  refine cD hk (fun hc40=>?_) (fun hc40=>?_)
  ·replace ht:=(if_pos hc40).symm.trans ht
   refine sg [] hk ?_
   refine T ?_
   refine rE [4] hk fun a hk=>?_
   refine wp_ret ?_
   replace hS:=hS.pk [1,1] 0
   replace hS:=bd (F:=lsMF) hq7 hS
   replace hS:=hS.pk [2,0] 0
   replace hS:=d7 (d:=d) hS
   replace hS:=hS.pk [0] 3
   subst ht
   exact rt1 hk (hR_ _ _ ⟨rfl,hS⟩)
  replace ht:=(if_neg hc40).symm.trans ht
  refine wp_skip ?_
  refine wp_seq ?_
  refine rgR [[],[0],[0,1],[0,1,2],[],[],[5],[0,1,2,3,4,5,6]] [6,7] (.rd 0 (.rd 1 (.rd 2 (.rd 3 (.rd 4 (.rd 5 (.ef 6 (.ag 0 (.ag 1 (.ag 2 (.ag 3 (.ag 4 (.ef 7 (.fin) .non)))))) .non))))))) hk hS (fun w hS _=>?_)
  iterate 3 refine T ?_
  refine LD 3 hk hS ?_
  refine LDS 4 3 hk hS ?_
  refine LDS 5 9 hk hS ?_
  refine eC hk (h:=pP x xp _ (by first | assumption | omega | exact (hls _ (by assumption)).1) (by first | assumption | omega | exact (hls _ (by assumption)).2) hS) (k:=?_)
  rintro _ w ⟨e010,rfl,hS⟩
  refine ⟨_,rfl,?_⟩
  generalize hq10:(bE x) = q10 at hS ⊢
  replace ht:=(am hq10).symm.trans ht
  replace hS:=hS.nz 8
  iterate 3 refine TA ?_
  refine aG (fun _ h_=>rk (ld hS 5 rfl (h_.x hk))) ?_
  refine aG (fun _ h_=>rk (lbS 3 (hS.blk (i:=6) rfl) rfl (h_.x hk))) ?_
  refine eF (fun a_ h_=>cL (ev:=lsMF.ev) (E:=66) 3 (ah x.hd) (q10,e010) bY hS (ae rfl) (.inl rfl) (h_.x hk) (h_.x hk) (h_.x hk) fun w hS=>⟨_,rfl,?_⟩)
  replace hS:=hS.nz 8
  replace hS:=hS.pk [0,0,2] 0
  replace hS:=mw (F:=lsMF) (x:=(ah x.hd)) (v:=q10) (p:=e010) hS
  have hq11:=gk hq7 (ah x.hd) q10 e010
  replace hS:=hS.pk [2,0] 0
  replace hS:=bd (F:=lsMF) hq11 hS
  refine rE [] hk fun a hk=>?_
  refine sg [] hk ?_
  refine T ?_
  refine rE [4] hk fun a hk=>?_
  refine wp_ret ?_
  replace hS:=hS.pk [2,0] 0
  replace hS:=d7 (d:=(⟨d.room,aV (ah x.hd) q10 d.l⟩:DbS)) hS
  replace hS:=hS.pk [0] 3
  subst ht
  exact rt1 hk (hR_ _ _ ⟨rfl,hS⟩)
 ·replace ht:=(fH (cC hq7 hl8)).symm.trans ht
  replace hS:=hS.fr 1
  replace hS:=pR (F:=lsMF) hl8 hS
  replace hS:=hS.nz 7
  refine rD (.tuple #[.agg #[i6 v8.hd.age,i6 v8.hd.kind,i6 v8.hd.id,i6 v8.hd.adv,i6 v8.hd.seq,i6 v8.hd.sum,i6 v8.hd.long,.slice p8.A v8.links.length p8.c,.slice p8.B v8.mem.length p8.d],.bool true]) (fun _ h_=>rk (bH (E:=66) (z:=(.agg #[i6 0,i6 0,i6 0,i6 0,i6 0,i6 0,i6 0,.slice none 0 0,.slice none 0 0])) (ah x.hd) bY (hS.mapAt (i:=3) rfl) rfl (h_.x hk) (h_.x hk) (by rw [hl8];rfl))) ?_
  iterate 3 refine T ?_
  refine eA #[i6 0,i6 0,i6 0,i6 0,i6 0,i6 0,i6 0,.slice none 0 0,.slice none 0 0] hS (fun g12 w hS _=>?_)
  iterate 3 refine TA ?_
  refine aG (fun _ h_=>rk (ld hS 5 rfl (h_.x hk))) ?_
  refine aG (fun _ h_=>rk (lbS 3 (hS.blk (i:=6) rfl) rfl (h_.x hk))) ?_
  refine aG (fun _ h_=>rk (bH (E:=66) (z:=(.agg #[i6 0,i6 0,i6 0,i6 0,i6 0,i6 0,i6 0,.slice none 0 0,.slice none 0 0])) (ah x.hd) bY (hS.mapAt (i:=4) rfl) rfl (h_.x hk) (h_.x hk) (by rw [hl8];rfl))) ?_
  iterate 3 refine TA ?_
  refine eS 0 hk hS (fun w hS _=>?_)
  refine TA ?_
  refine T ?_
  refine rE [0,3,5,7] hk fun a hk=>?_
  refine wp_seq ?_
  refine rgR [[],[0],[0,1],[0,1,2],[0,1,2,3],[0,1,2,3,4],[0,1,2,3,4,5],[0,1,2,3,4,5,6],[0,1,2],[0,1,2,8],[0,1,2,8,9],[0,1,2,8,9,10],[0,1,2,3,4,5,6,7,8,9,10,11],[0,1,2,3,4,5,6,7,8,9,10,11,12]] [] (.rd 0 (.rd 1 (.rd 2 (.rd 3 (.rd 4 (.rd 5 (.rd 6 (.rd 7 (.rd 8 (.rd 9 (.rd 10 (.rd 11 (.rd 12 (.rd 13 (.fin))))))))))))))) hk hS (fun w hS _=>?_)
  iterate 3 refine T ?_
  refine oF 2 29 true [3,4,5,6,7,8,9,10,11,12] ?_
  refine T ?_
  refine rE [0,3,5,40] hk fun a hk=>?_
  refine cF hk ?_
  refine wp_skip ?_
  refine wp_seq ?_
  refine rgR [[],[0],[0,1],[0,1,2],[],[],[5],[0,1,2,3,4,5,6]] [6,7] (.rd 0 (.rd 1 (.rd 2 (.rd 3 (.rd 4 (.rd 5 (.ef 6 (.ag 0 (.ag 1 (.ag 2 (.ag 3 (.ag 4 (.ef 7 (.fin) .non)))))) .non))))))) hk hS (fun w hS _=>?_)
  iterate 3 refine T ?_
  refine LD 5 hk hS ?_
  refine LDS 6 3 hk hS ?_
  refine LDS 7 9 hk hS ?_
  refine eC hk (h:=pP x xp _ (by first | assumption | omega | exact (hls _ (by assumption)).1) (by first | assumption | omega | exact (hls _ (by assumption)).2) hS) (k:=?_)
  rintro _ w ⟨e013,rfl,hS⟩
  refine ⟨_,rfl,?_⟩
  generalize hq13:(bE x) = q13 at hS ⊢
  replace ht:=(am hq13).symm.trans ht
  replace hS:=hS.nz 10
  iterate 3 refine TA ?_
  refine aG (fun _ h_=>rk (ld hS 7 rfl (h_.x hk))) ?_
  refine aG (fun _ h_=>rk (lbS 3 (hS.blk (i:=8) rfl) rfl (h_.x hk))) ?_
  refine eF (fun a_ h_=>cL (ev:=lsMF.ev) (E:=66) 6 (ah x.hd) (q13,e013) bY hS (ae rfl) (.inl rfl) (h_.x hk) (h_.x hk) (h_.x hk) fun w hS=>⟨_,rfl,?_⟩)
  replace hS:=hS.nz 10
  replace hS:=hS.pk [0,0,3] 0
  replace hS:=iq (F:=lsMF) (x:=(ah x.hd)) (v:=q13) (p:=e013) hS
  have hq14:=gk hq7 (ah x.hd) q13 e013
  replace hS:=hS.pk [4,0] 0
  replace hS:=bd (F:=lsMF) hq14 hS
  refine rE [] hk fun a hk=>?_
  refine sg [] hk ?_
  refine T ?_
  refine rE [4] hk fun a hk=>?_
  refine wp_ret ?_
  replace hS:=hS.pk [4,0] 0
  replace hS:=d7 (d:=(⟨d.room,aV (ah x.hd) q13 d.l⟩:DbS)) hS
  replace hS:=hS.pk [0] 5
  subst ht
  exact rt1 hk (hR_ _ _ ⟨rfl,hS⟩)
theorem dbP {d:DbS} (hd:dz d) {q:List (KeyV × LV × LP)} (hq:MFn.out q = d.l):∀ y ∈ q,y.2.1.links.length ≤ 100000∧y.2.1.mem.length ≤ 100000:=fun y hy=>by
  have h:(y.1,y.2.1) ∈ d.l:=by rw [← hq];exact List.mem_map.2 ⟨y,hy,rfl⟩
  have:=(hd _ h).1.1
  exact ⟨Nat.le_trans this.1 (by omega),Nat.le_trans this.2 (by omega)⟩
def fy (k6:KeyV) (v6:LV) (v5x0:List LV):(List LV):=bw (bX v6) fun q9=>v5x0 ++ [q9]
theorem jX:∀ eo:List (KeyV × LV),(eo.foldr (fun e x=>fy e.1 e.2 x) []).Perm (eo.map (·.2))
  | []=>List.Perm.refl _
  | e::eo=>by
    show (fy e.1 e.2 _).Perm (e.2::eo.map (·.2))
    exact List.perm_append_comm.trans (List.Perm.cons _ (jX eo))
theorem Ar {d:DbS} (hd:dz d) (hn:(d.l.map (·.1)).Nodup):oe (d.l.map (·.2)):=by
  unfold oe
  rw [List.map_map,show d.l.map ((fun x:LV=>f8 x.hd) ∘ fun x=>x.2) = d.l.map (·.1) from List.map_congr_left fun y hy=>(hd y hy).2.symm]
  exact hn
theorem wD {d:DbS} (hd:dz d) {eo:List (KeyV × LV)} (hp:eo.Perm d.l) (hn:(d.l.map (·.1)).Nodup) {r:List LV} (hr:eo.foldr (fun e x=>fy e.1 e.2 x) [] = r):oe r:=by
  have h:=(jX eo).trans (hp.map (·.2))
  rw [hr] at h
  exact (h.map _).nodup_iff.2 (Ar hd hn)
def cS (eo5:List (KeyV × LV)):(List LV):=bw (eo5.foldr (fun e x=>fy e.1 e.2 x) []) fun r5=>aW pQ r5
theorem vb {κ:Kap} {L I:List Atom} (g:Nat) (d:DbS) (W:World) (hd:dz d) (hn:d.l.length ≤ 100000) (hS:S κ ((dbA g d)::L) (I) W):
    Calls Tryz.prog 49 #[pt g 0] W (fun r w'=>∃ eo5:List (KeyV × LV),eo5.Perm d.l∧∃ B0 d0,r = .returned (.slice B0 ((cS eo5).length) d0)∧S κ (crA lsFn 66 B0 d0 (cS eo5)::(dbA g d)::L) (I) w'):=by
 have ht:∀ es_,cS es_ = cS es_:=fun _=>rfl
 refine wK 26 Tryz.func49 (fun R_ hR_ a hk=>?_)
 refine sg [] hk ?_
 refine T ?_
 refine rE [0] hk fun a hk=>?_
 refine sg [] hk ?_
 refine T ?_
 refine rE [0,3] hk fun a hk=>?_
 refine wp_seq ?_
 refine sg [] hk ?_
 refine T ?_
 refine rD (.bool false) (fun _ h_=>rk (aq rfl (h_.x hk) rfl (fun _=>by kernel_rfl) (fun _=>rfl))) ?_
 refine rE [0,3,7] hk fun a hk=>?_
 refine cF hk ?_
 refine wp_skip ?_
 refine wp_seq ?_
 refine sg [4] hk ?_
 iterate 3 refine T ?_
 obtain ⟨m2,hS⟩:=iT hS
 refine LD 0 hk hS ?_
 replace hS:=hS.fr 1
 obtain ⟨q3,hq3,hS⟩:=cd (F:=lsMF) hS
 refine eF (fun a_ h_=>fP (k:=111) (e:=66) 0 hS (ae rfl) rfl (h_.x hk) fun r4q w hS=>⟨_,rfl,?_⟩)
 replace hS:=hS.nz 3
 refine rE [3,13] hk fun a hk=>?_
 refine aB (fun a_ w_=>∃ eo5:List (KeyV × LV),∃ r5,∃ A5x0 c5x0,(eo5.Perm d.l)∧((d.l).map (·.1)).Nodup∧eo5.foldr (fun e x=>fy e.1 e.2 x) [] = r5∧(r5.length ≤ (d.l).length)∧Fr a_ 26 [(3,.slice A5x0 ((r5).length) c5x0)]∧S κ (crA lsFn 66 A5x0 c5x0 r5::bq lsMF.ek lsMF.ev m2 q3::(dI lsMF q3)::ai g 192 #[i6 d.room,.map (some m2)]::L) (I) w_) ?_ ?_
 ·refine wp_block ?_
  refine wp_loop (fun a_ w_=>∃ es5:List (KeyV × (LV × LP)),∃ v5x0:List LV,∃ A5x0 c5x0,((es5.map (·.1)).Nodup)∧(∀ e ∈ es5,e ∈ q3)∧((MFn.out es5).foldr (fun e x=>fy e.1 e.2 x) [] = v5x0)∧(v5x0.length ≤ es5.length)∧Fr a_ 26 [(3,.slice A5x0 ((v5x0).length) c5x0),(13,pt r4q 0)]∧S κ (crA lsFn 66 A5x0 c5x0 v5x0::(bx lsMF.ek lsMF.ev m2 r4q q3 (es5.map (·.1)))::(dI lsMF q3)::ai g 192 #[i6 d.room,.map (some m2)]::L) (I) w_) (fun _ w_=>q3.length - (w_.iterSeen r4q).size) ?_ ?_
  ·replace hS:=hS.crNil lsFn 66
   replace hS:=hS.nz 4
   exact ⟨[],[],_,_,List.nodup_nil,(fun e h=>by cases h),rfl,Nat.le_refl _,hk.to,hS⟩
  clear hk hS
  rintro aL5 w ⟨es5,v5x0,A5x0,c5x0,hn5,hsub5,hf5,hln5x0,hk,hS⟩
  have hmu5:=S.rangeLen hS (i:=1) rfl
  have hnl5:=S.rangeNodup hS (i:=1) rfl
  have hel5:=iL hn5 hsub5
  have hmq5:=ki hq3
  refine sg [0] hk ?_
  refine eF (fun a_ h_=>g0 1 hS (ae rfl) rfl (h_.x hk) (fun hall=>⟨_,rfl,?_⟩) (fun p6 w hp6 hpd6 hS=>⟨_,rfl,?_⟩))
  ·refine T ?_
   refine rE [3,13,15] hk fun a hk=>?_
   refine wp_seq ?_
   refine cF hk ?_
   refine wp_exit ?_
   replace hS:=hS.rangeEnd (i:=1) rfl
   replace hS:=hS.nz 4
   exact ⟨MFn.out es5,_,_,_,rl hq3 (kC hn5 hsub5 hall hnl5),td hq3 hnl5,hf5,xD hq3 (Nat.le_trans hln5x0 hel5),hk.to,hS⟩
  obtain ⟨k6,v6,e6⟩:=p6
  replace hS:=hS.nz 4
  replace hS:=hS.fr 2
  obtain ⟨R6,hS,hR6⟩:=xy (F:=lsMF) hp6 hS
  replace hS:=hS.nz 6
  obtain ⟨x5,hI5⟩:∃ y_,fy k6 v6 v5x0 = y_:=⟨_,rfl⟩
  have hs5:=hI5
  refine T ?_
  refine rE [3,13,15] hk fun a hk=>?_
  refine wp_seq ?_
  refine cT hk ?_
  refine wp_skip ?_
  refine wp_block ?_
  refine sg [2,3] hk ?_
  refine rD (.tuple #[.agg #[i6 k6.kind,i6 k6.id,i6 k6.adv],.agg #[i6 v6.hd.age,i6 v6.hd.kind,i6 v6.hd.id,i6 v6.hd.adv,i6 v6.hd.seq,i6 v6.hd.sum,i6 v6.hd.long,.slice e6.A v6.links.length e6.c,.slice e6.B v6.mem.length e6.d]]) (fun _ h_=>rk (er (ek:=lsMF.ek) (ev:=lsMF.ev) (x:=k6) (u:=(v6,e6)) hS (i:=4) rfl hp6 rfl (h_.x hk))) ?_
  refine T ?_
  refine eA #[i6 0,i6 0,i6 0,i6 0,i6 0,i6 0,i6 0,.slice none 0 0,.slice none 0 0] hS (fun g7 w hS _=>?_)
  refine eS 0 hk hS (fun w hS _=>?_)
  refine rE [3,5,13] hk fun a hk=>?_
  refine rgL [2,3,4] hk ?_
  refine T ?_
  refine LDS 0 9 hk hS ?_
  replace hS:=hS.pk [1,1] 0
  obtain ⟨J8,hS,hJ8⟩:=S.lend (M:=[_,_]) hS
  refine eC hk (h:=kT v6 e6 _ (by first | exact Nat.zero_le _ | assumption | exact (iS hd (cC (by assumption) (by assumption))).1 | exact (dbP hd (by assumption) _ (by assumption)).1) (by first | exact Nat.zero_le _ | assumption | exact (iS hd (cC (by assumption) (by assumption))).2 | exact (dbP hd (by assumption) _ (by assumption)).2) hS) (k:=?_)
  rintro _ w ⟨e09,rfl,hS⟩
  refine ⟨_,rfl,?_⟩
  generalize hq9:bX v6 = q9 at hS ⊢
  replace hI5:=(am hq9).symm.trans hI5
  replace hS:=hJ8 _ _ hS
  replace hS:=hS.nz 9
  refine eF (fun a_ h_=>aZ (e:=66) (cells:=#[i6 q9.hd.age,i6 q9.hd.kind,i6 q9.hd.id,i6 q9.hd.adv,i6 q9.hd.seq,i6 q9.hd.sum,i6 q9.hd.long,.slice e09.A q9.links.length e09.c,.slice e09.B q9.mem.length e09.d]) hS (ae rfl) rfl (h_.prtL hk) fun g10 w hS _=>⟨_,rfl,?_⟩)
  replace hS:=hS.pk [7,3,3] 0
  refine eF (fun a_ h_=>sA (bytes:=104) lsFn q9 e09 hS (ae rfl) rfl (h_.x hk) (h_.x hk) (ay (hS.blk (i:=3) rfl) rfl) (by (try simp only [List.length_append,List.length_cons,List.length_nil,List.length_take,List.length_drop]);omega) fun A12 c12 w hS=>⟨_,rfl,?_⟩)
  replace hS:=hS.nz 8
  refine T ?_
  refine rE [3,13] hk fun a hk=>?_
  replace hS:=hS.pk [2,2,3] 0
  replace hS:=hR6 _ _ _ hS
  replace hS:=hS.pk [1,3,0,2] 2
  have hmuE:=S.rangeLen hS (i:=1) rfl
  subst hI5
  exact ⟨⟨(k6,v6,e6)::es5,(v5x0 ++ [q9]),_,_,List.nodup_cons.2 ⟨hpd6,hn5⟩,eU hp6 hsub5,(by rw [MFn.out,List.map_cons,List.foldr_cons];unfold MFn.out at hf5;rw [hf5];exact hs5),by (try simp only [List.length_append,List.length_cons,List.length_nil]);omega,hk.to,hS⟩,jK hmu5 hmuE hn5 hsub5 hp6 hpd6⟩
 rintro a w ⟨eo5,r5,A5x0,c5x0,hpm5,hnd5,hr5,hrl5x0,hk,hS⟩
 replace ht:=ht eo5
 replace ht:=(am hr5).symm.trans ht
 refine sg [1] hk ?_
 refine T ?_
 refine eC hk (h:=xZ _ _ _ (by omega) (wD hd hpm5 hnd5 hr5) hS) (k:=?_)
 rintro _ w ⟨rfl,hS⟩
 refine ⟨_,rfl,?_⟩
 have hpq13:=bK fE r5
 replace hS:=hS.nz 4
 replace hS:=hS.nz 4
 refine rE [3] hk fun a hk=>?_
 replace hk:Fr a 26 [(3,.slice A5x0 ((aW pQ r5).length) c5x0)]:=by simpa only [bK fE] using hk
 refine sg [] hk ?_
 iterate 2 refine T ?_
 refine rE [2] hk fun a hk=>?_
 refine wp_ret ?_
 replace hS:=hS.pk [1,1] 0
 replace hS:=bd (F:=lsMF) hq3 hS
 replace hS:=hS.pk [2,0] 0
 replace hS:=d7 (d:=d) hS
 replace hS:=hS.pk [1,0] 0
 exact rt1 hk (hR_ _ _ ⟨eo5,hpm5,_,_,by rw [← ht];exact ⟨rfl,hS⟩⟩)
theorem wL {d:DbS} (hd:dz d) {eo:List (KeyV × LV)} (hp:eo.Perm d.l) (hn:(d.l.map (·.1)).Nodup):cS eo = cS d.l:=by
  have h1:=jX eo
  have h2:=jX d.l
  have h3:=h1.trans ((hp.map (·.2)).trans h2.symm)
  exact nu fE (ra (wD hd hp hn rfl)) h3
theorem yz {κ:Kap} {L I:List Atom} {w:World} {g:Nat} {d:DbS} (hS:S κ (dbA g d::L) I w):(d.l.map (·.1)).Nodup:=by
  obtain ⟨m,h⟩:=iT hS
  obtain ⟨q,hq,h2⟩:=cd (F:=lsMF) ((h.fr 1))
  exact td hq (h2.mapNodup (i:=0) rfl)
theorem kS {κ:Kap} {L I:List Atom} (g:Nat) (d:DbS) (W:World) (hd:dz d) (hn:d.l.length ≤ 100000) (hS:S κ (dbA g d::L) I W):
    Calls Tryz.prog 49 #[pt g 0] W (fun r w'=>∃ B0 d0,r = .returned (.slice B0 (cS d.l).length d0)∧S κ (crA lsFn 66 B0 d0 (cS d.l)::(dbA g d)::L) I w'):=by
  have hnd:=yz hS
  refine (vb g d W hd hn hS).mono ?_
  rintro r w' ⟨es,hp,h⟩
  rw [wL hd hp hnd] at h
  exact h
end
section
set_option maxRecDepth 100000
set_option maxHeartbeats 8000000
def qj (p:PeV):Bool:=if (p.state:Int) = 4 then true else decide ((p.state:Int) = 5)
theorem pu {κ:Kap} {L I:List Atom} (p:PeV) (W:World) (hS:S κ (L) (I) W):
    Calls Tryz.prog 211 #[.agg #[i6 p.id,i6 p.prio,i6 p.dr,i6 p.bdr,i6 p.state,.bool p.two,i6 p.at_]] W (fun r w'=>r = .returned (.bool (qj p))∧S κ (L) (I) w'):=by
 generalize ht:(qj p) = t_
 refine wK 11 Tryz.func211 (fun R_ hR_ a hk=>?_)
 refine sg [0] hk ?_
 refine eB hk hS (fun g2 w hS _=>?_)
 refine T ?_
 refine rE [1] hk fun a hk=>?_
 refine sg [] hk ?_
 refine T ?_
 refine LD 0 hk hS ?_
 iterate 2 refine T ?_
 rcases dt ((p.state:Int) = 4) with ⟨he,hg3⟩ | ⟨he,hg3⟩
 ·rw [he]
  replace ht:=(if_pos hg3).symm.trans ht
  refine oF 3 6 false [4,5,6] ?_
  iterate 2 refine T ?_
  refine rE [2] hk fun a hk=>?_
  refine wp_ret ?_
  replace hS:=hS.pk [] 1
  subst ht
  exact rt1 hk (hR_ _ _ ⟨rfl,hS⟩)
 rw [he]
 replace ht:=(if_neg hg3).symm.trans ht
 refine T ?_
 refine LD 0 hk hS ?_
 iterate 3 refine T ?_
 refine rE [2] hk fun a hk=>?_
 refine wp_ret ?_
 replace hS:=hS.pk [] 1
 subst ht
 exact rt1 hk (hR_ _ _ ⟨rfl,hS⟩)
def t1 (i:IfV):Int:=if (i.state:Int) = 4 then 0 else if (i.state:Int) = 3 then 0 else 16
theorem qE {κ:Kap} {L I:List Atom} (i:IfV) (W:World) (hS:S κ (L) (I) W):
    Calls Tryz.prog 39 #[.agg #[i6 i.self,i6 i.prio,i6 i.state,i6 i.dr,i6 i.bdr]] W (fun r w'=>r = .returned (i6 (t1 i))∧S κ (L) (I) w'):=by
 generalize ht:(t1 i) = t_
 refine wK 11 Tryz.func39 (fun R_ hR_ a hk=>?_)
 refine sg [0] hk ?_
 refine eB hk hS (fun g2 w hS _=>?_)
 refine T ?_
 refine rE [1] hk fun a hk=>?_
 refine wp_seq ?_
 refine sg [] hk ?_
 refine T ?_
 refine LD 0 hk hS ?_
 iterate 2 refine T ?_
 rcases dt ((i.state:Int) = 4) with ⟨he,hg3⟩ | ⟨he,hg3⟩
 ·rw [he]
  replace ht:=(if_pos hg3).symm.trans ht
  refine oF 3 6 false [4,5,6] ?_
  refine T ?_
  refine rE [10] hk fun a hk=>?_
  refine cT hk ?_
  refine sg [] hk ?_
  refine T ?_
  refine rE [2] hk fun a hk=>?_
  refine wp_ret ?_
  replace hS:=hS.pk [] 1
  subst ht
  exact rt1 hk (hR_ _ _ ⟨rfl,hS⟩)
 rw [he]
 replace ht:=(if_neg hg3).symm.trans ht
 refine T ?_
 refine LD 0 hk hS ?_
 iterate 2 refine T ?_
 refine rE [10] hk fun a hk=>?_
 refine cD hk (fun hc10=>?_) (fun hc10=>?_)
 ·replace ht:=(if_pos hc10).symm.trans ht
  refine sg [] hk ?_
  refine T ?_
  refine rE [2] hk fun a hk=>?_
  refine wp_ret ?_
  replace hS:=hS.pk [] 1
  subst ht
  exact rt1 hk (hR_ _ _ ⟨rfl,hS⟩)
 replace ht:=(if_neg hc10).symm.trans ht
 refine wp_skip ?_
 refine sg [] hk ?_
 refine T ?_
 refine rE [2] hk fun a hk=>?_
 refine wp_ret ?_
 replace hS:=hS.pk [] 1
 subst ht
 exact rt1 hk (hR_ _ _ ⟨rfl,hS⟩)
def mo:List PeV → Except (Bool) (Unit)
  | []=>.ok ()
  | z5::xs5=>cond (qj z5) (.error true) (mo xs5)
def mn:List VwV → Except (Bool) (Unit)
  | []=>.ok ()
  | z2::xs2=>exE (mo z2.peers) (fun e=>.error e) fun r5=>mn xs2
def wG (vs:List VwV):Bool:=exE (mn vs) (fun e=>e) fun r2=>false
theorem wH {κ:Kap} {L I:List Atom} (vs:List VwV) (vsA:Option Addr) (vsc:Nat) (W:World) (hS:S κ (L) (crA co 39 vsA vsc vs::I) W):
    Calls Tryz.prog 133 #[.slice vsA vs.length vsc] W (fun r w'=>r = .returned (.bool (wG vs))∧S κ (L) (crA co 39 vsA vsc vs::I) w'):=by
 generalize ht:(wG vs) = t_
 refine wK 24 Tryz.func133 (fun R_ hR_ a hk=>?_)
 refine sg [] hk ?_
 refine T ?_
 refine rE [0] hk fun a hk=>?_
 refine wp_seq ?_
 refine sg [] hk ?_
 iterate 3 refine T ?_
 refine rE [7,8,9] hk fun a hk=>?_
 obtain ⟨x2,hr2⟩:∃ y_,mn vs = y_:=⟨_,rfl⟩
 refine aB (fun a_ w_=>∃ r2,x2 = .ok r2∧Fr a_ 24 []∧S κ (L) (crA co 39 vsA vsc vs::I) w_) ?_ ?_
 ·refine wp_block ?_
  refine wp_loop (fun a_ w_=>∃ k2:Nat,(k2 ≤ (vs).length)∧mn ((vs).drop k2) = x2∧Fr a_ 24 [(7,.slice vsA vs.length vsc),(8,i6 ((vs.length:Nat):Int)),(9,i6 k2)]∧S κ (L) (crA co 39 vsA vsc vs::I) w_) (fun a_ _=>(vs).length - (intOf (sl a_ 9)).toNat) ?_ ?_
  ·exact ⟨0,Nat.zero_le _,hr2,hk.to,hS⟩
  clear hk hS
  rintro aL2 w ⟨k2,hkl2,hI2,hk,hS⟩
  have hmu2:=hk.g (s:=9)
  have hlb2:=jl hS (i:=0)
  refine sg [] hk ?_
  refine T ?_
  refine rE [7,8,9,10] hk fun a hk=>?_
  refine wp_seq ?_
  refine cD hk (fun hc10=>?_) (fun hc10=>?_)
  ·obtain ⟨z2,hz2⟩:=cq (show k2 < (vs).length by omega)
   rw [aF hz2] at hI2
   refine wp_skip ?_
   refine wp_seq ?_
   refine wp_block ?_
   refine sg [2,3] hk ?_
   refine cX 0 hz2 hk hS (fun b3 o3 e3 hS hq3=>?_)
   replace hS:S κ (L) (aa (.slice e3.1.A z2.peers.length e3.1.c) 90 7 z2.peers.length (ab PeV.cells z2.peers)::aa (.slice e3.2.A z2.wants.length e3.2.c) 186 8 z2.wants.length (ab WtV.cells z2.wants)::crA co 39 vsA vsc vs::I) w:=hS
   refine dV 9 hq3 hk ?_
   refine eA #[i6 0,i6 0,i6 0,i6 0,i6 0,i6 0,i6 0,.slice none 0 0,.slice none 0 0] hS (fun g4 w hS _=>?_)
   refine eS 0 hk hS (fun w hS _=>?_)
   refine rE [4,7,8,9] hk fun a hk=>?_
   refine sg [] hk ?_
   refine T ?_
   refine LD 0 hk hS ?_
   iterate 2 refine T ?_
   refine rE [7,8,9,14,15,16] hk fun a hk=>?_
   obtain ⟨x5,hr5⟩:∃ y_,mo z2.peers = y_:=⟨_,rfl⟩
   refine aB (fun a_ w_=>∃ r5,x5 = .ok r5∧Fr a_ 24 [(7,.slice vsA vs.length vsc),(8,i6 ((vs.length:Nat):Int)),(9,i6 k2)]∧S κ (ai g4 39 #[i6 z2.lan,i6 z2.cost,i6 z2.i.self,i6 z2.i.prio,i6 z2.i.state,i6 z2.i.dr,i6 z2.i.bdr,.slice e3.1.A z2.peers.length e3.1.c,.slice e3.2.A z2.wants.length e3.2.c]::L) (aa (.slice e3.1.A z2.peers.length e3.1.c) 90 7 z2.peers.length (ab PeV.cells z2.peers)::aa (.slice e3.2.A z2.wants.length e3.2.c) 186 8 z2.wants.length (ab WtV.cells z2.wants)::crA co 39 vsA vsc vs::I) w_) ?_ ?_
   ·refine wp_block ?_
    refine wp_loop (fun a_ w_=>∃ k5:Nat,(k5 ≤ (z2.peers).length)∧mo ((z2.peers).drop k5) = x5∧Fr a_ 24 [(7,.slice vsA vs.length vsc),(8,i6 ((vs.length:Nat):Int)),(9,i6 k2),(14,.slice e3.1.A z2.peers.length e3.1.c),(15,i6 ((z2.peers.length:Nat):Int)),(16,i6 k5)]∧S κ (ai g4 39 #[i6 z2.lan,i6 z2.cost,i6 z2.i.self,i6 z2.i.prio,i6 z2.i.state,i6 z2.i.dr,i6 z2.i.bdr,.slice e3.1.A z2.peers.length e3.1.c,.slice e3.2.A z2.wants.length e3.2.c]::L) (aa (.slice e3.1.A z2.peers.length e3.1.c) 90 7 z2.peers.length (ab PeV.cells z2.peers)::aa (.slice e3.2.A z2.wants.length e3.2.c) 186 8 z2.wants.length (ab WtV.cells z2.wants)::crA co 39 vsA vsc vs::I) w_) (fun a_ _=>(z2.peers).length - (intOf (sl a_ 16)).toNat) ?_ ?_
    ·exact ⟨0,Nat.zero_le _,hr5,hk.to,hS⟩
    clear hk hS
    rintro aL5 w ⟨k5,hkl5,hI5,hk,hS⟩
    have hmu5:=hk.g (s:=16)
    have hlb5:=hS.rowBI (i:=0) rfl
    refine sg [] hk ?_
    refine T ?_
    refine rE [7,8,9,14,15,16,17] hk fun a hk=>?_
    refine wp_seq ?_
    refine cD hk (fun hc17=>?_) (fun hc17=>?_)
    ·obtain ⟨z5,hz5⟩:=cq (show k5 < (z2.peers).length by omega)
     rw [aF hz5] at hI5
     refine wp_skip ?_
     refine wp_seq ?_
     refine wp_block ?_
     refine sg [2,3] hk ?_
     refine dX PeV.cells_len' hk (hS.rdI (i:=0) rfl) (fun b6 o6 z6 hz6 hq6=>?_)
     obtain rfl:z5 = z6:=Option.some.inj (hz5.symm.trans hz6)
     refine dV 7 hq6 hk ?_
     refine eA #[i6 0,i6 0,i6 0,i6 0,i6 0,.bool false,i6 0] hS (fun g7 w hS _=>?_)
     refine eS 0 hk hS (fun w hS _=>?_)
     refine rE [6,7,8,9,14,15,16] hk fun a hk=>?_
     refine sg [1] hk ?_
     refine LDS 0 7 hk hS ?_
     refine eC hk (h:=pu z5 _ hS) (k:=?_)
     rintro _ w ⟨rfl,hS⟩
     refine ⟨_,rfl,?_⟩
     replace hS:=hS.nz 2
     refine rE [7,8,9,14,15,16,21] hk fun a hk=>?_
     refine cB hk (fun hc21=>?_) (fun hc21=>?_)
     ·replace hI5:=(bT hc21).symm.trans hI5
      refine sg [] hk ?_
      refine T ?_
      refine rE [2] hk fun a hk=>?_
      refine wp_ret ?_
      replace hS:=hS.pk [] 2
      replace hS:=hS.dropI.dropI
      replace ht:=(fB hr2).symm.trans ht
      replace hI2:=(fB hr5).symm.trans hI2
      subst hI5
      subst hI2
      subst ht
      exact rt1 hk (hR_ _ _ ⟨rfl,hS⟩)
     replace hI5:=(bF hc21).symm.trans hI5
     refine wp_skip ?_
     refine rgL [] hk ?_
     refine dA hk ?_
     refine T ?_
     refine rE [7,8,9,14,15,16] hk fun a hk=>?_
     replace hS:=hS.pk [1] 1
     exact ⟨⟨k5 + 1,by omega,hI5,hk.to,hS⟩,aP hk.g hmu5 (by omega)⟩
    obtain rfl:k5 = (z2.peers).length:=by omega
    rw [ax (Nat.le_refl _)] at hI5
    refine wp_exit ?_
    subst hI5
    exact ⟨_,rfl,hk.to,hS⟩
   rintro a w ⟨r5,hx,hk,hS⟩
   replace hI2:=(fC (hr5.trans hx)).symm.trans hI2
   refine rgL [] hk ?_
   refine dA hk ?_
   refine T ?_
   refine rE [7,8,9] hk fun a hk=>?_
   replace hS:=hS.pk [] 1
   replace hS:=hS.dropI.dropI
   exact ⟨⟨k2 + 1,by omega,hI2,hk.to,hS⟩,aP hk.g hmu2 (by omega)⟩
  obtain rfl:k2 = (vs).length:=by omega
  rw [ax (Nat.le_refl _)] at hI2
  refine wp_exit ?_
  subst hI2
  exact ⟨_,rfl,hk.to,hS⟩
 rintro a w ⟨r2,hx,hk,hS⟩
 replace ht:=(fC (hr2.trans hx)).symm.trans ht
 refine sg [] hk ?_
 refine T ?_
 refine rE [2] hk fun a hk=>?_
 refine wp_ret ?_
 subst ht
 exact rt1 hk (hR_ _ _ ⟨rfl,hS⟩)
def dP (h:HD) (p:PeV):List WtV → Except (Bool) (Unit)
  | []=>.ok ()
  | z5::xs5=>if (z5.id:Int) = p.id then if (ah z5.hd) = (ah h) then if ((s3 h z5.hd):Int) ≤ 0 then .error true else dP h p xs5 else dP h p xs5 else dP h p xs5
def iX (h:HD) (p:PeV) (ws:List WtV):Bool:=cond (qj p) (exE (dP h p ws) (fun e=>e) fun r5=>false) (false)
theorem j9 {κ:Kap} {L I:List Atom} (h:HD) (p:PeV) (ws:List WtV) (wsA:Option Addr) (wsc:Nat) (W:World) (hh:cP h) (hws:∀ x ∈ ws,cP x.hd) (hS:S κ (L) (aa (.slice wsA ws.length wsc) 186 8 ws.length (ab WtV.cells ws)::I) W):
    Calls Tryz.prog 270 #[.agg #[i6 h.age,i6 h.kind,i6 h.id,i6 h.adv,i6 h.seq,i6 h.sum,i6 h.long],.agg #[i6 p.id,i6 p.prio,i6 p.dr,i6 p.bdr,i6 p.state,.bool p.two,i6 p.at_],.slice wsA ws.length wsc] W (fun r w'=>r = .returned (.bool (iX h p ws))∧S κ (L) (aa (.slice wsA ws.length wsc) 186 8 ws.length (ab WtV.cells ws)::I) w'):=by
 generalize ht:(iX h p ws) = t_
 refine wK 39 Tryz.func270 (fun R_ hR_ a hk=>?_)
 refine sg [0,1] hk ?_
 refine eB hk hS (fun g2 w hS _=>?_)
 refine eB hk hS (fun g3 w hS _=>?_)
 refine T ?_
 refine rE [2,3,4] hk fun a hk=>?_
 refine wp_seq ?_
 refine sg [1] hk ?_
 refine LDS 0 7 hk hS ?_
 refine eC hk (h:=pu p _ hS) (k:=?_)
 rintro _ w ⟨rfl,hS⟩
 refine ⟨_,rfl,?_⟩
 replace hS:=hS.nz 2
 refine T ?_
 refine rE [2,3,4,11] hk fun a hk=>?_
 refine cB hk (fun hc11=>?_) (fun hc11=>?_)
 ·replace hc11:=nbt hc11
  replace ht:=(bF hc11).symm.trans ht
  refine sg [] hk ?_
  refine T ?_
  refine rE [6] hk fun a hk=>?_
  refine wp_ret ?_
  replace hS:=hS.pk [] 2
  subst ht
  exact rt1 hk (hR_ _ _ ⟨rfl,hS⟩)
 replace hc11:=nbf hc11
 replace ht:=(bT hc11).symm.trans ht
 refine wp_skip ?_
 refine wp_seq ?_
 refine sg [] hk ?_
 iterate 3 refine T ?_
 refine rE [3,4,12,13,14] hk fun a hk=>?_
 obtain ⟨x5,hr5⟩:∃ y_,dP h p ws = y_:=⟨_,rfl⟩
 refine aB (fun a_ w_=>∃ r5,x5 = .ok r5∧Fr a_ 39 []∧S κ (ai g3 90 #[i6 p.id,i6 p.prio,i6 p.dr,i6 p.bdr,i6 p.state,.bool p.two,i6 p.at_]::ai g2 63 #[i6 h.age,i6 h.kind,i6 h.id,i6 h.adv,i6 h.seq,i6 h.sum,i6 h.long]::L) (aa (.slice wsA ws.length wsc) 186 8 ws.length (ab WtV.cells ws)::I) w_) ?_ ?_
 ·refine wp_block ?_
  refine wp_loop (fun a_ w_=>∃ k5:Nat,(k5 ≤ (ws).length)∧dP h p ((ws).drop k5) = x5∧Fr a_ 39 [(3,pt g2 0),(4,pt g3 0),(12,.slice wsA ws.length wsc),(13,i6 ((ws.length:Nat):Int)),(14,i6 k5)]∧S κ (ai g3 90 #[i6 p.id,i6 p.prio,i6 p.dr,i6 p.bdr,i6 p.state,.bool p.two,i6 p.at_]::ai g2 63 #[i6 h.age,i6 h.kind,i6 h.id,i6 h.adv,i6 h.seq,i6 h.sum,i6 h.long]::L) (aa (.slice wsA ws.length wsc) 186 8 ws.length (ab WtV.cells ws)::I) w_) (fun a_ _=>(ws).length - (intOf (sl a_ 14)).toNat) ?_ ?_
  ·exact ⟨0,Nat.zero_le _,hr5,hk.to,hS⟩
  clear hk hS
  rintro aL5 w ⟨k5,hkl5,hI5,hk,hS⟩
  have hmu5:=hk.g (s:=14)
  have hlb5:=hS.rowBI (i:=0) rfl
  refine sg [] hk ?_
  refine T ?_
  refine rE [3,4,12,13,14,15] hk fun a hk=>?_
  refine wp_seq ?_
  refine cD hk (fun hc15=>?_) (fun hc15=>?_)
  ·obtain ⟨z5,hz5⟩:=cq (show k5 < (ws).length by omega)
   rw [aF hz5] at hI5
   refine wp_skip ?_
   refine wp_seq ?_
   refine wp_block ?_
   refine sg [2,3] hk ?_
   refine dX WtV.cells_len' hk (hS.rdI (i:=0) rfl) (fun b6 o6 z6 hz6 hq6=>?_)
   obtain rfl:z5 = z6:=Option.some.inj (hz5.symm.trans hz6)
   refine dV 8 hq6 hk ?_
   refine eA #[i6 0,i6 0,i6 0,i6 0,i6 0,i6 0,i6 0,i6 0] hS (fun g7 w hS _=>?_)
   refine eS 0 hk hS (fun w hS _=>?_)
   refine rE [3,4,8,12,13,14] hk fun a hk=>?_
   refine wp_seq ?_
   refine rgR [[],[0],[],[2],[0,1,2,3],[0,1,2,3,4],[0,1,2,3,4,5],[0,1,2,3,4,5,6],[0,1,2,3,4,5,6,7],[0,1,2,3,4,5],[0,1,2,3,4,5,6,7,8,9],[0,1,2,3,4,5,6,7,8,9,10],[0,1,2,3,4,5,6,7,8,9,10,11],[0,1,2,3,4,5,6,7,8,9,10,11,12],[0,1,2,3,4,5,6,7,8,9,10,11,12,13],[0,1,2,3,4,5,6,7,8,9,10,11,12,13],[0,1,2,3,4,5,6,7,8,9,10,11,12,13,15],[0,1,2,3,4,5,6,7,8,9,10,11,12,13,14,15,16],[0,1,2,3,4,5,6,7,8,9,10,11,12,13,14,15,16,17],[0,1,2,3,4,5,6,7,8,9,10,11,12,13,14,15,16,17,18]] [8,10,17] (.rd 0 (.rd 1 (.rd 2 (.rd 3 (.rd 4 (.rd 5 (.rd 6 (.rd 7 (.rd 9 (.ef 8 (.ag 9 (.ef 10 (.rd 11 (.rd 12 (.rd 13 (.rd 14 (.rd 15 (.rd 16 (.ef 17 (.rd 18 (.rd 19 (.fin))) .non))))))) .non)) .non)))))))))) hk hS (fun w hS _=>?_)
   refine T ?_
   refine LD 0 hk hS ?_
   refine T ?_
   refine LD 1 hk hS ?_
   iterate 2 refine T ?_
   rcases dt ((z5.id:Int) = p.id) with ⟨he,hg5⟩ | ⟨he,hg5⟩
   ·rw [he]
    replace hI5:=(if_pos hg5).symm.trans hI5
    refine T ?_
    refine LDS 0 7 hk hS ?_
    refine LDS 2 7 hk hS ?_
    refine eC hk (h:=ct z5.hd _ hS) (k:=?_)
    rintro _ w ⟨rfl,hS⟩
    refine ⟨_,rfl,?_⟩
    replace hS:=hS.nz 3
    refine aG (fun _ h_=>bL (h_.on 5 23) (lbS 7 (hS.blk (i:=2) rfl) rfl (h_.x hk))) ?_
    refine eC hk (h:=ct h _ hS) (k:=?_)
    rintro _ w ⟨rfl,hS⟩
    refine ⟨_,rfl,?_⟩
    replace hS:=hS.nz 3
    refine rD (.bool (decide ((ah z5.hd) = (ah h)))) (fun _ h_=>bL (h_.on 5 23) (aq rfl (h_.x hk) (h_.x hk) (fun _=>by first | rfl | kernel_rfl) (qk (ah z5.hd) (ah h)))) ?_
    iterate 2 refine T ?_
    rcases dt ((ah z5.hd) = (ah h)) with ⟨he,hg13⟩ | ⟨he,hg13⟩
    ·rw [he]
     replace hI5:=(if_pos hg13).symm.trans hI5
     refine LDS 2 7 hk hS ?_
     refine T ?_
     refine LDS 0 7 hk hS ?_
     refine eC hk (h:=vy h z5.hd _ (by first | assumption | exact hws _ (List.mem_of_getElem? (by assumption))) (by first | assumption | exact hws _ (List.mem_of_getElem? (by assumption))) hS) (k:=?_)
     rintro _ w ⟨rfl,hS⟩
     refine ⟨_,rfl,?_⟩
     replace hS:=hS.nz 3
     iterate 2 refine T ?_
     refine rE [3,4,12,13,14,37] hk fun a hk=>?_
     refine cD hk (fun hc37=>?_) (fun hc37=>?_)
     ·replace hI5:=(if_pos hc37).symm.trans hI5
      refine sg [] hk ?_
      refine T ?_
      refine rE [6] hk fun a hk=>?_
      refine wp_ret ?_
      replace hS:=hS.pk [] 3
      replace ht:=(fB hr5).symm.trans ht
      subst hI5
      subst ht
      exact rt1 hk (hR_ _ _ ⟨rfl,hS⟩)
     replace hI5:=(if_neg hc37).symm.trans hI5
     refine wp_skip ?_
     refine rgL [] hk ?_
     refine dA hk ?_
     refine T ?_
     refine rE [3,4,12,13,14] hk fun a hk=>?_
     replace hS:=hS.pk [1,1] 1
     exact ⟨⟨k5 + 1,by omega,hI5,hk.to,hS⟩,aP hk.g hmu5 (by omega)⟩
    rw [he]
    replace hI5:=(if_neg hg13).symm.trans hI5
    refine oF 13 31 true [14,15,16] ?_
    refine oE 13 31 true ?_
    refine oF 13 31 true [18] ?_
    refine T ?_
    refine rE [3,4,12,13,14,37] hk fun a hk=>?_
    refine cF hk ?_
    refine wp_skip ?_
    refine rgL [] hk ?_
    refine dA hk ?_
    refine T ?_
    refine rE [3,4,12,13,14] hk fun a hk=>?_
    replace hS:=hS.pk [1,1] 1
    exact ⟨⟨k5 + 1,by omega,hI5,hk.to,hS⟩,aP hk.g hmu5 (by omega)⟩
   rw [he]
   replace hI5:=(if_neg hg5).symm.trans hI5
   refine oF 5 23 true [6,7,9] ?_
   refine oE 5 23 true ?_
   refine aG (fun _ h_=>zB (xt rfl (by kernel_rfl) (h_.d 5 23) (.inl rfl)) rfl) ?_
   refine oE 5 23 true ?_
   refine oF 5 23 true [11] ?_
   iterate 2 refine T ?_
   refine oF 13 31 true [14,15,16] ?_
   refine oE 13 31 true ?_
   refine oF 13 31 true [18] ?_
   refine T ?_
   refine rE [3,4,12,13,14,37] hk fun a hk=>?_
   refine cF hk ?_
   refine wp_skip ?_
   refine rgL [] hk ?_
   refine dA hk ?_
   refine T ?_
   refine rE [3,4,12,13,14] hk fun a hk=>?_
   replace hS:=hS.pk [1,1] 1
   exact ⟨⟨k5 + 1,by omega,hI5,hk.to,hS⟩,aP hk.g hmu5 (by omega)⟩
  obtain rfl:k5 = (ws).length:=by omega
  rw [ax (Nat.le_refl _)] at hI5
  refine wp_exit ?_
  subst hI5
  exact ⟨_,rfl,hk.to,hS⟩
 rintro a w ⟨r5,hx,hk,hS⟩
 replace ht:=(fC (hr5.trans hx)).symm.trans ht
 refine sg [] hk ?_
 refine T ?_
 refine rE [6] hk fun a hk=>?_
 refine wp_ret ?_
 replace hS:=hS.pk [] 2
 subst ht
 exact rt1 hk (hR_ _ _ ⟨rfl,hS⟩)
def bI (h:HD) (came:Bool) (frm:Int) (v:VwV):List PeV → (List Int) → (List Int)
  | [],v6x0=>v6x0
  | z6::xs6,v6x0=>if (4:Int) ≤ z6.state then cond came (if (z6.id:Int) = frm then bI h came frm v xs6 v6x0 else cond (iX h z6 v.wants) (bI h came frm v xs6 v6x0) (bI h came frm v xs6 (v6x0 ++ [z6.id]))) (cond (iX h z6 v.wants) (bI h came frm v xs6 v6x0) (bI h came frm v xs6 (v6x0 ++ [z6.id]))) else bI h came frm v xs6 v6x0
def bv (h:HD) (came:Bool) (frm:Int) (v:VwV):SpV:=bw (bI h came frm v v.peers []) fun r6=>cond came (if (frm:Int) = v.i.dr then if (0:Int) < (((r6).length:Nat):Int) then (⟨v.lan,r6,false,0⟩:SpV) else (⟨v.lan,r6,false,0⟩:SpV) else if (frm:Int) = v.i.bdr then if (0:Int) < (((r6).length:Nat):Int) then (⟨v.lan,r6,false,0⟩:SpV) else (⟨v.lan,r6,false,0⟩:SpV) else if (0:Int) < (((r6).length:Nat):Int) then if (v.i.state:Int) = 3 then (⟨v.lan,r6,!(decide ((v.i.state:Int) = 3)),0⟩:SpV) else (⟨v.lan,r6,!(decide ((v.i.state:Int) = 3)),(t1 v.i)⟩:SpV) else (⟨v.lan,r6,false,0⟩:SpV)) (if (0:Int) < (((r6).length:Nat):Int) then (⟨v.lan,r6,true,(t1 v.i)⟩:SpV) else (⟨v.lan,r6,false,0⟩:SpV))
theorem jn {κ:Kap} {L I:List Atom} (h:HD) (came:Bool) (frm:Int) (v:VwV) (vp:SlP × SlP) (W:World) (hh:cP h) (hws:∀ x ∈ v.wants,cP x.hd) (hvp:v.peers.length ≤ 100000) (hS:S κ (L) (aa (.slice vp.1.A v.peers.length vp.1.c) 90 7 v.peers.length (ab PeV.cells v.peers)::aa (.slice vp.2.A v.wants.length vp.2.c) 186 8 v.wants.length (ab WtV.cells v.wants)::I) W):
    Calls Tryz.prog 191 #[.agg #[i6 h.age,i6 h.kind,i6 h.id,i6 h.adv,i6 h.seq,i6 h.sum,i6 h.long],.bool came,i6 frm,.agg #[i6 v.lan,i6 v.cost,i6 v.i.self,i6 v.i.prio,i6 v.i.state,i6 v.i.dr,i6 v.i.bdr,.slice vp.1.A v.peers.length vp.1.c,.slice vp.2.A v.wants.length vp.2.c]] W (fun r w'=>∃ e0:SlP,r = .returned (.agg #[i6 ((bv h came frm v).lan),.slice e0.A ((bv h came frm v).listed.length) e0.c,.bool ((bv h came frm v).sent),i6 ((bv h came frm v).dst)])∧S κ ((aa (.slice e0.A ((bv h came frm v).listed.length) e0.c) 3 1 ((bv h came frm v).listed.length) (aw ((bv h came frm v).listed)))::L) (aa (.slice vp.1.A v.peers.length vp.1.c) 90 7 v.peers.length (ab PeV.cells v.peers)::aa (.slice vp.2.A v.wants.length vp.2.c) 186 8 v.wants.length (ab WtV.cells v.wants)::I) w'):=by
 generalize ht:(bv h came frm v) = t_
 refine wK 89 Tryz.func191 (fun R_ hR_ a hk=>?_)
 refine sg [0,1,2] hk ?_
 refine eB hk hS (fun g2 w hS _=>?_)
 refine eB hk hS (fun g3 w hS _=>?_)
 refine eA #[i6 0,.slice none 0 0,.bool false,i6 0] hS (fun g4 w hS _=>?_)
 refine rE [1,2,4,7,8] hk fun a hk=>?_
 refine sg [3,4] hk ?_
 refine T ?_
 refine LD 1 hk hS ?_
 refine rD (.agg #[i6 v.lan,.slice none 0 0,.bool false,i6 0]) (fun _ h_=>rk (af rfl (h_.prt hk) (by kernel_rfl))) ?_
 refine eA #[i6 0,.slice none 0 0,.bool false,i6 0] hS (fun g5 w hS _=>?_)
 refine eS 0 hk hS (fun w hS _=>?_)
 refine rE [1,2,4,7,8,9] hk fun a hk=>?_
 refine wp_seq ?_
 refine sg [] hk ?_
 refine T ?_
 refine LD 2 hk hS ?_
 iterate 2 refine T ?_
 refine rE [1,2,4,7,8,9,17,18,19] hk fun a hk=>?_
 obtain ⟨r6,hr6⟩:∃ y_,bI h came frm v v.peers [] = y_:=⟨_,rfl⟩
 refine aB (fun a_ w_=>∃ A6x0 c6x0,Fr a_ 89 [(1,.bool came),(2,i6 frm),(7,pt g3 0),(8,pt g4 0),(9,pt g5 0)]∧S κ ((aa (.slice A6x0 ((r6).length) c6x0) 3 1 ((r6).length) (aw r6))::ai g5 200 #[i6 v.lan,.slice A6x0 ((r6).length) c6x0,.bool false,i6 0]::ai g4 200 #[i6 0,.slice none 0 0,.bool false,i6 0]::ai g3 39 #[i6 v.lan,i6 v.cost,i6 v.i.self,i6 v.i.prio,i6 v.i.state,i6 v.i.dr,i6 v.i.bdr,.slice vp.1.A v.peers.length vp.1.c,.slice vp.2.A v.wants.length vp.2.c]::ai g2 63 #[i6 h.age,i6 h.kind,i6 h.id,i6 h.adv,i6 h.seq,i6 h.sum,i6 h.long]::L) (aa (.slice vp.1.A v.peers.length vp.1.c) 90 7 v.peers.length (ab PeV.cells v.peers)::aa (.slice vp.2.A v.wants.length vp.2.c) 186 8 v.wants.length (ab WtV.cells v.wants)::I) w_) ?_ ?_
 ·refine wp_block ?_
  refine wp_loop (fun a_ w_=>∃ k6:Nat,∃ v6x0:List Int,∃ A6x0 c6x0,(k6 ≤ (v.peers).length)∧bI h came frm v ((v.peers).drop k6) v6x0 = r6∧(v6x0.length ≤ k6)∧Fr a_ 89 [(1,.bool came),(2,i6 frm),(4,pt g2 0),(7,pt g3 0),(8,pt g4 0),(9,pt g5 0),(17,.slice vp.1.A v.peers.length vp.1.c),(18,i6 ((v.peers.length:Nat):Int)),(19,i6 k6)]∧S κ ((aa (.slice A6x0 ((v6x0).length) c6x0) 3 1 ((v6x0).length) (aw v6x0))::ai g5 200 #[i6 v.lan,.slice A6x0 ((v6x0).length) c6x0,.bool false,i6 0]::ai g4 200 #[i6 0,.slice none 0 0,.bool false,i6 0]::ai g3 39 #[i6 v.lan,i6 v.cost,i6 v.i.self,i6 v.i.prio,i6 v.i.state,i6 v.i.dr,i6 v.i.bdr,.slice vp.1.A v.peers.length vp.1.c,.slice vp.2.A v.wants.length vp.2.c]::ai g2 63 #[i6 h.age,i6 h.kind,i6 h.id,i6 h.adv,i6 h.seq,i6 h.sum,i6 h.long]::L) (aa (.slice vp.1.A v.peers.length vp.1.c) 90 7 v.peers.length (ab PeV.cells v.peers)::aa (.slice vp.2.A v.wants.length vp.2.c) 186 8 v.wants.length (ab WtV.cells v.wants)::I) w_) (fun a_ _=>(v.peers).length - (intOf (sl a_ 19)).toNat) ?_ ?_
  ·have hS:=hS.nilrow 3 1
   replace hS:=hS.nz 5
   exact ⟨0,[],_,_,Nat.zero_le _,hr6,Nat.zero_le _,hk.to,hS⟩
  clear hk hS
  rintro aL6 w ⟨k6,v6x0,A6x0,c6x0,hkl6,hI6,hcl6x0,hk,hS⟩
  have hmu6:=hk.g (s:=19)
  have hlb6:=hS.rowBI (i:=0) rfl
  refine sg [] hk ?_
  refine T ?_
  refine rE [1,2,4,7,8,9,17,18,19,20] hk fun a hk=>?_
  refine wp_seq ?_
  refine cD hk (fun hc20=>?_) (fun hc20=>?_)
  ·obtain ⟨z6,hz6⟩:=cq (show k6 < (v.peers).length by omega)
   rw [aF hz6] at hI6
   refine wp_skip ?_
   refine wp_seq ?_
   refine wp_block ?_
   refine sg [2,3] hk ?_
   refine dX PeV.cells_len' hk (hS.rdI (i:=0) rfl) (fun b7 o7 z7 hz7 hq7=>?_)
   obtain rfl:z6 = z7:=Option.some.inj (hz6.symm.trans hz7)
   refine dV 7 hq7 hk ?_
   refine eA #[i6 0,i6 0,i6 0,i6 0,i6 0,.bool false,i6 0] hS (fun g8 w hS _=>?_)
   refine eS 0 hk hS (fun w hS _=>?_)
   refine rE [1,2,4,7,8,9,11,17,18,19] hk fun a hk=>?_
   refine sg [18] hk ?_
   refine T ?_
   refine LD 0 hk hS ?_
   iterate 2 refine T ?_
   rcases dt ((4:Int) ≤ z6.state) with ⟨he,hg3⟩ | ⟨he,hg3⟩
   ·rw [he]
    replace hI6:=(if_pos hg3).symm.trans hI6
    iterate 2 refine T ?_
    rcases bt came with hg5 | hg5
    ·refine rwV 4 (.bool came) (.bool true) (by rw [hg5]) ?_
     refine rwV 5 (.bool came) (.bool true) (by rw [hg5]) ?_
     replace hI6:=(bT hg5).symm.trans hI6
     refine T ?_
     refine LD 0 hk hS ?_
     iterate 6 refine T ?_
     rcases nt ((z6.id:Int) = frm) with ⟨he,hg13⟩ | ⟨he,hg13⟩
     ·rw [he]
      replace hI6:=(if_neg hg13).symm.trans hI6
      refine LDS 5 7 hk hS ?_
      refine LDS 0 7 hk hS ?_
      refine T ?_
      refine LD 4 hk hS ?_
      replace hS:=hS.dupI 1
      refine eC hk (h:=j9 h z6 v.wants vp.2.A vp.2.c _ (by assumption) (by assumption) hS) (k:=?_)
      rintro _ w ⟨rfl,hS⟩
      refine ⟨_,rfl,?_⟩
      replace hS:=hS.dropI
      replace hS:=hS.nz 6
      iterate 2 refine T ?_
      refine rE [1,2,4,7,8,9,11,17,18,19,43] hk fun a hk=>?_
      refine cB hk (fun hc43=>?_) (fun hc43=>?_)
      ·replace hc43:=nbt hc43
       replace hI6:=(bF hc43).symm.trans hI6
       refine rgL [4,5,7] hk ?_
       refine T ?_
       refine LD 2 hk hS ?_
       refine T ?_
       refine LD 0 hk hS ?_
       refine eF (fun a_ h_=>aZ (e:=3) (cells:=#[i6 z6.id]) hS (ae rfl) rfl (h_.prtL hk) fun g10 w hS _=>⟨_,rfl,?_⟩)
       refine eF (fun a_ h_=>ia (bytes:=8) (ys:=[z6.id]) uf hS 2 (ae rfl) rfl (h_.x hk) (h_.x hk) (ay (hS.blk (i:=0) rfl) rfl) (by (try simp only [List.length_append,List.length_cons,List.length_nil,List.length_take,List.length_drop]);omega) fun A11 c11 w hS=>⟨_,rfl,?_⟩)
       replace hS:=hS.nz 7
       refine T ?_
       refine eS 3 hk hS (fun w hS _=>?_)
       refine rE [1,2,4,7,8,9,17,18,19] hk fun a hk=>?_
       refine rgL [] hk ?_
       refine dA hk ?_
       refine T ?_
       refine rE [1,2,4,7,8,9,17,18,19] hk fun a hk=>?_
       replace hS:=hS.pk [2,2,2,2,2] 2
       exact ⟨⟨k6 + 1,(v6x0 ++ [z6.id]),_,_,by omega,hI6,by (try simp only [List.length_append,List.length_cons,List.length_nil]);omega,hk.to,hS⟩,aP hk.g hmu6 (by omega)⟩
      replace hc43:=nbf hc43
      replace hI6:=(bT hc43).symm.trans hI6
      refine wp_skip ?_
      refine rgL [] hk ?_
      refine dA hk ?_
      refine T ?_
      refine rE [1,2,4,7,8,9,17,18,19] hk fun a hk=>?_
      replace hS:=hS.pk [1,1,1,1,1] 1
      exact ⟨⟨k6 + 1,v6x0,_,_,by omega,hI6,by (try simp only [List.length_append,List.length_cons,List.length_nil]);omega,hk.to,hS⟩,aP hk.g hmu6 (by omega)⟩
     rw [he]
     replace hI6:=(if_pos hg13).symm.trans hI6
     refine oF 13 36 true [14,15,16,17] ?_
     refine oE 13 36 true ?_
     refine oF 13 36 true [19] ?_
     refine T ?_
     refine rE [1,2,4,7,8,9,11,17,18,19,43] hk fun a hk=>?_
     refine cF hk ?_
     refine wp_skip ?_
     refine rgL [] hk ?_
     refine dA hk ?_
     refine T ?_
     refine rE [1,2,4,7,8,9,17,18,19] hk fun a hk=>?_
     replace hS:=hS.pk [1,1,1,1,1] 1
     exact ⟨⟨k6 + 1,v6x0,_,_,by omega,hI6,by (try simp only [List.length_append,List.length_cons,List.length_nil]);omega,hk.to,hS⟩,aP hk.g hmu6 (by omega)⟩
    refine rwV 4 (.bool came) (.bool false) (by rw [hg5]) ?_
    refine rwV 5 (.bool came) (.bool false) (by rw [hg5]) ?_
    replace hI6:=(bF hg5).symm.trans hI6
    refine oF 5 28 true [6,7,8,9] ?_
    iterate 4 refine T ?_
    refine LDS 5 7 hk hS ?_
    refine LDS 0 7 hk hS ?_
    refine T ?_
    refine LD 4 hk hS ?_
    replace hS:=hS.dupI 1
    refine eC hk (h:=j9 h z6 v.wants vp.2.A vp.2.c _ (by assumption) (by assumption) hS) (k:=?_)
    rintro _ w ⟨rfl,hS⟩
    refine ⟨_,rfl,?_⟩
    replace hS:=hS.dropI
    replace hS:=hS.nz 6
    iterate 2 refine T ?_
    refine rE [1,2,4,7,8,9,11,17,18,19,43] hk fun a hk=>?_
    refine cB hk (fun hc43=>?_) (fun hc43=>?_)
    ·replace hc43:=nbt hc43
     replace hI6:=(bF hc43).symm.trans hI6
     refine rgL [4,5,7] hk ?_
     refine T ?_
     refine LD 2 hk hS ?_
     refine T ?_
     refine LD 0 hk hS ?_
     refine eF (fun a_ h_=>aZ (e:=3) (cells:=#[i6 z6.id]) hS (ae rfl) rfl (h_.prtL hk) fun g13 w hS _=>⟨_,rfl,?_⟩)
     refine eF (fun a_ h_=>ia (bytes:=8) (ys:=[z6.id]) uf hS 2 (ae rfl) rfl (h_.x hk) (h_.x hk) (ay (hS.blk (i:=0) rfl) rfl) (by (try simp only [List.length_append,List.length_cons,List.length_nil,List.length_take,List.length_drop]);omega) fun A14 c14 w hS=>⟨_,rfl,?_⟩)
     replace hS:=hS.nz 7
     refine T ?_
     refine eS 3 hk hS (fun w hS _=>?_)
     refine rE [1,2,4,7,8,9,17,18,19] hk fun a hk=>?_
     refine rgL [] hk ?_
     refine dA hk ?_
     refine T ?_
     refine rE [1,2,4,7,8,9,17,18,19] hk fun a hk=>?_
     replace hS:=hS.pk [2,2,2,2,2] 2
     exact ⟨⟨k6 + 1,(v6x0 ++ [z6.id]),_,_,by omega,hI6,by (try simp only [List.length_append,List.length_cons,List.length_nil]);omega,hk.to,hS⟩,aP hk.g hmu6 (by omega)⟩
    replace hc43:=nbf hc43
    replace hI6:=(bT hc43).symm.trans hI6
    refine wp_skip ?_
    refine rgL [] hk ?_
    refine dA hk ?_
    refine T ?_
    refine rE [1,2,4,7,8,9,17,18,19] hk fun a hk=>?_
    replace hS:=hS.pk [1,1,1,1,1] 1
    exact ⟨⟨k6 + 1,v6x0,_,_,by omega,hI6,by (try simp only [List.length_append,List.length_cons,List.length_nil]);omega,hk.to,hS⟩,aP hk.g hmu6 (by omega)⟩
   rw [he]
   replace hI6:=(if_neg hg3).symm.trans hI6
   refine oF 3 26 true [4,5] ?_
   refine oF 5 28 true [6,7,8,9] ?_
   refine oF 3 26 true [10,11] ?_
   iterate 2 refine T ?_
   refine oF 13 36 true [14,15,16,17] ?_
   refine oE 13 36 true ?_
   refine oF 13 36 true [19] ?_
   refine T ?_
   refine rE [1,2,4,7,8,9,11,17,18,19,43] hk fun a hk=>?_
   refine cF hk ?_
   refine wp_skip ?_
   refine rgL [] hk ?_
   refine dA hk ?_
   refine T ?_
   refine rE [1,2,4,7,8,9,17,18,19] hk fun a hk=>?_
   replace hS:=hS.pk [1,1,1,1,1] 1
   exact ⟨⟨k6 + 1,v6x0,_,_,by omega,hI6,by (try simp only [List.length_append,List.length_cons,List.length_nil]);omega,hk.to,hS⟩,aP hk.g hmu6 (by omega)⟩
  obtain rfl:k6 = (v.peers).length:=by omega
  rw [ax (Nat.le_refl _)] at hI6
  refine wp_exit ?_
  subst hI6
  exact ⟨_,_,hk.to,hS⟩
 rintro a w ⟨A6x0,c6x0,hk,hS⟩
 replace ht:=(am hr6).symm.trans ht
 refine sg [] hk ?_
 iterate 2 refine T ?_
 rcases bt came with hg1 | hg1
 ·refine rwV 0 (.bool came) (.bool true) (by rw [hg1]) ?_
  refine rwV 1 (.bool came) (.bool true) (by rw [hg1]) ?_
  replace ht:=(bT hg1).symm.trans ht
  iterate 3 refine T ?_
  refine LD 3 hk hS ?_
  iterate 2 refine T ?_
  rcases dt ((frm:Int) = v.i.dr) with ⟨he,hg7⟩ | ⟨he,hg7⟩
  ·rw [he]
   replace ht:=(if_pos hg7).symm.trans ht
   refine oF 7 59 false [8,9,10,11,12] ?_
   iterate 2 refine T ?_
   refine oF 14 66 false [15,16,17,18] ?_
   iterate 3 refine T ?_
   refine rE [7,8,9,12] hk fun a hk=>?_
   refine wp_seq ?_
   refine sg [9] hk ?_
   refine T ?_
   refine LD 1 hk hS ?_
   iterate 3 refine T ?_
   rcases dt ((0:Int) < (((r6).length:Nat):Int)) with ⟨he,hg4⟩ | ⟨he,hg4⟩
   ·rw [he]
    replace ht:=(if_pos hg4).symm.trans ht
    iterate 4 refine T ?_
    refine eS 1 hk hS (fun w hS _=>?_)
    refine rE [7,8,9] hk fun a hk=>?_
    refine sg [] hk ?_
    refine T ?_
    refine LD 1 hk hS ?_
    refine rE [7,8,9,83] hk fun a hk=>?_
    refine cF hk ?_
    refine wp_skip ?_
    refine sg [1] hk ?_
    refine LDS 1 4 hk hS ?_
    refine eS 2 hk hS (fun w hS _=>?_)
    refine rE [8] hk fun a hk=>?_
    refine wp_ret ?_
    have hCb:=hS.blk (i:=2) rfl
    replace hS:=hS.pk [0] 4
    subst ht
    exact rtC hk hCb (hR_ _ _ ⟨(⟨A6x0,c6x0⟩:SlP),rfl,hS⟩) Tryz.underlying200
   rw [he]
   replace ht:=(if_neg hg4).symm.trans ht
   refine oF 4 77 true [5,6] ?_
   iterate 2 refine T ?_
   refine eS 1 hk hS (fun w hS _=>?_)
   refine rE [7,8,9] hk fun a hk=>?_
   refine sg [] hk ?_
   refine T ?_
   refine LD 1 hk hS ?_
   refine rE [7,8,9,83] hk fun a hk=>?_
   refine cF hk ?_
   refine wp_skip ?_
   refine sg [1] hk ?_
   refine LDS 1 4 hk hS ?_
   refine eS 2 hk hS (fun w hS _=>?_)
   refine rE [8] hk fun a hk=>?_
   refine wp_ret ?_
   have hCb:=hS.blk (i:=2) rfl
   replace hS:=hS.pk [0] 4
   subst ht
   exact rtC hk hCb (hR_ _ _ ⟨(⟨A6x0,c6x0⟩:SlP),rfl,hS⟩) Tryz.underlying200
  rw [he]
  replace ht:=(if_neg hg7).symm.trans ht
  iterate 3 refine T ?_
  refine LD 3 hk hS ?_
  iterate 3 refine T ?_
  rcases dt ((frm:Int) = v.i.bdr) with ⟨he,hg14⟩ | ⟨he,hg14⟩
  ·rw [he]
   replace ht:=(if_pos hg14).symm.trans ht
   refine oF 14 66 false [15,16,17,18] ?_
   iterate 3 refine T ?_
   refine rE [7,8,9,12] hk fun a hk=>?_
   refine wp_seq ?_
   refine sg [9] hk ?_
   refine T ?_
   refine LD 1 hk hS ?_
   iterate 3 refine T ?_
   rcases dt ((0:Int) < (((r6).length:Nat):Int)) with ⟨he,hg4⟩ | ⟨he,hg4⟩
   ·rw [he]
    replace ht:=(if_pos hg4).symm.trans ht
    iterate 4 refine T ?_
    refine eS 1 hk hS (fun w hS _=>?_)
    refine rE [7,8,9] hk fun a hk=>?_
    refine sg [] hk ?_
    refine T ?_
    refine LD 1 hk hS ?_
    refine rE [7,8,9,83] hk fun a hk=>?_
    refine cF hk ?_
    refine wp_skip ?_
    refine sg [1] hk ?_
    refine LDS 1 4 hk hS ?_
    refine eS 2 hk hS (fun w hS _=>?_)
    refine rE [8] hk fun a hk=>?_
    refine wp_ret ?_
    have hCb:=hS.blk (i:=2) rfl
    replace hS:=hS.pk [0] 4
    subst ht
    exact rtC hk hCb (hR_ _ _ ⟨(⟨A6x0,c6x0⟩:SlP),rfl,hS⟩) Tryz.underlying200
   rw [he]
   replace ht:=(if_neg hg4).symm.trans ht
   refine oF 4 77 true [5,6] ?_
   iterate 2 refine T ?_
   refine eS 1 hk hS (fun w hS _=>?_)
   refine rE [7,8,9] hk fun a hk=>?_
   refine sg [] hk ?_
   refine T ?_
   refine LD 1 hk hS ?_
   refine rE [7,8,9,83] hk fun a hk=>?_
   refine cF hk ?_
   refine wp_skip ?_
   refine sg [1] hk ?_
   refine LDS 1 4 hk hS ?_
   refine eS 2 hk hS (fun w hS _=>?_)
   refine rE [8] hk fun a hk=>?_
   refine wp_ret ?_
   have hCb:=hS.blk (i:=2) rfl
   replace hS:=hS.pk [0] 4
   subst ht
   exact rtC hk hCb (hR_ _ _ ⟨(⟨A6x0,c6x0⟩:SlP),rfl,hS⟩) Tryz.underlying200
  rw [he]
  replace ht:=(if_neg hg14).symm.trans ht
  iterate 2 refine T ?_
  refine LD 3 hk hS ?_
  iterate 4 refine T ?_
  refine rE [7,8,9,12] hk fun a hk=>?_
  refine wp_seq ?_
  refine sg [9] hk ?_
  refine T ?_
  refine LD 1 hk hS ?_
  iterate 3 refine T ?_
  rcases dt ((0:Int) < (((r6).length:Nat):Int)) with ⟨he,hg4⟩ | ⟨he,hg4⟩
  ·rw [he]
   replace ht:=(if_pos hg4).symm.trans ht
   iterate 4 refine T ?_
   refine eS 1 hk hS (fun w hS _=>?_)
   refine rE [7,8,9] hk fun a hk=>?_
   refine sg [] hk ?_
   refine T ?_
   refine LD 1 hk hS ?_
   refine rE [7,8,9,83] hk fun a hk=>?_
   refine cN hk (fun hc83=>?_) (fun hc83=>?_)
   ·replace ht:=(if_neg hc83).symm.trans ht
    refine rgL [2,4] hk ?_
    refine T ?_
    refine LDS 3 5 hk hS ?_
    refine eC hk (h:=qE v.i _ hS) (k:=?_)
    rintro _ w ⟨rfl,hS⟩
    refine ⟨_,rfl,?_⟩
    replace hS:=hS.nz 5
    refine T ?_
    refine eS 1 hk hS (fun w hS _=>?_)
    refine rE [8,9] hk fun a hk=>?_
    refine sg [1] hk ?_
    refine LDS 1 4 hk hS ?_
    refine eS 2 hk hS (fun w hS _=>?_)
    refine rE [8] hk fun a hk=>?_
    refine wp_ret ?_
    have hCb:=hS.blk (i:=2) rfl
    replace hS:=hS.pk [0] 4
    subst ht
    exact rtC hk hCb (hR_ _ _ ⟨(⟨A6x0,c6x0⟩:SlP),rfl,hS⟩) Tryz.underlying200
   replace ht:=(if_pos hc83).symm.trans ht
   refine wp_skip ?_
   refine sg [1] hk ?_
   refine LDS 1 4 hk hS ?_
   refine eS 2 hk hS (fun w hS _=>?_)
   refine rE [8] hk fun a hk=>?_
   refine wp_ret ?_
   have hCb:=hS.blk (i:=2) rfl
   replace hS:=hS.pk [0] 4
   subst ht
   exact rtC hk hCb (hR_ _ _ ⟨(⟨A6x0,c6x0⟩:SlP),rfl,hS⟩) Tryz.underlying200
  rw [he]
  replace ht:=(if_neg hg4).symm.trans ht
  refine oF 4 77 true [5,6] ?_
  iterate 2 refine T ?_
  refine eS 1 hk hS (fun w hS _=>?_)
  refine rE [7,8,9] hk fun a hk=>?_
  refine sg [] hk ?_
  refine T ?_
  refine LD 1 hk hS ?_
  refine rE [7,8,9,83] hk fun a hk=>?_
  refine cF hk ?_
  refine wp_skip ?_
  refine sg [1] hk ?_
  refine LDS 1 4 hk hS ?_
  refine eS 2 hk hS (fun w hS _=>?_)
  refine rE [8] hk fun a hk=>?_
  refine wp_ret ?_
  have hCb:=hS.blk (i:=2) rfl
  replace hS:=hS.pk [0] 4
  subst ht
  exact rtC hk hCb (hR_ _ _ ⟨(⟨A6x0,c6x0⟩:SlP),rfl,hS⟩) Tryz.underlying200
 refine rwV 0 (.bool came) (.bool false) (by rw [hg1]) ?_
 refine rwV 1 (.bool came) (.bool false) (by rw [hg1]) ?_
 replace ht:=(bF hg1).symm.trans ht
 refine oF 1 53 true [2,3,4,5,6,7] ?_
 refine oF 7 59 false [8,9,10,11,12] ?_
 refine oF 1 53 true [13,14] ?_
 refine oF 14 66 false [15,16,17,18] ?_
 refine oF 1 53 true [19] ?_
 iterate 2 refine T ?_
 refine rE [7,8,9,12] hk fun a hk=>?_
 refine wp_seq ?_
 refine sg [9] hk ?_
 refine T ?_
 refine LD 1 hk hS ?_
 iterate 3 refine T ?_
 rcases dt ((0:Int) < (((r6).length:Nat):Int)) with ⟨he,hg4⟩ | ⟨he,hg4⟩
 ·rw [he]
  replace ht:=(if_pos hg4).symm.trans ht
  iterate 4 refine T ?_
  refine eS 1 hk hS (fun w hS _=>?_)
  refine rE [7,8,9] hk fun a hk=>?_
  refine sg [] hk ?_
  refine T ?_
  refine LD 1 hk hS ?_
  refine rE [7,8,9,83] hk fun a hk=>?_
  refine cT hk ?_
  refine rgL [2,4] hk ?_
  refine T ?_
  refine LDS 3 5 hk hS ?_
  refine eC hk (h:=qE v.i _ hS) (k:=?_)
  rintro _ w ⟨rfl,hS⟩
  refine ⟨_,rfl,?_⟩
  replace hS:=hS.nz 5
  refine T ?_
  refine eS 1 hk hS (fun w hS _=>?_)
  refine rE [8,9] hk fun a hk=>?_
  refine sg [1] hk ?_
  refine LDS 1 4 hk hS ?_
  refine eS 2 hk hS (fun w hS _=>?_)
  refine rE [8] hk fun a hk=>?_
  refine wp_ret ?_
  have hCb:=hS.blk (i:=2) rfl
  replace hS:=hS.pk [0] 4
  subst ht
  exact rtC hk hCb (hR_ _ _ ⟨(⟨A6x0,c6x0⟩:SlP),rfl,hS⟩) Tryz.underlying200
 rw [he]
 replace ht:=(if_neg hg4).symm.trans ht
 refine oF 4 77 true [5,6] ?_
 iterate 2 refine T ?_
 refine eS 1 hk hS (fun w hS _=>?_)
 refine rE [7,8,9] hk fun a hk=>?_
 refine sg [] hk ?_
 refine T ?_
 refine LD 1 hk hS ?_
 refine rE [7,8,9,83] hk fun a hk=>?_
 refine cF hk ?_
 refine wp_skip ?_
 refine sg [1] hk ?_
 refine LDS 1 4 hk hS ?_
 refine eS 2 hk hS (fun w hS _=>?_)
 refine rE [8] hk fun a hk=>?_
 refine wp_ret ?_
 have hCb:=hS.blk (i:=2) rfl
 replace hS:=hS.pk [0] 4
 subst ht
 exact rtC hk hCb (hR_ _ _ ⟨(⟨A6x0,c6x0⟩:SlP),rfl,hS⟩) Tryz.underlying200
def ci (h:HD) (lan:Int) (frm:Int):List VwV → (List SpV) → (List SpV)
  | [],v3x0=>v3x0
  | z3::xs3,v3x0=>if (0:Int) < frm then bw (bv h (decide ((z3.lan:Int) = lan)) frm z3) fun q6=>ci h lan frm xs3 (v3x0 ++ [q6]) else bw (bv h false frm z3) fun q10=>ci h lan frm xs3 (v3x0 ++ [q10])
def da (h:HD) (lan:Int) (frm:Int) (vs:List VwV):(List SpV):=bw (ci h lan frm vs []) fun r3=>r3
theorem mS {κ:Kap} {L I:List Atom} (h:HD) (lan:Int) (frm:Int) (vs:List VwV) (vsA:Option Addr) (vsc:Nat) (W:World) (hh:cP h) (hvs:∀ v ∈ vs,v.peers.length ≤ 100000∧∀ x ∈ v.wants,cP x.hd) (hvn:vs.length ≤ 100000) (hS:S κ (L) (crA co 39 vsA vsc vs::I) W):
    Calls Tryz.prog 106 #[.agg #[i6 h.age,i6 h.kind,i6 h.id,i6 h.adv,i6 h.seq,i6 h.sum,i6 h.long],i6 lan,i6 frm,.slice vsA vs.length vsc] W (fun r w'=>∃ B0 d0,r = .returned (.slice B0 ((da h lan frm vs).length) d0)∧S κ (crA mh 200 B0 d0 (da h lan frm vs)::L) (crA co 39 vsA vsc vs::I) w'):=by
 generalize ht:(da h lan frm vs) = t_
 refine wK 35 Tryz.func106 (fun R_ hR_ a hk=>?_)
 refine sg [0] hk ?_
 refine eB hk hS (fun g2 w hS _=>?_)
 refine T ?_
 refine rE [1,2,3,4] hk fun a hk=>?_
 refine sg [] hk ?_
 refine T ?_
 refine rE [1,2,3,4,9] hk fun a hk=>?_
 refine wp_seq ?_
 refine sg [] hk ?_
 iterate 3 refine T ?_
 refine rE [1,2,4,9,12,13,14] hk fun a hk=>?_
 obtain ⟨r3,hr3⟩:∃ y_,ci h lan frm vs [] = y_:=⟨_,rfl⟩
 refine aB (fun a_ w_=>∃ A3x0 c3x0,Fr a_ 35 [(9,.slice A3x0 ((r3).length) c3x0)]∧S κ (crA mh 200 A3x0 c3x0 r3::ai g2 63 #[i6 h.age,i6 h.kind,i6 h.id,i6 h.adv,i6 h.seq,i6 h.sum,i6 h.long]::L) (crA co 39 vsA vsc vs::I) w_) ?_ ?_
 ·refine wp_block ?_
  refine wp_loop (fun a_ w_=>∃ k3:Nat,∃ v3x0:List SpV,∃ A3x0 c3x0,(k3 ≤ (vs).length)∧ci h lan frm ((vs).drop k3) v3x0 = r3∧(v3x0.length ≤ k3)∧Fr a_ 35 [(1,i6 lan),(2,i6 frm),(4,pt g2 0),(9,.slice A3x0 ((v3x0).length) c3x0),(12,.slice vsA vs.length vsc),(13,i6 ((vs.length:Nat):Int)),(14,i6 k3)]∧S κ (crA mh 200 A3x0 c3x0 v3x0::ai g2 63 #[i6 h.age,i6 h.kind,i6 h.id,i6 h.adv,i6 h.seq,i6 h.sum,i6 h.long]::L) (crA co 39 vsA vsc vs::I) w_) (fun a_ _=>(vs).length - (intOf (sl a_ 14)).toNat) ?_ ?_
  ·replace hS:=hS.crNil mh 200
   replace hS:=hS.nz 2
   exact ⟨0,[],_,_,Nat.zero_le _,hr3,Nat.zero_le _,hk.to,hS⟩
  clear hk hS
  rintro aL3 w ⟨k3,v3x0,A3x0,c3x0,hkl3,hI3,hcl3x0,hk,hS⟩
  have hmu3:=hk.g (s:=14)
  have hlb3:=jl hS (i:=0)
  refine sg [] hk ?_
  refine T ?_
  refine rE [1,2,4,9,12,13,14,15] hk fun a hk=>?_
  refine wp_seq ?_
  refine cD hk (fun hc15=>?_) (fun hc15=>?_)
  ·obtain ⟨z3,hz3⟩:=cq (show k3 < (vs).length by omega)
   rw [aF hz3] at hI3
   refine wp_skip ?_
   refine wp_seq ?_
   refine wp_block ?_
   refine sg [2,3] hk ?_
   refine cX 0 hz3 hk hS (fun b4 o4 e4 hS hq4=>?_)
   replace hS:=hS.nz 2
   refine dV 9 hq4 hk ?_
   refine eA #[i6 0,i6 0,i6 0,i6 0,i6 0,i6 0,i6 0,.slice none 0 0,.slice none 0 0] hS (fun g5 w hS _=>?_)
   refine eS 0 hk hS (fun w hS _=>?_)
   refine rE [1,2,4,9,11,12,13,14] hk fun a hk=>?_
   refine rgL [12,13,14] hk ?_
   refine T ?_
   refine LDS 2 7 hk hS ?_
   iterate 3 refine T ?_
   rcases dt ((0:Int) < frm) with ⟨he,hg4⟩ | ⟨he,hg4⟩
   ·rw [he]
    replace hI3:=(if_pos hg4).symm.trans hI3
    refine T ?_
    refine LD 0 hk hS ?_
    iterate 4 refine T ?_
    refine LDS 0 9 hk hS ?_
    refine eC hk (h:=jn h (decide ((z3.lan:Int) = lan)) frm z3 e4 _ (by assumption) (by exact (hvs _ (List.mem_of_getElem? (by assumption))).2) (by exact (hvs _ (List.mem_of_getElem? (by assumption))).1) hS) (k:=?_)
    rintro _ w ⟨e06,rfl,hS⟩
    refine ⟨_,rfl,?_⟩
    generalize hq6:bv h (decide ((z3.lan:Int) = lan)) frm z3 = q6 at hS ⊢
    replace hI3:=(am hq6).symm.trans hI3
    replace hS:=hS.nz 4
    refine eF (fun a_ h_=>aZ (e:=200) (cells:=#[i6 q6.lan,.slice e06.A q6.listed.length e06.c,.bool q6.sent,i6 q6.dst]) hS (ae rfl) rfl (h_.prtL hk) fun g7 w hS _=>⟨_,rfl,?_⟩)
    replace hS:=hS.pk [3,1] 0
    refine eF (fun a_ h_=>sA (bytes:=48) mh q6 e06 hS (ae rfl) rfl (h_.x hk) (h_.x hk) (ay (hS.blk (i:=2) rfl) rfl) (by (try simp only [List.length_append,List.length_cons,List.length_nil,List.length_take,List.length_drop]);omega) fun A9 c9 w hS=>⟨_,rfl,?_⟩)
    replace hS:=hS.nz 4
    refine T ?_
    refine rE [1,2,4,9,12,13,14] hk fun a hk=>?_
    refine rgL [] hk ?_
    refine dA hk ?_
    refine T ?_
    refine rE [1,2,4,9,12,13,14] hk fun a hk=>?_
    replace hS:=hS.pk [0,2] 2
    replace hS:=hS.dropI.dropI
    exact ⟨⟨k3 + 1,(v3x0 ++ [q6]),_,_,by omega,hI3,by (try simp only [List.length_append,List.length_cons,List.length_nil]);omega,hk.to,hS⟩,aP hk.g hmu3 (by omega)⟩
   rw [he]
   replace hI3:=(if_neg hg4).symm.trans hI3
   refine oF 4 22 true [5,6,7,8] ?_
   iterate 2 refine T ?_
   refine LDS 0 9 hk hS ?_
   refine eC hk (h:=jn h false frm z3 e4 _ (by assumption) (by exact (hvs _ (List.mem_of_getElem? (by assumption))).2) (by exact (hvs _ (List.mem_of_getElem? (by assumption))).1) hS) (k:=?_)
   rintro _ w ⟨e010,rfl,hS⟩
   refine ⟨_,rfl,?_⟩
   generalize hq10:bv h false frm z3 = q10 at hS ⊢
   replace hI3:=(am hq10).symm.trans hI3
   replace hS:=hS.nz 4
   refine eF (fun a_ h_=>aZ (e:=200) (cells:=#[i6 q10.lan,.slice e010.A q10.listed.length e010.c,.bool q10.sent,i6 q10.dst]) hS (ae rfl) rfl (h_.prtL hk) fun g11 w hS _=>⟨_,rfl,?_⟩)
   replace hS:=hS.pk [3,1] 0
   refine eF (fun a_ h_=>sA (bytes:=48) mh q10 e010 hS (ae rfl) rfl (h_.x hk) (h_.x hk) (ay (hS.blk (i:=2) rfl) rfl) (by (try simp only [List.length_append,List.length_cons,List.length_nil,List.length_take,List.length_drop]);omega) fun A13 c13 w hS=>⟨_,rfl,?_⟩)
   replace hS:=hS.nz 4
   refine T ?_
   refine rE [1,2,4,9,12,13,14] hk fun a hk=>?_
   refine rgL [] hk ?_
   refine dA hk ?_
   refine T ?_
   refine rE [1,2,4,9,12,13,14] hk fun a hk=>?_
   replace hS:=hS.pk [0,2] 2
   replace hS:=hS.dropI.dropI
   exact ⟨⟨k3 + 1,(v3x0 ++ [q10]),_,_,by omega,hI3,by (try simp only [List.length_append,List.length_cons,List.length_nil]);omega,hk.to,hS⟩,aP hk.g hmu3 (by omega)⟩
  obtain rfl:k3 = (vs).length:=by omega
  rw [ax (Nat.le_refl _)] at hI3
  refine wp_exit ?_
  subst hI3
  exact ⟨_,_,hk.to,hS⟩
 rintro a w ⟨A3x0,c3x0,hk,hS⟩
 replace ht:=(am hr3).symm.trans ht
 refine sg [] hk ?_
 iterate 2 refine T ?_
 refine rE [8] hk fun a hk=>?_
 refine wp_ret ?_
 replace hS:=hS.pk [0] 1
 subst ht
 exact rt1 hk (hR_ _ _ ⟨_,_,rfl,hS⟩)
end
section
structure WhV where
  lan:Int
  id:Int
 deriving DecidableEq
def WhV.cells (x:WhV):List Value:=[.int .i64 x.lan,.int .i64 x.id]
def sf (x:WhV):Value:=.agg x.cells.toArray
structure ToV where
  seq:Int
  at_:Int
def to0:ToV:=⟨0,0⟩
def ToV.cells (x:ToV):List Value:=[.int .i64 x.seq,.int .i64 x.at_]
def ed (x:ToV):Value:=.agg x.cells.toArray
structure TaS where
  x:ExS
  w:List (KeyV × HD)
  asked:List KeyV
structure PoS where
  pt:PtV
  i:IfV
  p:PeS
set_option maxRecDepth 20000 in
set_option maxHeartbeats 1000000 in
theorem uQ (x y:WhV) (w:World):(Op.equal 157 (.agg (WhV.cells x).toArray) (.agg (WhV.cells y).toArray)).run Tryz.prog w = .ok (decide (x = y)) w:=by
  obtain ⟨a0,a1⟩:=x
  obtain ⟨b0,b1⟩:=y
  dsimp only [WhV.cells]
  unfold Op.equal Op.maxDepth
  go_simp
  repeat' split
  all_goals simp_all
theorem zq:KeyK Tryz.prog 157 sf:=KeyK.ofStruct Tryz.underlying157 (uQ) (fun e x w=>by
  obtain ⟨a0,a1⟩:=x
  kernel_rfl) (fun x=>by
  obtain ⟨a0,a1⟩:=x
  simp [Instr.sameBits,sf,WhV.cells])
def yh (g:Nat) (x:TaS):Atom:=exA fun e:Nat × Nat × SlP=>bi [ai g 183 #[pt e.1 0,pt e.2.1 0,.slice e.2.2.A x.asked.length e.2.2.c],wT e.1 x.x,tN e.2.1 x.w,aa (.slice e.2.2.A x.asked.length e.2.2.c) 111 3 x.asked.length (ab KeyV.cells x.asked)]
def di (g:Nat) (x:PoS):Atom:=exA fun e:Nat=>bi [ai g 85 #[i6 x.pt.lan,i6 x.pt.prio,i6 x.pt.cost,i6 x.i.self,i6 x.i.prio,i6 x.i.state,i6 x.i.dr,i6 x.i.bdr,pt e 0],bC e x.p]
theorem dK {κ:Kap} {L I:List Atom} {w:World} {g:Nat} {x:PoS} (h:S κ (di g x::L) I w):∃ e:Nat,S κ (ai g 85 #[i6 x.pt.lan,i6 x.pt.prio,i6 x.pt.cost,i6 x.i.self,i6 x.i.prio,i6 x.i.state,i6 x.i.dr,i6 x.i.bdr,pt e 0]::bC e x.p::L) I w:=by
  obtain ⟨e,h⟩:=h.ex_open
  exact ⟨e,h.sep_open⟩
theorem aS {κ:Kap} {L I:List Atom} {w:World} {g:Nat} {x:PoS} {e:Nat} (h:S κ (ai g 85 #[i6 x.pt.lan,i6 x.pt.prio,i6 x.pt.cost,i6 x.i.self,i6 x.i.prio,i6 x.i.state,i6 x.i.dr,i6 x.i.bdr,pt e 0]::bC e x.p::L) I w):S κ (di g x::L) I w:=
  S.ex_close (f:=fun e:Nat=>bi [ai g 85 #[i6 x.pt.lan,i6 x.pt.prio,i6 x.pt.cost,i6 x.i.self,i6 x.i.prio,i6 x.i.state,i6 x.i.dr,i6 x.i.bdr,pt e 0],bC e x.p]) e (S.sep_close (l:=[_,_]) h)
def taMF:MFn WhV TaS Nat:=⟨sf,fun _ p=>pt p 0,fun v p=>[yh p v]⟩
structure RoS where
  id:Int
  now:Int
  number:Int
  ports:List (Option PoS)
  talks:List (WhV × TaS)
  mine:List (KeyV × ToV)
  db:DbS
  w:List (TmV × Int)
  lists:List (EnV × Int)
  later:List (Int × List HD)
  out:List FrV
structure RoP where
  g:Nat
  p0:Option Nat
  p1:Option Nat
  p2:Option Nat
  p3:Option Nat
  tm:Nat
  mm:Nat
  dg:Nat
  wg:Nat
  lg:Nat
  ag:Nat
def RoP.pts (P:RoP):List (Option Nat):=[P.p0,P.p1,P.p2,P.p3]
theorem du {P:RoP}:P.pts.length = 4:=rfl
def roA (P:RoP) (x:RoS):Atom:=exA fun e:SlP=>fK (x.ports.length = 4) (bi [ai P.g 102 #[i6 x.id,i6 x.now,i6 x.number,ptO P.p0,ptO P.p1,ptO P.p2,ptO P.p3,.map (some P.tm),.map (some P.mm),pt P.dg 0,pt P.wg 0,pt P.lg 0,pt P.ag 0,.slice e.A x.out.length e.c],jY di P.pts x.ports,fS taMF P.tm x.talks,bq dZ ed P.mm x.mine,dbA P.dg x.db,bz P.wg x.w,cO P.lg x.lists,dL P.ag x.later,crA bW 58 e.A e.c x.out])
section
variable {κ:Kap} {L I:List Atom} {w:World} {P:RoP} {x:RoS}
theorem ro_open (h:S κ (roA P x::L) I w):∃ e:SlP,x.ports.length = 4∧S κ (ai P.g 102 #[i6 x.id,i6 x.now,i6 x.number,ptO P.p0,ptO P.p1,ptO P.p2,ptO P.p3,.map (some P.tm),.map (some P.mm),pt P.dg 0,pt P.wg 0,pt P.lg 0,pt P.ag 0,.slice e.A x.out.length e.c]::(jY di P.pts x.ports)::(fS taMF P.tm x.talks)::bq dZ ed P.mm x.mine::(dbA P.dg x.db)::(bz P.wg x.w)::(cO P.lg x.lists)::(dL P.ag x.later)::crA bW 58 e.A e.c x.out::L) I w:=by
  obtain ⟨e,h⟩:=h.ex_open
  obtain ⟨h1,h⟩:=h.pure_open
  exact ⟨e,h1,h.sep_open⟩
theorem ak {e:SlP} (hl:x.ports.length = 4) (h:S κ (ai P.g 102 #[i6 x.id,i6 x.now,i6 x.number,ptO P.p0,ptO P.p1,ptO P.p2,ptO P.p3,.map (some P.tm),.map (some P.mm),pt P.dg 0,pt P.wg 0,pt P.lg 0,pt P.ag 0,.slice e.A x.out.length e.c]::(jY di P.pts x.ports)::(fS taMF P.tm x.talks)::bq dZ ed P.mm x.mine::(dbA P.dg x.db)::(bz P.wg x.w)::(cO P.lg x.lists)::(dL P.ag x.later)::crA bW 58 e.A e.c x.out::L) I w):S κ (roA P x::L) I w:=
  S.ex_close (f:=fun e:SlP=>fK (x.ports.length = 4) (bi [ai P.g 102 #[i6 x.id,i6 x.now,i6 x.number,ptO P.p0,ptO P.p1,ptO P.p2,ptO P.p3,.map (some P.tm),.map (some P.mm),pt P.dg 0,pt P.wg 0,pt P.lg 0,pt P.ag 0,.slice e.A x.out.length e.c],jY di P.pts x.ports,fS taMF P.tm x.talks,bq dZ ed P.mm x.mine,dbA P.dg x.db,bz P.wg x.w,cO P.lg x.lists,dL P.ag x.later,crA bW 58 e.A e.c x.out])) e (S.pure_close hl (S.sep_close (l:=[_,_,_,_,_,_,_,_,_]) h))
end
end
section
set_option maxRecDepth 100000
set_option maxHeartbeats 8000000
def qu (g:Nat) (n:Int):Atom:=ai g 3 #[i6 n]
def bf (lan:Int) (id:Int):Int:=bits .or .i64 (IntKind.i64.wrap (lan * 2 ^ 4)) id
theorem fg {κ:Kap} {L I:List Atom} (lan:Int) (id:Int) (W:World) (hS:S κ (L) (I) W):
    Calls Tryz.prog 14 #[i6 lan,i6 id] W (fun r w'=>r = .returned (i6 (bf lan id))∧S κ (L) (I) w'):=by
 generalize ht:(bf lan id) = t_
 refine wK 9 Tryz.func14 (fun R_ hR_ a hk=>?_)
 refine sg [] hk ?_
 refine T ?_
 refine rE [0,1] hk fun a hk=>?_
 refine sg [] hk ?_
 refine T ?_
 refine rD (i6 (IntKind.i64.wrap (lan * 2 ^ 4))) (fun _ h_=>rk (aq rfl (h_.x hk) rfl (fun _=>by first | rfl | kernel_rfl) (fun _=>rfl))) ?_
 refine T ?_
 refine rD (i6 (bits .or .i64 (IntKind.i64.wrap (lan * 2 ^ 4)) id)) (fun _ h_=>rk (aq rfl (h_.x hk) (h_.x hk) (fun _=>by first | rfl | kernel_rfl) (fun _=>rfl))) ?_
 refine T ?_
 refine rE [4] hk fun a hk=>?_
 refine wp_ret ?_
 subst ht
 exact rt1 hk (hR_ _ _ ⟨rfl,hS⟩)
def mZ (p:PeV) (id:Int):Bool:=if (p.state:Int) = 6 then if (id:Int) = 0 then true else decide ((p.id:Int) = id) else false
theorem qQ {κ:Kap} {L I:List Atom} (p:PeV) (b:Nat) (id:Int) (W:World) (hS:S κ ((qu b id)::L) (I) W):
    Calls Tryz.prog 280 #[.agg #[i6 p.id,i6 p.prio,i6 p.dr,i6 p.bdr,i6 p.state,.bool p.two,i6 p.at_],pt b 0] W (fun r w'=>r = .returned (.bool (mZ p id))∧S κ ((qu b id)::L) (I) w'):=by
 generalize ht:(mZ p id) = t_
 refine wK 17 Tryz.func280 (fun R_ hR_ a hk=>?_)
 refine sg [0] hk ?_
 refine eB hk hS (fun g2 w hS _=>?_)
 refine T ?_
 refine rE [1,2] hk fun a hk=>?_
 refine sg [] hk ?_
 refine T ?_
 refine LD 0 hk hS ?_
 iterate 2 refine T ?_
 rcases dt ((p.state:Int) = 6) with ⟨he,hg3⟩ | ⟨he,hg3⟩
 ·rw [he]
  replace ht:=(if_pos hg3).symm.trans ht
  replace hS:=hS.fr 1
  replace hS:=hS.nz 2
  refine LD 0 hk hS ?_
  iterate 2 refine T ?_
  rcases dt ((id:Int) = 0) with ⟨he,hg6⟩ | ⟨he,hg6⟩
  ·rw [he]
   replace ht:=(if_pos hg6).symm.trans ht
   refine oF 6 10 false [7,8,9,10] ?_
   iterate 3 refine T ?_
   refine rE [3] hk fun a hk=>?_
   refine wp_ret ?_
   replace hS:=hS.nz 2
   replace hS:=hS.pk [0] 1
   subst ht
   exact rt1 hk (hR_ _ _ ⟨rfl,hS⟩)
  rw [he]
  replace ht:=(if_neg hg6).symm.trans ht
  refine T ?_
  refine LD 1 hk hS ?_
  refine LD 0 hk hS ?_
  iterate 4 refine T ?_
  refine rE [3] hk fun a hk=>?_
  refine wp_ret ?_
  replace hS:=hS.nz 2
  replace hS:=hS.pk [0] 1
  subst ht
  exact rt1 hk (hR_ _ _ ⟨rfl,hS⟩)
 rw [he]
 replace ht:=(if_neg hg3).symm.trans ht
 refine oF 3 7 true [4,5,6] ?_
 refine oF 6 10 false [7,8,9,10] ?_
 refine oF 3 7 true [11] ?_
 iterate 2 refine T ?_
 refine rE [3] hk fun a hk=>?_
 refine wp_ret ?_
 replace hS:=hS.pk [1] 1
 subst ht
 exact rt1 hk (hR_ _ _ ⟨rfl,hS⟩)
def gG (id:Int):List PeV → Nat → Except (Int) (Unit)
  | [],k2=>.ok ()
  | z2::xs2,k2=>cond (mZ z2 id) (.error k2) (gG id xs2 (k2 + 1))
def m9 (l:List PeV) (id:Int):Int:=exE (gG id l 0) (fun e=>e) fun r2=>-1
theorem qS {κ:Kap} {L I:List Atom} (l:List PeV) (lA:Option Addr) (lc:Nat) (b:Nat) (id:Int) (W:World) (hS:S κ ((qu b id)::L) (aa (.slice lA l.length lc) 90 7 l.length (ab PeV.cells l)::I) W):
    Calls Tryz.prog 333 #[.slice lA l.length lc,.func (.func 280) #[] #[pt b 0]] W (fun r w'=>r = .returned (i6 (m9 l id))∧S κ ((qu b id)::L) (aa (.slice lA l.length lc) 90 7 l.length (ab PeV.cells l)::I) w'):=by
 generalize ht:(m9 l id) = t_
 refine wK 19 Tryz.func333 (fun R_ hR_ a hk=>?_)
 refine sg [] hk ?_
 refine T ?_
 refine rE [0,1] hk fun a hk=>?_
 refine wp_seq ?_
 refine sg [] hk ?_
 iterate 3 refine T ?_
 refine rE [0,1,7,8] hk fun a hk=>?_
 obtain ⟨x2,hr2⟩:∃ y_,gG id l 0 = y_:=⟨_,rfl⟩
 refine aB (fun a_ w_=>∃ r2,x2 = .ok r2∧Fr a_ 19 []∧S κ ((qu b id)::L) (aa (.slice lA l.length lc) 90 7 l.length (ab PeV.cells l)::I) w_) ?_ ?_
 ·refine wp_block ?_
  refine wp_loop (fun a_ w_=>∃ k2:Nat,(k2 ≤ (l).length)∧gG id ((l).drop k2) k2 = x2∧Fr a_ 19 [(0,.slice lA l.length lc),(1,.func (.func 280) #[] #[pt b 0]),(7,i6 ((l.length:Nat):Int)),(8,i6 k2)]∧S κ ((qu b id)::L) (aa (.slice lA l.length lc) 90 7 l.length (ab PeV.cells l)::I) w_) (fun a_ _=>(l).length - (intOf (sl a_ 8)).toNat) ?_ ?_
  ·exact ⟨0,Nat.zero_le _,hr2,hk.to,hS⟩
  clear hk hS
  rintro aL2 w ⟨k2,hkl2,hI2,hk,hS⟩
  have hmu2:=hk.g (s:=8)
  have hlb2:=hS.rowBI (i:=0) rfl
  refine sg [] hk ?_
  refine T ?_
  refine rE [0,1,7,8,9] hk fun a hk=>?_
  refine wp_seq ?_
  refine cD hk (fun hc9=>?_) (fun hc9=>?_)
  ·obtain ⟨z2,hz2⟩:=cq (show k2 < (l).length by omega)
   rw [aF hz2] at hI2
   refine wp_skip ?_
   refine wp_seq ?_
   refine wp_block ?_
   refine sg [] hk ?_
   iterate 2 refine T ?_
   refine rE [0,1,5,7,8] hk fun a hk=>?_
   refine sg [5] hk ?_
   iterate 3 refine T ?_
   refine dX PeV.cells_len' hk (hS.rdI (i:=0) rfl) (fun b3 o3 z3 hz3 hq3=>?_)
   obtain rfl:z2 = z3:=Option.some.inj (hz2.symm.trans hz3)
   refine dV 7 hq3 hk ?_
   refine eV hk (h:=qQ z2 b id _ hS) (k:=?_)
   rintro _ w ⟨rfl,hS⟩
   refine ⟨_,rfl,?_⟩
   replace hS:=hS.nz 1
   refine rE [0,1,5,7,8,16] hk fun a hk=>?_
   refine cB hk (fun hc16=>?_) (fun hc16=>?_)
   ·replace hI2:=(bT hc16).symm.trans hI2
    refine sg [] hk ?_
    iterate 2 refine T ?_
    refine rE [4] hk fun a hk=>?_
    refine wp_ret ?_
    replace ht:=(fB hr2).symm.trans ht
    subst hI2
    subst ht
    exact rt1 hk (hR_ _ _ ⟨rfl,hS⟩)
   replace hI2:=(bF hc16).symm.trans hI2
   refine wp_skip ?_
   refine rgL [] hk ?_
   refine dA hk ?_
   refine T ?_
   refine rE [0,1,7,8] hk fun a hk=>?_
   exact ⟨⟨k2 + 1,by omega,hI2,hk.to,hS⟩,aP hk.g hmu2 (by omega)⟩
  obtain rfl:k2 = (l).length:=by omega
  rw [ax (Nat.le_refl _)] at hI2
  refine wp_exit ?_
  subst hI2
  exact ⟨_,rfl,hk.to,hS⟩
 rintro a w ⟨r2,hx,hk,hS⟩
 replace ht:=(fC (hr2.trans hx)).symm.trans ht
 refine sg [] hk ?_
 refine T ?_
 refine rE [4] hk fun a hk=>?_
 refine wp_ret ?_
 subst ht
 exact rt1 hk (hR_ _ _ ⟨rfl,hS⟩)
def m1 (l:List PeV) (id:Int):Bool:=decide ((0:Int) ≤ (m9 l id))
theorem qR {κ:Kap} {L I:List Atom} (l:List PeV) (lA:Option Addr) (lc:Nat) (b:Nat) (id:Int) (W:World) (hS:S κ ((qu b id)::L) (aa (.slice lA l.length lc) 90 7 l.length (ab PeV.cells l)::I) W):
    Calls Tryz.prog 279 #[.slice lA l.length lc,.func (.func 280) #[] #[pt b 0]] W (fun r w'=>r = .returned (.bool (m1 l id))∧S κ ((qu b id)::L) (aa (.slice lA l.length lc) 90 7 l.length (ab PeV.cells l)::I) w'):=by
 generalize ht:(m1 l id) = t_
 refine wK 9 Tryz.func279 (fun R_ hR_ a hk=>?_)
 refine sg [] hk ?_
 refine T ?_
 refine rE [0,1] hk fun a hk=>?_
 refine sg [2] hk ?_
 iterate 2 refine T ?_
 refine eC hk (h:=qS l lA lc b id _ hS) (k:=?_)
 rintro _ w ⟨rfl,hS⟩
 refine ⟨_,rfl,?_⟩
 replace hS:=hS.nz 1
 iterate 2 refine T ?_
 refine rE [4] hk fun a hk=>?_
 refine wp_ret ?_
 subst ht
 exact rt1 hk (hR_ _ _ ⟨rfl,hS⟩)
def fk (v:VwV) (id:Int):Bool:=(m1 v.peers id)
theorem gP {κ:Kap} {L I:List Atom} (v:VwV) (vp:SlP × SlP) (id:Int) (W:World) (hS:S κ (L) (aa (.slice vp.1.A v.peers.length vp.1.c) 90 7 v.peers.length (ab PeV.cells v.peers)::aa (.slice vp.2.A v.wants.length vp.2.c) 186 8 v.wants.length (ab WtV.cells v.wants)::I) W):
    Calls Tryz.prog 205 #[.agg #[i6 v.lan,i6 v.cost,i6 v.i.self,i6 v.i.prio,i6 v.i.state,i6 v.i.dr,i6 v.i.bdr,.slice vp.1.A v.peers.length vp.1.c,.slice vp.2.A v.wants.length vp.2.c],i6 id] W (fun r w'=>r = .returned (.bool (fk v id))∧S κ (L) (aa (.slice vp.1.A v.peers.length vp.1.c) 90 7 v.peers.length (ab PeV.cells v.peers)::aa (.slice vp.2.A v.wants.length vp.2.c) 186 8 v.wants.length (ab WtV.cells v.wants)::I) w'):=by
 generalize ht:(fk v id) = t_
 refine wK 9 Tryz.func205 (fun R_ hR_ a hk=>?_)
 refine sg [0,1] hk ?_
 refine eB hk hS (fun g2 w hS _=>?_)
 refine eB hk hS (fun g3 w hS _=>?_)
 refine T ?_
 refine rE [2,3] hk fun a hk=>?_
 refine sg [3] hk ?_
 refine T ?_
 refine LD 1 hk hS ?_
 refine rD (.func (.func 280) #[] #[pt g3 0]) (fun _ h_=>rk (bu rfl (by simp) (h_.map hk))) ?_
 replace hS:=hS.nz 2
 refine eC hk (h:=qR v.peers vp.1.A vp.1.c g3 id _ hS) (k:=?_)
 rintro _ w ⟨rfl,hS⟩
 refine ⟨_,rfl,?_⟩
 replace hS:=hS.nz 2
 refine T ?_
 refine rE [4] hk fun a hk=>?_
 refine wp_ret ?_
 replace hS:=hS.pk [] 2
 subst ht
 exact rt1 hk (hR_ _ _ ⟨rfl,hS⟩)
def ea (me:Int) (v:VwV):Bool:=if (v.i.state:Int) ≤ 1 then false else if (v.i.dr:Int) = 0 then false else if (v.i.dr:Int) = me then (fk v 0) else (fk v v.i.dr)
theorem mf {κ:Kap} {L I:List Atom} (me:Int) (v:VwV) (vp:SlP × SlP) (W:World) (hS:S κ (L) (aa (.slice vp.1.A v.peers.length vp.1.c) 90 7 v.peers.length (ab PeV.cells v.peers)::aa (.slice vp.2.A v.wants.length vp.2.c) 186 8 v.wants.length (ab WtV.cells v.wants)::I) W):
    Calls Tryz.prog 204 #[i6 me,.agg #[i6 v.lan,i6 v.cost,i6 v.i.self,i6 v.i.prio,i6 v.i.state,i6 v.i.dr,i6 v.i.bdr,.slice vp.1.A v.peers.length vp.1.c,.slice vp.2.A v.wants.length vp.2.c]] W (fun r w'=>r = .returned (.bool (ea me v))∧S κ (L) (aa (.slice vp.1.A v.peers.length vp.1.c) 90 7 v.peers.length (ab PeV.cells v.peers)::aa (.slice vp.2.A v.wants.length vp.2.c) 186 8 v.wants.length (ab WtV.cells v.wants)::I) w'):=by
 generalize ht:(ea me v) = t_
 refine wK 29 Tryz.func204 (fun R_ hR_ a hk=>?_)
 refine sg [0] hk ?_
 refine eB hk hS (fun g2 w hS _=>?_)
 refine T ?_
 refine rE [0,3] hk fun a hk=>?_
 refine wp_seq ?_
 refine wp_block ?_
 refine sg [] hk ?_
 iterate 2 refine T ?_
 refine LD 0 hk hS ?_
 iterate 2 refine T ?_
 rcases dt ((v.i.state:Int) ≤ 1) with ⟨he,hg4⟩ | ⟨he,hg4⟩
 ·rw [he]
  replace ht:=(if_pos hg4).symm.trans ht
  refine oF 4 10 false [5,6,7,8] ?_
  iterate 2 refine T ?_
  refine rE [0,3,5] hk fun a hk=>?_
  refine cT hk ?_
  refine sg [] hk ?_
  refine T ?_
  refine rE [4] hk fun a hk=>?_
  refine wp_ret ?_
  replace hS:=hS.pk [] 1
  subst ht
  exact rt1 hk (hR_ _ _ ⟨rfl,hS⟩)
 rw [he]
 replace ht:=(if_neg hg4).symm.trans ht
 iterate 2 refine T ?_
 refine LD 0 hk hS ?_
 iterate 3 refine T ?_
 refine rE [0,3,5] hk fun a hk=>?_
 refine cD hk (fun hc5=>?_) (fun hc5=>?_)
 ·replace ht:=(if_pos hc5).symm.trans ht
  refine sg [] hk ?_
  refine T ?_
  refine rE [4] hk fun a hk=>?_
  refine wp_ret ?_
  replace hS:=hS.pk [] 1
  subst ht
  exact rt1 hk (hR_ _ _ ⟨rfl,hS⟩)
 replace ht:=(if_neg hc5).symm.trans ht
 refine sg [] hk ?_
 iterate 2 refine T ?_
 refine LD 0 hk hS ?_
 iterate 3 refine T ?_
 refine rE [3,16] hk fun a hk=>?_
 refine cD hk (fun hc16=>?_) (fun hc16=>?_)
 ·replace ht:=(if_pos hc16).symm.trans ht
  refine sg [1] hk ?_
  refine LDS 0 9 hk hS ?_
  refine eC hk (h:=gP v vp 0 _ hS) (k:=?_)
  rintro _ w ⟨rfl,hS⟩
  refine ⟨_,rfl,?_⟩
  replace hS:=hS.nz 1
  refine T ?_
  refine rE [4] hk fun a hk=>?_
  refine wp_ret ?_
  replace hS:=hS.pk [] 1
  subst ht
  exact rt1 hk (hR_ _ _ ⟨rfl,hS⟩)
 replace ht:=(if_neg hc16).symm.trans ht
 refine wp_skip ?_
 refine sg [4] hk ?_
 refine LDS 0 9 hk hS ?_
 iterate 2 refine T ?_
 refine LD 0 hk hS ?_
 refine eC hk (h:=gP v vp v.i.dr _ hS) (k:=?_)
 rintro _ w ⟨rfl,hS⟩
 refine ⟨_,rfl,?_⟩
 replace hS:=hS.nz 1
 refine T ?_
 refine rE [4] hk fun a hk=>?_
 refine wp_ret ?_
 replace hS:=hS.pk [] 1
 subst ht
 exact rt1 hk (hR_ _ _ ⟨rfl,hS⟩)
def br (me:Int):List VwV → (List Lk) → (List Lk)
  | [],v4x0=>v4x0
  | z4::xs4,v4x0=>if (z4.i.state:Int) = 0 then br me xs4 v4x0 else if ((((v4x0).length:Nat):Int):Int) = 4 then br me xs4 v4x0 else cond (ea me z4) (br me xs4 (v4x0 ++ [(⟨2,(bf z4.lan z4.i.dr),(bf z4.lan me),z4.cost⟩:Lk)])) (br me xs4 (v4x0 ++ [(⟨3,(bf z4.lan 0),(bf z4.lan me),z4.cost⟩:Lk)]))
def aN (me:Int) (vs:List VwV):LV:=bw (br me vs []) fun r4=>(⟨(⟨0,1,me,me,0,0,0⟩:HD),r4,[]⟩:LV)
theorem no {κ:Kap} {L I:List Atom} (me:Int) (vs:List VwV) (vsA:Option Addr) (vsc:Nat) (W:World) (hn:vs.length ≤ 100000) (hS:S κ (L) (crA co 39 vsA vsc vs::I) W):
    Calls Tryz.prog 122 #[i6 me,.slice vsA vs.length vsc] W (fun r w'=>∃ e0:LP,r = .returned (.agg #[i6 (((aN me vs).hd).age),i6 (((aN me vs).hd).kind),i6 (((aN me vs).hd).id),i6 (((aN me vs).hd).adv),i6 (((aN me vs).hd).seq),i6 (((aN me vs).hd).sum),i6 (((aN me vs).hd).long),.slice e0.A ((aN me vs).links.length) e0.c,.slice e0.B ((aN me vs).mem.length) e0.d])∧S κ ((aa (.slice e0.A ((aN me vs).links.length) e0.c) 230 4 ((aN me vs).links.length) (ab Lk.cells ((aN me vs).links)))::(aa (.slice e0.B ((aN me vs).mem.length) e0.d) 3 1 ((aN me vs).mem.length) (aw ((aN me vs).mem)))::L) (crA co 39 vsA vsc vs::I) w'):=by
 generalize ht:(aN me vs) = t_
 refine wK 58 Tryz.func122 (fun R_ hR_ a hk=>?_)
 refine sg [0] hk ?_
 refine eA #[i6 0,i6 0,i6 0,i6 0,i6 0,i6 0,i6 0,.slice none 0 0,.slice none 0 0] hS (fun g2 w hS _=>?_)
 refine rE [0,1,4] hk fun a hk=>?_
 refine sg [4,5] hk ?_
 iterate 2 refine T ?_
 refine rD (.agg #[i6 0,i6 1,i6 me,i6 me,i6 0,i6 0,i6 0]) (fun _ h_=>rk (af rfl (h_.prt hk) (by kernel_rfl))) ?_
 refine rD (.agg #[i6 0,i6 1,i6 me,i6 me,i6 0,i6 0,i6 0,.slice none 0 0,.slice none 0 0]) (fun _ h_=>rk (af rfl (h_.prt hk) (by kernel_rfl))) ?_
 refine eA #[i6 0,i6 0,i6 0,i6 0,i6 0,i6 0,i6 0,.slice none 0 0,.slice none 0 0] hS (fun g3 w hS _=>?_)
 refine eS 0 hk hS (fun w hS _=>?_)
 refine rE [0,1,4,5] hk fun a hk=>?_
 refine wp_seq ?_
 refine sg [] hk ?_
 iterate 3 refine T ?_
 refine rE [0,4,5,13,14,15] hk fun a hk=>?_
 obtain ⟨r4,hr4⟩:∃ y_,br me vs [] = y_:=⟨_,rfl⟩
 refine aB (fun a_ w_=>∃ A4x0 c4x0,Fr a_ 58 [(4,pt g2 0),(5,pt g3 0)]∧S κ ((aa (.slice A4x0 ((r4).length) c4x0) 230 4 ((r4).length) (ab Lk.cells r4))::ai g3 66 #[i6 0,i6 1,i6 me,i6 me,i6 0,i6 0,i6 0,.slice A4x0 ((r4).length) c4x0,.slice none 0 0]::ai g2 66 #[i6 0,i6 0,i6 0,i6 0,i6 0,i6 0,i6 0,.slice none 0 0,.slice none 0 0]::L) (crA co 39 vsA vsc vs::I) w_) ?_ ?_
 ·refine wp_block ?_
  refine wp_loop (fun a_ w_=>∃ k4:Nat,∃ v4x0:List Lk,∃ A4x0 c4x0,(k4 ≤ (vs).length)∧br me ((vs).drop k4) v4x0 = r4∧(v4x0.length ≤ k4)∧Fr a_ 58 [(0,i6 me),(4,pt g2 0),(5,pt g3 0),(13,.slice vsA vs.length vsc),(14,i6 ((vs.length:Nat):Int)),(15,i6 k4)]∧S κ ((aa (.slice A4x0 ((v4x0).length) c4x0) 230 4 ((v4x0).length) (ab Lk.cells v4x0))::ai g3 66 #[i6 0,i6 1,i6 me,i6 me,i6 0,i6 0,i6 0,.slice A4x0 ((v4x0).length) c4x0,.slice none 0 0]::ai g2 66 #[i6 0,i6 0,i6 0,i6 0,i6 0,i6 0,i6 0,.slice none 0 0,.slice none 0 0]::L) (crA co 39 vsA vsc vs::I) w_) (fun a_ _=>(vs).length - (intOf (sl a_ 15)).toNat) ?_ ?_
  ·have hS:=hS.nilrow 230 4
   replace hS:=hS.nz 3
   exact ⟨0,[],_,_,Nat.zero_le _,hr4,Nat.zero_le _,hk.to,hS⟩
  clear hk hS
  rintro aL4 w ⟨k4,v4x0,A4x0,c4x0,hkl4,hI4,hcl4x0,hk,hS⟩
  have hmu4:=hk.g (s:=15)
  have hlb4:=jl hS (i:=0)
  refine sg [] hk ?_
  refine T ?_
  refine rE [0,4,5,13,14,15,16] hk fun a hk=>?_
  refine wp_seq ?_
  refine cD hk (fun hc16=>?_) (fun hc16=>?_)
  ·obtain ⟨z4,hz4⟩:=cq (show k4 < (vs).length by omega)
   rw [aF hz4] at hI4
   refine wp_skip ?_
   refine wp_seq ?_
   refine wp_block ?_
   refine sg [2,3] hk ?_
   refine cX 0 hz4 hk hS (fun b5 o5 e5 hS hq5=>?_)
   replace hS:=hS.nz 3
   refine dV 9 hq5 hk ?_
   refine eA #[i6 0,i6 0,i6 0,i6 0,i6 0,i6 0,i6 0,.slice none 0 0,.slice none 0 0] hS (fun g6 w hS _=>?_)
   refine eS 0 hk hS (fun w hS _=>?_)
   refine rE [0,4,5,7,13,14,15] hk fun a hk=>?_
   refine wp_seq ?_
   refine sg [] hk ?_
   iterate 2 refine T ?_
   refine LD 0 hk hS ?_
   iterate 2 refine T ?_
   rcases dt ((z4.i.state:Int) = 0) with ⟨he,hg4⟩ | ⟨he,hg4⟩
   ·rw [he]
    replace hI4:=(if_pos hg4).symm.trans hI4
    refine oF 4 23 false [5,6,7,8] ?_
    refine T ?_
    refine rE [0,4,5,7,13,14,15,28] hk fun a hk=>?_
    refine cT hk ?_
    refine wp_exit ?_
    refine rgL [] hk ?_
    refine dA hk ?_
    refine T ?_
    refine rE [0,4,5,13,14,15] hk fun a hk=>?_
    replace hS:=hS.pk [1,1,1] 1
    replace hS:=hS.dropI.dropI
    exact ⟨⟨k4 + 1,v4x0,_,_,by omega,hI4,by (try simp only [List.length_append,List.length_cons,List.length_nil]);omega,hk.to,hS⟩,aP hk.g hmu4 (by omega)⟩
   rw [he]
   replace hI4:=(if_neg hg4).symm.trans hI4
   refine T ?_
   refine LD 2 hk hS ?_
   iterate 3 refine T ?_
   refine rE [0,4,5,7,13,14,15,28] hk fun a hk=>?_
   refine cD hk (fun hc28=>?_) (fun hc28=>?_)
   ·replace hI4:=(if_pos hc28).symm.trans hI4
    refine wp_exit ?_
    refine rgL [] hk ?_
    refine dA hk ?_
    refine T ?_
    refine rE [0,4,5,13,14,15] hk fun a hk=>?_
    replace hS:=hS.pk [1,1,1] 1
    replace hS:=hS.dropI.dropI
    exact ⟨⟨k4 + 1,v4x0,_,_,by omega,hI4,by (try simp only [List.length_append,List.length_cons,List.length_nil]);omega,hk.to,hS⟩,aP hk.g hmu4 (by omega)⟩
   replace hI4:=(if_neg hc28).symm.trans hI4
   refine wp_skip ?_
   refine wp_seq ?_
   refine aB (fun a_ w_=>∃ g9,Fr a_ 58 [(0,i6 me),(4,pt g2 0),(5,pt g3 0),(7,pt g6 0),(8,pt g9 0),(13,.slice vsA vs.length vsc),(14,i6 ((vs.length:Nat):Int)),(15,i6 k4)]∧S κ (ai g9 230 #[i6 3,i6 (bf z4.lan 0),i6 (bf z4.lan me),i6 z4.cost]::ai g6 39 #[i6 z4.lan,i6 z4.cost,i6 z4.i.self,i6 z4.i.prio,i6 z4.i.state,i6 z4.i.dr,i6 z4.i.bdr,.slice e5.1.A z4.peers.length e5.1.c,.slice e5.2.A z4.wants.length e5.2.c]::(aa (.slice A4x0 ((v4x0).length) c4x0) 230 4 ((v4x0).length) (ab Lk.cells v4x0))::ai g3 66 #[i6 0,i6 1,i6 me,i6 me,i6 0,i6 0,i6 0,.slice A4x0 ((v4x0).length) c4x0,.slice none 0 0]::ai g2 66 #[i6 0,i6 0,i6 0,i6 0,i6 0,i6 0,i6 0,.slice none 0 0,.slice none 0 0]::L) (aa (.slice e5.1.A z4.peers.length e5.1.c) 90 7 z4.peers.length (ab PeV.cells z4.peers)::aa (.slice e5.2.A z4.wants.length e5.2.c) 186 8 z4.wants.length (ab WtV.cells z4.wants)::crA co 39 vsA vsc vs::I) w_) ?_ ?_
   ·refine rgR [[],[0],[0,1],[],[3],[],[0,1,2,3,4,5],[],[7],[0,1,2,3,4,5,6,7,8],[],[0,1,2,3,4,5,6,7,8,9,10]] [2,6,10,11] (.rd 0 (.rd 1 (.rd 3 (.rd 4 (.rd 5 (.rd 7 (.rd 8 (.ef 2 (.ag 3 (.ag 4 (.ag 5 (.ag 7 (.ag 8 (.ef 6 (.ag 7 (.ag 8 (.rd 9 (.ef 10 (.ag 7 (.ag 8 (.ag 9 (.ef 11 (.fin) .non)))) .non)))) (.ef 10 (.ag 3 (.ag 4 (.ag 5 (.ag 7 (.ag 8 (.ef 6 (.ag 7 (.ag 8 (.rd 9 (.ef 11 (.fin) .non)))) .non)))))) .non))))))) (.ef 10 (.ag 0 (.ag 1 (.ag 3 (.ag 4 (.ag 5 (.ag 7 (.ag 8 (.ef 2 (.ag 3 (.ag 4 (.ag 5 (.ag 7 (.ag 8 (.ef 6 (.ag 7 (.ag 8 (.rd 9 (.ef 11 (.fin) .non)))) .non)))))) .non)))))))) .non))))))))) hk hS (fun w hS _=>?_)
    refine T ?_
    refine LD 0 hk hS ?_
    refine T ?_
    refine LD 0 hk hS ?_
    iterate 2 refine T ?_
    refine LD 0 hk hS ?_
    refine efk ?_ ?_
    ·refine eC hk (h:=fg z4.lan 0 _ hS) (k:=?_)
     rintro _ w ⟨rfl,hS⟩
     refine ⟨_,rfl,?_⟩
     replace hS:=hS.nz 4
     refine TA ?_
     refine aG (fun _ h_=>rk (ld hS 0 rfl (h_.x hk))) ?_
     iterate 2 refine TA ?_
     refine aG (fun _ h_=>rk (ld hS 0 rfl (h_.x hk))) ?_
     refine efk ?_ ?_
     ·refine eC hk (h:=fg z4.lan me _ hS) (k:=?_)
      rintro _ w ⟨rfl,hS⟩
      refine ⟨_,rfl,?_⟩
      replace hS:=hS.nz 4
      refine TA ?_
      refine aG (fun _ h_=>rk (ld hS 0 rfl (h_.x hk))) ?_
      refine rD (.agg #[i6 3,i6 (bf z4.lan 0),i6 (bf z4.lan me),i6 z4.cost]) (fun _ h_=>rk (af rfl (h_.prt hk) (by kernel_rfl))) ?_
      refine eA #[i6 0,i6 0,i6 0,i6 0] hS (fun g9 w hS _=>?_)
      refine TA ?_
      refine aG (fun _ h_=>rk (ld hS 1 rfl (h_.x hk))) ?_
      refine aG (fun _ h_=>rk (af rfl (h_.prt hk) (by kernel_rfl))) ?_
      refine eS 0 hk hS (fun w hS _=>?_)
      refine rE [0,4,5,7,8,13,14,15] hk fun a hk=>?_
      exact ⟨_,hk.to,hS⟩
     refine eA #[i6 0,i6 0,i6 0,i6 0] hS (fun g10 w hS _=>?_)
     refine TA ?_
     refine aG (fun _ h_=>rk (ld hS 1 rfl (h_.x hk))) ?_
     iterate 2 refine TA ?_
     refine aG (fun _ h_=>rk (ld hS 1 rfl (h_.x hk))) ?_
     refine eC hk (h:=fg z4.lan me _ hS) (k:=?_)
     rintro _ w ⟨rfl,hS⟩
     refine ⟨_,rfl,?_⟩
     replace hS:=hS.nz 5
     refine TA ?_
     refine aG (fun _ h_=>rk (ld hS 1 rfl (h_.x hk))) ?_
     refine rD (.agg #[i6 3,i6 (bf z4.lan 0),i6 (bf z4.lan me),i6 z4.cost]) (fun _ h_=>rk (af rfl (h_.prt hk) (by kernel_rfl))) ?_
     refine eS 0 hk hS (fun w hS _=>?_)
     refine rE [0,4,5,7,8,13,14,15] hk fun a hk=>?_
     exact ⟨_,hk.to,hS⟩
    refine eA #[i6 0,i6 0,i6 0,i6 0] hS (fun g12 w hS _=>?_)
    refine TA ?_
    refine aG (fun _ h_=>rk (ld hS 1 rfl (h_.x hk))) ?_
    refine TA ?_
    refine aG (fun _ h_=>rk (ld hS 1 rfl (h_.x hk))) ?_
    iterate 2 refine TA ?_
    refine aG (fun _ h_=>rk (ld hS 1 rfl (h_.x hk))) ?_
    refine eC hk (h:=fg z4.lan 0 _ hS) (k:=?_)
    rintro _ w ⟨rfl,hS⟩
    refine ⟨_,rfl,?_⟩
    replace hS:=hS.nz 5
    refine TA ?_
    refine aG (fun _ h_=>rk (ld hS 1 rfl (h_.x hk))) ?_
    iterate 2 refine TA ?_
    refine aG (fun _ h_=>rk (ld hS 1 rfl (h_.x hk))) ?_
    refine eC hk (h:=fg z4.lan me _ hS) (k:=?_)
    rintro _ w ⟨rfl,hS⟩
    refine ⟨_,rfl,?_⟩
    replace hS:=hS.nz 5
    refine TA ?_
    refine aG (fun _ h_=>rk (ld hS 1 rfl (h_.x hk))) ?_
    refine rD (.agg #[i6 3,i6 (bf z4.lan 0),i6 (bf z4.lan me),i6 z4.cost]) (fun _ h_=>rk (af rfl (h_.prt hk) (by kernel_rfl))) ?_
    refine eS 0 hk hS (fun w hS _=>?_)
    refine rE [0,4,5,7,8,13,14,15] hk fun a hk=>?_
    exact ⟨_,hk.to,hS⟩
   rintro a w ⟨g9,hk,hS⟩
   refine wp_seq ?_
   refine sg [2] hk ?_
   refine T ?_
   refine LDS 1 9 hk hS ?_
   refine eC hk (h:=mf me z4 e5 _ hS) (k:=?_)
   rintro _ w ⟨rfl,hS⟩
   refine ⟨_,rfl,?_⟩
   replace hS:=hS.nz 5
   refine rE [0,4,5,7,8,13,14,15,41] hk fun a hk=>?_
   refine cB hk (fun hc41=>?_) (fun hc41=>?_)
   ·replace hI4:=(bT hc41).symm.trans hI4
    refine rgL [5,7,9] hk ?_
    refine T ?_
    refine LD 1 hk hS ?_
    iterate 2 refine T ?_
    refine LD 1 hk hS ?_
    refine eC hk (h:=fg z4.lan z4.i.dr _ hS) (k:=?_)
    rintro _ w ⟨rfl,hS⟩
    refine ⟨_,rfl,?_⟩
    replace hS:=hS.nz 5
    refine T ?_
    refine eS 0 hk hS (fun w hS _=>?_)
    refine T ?_
    refine eS 0 hk hS (fun w hS _=>?_)
    refine rE [0,4,5,8,13,14,15] hk fun a hk=>?_
    refine rgL [3,4,6] hk ?_
    refine T ?_
    refine LD 3 hk hS ?_
    refine LDS 0 4 hk hS ?_
    refine eF (fun a_ h_=>aZ (e:=230) (cells:=#[i6 2,i6 (bf z4.lan z4.i.dr),i6 (bf z4.lan me),i6 z4.cost]) hS (ae rfl) rfl (h_.prtL hk) fun g17 w hS _=>⟨_,rfl,?_⟩)
    refine eF (fun a_ h_=>ia (bytes:=32) (ys:=[(⟨2,(bf z4.lan z4.i.dr),(bf z4.lan me),z4.cost⟩:Lk)]) Lk.cells_fn hS 3 (ae rfl) rfl (h_.x hk) (h_.x hk) (ay (hS.blk (i:=0) rfl) rfl) (by (try simp only [List.length_append,List.length_cons,List.length_nil,List.length_take,List.length_drop]);omega) fun A18 c18 w hS=>⟨_,rfl,?_⟩)
    replace hS:=hS.nz 6
    refine T ?_
    refine eS 4 hk hS (fun w hS _=>?_)
    refine rE [0,4,5,13,14,15] hk fun a hk=>?_
    refine rgL [] hk ?_
    refine dA hk ?_
    refine T ?_
    refine rE [0,4,5,13,14,15] hk fun a hk=>?_
    replace hS:=hS.pk [3,3,3] 3
    replace hS:=hS.dropI.dropI
    exact ⟨⟨k4 + 1,(v4x0 ++ [(⟨2,(bf z4.lan z4.i.dr),(bf z4.lan me),z4.cost⟩:Lk)]),_,_,by omega,hI4,by (try simp only [List.length_append,List.length_cons,List.length_nil]);omega,hk.to,hS⟩,aP hk.g hmu4 (by omega)⟩
   replace hI4:=(bF hc41).symm.trans hI4
   refine wp_skip ?_
   refine rgL [3,4,6] hk ?_
   refine T ?_
   refine LD 3 hk hS ?_
   refine LDS 0 4 hk hS ?_
   refine eF (fun a_ h_=>aZ (e:=230) (cells:=#[i6 3,i6 (bf z4.lan 0),i6 (bf z4.lan me),i6 z4.cost]) hS (ae rfl) rfl (h_.prtL hk) fun g19 w hS _=>⟨_,rfl,?_⟩)
   refine eF (fun a_ h_=>ia (bytes:=32) (ys:=[(⟨3,(bf z4.lan 0),(bf z4.lan me),z4.cost⟩:Lk)]) Lk.cells_fn hS 3 (ae rfl) rfl (h_.x hk) (h_.x hk) (ay (hS.blk (i:=0) rfl) rfl) (by (try simp only [List.length_append,List.length_cons,List.length_nil,List.length_take,List.length_drop]);omega) fun A20 c20 w hS=>⟨_,rfl,?_⟩)
   replace hS:=hS.nz 6
   refine T ?_
   refine eS 4 hk hS (fun w hS _=>?_)
   refine rE [0,4,5,13,14,15] hk fun a hk=>?_
   refine rgL [] hk ?_
   refine dA hk ?_
   refine T ?_
   refine rE [0,4,5,13,14,15] hk fun a hk=>?_
   replace hS:=hS.pk [3,3,3] 3
   replace hS:=hS.dropI.dropI
   exact ⟨⟨k4 + 1,(v4x0 ++ [(⟨3,(bf z4.lan 0),(bf z4.lan me),z4.cost⟩:Lk)]),_,_,by omega,hI4,by (try simp only [List.length_append,List.length_cons,List.length_nil]);omega,hk.to,hS⟩,aP hk.g hmu4 (by omega)⟩
  obtain rfl:k4 = (vs).length:=by omega
  rw [ax (Nat.le_refl _)] at hI4
  refine wp_exit ?_
  subst hI4
  exact ⟨_,_,hk.to,hS⟩
 rintro a w ⟨A4x0,c4x0,hk,hS⟩
 replace ht:=(am hr4).symm.trans ht
 refine sg [1] hk ?_
 refine LDS 1 9 hk hS ?_
 refine eS 2 hk hS (fun w hS _=>?_)
 refine rE [4] hk fun a hk=>?_
 refine wp_ret ?_
 have hCb:=hS.blk (i:=2) rfl
 have hS:=hS.nilrow 3 1
 replace hS:=hS.nz 4
 replace hS:=hS.pk [1,0] 2
 subst ht
 exact rtC hk hCb (hR_ _ _ ⟨(⟨A4x0,c4x0,none,0⟩:LP),rfl,hS⟩) Tryz.underlying66
def kn (v:VwV):Option (LV × Bool):=if (v.i.state:Int) ≠ 4 then some ((⟨(⟨0,0,0,0,0,0,0⟩:HD),[],[]⟩:LV),false) else cond (fk v 0) (none) (some ((⟨(⟨0,0,0,0,0,0,0⟩:HD),[],[]⟩:LV),false))
theorem lW {κ:Kap} {L I:List Atom} (me:Int) (v:VwV) (vp:SlP × SlP) (W:World) {r_:LV × Bool} (ht:(kn v) = some r_) (hS:S κ (L) (aa (.slice vp.1.A v.peers.length vp.1.c) 90 7 v.peers.length (ab PeV.cells v.peers)::aa (.slice vp.2.A v.wants.length vp.2.c) 186 8 v.wants.length (ab WtV.cells v.wants)::I) W):
    Calls Tryz.prog 123 #[i6 me,.agg #[i6 v.lan,i6 v.cost,i6 v.i.self,i6 v.i.prio,i6 v.i.state,i6 v.i.dr,i6 v.i.bdr,.slice vp.1.A v.peers.length vp.1.c,.slice vp.2.A v.wants.length vp.2.c]] W (fun r w'=>∃ e0:LP,r = .returned (.tuple #[.agg #[i6 r_.1.hd.age,i6 r_.1.hd.kind,i6 r_.1.hd.id,i6 r_.1.hd.adv,i6 r_.1.hd.seq,i6 r_.1.hd.sum,i6 r_.1.hd.long,.slice e0.A r_.1.links.length e0.c,.slice e0.B r_.1.mem.length e0.d],.bool r_.2])∧S κ (aa (.slice e0.A r_.1.links.length e0.c) 230 4 r_.1.links.length (ab Lk.cells r_.1.links)::aa (.slice e0.B r_.1.mem.length e0.d) 3 1 r_.1.mem.length (aw r_.1.mem)::L) (aa (.slice vp.1.A v.peers.length vp.1.c) 90 7 v.peers.length (ab PeV.cells v.peers)::aa (.slice vp.2.A v.wants.length vp.2.c) 186 8 v.wants.length (ab WtV.cells v.wants)::I) w'):=by
 refine wK 76 Tryz.func123 (fun R_ hR_ a hk=>?_)
 refine sg [0,1] hk ?_
 refine eB hk hS (fun g2 w hS _=>?_)
 refine eA #[i6 0,i6 0,i6 0,i6 0,i6 0,i6 0,i6 0,.slice none 0 0,.slice none 0 0] hS (fun g3 w hS _=>?_)
 refine T ?_
 refine rE [0,3,4] hk fun a hk=>?_
 refine wp_seq ?_
 refine sg [6] hk ?_
 iterate 2 refine T ?_
 refine LD 1 hk hS ?_
 iterate 2 refine T ?_
 rcases dt ((v.i.state:Int) ≠ 4) with ⟨he,hg4⟩ | ⟨he,hg4⟩
 ·rw [he]
  replace ht:=(if_pos hg4).symm.trans ht
  refine oF 4 16 false [5] ?_
  refine oE 4 16 false ?_
  refine oF 4 16 false [7] ?_
  refine T ?_
  refine rE [0,3,4,20] hk fun a hk=>?_
  refine cT hk ?_
  refine sg [1] hk ?_
  refine rD (.agg #[i6 0,i6 0,i6 0,i6 0,i6 0,i6 0,i6 0,.slice none 0 0,.slice none 0 0]) (fun _ h_=>rk (af rfl (h_.prt hk) (by kernel_rfl))) ?_
  refine eS 0 hk hS (fun w hS _=>?_)
  refine T ?_
  refine rE [4,5] hk fun a hk=>?_
  refine wp_ret ?_
  have hCb:=hS.blk (i:=0) rfl
  have hS:=hS.nilrow 230 4
  replace hS:=hS.nz 3
  have hS:=hS.nilrow 3 1
  replace hS:=hS.nz 4
  replace hS:=hS.pk [1,0] 2
  obtain rfl:=Option.some.inj ht
  exact gs hk hCb (hR_ _ _ ⟨(⟨none,0,none,0⟩:LP),rfl,hS⟩) Tryz.underlying66
 rw [he]
 replace ht:=(if_neg hg4).symm.trans ht
 refine LDS 1 9 hk hS ?_
 refine eC hk (h:=gP v vp 0 _ hS) (k:=?_)
 rintro _ w ⟨rfl,hS⟩
 refine ⟨_,rfl,?_⟩
 replace hS:=hS.nz 2
 iterate 2 refine T ?_
 refine rE [0,3,4,20] hk fun a hk=>?_
 refine cB hk (fun hc20=>?_) (fun hc20=>?_)
 ·replace hc20:=nbt hc20
  replace ht:=(bF hc20).symm.trans ht
  refine sg [1] hk ?_
  refine rD (.agg #[i6 0,i6 0,i6 0,i6 0,i6 0,i6 0,i6 0,.slice none 0 0,.slice none 0 0]) (fun _ h_=>rk (af rfl (h_.prt hk) (by kernel_rfl))) ?_
  refine eS 0 hk hS (fun w hS _=>?_)
  refine T ?_
  refine rE [4,5] hk fun a hk=>?_
  refine wp_ret ?_
  have hCb:=hS.blk (i:=0) rfl
  have hS:=hS.nilrow 230 4
  replace hS:=hS.nz 3
  have hS:=hS.nilrow 3 1
  replace hS:=hS.nz 4
  replace hS:=hS.pk [1,0] 2
  obtain rfl:=Option.some.inj ht
  exact gs hk hCb (hR_ _ _ ⟨(⟨none,0,none,0⟩:LP),rfl,hS⟩) Tryz.underlying66
 replace hc20:=nbf hc20
 replace ht:=(bT hc20).symm.trans ht
 refine wp_skip ?_
 refine wp_seq ?_
 cases ht
end
theorem mM (a b:Bool) (w:World):(binOp .eql 4 (.bool a) (.bool b)).run Tryz.prog w = .ok (.bool (decide (a = b))) w:=by cases a <;> cases b <;> kernel_rfl
end Go.Proofs.YtehpdklphhmbgaaGreatDoor
