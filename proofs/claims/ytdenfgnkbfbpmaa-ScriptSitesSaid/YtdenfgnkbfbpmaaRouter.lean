/-
  A router as pieces of memory.
-/
import Derived.Test.YtdenfgnkbfbpmaaNews
namespace Go.Proofs.Ytdenfgnkbfbpmaa
open Go.RowKit
set_option linter.unusedVariables false
set_option linter.unusedSimpArgs false

/-- a network that a router is on -/
structure PoS where
  lan : Int
  prio : Int
  cost : Int
  i : IfV
  p : PeS
/-- a frame -/
structure FrV where
  lan : Int
  frm : Int
  dst : Int
  bs : List Int
structure SlP where
  A : Option Addr
  c : Nat
def frC (x : FrV × SlP) : List Value := [.int .i64 x.1.lan, .int .i64 x.1.frm, .int .i64 x.1.dst, .slice x.2.A x.1.bs.length x.2.c]
theorem frC_len (x : FrV × SlP) : (frC x).length = 4 := rfl
/-- what a router wants sent: a slice of its own, each with bytes of its own -/
def outA (v : SlP) (l : List FrV) : Atom := exA fun q : List (FrV × SlP) => pureA (q.map (·.1) = l)
  (sepA (rowA (.slice v.A l.length v.c) 45 4 l.length (rowC frC q) :: q.map (fun x => rowA (.slice x.2.A x.1.bs.length x.2.c) 5 1 x.1.bs.length (u8s x.1.bs))))
/-- a piece of an exchange -/
structure DdV where
  init : Bool
  more : Bool
  master : Bool
  seq : Int
  heads : List HD
/-- one side of an exchange -/
structure ExS where
  self : Int
  other : Int
  seq : Int
  agreed : Bool
  leads : Bool
  done : Bool
  last : Bool × Bool × Bool × Int
  said : DdV
  s : Option (List HD × Int)
/-- what two are about -/
structure TaS where
  x : ExS
  w : List (KeyV × HD)
  asked : List KeyV
def headE (h : HD) : Value := .agg (headC h).toArray
def rowP (T size : Nat) {α : Type} (cells : α → List Value) (v : SlP) (l : List α) : Atom := rowA (.slice v.A l.length v.c) T size l.length (rowC cells l)
def summA : Option Nat → Option (List HD × Int) → Atom
  | some g, some (l, k) => exA fun v : SlP => sepA [blkA g 278 #[.slice v.A l.length v.c, .int .i64 k], rowP 34 7 headC v l]
  | none, none => sepA []
  | _, _ => pureA False (sepA [])
def ptO : Option Nat → Value
  | none => .pointer none
  | some a => .pointer (some ⟨a, 0, none⟩)
def exchA (g : Nat) (x : ExS) : Atom := exA fun v : SlP => exA fun sp : Option Nat => sepA [blkA g 273 #[.int .i64 x.self, .int .i64 x.other, .int .i64 x.seq, .bool x.agreed, .bool x.leads, .bool x.done, .bool x.last.1, .bool x.last.2.1, .bool x.last.2.2.1, .int .i64 x.last.2.2.2,
  .bool x.said.init, .bool x.said.more, .bool x.said.master, .int .i64 x.said.seq, .slice v.A x.said.heads.length v.c, ptO sp], rowP 34 7 headC v x.said.heads, summA sp x.s]
def wantsA (g : Nat) (l : List (KeyV × HD)) : Atom := exA fun m => sepA [blkA g 276 #[.map (some m)], mapA keyE headE m l]
def talkA (a : Nat) (t : TaS) : Atom := exA fun xg => exA fun wg => exA fun v : SlP => sepA [blkA a 268 #[.pointer (some ⟨xg, 0, none⟩), .pointer (some ⟨wg, 0, none⟩), .slice v.A t.asked.length v.c], exchA xg t.x, wantsA wg t.w, rowP 66 3 KeyV.cells v t.asked]
def whoE (x : Int × Int) : Value := .agg #[.int .i64 x.1, .int .i64 x.2]
def addrE (a : Nat) : Value := .pointer (some ⟨a, 0, none⟩)
/-- who is talked to -/
def talksA (m : Nat) (l : List ((Int × Int) × TaS)) : Atom := exA fun q : List ((Int × Int) × Nat × TaS) => pureA (q.map (fun x => (x.1, x.2.2)) = l) (sepA (mapA whoE (fun x : Nat × TaS => addrE x.1) m q :: q.map (fun x => talkA x.2.1 x.2.2)))
def toldE (x : Int × Int) : Value := .agg #[.int .i64 x.1, .int .i64 x.2]
/-- a network, in memory -/
def portA (a : Nat) (x : PoS) : Atom := exA fun pg => sepA [blkA a 174 #[.int .i64 x.lan, .int .i64 x.prio, .int .i64 x.cost, .int .i64 x.i.self, .int .i64 x.i.prio, .int .i64 x.i.state, .int .i64 x.i.dr, .int .i64 x.i.bdr, .pointer (some ⟨pg, 0, none⟩)], peersA pg x.p]
def portO : Option (Nat × PoS) → Atom
  | none => sepA []
  | some (a, x) => portA a x
/-- how a router stands -/
structure RoS where
  id : Int
  now : Int
  number : Int
  ports : List (Option PoS)
  talks : List ((Int × Int) × TaS)
  mine : List (KeyV × Int × Int)
  db : DbS
  w : List (TmV × Int)
  lists : List (EnV × Int)
  later : List (Int × List HD)
  out : List FrV
/-- where its parts lie -/
structure RoP where
  g : Nat
  pts : List (Option Nat)
  tm : Nat
  mm : Nat
  dg : Nat
  wg : Nat
  lg : Nat
  ag : Nat
def roCells (p : RoP) (s : RoS) (v : SlP) : Array Value := (Value.int .i64 s.id :: .int .i64 s.now :: .int .i64 s.number :: p.pts.map ptO ++ [Value.map (some p.tm), .map (some p.mm), .pointer (some ⟨p.dg, 0, none⟩), .pointer (some ⟨p.wg, 0, none⟩), .pointer (some ⟨p.lg, 0, none⟩), .pointer (some ⟨p.ag, 0, none⟩), .slice v.A s.out.length v.c]).toArray
def zipO : List (Option Nat) → List (Option PoS) → List (Option (Nat × PoS))
  | some a :: l, some x :: m => some (a, x) :: zipO l m
  | _ :: l, _ :: m => none :: zipO l m
  | _, _ => []
/-- there is a place just for what there is -/
def Fits (p : RoP) (s : RoS) : Prop := p.pts.length = 4 ∧ s.ports.length = 4 ∧ p.pts.map Option.isSome = s.ports.map Option.isSome
def portsA (p : RoP) (s : RoS) : Atom := sepA ((zipO p.pts s.ports).map portO)
def roA (p : RoP) (s : RoS) : Atom := exA fun v : SlP => pureA (Fits p s) (sepA [blkA p.g 168 (roCells p s v), portsA p s, talksA p.tm s.talks, mapA keyE toldE p.mm s.mine, dbA p.dg s.db, wheelA p.wg s.w, rxmtA p.lg s.lists, acksA p.ag s.later, outA v s.out])
section
variable {κ : Kap} {L I : List Atom} {w : World} {p : RoP} {s : RoS}
theorem ro_open (h : S κ (roA p s :: L) I w) : ∃ v, Fits p s ∧ S κ (blkA p.g 168 (roCells p s v) :: portsA p s :: talksA p.tm s.talks :: mapA keyE toldE p.mm s.mine :: dbA p.dg s.db :: wheelA p.wg s.w :: rxmtA p.lg s.lists :: acksA p.ag s.later :: outA v s.out :: L) I w := by
  obtain ⟨v, h⟩ := h.ex_open
  obtain ⟨h1, h2⟩ := h.pure_open
  exact ⟨v, h1, h2.sep_open⟩
theorem ro_close {v : SlP} (hf : Fits p s) (h : S κ (blkA p.g 168 (roCells p s v) :: portsA p s :: talksA p.tm s.talks :: mapA keyE toldE p.mm s.mine :: dbA p.dg s.db :: wheelA p.wg s.w :: rxmtA p.lg s.lists :: acksA p.ag s.later :: outA v s.out :: L) I w) : S κ (roA p s :: L) I w := by
  unfold roA
  refine S.ex_close v ?_
  refine S.pure_close hf ?_
  exact S.sep_close (l := [_, _, _, _, _, _, _, _, _]) h
theorem port_open {a : Nat} {x : PoS} (h : S κ (portA a x :: L) I w) : ∃ pg, S κ (blkA a 174 #[.int .i64 x.lan, .int .i64 x.prio, .int .i64 x.cost, .int .i64 x.i.self, .int .i64 x.i.prio, .int .i64 x.i.state, .int .i64 x.i.dr, .int .i64 x.i.bdr, .pointer (some ⟨pg, 0, none⟩)] :: peersA pg x.p :: L) I w := by
  obtain ⟨pg, h⟩ := h.ex_open
  exact ⟨pg, h.sep_open⟩
theorem port_close {a pg : Nat} {x : PoS} (h : S κ (blkA a 174 #[.int .i64 x.lan, .int .i64 x.prio, .int .i64 x.cost, .int .i64 x.i.self, .int .i64 x.i.prio, .int .i64 x.i.state, .int .i64 x.i.dr, .int .i64 x.i.bdr, .pointer (some ⟨pg, 0, none⟩)] :: peersA pg x.p :: L) I w) : S κ (portA a x :: L) I w := by
  unfold portA
  refine S.ex_close pg ?_
  exact S.sep_close (l := [_, _]) h
theorem out_nil (h : S κ L I w) : S κ (outA ⟨none, 0⟩ [] :: L) I w := by
  unfold outA
  refine S.ex_close [] ?_
  refine S.pure_close rfl ?_
  refine S.sep_close (l := [_]) ?_
  exact h.nilrow _ _
theorem talks_nil {m : Nat} (h : S κ (mapA whoE (fun x : Nat × TaS => addrE x.1) m ([] : List ((Int × Int) × Nat × TaS)) :: L) I w) : S κ (talksA m [] :: L) I w := by
  unfold talksA
  refine S.ex_close [] ?_
  refine S.pure_close rfl ?_
  exact S.sep_close (l := [_]) h
/-- the piece of one network -/
theorem zipO_at {l : List (Option Nat)} {m : List (Option PoS)} {k a : Nat} {x : PoS} (h1 : l[k]? = some (some a)) (h2 : m[k]? = some (some x)) : (zipO l m)[k]? = some (some (a, x)) := by
  induction l generalizing m k with
  | nil => simp at h1
  | cons b l ih =>
    cases m with
    | nil => simp at h2
    | cons y m =>
      cases k with
      | zero =>
        simp only [List.getElem?_cons_zero, Option.some.injEq] at h1 h2
        subst h1; subst h2; rfl
      | succ k =>
        have := ih (m := m) (k := k) (by simpa using h1) (by simpa using h2)
        cases b <;> cases y <;> simpa [zipO] using this
theorem zipO_set {l : List (Option Nat)} {m : List (Option PoS)} {k a : Nat} {x y : PoS} (h1 : l[k]? = some (some a)) (h2 : m[k]? = some (some x)) : (zipO l m).set k (some (a, y)) = zipO l (m.set k (some y)) := by
  induction l generalizing m k with
  | nil => simp at h1
  | cons b l ih =>
    cases m with
    | nil => simp at h2
    | cons z m =>
      cases k with
      | zero =>
        simp only [List.getElem?_cons_zero, Option.some.injEq] at h1 h2
        subst h1; subst h2; rfl
      | succ k =>
        have := ih (m := m) (k := k) (by simpa using h1) (by simpa using h2)
        cases b <;> cases z <;> simpa [zipO] using this
theorem ports_at {k a : Nat} {x : PoS} (h1 : p.pts[k]? = some (some a)) (h2 : s.ports[k]? = some (some x)) (h : S κ (portsA p s :: L) I w) : S κ (portA a x :: sepA (((zipO p.pts s.ports).map portO).eraseIdx k) :: L) I w :=
  S.sep_at h (by rw [List.getElem?_map, zipO_at h1 h2]; rfl)
theorem ports_put {k a : Nat} {x y : PoS} (h1 : p.pts[k]? = some (some a)) (h2 : s.ports[k]? = some (some x)) (h : S κ (portA a y :: sepA (((zipO p.pts s.ports).map portO).eraseIdx k) :: L) I w) : S κ (portsA p { s with ports := s.ports.set k (some y) } :: L) I w := by
  have h3 := S.sep_put (c := portA a y) h (show ((zipO p.pts s.ports).map portO)[k]? = some (portA a x) by rw [List.getElem?_map, zipO_at h1 h2]; rfl)
  have e : ((zipO p.pts s.ports).map portO).set k (portA a y) = (zipO p.pts (s.ports.set k (some y))).map portO := by
    rw [← zipO_set h1 h2, List.map_set]; rfl
  rw [e] at h3
  exact h3
end
end Go.Proofs.Ytdenfgnkbfbpmaa
