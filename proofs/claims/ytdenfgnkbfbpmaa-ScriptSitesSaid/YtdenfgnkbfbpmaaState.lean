/-
  How a router stands, as a value, and as pieces of memory.
-/
import Derived.Test.YtdenfgnkbfbpmaaIface
import Derived.Test.YtdenfgnkbfbpmaaLsa
import Derived.Test.YtdenfgnkbfbpmaaSeal
namespace Go.Proofs.Ytdenfgnkbfbpmaa
open Go.RowKit
set_option linter.unusedVariables false
set_option linter.unusedSimpArgs false

def intE (n : Int) : Value := .int .i64 n
def keyE (k : KeyV) : Value := .agg k.cells.toArray
/-- a key on a neighbor's list -/
structure EnV where
  lan : Int
  id : Int
  k : KeyV
deriving DecidableEq
def EnV.cells (x : EnV) : List Value := [.int .i64 x.lan, .int .i64 x.id, .int .i64 x.k.kind, .int .i64 x.k.id, .int .i64 x.k.adv]
def enE (x : EnV) : Value := .agg x.cells.toArray
def lsaE (x : LV × LP) : Value := .agg (lsaA x.1 x.2)
def rawE (v : Value) : Value := v
def headC (h : HD) : List Value := [.int .i64 h.age, .int .i64 h.kind, .int .i64 h.id, .int .i64 h.adv, .int .i64 h.seq, .int .i64 h.sum, .int .i64 h.long]
theorem headC_len (h : HD) : (headC h).length = 7 := rfl
/-- timers -/
def wheelA (g : Nat) (l : List (TmV × Int)) : Atom := exA fun m => sepA [blkA g 199 #[.map (some m)], mapA tmE intE m l]
/-- lists of what wasn't acknowledged -/
def rxmtA (g : Nat) (l : List (EnV × Int)) : Atom := exA fun m => sepA [blkA g 202 #[.map (some m)], mapA enE intE m l]
/-- a neighbor -/
structure PeV where
  id : Int
  prio : Int
  dr : Int
  bdr : Int
  state : Int
  two : Bool
  at_ : Int
deriving DecidableEq
def PeV.cells (x : PeV) : List Value := [.int .i64 x.id, .int .i64 x.prio, .int .i64 x.dr, .int .i64 x.bdr, .int .i64 x.state, .bool x.two, .int .i64 x.at_]
/-- an address, if there is something -/
def ptE {α : Type} : Option (Nat × α) → Value
  | none => .pointer none
  | some (a, _) => .pointer (some ⟨a, 0, none⟩)
def peerA : Option (Nat × PeV) → Atom
  | none => pureA True (sepA [])
  | some (a, x) => blkA a 263 x.cells.toArray
/-- the neighbors of a network: sixteen places -/
structure PeS where
  self : Int
  lan : Int
  l : List (Option PeV)
def peersA (g : Nat) (p : PeS) : Atom := exA fun q : List (Option (Nat × PeV)) => pureA (q.map (fun x => x.map (·.2)) = p.l ∧ q.length = 16)
  (sepA (blkA g 209 (.int .i64 p.self :: .int .i64 p.lan :: q.map ptE).toArray :: q.map peerA))
/-- descriptions -/
structure DbS where
  room : Int
  l : List (KeyV × LV)
/-- a description whose rows are owned -/
def lrowA (x : LV × LP) : Atom := sepA [rowA (.slice x.2.A x.1.links.length x.2.c) 117 4 x.1.links.length (rowC Lk.cells x.1.links), rowA (.slice x.2.B x.1.mem.length x.2.d) 3 1 x.1.mem.length (ints x.1.mem)]
def dbA (g : Nat) (d : DbS) : Atom := exA fun m => exA fun q : List (KeyV × LV × LP) => pureA (q.map (fun x => (x.1, x.2.1)) = d.l)
  (sepA (blkA g 196 #[.int .i64 d.room, .map (some m)] :: mapA keyE lsaE m q :: q.map (fun x => lrowA x.2)))
/-- what is to be acknowledged, by networks -/
def acksA (g : Nat) (l : List (Int × List HD)) : Atom := exA fun m => exA fun q : List (Int × Value × List HD) => pureA (q.map (fun x => (x.1, x.2.2)) = l)
  (sepA (blkA g 205 #[.map (some m)] :: mapA intE (fun x : Value × List HD => x.1) m q :: q.map (fun x => rowA x.2.1 34 7 x.2.2.length (rowC headC x.2.2))))
section
variable {κ : Kap} {L I : List Atom} {w : World} {g : Nat}
theorem wheel_open {l : List (TmV × Int)} (h : S κ (wheelA g l :: L) I w) : ∃ m, S κ (blkA g 199 #[.map (some m)] :: mapA tmE intE m l :: L) I w := by
  obtain ⟨m, h⟩ := h.ex_open
  exact ⟨m, h.sep_open⟩
theorem wheel_close {m : Nat} {l : List (TmV × Int)} (h : S κ (blkA g 199 #[.map (some m)] :: mapA tmE intE m l :: L) I w) : S κ (wheelA g l :: L) I w :=
  S.ex_close (f := fun m => sepA [blkA g 199 #[.map (some m)], mapA tmE intE m l]) m (S.sep_close (l := [_, _]) h)
theorem rxmt_open {l : List (EnV × Int)} (h : S κ (rxmtA g l :: L) I w) : ∃ m, S κ (blkA g 202 #[.map (some m)] :: mapA enE intE m l :: L) I w := by
  obtain ⟨m, h⟩ := h.ex_open
  exact ⟨m, h.sep_open⟩
theorem rxmt_close {m : Nat} {l : List (EnV × Int)} (h : S κ (blkA g 202 #[.map (some m)] :: mapA enE intE m l :: L) I w) : S κ (rxmtA g l :: L) I w :=
  S.ex_close (f := fun m => sepA [blkA g 202 #[.map (some m)], mapA enE intE m l]) m (S.sep_close (l := [_, _]) h)
theorem S.mid1 {a : Atom} {l : List Atom} (h : S κ (sepA (a :: l) :: L) I w) : S κ (a :: sepA l :: L) I w := by
  have h4 := h.sep_open
  rw [List.cons_append] at h4
  exact (S.sep_close (l := l) (h4.perm (List.perm_middle (l₁ := l) (a := a) (l₂ := L)).symm)).perm (List.Perm.swap _ _ _)
theorem S.unmid1 {a : Atom} {l : List Atom} (h : S κ (a :: sepA l :: L) I w) : S κ (sepA (a :: l) :: L) I w := by
  refine S.sep_close (l := a :: l) ?_
  exact (h.perm (List.Perm.swap _ _ _)).sep_open.perm (List.perm_middle (l₁ := l) (a := a) (l₂ := L))
theorem S.mid2 {a b : Atom} {l : List Atom} (h : S κ (sepA (a :: b :: l) :: L) I w) : S κ (a :: b :: sepA l :: L) I w := by
  have h1 := h.mid1
  exact ((h1.perm (List.Perm.swap _ _ _)).mid1.perm (List.Perm.cons _ (List.Perm.swap _ _ _))).perm ((List.Perm.swap _ _ _).trans (List.Perm.refl _))
theorem S.unmid2 {a b : Atom} {l : List Atom} (h : S κ (a :: b :: sepA l :: L) I w) : S κ (sepA (a :: b :: l) :: L) I w := by
  have h1 : S κ (b :: sepA l :: a :: L) I w := h.perm ((List.Perm.swap _ _ _).trans (List.Perm.cons _ (List.Perm.swap _ _ _)))
  exact (h1.unmid1.perm (List.Perm.swap _ _ _)).unmid1
theorem peers_open {p : PeS} (h : S κ (peersA g p :: L) I w) : ∃ q : List (Option (Nat × PeV)), q.map (fun x => x.map (·.2)) = p.l ∧ q.length = 16 ∧ S κ (blkA g 209 (.int .i64 p.self :: .int .i64 p.lan :: q.map ptE).toArray :: sepA (q.map peerA) :: L) I w := by
  obtain ⟨q, h⟩ := h.ex_open
  obtain ⟨⟨h1, h2⟩, h3⟩ := h.pure_open
  exact ⟨q, h1, h2, h3.mid1⟩
theorem peers_close {p : PeS} {q : List (Option (Nat × PeV))} (h1 : q.map (fun x => x.map (·.2)) = p.l) (h2 : q.length = 16) (h : S κ (blkA g 209 (.int .i64 p.self :: .int .i64 p.lan :: q.map ptE).toArray :: sepA (q.map peerA) :: L) I w) : S κ (peersA g p :: L) I w := by
  refine S.ex_close (f := fun q : List (Option (Nat × PeV)) => pureA (q.map (fun x => x.map (·.2)) = p.l ∧ q.length = 16) (sepA (blkA g 209 (.int .i64 p.self :: .int .i64 p.lan :: q.map ptE).toArray :: q.map peerA))) q (S.pure_close ⟨h1, h2⟩ h.unmid1)
theorem db_open {d : DbS} (h : S κ (dbA g d :: L) I w) : ∃ m q, q.map (fun x : KeyV × LV × LP => (x.1, x.2.1)) = d.l ∧ S κ (blkA g 196 #[.int .i64 d.room, .map (some m)] :: mapA keyE lsaE m q :: sepA (q.map (fun x => lrowA x.2)) :: L) I w := by
  obtain ⟨m, h⟩ := h.ex_open
  obtain ⟨q, h⟩ := h.ex_open
  obtain ⟨h1, h2⟩ := h.pure_open
  exact ⟨m, q, h1, h2.mid2⟩
theorem db_close {d : DbS} {m : Nat} {q : List (KeyV × LV × LP)} (h1 : q.map (fun x : KeyV × LV × LP => (x.1, x.2.1)) = d.l) (h : S κ (blkA g 196 #[.int .i64 d.room, .map (some m)] :: mapA keyE lsaE m q :: sepA (q.map (fun x => lrowA x.2)) :: L) I w) : S κ (dbA g d :: L) I w := by
  unfold dbA
  refine S.ex_close m ?_
  refine S.ex_close q ?_
  exact S.pure_close h1 h.unmid2
theorem acks_open {l : List (Int × List HD)} (h : S κ (acksA g l :: L) I w) : ∃ m q, q.map (fun x : Int × Value × List HD => (x.1, x.2.2)) = l ∧ S κ (blkA g 205 #[.map (some m)] :: mapA intE (fun x : Value × List HD => x.1) m q :: sepA (q.map (fun x => rowA x.2.1 34 7 x.2.2.length (rowC headC x.2.2))) :: L) I w := by
  obtain ⟨m, h⟩ := h.ex_open
  obtain ⟨q, h⟩ := h.ex_open
  obtain ⟨h1, h2⟩ := h.pure_open
  exact ⟨m, q, h1, h2.mid2⟩
theorem acks_close {l : List (Int × List HD)} {m : Nat} {q : List (Int × Value × List HD)} (h1 : q.map (fun x : Int × Value × List HD => (x.1, x.2.2)) = l) (h : S κ (blkA g 205 #[.map (some m)] :: mapA intE (fun x : Value × List HD => x.1) m q :: sepA (q.map (fun x => rowA x.2.1 34 7 x.2.2.length (rowC headC x.2.2))) :: L) I w) : S κ (acksA g l :: L) I w := by
  refine S.ex_close (f := fun m => exA fun q : List (Int × Value × List HD) => pureA (q.map (fun x => (x.1, x.2.2)) = l) (sepA (blkA g 205 #[.map (some m)] :: mapA intE (fun x : Value × List HD => x.1) m q :: q.map (fun x => rowA x.2.1 34 7 x.2.2.length (rowC headC x.2.2))))) m
    (S.ex_close (f := fun q : List (Int × Value × List HD) => pureA (q.map (fun x => (x.1, x.2.2)) = l) (sepA (blkA g 205 #[.map (some m)] :: mapA intE (fun x : Value × List HD => x.1) m q :: q.map (fun x => rowA x.2.1 34 7 x.2.2.length (rowC headC x.2.2))))) q
      (S.pure_close h1 h.unmid2))
/-- a list of pieces that is told as one, at a place -/
theorem S.sep_at {l : List Atom} {i : Nat} {a : Atom} (h : S κ (sepA l :: L) I w) (hi : l[i]? = some a) : S κ (a :: sepA (l.eraseIdx i) :: L) I w := by
  have h1 := h.sep_open.perm ((perm_front hi).append_right L)
  rw [List.cons_append] at h1
  exact (S.sep_close (l := l.eraseIdx i) (h1.perm (List.perm_middle (l₁ := l.eraseIdx i) (a := a) (l₂ := L)).symm)).perm (List.Perm.swap _ _ _)
theorem S.sep_put {l : List Atom} {i : Nat} {a c : Atom} (h : S κ (c :: sepA (l.eraseIdx i) :: L) I w) (hi : l[i]? = some a) : S κ (sepA (l.set i c) :: L) I w := by
  have h1 := (h.perm (List.Perm.swap _ _ _)).sep_open
  have h2 := h1.perm (List.perm_middle (l₁ := l.eraseIdx i) (a := c) (l₂ := L))
  rw [← List.cons_append] at h2
  exact S.sep_close (l := l.set i c) (h2.perm ((perm_set hi).append_right L))
end
end Go.Proofs.Ytdenfgnkbfbpmaa
