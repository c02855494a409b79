/-
  A router's own description from tick to tick: how it lies in memory, what a tick does of it, and how it gets older.
-/
import Derived.Test.YtmklebkldailnaaWraps2
import Derived.Test.YtmklebkldailnaaLink
import Derived.Test.YtmklebkldailnaaNewer
namespace Go.Proofs.Ytmklebkldailnaa
open Go.RowKit
set_option linter.unusedSimpArgs false
set_option linter.unusedVariables false

structure LS where
  m : MV
  now : Int
  told : List HD
def HD.cells (h : HD) : List Value := [.int .i64 h.age, .int .i64 h.kind, .int .i64 h.id, .int .i64 h.adv, .int .i64 h.seq, .int .i64 h.sum, .int .i64 h.long]
theorem HD.cells_len (x : HD) : x.cells.length = 7 := rfl
theorem HD.cells_one (x : HD) : ∀ u ∈ x.cells, u.oneCell' = true := by
  intro u hu
  simp [HD.cells] at hu
  rcases hu with rfl | rfl | rfl | rfl | rfl | rfl | rfl <;> rfl
abbrev lifeA (s : LS) (p q : LP) (A : Option Addr) (c : Nat) : Array Value :=
  #[.int .i64 s.m.want.hd.age, .int .i64 s.m.want.hd.kind, .int .i64 s.m.want.hd.id, .int .i64 s.m.want.hd.adv, .int .i64 s.m.want.hd.seq, .int .i64 s.m.want.hd.sum, .int .i64 s.m.want.hd.long, .slice p.A s.m.want.links.length p.c, .slice p.B s.m.want.mem.length p.d,
    .bool s.m.wanted,
    .int .i64 s.m.held.hd.age, .int .i64 s.m.held.hd.kind, .int .i64 s.m.held.hd.id, .int .i64 s.m.held.hd.adv, .int .i64 s.m.held.hd.seq, .int .i64 s.m.held.hd.sum, .int .i64 s.m.held.hd.long, .slice q.A s.m.held.links.length q.c, .slice q.B s.m.held.mem.length q.d,
    .bool s.m.is_, .int .i64 s.m.last, .int .i64 s.m.at_, .bool s.m.ever, .int .i64 s.now, .slice A s.told.length c]
/-- all but blocks of lives and heads stay -/
def KeepT (w w' : World) : Prop := ∀ k t cs, t ≠ 60 → t ≠ 23 → Blk w k t cs → Blk w' k t cs
theorem KeepT.refl (w : World) : KeepT w w := fun _ _ _ _ _ h => h
theorem KeepT.trans {a b c : World} (h : KeepT a b) (k : KeepT b c) : KeepT a c := fun x t cs h1 h2 hb => k x t cs h1 h2 (h x t cs h1 h2 hb)
theorem KeepT.of_below {w w' : World} (h : Below w.heap.size w w') : KeepT w w' := fun k t cs _ _ hb => hb.below h hb.lt
theorem KeepT.of_keeps {F : Nat → Prop} {w w' : World} (h : Keeps F w w') (hF : ∀ k t cs, F k → Blk w k t cs → t = 60 ∨ t = 23) : KeepT w w' := fun k t cs h1 h2 hb =>
  h.blk hb (fun hf => (hF k t cs hf hb).elim h1 h2)
theorem KeepT.own {w w' : World} (h : KeepT w w') {base : Nat} {e : TypeId} {size n : Nat} {v : Value} {xs : List Value} (ho : w.ownsRow base e size v n xs) (h1 : e ≠ 60) (h2 : e ≠ 23) : w'.ownsRow base e size v n xs := by
  refine ⟨ho.1, ?_⟩
  rcases ho.2 with h0 | ⟨g, cap, cur, rfl, hb, hh, r⟩
  · exact .inl h0
  · exact .inr ⟨g, cap, cur, rfl, hb, h g e cur h1 h2 hh, r⟩
theorem LOwn.keepT {w w' : World} {B : Nat} {l : LV} {p : LP} (h : LOwn w B l p) (hk : KeepT w w') : LOwn w' B l p := ⟨hk.own h.links (by decide) (by decide), hk.own h.mem (by decide) (by decide)⟩
/-- what a walk of ours does to memory -/
structure Went (B : Nat) (w w' : World) : Prop where
  below : Below B w w'
  keep : KeepT w w'
theorem Went.refl (B : Nat) (w : World) : Went B w w := ⟨Below.refl _ _, KeepT.refl _⟩
theorem Went.trans {B : Nat} {a b c : World} (h : Went B a b) (k : Went B b c) : Went B a c := ⟨h.below.trans k.below, h.keep.trans k.keep⟩
theorem Went.of_below {B : Nat} {w w' : World} (h : Below w.heap.size w w') (hB : B ≤ w.heap.size) : Went B w w' := ⟨h.mono hB, KeepT.of_below h⟩
/-- a life in memory -/
structure Life (B : Nat) (w : World) (g : Nat) (s : LS) (p q : LP) (A : Option Addr) (c : Nat) : Prop where
  blk : Blk w g 60 (lifeA s p q A c)
  base : B ≤ g
  want : LOwn w B s.m.want p
  held : LOwn w B s.m.held q
  told : w.ownsRow B 23 7 (.slice A s.told.length c) s.told.length (rowC HD.cells s.told)
theorem Life.below {B : Nat} {w w' : World} {g : Nat} {s : LS} {p q : LP} {A : Option Addr} {c : Nat} (h : Life B w g s p q A c) (hb : Below w.heap.size w w') : Life B w' g s p q A c :=
  ⟨h.blk.below hb h.blk.lt, h.base, h.want.below hb, h.held.below hb, own_below h.told hb⟩
theorem went_blk {B g : Nat} {w w' : World} {cs : Array Value} (hb : Blk w g 60 cs) (hg : B ≤ g) (hB : B ≤ w.heap.size) (hk : Keeps (fun x => x = g) w w') : Went B w w' :=
  ⟨hk.toBelow hB (fun x hx => by cases hx; exact hg), KeepT.of_keeps hk (fun k t cs' hf hb' => by
    cases hf
    have := hb.symm.trans hb'
    injection this with this
    injection this with _ ht
    exact .inl ht.symm)⟩
theorem Life.put {B : Nat} {w w' : World} {g : Nat} {s s' : LS} {p q p' q' : LP} {A : Option Addr} {c : Nat} (h : Life B w g s p q A c) (hB : B ≤ w.heap.size) (hk : Keeps (fun x => x = g) w w') (hb : Blk w' g 60 (lifeA s' p' q' A c))
    (hw : LOwn w B s'.m.want p') (hh : LOwn w B s'.m.held q') (ht : s'.told = s.told) : Life B w' g s' p' q' A c ∧ Went B w w' := by
  have hW := went_blk h.blk h.base hB hk
  refine ⟨⟨hb, h.base, hw.keepT hW.keep, hh.keepT hW.keep, ?_⟩, hW⟩
  rw [ht]
  exact hk.own h.told (fun x hx e => own_blk_ne h.told h.blk (by decide) (e ▸ hx))
/-- what there is gets older -/
def dropF (m : MV) (drops : Bool) : MV := if m.is_ = true ∧ m.held.hd.age = 60 ∧ drops = true then { m with is_ := false, held := default } else m
def olderF (m : MV) : MV := if m.is_ = true ∧ m.held.hd.age < 60 then { m with held := { m.held with hd := { m.held.hd with age := m.held.hd.age + 1 } } } else m
def ageF (m : MV) (drops : Bool) : MV := olderF (dropF m drops)
def wantedF (m : MV) (b : Int) : MV := { m with want := wantF b, wanted := b % 7 != 0 }
/-- what is done -/
def doneF (s : LS) (r : LV × Int) : LS :=
  if r.2 = 1 then ⟨{ s.m with is_ := true, held := r.1, ever := true, last := r.1.hd.seq, at_ := s.now }, s.now, s.told ++ [r.1.hd]⟩
  else if r.2 = 2 then ⟨{ s.m with held := r.1 }, s.now, s.told⟩ else s
def tickF (s : LS) (b : Int) (drops : Bool) : LS :=
  doneF ⟨wantedF (ageF s.m drops) b, s.now + 1, s.told⟩ (planF (wantedF (ageF s.m drops) b) (s.now + 1))
end Go.Proofs.Ytmklebkldailnaa
