/-
  A tick, what is told, over frames told slot by slot.
-/
import Derived.Test.YtmklebkldailnaaTickL
import Derived.Test.YtmklebkldailnaaRun
namespace Go.Proofs.Ytmklebkldailnaa
open Go.RowKit
set_option linter.unusedSimpArgs false
set_option linter.unusedVariables false

def seqAt (n : Nat) : Code → Option Code
  | .seq a b => if startsAt n a then some (.seq a b) else match seqAt n b with | some c => some c | none => seqAt n a
  | .cond _ a b => match seqAt n a with | some c => some c | none => seqAt n b
  | .block _ a => seqAt n a
  | .loop a => seqAt n a
  | _ => none
noncomputable def seqOf (f : Func) (n : Nat) : Code := (f.body.bind (seqAt n)).getD .skip
def regAt (n : Nat) : Code → Option Code
  | .region k a b => if k = n then some (.region k a b) else none
  | .seq a b => match regAt n a with | some c => some c | none => regAt n b
  | .cond _ a b => match regAt n a with | some c => some c | none => regAt n b
  | .block _ a => regAt n a
  | .loop a => regAt n a
  | _ => none
noncomputable def regOf (f : Func) (n : Nat) : Code := (f.body.bind (regAt n)).getD .skip
/-- what stands beside a life while it is written -/
structure Oth (B g7 : Nat) (s : LS) (l : LV) (p q pl : LP) (w0 w : World) : Prop where
  blk : Blk w g7 27 (lsaA l pl)
  own : LOwn w B l pl
  want : LOwn w B s.m.want p
  held : LOwn w B s.m.held q
  went : Went B w0 w
theorem blk_ne {w : World} {g k : Nat} {t u : TypeId} {cs ds : Array Value} (h : Blk w g t cs) (h' : Blk w k u ds) (hne : t ≠ u) : g ≠ k := fun e => by
  subst e
  have := h.symm.trans h'
  injection this with this
  injection this with _ ht
  exact hne ht
theorem Oth.below {B g7 : Nat} {s : LS} {l : LV} {p q pl : LP} {w0 w w' : World} (h : Oth B g7 s l p q pl w0 w) (hB : B ≤ w0.heap.size) (hb : Below w.heap.size w w') : Oth B g7 s l p q pl w0 w' :=
  ⟨h.blk.below hb h.blk.lt, h.own.below hb, h.want.below hb, h.held.below hb, h.went.trans (Went.of_below hb (Nat.le_trans hB h.went.below.size))⟩
theorem Oth.row {B g7 g : Nat} {s : LS} {l : LV} {p q pl : LP} {w0 w : World} {cs : Array Value} (h : Oth B g7 s l p q pl w0 w) (hB : B ≤ w0.heap.size) (hg : B ≤ g) (hb : Blk w g 60 cs) (cs' : Array Value) : Oth B g7 s l p q pl w0 (w.setRow g cs') := by
  have hK := (Keeps.refl (fun x => x = g) w).row (.inl rfl) cs'
  have hW := went_blk hb hg (Nat.le_trans hB h.went.below.size) hK
  exact ⟨hK.blk h.blk (blk_ne h.blk hb (by decide)), h.own.keepT hW.keep, h.want.keepT hW.keep, h.held.keepT hW.keep, h.went.trans hW⟩
theorem own_row {B g e size n : Nat} {v : Value} {xs : List Value} {w : World} {cs : Array Value} (h : w.ownsRow B e size v n xs) (hb : Blk w g 60 cs) (hne : e ≠ 60) (cs' : Array Value) : (w.setRow g cs').ownsRow B e size v n xs :=
  ((Keeps.refl (fun x => x = g) w).row (.inl rfl) cs').own h (fun x hx e => own_blk_ne h hb hne (e ▸ hx))
theorem keeps_grown {size n B : Nat} {v : Value} {xs : List Value} {w w' : World} (hg : w.grownBy w' v.ownBlock) : Keeps (fun x => v.ownBlock = some x) w w' := (Keeps.refl (fun x => v.ownBlock = some x) w).grown hg (fun g hx => .inl hx)
theorem went_grown {B size n : Nat} {v : Value} {xs : List Value} {w w' : World} (hB : B ≤ w.heap.size) (h : w.ownsRow B 23 size v n xs) (hg : w.grownBy w' v.ownBlock) : Went B w w' := by
  have hK := (Keeps.refl (fun x => v.ownBlock = some x) w).grown hg (fun g hx => .inl hx)
  refine ⟨hK.toBelow hB (fun x hx => (own_base h hx).1), KeepT.of_keeps hK (fun k t cs hx hk => .inr ?_)⟩
  rcases Nat.decEq t 23 with hne | he
  · exact absurd hx (own_blk_ne h hk (fun e => hne e.symm))
  · exact he
theorem Oth.grown {B g7 size n : Nat} {s : LS} {l : LV} {p q pl : LP} {v : Value} {xs : List Value} {w0 w w' : World} (h : Oth B g7 s l p q pl w0 w) (hB : B ≤ w0.heap.size) (ho : w.ownsRow B 23 size v n xs) (hg : w.grownBy w' v.ownBlock) : Oth B g7 s l p q pl w0 w' := by
  have hW := went_grown (Nat.le_trans hB h.went.below.size) ho hg
  exact ⟨hW.keep _ _ _ (by decide) (by decide) h.blk, h.own.keepT hW.keep, h.want.keepT hW.keep, h.held.keepT hW.keep, h.went.trans hW⟩
set_option maxRecDepth 100000 in
set_option maxHeartbeats 8000000 in
theorem tick18_any (B g g7 : Nat) (s F : LS) (p q : LP) (At : Option Addr) (ct : Nat) (l : LV) (pl : LP) (w wr : World) (a : Act) (hz : a.tmps.size = 248) (hd : a.defers = [])
    (s0 : a.tmps.getD 0 undef = .pointer (some ⟨g, 0, none⟩)) (s7 : a.tmps.getD 7 undef = .pointer (some ⟨g7, 0, none⟩)) (Q : Exit → Act → World → Prop) (hQ : ∀ a' w', a'.tmps.size = 248 → a'.defers = [] → (∃ p q A c, Life B w' g F p q A c ∧ Went B w w') → Q .normal a' w')
    (hB : B ≤ w.heap.size) (hL : Life B wr g s p q At ct) (hW : Went B w wr)
    (HK7 : Hid (Blk wr g7 27 (lsaA l pl))) (HO7 : Hid (LOwn wr B l pl)) (hF : Hid (F = ⟨{ s.m with is_ := true, held := l, ever := true, last := l.hd.seq, at_ := s.now }, s.now, s.told⟩))
    (cde : Code) (hcd : regOf Try.f20 18 = cde) : Code.wp Try.prog cde Q a wr := by
  subst hcd
  conv => arg 2; whnf
  obtain ⟨⟨⟨⟨age, kind, id, adv, seq, sum, long⟩, links, mem⟩, wanted, ⟨⟨age', kind', id', adv', seq', sum', long'⟩, links', mem'⟩, is, last, at_, ever⟩, now, told⟩ := s
  obtain ⟨A, c, B1, d⟩ := p
  obtain ⟨A', c', B', d'⟩ := q
  obtain ⟨⟨lage, lkind, lid, ladv, lseq, lsum, llong⟩, llinks, lmem⟩ := l
  obtain ⟨LA, lc, LB, ld⟩ := pl
  have HG := hide hL.base
  have HO : Hid (Oth B g7 ⟨⟨⟨⟨age, kind, id, adv, seq, sum, long⟩, links, mem⟩, wanted, ⟨⟨age', kind', id', adv', seq', sum', long'⟩, links', mem'⟩, is, last, at_, ever⟩, now, told⟩ ⟨⟨lage, lkind, lid, ladv, lseq, lsum, llong⟩, llinks, lmem⟩ ⟨A, c, B1, d⟩ ⟨A', c', B', d'⟩ ⟨LA, lc, LB, ld⟩ w wr) := hide ⟨HK7.out, HO7.out, hL.want, hL.held, hW⟩
  refine slots_flat [16, 20, 24, 28, 32] [0, 0, 0, 0, 0, 0, 0, 0, 0, 0, 0, 0, 0, 0, 0, 0, 0, 1, 1, 1, 1, 2, 2, 2, 2, 3, 3, 3, 3, 4, 4, 4, 4] [0, 1, 2, 3, 4, 1, 3, 3, 3, 4, 4, 4, 0, 1, 1, 0, 1, 2, 2, 1, 2, 3, 3, 2, 3, 4, 4, 3, 4, 5, 5, 4, 5] [fun v _ => v = .pointer (some ⟨g, 0, none⟩), fun v _ => v = .pointer (some ⟨g, 0, none⟩), fun v _ => v = .pointer (some ⟨g, 0, none⟩), fun v _ => v = .pointer (some ⟨g, 0, none⟩), fun v _ => v = .pointer (some ⟨g, 0, none⟩), fun v _ => v = .agg (List.toArray [.int .i64 lage, .int .i64 lkind, .int .i64 lid, .int .i64 ladv, .int .i64 lseq, .int .i64 lsum, .int .i64 llong, .slice LA llinks.length lc, .slice LB lmem.length ld]), fun v _ => v = .pointer (some ⟨g7, 0, none⟩), fun v _ => v = .pointer (some ⟨g7, 4, none⟩), fun v _ => v = .int .i64 lseq, fun v _ => v = .pointer (some ⟨g, 0, none⟩), fun v _ => v = .pointer (some ⟨g, 0, none⟩), fun v _ => v = .pointer (some ⟨g, 23, none⟩), fun v _ => v = .int .i64 now, fun v _ => v = .pointer (some ⟨g, 0, none⟩), fun v _ => v = .pointer (some ⟨g, 0, none⟩), fun v _ => v = .pointer (some ⟨g, 19, none⟩), fun v _ => v = undef, fun v _ => v = .pointer (some ⟨g, 0, none⟩), fun v _ => v = .pointer (some ⟨g, 0, none⟩), fun v _ => v = .pointer (some ⟨g, 10, none⟩), fun v _ => v = undef, fun v _ => v = .pointer (some ⟨g, 0, none⟩), fun v _ => v = .pointer (some ⟨g, 0, none⟩), fun v _ => v = .pointer (some ⟨g, 22, none⟩), fun v _ => v = undef, fun v _ => v = .pointer (some ⟨g, 0, none⟩), fun v _ => v = .pointer (some ⟨g, 0, none⟩), fun v _ => v = .pointer (some ⟨g, 20, none⟩), fun v _ => v = undef, fun v _ => v = .pointer (some ⟨g, 0, none⟩), fun v _ => v = .pointer (some ⟨g, 0, none⟩), fun v _ => v = .pointer (some ⟨g, 21, none⟩), fun v _ => v = undef] (fun k => match k with | 0 => fun w' => Hid (Blk w' g 60 (#[.int .i64 age, .int .i64 kind, .int .i64 id, .int .i64 adv, .int .i64 seq, .int .i64 sum, .int .i64 long, .slice A links.length c, .slice B1 mem.length d, .bool wanted, .int .i64 age', .int .i64 kind', .int .i64 id', .int .i64 adv', .int .i64 seq', .int .i64 sum', .int .i64 long', .slice A' links'.length c', .slice B' mem'.length d', .bool is, .int .i64 last, .int .i64 at_, .bool ever, .int .i64 now, .slice At told.length ct] : Array Value)) ∧ Hid (Oth B g7 ⟨⟨⟨⟨age, kind, id, adv, seq, sum, long⟩, links, mem⟩, wanted, ⟨⟨age', kind', id', adv', seq', sum', long'⟩, links', mem'⟩, is, last, at_, ever⟩, now, told⟩ ⟨⟨lage, lkind, lid, ladv, lseq, lsum, llong⟩, llinks, lmem⟩ ⟨A, c, B1, d⟩ ⟨A', c', B', d'⟩ ⟨LA, lc, LB, ld⟩ w w') ∧ Hid (w'.ownsRow B 23 7 (.slice At told.length ct) told.length (rowC HD.cells told)) | 1 => fun w' => Hid (Blk w' g 60 (#[.int .i64 age, .int .i64 kind, .int .i64 id, .int .i64 adv, .int .i64 seq, .int .i64 sum, .int .i64 long, .slice A links.length c, .slice B1 mem.length d, .bool wanted, .int .i64 age', .int .i64 kind', .int .i64 id', .int .i64 adv', .int .i64 seq', .int .i64 sum', .int .i64 long', .slice A' links'.length c', .slice B' mem'.length d', .bool true, .int .i64 last, .int .i64 at_, .bool ever, .int .i64 now, .slice At told.length ct] : Array Value)) ∧ Hid (Oth B g7 ⟨⟨⟨⟨age, kind, id, adv, seq, sum, long⟩, links, mem⟩, wanted, ⟨⟨age', kind', id', adv', seq', sum', long'⟩, links', mem'⟩, is, last, at_, ever⟩, now, told⟩ ⟨⟨lage, lkind, lid, ladv, lseq, lsum, llong⟩, llinks, lmem⟩ ⟨A, c, B1, d⟩ ⟨A', c', B', d'⟩ ⟨LA, lc, LB, ld⟩ w w') ∧ Hid (w'.ownsRow B 23 7 (.slice At told.length ct) told.length (rowC HD.cells told)) | 2 => fun w' => Hid (Blk w' g 60 (#[.int .i64 age, .int .i64 kind, .int .i64 id, .int .i64 adv, .int .i64 seq, .int .i64 sum, .int .i64 long, .slice A links.length c, .slice B1 mem.length d, .bool wanted, .int .i64 lage, .int .i64 lkind, .int .i64 lid, .int .i64 ladv, .int .i64 lseq, .int .i64 lsum, .int .i64 llong, .slice LA llinks.length lc, .slice LB lmem.length ld, .bool true, .int .i64 last, .int .i64 at_, .bool ever, .int .i64 now, .slice At told.length ct] : Array Value)) ∧ Hid (Oth B g7 ⟨⟨⟨⟨age, kind, id, adv, seq, sum, long⟩, links, mem⟩, wanted, ⟨⟨age', kind', id', adv', seq', sum', long'⟩, links', mem'⟩, is, last, at_, ever⟩, now, told⟩ ⟨⟨lage, lkind, lid, ladv, lseq, lsum, llong⟩, llinks, lmem⟩ ⟨A, c, B1, d⟩ ⟨A', c', B', d'⟩ ⟨LA, lc, LB, ld⟩ w w') ∧ Hid (w'.ownsRow B 23 7 (.slice At told.length ct) told.length (rowC HD.cells told)) | 3 => fun w' => Hid (Blk w' g 60 (#[.int .i64 age, .int .i64 kind, .int .i64 id, .int .i64 adv, .int .i64 seq, .int .i64 sum, .int .i64 long, .slice A links.length c, .slice B1 mem.length d, .bool wanted, .int .i64 lage, .int .i64 lkind, .int .i64 lid, .int .i64 ladv, .int .i64 lseq, .int .i64 lsum, .int .i64 llong, .slice LA llinks.length lc, .slice LB lmem.length ld, .bool true, .int .i64 last, .int .i64 at_, .bool true, .int .i64 now, .slice At told.length ct] : Array Value)) ∧ Hid (Oth B g7 ⟨⟨⟨⟨age, kind, id, adv, seq, sum, long⟩, links, mem⟩, wanted, ⟨⟨age', kind', id', adv', seq', sum', long'⟩, links', mem'⟩, is, last, at_, ever⟩, now, told⟩ ⟨⟨lage, lkind, lid, ladv, lseq, lsum, llong⟩, llinks, lmem⟩ ⟨A, c, B1, d⟩ ⟨A', c', B', d'⟩ ⟨LA, lc, LB, ld⟩ w w') ∧ Hid (w'.ownsRow B 23 7 (.slice At told.length ct) told.length (rowC HD.cells told)) | 4 => fun w' => Hid (Blk w' g 60 (#[.int .i64 age, .int .i64 kind, .int .i64 id, .int .i64 adv, .int .i64 seq, .int .i64 sum, .int .i64 long, .slice A links.length c, .slice B1 mem.length d, .bool wanted, .int .i64 lage, .int .i64 lkind, .int .i64 lid, .int .i64 ladv, .int .i64 lseq, .int .i64 lsum, .int .i64 llong, .slice LA llinks.length lc, .slice LB lmem.length ld, .bool true, .int .i64 lseq, .int .i64 at_, .bool true, .int .i64 now, .slice At told.length ct] : Array Value)) ∧ Hid (Oth B g7 ⟨⟨⟨⟨age, kind, id, adv, seq, sum, long⟩, links, mem⟩, wanted, ⟨⟨age', kind', id', adv', seq', sum', long'⟩, links', mem'⟩, is, last, at_, ever⟩, now, told⟩ ⟨⟨lage, lkind, lid, ladv, lseq, lsum, llong⟩, llinks, lmem⟩ ⟨A, c, B1, d⟩ ⟨A', c', B', d'⟩ ⟨LA, lc, LB, ld⟩ w w') ∧ Hid (w'.ownsRow B 23 7 (.slice At told.length ct) told.length (rowC HD.cells told)) | 5 => fun w' => Hid (Blk w' g 60 (#[.int .i64 age, .int .i64 kind, .int .i64 id, .int .i64 adv, .int .i64 seq, .int .i64 sum, .int .i64 long, .slice A links.length c, .slice B1 mem.length d, .bool wanted, .int .i64 lage, .int .i64 lkind, .int .i64 lid, .int .i64 ladv, .int .i64 lseq, .int .i64 lsum, .int .i64 llong, .slice LA llinks.length lc, .slice LB lmem.length ld, .bool true, .int .i64 lseq, .int .i64 now, .bool true, .int .i64 now, .slice At told.length ct] : Array Value)) ∧ Hid (Oth B g7 ⟨⟨⟨⟨age, kind, id, adv, seq, sum, long⟩, links, mem⟩, wanted, ⟨⟨age', kind', id', adv', seq', sum', long'⟩, links', mem'⟩, is, last, at_, ever⟩, now, told⟩ ⟨⟨lage, lkind, lid, ladv, lseq, lsum, llong⟩, llinks, lmem⟩ ⟨A, c, B1, d⟩ ⟨A', c', B', d'⟩ ⟨LA, lc, LB, ld⟩ w w') ∧ Hid (w'.ownsRow B 23 7 (.slice At told.length ct) told.length (rowC HD.cells told)) | _ => fun _ => False)
    (by kernel_rfl) (by kernel_rfl) (by kernel_rfl) hz (by kernel_rfl) rfl (by kernel_rfl)
    ⟨fun _ _ _ h => h, fun _ _ _ h => h, fun _ _ _ h => h, fun _ _ _ h => h, fun _ _ _ h => h, fun _ _ _ h => h, fun _ _ _ h => h, fun _ _ _ h => h, fun _ _ _ h => h, fun _ _ _ h => h, fun _ _ _ h => h, fun _ _ _ h => h, fun _ _ _ h => h, fun _ _ _ h => h, fun _ _ _ h => h, fun _ _ _ h => h, fun _ _ _ h => h, fun _ _ _ h => h, fun _ _ _ h => h, fun _ _ _ h => h, fun _ _ _ h => h, fun _ _ _ h => h, fun _ _ _ h => h, fun _ _ _ h => h, fun _ _ _ h => h, fun _ _ _ h => h, fun _ _ _ h => h, fun _ _ _ h => h, fun _ _ _ h => h, fun _ _ _ h => h, fun _ _ _ h => h, fun _ _ _ h => h, fun _ _ _ h => h, trivial⟩
    (fun k w1 w2 hb h => match k, h with | 0, h => ⟨hide (h.1.out.below hb h.1.out.lt), hide (h.2.1.out.below hB hb), hide (own_below h.2.2.out hb)⟩ | 1, h => ⟨hide (h.1.out.below hb h.1.out.lt), hide (h.2.1.out.below hB hb), hide (own_below h.2.2.out hb)⟩ | 2, h => ⟨hide (h.1.out.below hb h.1.out.lt), hide (h.2.1.out.below hB hb), hide (own_below h.2.2.out hb)⟩ | 3, h => ⟨hide (h.1.out.below hb h.1.out.lt), hide (h.2.1.out.below hB hb), hide (own_below h.2.2.out hb)⟩ | 4, h => ⟨hide (h.1.out.below hb h.1.out.lt), hide (h.2.1.out.below hB hb), hide (own_below h.2.2.out hb)⟩ | 5, h => ⟨hide (h.1.out.below hb h.1.out.lt), hide (h.2.1.out.below hB hb), hide (own_below h.2.2.out hb)⟩ | _ + 6, h => h) (⟨hide hL.blk, HO, hide hL.told⟩)
    ⟨fun k a w1 hlo hhi hE hat => step_ok (on_none rfl) (run_move rfl ((hat.base 0 (by kernel_rfl)).trans s0)) ⟨_, rfl, Below.refl _ _, rfl⟩,
     fun k a w1 hlo hhi hE hat => step_ok (on_none rfl) (run_move rfl ((hat.base 0 (by kernel_rfl)).trans s0)) ⟨_, rfl, Below.refl _ _, rfl⟩,
     fun k a w1 hlo hhi hE hat => step_ok (on_none rfl) (run_move rfl ((hat.base 0 (by kernel_rfl)).trans s0)) ⟨_, rfl, Below.refl _ _, rfl⟩,
     fun k a w1 hlo hhi hE hat => step_ok (on_none rfl) (run_move rfl ((hat.base 0 (by kernel_rfl)).trans s0)) ⟨_, rfl, Below.refl _ _, rfl⟩,
     fun k a w1 hlo hhi hE hat => step_ok (on_none rfl) (run_move rfl ((hat.base 0 (by kernel_rfl)).trans s0)) ⟨_, rfl, Below.refl _ _, rfl⟩,
     (fun k a w1 hlo hhi hE hat => match k, hlo, hhi, hE with
       | 0, _, _, hE => step_ok (on_none rfl) (run_loadS (n := 9) (out := [.int .i64 lage, .int .i64 lkind, .int .i64 lid, .int .i64 ladv, .int .i64 lseq, .int .i64 lsum, .int .i64 llong, .slice LA llinks.length lc, .slice LB lmem.length ld]) rfl ((hat.base 7 (by kernel_rfl)).trans s7) (by kernel_rfl) hE.2.1.out.blk rfl rfl) ⟨_, rfl, Below.refl _ _, rfl⟩
       | 1, _, _, hE => step_ok (on_none rfl) (run_loadS (n := 9) (out := [.int .i64 lage, .int .i64 lkind, .int .i64 lid, .int .i64 ladv, .int .i64 lseq, .int .i64 lsum, .int .i64 llong, .slice LA llinks.length lc, .slice LB lmem.length ld]) rfl ((hat.base 7 (by kernel_rfl)).trans s7) (by kernel_rfl) hE.2.1.out.blk rfl rfl) ⟨_, rfl, Below.refl _ _, rfl⟩
       | k + 2, _, h, _ => absurd h (by show ¬ (k + 2 ≤ 1); omega)),
     fun k a w1 hlo hhi hE hat => step_ok (on_none rfl) (run_fieldAddr (m := 0) rfl ((hat.base 7 (by kernel_rfl)).trans s7) (by kernel_rfl) rfl) ⟨_, rfl, Below.refl _ _, rfl⟩,
     fun k a w1 hlo hhi hE hat => step_ok (on_none rfl) (run_fieldAddr (m := 4) rfl (hat.dep 6 190 (by kernel_rfl) (by kernel_rfl)) (by kernel_rfl) rfl) ⟨_, rfl, Below.refl _ _, rfl⟩,
     (fun k a w1 hlo hhi hE hat => match k, hlo, hhi, hE with
       | 0, _, _, hE => step_ok (on_none rfl) (run_load rfl (hat.dep 7 191 (by kernel_rfl) (by kernel_rfl)) (by kernel_rfl) (show w1.cell? ⟨g7, 4, none⟩ = some (.int .i64 lseq) from Blk.cell hE.2.1.out.blk 4)) ⟨_, rfl, Below.refl _ _, rfl⟩
       | 1, _, _, hE => step_ok (on_none rfl) (run_load rfl (hat.dep 7 191 (by kernel_rfl) (by kernel_rfl)) (by kernel_rfl) (show w1.cell? ⟨g7, 4, none⟩ = some (.int .i64 lseq) from Blk.cell hE.2.1.out.blk 4)) ⟨_, rfl, Below.refl _ _, rfl⟩
       | 2, _, _, hE => step_ok (on_none rfl) (run_load rfl (hat.dep 7 191 (by kernel_rfl) (by kernel_rfl)) (by kernel_rfl) (show w1.cell? ⟨g7, 4, none⟩ = some (.int .i64 lseq) from Blk.cell hE.2.1.out.blk 4)) ⟨_, rfl, Below.refl _ _, rfl⟩
       | 3, _, _, hE => step_ok (on_none rfl) (run_load rfl (hat.dep 7 191 (by kernel_rfl) (by kernel_rfl)) (by kernel_rfl) (show w1.cell? ⟨g7, 4, none⟩ = some (.int .i64 lseq) from Blk.cell hE.2.1.out.blk 4)) ⟨_, rfl, Below.refl _ _, rfl⟩
       | k + 4, _, h, _ => absurd h (by show ¬ (k + 4 ≤ 3); omega)),
     fun k a w1 hlo hhi hE hat => step_ok (on_none rfl) (run_move rfl ((hat.base 0 (by kernel_rfl)).trans s0)) ⟨_, rfl, Below.refl _ _, rfl⟩,
     fun k a w1 hlo hhi hE hat => step_ok (on_none rfl) (run_nilCheck rfl (hat.dep 9 193 (by kernel_rfl) (by kernel_rfl))) ⟨_, rfl, Below.refl _ _, rfl⟩,
     fun k a w1 hlo hhi hE hat => step_ok (on_none rfl) (run_fieldAddr (m := 23) rfl (hat.dep 10 194 (by kernel_rfl) (by kernel_rfl)) (by kernel_rfl) rfl) ⟨_, rfl, Below.refl _ _, rfl⟩,
     (fun k a w1 hlo hhi hE hat => match k, hlo, hhi, hE with
       | 0, _, _, hE => step_ok (on_none rfl) (run_load rfl (hat.dep 11 195 (by kernel_rfl) (by kernel_rfl)) (by kernel_rfl) (show w1.cell? ⟨g, 23, none⟩ = some (.int .i64 now) from Blk.cell hE.1.out 23)) ⟨_, rfl, Below.refl _ _, rfl⟩
       | k + 1, _, h, _ => absurd h (by show ¬ (k + 1 ≤ 0); omega)),
     fun k a w1 hlo hhi hE hat => step_ok (on_none rfl) (run_nilCheck rfl (hat.dep 0 184 (by kernel_rfl) (by kernel_rfl))) ⟨_, rfl, Below.refl _ _, rfl⟩,
     fun k a w1 hlo hhi hE hat => step_ok (on_none rfl) (run_fieldAddr (m := 0) rfl (hat.dep 13 197 (by kernel_rfl) (by kernel_rfl)) (by kernel_rfl) rfl) ⟨_, rfl, Below.refl _ _, rfl⟩,
     fun k a w1 hlo hhi hE hat => step_ok (on_none rfl) (run_fieldAddr (m := 19) rfl (hat.dep 14 198 (by kernel_rfl) (by kernel_rfl)) (by kernel_rfl) rfl) ⟨_, rfl, Below.refl _ _, rfl⟩,
     fun a w1 hE hat => step_skip (on_none rfl) (run_store (n := 1) (cells := #[.bool true]) (cs' := #[.int .i64 age, .int .i64 kind, .int .i64 id, .int .i64 adv, .int .i64 seq, .int .i64 sum, .int .i64 long, .slice A links.length c, .slice B1 mem.length d, .bool wanted, .int .i64 age', .int .i64 kind', .int .i64 id', .int .i64 adv', .int .i64 seq', .int .i64 sum', .int .i64 long', .slice A' links'.length c', .slice B' mem'.length d', .bool true, .int .i64 last, .int .i64 at_, .bool ever, .int .i64 now, .slice At told.length ct]) rfl (hat.dep 15 199 (by kernel_rfl) (by kernel_rfl)) rfl rfl hE.1.out (by kernel_rfl) ⟨Nat.le_of_ble_eq_true rfl, rfl, by simp [Value.oneCell']⟩ rfl) ⟨_, rfl, rfl, hide (hE.1.out.setRow_ _), hide (hE.2.1.out.row hB HG.out hE.1.out _), hide (own_row hE.2.2.out hE.1.out (by decide) _)⟩,
     fun k a w1 hlo hhi hE hat => step_ok (on_none rfl) (run_nilCheck rfl (hat.dep 1 185 (by kernel_rfl) (by kernel_rfl))) ⟨_, rfl, Below.refl _ _, rfl⟩,
     fun k a w1 hlo hhi hE hat => step_ok (on_none rfl) (run_fieldAddr (m := 0) rfl (hat.dep 17 200 (by kernel_rfl) (by kernel_rfl)) (by kernel_rfl) rfl) ⟨_, rfl, Below.refl _ _, rfl⟩,
     fun k a w1 hlo hhi hE hat => step_ok (on_none rfl) (run_fieldAddr (m := 10) rfl (hat.dep 18 201 (by kernel_rfl) (by kernel_rfl)) (by kernel_rfl) rfl) ⟨_, rfl, Below.refl _ _, rfl⟩,
     fun a w1 hE hat => step_skip (on_none rfl) (run_store (n := 9) (cells := #[.int .i64 lage, .int .i64 lkind, .int .i64 lid, .int .i64 ladv, .int .i64 lseq, .int .i64 lsum, .int .i64 llong, .slice LA llinks.length lc, .slice LB lmem.length ld]) (cs' := #[.int .i64 age, .int .i64 kind, .int .i64 id, .int .i64 adv, .int .i64 seq, .int .i64 sum, .int .i64 long, .slice A links.length c, .slice B1 mem.length d, .bool wanted, .int .i64 lage, .int .i64 lkind, .int .i64 lid, .int .i64 ladv, .int .i64 lseq, .int .i64 lsum, .int .i64 llong, .slice LA llinks.length lc, .slice LB lmem.length ld, .bool true, .int .i64 last, .int .i64 at_, .bool ever, .int .i64 now, .slice At told.length ct]) rfl (hat.dep 19 202 (by kernel_rfl) (by kernel_rfl)) (hat.dep 5 189 (by kernel_rfl) (by kernel_rfl)) rfl hE.1.out (by kernel_rfl) ⟨Nat.le_of_ble_eq_true rfl, rfl, by simp [Value.oneCell']⟩ rfl) ⟨_, rfl, rfl, hide (hE.1.out.setRow_ _), hide (hE.2.1.out.row hB HG.out hE.1.out _), hide (own_row hE.2.2.out hE.1.out (by decide) _)⟩,
     fun k a w1 hlo hhi hE hat => step_ok (on_none rfl) (run_nilCheck rfl (hat.dep 2 186 (by kernel_rfl) (by kernel_rfl))) ⟨_, rfl, Below.refl _ _, rfl⟩,
     fun k a w1 hlo hhi hE hat => step_ok (on_none rfl) (run_fieldAddr (m := 0) rfl (hat.dep 21 203 (by kernel_rfl) (by kernel_rfl)) (by kernel_rfl) rfl) ⟨_, rfl, Below.refl _ _, rfl⟩,
     fun k a w1 hlo hhi hE hat => step_ok (on_none rfl) (run_fieldAddr (m := 22) rfl (hat.dep 22 204 (by kernel_rfl) (by kernel_rfl)) (by kernel_rfl) rfl) ⟨_, rfl, Below.refl _ _, rfl⟩,
     fun a w1 hE hat => step_skip (on_none rfl) (run_store (n := 1) (cells := #[.bool true]) (cs' := #[.int .i64 age, .int .i64 kind, .int .i64 id, .int .i64 adv, .int .i64 seq, .int .i64 sum, .int .i64 long, .slice A links.length c, .slice B1 mem.length d, .bool wanted, .int .i64 lage, .int .i64 lkind, .int .i64 lid, .int .i64 ladv, .int .i64 lseq, .int .i64 lsum, .int .i64 llong, .slice LA llinks.length lc, .slice LB lmem.length ld, .bool true, .int .i64 last, .int .i64 at_, .bool true, .int .i64 now, .slice At told.length ct]) rfl (hat.dep 23 205 (by kernel_rfl) (by kernel_rfl)) rfl rfl hE.1.out (by kernel_rfl) ⟨Nat.le_of_ble_eq_true rfl, rfl, by simp [Value.oneCell']⟩ rfl) ⟨_, rfl, rfl, hide (hE.1.out.setRow_ _), hide (hE.2.1.out.row hB HG.out hE.1.out _), hide (own_row hE.2.2.out hE.1.out (by decide) _)⟩,
     fun k a w1 hlo hhi hE hat => step_ok (on_none rfl) (run_nilCheck rfl (hat.dep 3 187 (by kernel_rfl) (by kernel_rfl))) ⟨_, rfl, Below.refl _ _, rfl⟩,
     fun k a w1 hlo hhi hE hat => step_ok (on_none rfl) (run_fieldAddr (m := 0) rfl (hat.dep 25 206 (by kernel_rfl) (by kernel_rfl)) (by kernel_rfl) rfl) ⟨_, rfl, Below.refl _ _, rfl⟩,
     fun k a w1 hlo hhi hE hat => step_ok (on_none rfl) (run_fieldAddr (m := 20) rfl (hat.dep 26 207 (by kernel_rfl) (by kernel_rfl)) (by kernel_rfl) rfl) ⟨_, rfl, Below.refl _ _, rfl⟩,
     fun a w1 hE hat => step_skip (on_none rfl) (run_store (n := 1) (cells := #[.int .i64 lseq]) (cs' := #[.int .i64 age, .int .i64 kind, .int .i64 id, .int .i64 adv, .int .i64 seq, .int .i64 sum, .int .i64 long, .slice A links.length c, .slice B1 mem.length d, .bool wanted, .int .i64 lage, .int .i64 lkind, .int .i64 lid, .int .i64 ladv, .int .i64 lseq, .int .i64 lsum, .int .i64 llong, .slice LA llinks.length lc, .slice LB lmem.length ld, .bool true, .int .i64 lseq, .int .i64 at_, .bool true, .int .i64 now, .slice At told.length ct]) rfl (hat.dep 27 208 (by kernel_rfl) (by kernel_rfl)) (hat.dep 8 192 (by kernel_rfl) (by kernel_rfl)) rfl hE.1.out (by kernel_rfl) ⟨Nat.le_of_ble_eq_true rfl, rfl, by simp [Value.oneCell']⟩ rfl) ⟨_, rfl, rfl, hide (hE.1.out.setRow_ _), hide (hE.2.1.out.row hB HG.out hE.1.out _), hide (own_row hE.2.2.out hE.1.out (by decide) _)⟩,
     fun k a w1 hlo hhi hE hat => step_ok (on_none rfl) (run_nilCheck rfl (hat.dep 4 188 (by kernel_rfl) (by kernel_rfl))) ⟨_, rfl, Below.refl _ _, rfl⟩,
     fun k a w1 hlo hhi hE hat => step_ok (on_none rfl) (run_fieldAddr (m := 0) rfl (hat.dep 29 209 (by kernel_rfl) (by kernel_rfl)) (by kernel_rfl) rfl) ⟨_, rfl, Below.refl _ _, rfl⟩,
     fun k a w1 hlo hhi hE hat => step_ok (on_none rfl) (run_fieldAddr (m := 21) rfl (hat.dep 30 210 (by kernel_rfl) (by kernel_rfl)) (by kernel_rfl) rfl) ⟨_, rfl, Below.refl _ _, rfl⟩,
     fun a w1 hE hat => step_skip (on_none rfl) (run_store (n := 1) (cells := #[.int .i64 now]) (cs' := #[.int .i64 age, .int .i64 kind, .int .i64 id, .int .i64 adv, .int .i64 seq, .int .i64 sum, .int .i64 long, .slice A links.length c, .slice B1 mem.length d, .bool wanted, .int .i64 lage, .int .i64 lkind, .int .i64 lid, .int .i64 ladv, .int .i64 lseq, .int .i64 lsum, .int .i64 llong, .slice LA llinks.length lc, .slice LB lmem.length ld, .bool true, .int .i64 lseq, .int .i64 now, .bool true, .int .i64 now, .slice At told.length ct]) rfl (hat.dep 31 211 (by kernel_rfl) (by kernel_rfl)) (hat.dep 12 196 (by kernel_rfl) (by kernel_rfl)) rfl hE.1.out (by kernel_rfl) ⟨Nat.le_of_ble_eq_true rfl, rfl, by simp [Value.oneCell']⟩ rfl) ⟨_, rfl, rfl, hide (hE.1.out.setRow_ _), hide (hE.2.1.out.row hB HG.out hE.1.out _), hide (own_row hE.2.2.out hE.1.out (by decide) _)⟩, trivial⟩ ?_
  rintro vs a2 w2 ⟨e0, e1, e2, e3, e4, e5, e6, e7, e8, e9, e10, e11, e12, e13, e14, e15, e16, e17, e18, e19, e20, e21, e22, e23, e24, e25, e26, e27, e28, e29, e30, e31, e32, -⟩ hE hput
  replace s0 : a2.tmps.getD 0 undef = .pointer (some ⟨g, 0, none⟩) := (hput.old 0 (by kernel_rfl)).trans s0
  replace hz := hput.size.trans hz
  replace hd := hput.defers.trans hd
  clear hput e0 e1 e2 e3 e4 e5 e6 e7 e8 e9 e10 e11 e12 e13 e14 e15 e16 e17 e18 e19 e20 e21 e22 e23 e24 e25 e26 e27 e28 e29 e30 e31 e32 s7
  refine hQ a2 w2 hz hd ⟨⟨A, c, B1, d⟩, ⟨LA, lc, LB, ld⟩, At, ct, ?_, hE.2.1.out.went⟩
  rw [hF.out]
  exact ⟨hE.1.out, HG.out, hE.2.1.out.want, hE.2.1.out.own, hE.2.2.out⟩
set_option maxRecDepth 100000 in
set_option maxHeartbeats 8000000 in
theorem tick17_any (B g g7 : Nat) (s F : LS) (p q : LP) (At : Option Addr) (ct : Nat) (l : LV) (pl : LP) (w wr : World) (a : Act) (hz : a.tmps.size = 248) (hd : a.defers = [])
    (s0 : a.tmps.getD 0 undef = .pointer (some ⟨g, 0, none⟩)) (s7 : a.tmps.getD 7 undef = .pointer (some ⟨g7, 0, none⟩)) (Q : Exit → Act → World → Prop) (hQ : ∀ a' w', a'.tmps.size = 248 → a'.defers = [] → (∃ p q A c, Life B w' g F p q A c ∧ Went B w w') → Q .normal a' w')
    (hB : B ≤ w.heap.size) (hL : Life B wr g s p q At ct) (hW : Went B w wr)
    (HK7 : Hid (Blk wr g7 27 (lsaA l pl))) (HO7 : Hid (LOwn wr B l pl)) (hF : Hid (F = doneF s (l, 1))) (hlen : s.told.length ≤ 100001)
    (cde : Code) (hcd : seqOf Try.f20 17 = cde) : Code.wp Try.prog cde Q a wr := by
  subst hcd
  conv => arg 2; whnf
  obtain ⟨⟨⟨⟨age, kind, id, adv, seq, sum, long⟩, links, mem⟩, wanted, ⟨⟨age', kind', id', adv', seq', sum', long'⟩, links', mem'⟩, is, last, at_, ever⟩, now, told⟩ := s
  obtain ⟨A, c, B1, d⟩ := p
  obtain ⟨A', c', B', d'⟩ := q
  obtain ⟨⟨lage, lkind, lid, ladv, lseq, lsum, llong⟩, llinks, lmem⟩ := l
  obtain ⟨LA, lc, LB, ld⟩ := pl
  have HG := hide hL.base
  have HO : Hid (Oth B g7 ⟨⟨⟨⟨age, kind, id, adv, seq, sum, long⟩, links, mem⟩, wanted, ⟨⟨age', kind', id', adv', seq', sum', long'⟩, links', mem'⟩, is, last, at_, ever⟩, now, told⟩ ⟨⟨lage, lkind, lid, ladv, lseq, lsum, llong⟩, llinks, lmem⟩ ⟨A, c, B1, d⟩ ⟨A', c', B', d'⟩ ⟨LA, lc, LB, ld⟩ wr wr) := hide ⟨HK7.out, HO7.out, hL.want, hL.held, Went.refl _ _⟩
  dsimp only at hlen
  have hB2 := Nat.le_trans hB hW.below.size
  refine wp_seq ?_
  have h17 : ∀ (w1 : World) (k : Nat), k ≤ 0 → ((fun k => match k with | 0 => fun w' => Hid (Blk w' g 60 (#[.int .i64 age, .int .i64 kind, .int .i64 id, .int .i64 adv, .int .i64 seq, .int .i64 sum, .int .i64 long, .slice A links.length c, .slice B1 mem.length d, .bool wanted, .int .i64 age', .int .i64 kind', .int .i64 id', .int .i64 adv', .int .i64 seq', .int .i64 sum', .int .i64 long', .slice A' links'.length c', .slice B' mem'.length d', .bool is, .int .i64 last, .int .i64 at_, .bool ever, .int .i64 now, .slice At told.length ct] : Array Value)) ∧ Hid (Oth B g7 ⟨⟨⟨⟨age, kind, id, adv, seq, sum, long⟩, links, mem⟩, wanted, ⟨⟨age', kind', id', adv', seq', sum', long'⟩, links', mem'⟩, is, last, at_, ever⟩, now, told⟩ ⟨⟨lage, lkind, lid, ladv, lseq, lsum, llong⟩, llinks, lmem⟩ ⟨A, c, B1, d⟩ ⟨A', c', B', d'⟩ ⟨LA, lc, LB, ld⟩ wr w') ∧ Hid (w'.ownsRow B 23 7 (.slice At told.length ct) told.length (rowC HD.cells told)) | 1 => fun w' => Hid (Blk w' g 60 (#[.int .i64 age, .int .i64 kind, .int .i64 id, .int .i64 adv, .int .i64 seq, .int .i64 sum, .int .i64 long, .slice A links.length c, .slice B1 mem.length d, .bool wanted, .int .i64 age', .int .i64 kind', .int .i64 id', .int .i64 adv', .int .i64 seq', .int .i64 sum', .int .i64 long', .slice A' links'.length c', .slice B' mem'.length d', .bool is, .int .i64 last, .int .i64 at_, .bool ever, .int .i64 now, .slice At told.length ct] : Array Value)) ∧ Hid (Oth B g7 ⟨⟨⟨⟨age, kind, id, adv, seq, sum, long⟩, links, mem⟩, wanted, ⟨⟨age', kind', id', adv', seq', sum', long'⟩, links', mem'⟩, is, last, at_, ever⟩, now, told⟩ ⟨⟨lage, lkind, lid, ladv, lseq, lsum, llong⟩, llinks, lmem⟩ ⟨A, c, B1, d⟩ ⟨A', c', B', d'⟩ ⟨LA, lc, LB, ld⟩ wr w') | 2 => fun w' => ∃ A8 c8, Hid (Blk w' g 60 (#[.int .i64 age, .int .i64 kind, .int .i64 id, .int .i64 adv, .int .i64 seq, .int .i64 sum, .int .i64 long, .slice A links.length c, .slice B1 mem.length d, .bool wanted, .int .i64 age', .int .i64 kind', .int .i64 id', .int .i64 adv', .int .i64 seq', .int .i64 sum', .int .i64 long', .slice A' links'.length c', .slice B' mem'.length d', .bool is, .int .i64 last, .int .i64 at_, .bool ever, .int .i64 now, .slice A8 (told.length + 1) c8] : Array Value)) ∧ Hid (Oth B g7 ⟨⟨⟨⟨age, kind, id, adv, seq, sum, long⟩, links, mem⟩, wanted, ⟨⟨age', kind', id', adv', seq', sum', long'⟩, links', mem'⟩, is, last, at_, ever⟩, now, told⟩ ⟨⟨lage, lkind, lid, ladv, lseq, lsum, llong⟩, llinks, lmem⟩ ⟨A, c, B1, d⟩ ⟨A', c', B', d'⟩ ⟨LA, lc, LB, ld⟩ wr w') ∧ Hid (w'.ownsRow B 23 7 (.slice A8 (told.length + 1) c8) (told.length + 1) (rowC HD.cells (told ++ [⟨lage, lkind, lid, ladv, lseq, lsum, llong⟩]))) | _ => fun _ => False) : Nat → World → Prop) k w1 → wr.heap.size ≤ w1.heap.size := fun w1 k hk h => match k, hk, h with | 0, _, h => h.2.1.out.went.below.size
  refine slots_stage [8, 11] [0, 0, 0, 0, 0, 0, 0, 0, 0, 1, 1, 1] [1, 1, 1, 1, 0, 1, 1, 0, 1, 2, 1, 2] [fun v _ => v = .pointer (some ⟨g, 0, none⟩), fun v _ => v = .pointer (some ⟨g, 0, none⟩), fun v _ => v = .pointer (some ⟨g, 0, none⟩), fun v _ => v = .pointer (some ⟨g, 24, none⟩), fun v _ => v = .slice At told.length ct, fun v _ => v = .pointer (some ⟨g7, 0, none⟩), fun v _ => v = .agg (List.toArray [.int .i64 lage, .int .i64 lkind, .int .i64 lid, .int .i64 ladv, .int .i64 lseq, .int .i64 lsum, .int .i64 llong]), fun v w => LitB wr.heap.size 23 1 (HD.arr ⟨lage, lkind, lid, ladv, lseq, lsum, llong⟩) v w, fun v w' => ∃ A8 c8, v = .slice A8 (told.length + 1) c8 ∧ w'.ownsRow B 23 7 (.slice A8 (told.length + 1) c8) (told.length + 1) (rowC HD.cells (told ++ [⟨lage, lkind, lid, ladv, lseq, lsum, llong⟩])), fun v _ => v = .pointer (some ⟨g, 0, none⟩), fun v _ => v = .pointer (some ⟨g, 24, none⟩), fun v _ => v = undef] (fun k => match k with | 0 => fun w' => Hid (Blk w' g 60 (#[.int .i64 age, .int .i64 kind, .int .i64 id, .int .i64 adv, .int .i64 seq, .int .i64 sum, .int .i64 long, .slice A links.length c, .slice B1 mem.length d, .bool wanted, .int .i64 age', .int .i64 kind', .int .i64 id', .int .i64 adv', .int .i64 seq', .int .i64 sum', .int .i64 long', .slice A' links'.length c', .slice B' mem'.length d', .bool is, .int .i64 last, .int .i64 at_, .bool ever, .int .i64 now, .slice At told.length ct] : Array Value)) ∧ Hid (Oth B g7 ⟨⟨⟨⟨age, kind, id, adv, seq, sum, long⟩, links, mem⟩, wanted, ⟨⟨age', kind', id', adv', seq', sum', long'⟩, links', mem'⟩, is, last, at_, ever⟩, now, told⟩ ⟨⟨lage, lkind, lid, ladv, lseq, lsum, llong⟩, llinks, lmem⟩ ⟨A, c, B1, d⟩ ⟨A', c', B', d'⟩ ⟨LA, lc, LB, ld⟩ wr w') ∧ Hid (w'.ownsRow B 23 7 (.slice At told.length ct) told.length (rowC HD.cells told)) | 1 => fun w' => Hid (Blk w' g 60 (#[.int .i64 age, .int .i64 kind, .int .i64 id, .int .i64 adv, .int .i64 seq, .int .i64 sum, .int .i64 long, .slice A links.length c, .slice B1 mem.length d, .bool wanted, .int .i64 age', .int .i64 kind', .int .i64 id', .int .i64 adv', .int .i64 seq', .int .i64 sum', .int .i64 long', .slice A' links'.length c', .slice B' mem'.length d', .bool is, .int .i64 last, .int .i64 at_, .bool ever, .int .i64 now, .slice At told.length ct] : Array Value)) ∧ Hid (Oth B g7 ⟨⟨⟨⟨age, kind, id, adv, seq, sum, long⟩, links, mem⟩, wanted, ⟨⟨age', kind', id', adv', seq', sum', long'⟩, links', mem'⟩, is, last, at_, ever⟩, now, told⟩ ⟨⟨lage, lkind, lid, ladv, lseq, lsum, llong⟩, llinks, lmem⟩ ⟨A, c, B1, d⟩ ⟨A', c', B', d'⟩ ⟨LA, lc, LB, ld⟩ wr w') | 2 => fun w' => ∃ A8 c8, Hid (Blk w' g 60 (#[.int .i64 age, .int .i64 kind, .int .i64 id, .int .i64 adv, .int .i64 seq, .int .i64 sum, .int .i64 long, .slice A links.length c, .slice B1 mem.length d, .bool wanted, .int .i64 age', .int .i64 kind', .int .i64 id', .int .i64 adv', .int .i64 seq', .int .i64 sum', .int .i64 long', .slice A' links'.length c', .slice B' mem'.length d', .bool is, .int .i64 last, .int .i64 at_, .bool ever, .int .i64 now, .slice A8 (told.length + 1) c8] : Array Value)) ∧ Hid (Oth B g7 ⟨⟨⟨⟨age, kind, id, adv, seq, sum, long⟩, links, mem⟩, wanted, ⟨⟨age', kind', id', adv', seq', sum', long'⟩, links', mem'⟩, is, last, at_, ever⟩, now, told⟩ ⟨⟨lage, lkind, lid, ladv, lseq, lsum, llong⟩, llinks, lmem⟩ ⟨A, c, B1, d⟩ ⟨A', c', B', d'⟩ ⟨LA, lc, LB, ld⟩ wr w') ∧ Hid (w'.ownsRow B 23 7 (.slice A8 (told.length + 1) c8) (told.length + 1) (rowC HD.cells (told ++ [⟨lage, lkind, lid, ladv, lseq, lsum, llong⟩]))) | _ => fun _ => False)
    (by kernel_rfl) (by kernel_rfl) (by kernel_rfl) hz (by kernel_rfl) rfl (by kernel_rfl)
    ⟨fun _ _ _ _ h => h, fun _ _ _ _ h => h, fun _ _ _ _ h => h, fun _ _ _ _ h => h, fun _ _ _ _ h => h, fun _ _ _ _ h => h, fun _ _ _ _ h => h, fun _ _ _ hb h => h.keep hb, fun _ _ _ hb ⟨A8, c8, e, h⟩ => ⟨A8, c8, e, own_below h hb⟩, fun _ _ _ _ h => h, fun _ _ _ _ h => h, fun _ _ _ _ h => h, trivial⟩
    (fun k w1 w2 hb h => match k, h with | 0, h => ⟨hide (h.1.out.below hb h.1.out.lt), hide (h.2.1.out.below hB2 hb), hide (own_below h.2.2.out hb)⟩ | 1, h => ⟨hide (h.1.out.below hb h.1.out.lt), hide (h.2.out.below hB2 hb)⟩ | 2, ⟨A8, c8, h⟩ => ⟨A8, c8, hide (h.1.out.below hb h.1.out.lt), hide (h.2.1.out.below hB2 hb), hide (own_below h.2.2.out hb)⟩ | _ + 3, h => h) (⟨hide hL.blk, HO, hide hL.told⟩)
    ⟨fun k a w1 hlo hhi hE hat => step_ok (on_none rfl) (run_move rfl ((hat.base 0 (by kernel_rfl)).trans s0)) ⟨_, rfl, Below.refl _ _, rfl⟩,
     fun k a w1 hlo hhi hE hat => step_ok (on_none rfl) (run_move rfl ((hat.base 0 (by kernel_rfl)).trans s0)) ⟨_, rfl, Below.refl _ _, rfl⟩,
     fun k a w1 hlo hhi hE hat => step_ok (on_none rfl) (run_nilCheck rfl (hat.dep 1 174 (by kernel_rfl) (by kernel_rfl))) ⟨_, rfl, Below.refl _ _, rfl⟩,
     fun k a w1 hlo hhi hE hat => step_ok (on_none rfl) (run_fieldAddr (m := 24) rfl (hat.dep 2 175 (by kernel_rfl) (by kernel_rfl)) (by kernel_rfl) rfl) ⟨_, rfl, Below.refl _ _, rfl⟩,
     (fun k a w1 hlo hhi hE hat => match k, hlo, hhi, hE with
       | 0, _, _, hE => step_ok (on_none rfl) (run_load rfl (hat.dep 3 176 (by kernel_rfl) (by kernel_rfl)) (by kernel_rfl) (show w1.cell? ⟨g, 24, none⟩ = some (.slice At told.length ct) from Blk.cell hE.1.out 24)) ⟨_, rfl, Below.refl _ _, rfl⟩
       | k + 1, _, h, _ => absurd h (by show ¬ (k + 1 ≤ 0); omega)),
     fun k a w1 hlo hhi hE hat => step_ok (on_none rfl) (run_fieldAddr (m := 0) rfl ((hat.base 7 (by kernel_rfl)).trans s7) (by kernel_rfl) rfl) ⟨_, rfl, Below.refl _ _, rfl⟩,
     (fun k a w1 hlo hhi hE hat => match k, hlo, hhi, hE with
       | 0, _, _, hE => step_ok (on_none rfl) (run_loadS (n := 7) (out := [.int .i64 lage, .int .i64 lkind, .int .i64 lid, .int .i64 ladv, .int .i64 lseq, .int .i64 lsum, .int .i64 llong]) rfl (hat.dep 5 178 (by kernel_rfl) (by kernel_rfl)) (by kernel_rfl) hE.2.1.out.blk rfl rfl) ⟨_, rfl, Below.refl _ _, rfl⟩
       | 1, _, _, hE => step_ok (on_none rfl) (run_loadS (n := 7) (out := [.int .i64 lage, .int .i64 lkind, .int .i64 lid, .int .i64 ladv, .int .i64 lseq, .int .i64 lsum, .int .i64 llong]) rfl (hat.dep 5 178 (by kernel_rfl) (by kernel_rfl)) (by kernel_rfl) hE.2.out.blk rfl rfl) ⟨_, rfl, Below.refl _ _, rfl⟩
       | k + 2, _, h, _ => absurd h (by show ¬ (k + 2 ≤ 1); omega)),
     fun k a w1 hlo hhi hE hat => step_ok (on_none rfl) (run_lit (cells := HD.arr ⟨lage, lkind, lid, ladv, lseq, lsum, llong⟩) rfl (parts1 (hat.dep 6 179 (by kernel_rfl) (by kernel_rfl))) (by kernel_rfl) (by kernel_rfl)) ⟨_, rfl, below_new w1 _, litB_new w1 _ _ _ (h17 w1 k hhi hE)⟩,
     fun a w1 hE hat => by
       obtain ⟨b7, e7, hb7, hr7⟩ := hat.dep 7 180 (by kernel_rfl) (by kernel_rfl)
       exact step_append (.tmp 177) (.tmp 180) 58 rfl rfl B 23 7 56 (by kernel_rfl) told.length (rowC HD.cells told) (hat.dep 4 177 (by kernel_rfl) (by kernel_rfl)) hE.2.2.out (b7 + 1) (some ⟨b7, 0, none⟩) 1 1 (HD.cells ⟨lage, lkind, lid, ladv, lseq, lsum, llong⟩) e7 (reads_blk (cells := HD.arr ⟨lage, lkind, lid, ladv, lseq, lsum, llong⟩) hr7 rfl) (HD.cells_one _) (by unfold maxLen; omega) (by omega) (Nat.le_trans hB2 hE.2.1.out.went.below.size)
         (fun A8 c8 w8 ho8 hg8 => ⟨_, rfl, stabX ⟨.inr fun _ h => h, .inr fun _ h => h, .inr fun _ h => h, .inr fun _ h => h, .inr fun _ h => h, .inr fun _ h => h, .inr fun _ h => h, .inr fun _ h => h.keeps (keeps_grown (n := 0) (B := 0) (size := 0) (xs := []) hg8) (fun b hb _ hx => absurd (own_lt hL.told hx) (by omega)), .inl rfl, .inr fun _ h => h, .inr fun _ h => h, .inr fun _ h => h, trivial⟩, ⟨A8, c8, rfl, by simpa [rowC_append, rowC] using ho8⟩, hide (hE.1.out.grown hg8 (fun e => own_blk_ne hE.2.2.out hE.1.out (by decide) e.symm)), hide (hE.2.1.out.grown hB2 hE.2.2.out hg8)⟩),
     fun k a w1 hlo hhi hE hat => step_ok (on_none rfl) (run_nilCheck rfl (hat.dep 0 173 (by kernel_rfl) (by kernel_rfl))) ⟨_, rfl, Below.refl _ _, rfl⟩,
     fun k a w1 hlo hhi hE hat => step_ok (on_none rfl) (run_fieldAddr (m := 24) rfl (hat.dep 9 182 (by kernel_rfl) (by kernel_rfl)) (by kernel_rfl) rfl) ⟨_, rfl, Below.refl _ _, rfl⟩,
     fun a w1 hE hat => by
       obtain ⟨A8, c8, e8, ho8⟩ := hat.dep 8 181 (by kernel_rfl) (by kernel_rfl)
       exact step_skip (on_none rfl) (run_store (n := 1) (cells := #[.slice A8 (told.length + 1) c8]) (cs' := #[.int .i64 age, .int .i64 kind, .int .i64 id, .int .i64 adv, .int .i64 seq, .int .i64 sum, .int .i64 long, .slice A links.length c, .slice B1 mem.length d, .bool wanted, .int .i64 age', .int .i64 kind', .int .i64 id', .int .i64 adv', .int .i64 seq', .int .i64 sum', .int .i64 long', .slice A' links'.length c', .slice B' mem'.length d', .bool is, .int .i64 last, .int .i64 at_, .bool ever, .int .i64 now, .slice A8 (told.length + 1) c8]) rfl (hat.dep 10 183 (by kernel_rfl) (by kernel_rfl)) e8 rfl hE.1.out (by kernel_rfl) ⟨Nat.le_of_ble_eq_true rfl, rfl, by simp [Value.oneCell']⟩ rfl) ⟨_, rfl, stabX ⟨.inr fun _ h => h, .inr fun _ h => h, .inr fun _ h => h, .inr fun _ h => h, .inr fun _ h => h, .inr fun _ h => h, .inr fun _ h => h, .inr fun _ h => h.keeps ((Keeps.refl (fun x => x = g) w1).row (.inl rfl) _) (fun b _ hb => blk_ne hb hE.1.out (by decide)), .inr fun _ ⟨A8, c8, e, h⟩ => ⟨A8, c8, e, own_row h hE.1.out (by decide) _⟩, .inr fun _ h => h, .inr fun _ h => h, .inl rfl, trivial⟩, rfl, A8, c8, hide (hE.1.out.setRow_ _), hide (hE.2.out.row hB2 HG.out hE.1.out _), hide (own_row ho8 hE.1.out (by decide) _)⟩, trivial⟩ ?_
  rintro vs a2 w2 ⟨e0, e1, e2, e3, e4, e5, e6, e7, e8, e9, e10, e11, -⟩ ⟨A8, c8, hE⟩ hput
  replace s0 : a2.tmps.getD 0 undef = .pointer (some ⟨g, 0, none⟩) := (hput.old 0 (by kernel_rfl)).trans s0
  replace s7 : a2.tmps.getD 7 undef = .pointer (some ⟨g7, 0, none⟩) := (hput.old 7 (by kernel_rfl)).trans s7
  replace hz := hput.size.trans hz
  replace hd := hput.defers.trans hd
  clear hput e0 e1 e2 e3 e4 e5 e6 e7 e8 e9 e10 e11
  refine tick18_any B g g7 ⟨⟨⟨⟨age, kind, id, adv, seq, sum, long⟩, links, mem⟩, wanted, ⟨⟨age', kind', id', adv', seq', sum', long'⟩, links', mem'⟩, is, last, at_, ever⟩, now, told ++ [⟨lage, lkind, lid, ladv, lseq, lsum, llong⟩]⟩ F ⟨A, c, B1, d⟩ ⟨A', c', B', d'⟩ A8 c8 ⟨⟨lage, lkind, lid, ladv, lseq, lsum, llong⟩, llinks, lmem⟩ ⟨LA, lc, LB, ld⟩ w w2 a2 hz hd s0 s7 Q hQ hB ⟨?_, HG.out, hE.2.1.out.want, hE.2.1.out.held, ?_⟩ (hW.trans hE.2.1.out.went) (hide hE.2.1.out.blk) (hide hE.2.1.out.own) (hide ?_) _ (by kernel_rfl)
  · simp only [lifeA, List.length_append, List.length_cons, List.length_nil, Nat.zero_add]
    exact hE.1.out
  · simp only [List.length_append, List.length_cons, List.length_nil, Nat.zero_add]
    exact hE.2.2.out
  · rw [hF.out]; rfl
set_option maxRecDepth 100000 in
set_option maxHeartbeats 8000000 in
theorem tick14_any (B g g7 : Nat) (s F : LS) (p q : LP) (At : Option Addr) (ct : Nat) (l : LV) (pl : LP) (w wr : World) (a : Act) (hz : a.tmps.size = 248) (hd : a.defers = [])
    (s0 : a.tmps.getD 0 undef = .pointer (some ⟨g, 0, none⟩)) (s7 : a.tmps.getD 7 undef = .pointer (some ⟨g7, 0, none⟩)) (Q : Exit → Act → World → Prop) (hQ : ∀ a' w', a'.tmps.size = 248 → a'.defers = [] → (∃ p q A c, Life B w' g F p q A c ∧ Went B w w') → Q .normal a' w')
    (hB : B ≤ w.heap.size) (hL : Life B wr g s p q At ct) (hW : Went B w wr)
    (HK7 : Hid (Blk wr g7 27 (lsaA l pl))) (HO7 : Hid (LOwn wr B l pl)) (hF : Hid (F = doneF s (l, 1))) (hT : TOK s) (HTD : Hid (Told s l))
    (cde : Code) (hcd : seqOf Try.f20 14 = cde) : Code.wp Try.prog cde Q a wr := by
  subst hcd
  conv => arg 2; whnf
  obtain ⟨⟨⟨⟨age, kind, id, adv, seq, sum, long⟩, links, mem⟩, wanted, ⟨⟨age', kind', id', adv', seq', sum', long'⟩, links', mem'⟩, is, last, at_, ever⟩, now, told⟩ := s
  obtain ⟨A, c, B1, d⟩ := p
  obtain ⟨A', c', B', d'⟩ := q
  obtain ⟨⟨lage, lkind, lid, ladv, lseq, lsum, llong⟩, llinks, lmem⟩ := l
  obtain ⟨LA, lc, LB, ld⟩ := pl
  have HT := hide hT
  clear hT
  have hlen := HT.out.len
  dsimp only at hlen
  have hK := hL.blk
  have hK7 := HK7.out
  rcases Nat.eq_zero_or_pos told.length with hn0 | hn0
  · refine wp_seq (wp_seq ?_)
    refine slots_by [fun v _ => v = .pointer (some ⟨g, 0, none⟩), fun v _ => v = .pointer (some ⟨g, 0, none⟩), fun v _ => v = .pointer (some ⟨g, 24, none⟩), fun v _ => v = .slice At told.length ct, fun v _ => v = .int .i64 told.length, fun v _ => v = .int .i64 told.length]
      (by kernel_rfl) (by kernel_rfl) (by kernel_rfl) hz (by kernel_rfl) rfl
      ⟨fun _ _ _ _ h => h, fun _ _ _ _ h => h, fun _ _ _ _ h => h, fun _ _ _ _ h => h, fun _ _ _ _ h => h, fun _ _ _ _ h => h, trivial⟩
      ⟨fun a w1 hb hat => step_ok (on_none rfl) (run_move rfl ((hat.base 0 (by kernel_rfl)).trans s0)) ⟨_, rfl, Below.refl _ _, rfl⟩,
       fun a w1 hb hat => step_ok (on_none rfl) (run_nilCheck rfl (hat.dep 0 143 (by kernel_rfl) (by kernel_rfl))) ⟨_, rfl, Below.refl _ _, rfl⟩,
       fun a w1 hb hat => step_ok (on_none rfl) (run_fieldAddr (m := 24) rfl (hat.dep 1 144 (by kernel_rfl) (by kernel_rfl)) (by kernel_rfl) rfl) ⟨_, rfl, Below.refl _ _, rfl⟩,
       fun a w1 hb hat => step_ok (on_none rfl) (run_load rfl (hat.dep 2 145 (by kernel_rfl) (by kernel_rfl)) (by kernel_rfl) (show w1.cell? ⟨g, 24, none⟩ = some (.slice At told.length ct) from Blk.cell (hK.below hb hK.lt) 24)) ⟨_, rfl, Below.refl _ _, rfl⟩,
       fun a w1 hb hat => step_ok (on_none rfl) (run_lenS rfl (hat.dep 3 146 (by kernel_rfl) (by kernel_rfl)) (by kernel_rfl)) ⟨_, rfl, Below.refl _ _, rfl⟩,
       fun a w1 hb hat => step_ok (on_none rfl) (run_assign rfl (hat.dep 4 147 (by kernel_rfl) (by kernel_rfl))) ⟨_, rfl, Below.refl _ _, rfl⟩, trivial⟩ ?_
    rintro vs a2 w2 hb2 ⟨e0, e1, e2, e3, e4, e5, -⟩ hput
    replace s0 : a2.tmps.getD 0 undef = .pointer (some ⟨g, 0, none⟩) := (hput.old 0 (by kernel_rfl)).trans s0
    replace s7 : a2.tmps.getD 7 undef = .pointer (some ⟨g7, 0, none⟩) := (hput.old 7 (by kernel_rfl)).trans s7
    have s9 : a2.tmps.getD 9 undef = .int .i64 told.length := (hput.new 5 9 rfl).trans e5
    replace hz := hput.size.trans hz
    replace hd := hput.defers.trans hd
    clear hput e0 e1 e2 e3 e4 e5
    have hK := hK.below hb2 hK.lt
    have hK7 := hK7.below hb2 hK7.lt
    change Code.wp _ _ _ _ _
    refine wp_seq ?_
    refine slots_by [fun v _ => v = .int .i64 told.length, fun v _ => v = .bool false, fun v _ => v = .bool false, fun v _ => v = undef, fun v _ => v = undef, fun v _ => v = undef, fun v _ => v = undef, fun v _ => v = undef, fun v _ => v = undef, fun v _ => v = undef, fun v _ => v = undef, fun v _ => v = undef, fun v _ => v = undef, fun v _ => v = undef, fun v _ => v = undef, fun v _ => v = undef, fun v _ => v = .bool false, fun v _ => v = .bool false, fun v _ => v = undef, fun v _ => v = undef, fun v _ => v = undef, fun v _ => v = undef, fun v _ => v = undef, fun v _ => v = undef, fun v _ => v = .bool false]
      (by kernel_rfl) (by kernel_rfl) (by kernel_rfl) hz (by kernel_rfl) rfl
      ⟨fun _ _ _ _ h => h, fun _ _ _ _ h => h, fun _ _ _ _ h => h, fun _ _ _ _ h => h, fun _ _ _ _ h => h, fun _ _ _ _ h => h, fun _ _ _ _ h => h, fun _ _ _ _ h => h, fun _ _ _ _ h => h, fun _ _ _ _ h => h, fun _ _ _ _ h => h, fun _ _ _ _ h => h, fun _ _ _ _ h => h, fun _ _ _ _ h => h, fun _ _ _ _ h => h, fun _ _ _ _ h => h, fun _ _ _ _ h => h, fun _ _ _ _ h => h, fun _ _ _ _ h => h, fun _ _ _ _ h => h, fun _ _ _ _ h => h, fun _ _ _ _ h => h, fun _ _ _ _ h => h, fun _ _ _ _ h => h, fun _ _ _ _ h => h, trivial⟩
      ⟨fun a w1 hb hat => step_ok (on_none rfl) (run_move rfl ((hat.base 9 (by kernel_rfl)).trans s9)) ⟨_, rfl, Below.refl _ _, rfl⟩,
       fun a w1 hb hat => step_ok (on_none rfl) (run_cmp rfl (hat.dep 0 148 (by kernel_rfl) (by kernel_rfl)) rfl rfl (by simp [hn0])) ⟨_, rfl, Below.refl _ _, rfl⟩,
       fun a w1 hb hat => step_ok (on_none rfl) (run_move rfl (hat.dep 1 149 (by kernel_rfl) (by kernel_rfl))) ⟨_, rfl, Below.refl _ _, rfl⟩,
       fun a w1 hb hat => step_off (off_dep (b := true) (d := 150) rfl (by kernel_rfl) (hat.dep 2 150 (by kernel_rfl) (by kernel_rfl))) rfl,
       fun a w1 hb hat => step_off (off_dep (b := true) (d := 150) rfl (by kernel_rfl) (hat.dep 2 150 (by kernel_rfl) (by kernel_rfl))) rfl,
       fun a w1 hb hat => step_off (off_dep (b := true) (d := 150) rfl (by kernel_rfl) (hat.dep 2 150 (by kernel_rfl) (by kernel_rfl))) rfl,
       fun a w1 hb hat => step_off (off_dep (b := true) (d := 150) rfl (by kernel_rfl) (hat.dep 2 150 (by kernel_rfl) (by kernel_rfl))) rfl,
       fun a w1 hb hat => step_off (off_dep (b := true) (d := 150) rfl (by kernel_rfl) (hat.dep 2 150 (by kernel_rfl) (by kernel_rfl))) rfl,
       fun a w1 hb hat => step_off (off_dep (b := true) (d := 150) rfl (by kernel_rfl) (hat.dep 2 150 (by kernel_rfl) (by kernel_rfl))) rfl,
       fun a w1 hb hat => step_off (off_dep (b := true) (d := 150) rfl (by kernel_rfl) (hat.dep 2 150 (by kernel_rfl) (by kernel_rfl))) rfl,
       fun a w1 hb hat => step_off (off_dep (b := true) (d := 150) rfl (by kernel_rfl) (hat.dep 2 150 (by kernel_rfl) (by kernel_rfl))) rfl,
       fun a w1 hb hat => step_off (off_dep (b := true) (d := 150) rfl (by kernel_rfl) (hat.dep 2 150 (by kernel_rfl) (by kernel_rfl))) rfl,
       fun a w1 hb hat => step_off (off_dep (b := true) (d := 150) rfl (by kernel_rfl) (hat.dep 2 150 (by kernel_rfl) (by kernel_rfl))) rfl,
       fun a w1 hb hat => step_off (off_dep (b := true) (d := 150) rfl (by kernel_rfl) (hat.dep 2 150 (by kernel_rfl) (by kernel_rfl))) rfl,
       fun a w1 hb hat => step_off (off_dep (b := true) (d := 150) rfl (by kernel_rfl) (hat.dep 2 150 (by kernel_rfl) (by kernel_rfl))) rfl,
       fun a w1 hb hat => step_off (off_dep (b := true) (d := 150) rfl (by kernel_rfl) (hat.dep 2 150 (by kernel_rfl) (by kernel_rfl))) rfl,
       fun a w1 hb hat => step_ok (on_none rfl) (run_pick_f rfl (hat.dep 2 150 (by kernel_rfl) (by kernel_rfl)) rfl) ⟨_, rfl, Below.refl _ _, rfl⟩,
       fun a w1 hb hat => step_ok (on_none rfl) (run_move rfl (hat.dep 16 164 (by kernel_rfl) (by kernel_rfl))) ⟨_, rfl, Below.refl _ _, rfl⟩,
       fun a w1 hb hat => step_off (off_dep (b := true) (d := 165) rfl (by kernel_rfl) (hat.dep 17 165 (by kernel_rfl) (by kernel_rfl))) rfl,
       fun a w1 hb hat => step_off (off_dep (b := true) (d := 165) rfl (by kernel_rfl) (hat.dep 17 165 (by kernel_rfl) (by kernel_rfl))) rfl,
       fun a w1 hb hat => step_off (off_dep (b := true) (d := 165) rfl (by kernel_rfl) (hat.dep 17 165 (by kernel_rfl) (by kernel_rfl))) rfl,
       fun a w1 hb hat => step_off (off_dep (b := true) (d := 165) rfl (by kernel_rfl) (hat.dep 17 165 (by kernel_rfl) (by kernel_rfl))) rfl,
       fun a w1 hb hat => step_off (off_dep (b := true) (d := 165) rfl (by kernel_rfl) (hat.dep 17 165 (by kernel_rfl) (by kernel_rfl))) rfl,
       fun a w1 hb hat => step_off (off_dep (b := true) (d := 165) rfl (by kernel_rfl) (hat.dep 17 165 (by kernel_rfl) (by kernel_rfl))) rfl,
       fun a w1 hb hat => step_ok (on_none rfl) (run_pick_f rfl (hat.dep 17 165 (by kernel_rfl) (by kernel_rfl)) rfl) ⟨_, rfl, Below.refl _ _, rfl⟩, trivial⟩ ?_
    rintro vs a3 w3 hb3 ⟨e0, e1, e2, e3, e4, e5, e6, e7, e8, e9, e10, e11, e12, e13, e14, e15, e16, e17, e18, e19, e20, e21, e22, e23, e24, -⟩ hput
    replace s0 : a3.tmps.getD 0 undef = .pointer (some ⟨g, 0, none⟩) := (hput.old 0 (by kernel_rfl)).trans s0
    replace s7 : a3.tmps.getD 7 undef = .pointer (some ⟨g7, 0, none⟩) := (hput.old 7 (by kernel_rfl)).trans s7
    have s172 : a3.tmps.getD 172 undef = .bool false := (hput.new 24 172 rfl).trans e24
    replace hz := hput.size.trans hz
    replace hd := hput.defers.trans hd
    clear hput e0 e1 e2 e3 e4 e5 e6 e7 e8 e9 e10 e11 e12 e13 e14 e15 e16 e17 e18 e19 e20 e21 e22 e23 e24 s9
    change Code.wp _ _ _ _ _
    refine wp_cond_false s172 (wp_skip ?_)
    change Code.wp _ _ _ _ _
    have hbb := hb2.trans (hb3.mono hb2.size)
    exact tick17_any B g g7 ⟨⟨⟨⟨age, kind, id, adv, seq, sum, long⟩, links, mem⟩, wanted, ⟨⟨age', kind', id', adv', seq', sum', long'⟩, links', mem'⟩, is, last, at_, ever⟩, now, told⟩ F ⟨A, c, B1, d⟩ ⟨A', c', B', d'⟩ At ct ⟨⟨lage, lkind, lid, ladv, lseq, lsum, llong⟩, llinks, lmem⟩ ⟨LA, lc, LB, ld⟩ w w3 a3 hz hd s0 s7 Q hQ hB (hL.below hbb) (hW.trans (Went.of_below hbb (Nat.le_trans hB hW.below.size))) (hide (HK7.out.below hbb HK7.out.lt)) (hide (HO7.out.below hbb)) hF HT.out.len _ (by kernel_rfl)
  · obtain ⟨bT, off, h0, hA, _, hk0, hC0⟩ := Reads.row_at (k := told.length - 1) HD.cells 7 HD.cells_len (Reads.of_own hL.told) (by decide) (show told.length - 1 < told.length by omega)
    subst hA
    have hh : h0.seq = last := HT.out.told h0 (by rw [List.getLast?_eq_getElem?]; exact hk0)
    obtain ⟨o1, ho1⟩ : ∃ o1, off + (told.length - 1) * 7 = o1 := ⟨_, rfl⟩
    have hC : wr.cell? ⟨bT, o1 + 4, none⟩ = some (.int .i64 h0.seq) := by
      have := hC0 4 (.int .i64 h0.seq) rfl
      rw [← ho1]
      exact this
    clear hC0
    have HN := HTD.out.next
    dsimp only at HN
    by_cases hl : last < 2147483647
    · have hs : lseq = last + 1 := HN hl
      refine wp_seq (wp_seq ?_)
      refine slots_by [fun v _ => v = .pointer (some ⟨g, 0, none⟩), fun v _ => v = .pointer (some ⟨g, 0, none⟩), fun v _ => v = .pointer (some ⟨g, 24, none⟩), fun v _ => v = .slice (some ⟨bT, off, none⟩) told.length ct, fun v _ => v = .int .i64 told.length, fun v _ => v = .int .i64 told.length]
        (by kernel_rfl) (by kernel_rfl) (by kernel_rfl) hz (by kernel_rfl) rfl
        ⟨fun _ _ _ _ h => h, fun _ _ _ _ h => h, fun _ _ _ _ h => h, fun _ _ _ _ h => h, fun _ _ _ _ h => h, fun _ _ _ _ h => h, trivial⟩
        ⟨fun a w1 hb hat => step_ok (on_none rfl) (run_move rfl ((hat.base 0 (by kernel_rfl)).trans s0)) ⟨_, rfl, Below.refl _ _, rfl⟩,
         fun a w1 hb hat => step_ok (on_none rfl) (run_nilCheck rfl (hat.dep 0 143 (by kernel_rfl) (by kernel_rfl))) ⟨_, rfl, Below.refl _ _, rfl⟩,
         fun a w1 hb hat => step_ok (on_none rfl) (run_fieldAddr (m := 24) rfl (hat.dep 1 144 (by kernel_rfl) (by kernel_rfl)) (by kernel_rfl) rfl) ⟨_, rfl, Below.refl _ _, rfl⟩,
         fun a w1 hb hat => step_ok (on_none rfl) (run_load rfl (hat.dep 2 145 (by kernel_rfl) (by kernel_rfl)) (by kernel_rfl) (show w1.cell? ⟨g, 24, none⟩ = some (.slice (some ⟨bT, off, none⟩) told.length ct) from Blk.cell (hK.below hb hK.lt) 24)) ⟨_, rfl, Below.refl _ _, rfl⟩,
         fun a w1 hb hat => step_ok (on_none rfl) (run_lenS rfl (hat.dep 3 146 (by kernel_rfl) (by kernel_rfl)) (by kernel_rfl)) ⟨_, rfl, Below.refl _ _, rfl⟩,
         fun a w1 hb hat => step_ok (on_none rfl) (run_assign rfl (hat.dep 4 147 (by kernel_rfl) (by kernel_rfl))) ⟨_, rfl, Below.refl _ _, rfl⟩, trivial⟩ ?_
      rintro vs a2 w2 hb2 ⟨e0, e1, e2, e3, e4, e5, -⟩ hput
      replace s0 : a2.tmps.getD 0 undef = .pointer (some ⟨g, 0, none⟩) := (hput.old 0 (by kernel_rfl)).trans s0
      replace s7 : a2.tmps.getD 7 undef = .pointer (some ⟨g7, 0, none⟩) := (hput.old 7 (by kernel_rfl)).trans s7
      have s9 : a2.tmps.getD 9 undef = .int .i64 told.length := (hput.new 5 9 rfl).trans e5
      replace hz := hput.size.trans hz
      replace hd := hput.defers.trans hd
      clear hput e0 e1 e2 e3 e4 e5
      have hK := hK.below hb2 hK.lt
      have hK7 := hK7.below hb2 hK7.lt
      have hC := cell_keep hC hb2
      change Code.wp _ _ _ _ _
      refine wp_seq ?_
      refine slots_by [fun v _ => v = .int .i64 told.length, fun v _ => v = .bool true, fun v _ => v = .bool true, fun v _ => v = .pointer (some ⟨g7, 0, none⟩), fun v _ => v = .pointer (some ⟨g7, 4, none⟩), fun v _ => v = .int .i64 lseq, fun v _ => v = .pointer (some ⟨g, 0, none⟩), fun v _ => v = .pointer (some ⟨g, 0, none⟩), fun v _ => v = .pointer (some ⟨g, 24, none⟩), fun v _ => v = .slice (some ⟨bT, off, none⟩) told.length ct, fun v _ => v = .int .i64 told.length, fun v _ => v = .int .i64 (told.length - 1), fun v _ => v = .pointer (some ⟨bT, o1, none⟩), fun v _ => v = .pointer (some ⟨bT, (o1 + 4), none⟩), fun v _ => v = .int .i64 h0.seq, fun v _ => v = .bool false, fun v _ => v = .bool false, fun v _ => v = .bool false, fun v _ => v = undef, fun v _ => v = undef, fun v _ => v = undef, fun v _ => v = undef, fun v _ => v = undef, fun v _ => v = undef, fun v _ => v = .bool false]
        (by kernel_rfl) (by kernel_rfl) (by kernel_rfl) hz (by kernel_rfl) rfl
        ⟨fun _ _ _ _ h => h, fun _ _ _ _ h => h, fun _ _ _ _ h => h, fun _ _ _ _ h => h, fun _ _ _ _ h => h, fun _ _ _ _ h => h, fun _ _ _ _ h => h, fun _ _ _ _ h => h, fun _ _ _ _ h => h, fun _ _ _ _ h => h, fun _ _ _ _ h => h, fun _ _ _ _ h => h, fun _ _ _ _ h => h, fun _ _ _ _ h => h, fun _ _ _ _ h => h, fun _ _ _ _ h => h, fun _ _ _ _ h => h, fun _ _ _ _ h => h, fun _ _ _ _ h => h, fun _ _ _ _ h => h, fun _ _ _ _ h => h, fun _ _ _ _ h => h, fun _ _ _ _ h => h, fun _ _ _ _ h => h, fun _ _ _ _ h => h, trivial⟩
        ⟨fun a w1 hb hat => step_ok (on_none rfl) (run_move rfl ((hat.base 9 (by kernel_rfl)).trans s9)) ⟨_, rfl, Below.refl _ _, rfl⟩,
         fun a w1 hb hat => step_ok (on_none rfl) (run_cmp rfl (hat.dep 0 148 (by kernel_rfl) (by kernel_rfl)) rfl rfl (by simp; omega)) ⟨_, rfl, Below.refl _ _, rfl⟩,
         fun a w1 hb hat => step_ok (on_none rfl) (run_move rfl (hat.dep 1 149 (by kernel_rfl) (by kernel_rfl))) ⟨_, rfl, Below.refl _ _, rfl⟩,
         fun a w1 hb hat => step_ok (on_dep (b := true) (d := 150) rfl (by kernel_rfl) (hat.dep 2 150 (by kernel_rfl) (by kernel_rfl))) (run_fieldAddr (m := 0) rfl ((hat.base 7 (by kernel_rfl)).trans s7) (by kernel_rfl) rfl) ⟨_, rfl, Below.refl _ _, rfl⟩,
         fun a w1 hb hat => step_ok (on_dep (b := true) (d := 150) rfl (by kernel_rfl) (hat.dep 2 150 (by kernel_rfl) (by kernel_rfl))) (run_fieldAddr (m := 4) rfl (hat.dep 3 151 (by kernel_rfl) (by kernel_rfl)) (by kernel_rfl) rfl) ⟨_, rfl, Below.refl _ _, rfl⟩,
         fun a w1 hb hat => step_ok (on_dep (b := true) (d := 150) rfl (by kernel_rfl) (hat.dep 2 150 (by kernel_rfl) (by kernel_rfl))) (run_load rfl (hat.dep 4 152 (by kernel_rfl) (by kernel_rfl)) (by kernel_rfl) (show w1.cell? ⟨g7, 4, none⟩ = some (.int .i64 lseq) from Blk.cell (hK7.below hb hK7.lt) 4)) ⟨_, rfl, Below.refl _ _, rfl⟩,
         fun a w1 hb hat => step_ok (on_dep (b := true) (d := 150) rfl (by kernel_rfl) (hat.dep 2 150 (by kernel_rfl) (by kernel_rfl))) (run_move rfl ((hat.base 0 (by kernel_rfl)).trans s0)) ⟨_, rfl, Below.refl _ _, rfl⟩,
         fun a w1 hb hat => step_ok (on_dep (b := true) (d := 150) rfl (by kernel_rfl) (hat.dep 2 150 (by kernel_rfl) (by kernel_rfl))) (run_nilCheck rfl (hat.dep 6 154 (by kernel_rfl) (by kernel_rfl))) ⟨_, rfl, Below.refl _ _, rfl⟩,
         fun a w1 hb hat => step_ok (on_dep (b := true) (d := 150) rfl (by kernel_rfl) (hat.dep 2 150 (by kernel_rfl) (by kernel_rfl))) (run_fieldAddr (m := 24) rfl (hat.dep 7 155 (by kernel_rfl) (by kernel_rfl)) (by kernel_rfl) rfl) ⟨_, rfl, Below.refl _ _, rfl⟩,
         fun a w1 hb hat => step_ok (on_dep (b := true) (d := 150) rfl (by kernel_rfl) (hat.dep 2 150 (by kernel_rfl) (by kernel_rfl))) (run_load rfl (hat.dep 8 156 (by kernel_rfl) (by kernel_rfl)) (by kernel_rfl) (show w1.cell? ⟨g, 24, none⟩ = some (.slice (some ⟨bT, off, none⟩) told.length ct) from Blk.cell (hK.below hb hK.lt) 24)) ⟨_, rfl, Below.refl _ _, rfl⟩,
         fun a w1 hb hat => step_ok (on_dep (b := true) (d := 150) rfl (by kernel_rfl) (hat.dep 2 150 (by kernel_rfl) (by kernel_rfl))) (run_move rfl ((hat.base 9 (by kernel_rfl)).trans s9)) ⟨_, rfl, Below.refl _ _, rfl⟩,
         fun a w1 hb hat => step_ok (on_dep (b := true) (d := 150) rfl (by kernel_rfl) (hat.dep 2 150 (by kernel_rfl) (by kernel_rfl))) (run_subI rfl (hat.dep 10 158 (by kernel_rfl) (by kernel_rfl)) rfl (by omega) rfl) ⟨_, rfl, Below.refl _ _, rfl⟩,
         fun a w1 hb hat => step_ok (on_dep (b := true) (d := 150) rfl (by kernel_rfl) (hat.dep 2 150 (by kernel_rfl) (by kernel_rfl))) (run_indexS (size := 7) rfl (hat.dep 9 157 (by kernel_rfl) (by kernel_rfl)) (hat.dep 11 159 (by kernel_rfl) (by kernel_rfl)) (by kernel_rfl) ⟨by omega, by omega⟩ (by rw [← ho1, show ((told.length : Int) - 1).toNat = told.length - 1 by omega])) ⟨_, rfl, Below.refl _ _, rfl⟩,
         fun a w1 hb hat => step_ok (on_dep (b := true) (d := 150) rfl (by kernel_rfl) (hat.dep 2 150 (by kernel_rfl) (by kernel_rfl))) (run_fieldAddr (m := 4) rfl (hat.dep 12 160 (by kernel_rfl) (by kernel_rfl)) (by kernel_rfl) rfl) ⟨_, rfl, Below.refl _ _, rfl⟩,
         fun a w1 hb hat => step_ok (on_dep (b := true) (d := 150) rfl (by kernel_rfl) (hat.dep 2 150 (by kernel_rfl) (by kernel_rfl))) (run_load rfl (hat.dep 13 161 (by kernel_rfl) (by kernel_rfl)) (by kernel_rfl) (show w1.cell? ⟨bT, (o1 + 4), none⟩ = some (.int .i64 h0.seq) from (cell_keep hC hb))) ⟨_, rfl, Below.refl _ _, rfl⟩,
         fun a w1 hb hat => step_ok (on_dep (b := true) (d := 150) rfl (by kernel_rfl) (hat.dep 2 150 (by kernel_rfl) (by kernel_rfl))) (run_cmp rfl (hat.dep 5 153 (by kernel_rfl) (by kernel_rfl)) (hat.dep 14 162 (by kernel_rfl) (by kernel_rfl)) rfl (by simp; omega)) ⟨_, rfl, Below.refl _ _, rfl⟩,
         fun a w1 hb hat => step_ok (on_none rfl) (run_pick_t rfl (hat.dep 2 150 (by kernel_rfl) (by kernel_rfl)) (hat.dep 15 163 (by kernel_rfl) (by kernel_rfl))) ⟨_, rfl, Below.refl _ _, rfl⟩,
         fun a w1 hb hat => step_ok (on_none rfl) (run_move rfl (hat.dep 16 164 (by kernel_rfl) (by kernel_rfl))) ⟨_, rfl, Below.refl _ _, rfl⟩,
         fun a w1 hb hat => step_off (off_dep (b := true) (d := 165) rfl (by kernel_rfl) (hat.dep 17 165 (by kernel_rfl) (by kernel_rfl))) rfl,
         fun a w1 hb hat => step_off (off_dep (b := true) (d := 165) rfl (by kernel_rfl) (hat.dep 17 165 (by kernel_rfl) (by kernel_rfl))) rfl,
         fun a w1 hb hat => step_off (off_dep (b := true) (d := 165) rfl (by kernel_rfl) (hat.dep 17 165 (by kernel_rfl) (by kernel_rfl))) rfl,
         fun a w1 hb hat => step_off (off_dep (b := true) (d := 165) rfl (by kernel_rfl) (hat.dep 17 165 (by kernel_rfl) (by kernel_rfl))) rfl,
         fun a w1 hb hat => step_off (off_dep (b := true) (d := 165) rfl (by kernel_rfl) (hat.dep 17 165 (by kernel_rfl) (by kernel_rfl))) rfl,
         fun a w1 hb hat => step_off (off_dep (b := true) (d := 165) rfl (by kernel_rfl) (hat.dep 17 165 (by kernel_rfl) (by kernel_rfl))) rfl,
         fun a w1 hb hat => step_ok (on_none rfl) (run_pick_f rfl (hat.dep 17 165 (by kernel_rfl) (by kernel_rfl)) rfl) ⟨_, rfl, Below.refl _ _, rfl⟩, trivial⟩ ?_
      rintro vs a3 w3 hb3 ⟨e0, e1, e2, e3, e4, e5, e6, e7, e8, e9, e10, e11, e12, e13, e14, e15, e16, e17, e18, e19, e20, e21, e22, e23, e24, -⟩ hput
      replace s0 : a3.tmps.getD 0 undef = .pointer (some ⟨g, 0, none⟩) := (hput.old 0 (by kernel_rfl)).trans s0
      replace s7 : a3.tmps.getD 7 undef = .pointer (some ⟨g7, 0, none⟩) := (hput.old 7 (by kernel_rfl)).trans s7
      have s172 : a3.tmps.getD 172 undef = .bool false := (hput.new 24 172 rfl).trans e24
      replace hz := hput.size.trans hz
      replace hd := hput.defers.trans hd
      clear hput e0 e1 e2 e3 e4 e5 e6 e7 e8 e9 e10 e11 e12 e13 e14 e15 e16 e17 e18 e19 e20 e21 e22 e23 e24 s9
      change Code.wp _ _ _ _ _
      refine wp_cond_false s172 (wp_skip ?_)
      change Code.wp _ _ _ _ _
      have hbb := hb2.trans (hb3.mono hb2.size)
      exact tick17_any B g g7 ⟨⟨⟨⟨age, kind, id, adv, seq, sum, long⟩, links, mem⟩, wanted, ⟨⟨age', kind', id', adv', seq', sum', long'⟩, links', mem'⟩, is, last, at_, ever⟩, now, told⟩ F ⟨A, c, B1, d⟩ ⟨A', c', B', d'⟩ (some ⟨bT, off, none⟩) ct ⟨⟨lage, lkind, lid, ladv, lseq, lsum, llong⟩, llinks, lmem⟩ ⟨LA, lc, LB, ld⟩ w w3 a3 hz hd s0 s7 Q hQ hB (hL.below hbb) (hW.trans (Went.of_below hbb (Nat.le_trans hB hW.below.size))) (hide (HK7.out.below hbb HK7.out.lt)) (hide (HO7.out.below hbb)) hF HT.out.len _ (by kernel_rfl)
    · by_cases hs : lseq ≤ h0.seq
      · refine wp_seq (wp_seq ?_)
        refine slots_by [fun v _ => v = .pointer (some ⟨g, 0, none⟩), fun v _ => v = .pointer (some ⟨g, 0, none⟩), fun v _ => v = .pointer (some ⟨g, 24, none⟩), fun v _ => v = .slice (some ⟨bT, off, none⟩) told.length ct, fun v _ => v = .int .i64 told.length, fun v _ => v = .int .i64 told.length]
          (by kernel_rfl) (by kernel_rfl) (by kernel_rfl) hz (by kernel_rfl) rfl
          ⟨fun _ _ _ _ h => h, fun _ _ _ _ h => h, fun _ _ _ _ h => h, fun _ _ _ _ h => h, fun _ _ _ _ h => h, fun _ _ _ _ h => h, trivial⟩
          ⟨fun a w1 hb hat => step_ok (on_none rfl) (run_move rfl ((hat.base 0 (by kernel_rfl)).trans s0)) ⟨_, rfl, Below.refl _ _, rfl⟩,
           fun a w1 hb hat => step_ok (on_none rfl) (run_nilCheck rfl (hat.dep 0 143 (by kernel_rfl) (by kernel_rfl))) ⟨_, rfl, Below.refl _ _, rfl⟩,
           fun a w1 hb hat => step_ok (on_none rfl) (run_fieldAddr (m := 24) rfl (hat.dep 1 144 (by kernel_rfl) (by kernel_rfl)) (by kernel_rfl) rfl) ⟨_, rfl, Below.refl _ _, rfl⟩,
           fun a w1 hb hat => step_ok (on_none rfl) (run_load rfl (hat.dep 2 145 (by kernel_rfl) (by kernel_rfl)) (by kernel_rfl) (show w1.cell? ⟨g, 24, none⟩ = some (.slice (some ⟨bT, off, none⟩) told.length ct) from Blk.cell (hK.below hb hK.lt) 24)) ⟨_, rfl, Below.refl _ _, rfl⟩,
           fun a w1 hb hat => step_ok (on_none rfl) (run_lenS rfl (hat.dep 3 146 (by kernel_rfl) (by kernel_rfl)) (by kernel_rfl)) ⟨_, rfl, Below.refl _ _, rfl⟩,
           fun a w1 hb hat => step_ok (on_none rfl) (run_assign rfl (hat.dep 4 147 (by kernel_rfl) (by kernel_rfl))) ⟨_, rfl, Below.refl _ _, rfl⟩, trivial⟩ ?_
        rintro vs a2 w2 hb2 ⟨e0, e1, e2, e3, e4, e5, -⟩ hput
        replace s0 : a2.tmps.getD 0 undef = .pointer (some ⟨g, 0, none⟩) := (hput.old 0 (by kernel_rfl)).trans s0
        replace s7 : a2.tmps.getD 7 undef = .pointer (some ⟨g7, 0, none⟩) := (hput.old 7 (by kernel_rfl)).trans s7
        have s9 : a2.tmps.getD 9 undef = .int .i64 told.length := (hput.new 5 9 rfl).trans e5
        replace hz := hput.size.trans hz
        replace hd := hput.defers.trans hd
        clear hput e0 e1 e2 e3 e4 e5
        have hK := hK.below hb2 hK.lt
        have hK7 := hK7.below hb2 hK7.lt
        have hC := cell_keep hC hb2
        change Code.wp _ _ _ _ _
        refine wp_seq ?_
        refine slots_by [fun v _ => v = .int .i64 told.length, fun v _ => v = .bool true, fun v _ => v = .bool true, fun v _ => v = .pointer (some ⟨g7, 0, none⟩), fun v _ => v = .pointer (some ⟨g7, 4, none⟩), fun v _ => v = .int .i64 lseq, fun v _ => v = .pointer (some ⟨g, 0, none⟩), fun v _ => v = .pointer (some ⟨g, 0, none⟩), fun v _ => v = .pointer (some ⟨g, 24, none⟩), fun v _ => v = .slice (some ⟨bT, off, none⟩) told.length ct, fun v _ => v = .int .i64 told.length, fun v _ => v = .int .i64 (told.length - 1), fun v _ => v = .pointer (some ⟨bT, o1, none⟩), fun v _ => v = .pointer (some ⟨bT, (o1 + 4), none⟩), fun v _ => v = .int .i64 h0.seq, fun v _ => v = .bool true, fun v _ => v = .bool true, fun v _ => v = .bool true, fun v _ => v = .pointer (some ⟨g, 0, none⟩), fun v _ => v = .pointer (some ⟨g, 0, none⟩), fun v _ => v = .pointer (some ⟨g, 0, none⟩), fun v _ => v = .pointer (some ⟨g, 20, none⟩), fun v _ => v = .int .i64 last, fun v _ => v = .bool false, fun v _ => v = .bool false]
          (by kernel_rfl) (by kernel_rfl) (by kernel_rfl) hz (by kernel_rfl) rfl
          ⟨fun _ _ _ _ h => h, fun _ _ _ _ h => h, fun _ _ _ _ h => h, fun _ _ _ _ h => h, fun _ _ _ _ h => h, fun _ _ _ _ h => h, fun _ _ _ _ h => h, fun _ _ _ _ h => h, fun _ _ _ _ h => h, fun _ _ _ _ h => h, fun _ _ _ _ h => h, fun _ _ _ _ h => h, fun _ _ _ _ h => h, fun _ _ _ _ h => h, fun _ _ _ _ h => h, fun _ _ _ _ h => h, fun _ _ _ _ h => h, fun _ _ _ _ h => h, fun _ _ _ _ h => h, fun _ _ _ _ h => h, fun _ _ _ _ h => h, fun _ _ _ _ h => h, fun _ _ _ _ h => h, fun _ _ _ _ h => h, fun _ _ _ _ h => h, trivial⟩
          ⟨fun a w1 hb hat => step_ok (on_none rfl) (run_move rfl ((hat.base 9 (by kernel_rfl)).trans s9)) ⟨_, rfl, Below.refl _ _, rfl⟩,
           fun a w1 hb hat => step_ok (on_none rfl) (run_cmp rfl (hat.dep 0 148 (by kernel_rfl) (by kernel_rfl)) rfl rfl (by simp; omega)) ⟨_, rfl, Below.refl _ _, rfl⟩,
           fun a w1 hb hat => step_ok (on_none rfl) (run_move rfl (hat.dep 1 149 (by kernel_rfl) (by kernel_rfl))) ⟨_, rfl, Below.refl _ _, rfl⟩,
           fun a w1 hb hat => step_ok (on_dep (b := true) (d := 150) rfl (by kernel_rfl) (hat.dep 2 150 (by kernel_rfl) (by kernel_rfl))) (run_fieldAddr (m := 0) rfl ((hat.base 7 (by kernel_rfl)).trans s7) (by kernel_rfl) rfl) ⟨_, rfl, Below.refl _ _, rfl⟩,
           fun a w1 hb hat => step_ok (on_dep (b := true) (d := 150) rfl (by kernel_rfl) (hat.dep 2 150 (by kernel_rfl) (by kernel_rfl))) (run_fieldAddr (m := 4) rfl (hat.dep 3 151 (by kernel_rfl) (by kernel_rfl)) (by kernel_rfl) rfl) ⟨_, rfl, Below.refl _ _, rfl⟩,
           fun a w1 hb hat => step_ok (on_dep (b := true) (d := 150) rfl (by kernel_rfl) (hat.dep 2 150 (by kernel_rfl) (by kernel_rfl))) (run_load rfl (hat.dep 4 152 (by kernel_rfl) (by kernel_rfl)) (by kernel_rfl) (show w1.cell? ⟨g7, 4, none⟩ = some (.int .i64 lseq) from Blk.cell (hK7.below hb hK7.lt) 4)) ⟨_, rfl, Below.refl _ _, rfl⟩,
           fun a w1 hb hat => step_ok (on_dep (b := true) (d := 150) rfl (by kernel_rfl) (hat.dep 2 150 (by kernel_rfl) (by kernel_rfl))) (run_move rfl ((hat.base 0 (by kernel_rfl)).trans s0)) ⟨_, rfl, Below.refl _ _, rfl⟩,
           fun a w1 hb hat => step_ok (on_dep (b := true) (d := 150) rfl (by kernel_rfl) (hat.dep 2 150 (by kernel_rfl) (by kernel_rfl))) (run_nilCheck rfl (hat.dep 6 154 (by kernel_rfl) (by kernel_rfl))) ⟨_, rfl, Below.refl _ _, rfl⟩,
           fun a w1 hb hat => step_ok (on_dep (b := true) (d := 150) rfl (by kernel_rfl) (hat.dep 2 150 (by kernel_rfl) (by kernel_rfl))) (run_fieldAddr (m := 24) rfl (hat.dep 7 155 (by kernel_rfl) (by kernel_rfl)) (by kernel_rfl) rfl) ⟨_, rfl, Below.refl _ _, rfl⟩,
           fun a w1 hb hat => step_ok (on_dep (b := true) (d := 150) rfl (by kernel_rfl) (hat.dep 2 150 (by kernel_rfl) (by kernel_rfl))) (run_load rfl (hat.dep 8 156 (by kernel_rfl) (by kernel_rfl)) (by kernel_rfl) (show w1.cell? ⟨g, 24, none⟩ = some (.slice (some ⟨bT, off, none⟩) told.length ct) from Blk.cell (hK.below hb hK.lt) 24)) ⟨_, rfl, Below.refl _ _, rfl⟩,
           fun a w1 hb hat => step_ok (on_dep (b := true) (d := 150) rfl (by kernel_rfl) (hat.dep 2 150 (by kernel_rfl) (by kernel_rfl))) (run_move rfl ((hat.base 9 (by kernel_rfl)).trans s9)) ⟨_, rfl, Below.refl _ _, rfl⟩,
           fun a w1 hb hat => step_ok (on_dep (b := true) (d := 150) rfl (by kernel_rfl) (hat.dep 2 150 (by kernel_rfl) (by kernel_rfl))) (run_subI rfl (hat.dep 10 158 (by kernel_rfl) (by kernel_rfl)) rfl (by omega) rfl) ⟨_, rfl, Below.refl _ _, rfl⟩,
           fun a w1 hb hat => step_ok (on_dep (b := true) (d := 150) rfl (by kernel_rfl) (hat.dep 2 150 (by kernel_rfl) (by kernel_rfl))) (run_indexS (size := 7) rfl (hat.dep 9 157 (by kernel_rfl) (by kernel_rfl)) (hat.dep 11 159 (by kernel_rfl) (by kernel_rfl)) (by kernel_rfl) ⟨by omega, by omega⟩ (by rw [← ho1, show ((told.length : Int) - 1).toNat = told.length - 1 by omega])) ⟨_, rfl, Below.refl _ _, rfl⟩,
           fun a w1 hb hat => step_ok (on_dep (b := true) (d := 150) rfl (by kernel_rfl) (hat.dep 2 150 (by kernel_rfl) (by kernel_rfl))) (run_fieldAddr (m := 4) rfl (hat.dep 12 160 (by kernel_rfl) (by kernel_rfl)) (by kernel_rfl) rfl) ⟨_, rfl, Below.refl _ _, rfl⟩,
           fun a w1 hb hat => step_ok (on_dep (b := true) (d := 150) rfl (by kernel_rfl) (hat.dep 2 150 (by kernel_rfl) (by kernel_rfl))) (run_load rfl (hat.dep 13 161 (by kernel_rfl) (by kernel_rfl)) (by kernel_rfl) (show w1.cell? ⟨bT, (o1 + 4), none⟩ = some (.int .i64 h0.seq) from (cell_keep hC hb))) ⟨_, rfl, Below.refl _ _, rfl⟩,
           fun a w1 hb hat => step_ok (on_dep (b := true) (d := 150) rfl (by kernel_rfl) (hat.dep 2 150 (by kernel_rfl) (by kernel_rfl))) (run_cmp rfl (hat.dep 5 153 (by kernel_rfl) (by kernel_rfl)) (hat.dep 14 162 (by kernel_rfl) (by kernel_rfl)) rfl (by simp; omega)) ⟨_, rfl, Below.refl _ _, rfl⟩,
           fun a w1 hb hat => step_ok (on_none rfl) (run_pick_t rfl (hat.dep 2 150 (by kernel_rfl) (by kernel_rfl)) (hat.dep 15 163 (by kernel_rfl) (by kernel_rfl))) ⟨_, rfl, Below.refl _ _, rfl⟩,
           fun a w1 hb hat => step_ok (on_none rfl) (run_move rfl (hat.dep 16 164 (by kernel_rfl) (by kernel_rfl))) ⟨_, rfl, Below.refl _ _, rfl⟩,
           fun a w1 hb hat => step_ok (on_dep (b := true) (d := 165) rfl (by kernel_rfl) (hat.dep 17 165 (by kernel_rfl) (by kernel_rfl))) (run_move rfl ((hat.base 0 (by kernel_rfl)).trans s0)) ⟨_, rfl, Below.refl _ _, rfl⟩,
           fun a w1 hb hat => step_ok (on_dep (b := true) (d := 165) rfl (by kernel_rfl) (hat.dep 17 165 (by kernel_rfl) (by kernel_rfl))) (run_nilCheck rfl (hat.dep 18 166 (by kernel_rfl) (by kernel_rfl))) ⟨_, rfl, Below.refl _ _, rfl⟩,
           fun a w1 hb hat => step_ok (on_dep (b := true) (d := 165) rfl (by kernel_rfl) (hat.dep 17 165 (by kernel_rfl) (by kernel_rfl))) (run_fieldAddr (m := 0) rfl (hat.dep 19 167 (by kernel_rfl) (by kernel_rfl)) (by kernel_rfl) rfl) ⟨_, rfl, Below.refl _ _, rfl⟩,
           fun a w1 hb hat => step_ok (on_dep (b := true) (d := 165) rfl (by kernel_rfl) (hat.dep 17 165 (by kernel_rfl) (by kernel_rfl))) (run_fieldAddr (m := 20) rfl (hat.dep 20 168 (by kernel_rfl) (by kernel_rfl)) (by kernel_rfl) rfl) ⟨_, rfl, Below.refl _ _, rfl⟩,
           fun a w1 hb hat => step_ok (on_dep (b := true) (d := 165) rfl (by kernel_rfl) (hat.dep 17 165 (by kernel_rfl) (by kernel_rfl))) (run_load rfl (hat.dep 21 169 (by kernel_rfl) (by kernel_rfl)) (by kernel_rfl) (show w1.cell? ⟨g, 20, none⟩ = some (.int .i64 last) from Blk.cell (hK.below hb hK.lt) 20)) ⟨_, rfl, Below.refl _ _, rfl⟩,
           fun a w1 hb hat => step_ok (on_dep (b := true) (d := 165) rfl (by kernel_rfl) (hat.dep 17 165 (by kernel_rfl) (by kernel_rfl))) (run_cmp rfl (hat.dep 22 170 (by kernel_rfl) (by kernel_rfl)) rfl rfl (by simp; omega)) ⟨_, rfl, Below.refl _ _, rfl⟩,
           fun a w1 hb hat => step_ok (on_none rfl) (run_pick_t rfl (hat.dep 17 165 (by kernel_rfl) (by kernel_rfl)) (hat.dep 23 171 (by kernel_rfl) (by kernel_rfl))) ⟨_, rfl, Below.refl _ _, rfl⟩, trivial⟩ ?_
        rintro vs a3 w3 hb3 ⟨e0, e1, e2, e3, e4, e5, e6, e7, e8, e9, e10, e11, e12, e13, e14, e15, e16, e17, e18, e19, e20, e21, e22, e23, e24, -⟩ hput
        replace s0 : a3.tmps.getD 0 undef = .pointer (some ⟨g, 0, none⟩) := (hput.old 0 (by kernel_rfl)).trans s0
        replace s7 : a3.tmps.getD 7 undef = .pointer (some ⟨g7, 0, none⟩) := (hput.old 7 (by kernel_rfl)).trans s7
        have s172 : a3.tmps.getD 172 undef = .bool false := (hput.new 24 172 rfl).trans e24
        replace hz := hput.size.trans hz
        replace hd := hput.defers.trans hd
        clear hput e0 e1 e2 e3 e4 e5 e6 e7 e8 e9 e10 e11 e12 e13 e14 e15 e16 e17 e18 e19 e20 e21 e22 e23 e24 s9
        change Code.wp _ _ _ _ _
        refine wp_cond_false s172 (wp_skip ?_)
        change Code.wp _ _ _ _ _
        have hbb := hb2.trans (hb3.mono hb2.size)
        exact tick17_any B g g7 ⟨⟨⟨⟨age, kind, id, adv, seq, sum, long⟩, links, mem⟩, wanted, ⟨⟨age', kind', id', adv', seq', sum', long'⟩, links', mem'⟩, is, last, at_, ever⟩, now, told⟩ F ⟨A, c, B1, d⟩ ⟨A', c', B', d'⟩ (some ⟨bT, off, none⟩) ct ⟨⟨lage, lkind, lid, ladv, lseq, lsum, llong⟩, llinks, lmem⟩ ⟨LA, lc, LB, ld⟩ w w3 a3 hz hd s0 s7 Q hQ hB (hL.below hbb) (hW.trans (Went.of_below hbb (Nat.le_trans hB hW.below.size))) (hide (HK7.out.below hbb HK7.out.lt)) (hide (HO7.out.below hbb)) hF HT.out.len _ (by kernel_rfl)
      · refine wp_seq (wp_seq ?_)
        refine slots_by [fun v _ => v = .pointer (some ⟨g, 0, none⟩), fun v _ => v = .pointer (some ⟨g, 0, none⟩), fun v _ => v = .pointer (some ⟨g, 24, none⟩), fun v _ => v = .slice (some ⟨bT, off, none⟩) told.length ct, fun v _ => v = .int .i64 told.length, fun v _ => v = .int .i64 told.length]
          (by kernel_rfl) (by kernel_rfl) (by kernel_rfl) hz (by kernel_rfl) rfl
          ⟨fun _ _ _ _ h => h, fun _ _ _ _ h => h, fun _ _ _ _ h => h, fun _ _ _ _ h => h, fun _ _ _ _ h => h, fun _ _ _ _ h => h, trivial⟩
          ⟨fun a w1 hb hat => step_ok (on_none rfl) (run_move rfl ((hat.base 0 (by kernel_rfl)).trans s0)) ⟨_, rfl, Below.refl _ _, rfl⟩,
           fun a w1 hb hat => step_ok (on_none rfl) (run_nilCheck rfl (hat.dep 0 143 (by kernel_rfl) (by kernel_rfl))) ⟨_, rfl, Below.refl _ _, rfl⟩,
           fun a w1 hb hat => step_ok (on_none rfl) (run_fieldAddr (m := 24) rfl (hat.dep 1 144 (by kernel_rfl) (by kernel_rfl)) (by kernel_rfl) rfl) ⟨_, rfl, Below.refl _ _, rfl⟩,
           fun a w1 hb hat => step_ok (on_none rfl) (run_load rfl (hat.dep 2 145 (by kernel_rfl) (by kernel_rfl)) (by kernel_rfl) (show w1.cell? ⟨g, 24, none⟩ = some (.slice (some ⟨bT, off, none⟩) told.length ct) from Blk.cell (hK.below hb hK.lt) 24)) ⟨_, rfl, Below.refl _ _, rfl⟩,
           fun a w1 hb hat => step_ok (on_none rfl) (run_lenS rfl (hat.dep 3 146 (by kernel_rfl) (by kernel_rfl)) (by kernel_rfl)) ⟨_, rfl, Below.refl _ _, rfl⟩,
           fun a w1 hb hat => step_ok (on_none rfl) (run_assign rfl (hat.dep 4 147 (by kernel_rfl) (by kernel_rfl))) ⟨_, rfl, Below.refl _ _, rfl⟩, trivial⟩ ?_
        rintro vs a2 w2 hb2 ⟨e0, e1, e2, e3, e4, e5, -⟩ hput
        replace s0 : a2.tmps.getD 0 undef = .pointer (some ⟨g, 0, none⟩) := (hput.old 0 (by kernel_rfl)).trans s0
        replace s7 : a2.tmps.getD 7 undef = .pointer (some ⟨g7, 0, none⟩) := (hput.old 7 (by kernel_rfl)).trans s7
        have s9 : a2.tmps.getD 9 undef = .int .i64 told.length := (hput.new 5 9 rfl).trans e5
        replace hz := hput.size.trans hz
        replace hd := hput.defers.trans hd
        clear hput e0 e1 e2 e3 e4 e5
        have hK := hK.below hb2 hK.lt
        have hK7 := hK7.below hb2 hK7.lt
        have hC := cell_keep hC hb2
        change Code.wp _ _ _ _ _
        refine wp_seq ?_
        refine slots_by [fun v _ => v = .int .i64 told.length, fun v _ => v = .bool true, fun v _ => v = .bool true, fun v _ => v = .pointer (some ⟨g7, 0, none⟩), fun v _ => v = .pointer (some ⟨g7, 4, none⟩), fun v _ => v = .int .i64 lseq, fun v _ => v = .pointer (some ⟨g, 0, none⟩), fun v _ => v = .pointer (some ⟨g, 0, none⟩), fun v _ => v = .pointer (some ⟨g, 24, none⟩), fun v _ => v = .slice (some ⟨bT, off, none⟩) told.length ct, fun v _ => v = .int .i64 told.length, fun v _ => v = .int .i64 (told.length - 1), fun v _ => v = .pointer (some ⟨bT, o1, none⟩), fun v _ => v = .pointer (some ⟨bT, (o1 + 4), none⟩), fun v _ => v = .int .i64 h0.seq, fun v _ => v = .bool false, fun v _ => v = .bool false, fun v _ => v = .bool false, fun v _ => v = undef, fun v _ => v = undef, fun v _ => v = undef, fun v _ => v = undef, fun v _ => v = undef, fun v _ => v = undef, fun v _ => v = .bool false]
          (by kernel_rfl) (by kernel_rfl) (by kernel_rfl) hz (by kernel_rfl) rfl
          ⟨fun _ _ _ _ h => h, fun _ _ _ _ h => h, fun _ _ _ _ h => h, fun _ _ _ _ h => h, fun _ _ _ _ h => h, fun _ _ _ _ h => h, fun _ _ _ _ h => h, fun _ _ _ _ h => h, fun _ _ _ _ h => h, fun _ _ _ _ h => h, fun _ _ _ _ h => h, fun _ _ _ _ h => h, fun _ _ _ _ h => h, fun _ _ _ _ h => h, fun _ _ _ _ h => h, fun _ _ _ _ h => h, fun _ _ _ _ h => h, fun _ _ _ _ h => h, fun _ _ _ _ h => h, fun _ _ _ _ h => h, fun _ _ _ _ h => h, fun _ _ _ _ h => h, fun _ _ _ _ h => h, fun _ _ _ _ h => h, fun _ _ _ _ h => h, trivial⟩
          ⟨fun a w1 hb hat => step_ok (on_none rfl) (run_move rfl ((hat.base 9 (by kernel_rfl)).trans s9)) ⟨_, rfl, Below.refl _ _, rfl⟩,
           fun a w1 hb hat => step_ok (on_none rfl) (run_cmp rfl (hat.dep 0 148 (by kernel_rfl) (by kernel_rfl)) rfl rfl (by simp; omega)) ⟨_, rfl, Below.refl _ _, rfl⟩,
           fun a w1 hb hat => step_ok (on_none rfl) (run_move rfl (hat.dep 1 149 (by kernel_rfl) (by kernel_rfl))) ⟨_, rfl, Below.refl _ _, rfl⟩,
           fun a w1 hb hat => step_ok (on_dep (b := true) (d := 150) rfl (by kernel_rfl) (hat.dep 2 150 (by kernel_rfl) (by kernel_rfl))) (run_fieldAddr (m := 0) rfl ((hat.base 7 (by kernel_rfl)).trans s7) (by kernel_rfl) rfl) ⟨_, rfl, Below.refl _ _, rfl⟩,
           fun a w1 hb hat => step_ok (on_dep (b := true) (d := 150) rfl (by kernel_rfl) (hat.dep 2 150 (by kernel_rfl) (by kernel_rfl))) (run_fieldAddr (m := 4) rfl (hat.dep 3 151 (by kernel_rfl) (by kernel_rfl)) (by kernel_rfl) rfl) ⟨_, rfl, Below.refl _ _, rfl⟩,
           fun a w1 hb hat => step_ok (on_dep (b := true) (d := 150) rfl (by kernel_rfl) (hat.dep 2 150 (by kernel_rfl) (by kernel_rfl))) (run_load rfl (hat.dep 4 152 (by kernel_rfl) (by kernel_rfl)) (by kernel_rfl) (show w1.cell? ⟨g7, 4, none⟩ = some (.int .i64 lseq) from Blk.cell (hK7.below hb hK7.lt) 4)) ⟨_, rfl, Below.refl _ _, rfl⟩,
           fun a w1 hb hat => step_ok (on_dep (b := true) (d := 150) rfl (by kernel_rfl) (hat.dep 2 150 (by kernel_rfl) (by kernel_rfl))) (run_move rfl ((hat.base 0 (by kernel_rfl)).trans s0)) ⟨_, rfl, Below.refl _ _, rfl⟩,
           fun a w1 hb hat => step_ok (on_dep (b := true) (d := 150) rfl (by kernel_rfl) (hat.dep 2 150 (by kernel_rfl) (by kernel_rfl))) (run_nilCheck rfl (hat.dep 6 154 (by kernel_rfl) (by kernel_rfl))) ⟨_, rfl, Below.refl _ _, rfl⟩,
           fun a w1 hb hat => step_ok (on_dep (b := true) (d := 150) rfl (by kernel_rfl) (hat.dep 2 150 (by kernel_rfl) (by kernel_rfl))) (run_fieldAddr (m := 24) rfl (hat.dep 7 155 (by kernel_rfl) (by kernel_rfl)) (by kernel_rfl) rfl) ⟨_, rfl, Below.refl _ _, rfl⟩,
           fun a w1 hb hat => step_ok (on_dep (b := true) (d := 150) rfl (by kernel_rfl) (hat.dep 2 150 (by kernel_rfl) (by kernel_rfl))) (run_load rfl (hat.dep 8 156 (by kernel_rfl) (by kernel_rfl)) (by kernel_rfl) (show w1.cell? ⟨g, 24, none⟩ = some (.slice (some ⟨bT, off, none⟩) told.length ct) from Blk.cell (hK.below hb hK.lt) 24)) ⟨_, rfl, Below.refl _ _, rfl⟩,
           fun a w1 hb hat => step_ok (on_dep (b := true) (d := 150) rfl (by kernel_rfl) (hat.dep 2 150 (by kernel_rfl) (by kernel_rfl))) (run_move rfl ((hat.base 9 (by kernel_rfl)).trans s9)) ⟨_, rfl, Below.refl _ _, rfl⟩,
           fun a w1 hb hat => step_ok (on_dep (b := true) (d := 150) rfl (by kernel_rfl) (hat.dep 2 150 (by kernel_rfl) (by kernel_rfl))) (run_subI rfl (hat.dep 10 158 (by kernel_rfl) (by kernel_rfl)) rfl (by omega) rfl) ⟨_, rfl, Below.refl _ _, rfl⟩,
           fun a w1 hb hat => step_ok (on_dep (b := true) (d := 150) rfl (by kernel_rfl) (hat.dep 2 150 (by kernel_rfl) (by kernel_rfl))) (run_indexS (size := 7) rfl (hat.dep 9 157 (by kernel_rfl) (by kernel_rfl)) (hat.dep 11 159 (by kernel_rfl) (by kernel_rfl)) (by kernel_rfl) ⟨by omega, by omega⟩ (by rw [← ho1, show ((told.length : Int) - 1).toNat = told.length - 1 by omega])) ⟨_, rfl, Below.refl _ _, rfl⟩,
           fun a w1 hb hat => step_ok (on_dep (b := true) (d := 150) rfl (by kernel_rfl) (hat.dep 2 150 (by kernel_rfl) (by kernel_rfl))) (run_fieldAddr (m := 4) rfl (hat.dep 12 160 (by kernel_rfl) (by kernel_rfl)) (by kernel_rfl) rfl) ⟨_, rfl, Below.refl _ _, rfl⟩,
           fun a w1 hb hat => step_ok (on_dep (b := true) (d := 150) rfl (by kernel_rfl) (hat.dep 2 150 (by kernel_rfl) (by kernel_rfl))) (run_load rfl (hat.dep 13 161 (by kernel_rfl) (by kernel_rfl)) (by kernel_rfl) (show w1.cell? ⟨bT, (o1 + 4), none⟩ = some (.int .i64 h0.seq) from (cell_keep hC hb))) ⟨_, rfl, Below.refl _ _, rfl⟩,
           fun a w1 hb hat => step_ok (on_dep (b := true) (d := 150) rfl (by kernel_rfl) (hat.dep 2 150 (by kernel_rfl) (by kernel_rfl))) (run_cmp rfl (hat.dep 5 153 (by kernel_rfl) (by kernel_rfl)) (hat.dep 14 162 (by kernel_rfl) (by kernel_rfl)) rfl (by simp; omega)) ⟨_, rfl, Below.refl _ _, rfl⟩,
           fun a w1 hb hat => step_ok (on_none rfl) (run_pick_t rfl (hat.dep 2 150 (by kernel_rfl) (by kernel_rfl)) (hat.dep 15 163 (by kernel_rfl) (by kernel_rfl))) ⟨_, rfl, Below.refl _ _, rfl⟩,
           fun a w1 hb hat => step_ok (on_none rfl) (run_move rfl (hat.dep 16 164 (by kernel_rfl) (by kernel_rfl))) ⟨_, rfl, Below.refl _ _, rfl⟩,
           fun a w1 hb hat => step_off (off_dep (b := true) (d := 165) rfl (by kernel_rfl) (hat.dep 17 165 (by kernel_rfl) (by kernel_rfl))) rfl,
           fun a w1 hb hat => step_off (off_dep (b := true) (d := 165) rfl (by kernel_rfl) (hat.dep 17 165 (by kernel_rfl) (by kernel_rfl))) rfl,
           fun a w1 hb hat => step_off (off_dep (b := true) (d := 165) rfl (by kernel_rfl) (hat.dep 17 165 (by kernel_rfl) (by kernel_rfl))) rfl,
           fun a w1 hb hat => step_off (off_dep (b := true) (d := 165) rfl (by kernel_rfl) (hat.dep 17 165 (by kernel_rfl) (by kernel_rfl))) rfl,
           fun a w1 hb hat => step_off (off_dep (b := true) (d := 165) rfl (by kernel_rfl) (hat.dep 17 165 (by kernel_rfl) (by kernel_rfl))) rfl,
           fun a w1 hb hat => step_off (off_dep (b := true) (d := 165) rfl (by kernel_rfl) (hat.dep 17 165 (by kernel_rfl) (by kernel_rfl))) rfl,
           fun a w1 hb hat => step_ok (on_none rfl) (run_pick_f rfl (hat.dep 17 165 (by kernel_rfl) (by kernel_rfl)) rfl) ⟨_, rfl, Below.refl _ _, rfl⟩, trivial⟩ ?_
        rintro vs a3 w3 hb3 ⟨e0, e1, e2, e3, e4, e5, e6, e7, e8, e9, e10, e11, e12, e13, e14, e15, e16, e17, e18, e19, e20, e21, e22, e23, e24, -⟩ hput
        replace s0 : a3.tmps.getD 0 undef = .pointer (some ⟨g, 0, none⟩) := (hput.old 0 (by kernel_rfl)).trans s0
        replace s7 : a3.tmps.getD 7 undef = .pointer (some ⟨g7, 0, none⟩) := (hput.old 7 (by kernel_rfl)).trans s7
        have s172 : a3.tmps.getD 172 undef = .bool false := (hput.new 24 172 rfl).trans e24
        replace hz := hput.size.trans hz
        replace hd := hput.defers.trans hd
        clear hput e0 e1 e2 e3 e4 e5 e6 e7 e8 e9 e10 e11 e12 e13 e14 e15 e16 e17 e18 e19 e20 e21 e22 e23 e24 s9
        change Code.wp _ _ _ _ _
        refine wp_cond_false s172 (wp_skip ?_)
        change Code.wp _ _ _ _ _
        have hbb := hb2.trans (hb3.mono hb2.size)
        exact tick17_any B g g7 ⟨⟨⟨⟨age, kind, id, adv, seq, sum, long⟩, links, mem⟩, wanted, ⟨⟨age', kind', id', adv', seq', sum', long'⟩, links', mem'⟩, is, last, at_, ever⟩, now, told⟩ F ⟨A, c, B1, d⟩ ⟨A', c', B', d'⟩ (some ⟨bT, off, none⟩) ct ⟨⟨lage, lkind, lid, ladv, lseq, lsum, llong⟩, llinks, lmem⟩ ⟨LA, lc, LB, ld⟩ w w3 a3 hz hd s0 s7 Q hQ hB (hL.below hbb) (hW.trans (Went.of_below hbb (Nat.le_trans hB hW.below.size))) (hide (HK7.out.below hbb HK7.out.lt)) (hide (HO7.out.below hbb)) hF HT.out.len _ (by kernel_rfl)
set_option maxRecDepth 100000 in
set_option maxHeartbeats 8000000 in
theorem tick12_any (B g g7 : Nat) (s F : LS) (p q : LP) (At : Option Addr) (ct : Nat) (l : LV) (pl : LP) (w wr : World) (a : Act) (hz : a.tmps.size = 248) (hd : a.defers = [])
    (s0 : a.tmps.getD 0 undef = .pointer (some ⟨g, 0, none⟩)) (s7 : a.tmps.getD 7 undef = .pointer (some ⟨g7, 0, none⟩)) (Q : Exit → Act → World → Prop) (hQ : ∀ a' w', a'.tmps.size = 248 → a'.defers = [] → (∃ p q A c, Life B w' g F p q A c ∧ Went B w w') → Q .normal a' w')
    (hB : B ≤ w.heap.size) (hL : Life B wr g s p q At ct) (hW : Went B w wr)
    (HK7 : Hid (Blk wr g7 27 (lsaA l pl))) (HO7 : Hid (LOwn wr B l pl)) (hF : Hid (F = doneF s (l, 1))) (hT : TOK s) (HTD : Hid (Told s l))
    (cde : Code) (hcd : seqOf Try.f20 12 = cde) : Code.wp Try.prog cde Q a wr := by
  subst hcd
  conv => arg 2; whnf
  obtain ⟨⟨⟨⟨age, kind, id, adv, seq, sum, long⟩, links, mem⟩, wanted, ⟨⟨age', kind', id', adv', seq', sum', long'⟩, links', mem'⟩, is, last, at_, ever⟩, now, told⟩ := s
  obtain ⟨A, c, B1, d⟩ := p
  obtain ⟨A', c', B', d'⟩ := q
  obtain ⟨⟨lage, lkind, lid, ladv, lseq, lsum, llong⟩, llinks, lmem⟩ := l
  obtain ⟨LA, lc, LB, ld⟩ := pl
  have HT := hide hT
  clear hT
  have hK := hL.blk
  have hK7 := HK7.out
  cases is with
  | false =>
    refine wp_seq (wp_seq ?_)
    refine slots_by [fun v _ => v = .pointer (some ⟨g, 0, none⟩), fun v _ => v = .pointer (some ⟨g, 0, none⟩), fun v _ => v = .pointer (some ⟨g, 0, none⟩), fun v _ => v = .pointer (some ⟨g, 19, none⟩), fun v _ => v = .bool false, fun v _ => v = .bool false, fun v _ => v = undef, fun v _ => v = undef, fun v _ => v = undef, fun v _ => v = undef, fun v _ => v = undef, fun v _ => v = undef, fun v _ => v = undef, fun v _ => v = undef, fun v _ => v = undef, fun v _ => v = undef, fun v _ => v = .bool false]
      (by kernel_rfl) (by kernel_rfl) (by kernel_rfl) hz (by kernel_rfl) rfl
      ⟨fun _ _ _ _ h => h, fun _ _ _ _ h => h, fun _ _ _ _ h => h, fun _ _ _ _ h => h, fun _ _ _ _ h => h, fun _ _ _ _ h => h, fun _ _ _ _ h => h, fun _ _ _ _ h => h, fun _ _ _ _ h => h, fun _ _ _ _ h => h, fun _ _ _ _ h => h, fun _ _ _ _ h => h, fun _ _ _ _ h => h, fun _ _ _ _ h => h, fun _ _ _ _ h => h, fun _ _ _ _ h => h, fun _ _ _ _ h => h, trivial⟩
      ⟨fun a w1 hb hat => step_ok (on_none rfl) (run_move rfl ((hat.base 0 (by kernel_rfl)).trans s0)) ⟨_, rfl, Below.refl _ _, rfl⟩,
       fun a w1 hb hat => step_ok (on_none rfl) (run_nilCheck rfl (hat.dep 0 126 (by kernel_rfl) (by kernel_rfl))) ⟨_, rfl, Below.refl _ _, rfl⟩,
       fun a w1 hb hat => step_ok (on_none rfl) (run_fieldAddr (m := 0) rfl (hat.dep 1 127 (by kernel_rfl) (by kernel_rfl)) (by kernel_rfl) rfl) ⟨_, rfl, Below.refl _ _, rfl⟩,
       fun a w1 hb hat => step_ok (on_none rfl) (run_fieldAddr (m := 19) rfl (hat.dep 2 128 (by kernel_rfl) (by kernel_rfl)) (by kernel_rfl) rfl) ⟨_, rfl, Below.refl _ _, rfl⟩,
       fun a w1 hb hat => step_ok (on_none rfl) (run_load rfl (hat.dep 3 129 (by kernel_rfl) (by kernel_rfl)) (by kernel_rfl) (show w1.cell? ⟨g, 19, none⟩ = some (.bool false) from Blk.cell (hK.below hb hK.lt) 19)) ⟨_, rfl, Below.refl _ _, rfl⟩,
       fun a w1 hb hat => step_ok (on_none rfl) (run_move rfl (hat.dep 4 130 (by kernel_rfl) (by kernel_rfl))) ⟨_, rfl, Below.refl _ _, rfl⟩,
       fun a w1 hb hat => step_off (off_dep (b := true) (d := 131) rfl (by kernel_rfl) (hat.dep 5 131 (by kernel_rfl) (by kernel_rfl))) rfl,
       fun a w1 hb hat => step_off (off_dep (b := true) (d := 131) rfl (by kernel_rfl) (hat.dep 5 131 (by kernel_rfl) (by kernel_rfl))) rfl,
       fun a w1 hb hat => step_off (off_dep (b := true) (d := 131) rfl (by kernel_rfl) (hat.dep 5 131 (by kernel_rfl) (by kernel_rfl))) rfl,
       fun a w1 hb hat => step_off (off_dep (b := true) (d := 131) rfl (by kernel_rfl) (hat.dep 5 131 (by kernel_rfl) (by kernel_rfl))) rfl,
       fun a w1 hb hat => step_off (off_dep (b := true) (d := 131) rfl (by kernel_rfl) (hat.dep 5 131 (by kernel_rfl) (by kernel_rfl))) rfl,
       fun a w1 hb hat => step_off (off_dep (b := true) (d := 131) rfl (by kernel_rfl) (hat.dep 5 131 (by kernel_rfl) (by kernel_rfl))) rfl,
       fun a w1 hb hat => step_off (off_dep (b := true) (d := 131) rfl (by kernel_rfl) (hat.dep 5 131 (by kernel_rfl) (by kernel_rfl))) rfl,
       fun a w1 hb hat => step_off (off_dep (b := true) (d := 131) rfl (by kernel_rfl) (hat.dep 5 131 (by kernel_rfl) (by kernel_rfl))) rfl,
       fun a w1 hb hat => step_off (off_dep (b := true) (d := 131) rfl (by kernel_rfl) (hat.dep 5 131 (by kernel_rfl) (by kernel_rfl))) rfl,
       fun a w1 hb hat => step_off (off_dep (b := true) (d := 131) rfl (by kernel_rfl) (hat.dep 5 131 (by kernel_rfl) (by kernel_rfl))) rfl,
       fun a w1 hb hat => step_ok (on_none rfl) (run_pick_f rfl (hat.dep 5 131 (by kernel_rfl) (by kernel_rfl)) rfl) ⟨_, rfl, Below.refl _ _, rfl⟩, trivial⟩ ?_
    rintro vs a3 w3 hbb ⟨e0, e1, e2, e3, e4, e5, e6, e7, e8, e9, e10, e11, e12, e13, e14, e15, e16, -⟩ hput
    replace s0 : a3.tmps.getD 0 undef = .pointer (some ⟨g, 0, none⟩) := (hput.old 0 (by kernel_rfl)).trans s0
    replace s7 : a3.tmps.getD 7 undef = .pointer (some ⟨g7, 0, none⟩) := (hput.old 7 (by kernel_rfl)).trans s7
    have s142 : a3.tmps.getD 142 undef = .bool false := (hput.new 16 142 rfl).trans e16
    replace hz := hput.size.trans hz
    replace hd := hput.defers.trans hd
    clear hput e0 e1 e2 e3 e4 e5 e6 e7 e8 e9 e10 e11 e12 e13 e14 e15 e16
    change Code.wp _ _ _ _ _
    refine wp_cond_false s142 (wp_skip ?_)
    change Code.wp _ _ _ _ _
    exact tick14_any B g g7 ⟨⟨⟨⟨age, kind, id, adv, seq, sum, long⟩, links, mem⟩, wanted, ⟨⟨age', kind', id', adv', seq', sum', long'⟩, links', mem'⟩, false, last, at_, ever⟩, now, told⟩ F ⟨A, c, B1, d⟩ ⟨A', c', B', d'⟩ At ct ⟨⟨lage, lkind, lid, ladv, lseq, lsum, llong⟩, llinks, lmem⟩ ⟨LA, lc, LB, ld⟩ w w3 a3 hz hd s0 s7 Q hQ hB (hL.below hbb) (hW.trans (Went.of_below hbb (Nat.le_trans hB hW.below.size))) (hide (HK7.out.below hbb HK7.out.lt)) (hide (HO7.out.below hbb)) hF HT.out HTD _ (by kernel_rfl)
  | true =>
    have HA0 := hide (show lage = 0 from HTD.out.age)
    have HA1 := hide (show 0 ≤ age' ∧ age' ≤ 60 from (HT.out.held rfl).2)
    have HSQ := hide (show seq' < lseq from HTD.out.newer rfl)
    refine wp_seq (wp_seq ?_)
    refine slots_by [fun v _ => v = .pointer (some ⟨g, 0, none⟩), fun v _ => v = .pointer (some ⟨g, 0, none⟩), fun v _ => v = .pointer (some ⟨g, 0, none⟩), fun v _ => v = .pointer (some ⟨g, 19, none⟩), fun v _ => v = .bool true, fun v _ => v = .bool true, fun v _ => v = .pointer (some ⟨g7, 0, none⟩), fun v _ => v = .agg (List.toArray [.int .i64 lage, .int .i64 lkind, .int .i64 lid, .int .i64 ladv, .int .i64 lseq, .int .i64 lsum, .int .i64 llong]), fun v _ => v = .pointer (some ⟨g, 0, none⟩), fun v _ => v = .pointer (some ⟨g, 0, none⟩), fun v _ => v = .pointer (some ⟨g, 0, none⟩), fun v _ => v = .pointer (some ⟨g, 10, none⟩), fun v _ => v = .pointer (some ⟨g, 10, none⟩), fun v _ => v = .agg (List.toArray [.int .i64 age', .int .i64 kind', .int .i64 id', .int .i64 adv', .int .i64 seq', .int .i64 sum', .int .i64 long']), fun v _ => v = .int .i64 1, fun v _ => v = .bool false, fun v _ => v = .bool false]
      (by kernel_rfl) (by kernel_rfl) (by kernel_rfl) hz (by kernel_rfl) rfl
      ⟨fun _ _ _ _ h => h, fun _ _ _ _ h => h, fun _ _ _ _ h => h, fun _ _ _ _ h => h, fun _ _ _ _ h => h, fun _ _ _ _ h => h, fun _ _ _ _ h => h, fun _ _ _ _ h => h, fun _ _ _ _ h => h, fun _ _ _ _ h => h, fun _ _ _ _ h => h, fun _ _ _ _ h => h, fun _ _ _ _ h => h, fun _ _ _ _ h => h, fun _ _ _ _ h => h, fun _ _ _ _ h => h, fun _ _ _ _ h => h, trivial⟩
      ⟨fun a w1 hb hat => step_ok (on_none rfl) (run_move rfl ((hat.base 0 (by kernel_rfl)).trans s0)) ⟨_, rfl, Below.refl _ _, rfl⟩,
       fun a w1 hb hat => step_ok (on_none rfl) (run_nilCheck rfl (hat.dep 0 126 (by kernel_rfl) (by kernel_rfl))) ⟨_, rfl, Below.refl _ _, rfl⟩,
       fun a w1 hb hat => step_ok (on_none rfl) (run_fieldAddr (m := 0) rfl (hat.dep 1 127 (by kernel_rfl) (by kernel_rfl)) (by kernel_rfl) rfl) ⟨_, rfl, Below.refl _ _, rfl⟩,
       fun a w1 hb hat => step_ok (on_none rfl) (run_fieldAddr (m := 19) rfl (hat.dep 2 128 (by kernel_rfl) (by kernel_rfl)) (by kernel_rfl) rfl) ⟨_, rfl, Below.refl _ _, rfl⟩,
       fun a w1 hb hat => step_ok (on_none rfl) (run_load rfl (hat.dep 3 129 (by kernel_rfl) (by kernel_rfl)) (by kernel_rfl) (show w1.cell? ⟨g, 19, none⟩ = some (.bool true) from Blk.cell (hK.below hb hK.lt) 19)) ⟨_, rfl, Below.refl _ _, rfl⟩,
       fun a w1 hb hat => step_ok (on_none rfl) (run_move rfl (hat.dep 4 130 (by kernel_rfl) (by kernel_rfl))) ⟨_, rfl, Below.refl _ _, rfl⟩,
       fun a w1 hb hat => step_ok (on_dep (b := true) (d := 131) rfl (by kernel_rfl) (hat.dep 5 131 (by kernel_rfl) (by kernel_rfl))) (run_fieldAddr (m := 0) rfl ((hat.base 7 (by kernel_rfl)).trans s7) (by kernel_rfl) rfl) ⟨_, rfl, Below.refl _ _, rfl⟩,
       fun a w1 hb hat => step_ok (on_dep (b := true) (d := 131) rfl (by kernel_rfl) (hat.dep 5 131 (by kernel_rfl) (by kernel_rfl))) (run_loadS (n := 7) (out := [.int .i64 lage, .int .i64 lkind, .int .i64 lid, .int .i64 ladv, .int .i64 lseq, .int .i64 lsum, .int .i64 llong]) rfl (hat.dep 6 132 (by kernel_rfl) (by kernel_rfl)) (by kernel_rfl) (hK7.below hb hK7.lt) rfl rfl) ⟨_, rfl, Below.refl _ _, rfl⟩,
       fun a w1 hb hat => step_ok (on_dep (b := true) (d := 131) rfl (by kernel_rfl) (hat.dep 5 131 (by kernel_rfl) (by kernel_rfl))) (run_move rfl ((hat.base 0 (by kernel_rfl)).trans s0)) ⟨_, rfl, Below.refl _ _, rfl⟩,
       fun a w1 hb hat => step_ok (on_dep (b := true) (d := 131) rfl (by kernel_rfl) (hat.dep 5 131 (by kernel_rfl) (by kernel_rfl))) (run_nilCheck rfl (hat.dep 8 134 (by kernel_rfl) (by kernel_rfl))) ⟨_, rfl, Below.refl _ _, rfl⟩,
       fun a w1 hb hat => step_ok (on_dep (b := true) (d := 131) rfl (by kernel_rfl) (hat.dep 5 131 (by kernel_rfl) (by kernel_rfl))) (run_fieldAddr (m := 0) rfl (hat.dep 9 135 (by kernel_rfl) (by kernel_rfl)) (by kernel_rfl) rfl) ⟨_, rfl, Below.refl _ _, rfl⟩,
       fun a w1 hb hat => step_ok (on_dep (b := true) (d := 131) rfl (by kernel_rfl) (hat.dep 5 131 (by kernel_rfl) (by kernel_rfl))) (run_fieldAddr (m := 10) rfl (hat.dep 10 136 (by kernel_rfl) (by kernel_rfl)) (by kernel_rfl) rfl) ⟨_, rfl, Below.refl _ _, rfl⟩,
       fun a w1 hb hat => step_ok (on_dep (b := true) (d := 131) rfl (by kernel_rfl) (hat.dep 5 131 (by kernel_rfl) (by kernel_rfl))) (run_fieldAddr (m := 0) rfl (hat.dep 11 137 (by kernel_rfl) (by kernel_rfl)) (by kernel_rfl) rfl) ⟨_, rfl, Below.refl _ _, rfl⟩,
       fun a w1 hb hat => step_ok (on_dep (b := true) (d := 131) rfl (by kernel_rfl) (hat.dep 5 131 (by kernel_rfl) (by kernel_rfl))) (run_loadS (n := 7) (out := [.int .i64 age', .int .i64 kind', .int .i64 id', .int .i64 adv', .int .i64 seq', .int .i64 sum', .int .i64 long']) rfl (hat.dep 12 138 (by kernel_rfl) (by kernel_rfl)) (by kernel_rfl) (hK.below hb hK.lt) rfl rfl) ⟨_, rfl, Below.refl _ _, rfl⟩,
       fun a w1 hb hat => step_call (on_dep (b := true) (d := 131) rfl (by kernel_rfl) (hat.dep 5 131 (by kernel_rfl) (by kernel_rfl))) (run_call rfl (map2 (hat.dep 7 133 (by kernel_rfl) (by kernel_rfl)) (hat.dep 13 139 (by kernel_rfl) (by kernel_rfl))) rfl) (newer_any ⟨lage, lkind, lid, ladv, lseq, lsum, llong⟩ ⟨age', kind', id', adv', seq', sum', long'⟩ _ HA0.out HA1.out HSQ.out) (fun e w' he => ⟨_, he.1, _, rfl, he.2, rfl⟩),
       fun a w1 hb hat => step_ok (on_dep (b := true) (d := 131) rfl (by kernel_rfl) (hat.dep 5 131 (by kernel_rfl) (by kernel_rfl))) (run_cmp rfl (hat.dep 14 140 (by kernel_rfl) (by kernel_rfl)) rfl rfl (by simp)) ⟨_, rfl, Below.refl _ _, rfl⟩,
       fun a w1 hb hat => step_ok (on_none rfl) (run_pick_t rfl (hat.dep 5 131 (by kernel_rfl) (by kernel_rfl)) (hat.dep 15 141 (by kernel_rfl) (by kernel_rfl))) ⟨_, rfl, Below.refl _ _, rfl⟩, trivial⟩ ?_
    rintro vs a3 w3 hbb ⟨e0, e1, e2, e3, e4, e5, e6, e7, e8, e9, e10, e11, e12, e13, e14, e15, e16, -⟩ hput
    replace s0 : a3.tmps.getD 0 undef = .pointer (some ⟨g, 0, none⟩) := (hput.old 0 (by kernel_rfl)).trans s0
    replace s7 : a3.tmps.getD 7 undef = .pointer (some ⟨g7, 0, none⟩) := (hput.old 7 (by kernel_rfl)).trans s7
    have s142 : a3.tmps.getD 142 undef = .bool false := (hput.new 16 142 rfl).trans e16
    replace hz := hput.size.trans hz
    replace hd := hput.defers.trans hd
    clear hput e0 e1 e2 e3 e4 e5 e6 e7 e8 e9 e10 e11 e12 e13 e14 e15 e16
    change Code.wp _ _ _ _ _
    refine wp_cond_false s142 (wp_skip ?_)
    change Code.wp _ _ _ _ _
    exact tick14_any B g g7 ⟨⟨⟨⟨age, kind, id, adv, seq, sum, long⟩, links, mem⟩, wanted, ⟨⟨age', kind', id', adv', seq', sum', long'⟩, links', mem'⟩, true, last, at_, ever⟩, now, told⟩ F ⟨A, c, B1, d⟩ ⟨A', c', B', d'⟩ At ct ⟨⟨lage, lkind, lid, ladv, lseq, lsum, llong⟩, llinks, lmem⟩ ⟨LA, lc, LB, ld⟩ w w3 a3 hz hd s0 s7 Q hQ hB (hL.below hbb) (hW.trans (Went.of_below hbb (Nat.le_trans hB hW.below.size))) (hide (HK7.out.below hbb HK7.out.lt)) (hide (HO7.out.below hbb)) hF HT.out HTD _ (by kernel_rfl)
set_option maxRecDepth 100000 in
set_option maxHeartbeats 8000000 in
theorem tick10_any (B g g7 : Nat) (s F : LS) (p q : LP) (At : Option Addr) (ct : Nat) (l : LV) (pl : LP) (w wr : World) (a : Act) (hz : a.tmps.size = 248) (hd : a.defers = [])
    (s0 : a.tmps.getD 0 undef = .pointer (some ⟨g, 0, none⟩)) (s7 : a.tmps.getD 7 undef = .pointer (some ⟨g7, 0, none⟩)) (Q : Exit → Act → World → Prop) (hQ : ∀ a' w', a'.tmps.size = 248 → a'.defers = [] → (∃ p q A c, Life B w' g F p q A c ∧ Went B w w') → Q .normal a' w')
    (hB : B ≤ w.heap.size) (hL : Life B wr g s p q At ct) (hW : Went B w wr)
    (HK7 : Hid (Blk wr g7 27 (lsaA l pl))) (HO7 : Hid (LOwn wr B l pl)) (hF : Hid (F = doneF s (l, 1))) (hT : TOK s) (HTD : Hid (Told s l))
    (cde : Code) (hcd : seqOf Try.f20 10 = cde) : Code.wp Try.prog cde Q a wr := by
  subst hcd
  conv => arg 2; whnf
  obtain ⟨⟨⟨⟨age, kind, id, adv, seq, sum, long⟩, links, mem⟩, wanted, ⟨⟨age', kind', id', adv', seq', sum', long'⟩, links', mem'⟩, is, last, at_, ever⟩, now, told⟩ := s
  obtain ⟨A, c, B1, d⟩ := p
  obtain ⟨A', c', B', d'⟩ := q
  obtain ⟨⟨lage, lkind, lid, ladv, lseq, lsum, llong⟩, llinks, lmem⟩ := l
  obtain ⟨LA, lc, LB, ld⟩ := pl
  have z1 := HTD.out.wanted
  have z2 := hT.ever
  dsimp only at z1 z2
  subst z1 z2
  have HT := hide hT
  clear hT
  have n1 := HT.out.now
  have n2 := HT.out.at_
  have n3 := HTD.out.late
  dsimp only at n1 n2 n3
  have hK := hL.blk
  have hK7 := HK7.out
  refine wp_seq (wp_seq ?_)
  refine slots_by [fun v _ => v = .pointer (some ⟨g, 0, none⟩), fun v _ => v = .pointer (some ⟨g, 0, none⟩), fun v _ => v = .pointer (some ⟨g, 0, none⟩), fun v _ => v = .pointer (some ⟨g, 22, none⟩), fun v _ => v = .bool true, fun v _ => v = .bool true, fun v _ => v = .pointer (some ⟨g, 0, none⟩), fun v _ => v = .pointer (some ⟨g, 0, none⟩), fun v _ => v = .pointer (some ⟨g, 23, none⟩), fun v _ => v = .int .i64 now, fun v _ => v = .pointer (some ⟨g, 0, none⟩), fun v _ => v = .pointer (some ⟨g, 0, none⟩), fun v _ => v = .pointer (some ⟨g, 0, none⟩), fun v _ => v = .pointer (some ⟨g, 21, none⟩), fun v _ => v = .int .i64 at_, fun v _ => v = .int .i64 (now - at_), fun v _ => v = .bool false, fun v _ => v = .bool false, fun v _ => v = .bool false, fun v _ => v = .pointer (some ⟨g, 0, none⟩), fun v _ => v = .pointer (some ⟨g, 0, none⟩), fun v _ => v = .pointer (some ⟨g, 0, none⟩), fun v _ => v = .pointer (some ⟨g, 9, none⟩), fun v _ => v = .bool true, fun v _ => v = .bool false, fun v _ => v = .bool false]
    (by kernel_rfl) (by kernel_rfl) (by kernel_rfl) hz (by kernel_rfl) rfl
    ⟨fun _ _ _ _ h => h, fun _ _ _ _ h => h, fun _ _ _ _ h => h, fun _ _ _ _ h => h, fun _ _ _ _ h => h, fun _ _ _ _ h => h, fun _ _ _ _ h => h, fun _ _ _ _ h => h, fun _ _ _ _ h => h, fun _ _ _ _ h => h, fun _ _ _ _ h => h, fun _ _ _ _ h => h, fun _ _ _ _ h => h, fun _ _ _ _ h => h, fun _ _ _ _ h => h, fun _ _ _ _ h => h, fun _ _ _ _ h => h, fun _ _ _ _ h => h, fun _ _ _ _ h => h, fun _ _ _ _ h => h, fun _ _ _ _ h => h, fun _ _ _ _ h => h, fun _ _ _ _ h => h, fun _ _ _ _ h => h, fun _ _ _ _ h => h, fun _ _ _ _ h => h, trivial⟩
    ⟨fun a w1 hb hat => step_ok (on_none rfl) (run_move rfl ((hat.base 0 (by kernel_rfl)).trans s0)) ⟨_, rfl, Below.refl _ _, rfl⟩,
     fun a w1 hb hat => step_ok (on_none rfl) (run_nilCheck rfl (hat.dep 0 100 (by kernel_rfl) (by kernel_rfl))) ⟨_, rfl, Below.refl _ _, rfl⟩,
     fun a w1 hb hat => step_ok (on_none rfl) (run_fieldAddr (m := 0) rfl (hat.dep 1 101 (by kernel_rfl) (by kernel_rfl)) (by kernel_rfl) rfl) ⟨_, rfl, Below.refl _ _, rfl⟩,
     fun a w1 hb hat => step_ok (on_none rfl) (run_fieldAddr (m := 22) rfl (hat.dep 2 102 (by kernel_rfl) (by kernel_rfl)) (by kernel_rfl) rfl) ⟨_, rfl, Below.refl _ _, rfl⟩,
     fun a w1 hb hat => step_ok (on_none rfl) (run_load rfl (hat.dep 3 103 (by kernel_rfl) (by kernel_rfl)) (by kernel_rfl) (show w1.cell? ⟨g, 22, none⟩ = some (.bool true) from Blk.cell (hK.below hb hK.lt) 22)) ⟨_, rfl, Below.refl _ _, rfl⟩,
     fun a w1 hb hat => step_ok (on_none rfl) (run_move rfl (hat.dep 4 104 (by kernel_rfl) (by kernel_rfl))) ⟨_, rfl, Below.refl _ _, rfl⟩,
     fun a w1 hb hat => step_ok (on_dep (b := true) (d := 105) rfl (by kernel_rfl) (hat.dep 5 105 (by kernel_rfl) (by kernel_rfl))) (run_move rfl ((hat.base 0 (by kernel_rfl)).trans s0)) ⟨_, rfl, Below.refl _ _, rfl⟩,
     fun a w1 hb hat => step_ok (on_dep (b := true) (d := 105) rfl (by kernel_rfl) (hat.dep 5 105 (by kernel_rfl) (by kernel_rfl))) (run_nilCheck rfl (hat.dep 6 106 (by kernel_rfl) (by kernel_rfl))) ⟨_, rfl, Below.refl _ _, rfl⟩,
     fun a w1 hb hat => step_ok (on_dep (b := true) (d := 105) rfl (by kernel_rfl) (hat.dep 5 105 (by kernel_rfl) (by kernel_rfl))) (run_fieldAddr (m := 23) rfl (hat.dep 7 107 (by kernel_rfl) (by kernel_rfl)) (by kernel_rfl) rfl) ⟨_, rfl, Below.refl _ _, rfl⟩,
     fun a w1 hb hat => step_ok (on_dep (b := true) (d := 105) rfl (by kernel_rfl) (hat.dep 5 105 (by kernel_rfl) (by kernel_rfl))) (run_load rfl (hat.dep 8 108 (by kernel_rfl) (by kernel_rfl)) (by kernel_rfl) (show w1.cell? ⟨g, 23, none⟩ = some (.int .i64 now) from Blk.cell (hK.below hb hK.lt) 23)) ⟨_, rfl, Below.refl _ _, rfl⟩,
     fun a w1 hb hat => step_ok (on_dep (b := true) (d := 105) rfl (by kernel_rfl) (hat.dep 5 105 (by kernel_rfl) (by kernel_rfl))) (run_move rfl ((hat.base 0 (by kernel_rfl)).trans s0)) ⟨_, rfl, Below.refl _ _, rfl⟩,
     fun a w1 hb hat => step_ok (on_dep (b := true) (d := 105) rfl (by kernel_rfl) (hat.dep 5 105 (by kernel_rfl) (by kernel_rfl))) (run_nilCheck rfl (hat.dep 10 110 (by kernel_rfl) (by kernel_rfl))) ⟨_, rfl, Below.refl _ _, rfl⟩,
     fun a w1 hb hat => step_ok (on_dep (b := true) (d := 105) rfl (by kernel_rfl) (hat.dep 5 105 (by kernel_rfl) (by kernel_rfl))) (run_fieldAddr (m := 0) rfl (hat.dep 11 111 (by kernel_rfl) (by kernel_rfl)) (by kernel_rfl) rfl) ⟨_, rfl, Below.refl _ _, rfl⟩,
     fun a w1 hb hat => step_ok (on_dep (b := true) (d := 105) rfl (by kernel_rfl) (hat.dep 5 105 (by kernel_rfl) (by kernel_rfl))) (run_fieldAddr (m := 21) rfl (hat.dep 12 112 (by kernel_rfl) (by kernel_rfl)) (by kernel_rfl) rfl) ⟨_, rfl, Below.refl _ _, rfl⟩,
     fun a w1 hb hat => step_ok (on_dep (b := true) (d := 105) rfl (by kernel_rfl) (hat.dep 5 105 (by kernel_rfl) (by kernel_rfl))) (run_load rfl (hat.dep 13 113 (by kernel_rfl) (by kernel_rfl)) (by kernel_rfl) (show w1.cell? ⟨g, 21, none⟩ = some (.int .i64 at_) from Blk.cell (hK.below hb hK.lt) 21)) ⟨_, rfl, Below.refl _ _, rfl⟩,
     fun a w1 hb hat => step_ok (on_dep (b := true) (d := 105) rfl (by kernel_rfl) (hat.dep 5 105 (by kernel_rfl) (by kernel_rfl))) (run_subI rfl (hat.dep 9 109 (by kernel_rfl) (by kernel_rfl)) (hat.dep 14 114 (by kernel_rfl) (by kernel_rfl)) (by omega) rfl) ⟨_, rfl, Below.refl _ _, rfl⟩,
     fun a w1 hb hat => step_ok (on_dep (b := true) (d := 105) rfl (by kernel_rfl) (hat.dep 5 105 (by kernel_rfl) (by kernel_rfl))) (run_cmp rfl (hat.dep 15 115 (by kernel_rfl) (by kernel_rfl)) rfl rfl (by simp; omega)) ⟨_, rfl, Below.refl _ _, rfl⟩,
     fun a w1 hb hat => step_ok (on_none rfl) (run_pick_t rfl (hat.dep 5 105 (by kernel_rfl) (by kernel_rfl)) (hat.dep 16 116 (by kernel_rfl) (by kernel_rfl))) ⟨_, rfl, Below.refl _ _, rfl⟩,
     fun a w1 hb hat => step_ok (on_none rfl) (run_move rfl (hat.dep 17 117 (by kernel_rfl) (by kernel_rfl))) ⟨_, rfl, Below.refl _ _, rfl⟩,
     fun a w1 hb hat => step_ok (on_dep (b := false) (d := 118) rfl (by kernel_rfl) (hat.dep 18 118 (by kernel_rfl) (by kernel_rfl))) (run_move rfl ((hat.base 0 (by kernel_rfl)).trans s0)) ⟨_, rfl, Below.refl _ _, rfl⟩,
     fun a w1 hb hat => step_ok (on_dep (b := false) (d := 118) rfl (by kernel_rfl) (hat.dep 18 118 (by kernel_rfl) (by kernel_rfl))) (run_nilCheck rfl (hat.dep 19 119 (by kernel_rfl) (by kernel_rfl))) ⟨_, rfl, Below.refl _ _, rfl⟩,
     fun a w1 hb hat => step_ok (on_dep (b := false) (d := 118) rfl (by kernel_rfl) (hat.dep 18 118 (by kernel_rfl) (by kernel_rfl))) (run_fieldAddr (m := 0) rfl (hat.dep 20 120 (by kernel_rfl) (by kernel_rfl)) (by kernel_rfl) rfl) ⟨_, rfl, Below.refl _ _, rfl⟩,
     fun a w1 hb hat => step_ok (on_dep (b := false) (d := 118) rfl (by kernel_rfl) (hat.dep 18 118 (by kernel_rfl) (by kernel_rfl))) (run_fieldAddr (m := 9) rfl (hat.dep 21 121 (by kernel_rfl) (by kernel_rfl)) (by kernel_rfl) rfl) ⟨_, rfl, Below.refl _ _, rfl⟩,
     fun a w1 hb hat => step_ok (on_dep (b := false) (d := 118) rfl (by kernel_rfl) (hat.dep 18 118 (by kernel_rfl) (by kernel_rfl))) (run_load rfl (hat.dep 22 122 (by kernel_rfl) (by kernel_rfl)) (by kernel_rfl) (show w1.cell? ⟨g, 9, none⟩ = some (.bool true) from Blk.cell (hK.below hb hK.lt) 9)) ⟨_, rfl, Below.refl _ _, rfl⟩,
     fun a w1 hb hat => step_ok (on_dep (b := false) (d := 118) rfl (by kernel_rfl) (hat.dep 18 118 (by kernel_rfl) (by kernel_rfl))) (run_not rfl (hat.dep 23 123 (by kernel_rfl) (by kernel_rfl)) rfl) ⟨_, rfl, Below.refl _ _, rfl⟩,
     fun a w1 hb hat => step_ok (on_none rfl) (run_pick_f rfl (hat.dep 18 118 (by kernel_rfl) (by kernel_rfl)) (hat.dep 24 124 (by kernel_rfl) (by kernel_rfl))) ⟨_, rfl, Below.refl _ _, rfl⟩, trivial⟩ ?_
  rintro vs a3 w3 hbb ⟨e0, e1, e2, e3, e4, e5, e6, e7, e8, e9, e10, e11, e12, e13, e14, e15, e16, e17, e18, e19, e20, e21, e22, e23, e24, e25, -⟩ hput
  replace s0 : a3.tmps.getD 0 undef = .pointer (some ⟨g, 0, none⟩) := (hput.old 0 (by kernel_rfl)).trans s0
  replace s7 : a3.tmps.getD 7 undef = .pointer (some ⟨g7, 0, none⟩) := (hput.old 7 (by kernel_rfl)).trans s7
  have s125 : a3.tmps.getD 125 undef = .bool false := (hput.new 25 125 rfl).trans e25
  replace hz := hput.size.trans hz
  replace hd := hput.defers.trans hd
  clear hput e0 e1 e2 e3 e4 e5 e6 e7 e8 e9 e10 e11 e12 e13 e14 e15 e16 e17 e18 e19 e20 e21 e22 e23 e24 e25
  change Code.wp _ _ _ _ _
  refine wp_cond_false s125 (wp_skip ?_)
  change Code.wp _ _ _ _ _
  exact tick12_any B g g7 ⟨⟨⟨⟨age, kind, id, adv, seq, sum, long⟩, links, mem⟩, true, ⟨⟨age', kind', id', adv', seq', sum', long'⟩, links', mem'⟩, is, last, at_, true⟩, now, told⟩ F ⟨A, c, B1, d⟩ ⟨A', c', B', d'⟩ At ct ⟨⟨lage, lkind, lid, ladv, lseq, lsum, llong⟩, llinks, lmem⟩ ⟨LA, lc, LB, ld⟩ w w3 a3 hz hd s0 s7 Q hQ hB (hL.below hbb) (hW.trans (Went.of_below hbb (Nat.le_trans hB hW.below.size))) (hide (HK7.out.below hbb HK7.out.lt)) (hide (HO7.out.below hbb)) hF HT.out HTD _ (by kernel_rfl)
set_option maxRecDepth 100000 in
set_option maxHeartbeats 8000000 in
theorem tick23_any (B g : Nat) (F : LS) (w w2 : World) (a : Act) (hz : a.tmps.size = 248) (hd : a.defers = []) (h : ∃ p q A c, Life B w2 g F p q A c ∧ Went B w w2) (cde : Code) (hcd : tailOf Try.f20 23 = cde) : Code.wp Try.prog cde (bodyPost Try.prog Try.f20 (TP B g w F)) a w2 := by
  subst hcd
  conv => arg 2; whnf
  refine wp_seq ?_
  refine slots_by [fun v _ => v = .bool true]
    (by kernel_rfl) (by kernel_rfl) (by kernel_rfl) hz (by kernel_rfl) rfl
    ⟨fun _ _ _ _ h => h, trivial⟩
    ⟨fun a w1 hb hat => step_ok (on_none rfl) (run_assign rfl rfl) ⟨_, rfl, Below.refl _ _, rfl⟩, trivial⟩ ?_
  rintro vs a3 w3 hbb ⟨e0, -⟩ hput
  have s6 : a3.tmps.getD 6 undef = .bool true := (hput.new 0 6 rfl).trans e0
  replace hz := hput.size.trans hz
  replace hd := hput.defers.trans hd
  clear hput e0
  change Code.wp _ _ _ _ _
  refine wp_ret (bodyPost_ret (v := .bool true) (by rw [results_tmp (t := 6) (by kernel_rfl), s6]) hd ⟨rfl, ?_⟩)
  obtain ⟨p, q, A, c, h1, h2⟩ := h
  exact ⟨p, q, A, c, h1.below hbb, h2.trans (Went.of_below hbb (Nat.le_trans h1.base (Nat.le_of_lt h1.blk.lt)))⟩
set_option maxRecDepth 100000 in
set_option maxHeartbeats 8000000 in
theorem tick8_any (B g : Nat) (s F : LS) (p q : LP) (At : Option Addr) (ct : Nat) (w wr : World) (a : Act) (hz : a.tmps.size = 248) (hd : a.defers = [])
    (s0 : a.tmps.getD 0 undef = .pointer (some ⟨g, 0, none⟩)) (g7 : Nat) (l : LV) (pl : LP) (n : Int) (s7 : a.tmps.getD 7 undef = .pointer (some ⟨g7, 0, none⟩)) (s8 : a.tmps.getD 8 undef = .int .i64 n)
    (HK7 : Hid (Blk wr g7 27 (lsaA l pl))) (HO7 : Hid (LOwn wr B l pl)) (hT : TOK s) (hP : Hid (planF s.m s.now = (l, n))) (hF : Hid (F = doneF s (l, n)))
    (hB : B ≤ w.heap.size) (hL : Life B wr g s p q At ct) (hW : Went B w wr)
    (cde : Code) (hcd : tailOf Try.f20 8 = cde) : Code.wp Try.prog cde (bodyPost Try.prog Try.f20 (TP B g w F)) a wr := by
  subst hcd
  conv => arg 2; whnf
  have HN : n = 0 ∨ n = 1 ∨ n = 2 ∨ n = 3 := by have := plan_what s.m s.now; rw [hP.out] at this; exact this
  have HFL : Hid (n = 2 → l = flushF s.m ∧ (s.m.wanted = true → s.m.last = 2147483647)) := fun e => plan_flush hT (by rw [hP.out, e])
  have HTD : Hid (n = 1 → Told s l) := fun e => plan_told hT (by rw [hP.out, e])
  obtain ⟨⟨⟨⟨age, kind, id, adv, seq, sum, long⟩, links, mem⟩, wanted, ⟨⟨age', kind', id', adv', seq', sum', long'⟩, links', mem'⟩, is, last, at_, ever⟩, now, told⟩ := s
  obtain ⟨A, c, B1, d⟩ := p
  obtain ⟨A', c', B', d'⟩ := q
  obtain ⟨⟨lage, lkind, lid, ladv, lseq, lsum, llong⟩, llinks, lmem⟩ := l
  obtain ⟨LA, lc, LB, ld⟩ := pl
  have HT := hide hT
  clear hT
  have hK := hL.blk
  have hK7 := HK7.out
  by_cases h1 : n = 1
  · refine wp_seq (wp_seq ?_)
    refine slots_by [fun v _ => v = .int .i64 n]
      (by kernel_rfl) (by kernel_rfl) (by kernel_rfl) hz (by kernel_rfl) rfl
      ⟨fun _ _ _ _ h => h, trivial⟩
      ⟨fun a w1 hb hat => step_ok (on_none rfl) (run_move rfl ((hat.base 8 (by kernel_rfl)).trans s8)) ⟨_, rfl, Below.refl _ _, rfl⟩, trivial⟩ ?_
    rintro vs a2 w2 hb2 ⟨e0, -⟩ hput
    replace s0 : a2.tmps.getD 0 undef = .pointer (some ⟨g, 0, none⟩) := (hput.old 0 (by kernel_rfl)).trans s0
    replace s7 : a2.tmps.getD 7 undef = .pointer (some ⟨g7, 0, none⟩) := (hput.old 7 (by kernel_rfl)).trans s7
    have s97 : a2.tmps.getD 97 undef = .int .i64 n := (hput.new 0 97 rfl).trans e0
    replace hz := hput.size.trans hz
    replace hd := hput.defers.trans hd
    clear hput e0 s8
    change Code.wp _ _ _ _ _
    refine wp_block (wp_seq ?_)
    have hK := hK.below hb2 hK.lt
    have hK7 := hK7.below hb2 hK7.lt
    refine slots_by [fun v _ => v = .bool true, fun v _ => v = .bool true]
      (by kernel_rfl) (by kernel_rfl) (by kernel_rfl) hz (by kernel_rfl) rfl
      ⟨fun _ _ _ _ h => h, fun _ _ _ _ h => h, trivial⟩
      ⟨fun a w1 hb hat => step_ok (on_none rfl) (run_cmp rfl ((hat.base 97 (by kernel_rfl)).trans s97) rfl rfl (by simp [h1])) ⟨_, rfl, Below.refl _ _, rfl⟩,
       fun a w1 hb hat => step_ok (on_none rfl) (run_assign rfl (hat.dep 0 99 (by kernel_rfl) (by kernel_rfl))) ⟨_, rfl, Below.refl _ _, rfl⟩, trivial⟩ ?_
    rintro vs a3 w3 hb3 ⟨e0, e1, -⟩ hput
    replace s0 : a3.tmps.getD 0 undef = .pointer (some ⟨g, 0, none⟩) := (hput.old 0 (by kernel_rfl)).trans s0
    replace s7 : a3.tmps.getD 7 undef = .pointer (some ⟨g7, 0, none⟩) := (hput.old 7 (by kernel_rfl)).trans s7
    replace s97 : a3.tmps.getD 97 undef = .int .i64 n := (hput.old 97 (by kernel_rfl)).trans s97
    have s98 : a3.tmps.getD 98 undef = .bool true := (hput.new 1 98 rfl).trans e1
    replace hz := hput.size.trans hz
    replace hd := hput.defers.trans hd
    clear hput e0 e1
    change Code.wp _ _ _ _ _
    have hbb := hb2.trans (hb3.mono hb2.size)
    refine wp_cond_true s98 ?_
    exact tick10_any B g g7 ⟨⟨⟨⟨age, kind, id, adv, seq, sum, long⟩, links, mem⟩, wanted, ⟨⟨age', kind', id', adv', seq', sum', long'⟩, links', mem'⟩, is, last, at_, ever⟩, now, told⟩ F ⟨A, c, B1, d⟩ ⟨A', c', B', d'⟩ At ct ⟨⟨lage, lkind, lid, ladv, lseq, lsum, llong⟩, llinks, lmem⟩ ⟨LA, lc, LB, ld⟩ w w3 a3 hz hd s0 s7 _ (fun a' w' hz' hd' h => (tick23_any B g F w w' a' hz' hd' h _ (by kernel_rfl) : Code.wp _ _ _ a' w')) hB (hL.below hbb) (hW.trans (Went.of_below hbb (Nat.le_trans hB hW.below.size))) (hide (HK7.out.below hbb HK7.out.lt)) (hide (HO7.out.below hbb)) (hide (by rw [hF.out, h1])) HT.out (hide (HTD.out h1)) _ (by kernel_rfl)
  by_cases h2 : n = 2
  · have hFl := HFL.out h2
    have h60 : lage = 60 := congrArg (fun x : LV => x.hd.age) hFl.1
    have hLast : wanted = true → last = 2147483647 := hFl.2
    subst h60
    cases wanted with
    | false =>
      refine wp_seq (wp_seq ?_)
      refine slots_by [fun v _ => v = .int .i64 n]
        (by kernel_rfl) (by kernel_rfl) (by kernel_rfl) hz (by kernel_rfl) rfl
        ⟨fun _ _ _ _ h => h, trivial⟩
        ⟨fun a w1 hb hat => step_ok (on_none rfl) (run_move rfl ((hat.base 8 (by kernel_rfl)).trans s8)) ⟨_, rfl, Below.refl _ _, rfl⟩, trivial⟩ ?_
      rintro vs a2 w2 hb2 ⟨e0, -⟩ hput
      replace s0 : a2.tmps.getD 0 undef = .pointer (some ⟨g, 0, none⟩) := (hput.old 0 (by kernel_rfl)).trans s0
      replace s7 : a2.tmps.getD 7 undef = .pointer (some ⟨g7, 0, none⟩) := (hput.old 7 (by kernel_rfl)).trans s7
      have s97 : a2.tmps.getD 97 undef = .int .i64 n := (hput.new 0 97 rfl).trans e0
      replace hz := hput.size.trans hz
      replace hd := hput.defers.trans hd
      clear hput e0 s8
      change Code.wp _ _ _ _ _
      refine wp_block (wp_seq ?_)
      have hK := hK.below hb2 hK.lt
      have hK7 := hK7.below hb2 hK7.lt
      refine slots_by [fun v _ => v = .bool false, fun v _ => v = .bool false]
        (by kernel_rfl) (by kernel_rfl) (by kernel_rfl) hz (by kernel_rfl) rfl
        ⟨fun _ _ _ _ h => h, fun _ _ _ _ h => h, trivial⟩
        ⟨fun a w1 hb hat => step_ok (on_none rfl) (run_cmp rfl ((hat.base 97 (by kernel_rfl)).trans s97) rfl rfl (by simp; omega)) ⟨_, rfl, Below.refl _ _, rfl⟩,
         fun a w1 hb hat => step_ok (on_none rfl) (run_assign rfl (hat.dep 0 99 (by kernel_rfl) (by kernel_rfl))) ⟨_, rfl, Below.refl _ _, rfl⟩, trivial⟩ ?_
      rintro vs a3 w3 hb3 ⟨e0, e1, -⟩ hput
      replace s0 : a3.tmps.getD 0 undef = .pointer (some ⟨g, 0, none⟩) := (hput.old 0 (by kernel_rfl)).trans s0
      replace s7 : a3.tmps.getD 7 undef = .pointer (some ⟨g7, 0, none⟩) := (hput.old 7 (by kernel_rfl)).trans s7
      replace s97 : a3.tmps.getD 97 undef = .int .i64 n := (hput.old 97 (by kernel_rfl)).trans s97
      have s98 : a3.tmps.getD 98 undef = .bool false := (hput.new 1 98 rfl).trans e1
      replace hz := hput.size.trans hz
      replace hd := hput.defers.trans hd
      clear hput e0 e1
      change Code.wp _ _ _ _ _
      have hbb := hb2.trans (hb3.mono hb2.size)
      refine wp_cond_false s98 (wp_seq ?_)
      have hK := hK.below hb3 hK.lt
      have hK7 := hK7.below hb3 hK7.lt
      refine slots_by [fun v _ => v = .bool true, fun v _ => v = .bool true]
        (by kernel_rfl) (by kernel_rfl) (by kernel_rfl) hz (by kernel_rfl) rfl
        ⟨fun _ _ _ _ h => h, fun _ _ _ _ h => h, trivial⟩
        ⟨fun a w1 hb hat => step_ok (on_none rfl) (run_cmp rfl ((hat.base 97 (by kernel_rfl)).trans s97) rfl rfl (by simp [h2])) ⟨_, rfl, Below.refl _ _, rfl⟩,
         fun a w1 hb hat => step_ok (on_none rfl) (run_assign rfl (hat.dep 0 213 (by kernel_rfl) (by kernel_rfl))) ⟨_, rfl, Below.refl _ _, rfl⟩, trivial⟩ ?_
      rintro vs a4 w4 hb4 ⟨e0, e1, -⟩ hput
      replace s0 : a4.tmps.getD 0 undef = .pointer (some ⟨g, 0, none⟩) := (hput.old 0 (by kernel_rfl)).trans s0
      replace s7 : a4.tmps.getD 7 undef = .pointer (some ⟨g7, 0, none⟩) := (hput.old 7 (by kernel_rfl)).trans s7
      have s212 : a4.tmps.getD 212 undef = .bool true := (hput.new 1 212 rfl).trans e1
      replace hz := hput.size.trans hz
      replace hd := hput.defers.trans hd
      clear hput e0 e1 s97 s98
      change Code.wp _ _ _ _ _
      have hbc := hbb.trans (hb4.mono hbb.size)
      refine wp_cond_true s212 (wp_seq (wp_seq ?_))
      have hK := hK.below hb4 hK.lt
      have hK7 := hK7.below hb4 hK7.lt
      refine slots_by [fun v _ => v = .pointer (some ⟨g, 0, none⟩), fun v _ => v = .pointer (some ⟨g, 0, none⟩), fun v _ => v = .pointer (some ⟨g, 0, none⟩), fun v _ => v = .pointer (some ⟨g, 9, none⟩), fun v _ => v = .bool false, fun v _ => v = .bool false, fun v _ => v = undef, fun v _ => v = undef, fun v _ => v = undef, fun v _ => v = undef, fun v _ => v = undef, fun v _ => v = undef, fun v _ => v = undef, fun v _ => v = undef, fun v _ => v = .bool false, fun v _ => v = .bool false, fun v _ => v = undef, fun v _ => v = undef, fun v _ => v = undef, fun v _ => v = undef, fun v _ => v = undef, fun v _ => v = undef, fun v _ => v = .bool false, fun v _ => v = .bool false, fun v _ => v = .pointer (some ⟨g7, 0, none⟩), fun v _ => v = .pointer (some ⟨g7, 0, none⟩), fun v _ => v = .int .i64 60, fun v _ => v = .bool false, fun v _ => v = .bool false]
        (by kernel_rfl) (by kernel_rfl) (by kernel_rfl) hz (by kernel_rfl) rfl
        ⟨fun _ _ _ _ h => h, fun _ _ _ _ h => h, fun _ _ _ _ h => h, fun _ _ _ _ h => h, fun _ _ _ _ h => h, fun _ _ _ _ h => h, fun _ _ _ _ h => h, fun _ _ _ _ h => h, fun _ _ _ _ h => h, fun _ _ _ _ h => h, fun _ _ _ _ h => h, fun _ _ _ _ h => h, fun _ _ _ _ h => h, fun _ _ _ _ h => h, fun _ _ _ _ h => h, fun _ _ _ _ h => h, fun _ _ _ _ h => h, fun _ _ _ _ h => h, fun _ _ _ _ h => h, fun _ _ _ _ h => h, fun _ _ _ _ h => h, fun _ _ _ _ h => h, fun _ _ _ _ h => h, fun _ _ _ _ h => h, fun _ _ _ _ h => h, fun _ _ _ _ h => h, fun _ _ _ _ h => h, fun _ _ _ _ h => h, fun _ _ _ _ h => h, trivial⟩
        ⟨fun a w1 hb hat => step_ok (on_none rfl) (run_move rfl ((hat.base 0 (by kernel_rfl)).trans s0)) ⟨_, rfl, Below.refl _ _, rfl⟩,
         fun a w1 hb hat => step_ok (on_none rfl) (run_nilCheck rfl (hat.dep 0 214 (by kernel_rfl) (by kernel_rfl))) ⟨_, rfl, Below.refl _ _, rfl⟩,
         fun a w1 hb hat => step_ok (on_none rfl) (run_fieldAddr (m := 0) rfl (hat.dep 1 215 (by kernel_rfl) (by kernel_rfl)) (by kernel_rfl) rfl) ⟨_, rfl, Below.refl _ _, rfl⟩,
         fun a w1 hb hat => step_ok (on_none rfl) (run_fieldAddr (m := 9) rfl (hat.dep 2 216 (by kernel_rfl) (by kernel_rfl)) (by kernel_rfl) rfl) ⟨_, rfl, Below.refl _ _, rfl⟩,
         fun a w1 hb hat => step_ok (on_none rfl) (run_load rfl (hat.dep 3 217 (by kernel_rfl) (by kernel_rfl)) (by kernel_rfl) (show w1.cell? ⟨g, 9, none⟩ = some (.bool false) from Blk.cell (hK.below hb hK.lt) 9)) ⟨_, rfl, Below.refl _ _, rfl⟩,
         fun a w1 hb hat => step_ok (on_none rfl) (run_move rfl (hat.dep 4 218 (by kernel_rfl) (by kernel_rfl))) ⟨_, rfl, Below.refl _ _, rfl⟩,
         fun a w1 hb hat => step_off (off_dep (b := true) (d := 219) rfl (by kernel_rfl) (hat.dep 5 219 (by kernel_rfl) (by kernel_rfl))) rfl,
         fun a w1 hb hat => step_off (off_dep (b := true) (d := 219) rfl (by kernel_rfl) (hat.dep 5 219 (by kernel_rfl) (by kernel_rfl))) rfl,
         fun a w1 hb hat => step_off (off_dep (b := true) (d := 219) rfl (by kernel_rfl) (hat.dep 5 219 (by kernel_rfl) (by kernel_rfl))) rfl,
         fun a w1 hb hat => step_off (off_dep (b := true) (d := 219) rfl (by kernel_rfl) (hat.dep 5 219 (by kernel_rfl) (by kernel_rfl))) rfl,
         fun a w1 hb hat => step_off (off_dep (b := true) (d := 219) rfl (by kernel_rfl) (hat.dep 5 219 (by kernel_rfl) (by kernel_rfl))) rfl,
         fun a w1 hb hat => step_off (off_dep (b := true) (d := 219) rfl (by kernel_rfl) (hat.dep 5 219 (by kernel_rfl) (by kernel_rfl))) rfl,
         fun a w1 hb hat => step_off (off_dep (b := true) (d := 219) rfl (by kernel_rfl) (hat.dep 5 219 (by kernel_rfl) (by kernel_rfl))) rfl,
         fun a w1 hb hat => step_off (off_dep (b := true) (d := 219) rfl (by kernel_rfl) (hat.dep 5 219 (by kernel_rfl) (by kernel_rfl))) rfl,
         fun a w1 hb hat => step_ok (on_none rfl) (run_pick_f rfl (hat.dep 5 219 (by kernel_rfl) (by kernel_rfl)) rfl) ⟨_, rfl, Below.refl _ _, rfl⟩,
         fun a w1 hb hat => step_ok (on_none rfl) (run_move rfl (hat.dep 14 228 (by kernel_rfl) (by kernel_rfl))) ⟨_, rfl, Below.refl _ _, rfl⟩,
         fun a w1 hb hat => step_off (off_dep (b := true) (d := 229) rfl (by kernel_rfl) (hat.dep 15 229 (by kernel_rfl) (by kernel_rfl))) rfl,
         fun a w1 hb hat => step_off (off_dep (b := true) (d := 229) rfl (by kernel_rfl) (hat.dep 15 229 (by kernel_rfl) (by kernel_rfl))) rfl,
         fun a w1 hb hat => step_off (off_dep (b := true) (d := 229) rfl (by kernel_rfl) (hat.dep 15 229 (by kernel_rfl) (by kernel_rfl))) rfl,
         fun a w1 hb hat => step_off (off_dep (b := true) (d := 229) rfl (by kernel_rfl) (hat.dep 15 229 (by kernel_rfl) (by kernel_rfl))) rfl,
         fun a w1 hb hat => step_off (off_dep (b := true) (d := 229) rfl (by kernel_rfl) (hat.dep 15 229 (by kernel_rfl) (by kernel_rfl))) rfl,
         fun a w1 hb hat => step_off (off_dep (b := true) (d := 229) rfl (by kernel_rfl) (hat.dep 15 229 (by kernel_rfl) (by kernel_rfl))) rfl,
         fun a w1 hb hat => step_ok (on_none rfl) (run_pick_f rfl (hat.dep 15 229 (by kernel_rfl) (by kernel_rfl)) rfl) ⟨_, rfl, Below.refl _ _, rfl⟩,
         fun a w1 hb hat => step_ok (on_none rfl) (run_move rfl (hat.dep 22 236 (by kernel_rfl) (by kernel_rfl))) ⟨_, rfl, Below.refl _ _, rfl⟩,
         fun a w1 hb hat => step_ok (on_dep (b := false) (d := 237) rfl (by kernel_rfl) (hat.dep 23 237 (by kernel_rfl) (by kernel_rfl))) (run_fieldAddr (m := 0) rfl ((hat.base 7 (by kernel_rfl)).trans s7) (by kernel_rfl) rfl) ⟨_, rfl, Below.refl _ _, rfl⟩,
         fun a w1 hb hat => step_ok (on_dep (b := false) (d := 237) rfl (by kernel_rfl) (hat.dep 23 237 (by kernel_rfl) (by kernel_rfl))) (run_fieldAddr (m := 0) rfl (hat.dep 24 238 (by kernel_rfl) (by kernel_rfl)) (by kernel_rfl) rfl) ⟨_, rfl, Below.refl _ _, rfl⟩,
         fun a w1 hb hat => step_ok (on_dep (b := false) (d := 237) rfl (by kernel_rfl) (hat.dep 23 237 (by kernel_rfl) (by kernel_rfl))) (run_load rfl (hat.dep 25 239 (by kernel_rfl) (by kernel_rfl)) (by kernel_rfl) (show w1.cell? ⟨g7, 0, none⟩ = some (.int .i64 60) from Blk.cell (hK7.below hb hK7.lt) 0)) ⟨_, rfl, Below.refl _ _, rfl⟩,
         fun a w1 hb hat => step_ok (on_dep (b := false) (d := 237) rfl (by kernel_rfl) (hat.dep 23 237 (by kernel_rfl) (by kernel_rfl))) (run_cmp rfl (hat.dep 26 240 (by kernel_rfl) (by kernel_rfl)) rfl rfl (by simp)) ⟨_, rfl, Below.refl _ _, rfl⟩,
         fun a w1 hb hat => step_ok (on_none rfl) (run_pick_f rfl (hat.dep 23 237 (by kernel_rfl) (by kernel_rfl)) (hat.dep 27 241 (by kernel_rfl) (by kernel_rfl))) ⟨_, rfl, Below.refl _ _, rfl⟩, trivial⟩ ?_
      rintro vs a5 w5 hb5 ⟨e0, e1, e2, e3, e4, e5, e6, e7, e8, e9, e10, e11, e12, e13, e14, e15, e16, e17, e18, e19, e20, e21, e22, e23, e24, e25, e26, e27, e28, -⟩ hput
      replace s0 : a5.tmps.getD 0 undef = .pointer (some ⟨g, 0, none⟩) := (hput.old 0 (by kernel_rfl)).trans s0
      replace s7 : a5.tmps.getD 7 undef = .pointer (some ⟨g7, 0, none⟩) := (hput.old 7 (by kernel_rfl)).trans s7
      have s242 : a5.tmps.getD 242 undef = .bool false := (hput.new 28 242 rfl).trans e28
      replace hz := hput.size.trans hz
      replace hd := hput.defers.trans hd
      clear hput e0 e1 e2 e3 e4 e5 e6 e7 e8 e9 e10 e11 e12 e13 e14 e15 e16 e17 e18 e19 e20 e21 e22 e23 e24 e25 e26 e27 e28 s212
      change Code.wp _ _ _ _ _
      refine wp_cond_false s242 (wp_skip ?_)
      change Code.wp _ _ _ _ _
      have hbd := hbc.trans (hb5.mono hbc.size)
      have HG := hide hL.base
      have hW5 := hW.trans (Went.of_below hbd (Nat.le_trans hB hW.below.size))
      have HO : Hid (Oth B g7 ⟨⟨⟨⟨age, kind, id, adv, seq, sum, long⟩, links, mem⟩, false, ⟨⟨age', kind', id', adv', seq', sum', long'⟩, links', mem'⟩, is, last, at_, ever⟩, now, told⟩ ⟨⟨60, lkind, lid, ladv, lseq, lsum, llong⟩, llinks, lmem⟩ ⟨A, c, B1, d⟩ ⟨A', c', B', d'⟩ ⟨LA, lc, LB, ld⟩ w w5) := hide ⟨HK7.out.below hbd HK7.out.lt, HO7.out.below hbd, (hL.below hbd).want, (hL.below hbd).held, hW5⟩
      refine slots_flat [5] [0, 0, 0, 0, 0, 0] [0, 0, 1, 1, 0, 1] [fun v _ => v = .pointer (some ⟨g, 0, none⟩), fun v _ => v = .agg (List.toArray [.int .i64 60, .int .i64 lkind, .int .i64 lid, .int .i64 ladv, .int .i64 lseq, .int .i64 lsum, .int .i64 llong, .slice LA llinks.length lc, .slice LB lmem.length ld]), fun v _ => v = .pointer (some ⟨g, 0, none⟩), fun v _ => v = .pointer (some ⟨g, 0, none⟩), fun v _ => v = .pointer (some ⟨g, 10, none⟩), fun v _ => v = undef] (fun k => match k with | 0 => fun w' => Hid (Blk w' g 60 (#[.int .i64 age, .int .i64 kind, .int .i64 id, .int .i64 adv, .int .i64 seq, .int .i64 sum, .int .i64 long, .slice A links.length c, .slice B1 mem.length d, .bool false, .int .i64 age', .int .i64 kind', .int .i64 id', .int .i64 adv', .int .i64 seq', .int .i64 sum', .int .i64 long', .slice A' links'.length c', .slice B' mem'.length d', .bool is, .int .i64 last, .int .i64 at_, .bool ever, .int .i64 now, .slice At told.length ct] : Array Value)) ∧ Hid (Oth B g7 ⟨⟨⟨⟨age, kind, id, adv, seq, sum, long⟩, links, mem⟩, false, ⟨⟨age', kind', id', adv', seq', sum', long'⟩, links', mem'⟩, is, last, at_, ever⟩, now, told⟩ ⟨⟨60, lkind, lid, ladv, lseq, lsum, llong⟩, llinks, lmem⟩ ⟨A, c, B1, d⟩ ⟨A', c', B', d'⟩ ⟨LA, lc, LB, ld⟩ w w') ∧ Hid (w'.ownsRow B 23 7 (.slice At told.length ct) told.length (rowC HD.cells told)) | 1 => fun w' => Hid (Blk w' g 60 (#[.int .i64 age, .int .i64 kind, .int .i64 id, .int .i64 adv, .int .i64 seq, .int .i64 sum, .int .i64 long, .slice A links.length c, .slice B1 mem.length d, .bool false, .int .i64 60, .int .i64 lkind, .int .i64 lid, .int .i64 ladv, .int .i64 lseq, .int .i64 lsum, .int .i64 llong, .slice LA llinks.length lc, .slice LB lmem.length ld, .bool is, .int .i64 last, .int .i64 at_, .bool ever, .int .i64 now, .slice At told.length ct] : Array Value)) ∧ Hid (Oth B g7 ⟨⟨⟨⟨age, kind, id, adv, seq, sum, long⟩, links, mem⟩, false, ⟨⟨age', kind', id', adv', seq', sum', long'⟩, links', mem'⟩, is, last, at_, ever⟩, now, told⟩ ⟨⟨60, lkind, lid, ladv, lseq, lsum, llong⟩, llinks, lmem⟩ ⟨A, c, B1, d⟩ ⟨A', c', B', d'⟩ ⟨LA, lc, LB, ld⟩ w w') ∧ Hid (w'.ownsRow B 23 7 (.slice At told.length ct) told.length (rowC HD.cells told)) | _ => fun _ => False)
        (by kernel_rfl) (by kernel_rfl) (by kernel_rfl) hz (by kernel_rfl) rfl (by kernel_rfl)
        ⟨fun _ _ _ h => h, fun _ _ _ h => h, fun _ _ _ h => h, fun _ _ _ h => h, fun _ _ _ h => h, fun _ _ _ h => h, trivial⟩
        (fun k w1 w2 hb h => match k, h with | 0, h => ⟨hide (h.1.out.below hb h.1.out.lt), hide (h.2.1.out.below hB hb), hide (own_below h.2.2.out hb)⟩ | 1, h => ⟨hide (h.1.out.below hb h.1.out.lt), hide (h.2.1.out.below hB hb), hide (own_below h.2.2.out hb)⟩ | _ + 2, h => h) (⟨hide (hL.below hbd).blk, HO, hide (hL.below hbd).told⟩)
        ⟨fun k a w1 hlo hhi hE hat => step_ok (on_none rfl) (run_move rfl ((hat.base 0 (by kernel_rfl)).trans s0)) ⟨_, rfl, Below.refl _ _, rfl⟩,
         (fun k a w1 hlo hhi hE hat => match k, hlo, hhi, hE with
           | 0, _, _, hE => step_ok (on_none rfl) (run_loadS (n := 9) (out := [.int .i64 60, .int .i64 lkind, .int .i64 lid, .int .i64 ladv, .int .i64 lseq, .int .i64 lsum, .int .i64 llong, .slice LA llinks.length lc, .slice LB lmem.length ld]) rfl ((hat.base 7 (by kernel_rfl)).trans s7) (by kernel_rfl) hE.2.1.out.blk rfl rfl) ⟨_, rfl, Below.refl _ _, rfl⟩
           | k + 1, _, h, _ => absurd h (by show ¬ (k + 1 ≤ 0); omega)),
         fun k a w1 hlo hhi hE hat => step_ok (on_none rfl) (run_nilCheck rfl (hat.dep 0 243 (by kernel_rfl) (by kernel_rfl))) ⟨_, rfl, Below.refl _ _, rfl⟩,
         fun k a w1 hlo hhi hE hat => step_ok (on_none rfl) (run_fieldAddr (m := 0) rfl (hat.dep 2 245 (by kernel_rfl) (by kernel_rfl)) (by kernel_rfl) rfl) ⟨_, rfl, Below.refl _ _, rfl⟩,
         fun k a w1 hlo hhi hE hat => step_ok (on_none rfl) (run_fieldAddr (m := 10) rfl (hat.dep 3 246 (by kernel_rfl) (by kernel_rfl)) (by kernel_rfl) rfl) ⟨_, rfl, Below.refl _ _, rfl⟩,
         fun a w1 hE hat => step_skip (on_none rfl) (run_store (n := 9) (cells := #[.int .i64 60, .int .i64 lkind, .int .i64 lid, .int .i64 ladv, .int .i64 lseq, .int .i64 lsum, .int .i64 llong, .slice LA llinks.length lc, .slice LB lmem.length ld]) (cs' := #[.int .i64 age, .int .i64 kind, .int .i64 id, .int .i64 adv, .int .i64 seq, .int .i64 sum, .int .i64 long, .slice A links.length c, .slice B1 mem.length d, .bool false, .int .i64 60, .int .i64 lkind, .int .i64 lid, .int .i64 ladv, .int .i64 lseq, .int .i64 lsum, .int .i64 llong, .slice LA llinks.length lc, .slice LB lmem.length ld, .bool is, .int .i64 last, .int .i64 at_, .bool ever, .int .i64 now, .slice At told.length ct]) rfl (hat.dep 4 247 (by kernel_rfl) (by kernel_rfl)) (hat.dep 1 244 (by kernel_rfl) (by kernel_rfl)) rfl hE.1.out (by kernel_rfl) ⟨Nat.le_of_ble_eq_true rfl, rfl, by simp [Value.oneCell']⟩ rfl) ⟨_, rfl, rfl, hide (hE.1.out.setRow_ _), hide (hE.2.1.out.row hB HG.out hE.1.out _), hide (own_row hE.2.2.out hE.1.out (by decide) _)⟩, trivial⟩ ?_
      rintro vs a6 w6 ⟨e0, e1, e2, e3, e4, e5, -⟩ hE hput
      replace s0 : a6.tmps.getD 0 undef = .pointer (some ⟨g, 0, none⟩) := (hput.old 0 (by kernel_rfl)).trans s0
      replace hz := hput.size.trans hz
      replace hd := hput.defers.trans hd
      clear hput e0 e1 e2 e3 e4 e5 s7 s242
      refine (tick23_any B g F w w6 a6 hz hd ⟨⟨A, c, B1, d⟩, ⟨LA, lc, LB, ld⟩, At, ct, ?_, hE.2.1.out.went⟩ _ (by kernel_rfl) : Code.wp _ _ _ a6 w6)
      rw [hF.out, doneF, if_neg (show ¬ n = 1 from h1), if_pos (show n = 2 from h2)]
      exact ⟨hE.1.out, HG.out, hE.2.1.out.want, hE.2.1.out.own, hE.2.2.out⟩
    | true =>
      have hl := hLast rfl
      by_cases hs : seq' < 2147483647
      · refine wp_seq (wp_seq ?_)
        refine slots_by [fun v _ => v = .int .i64 n]
          (by kernel_rfl) (by kernel_rfl) (by kernel_rfl) hz (by kernel_rfl) rfl
          ⟨fun _ _ _ _ h => h, trivial⟩
          ⟨fun a w1 hb hat => step_ok (on_none rfl) (run_move rfl ((hat.base 8 (by kernel_rfl)).trans s8)) ⟨_, rfl, Below.refl _ _, rfl⟩, trivial⟩ ?_
        rintro vs a2 w2 hb2 ⟨e0, -⟩ hput
        replace s0 : a2.tmps.getD 0 undef = .pointer (some ⟨g, 0, none⟩) := (hput.old 0 (by kernel_rfl)).trans s0
        replace s7 : a2.tmps.getD 7 undef = .pointer (some ⟨g7, 0, none⟩) := (hput.old 7 (by kernel_rfl)).trans s7
        have s97 : a2.tmps.getD 97 undef = .int .i64 n := (hput.new 0 97 rfl).trans e0
        replace hz := hput.size.trans hz
        replace hd := hput.defers.trans hd
        clear hput e0 s8
        change Code.wp _ _ _ _ _
        refine wp_block (wp_seq ?_)
        have hK := hK.below hb2 hK.lt
        have hK7 := hK7.below hb2 hK7.lt
        refine slots_by [fun v _ => v = .bool false, fun v _ => v = .bool false]
          (by kernel_rfl) (by kernel_rfl) (by kernel_rfl) hz (by kernel_rfl) rfl
          ⟨fun _ _ _ _ h => h, fun _ _ _ _ h => h, trivial⟩
          ⟨fun a w1 hb hat => step_ok (on_none rfl) (run_cmp rfl ((hat.base 97 (by kernel_rfl)).trans s97) rfl rfl (by simp; omega)) ⟨_, rfl, Below.refl _ _, rfl⟩,
           fun a w1 hb hat => step_ok (on_none rfl) (run_assign rfl (hat.dep 0 99 (by kernel_rfl) (by kernel_rfl))) ⟨_, rfl, Below.refl _ _, rfl⟩, trivial⟩ ?_
        rintro vs a3 w3 hb3 ⟨e0, e1, -⟩ hput
        replace s0 : a3.tmps.getD 0 undef = .pointer (some ⟨g, 0, none⟩) := (hput.old 0 (by kernel_rfl)).trans s0
        replace s7 : a3.tmps.getD 7 undef = .pointer (some ⟨g7, 0, none⟩) := (hput.old 7 (by kernel_rfl)).trans s7
        replace s97 : a3.tmps.getD 97 undef = .int .i64 n := (hput.old 97 (by kernel_rfl)).trans s97
        have s98 : a3.tmps.getD 98 undef = .bool false := (hput.new 1 98 rfl).trans e1
        replace hz := hput.size.trans hz
        replace hd := hput.defers.trans hd
        clear hput e0 e1
        change Code.wp _ _ _ _ _
        have hbb := hb2.trans (hb3.mono hb2.size)
        refine wp_cond_false s98 (wp_seq ?_)
        have hK := hK.below hb3 hK.lt
        have hK7 := hK7.below hb3 hK7.lt
        refine slots_by [fun v _ => v = .bool true, fun v _ => v = .bool true]
          (by kernel_rfl) (by kernel_rfl) (by kernel_rfl) hz (by kernel_rfl) rfl
          ⟨fun _ _ _ _ h => h, fun _ _ _ _ h => h, trivial⟩
          ⟨fun a w1 hb hat => step_ok (on_none rfl) (run_cmp rfl ((hat.base 97 (by kernel_rfl)).trans s97) rfl rfl (by simp [h2])) ⟨_, rfl, Below.refl _ _, rfl⟩,
           fun a w1 hb hat => step_ok (on_none rfl) (run_assign rfl (hat.dep 0 213 (by kernel_rfl) (by kernel_rfl))) ⟨_, rfl, Below.refl _ _, rfl⟩, trivial⟩ ?_
        rintro vs a4 w4 hb4 ⟨e0, e1, -⟩ hput
        replace s0 : a4.tmps.getD 0 undef = .pointer (some ⟨g, 0, none⟩) := (hput.old 0 (by kernel_rfl)).trans s0
        replace s7 : a4.tmps.getD 7 undef = .pointer (some ⟨g7, 0, none⟩) := (hput.old 7 (by kernel_rfl)).trans s7
        have s212 : a4.tmps.getD 212 undef = .bool true := (hput.new 1 212 rfl).trans e1
        replace hz := hput.size.trans hz
        replace hd := hput.defers.trans hd
        clear hput e0 e1 s97 s98
        change Code.wp _ _ _ _ _
        have hbc := hbb.trans (hb4.mono hbb.size)
        refine wp_cond_true s212 (wp_seq (wp_seq ?_))
        have hK := hK.below hb4 hK.lt
        have hK7 := hK7.below hb4 hK7.lt
        refine slots_by [fun v _ => v = .pointer (some ⟨g, 0, none⟩), fun v _ => v = .pointer (some ⟨g, 0, none⟩), fun v _ => v = .pointer (some ⟨g, 0, none⟩), fun v _ => v = .pointer (some ⟨g, 9, none⟩), fun v _ => v = .bool true, fun v _ => v = .bool true, fun v _ => v = .pointer (some ⟨g, 0, none⟩), fun v _ => v = .pointer (some ⟨g, 0, none⟩), fun v _ => v = .pointer (some ⟨g, 0, none⟩), fun v _ => v = .pointer (some ⟨g, 10, none⟩), fun v _ => v = .pointer (some ⟨g, 10, none⟩), fun v _ => v = .pointer (some ⟨g, 14, none⟩), fun v _ => v = .int .i64 seq', fun v _ => v = .bool true, fun v _ => v = .bool true, fun v _ => v = .bool true, fun v _ => v = .pointer (some ⟨g, 0, none⟩), fun v _ => v = .pointer (some ⟨g, 0, none⟩), fun v _ => v = .pointer (some ⟨g, 0, none⟩), fun v _ => v = .pointer (some ⟨g, 20, none⟩), fun v _ => v = .int .i64 last, fun v _ => v = .bool false, fun v _ => v = .bool false, fun v _ => v = .bool false, fun v _ => v = .pointer (some ⟨g7, 0, none⟩), fun v _ => v = .pointer (some ⟨g7, 0, none⟩), fun v _ => v = .int .i64 60, fun v _ => v = .bool false, fun v _ => v = .bool false]
          (by kernel_rfl) (by kernel_rfl) (by kernel_rfl) hz (by kernel_rfl) rfl
          ⟨fun _ _ _ _ h => h, fun _ _ _ _ h => h, fun _ _ _ _ h => h, fun _ _ _ _ h => h, fun _ _ _ _ h => h, fun _ _ _ _ h => h, fun _ _ _ _ h => h, fun _ _ _ _ h => h, fun _ _ _ _ h => h, fun _ _ _ _ h => h, fun _ _ _ _ h => h, fun _ _ _ _ h => h, fun _ _ _ _ h => h, fun _ _ _ _ h => h, fun _ _ _ _ h => h, fun _ _ _ _ h => h, fun _ _ _ _ h => h, fun _ _ _ _ h => h, fun _ _ _ _ h => h, fun _ _ _ _ h => h, fun _ _ _ _ h => h, fun _ _ _ _ h => h, fun _ _ _ _ h => h, fun _ _ _ _ h => h, fun _ _ _ _ h => h, fun _ _ _ _ h => h, fun _ _ _ _ h => h, fun _ _ _ _ h => h, fun _ _ _ _ h => h, trivial⟩
          ⟨fun a w1 hb hat => step_ok (on_none rfl) (run_move rfl ((hat.base 0 (by kernel_rfl)).trans s0)) ⟨_, rfl, Below.refl _ _, rfl⟩,
           fun a w1 hb hat => step_ok (on_none rfl) (run_nilCheck rfl (hat.dep 0 214 (by kernel_rfl) (by kernel_rfl))) ⟨_, rfl, Below.refl _ _, rfl⟩,
           fun a w1 hb hat => step_ok (on_none rfl) (run_fieldAddr (m := 0) rfl (hat.dep 1 215 (by kernel_rfl) (by kernel_rfl)) (by kernel_rfl) rfl) ⟨_, rfl, Below.refl _ _, rfl⟩,
           fun a w1 hb hat => step_ok (on_none rfl) (run_fieldAddr (m := 9) rfl (hat.dep 2 216 (by kernel_rfl) (by kernel_rfl)) (by kernel_rfl) rfl) ⟨_, rfl, Below.refl _ _, rfl⟩,
           fun a w1 hb hat => step_ok (on_none rfl) (run_load rfl (hat.dep 3 217 (by kernel_rfl) (by kernel_rfl)) (by kernel_rfl) (show w1.cell? ⟨g, 9, none⟩ = some (.bool true) from Blk.cell (hK.below hb hK.lt) 9)) ⟨_, rfl, Below.refl _ _, rfl⟩,
           fun a w1 hb hat => step_ok (on_none rfl) (run_move rfl (hat.dep 4 218 (by kernel_rfl) (by kernel_rfl))) ⟨_, rfl, Below.refl _ _, rfl⟩,
           fun a w1 hb hat => step_ok (on_dep (b := true) (d := 219) rfl (by kernel_rfl) (hat.dep 5 219 (by kernel_rfl) (by kernel_rfl))) (run_move rfl ((hat.base 0 (by kernel_rfl)).trans s0)) ⟨_, rfl, Below.refl _ _, rfl⟩,
           fun a w1 hb hat => step_ok (on_dep (b := true) (d := 219) rfl (by kernel_rfl) (hat.dep 5 219 (by kernel_rfl) (by kernel_rfl))) (run_nilCheck rfl (hat.dep 6 220 (by kernel_rfl) (by kernel_rfl))) ⟨_, rfl, Below.refl _ _, rfl⟩,
           fun a w1 hb hat => step_ok (on_dep (b := true) (d := 219) rfl (by kernel_rfl) (hat.dep 5 219 (by kernel_rfl) (by kernel_rfl))) (run_fieldAddr (m := 0) rfl (hat.dep 7 221 (by kernel_rfl) (by kernel_rfl)) (by kernel_rfl) rfl) ⟨_, rfl, Below.refl _ _, rfl⟩,
           fun a w1 hb hat => step_ok (on_dep (b := true) (d := 219) rfl (by kernel_rfl) (hat.dep 5 219 (by kernel_rfl) (by kernel_rfl))) (run_fieldAddr (m := 10) rfl (hat.dep 8 222 (by kernel_rfl) (by kernel_rfl)) (by kernel_rfl) rfl) ⟨_, rfl, Below.refl _ _, rfl⟩,
           fun a w1 hb hat => step_ok (on_dep (b := true) (d := 219) rfl (by kernel_rfl) (hat.dep 5 219 (by kernel_rfl) (by kernel_rfl))) (run_fieldAddr (m := 0) rfl (hat.dep 9 223 (by kernel_rfl) (by kernel_rfl)) (by kernel_rfl) rfl) ⟨_, rfl, Below.refl _ _, rfl⟩,
           fun a w1 hb hat => step_ok (on_dep (b := true) (d := 219) rfl (by kernel_rfl) (hat.dep 5 219 (by kernel_rfl) (by kernel_rfl))) (run_fieldAddr (m := 4) rfl (hat.dep 10 224 (by kernel_rfl) (by kernel_rfl)) (by kernel_rfl) rfl) ⟨_, rfl, Below.refl _ _, rfl⟩,
           fun a w1 hb hat => step_ok (on_dep (b := true) (d := 219) rfl (by kernel_rfl) (hat.dep 5 219 (by kernel_rfl) (by kernel_rfl))) (run_load rfl (hat.dep 11 225 (by kernel_rfl) (by kernel_rfl)) (by kernel_rfl) (show w1.cell? ⟨g, 14, none⟩ = some (.int .i64 seq') from Blk.cell (hK.below hb hK.lt) 14)) ⟨_, rfl, Below.refl _ _, rfl⟩,
           fun a w1 hb hat => step_ok (on_dep (b := true) (d := 219) rfl (by kernel_rfl) (hat.dep 5 219 (by kernel_rfl) (by kernel_rfl))) (run_cmp rfl (hat.dep 12 226 (by kernel_rfl) (by kernel_rfl)) rfl rfl (by simp; omega)) ⟨_, rfl, Below.refl _ _, rfl⟩,
           fun a w1 hb hat => step_ok (on_none rfl) (run_pick_t rfl (hat.dep 5 219 (by kernel_rfl) (by kernel_rfl)) (hat.dep 13 227 (by kernel_rfl) (by kernel_rfl))) ⟨_, rfl, Below.refl _ _, rfl⟩,
           fun a w1 hb hat => step_ok (on_none rfl) (run_move rfl (hat.dep 14 228 (by kernel_rfl) (by kernel_rfl))) ⟨_, rfl, Below.refl _ _, rfl⟩,
           fun a w1 hb hat => step_ok (on_dep (b := true) (d := 229) rfl (by kernel_rfl) (hat.dep 15 229 (by kernel_rfl) (by kernel_rfl))) (run_move rfl ((hat.base 0 (by kernel_rfl)).trans s0)) ⟨_, rfl, Below.refl _ _, rfl⟩,
           fun a w1 hb hat => step_ok (on_dep (b := true) (d := 229) rfl (by kernel_rfl) (hat.dep 15 229 (by kernel_rfl) (by kernel_rfl))) (run_nilCheck rfl (hat.dep 16 230 (by kernel_rfl) (by kernel_rfl))) ⟨_, rfl, Below.refl _ _, rfl⟩,
           fun a w1 hb hat => step_ok (on_dep (b := true) (d := 229) rfl (by kernel_rfl) (hat.dep 15 229 (by kernel_rfl) (by kernel_rfl))) (run_fieldAddr (m := 0) rfl (hat.dep 17 231 (by kernel_rfl) (by kernel_rfl)) (by kernel_rfl) rfl) ⟨_, rfl, Below.refl _ _, rfl⟩,
           fun a w1 hb hat => step_ok (on_dep (b := true) (d := 229) rfl (by kernel_rfl) (hat.dep 15 229 (by kernel_rfl) (by kernel_rfl))) (run_fieldAddr (m := 20) rfl (hat.dep 18 232 (by kernel_rfl) (by kernel_rfl)) (by kernel_rfl) rfl) ⟨_, rfl, Below.refl _ _, rfl⟩,
           fun a w1 hb hat => step_ok (on_dep (b := true) (d := 229) rfl (by kernel_rfl) (hat.dep 15 229 (by kernel_rfl) (by kernel_rfl))) (run_load rfl (hat.dep 19 233 (by kernel_rfl) (by kernel_rfl)) (by kernel_rfl) (show w1.cell? ⟨g, 20, none⟩ = some (.int .i64 last) from Blk.cell (hK.below hb hK.lt) 20)) ⟨_, rfl, Below.refl _ _, rfl⟩,
           fun a w1 hb hat => step_ok (on_dep (b := true) (d := 229) rfl (by kernel_rfl) (hat.dep 15 229 (by kernel_rfl) (by kernel_rfl))) (run_cmp rfl (hat.dep 20 234 (by kernel_rfl) (by kernel_rfl)) rfl rfl (by simp; omega)) ⟨_, rfl, Below.refl _ _, rfl⟩,
           fun a w1 hb hat => step_ok (on_none rfl) (run_pick_t rfl (hat.dep 15 229 (by kernel_rfl) (by kernel_rfl)) (hat.dep 21 235 (by kernel_rfl) (by kernel_rfl))) ⟨_, rfl, Below.refl _ _, rfl⟩,
           fun a w1 hb hat => step_ok (on_none rfl) (run_move rfl (hat.dep 22 236 (by kernel_rfl) (by kernel_rfl))) ⟨_, rfl, Below.refl _ _, rfl⟩,
           fun a w1 hb hat => step_ok (on_dep (b := false) (d := 237) rfl (by kernel_rfl) (hat.dep 23 237 (by kernel_rfl) (by kernel_rfl))) (run_fieldAddr (m := 0) rfl ((hat.base 7 (by kernel_rfl)).trans s7) (by kernel_rfl) rfl) ⟨_, rfl, Below.refl _ _, rfl⟩,
           fun a w1 hb hat => step_ok (on_dep (b := false) (d := 237) rfl (by kernel_rfl) (hat.dep 23 237 (by kernel_rfl) (by kernel_rfl))) (run_fieldAddr (m := 0) rfl (hat.dep 24 238 (by kernel_rfl) (by kernel_rfl)) (by kernel_rfl) rfl) ⟨_, rfl, Below.refl _ _, rfl⟩,
           fun a w1 hb hat => step_ok (on_dep (b := false) (d := 237) rfl (by kernel_rfl) (hat.dep 23 237 (by kernel_rfl) (by kernel_rfl))) (run_load rfl (hat.dep 25 239 (by kernel_rfl) (by kernel_rfl)) (by kernel_rfl) (show w1.cell? ⟨g7, 0, none⟩ = some (.int .i64 60) from Blk.cell (hK7.below hb hK7.lt) 0)) ⟨_, rfl, Below.refl _ _, rfl⟩,
           fun a w1 hb hat => step_ok (on_dep (b := false) (d := 237) rfl (by kernel_rfl) (hat.dep 23 237 (by kernel_rfl) (by kernel_rfl))) (run_cmp rfl (hat.dep 26 240 (by kernel_rfl) (by kernel_rfl)) rfl rfl (by simp)) ⟨_, rfl, Below.refl _ _, rfl⟩,
           fun a w1 hb hat => step_ok (on_none rfl) (run_pick_f rfl (hat.dep 23 237 (by kernel_rfl) (by kernel_rfl)) (hat.dep 27 241 (by kernel_rfl) (by kernel_rfl))) ⟨_, rfl, Below.refl _ _, rfl⟩, trivial⟩ ?_
        rintro vs a5 w5 hb5 ⟨e0, e1, e2, e3, e4, e5, e6, e7, e8, e9, e10, e11, e12, e13, e14, e15, e16, e17, e18, e19, e20, e21, e22, e23, e24, e25, e26, e27, e28, -⟩ hput
        replace s0 : a5.tmps.getD 0 undef = .pointer (some ⟨g, 0, none⟩) := (hput.old 0 (by kernel_rfl)).trans s0
        replace s7 : a5.tmps.getD 7 undef = .pointer (some ⟨g7, 0, none⟩) := (hput.old 7 (by kernel_rfl)).trans s7
        have s242 : a5.tmps.getD 242 undef = .bool false := (hput.new 28 242 rfl).trans e28
        replace hz := hput.size.trans hz
        replace hd := hput.defers.trans hd
        clear hput e0 e1 e2 e3 e4 e5 e6 e7 e8 e9 e10 e11 e12 e13 e14 e15 e16 e17 e18 e19 e20 e21 e22 e23 e24 e25 e26 e27 e28 s212
        change Code.wp _ _ _ _ _
        refine wp_cond_false s242 (wp_skip ?_)
        change Code.wp _ _ _ _ _
        have hbd := hbc.trans (hb5.mono hbc.size)
        have HG := hide hL.base
        have hW5 := hW.trans (Went.of_below hbd (Nat.le_trans hB hW.below.size))
        have HO : Hid (Oth B g7 ⟨⟨⟨⟨age, kind, id, adv, seq, sum, long⟩, links, mem⟩, true, ⟨⟨age', kind', id', adv', seq', sum', long'⟩, links', mem'⟩, is, last, at_, ever⟩, now, told⟩ ⟨⟨60, lkind, lid, ladv, lseq, lsum, llong⟩, llinks, lmem⟩ ⟨A, c, B1, d⟩ ⟨A', c', B', d'⟩ ⟨LA, lc, LB, ld⟩ w w5) := hide ⟨HK7.out.below hbd HK7.out.lt, HO7.out.below hbd, (hL.below hbd).want, (hL.below hbd).held, hW5⟩
        refine slots_flat [5] [0, 0, 0, 0, 0, 0] [0, 0, 1, 1, 0, 1] [fun v _ => v = .pointer (some ⟨g, 0, none⟩), fun v _ => v = .agg (List.toArray [.int .i64 60, .int .i64 lkind, .int .i64 lid, .int .i64 ladv, .int .i64 lseq, .int .i64 lsum, .int .i64 llong, .slice LA llinks.length lc, .slice LB lmem.length ld]), fun v _ => v = .pointer (some ⟨g, 0, none⟩), fun v _ => v = .pointer (some ⟨g, 0, none⟩), fun v _ => v = .pointer (some ⟨g, 10, none⟩), fun v _ => v = undef] (fun k => match k with | 0 => fun w' => Hid (Blk w' g 60 (#[.int .i64 age, .int .i64 kind, .int .i64 id, .int .i64 adv, .int .i64 seq, .int .i64 sum, .int .i64 long, .slice A links.length c, .slice B1 mem.length d, .bool true, .int .i64 age', .int .i64 kind', .int .i64 id', .int .i64 adv', .int .i64 seq', .int .i64 sum', .int .i64 long', .slice A' links'.length c', .slice B' mem'.length d', .bool is, .int .i64 last, .int .i64 at_, .bool ever, .int .i64 now, .slice At told.length ct] : Array Value)) ∧ Hid (Oth B g7 ⟨⟨⟨⟨age, kind, id, adv, seq, sum, long⟩, links, mem⟩, true, ⟨⟨age', kind', id', adv', seq', sum', long'⟩, links', mem'⟩, is, last, at_, ever⟩, now, told⟩ ⟨⟨60, lkind, lid, ladv, lseq, lsum, llong⟩, llinks, lmem⟩ ⟨A, c, B1, d⟩ ⟨A', c', B', d'⟩ ⟨LA, lc, LB, ld⟩ w w') ∧ Hid (w'.ownsRow B 23 7 (.slice At told.length ct) told.length (rowC HD.cells told)) | 1 => fun w' => Hid (Blk w' g 60 (#[.int .i64 age, .int .i64 kind, .int .i64 id, .int .i64 adv, .int .i64 seq, .int .i64 sum, .int .i64 long, .slice A links.length c, .slice B1 mem.length d, .bool true, .int .i64 60, .int .i64 lkind, .int .i64 lid, .int .i64 ladv, .int .i64 lseq, .int .i64 lsum, .int .i64 llong, .slice LA llinks.length lc, .slice LB lmem.length ld, .bool is, .int .i64 last, .int .i64 at_, .bool ever, .int .i64 now, .slice At told.length ct] : Array Value)) ∧ Hid (Oth B g7 ⟨⟨⟨⟨age, kind, id, adv, seq, sum, long⟩, links, mem⟩, true, ⟨⟨age', kind', id', adv', seq', sum', long'⟩, links', mem'⟩, is, last, at_, ever⟩, now, told⟩ ⟨⟨60, lkind, lid, ladv, lseq, lsum, llong⟩, llinks, lmem⟩ ⟨A, c, B1, d⟩ ⟨A', c', B', d'⟩ ⟨LA, lc, LB, ld⟩ w w') ∧ Hid (w'.ownsRow B 23 7 (.slice At told.length ct) told.length (rowC HD.cells told)) | _ => fun _ => False)
          (by kernel_rfl) (by kernel_rfl) (by kernel_rfl) hz (by kernel_rfl) rfl (by kernel_rfl)
          ⟨fun _ _ _ h => h, fun _ _ _ h => h, fun _ _ _ h => h, fun _ _ _ h => h, fun _ _ _ h => h, fun _ _ _ h => h, trivial⟩
          (fun k w1 w2 hb h => match k, h with | 0, h => ⟨hide (h.1.out.below hb h.1.out.lt), hide (h.2.1.out.below hB hb), hide (own_below h.2.2.out hb)⟩ | 1, h => ⟨hide (h.1.out.below hb h.1.out.lt), hide (h.2.1.out.below hB hb), hide (own_below h.2.2.out hb)⟩ | _ + 2, h => h) (⟨hide (hL.below hbd).blk, HO, hide (hL.below hbd).told⟩)
          ⟨fun k a w1 hlo hhi hE hat => step_ok (on_none rfl) (run_move rfl ((hat.base 0 (by kernel_rfl)).trans s0)) ⟨_, rfl, Below.refl _ _, rfl⟩,
           (fun k a w1 hlo hhi hE hat => match k, hlo, hhi, hE with
             | 0, _, _, hE => step_ok (on_none rfl) (run_loadS (n := 9) (out := [.int .i64 60, .int .i64 lkind, .int .i64 lid, .int .i64 ladv, .int .i64 lseq, .int .i64 lsum, .int .i64 llong, .slice LA llinks.length lc, .slice LB lmem.length ld]) rfl ((hat.base 7 (by kernel_rfl)).trans s7) (by kernel_rfl) hE.2.1.out.blk rfl rfl) ⟨_, rfl, Below.refl _ _, rfl⟩
             | k + 1, _, h, _ => absurd h (by show ¬ (k + 1 ≤ 0); omega)),
           fun k a w1 hlo hhi hE hat => step_ok (on_none rfl) (run_nilCheck rfl (hat.dep 0 243 (by kernel_rfl) (by kernel_rfl))) ⟨_, rfl, Below.refl _ _, rfl⟩,
           fun k a w1 hlo hhi hE hat => step_ok (on_none rfl) (run_fieldAddr (m := 0) rfl (hat.dep 2 245 (by kernel_rfl) (by kernel_rfl)) (by kernel_rfl) rfl) ⟨_, rfl, Below.refl _ _, rfl⟩,
           fun k a w1 hlo hhi hE hat => step_ok (on_none rfl) (run_fieldAddr (m := 10) rfl (hat.dep 3 246 (by kernel_rfl) (by kernel_rfl)) (by kernel_rfl) rfl) ⟨_, rfl, Below.refl _ _, rfl⟩,
           fun a w1 hE hat => step_skip (on_none rfl) (run_store (n := 9) (cells := #[.int .i64 60, .int .i64 lkind, .int .i64 lid, .int .i64 ladv, .int .i64 lseq, .int .i64 lsum, .int .i64 llong, .slice LA llinks.length lc, .slice LB lmem.length ld]) (cs' := #[.int .i64 age, .int .i64 kind, .int .i64 id, .int .i64 adv, .int .i64 seq, .int .i64 sum, .int .i64 long, .slice A links.length c, .slice B1 mem.length d, .bool true, .int .i64 60, .int .i64 lkind, .int .i64 lid, .int .i64 ladv, .int .i64 lseq, .int .i64 lsum, .int .i64 llong, .slice LA llinks.length lc, .slice LB lmem.length ld, .bool is, .int .i64 last, .int .i64 at_, .bool ever, .int .i64 now, .slice At told.length ct]) rfl (hat.dep 4 247 (by kernel_rfl) (by kernel_rfl)) (hat.dep 1 244 (by kernel_rfl) (by kernel_rfl)) rfl hE.1.out (by kernel_rfl) ⟨Nat.le_of_ble_eq_true rfl, rfl, by simp [Value.oneCell']⟩ rfl) ⟨_, rfl, rfl, hide (hE.1.out.setRow_ _), hide (hE.2.1.out.row hB HG.out hE.1.out _), hide (own_row hE.2.2.out hE.1.out (by decide) _)⟩, trivial⟩ ?_
        rintro vs a6 w6 ⟨e0, e1, e2, e3, e4, e5, -⟩ hE hput
        replace s0 : a6.tmps.getD 0 undef = .pointer (some ⟨g, 0, none⟩) := (hput.old 0 (by kernel_rfl)).trans s0
        replace hz := hput.size.trans hz
        replace hd := hput.defers.trans hd
        clear hput e0 e1 e2 e3 e4 e5 s7 s242
        refine (tick23_any B g F w w6 a6 hz hd ⟨⟨A, c, B1, d⟩, ⟨LA, lc, LB, ld⟩, At, ct, ?_, hE.2.1.out.went⟩ _ (by kernel_rfl) : Code.wp _ _ _ a6 w6)
        rw [hF.out, doneF, if_neg (show ¬ n = 1 from h1), if_pos (show n = 2 from h2)]
        exact ⟨hE.1.out, HG.out, hE.2.1.out.want, hE.2.1.out.own, hE.2.2.out⟩
      · refine wp_seq (wp_seq ?_)
        refine slots_by [fun v _ => v = .int .i64 n]
          (by kernel_rfl) (by kernel_rfl) (by kernel_rfl) hz (by kernel_rfl) rfl
          ⟨fun _ _ _ _ h => h, trivial⟩
          ⟨fun a w1 hb hat => step_ok (on_none rfl) (run_move rfl ((hat.base 8 (by kernel_rfl)).trans s8)) ⟨_, rfl, Below.refl _ _, rfl⟩, trivial⟩ ?_
        rintro vs a2 w2 hb2 ⟨e0, -⟩ hput
        replace s0 : a2.tmps.getD 0 undef = .pointer (some ⟨g, 0, none⟩) := (hput.old 0 (by kernel_rfl)).trans s0
        replace s7 : a2.tmps.getD 7 undef = .pointer (some ⟨g7, 0, none⟩) := (hput.old 7 (by kernel_rfl)).trans s7
        have s97 : a2.tmps.getD 97 undef = .int .i64 n := (hput.new 0 97 rfl).trans e0
        replace hz := hput.size.trans hz
        replace hd := hput.defers.trans hd
        clear hput e0 s8
        change Code.wp _ _ _ _ _
        refine wp_block (wp_seq ?_)
        have hK := hK.below hb2 hK.lt
        have hK7 := hK7.below hb2 hK7.lt
        refine slots_by [fun v _ => v = .bool false, fun v _ => v = .bool false]
          (by kernel_rfl) (by kernel_rfl) (by kernel_rfl) hz (by kernel_rfl) rfl
          ⟨fun _ _ _ _ h => h, fun _ _ _ _ h => h, trivial⟩
          ⟨fun a w1 hb hat => step_ok (on_none rfl) (run_cmp rfl ((hat.base 97 (by kernel_rfl)).trans s97) rfl rfl (by simp; omega)) ⟨_, rfl, Below.refl _ _, rfl⟩,
           fun a w1 hb hat => step_ok (on_none rfl) (run_assign rfl (hat.dep 0 99 (by kernel_rfl) (by kernel_rfl))) ⟨_, rfl, Below.refl _ _, rfl⟩, trivial⟩ ?_
        rintro vs a3 w3 hb3 ⟨e0, e1, -⟩ hput
        replace s0 : a3.tmps.getD 0 undef = .pointer (some ⟨g, 0, none⟩) := (hput.old 0 (by kernel_rfl)).trans s0
        replace s7 : a3.tmps.getD 7 undef = .pointer (some ⟨g7, 0, none⟩) := (hput.old 7 (by kernel_rfl)).trans s7
        replace s97 : a3.tmps.getD 97 undef = .int .i64 n := (hput.old 97 (by kernel_rfl)).trans s97
        have s98 : a3.tmps.getD 98 undef = .bool false := (hput.new 1 98 rfl).trans e1
        replace hz := hput.size.trans hz
        replace hd := hput.defers.trans hd
        clear hput e0 e1
        change Code.wp _ _ _ _ _
        have hbb := hb2.trans (hb3.mono hb2.size)
        refine wp_cond_false s98 (wp_seq ?_)
        have hK := hK.below hb3 hK.lt
        have hK7 := hK7.below hb3 hK7.lt
        refine slots_by [fun v _ => v = .bool true, fun v _ => v = .bool true]
          (by kernel_rfl) (by kernel_rfl) (by kernel_rfl) hz (by kernel_rfl) rfl
          ⟨fun _ _ _ _ h => h, fun _ _ _ _ h => h, trivial⟩
          ⟨fun a w1 hb hat => step_ok (on_none rfl) (run_cmp rfl ((hat.base 97 (by kernel_rfl)).trans s97) rfl rfl (by simp [h2])) ⟨_, rfl, Below.refl _ _, rfl⟩,
           fun a w1 hb hat => step_ok (on_none rfl) (run_assign rfl (hat.dep 0 213 (by kernel_rfl) (by kernel_rfl))) ⟨_, rfl, Below.refl _ _, rfl⟩, trivial⟩ ?_
        rintro vs a4 w4 hb4 ⟨e0, e1, -⟩ hput
        replace s0 : a4.tmps.getD 0 undef = .pointer (some ⟨g, 0, none⟩) := (hput.old 0 (by kernel_rfl)).trans s0
        replace s7 : a4.tmps.getD 7 undef = .pointer (some ⟨g7, 0, none⟩) := (hput.old 7 (by kernel_rfl)).trans s7
        have s212 : a4.tmps.getD 212 undef = .bool true := (hput.new 1 212 rfl).trans e1
        replace hz := hput.size.trans hz
        replace hd := hput.defers.trans hd
        clear hput e0 e1 s97 s98
        change Code.wp _ _ _ _ _
        have hbc := hbb.trans (hb4.mono hbb.size)
        refine wp_cond_true s212 (wp_seq (wp_seq ?_))
        have hK := hK.below hb4 hK.lt
        have hK7 := hK7.below hb4 hK7.lt
        refine slots_by [fun v _ => v = .pointer (some ⟨g, 0, none⟩), fun v _ => v = .pointer (some ⟨g, 0, none⟩), fun v _ => v = .pointer (some ⟨g, 0, none⟩), fun v _ => v = .pointer (some ⟨g, 9, none⟩), fun v _ => v = .bool true, fun v _ => v = .bool true, fun v _ => v = .pointer (some ⟨g, 0, none⟩), fun v _ => v = .pointer (some ⟨g, 0, none⟩), fun v _ => v = .pointer (some ⟨g, 0, none⟩), fun v _ => v = .pointer (some ⟨g, 10, none⟩), fun v _ => v = .pointer (some ⟨g, 10, none⟩), fun v _ => v = .pointer (some ⟨g, 14, none⟩), fun v _ => v = .int .i64 seq', fun v _ => v = .bool false, fun v _ => v = .bool false, fun v _ => v = .bool false, fun v _ => v = undef, fun v _ => v = undef, fun v _ => v = undef, fun v _ => v = undef, fun v _ => v = undef, fun v _ => v = undef, fun v _ => v = .bool false, fun v _ => v = .bool false, fun v _ => v = .pointer (some ⟨g7, 0, none⟩), fun v _ => v = .pointer (some ⟨g7, 0, none⟩), fun v _ => v = .int .i64 60, fun v _ => v = .bool false, fun v _ => v = .bool false]
          (by kernel_rfl) (by kernel_rfl) (by kernel_rfl) hz (by kernel_rfl) rfl
          ⟨fun _ _ _ _ h => h, fun _ _ _ _ h => h, fun _ _ _ _ h => h, fun _ _ _ _ h => h, fun _ _ _ _ h => h, fun _ _ _ _ h => h, fun _ _ _ _ h => h, fun _ _ _ _ h => h, fun _ _ _ _ h => h, fun _ _ _ _ h => h, fun _ _ _ _ h => h, fun _ _ _ _ h => h, fun _ _ _ _ h => h, fun _ _ _ _ h => h, fun _ _ _ _ h => h, fun _ _ _ _ h => h, fun _ _ _ _ h => h, fun _ _ _ _ h => h, fun _ _ _ _ h => h, fun _ _ _ _ h => h, fun _ _ _ _ h => h, fun _ _ _ _ h => h, fun _ _ _ _ h => h, fun _ _ _ _ h => h, fun _ _ _ _ h => h, fun _ _ _ _ h => h, fun _ _ _ _ h => h, fun _ _ _ _ h => h, fun _ _ _ _ h => h, trivial⟩
          ⟨fun a w1 hb hat => step_ok (on_none rfl) (run_move rfl ((hat.base 0 (by kernel_rfl)).trans s0)) ⟨_, rfl, Below.refl _ _, rfl⟩,
           fun a w1 hb hat => step_ok (on_none rfl) (run_nilCheck rfl (hat.dep 0 214 (by kernel_rfl) (by kernel_rfl))) ⟨_, rfl, Below.refl _ _, rfl⟩,
           fun a w1 hb hat => step_ok (on_none rfl) (run_fieldAddr (m := 0) rfl (hat.dep 1 215 (by kernel_rfl) (by kernel_rfl)) (by kernel_rfl) rfl) ⟨_, rfl, Below.refl _ _, rfl⟩,
           fun a w1 hb hat => step_ok (on_none rfl) (run_fieldAddr (m := 9) rfl (hat.dep 2 216 (by kernel_rfl) (by kernel_rfl)) (by kernel_rfl) rfl) ⟨_, rfl, Below.refl _ _, rfl⟩,
           fun a w1 hb hat => step_ok (on_none rfl) (run_load rfl (hat.dep 3 217 (by kernel_rfl) (by kernel_rfl)) (by kernel_rfl) (show w1.cell? ⟨g, 9, none⟩ = some (.bool true) from Blk.cell (hK.below hb hK.lt) 9)) ⟨_, rfl, Below.refl _ _, rfl⟩,
           fun a w1 hb hat => step_ok (on_none rfl) (run_move rfl (hat.dep 4 218 (by kernel_rfl) (by kernel_rfl))) ⟨_, rfl, Below.refl _ _, rfl⟩,
           fun a w1 hb hat => step_ok (on_dep (b := true) (d := 219) rfl (by kernel_rfl) (hat.dep 5 219 (by kernel_rfl) (by kernel_rfl))) (run_move rfl ((hat.base 0 (by kernel_rfl)).trans s0)) ⟨_, rfl, Below.refl _ _, rfl⟩,
           fun a w1 hb hat => step_ok (on_dep (b := true) (d := 219) rfl (by kernel_rfl) (hat.dep 5 219 (by kernel_rfl) (by kernel_rfl))) (run_nilCheck rfl (hat.dep 6 220 (by kernel_rfl) (by kernel_rfl))) ⟨_, rfl, Below.refl _ _, rfl⟩,
           fun a w1 hb hat => step_ok (on_dep (b := true) (d := 219) rfl (by kernel_rfl) (hat.dep 5 219 (by kernel_rfl) (by kernel_rfl))) (run_fieldAddr (m := 0) rfl (hat.dep 7 221 (by kernel_rfl) (by kernel_rfl)) (by kernel_rfl) rfl) ⟨_, rfl, Below.refl _ _, rfl⟩,
           fun a w1 hb hat => step_ok (on_dep (b := true) (d := 219) rfl (by kernel_rfl) (hat.dep 5 219 (by kernel_rfl) (by kernel_rfl))) (run_fieldAddr (m := 10) rfl (hat.dep 8 222 (by kernel_rfl) (by kernel_rfl)) (by kernel_rfl) rfl) ⟨_, rfl, Below.refl _ _, rfl⟩,
           fun a w1 hb hat => step_ok (on_dep (b := true) (d := 219) rfl (by kernel_rfl) (hat.dep 5 219 (by kernel_rfl) (by kernel_rfl))) (run_fieldAddr (m := 0) rfl (hat.dep 9 223 (by kernel_rfl) (by kernel_rfl)) (by kernel_rfl) rfl) ⟨_, rfl, Below.refl _ _, rfl⟩,
           fun a w1 hb hat => step_ok (on_dep (b := true) (d := 219) rfl (by kernel_rfl) (hat.dep 5 219 (by kernel_rfl) (by kernel_rfl))) (run_fieldAddr (m := 4) rfl (hat.dep 10 224 (by kernel_rfl) (by kernel_rfl)) (by kernel_rfl) rfl) ⟨_, rfl, Below.refl _ _, rfl⟩,
           fun a w1 hb hat => step_ok (on_dep (b := true) (d := 219) rfl (by kernel_rfl) (hat.dep 5 219 (by kernel_rfl) (by kernel_rfl))) (run_load rfl (hat.dep 11 225 (by kernel_rfl) (by kernel_rfl)) (by kernel_rfl) (show w1.cell? ⟨g, 14, none⟩ = some (.int .i64 seq') from Blk.cell (hK.below hb hK.lt) 14)) ⟨_, rfl, Below.refl _ _, rfl⟩,
           fun a w1 hb hat => step_ok (on_dep (b := true) (d := 219) rfl (by kernel_rfl) (hat.dep 5 219 (by kernel_rfl) (by kernel_rfl))) (run_cmp rfl (hat.dep 12 226 (by kernel_rfl) (by kernel_rfl)) rfl rfl (by simp; omega)) ⟨_, rfl, Below.refl _ _, rfl⟩,
           fun a w1 hb hat => step_ok (on_none rfl) (run_pick_t rfl (hat.dep 5 219 (by kernel_rfl) (by kernel_rfl)) (hat.dep 13 227 (by kernel_rfl) (by kernel_rfl))) ⟨_, rfl, Below.refl _ _, rfl⟩,
           fun a w1 hb hat => step_ok (on_none rfl) (run_move rfl (hat.dep 14 228 (by kernel_rfl) (by kernel_rfl))) ⟨_, rfl, Below.refl _ _, rfl⟩,
           fun a w1 hb hat => step_off (off_dep (b := true) (d := 229) rfl (by kernel_rfl) (hat.dep 15 229 (by kernel_rfl) (by kernel_rfl))) rfl,
           fun a w1 hb hat => step_off (off_dep (b := true) (d := 229) rfl (by kernel_rfl) (hat.dep 15 229 (by kernel_rfl) (by kernel_rfl))) rfl,
           fun a w1 hb hat => step_off (off_dep (b := true) (d := 229) rfl (by kernel_rfl) (hat.dep 15 229 (by kernel_rfl) (by kernel_rfl))) rfl,
           fun a w1 hb hat => step_off (off_dep (b := true) (d := 229) rfl (by kernel_rfl) (hat.dep 15 229 (by kernel_rfl) (by kernel_rfl))) rfl,
           fun a w1 hb hat => step_off (off_dep (b := true) (d := 229) rfl (by kernel_rfl) (hat.dep 15 229 (by kernel_rfl) (by kernel_rfl))) rfl,
           fun a w1 hb hat => step_off (off_dep (b := true) (d := 229) rfl (by kernel_rfl) (hat.dep 15 229 (by kernel_rfl) (by kernel_rfl))) rfl,
           fun a w1 hb hat => step_ok (on_none rfl) (run_pick_f rfl (hat.dep 15 229 (by kernel_rfl) (by kernel_rfl)) rfl) ⟨_, rfl, Below.refl _ _, rfl⟩,
           fun a w1 hb hat => step_ok (on_none rfl) (run_move rfl (hat.dep 22 236 (by kernel_rfl) (by kernel_rfl))) ⟨_, rfl, Below.refl _ _, rfl⟩,
           fun a w1 hb hat => step_ok (on_dep (b := false) (d := 237) rfl (by kernel_rfl) (hat.dep 23 237 (by kernel_rfl) (by kernel_rfl))) (run_fieldAddr (m := 0) rfl ((hat.base 7 (by kernel_rfl)).trans s7) (by kernel_rfl) rfl) ⟨_, rfl, Below.refl _ _, rfl⟩,
           fun a w1 hb hat => step_ok (on_dep (b := false) (d := 237) rfl (by kernel_rfl) (hat.dep 23 237 (by kernel_rfl) (by kernel_rfl))) (run_fieldAddr (m := 0) rfl (hat.dep 24 238 (by kernel_rfl) (by kernel_rfl)) (by kernel_rfl) rfl) ⟨_, rfl, Below.refl _ _, rfl⟩,
           fun a w1 hb hat => step_ok (on_dep (b := false) (d := 237) rfl (by kernel_rfl) (hat.dep 23 237 (by kernel_rfl) (by kernel_rfl))) (run_load rfl (hat.dep 25 239 (by kernel_rfl) (by kernel_rfl)) (by kernel_rfl) (show w1.cell? ⟨g7, 0, none⟩ = some (.int .i64 60) from Blk.cell (hK7.below hb hK7.lt) 0)) ⟨_, rfl, Below.refl _ _, rfl⟩,
           fun a w1 hb hat => step_ok (on_dep (b := false) (d := 237) rfl (by kernel_rfl) (hat.dep 23 237 (by kernel_rfl) (by kernel_rfl))) (run_cmp rfl (hat.dep 26 240 (by kernel_rfl) (by kernel_rfl)) rfl rfl (by simp)) ⟨_, rfl, Below.refl _ _, rfl⟩,
           fun a w1 hb hat => step_ok (on_none rfl) (run_pick_f rfl (hat.dep 23 237 (by kernel_rfl) (by kernel_rfl)) (hat.dep 27 241 (by kernel_rfl) (by kernel_rfl))) ⟨_, rfl, Below.refl _ _, rfl⟩, trivial⟩ ?_
        rintro vs a5 w5 hb5 ⟨e0, e1, e2, e3, e4, e5, e6, e7, e8, e9, e10, e11, e12, e13, e14, e15, e16, e17, e18, e19, e20, e21, e22, e23, e24, e25, e26, e27, e28, -⟩ hput
        replace s0 : a5.tmps.getD 0 undef = .pointer (some ⟨g, 0, none⟩) := (hput.old 0 (by kernel_rfl)).trans s0
        replace s7 : a5.tmps.getD 7 undef = .pointer (some ⟨g7, 0, none⟩) := (hput.old 7 (by kernel_rfl)).trans s7
        have s242 : a5.tmps.getD 242 undef = .bool false := (hput.new 28 242 rfl).trans e28
        replace hz := hput.size.trans hz
        replace hd := hput.defers.trans hd
        clear hput e0 e1 e2 e3 e4 e5 e6 e7 e8 e9 e10 e11 e12 e13 e14 e15 e16 e17 e18 e19 e20 e21 e22 e23 e24 e25 e26 e27 e28 s212
        change Code.wp _ _ _ _ _
        refine wp_cond_false s242 (wp_skip ?_)
        change Code.wp _ _ _ _ _
        have hbd := hbc.trans (hb5.mono hbc.size)
        have HG := hide hL.base
        have hW5 := hW.trans (Went.of_below hbd (Nat.le_trans hB hW.below.size))
        have HO : Hid (Oth B g7 ⟨⟨⟨⟨age, kind, id, adv, seq, sum, long⟩, links, mem⟩, true, ⟨⟨age', kind', id', adv', seq', sum', long'⟩, links', mem'⟩, is, last, at_, ever⟩, now, told⟩ ⟨⟨60, lkind, lid, ladv, lseq, lsum, llong⟩, llinks, lmem⟩ ⟨A, c, B1, d⟩ ⟨A', c', B', d'⟩ ⟨LA, lc, LB, ld⟩ w w5) := hide ⟨HK7.out.below hbd HK7.out.lt, HO7.out.below hbd, (hL.below hbd).want, (hL.below hbd).held, hW5⟩
        refine slots_flat [5] [0, 0, 0, 0, 0, 0] [0, 0, 1, 1, 0, 1] [fun v _ => v = .pointer (some ⟨g, 0, none⟩), fun v _ => v = .agg (List.toArray [.int .i64 60, .int .i64 lkind, .int .i64 lid, .int .i64 ladv, .int .i64 lseq, .int .i64 lsum, .int .i64 llong, .slice LA llinks.length lc, .slice LB lmem.length ld]), fun v _ => v = .pointer (some ⟨g, 0, none⟩), fun v _ => v = .pointer (some ⟨g, 0, none⟩), fun v _ => v = .pointer (some ⟨g, 10, none⟩), fun v _ => v = undef] (fun k => match k with | 0 => fun w' => Hid (Blk w' g 60 (#[.int .i64 age, .int .i64 kind, .int .i64 id, .int .i64 adv, .int .i64 seq, .int .i64 sum, .int .i64 long, .slice A links.length c, .slice B1 mem.length d, .bool true, .int .i64 age', .int .i64 kind', .int .i64 id', .int .i64 adv', .int .i64 seq', .int .i64 sum', .int .i64 long', .slice A' links'.length c', .slice B' mem'.length d', .bool is, .int .i64 last, .int .i64 at_, .bool ever, .int .i64 now, .slice At told.length ct] : Array Value)) ∧ Hid (Oth B g7 ⟨⟨⟨⟨age, kind, id, adv, seq, sum, long⟩, links, mem⟩, true, ⟨⟨age', kind', id', adv', seq', sum', long'⟩, links', mem'⟩, is, last, at_, ever⟩, now, told⟩ ⟨⟨60, lkind, lid, ladv, lseq, lsum, llong⟩, llinks, lmem⟩ ⟨A, c, B1, d⟩ ⟨A', c', B', d'⟩ ⟨LA, lc, LB, ld⟩ w w') ∧ Hid (w'.ownsRow B 23 7 (.slice At told.length ct) told.length (rowC HD.cells told)) | 1 => fun w' => Hid (Blk w' g 60 (#[.int .i64 age, .int .i64 kind, .int .i64 id, .int .i64 adv, .int .i64 seq, .int .i64 sum, .int .i64 long, .slice A links.length c, .slice B1 mem.length d, .bool true, .int .i64 60, .int .i64 lkind, .int .i64 lid, .int .i64 ladv, .int .i64 lseq, .int .i64 lsum, .int .i64 llong, .slice LA llinks.length lc, .slice LB lmem.length ld, .bool is, .int .i64 last, .int .i64 at_, .bool ever, .int .i64 now, .slice At told.length ct] : Array Value)) ∧ Hid (Oth B g7 ⟨⟨⟨⟨age, kind, id, adv, seq, sum, long⟩, links, mem⟩, true, ⟨⟨age', kind', id', adv', seq', sum', long'⟩, links', mem'⟩, is, last, at_, ever⟩, now, told⟩ ⟨⟨60, lkind, lid, ladv, lseq, lsum, llong⟩, llinks, lmem⟩ ⟨A, c, B1, d⟩ ⟨A', c', B', d'⟩ ⟨LA, lc, LB, ld⟩ w w') ∧ Hid (w'.ownsRow B 23 7 (.slice At told.length ct) told.length (rowC HD.cells told)) | _ => fun _ => False)
          (by kernel_rfl) (by kernel_rfl) (by kernel_rfl) hz (by kernel_rfl) rfl (by kernel_rfl)
          ⟨fun _ _ _ h => h, fun _ _ _ h => h, fun _ _ _ h => h, fun _ _ _ h => h, fun _ _ _ h => h, fun _ _ _ h => h, trivial⟩
          (fun k w1 w2 hb h => match k, h with | 0, h => ⟨hide (h.1.out.below hb h.1.out.lt), hide (h.2.1.out.below hB hb), hide (own_below h.2.2.out hb)⟩ | 1, h => ⟨hide (h.1.out.below hb h.1.out.lt), hide (h.2.1.out.below hB hb), hide (own_below h.2.2.out hb)⟩ | _ + 2, h => h) (⟨hide (hL.below hbd).blk, HO, hide (hL.below hbd).told⟩)
          ⟨fun k a w1 hlo hhi hE hat => step_ok (on_none rfl) (run_move rfl ((hat.base 0 (by kernel_rfl)).trans s0)) ⟨_, rfl, Below.refl _ _, rfl⟩,
           (fun k a w1 hlo hhi hE hat => match k, hlo, hhi, hE with
             | 0, _, _, hE => step_ok (on_none rfl) (run_loadS (n := 9) (out := [.int .i64 60, .int .i64 lkind, .int .i64 lid, .int .i64 ladv, .int .i64 lseq, .int .i64 lsum, .int .i64 llong, .slice LA llinks.length lc, .slice LB lmem.length ld]) rfl ((hat.base 7 (by kernel_rfl)).trans s7) (by kernel_rfl) hE.2.1.out.blk rfl rfl) ⟨_, rfl, Below.refl _ _, rfl⟩
             | k + 1, _, h, _ => absurd h (by show ¬ (k + 1 ≤ 0); omega)),
           fun k a w1 hlo hhi hE hat => step_ok (on_none rfl) (run_nilCheck rfl (hat.dep 0 243 (by kernel_rfl) (by kernel_rfl))) ⟨_, rfl, Below.refl _ _, rfl⟩,
           fun k a w1 hlo hhi hE hat => step_ok (on_none rfl) (run_fieldAddr (m := 0) rfl (hat.dep 2 245 (by kernel_rfl) (by kernel_rfl)) (by kernel_rfl) rfl) ⟨_, rfl, Below.refl _ _, rfl⟩,
           fun k a w1 hlo hhi hE hat => step_ok (on_none rfl) (run_fieldAddr (m := 10) rfl (hat.dep 3 246 (by kernel_rfl) (by kernel_rfl)) (by kernel_rfl) rfl) ⟨_, rfl, Below.refl _ _, rfl⟩,
           fun a w1 hE hat => step_skip (on_none rfl) (run_store (n := 9) (cells := #[.int .i64 60, .int .i64 lkind, .int .i64 lid, .int .i64 ladv, .int .i64 lseq, .int .i64 lsum, .int .i64 llong, .slice LA llinks.length lc, .slice LB lmem.length ld]) (cs' := #[.int .i64 age, .int .i64 kind, .int .i64 id, .int .i64 adv, .int .i64 seq, .int .i64 sum, .int .i64 long, .slice A links.length c, .slice B1 mem.length d, .bool true, .int .i64 60, .int .i64 lkind, .int .i64 lid, .int .i64 ladv, .int .i64 lseq, .int .i64 lsum, .int .i64 llong, .slice LA llinks.length lc, .slice LB lmem.length ld, .bool is, .int .i64 last, .int .i64 at_, .bool ever, .int .i64 now, .slice At told.length ct]) rfl (hat.dep 4 247 (by kernel_rfl) (by kernel_rfl)) (hat.dep 1 244 (by kernel_rfl) (by kernel_rfl)) rfl hE.1.out (by kernel_rfl) ⟨Nat.le_of_ble_eq_true rfl, rfl, by simp [Value.oneCell']⟩ rfl) ⟨_, rfl, rfl, hide (hE.1.out.setRow_ _), hide (hE.2.1.out.row hB HG.out hE.1.out _), hide (own_row hE.2.2.out hE.1.out (by decide) _)⟩, trivial⟩ ?_
        rintro vs a6 w6 ⟨e0, e1, e2, e3, e4, e5, -⟩ hE hput
        replace s0 : a6.tmps.getD 0 undef = .pointer (some ⟨g, 0, none⟩) := (hput.old 0 (by kernel_rfl)).trans s0
        replace hz := hput.size.trans hz
        replace hd := hput.defers.trans hd
        clear hput e0 e1 e2 e3 e4 e5 s7 s242
        refine (tick23_any B g F w w6 a6 hz hd ⟨⟨A, c, B1, d⟩, ⟨LA, lc, LB, ld⟩, At, ct, ?_, hE.2.1.out.went⟩ _ (by kernel_rfl) : Code.wp _ _ _ a6 w6)
        rw [hF.out, doneF, if_neg (show ¬ n = 1 from h1), if_pos (show n = 2 from h2)]
        exact ⟨hE.1.out, HG.out, hE.2.1.out.want, hE.2.1.out.own, hE.2.2.out⟩
  · refine wp_seq (wp_seq ?_)
    refine slots_by [fun v _ => v = .int .i64 n]
      (by kernel_rfl) (by kernel_rfl) (by kernel_rfl) hz (by kernel_rfl) rfl
      ⟨fun _ _ _ _ h => h, trivial⟩
      ⟨fun a w1 hb hat => step_ok (on_none rfl) (run_move rfl ((hat.base 8 (by kernel_rfl)).trans s8)) ⟨_, rfl, Below.refl _ _, rfl⟩, trivial⟩ ?_
    rintro vs a2 w2 hb2 ⟨e0, -⟩ hput
    replace s0 : a2.tmps.getD 0 undef = .pointer (some ⟨g, 0, none⟩) := (hput.old 0 (by kernel_rfl)).trans s0
    replace s7 : a2.tmps.getD 7 undef = .pointer (some ⟨g7, 0, none⟩) := (hput.old 7 (by kernel_rfl)).trans s7
    have s97 : a2.tmps.getD 97 undef = .int .i64 n := (hput.new 0 97 rfl).trans e0
    replace hz := hput.size.trans hz
    replace hd := hput.defers.trans hd
    clear hput e0 s8
    change Code.wp _ _ _ _ _
    refine wp_block (wp_seq ?_)
    have hK := hK.below hb2 hK.lt
    have hK7 := hK7.below hb2 hK7.lt
    refine slots_by [fun v _ => v = .bool false, fun v _ => v = .bool false]
      (by kernel_rfl) (by kernel_rfl) (by kernel_rfl) hz (by kernel_rfl) rfl
      ⟨fun _ _ _ _ h => h, fun _ _ _ _ h => h, trivial⟩
      ⟨fun a w1 hb hat => step_ok (on_none rfl) (run_cmp rfl ((hat.base 97 (by kernel_rfl)).trans s97) rfl rfl (by simp; omega)) ⟨_, rfl, Below.refl _ _, rfl⟩,
       fun a w1 hb hat => step_ok (on_none rfl) (run_assign rfl (hat.dep 0 99 (by kernel_rfl) (by kernel_rfl))) ⟨_, rfl, Below.refl _ _, rfl⟩, trivial⟩ ?_
    rintro vs a3 w3 hb3 ⟨e0, e1, -⟩ hput
    replace s0 : a3.tmps.getD 0 undef = .pointer (some ⟨g, 0, none⟩) := (hput.old 0 (by kernel_rfl)).trans s0
    replace s7 : a3.tmps.getD 7 undef = .pointer (some ⟨g7, 0, none⟩) := (hput.old 7 (by kernel_rfl)).trans s7
    replace s97 : a3.tmps.getD 97 undef = .int .i64 n := (hput.old 97 (by kernel_rfl)).trans s97
    have s98 : a3.tmps.getD 98 undef = .bool false := (hput.new 1 98 rfl).trans e1
    replace hz := hput.size.trans hz
    replace hd := hput.defers.trans hd
    clear hput e0 e1
    change Code.wp _ _ _ _ _
    have hbb := hb2.trans (hb3.mono hb2.size)
    refine wp_cond_false s98 (wp_seq ?_)
    have hK := hK.below hb3 hK.lt
    have hK7 := hK7.below hb3 hK7.lt
    refine slots_by [fun v _ => v = .bool false, fun v _ => v = .bool false]
      (by kernel_rfl) (by kernel_rfl) (by kernel_rfl) hz (by kernel_rfl) rfl
      ⟨fun _ _ _ _ h => h, fun _ _ _ _ h => h, trivial⟩
      ⟨fun a w1 hb hat => step_ok (on_none rfl) (run_cmp rfl ((hat.base 97 (by kernel_rfl)).trans s97) rfl rfl (by simp; omega)) ⟨_, rfl, Below.refl _ _, rfl⟩,
       fun a w1 hb hat => step_ok (on_none rfl) (run_assign rfl (hat.dep 0 213 (by kernel_rfl) (by kernel_rfl))) ⟨_, rfl, Below.refl _ _, rfl⟩, trivial⟩ ?_
    rintro vs a4 w4 hb4 ⟨e0, e1, -⟩ hput
    replace s0 : a4.tmps.getD 0 undef = .pointer (some ⟨g, 0, none⟩) := (hput.old 0 (by kernel_rfl)).trans s0
    replace s7 : a4.tmps.getD 7 undef = .pointer (some ⟨g7, 0, none⟩) := (hput.old 7 (by kernel_rfl)).trans s7
    have s212 : a4.tmps.getD 212 undef = .bool false := (hput.new 1 212 rfl).trans e1
    replace hz := hput.size.trans hz
    replace hd := hput.defers.trans hd
    clear hput e0 e1 s97 s98
    change Code.wp _ _ _ _ _
    have hbc := hbb.trans (hb4.mono hbb.size)
    refine wp_cond_false s212 (wp_skip ?_)
    refine (tick23_any B g F w w4 a4 hz hd ⟨⟨A, c, B1, d⟩, ⟨A', c', B', d'⟩, At, ct, ?_, hW.trans (Went.of_below hbc (Nat.le_trans hB hW.below.size))⟩ _ (by kernel_rfl) : Code.wp _ _ _ a4 w4)
    rw [hF.out, doneF, if_neg (show ¬ n = 1 from h1), if_neg (show ¬ n = 2 from h2)]
    exact hL.below hbc
/-- what stands beside a life, whatever is wanted and held -/
structure Res (B : Nat) (wv hv : LV) (p q : LP) (told : List HD) (At : Option Addr) (ct : Nat) (w0 w : World) : Prop where
  want : LOwn w B wv p
  held : LOwn w B hv q
  told : w.ownsRow B 23 7 (.slice At told.length ct) told.length (rowC HD.cells told)
  went : Went B w0 w
theorem Res.below {B : Nat} {wv hv : LV} {p q : LP} {told : List HD} {At : Option Addr} {ct : Nat} {w0 w w' : World} (h : Res B wv hv p q told At ct w0 w) (hB : B ≤ w0.heap.size) (hb : Below w.heap.size w w') : Res B wv hv p q told At ct w0 w' :=
  ⟨h.want.below hb, h.held.below hb, own_below h.told hb, h.went.trans (Went.of_below hb (Nat.le_trans hB h.went.below.size))⟩
theorem Res.row {B g : Nat} {wv hv : LV} {p q : LP} {told : List HD} {At : Option Addr} {ct : Nat} {w0 w : World} {cs : Array Value} (h : Res B wv hv p q told At ct w0 w) (hB : B ≤ w0.heap.size) (hg : B ≤ g) (hb : Blk w g 60 cs) (cs' : Array Value) : Res B wv hv p q told At ct w0 (w.setRow g cs') := by
  have hK := (Keeps.refl (fun x => x = g) w).row (.inl rfl) cs'
  have hW := went_blk hb hg (Nat.le_trans hB h.went.below.size) hK
  exact ⟨h.want.keepT hW.keep, h.held.keepT hW.keep, own_row h.told hb (by decide) cs', h.went.trans hW⟩
theorem LOwn.row27 {B g : Nat} {l : LV} {p : LP} {w : World} {cs : Array Value} (h : LOwn w B l p) (hb : Blk w g 27 cs) (cs' : Array Value) : LOwn (w.setRow g cs') B l p := by
  have hK := (Keeps.refl (fun x => x = g) w).row (.inl rfl) cs'
  exact ⟨hK.own h.links (fun x hx e => own_blk_ne h.links hb (by decide) (e ▸ hx)), hK.own h.mem (fun x hx e => own_blk_ne h.mem hb (by decide) (e ▸ hx))⟩
theorem Life.row27 {B g g7 : Nat} {s : LS} {p q : LP} {At : Option Addr} {ct : Nat} {w : World} {cs : Array Value} (h : Life B w g s p q At ct) (hb : Blk w g7 27 cs) (cs' : Array Value) : Life B (w.setRow g7 cs') g s p q At ct := by
  have hK := (Keeps.refl (fun x => x = g7) w).row (.inl rfl) cs'
  exact ⟨hK.blk h.blk (blk_ne h.blk hb (by decide)), h.base, h.want.row27 hb cs', h.held.row27 hb cs', hK.own h.told (fun x hx e => own_blk_ne h.told hb (by decide) (e ▸ hx))⟩
theorem below27 {N g7 : Nat} {w0 w : World} {cs' : Array Value} (h : Below N w0 w) (hg : N ≤ g7) : Below N w0 (w.setRow g7 cs') := below_row h hg cs'
set_option maxRecDepth 100000 in
set_option maxHeartbeats 8000000 in
theorem tick7_any (B g : Nat) (s F : LS) (p q : LP) (At : Option Addr) (ct : Nat) (w wr : World) (a : Act) (hz : a.tmps.size = 248) (hd : a.defers = [])
    (s0 : a.tmps.getD 0 undef = .pointer (some ⟨g, 0, none⟩)) (hT : TOK s) (hF : Hid (F = doneF s (planF s.m s.now)))
    (hB : B ≤ w.heap.size) (hL : Life B wr g s p q At ct) (hW : Went B w wr)
    (cde : Code) (hcd : tailOf Try.f20 7 = cde) : Code.wp Try.prog cde (bodyPost Try.prog Try.f20 (TP B g w F)) a wr := by
  subst hcd
  conv => arg 2; whnf
  obtain ⟨l, n, hP⟩ : ∃ l n, planF s.m s.now = (l, n) := ⟨_, _, rfl⟩
  have hp := fun w1 hok => plan_any s.m p q s.now w1 ⟨hT.wl, hT.wm, hT.hl, hT.hm⟩ hok (by have := hT.now; omega) (by have := hT.at_; have := hT.now; omega) (by have := hT.last; omega) (by have := hT.seq; omega)
  rw [hP] at hp
  dsimp only at hp
  obtain ⟨⟨⟨⟨age, kind, id, adv, seq, sum, long⟩, links, mem⟩, wanted, ⟨⟨age', kind', id', adv', seq', sum', long'⟩, links', mem'⟩, is, last, at_, ever⟩, now, told⟩ := s
  obtain ⟨A, c, B1, d⟩ := p
  obtain ⟨A', c', B', d'⟩ := q
  have HPL := hide hp
  have HT := hide hT
  have HP := hide hP
  clear hT hp hP
  have HG := hide hL.base
  have hBr := Nat.le_trans hB hW.below.size
  refine wp_seq ?_
  have h7 : ∀ (w1 : World) (k : Nat) (vs : Nat → Option Value), k ≤ 0 → ((fun k => match k with | 0 => fun _ w' => Hid (Life B w' g ⟨⟨⟨⟨age, kind, id, adv, seq, sum, long⟩, links, mem⟩, wanted, ⟨⟨age', kind', id', adv', seq', sum', long'⟩, links', mem'⟩, is, last, at_, ever⟩, now, told⟩ ⟨A, c, B1, d⟩ ⟨A', c', B', d'⟩ At ct) ∧ Hid (Below wr.heap.size wr w') | 1 => fun vs w' => ∃ g7 pl, vs 12 = some (.pointer (some ⟨g7, 0, none⟩)) ∧ Hid (Blk w' g7 27 (lsaA l pl)) ∧ Hid (LOwn w' B l pl) ∧ Hid (Life B w' g ⟨⟨⟨⟨age, kind, id, adv, seq, sum, long⟩, links, mem⟩, wanted, ⟨⟨age', kind', id', adv', seq', sum', long'⟩, links', mem'⟩, is, last, at_, ever⟩, now, told⟩ ⟨A, c, B1, d⟩ ⟨A', c', B', d'⟩ At ct) ∧ Hid (Below wr.heap.size wr w') | _ => fun _ _ => False) : Nat → (Nat → Option Value) → World → Prop) k vs w1 → LOK w1 ⟨⟨age, kind, id, adv, seq, sum, long⟩, links, mem⟩ ⟨A, c, B1, d⟩ ∧ LOK w1 ⟨⟨age', kind', id', adv', seq', sum', long'⟩, links', mem'⟩ ⟨A', c', B', d'⟩ := fun w1 k vs hk h => match k, hk, h with | 0, _, h => ⟨h.1.out.want.ok, h.1.out.held.ok⟩
  have h7b : ∀ (w1 : World) (k : Nat) (vs : Nat → Option Value), k ≤ 0 → ((fun k => match k with | 0 => fun _ w' => Hid (Life B w' g ⟨⟨⟨⟨age, kind, id, adv, seq, sum, long⟩, links, mem⟩, wanted, ⟨⟨age', kind', id', adv', seq', sum', long'⟩, links', mem'⟩, is, last, at_, ever⟩, now, told⟩ ⟨A, c, B1, d⟩ ⟨A', c', B', d'⟩ At ct) ∧ Hid (Below wr.heap.size wr w') | 1 => fun vs w' => ∃ g7 pl, vs 12 = some (.pointer (some ⟨g7, 0, none⟩)) ∧ Hid (Blk w' g7 27 (lsaA l pl)) ∧ Hid (LOwn w' B l pl) ∧ Hid (Life B w' g ⟨⟨⟨⟨age, kind, id, adv, seq, sum, long⟩, links, mem⟩, wanted, ⟨⟨age', kind', id', adv', seq', sum', long'⟩, links', mem'⟩, is, last, at_, ever⟩, now, told⟩ ⟨A, c, B1, d⟩ ⟨A', c', B', d'⟩ At ct) ∧ Hid (Below wr.heap.size wr w') | _ => fun _ _ => False) : Nat → (Nat → Option Value) → World → Prop) k vs w1 → B ≤ w1.heap.size := fun w1 k vs hk h => match k, hk, h with | 0, _, h => Nat.le_trans hBr h.2.out.size
  have h7c : ∀ (w1 : World) (k : Nat) (vs : Nat → Option Value), k ≤ 0 → ((fun k => match k with | 0 => fun _ w' => Hid (Life B w' g ⟨⟨⟨⟨age, kind, id, adv, seq, sum, long⟩, links, mem⟩, wanted, ⟨⟨age', kind', id', adv', seq', sum', long'⟩, links', mem'⟩, is, last, at_, ever⟩, now, told⟩ ⟨A, c, B1, d⟩ ⟨A', c', B', d'⟩ At ct) ∧ Hid (Below wr.heap.size wr w') | 1 => fun vs w' => ∃ g7 pl, vs 12 = some (.pointer (some ⟨g7, 0, none⟩)) ∧ Hid (Blk w' g7 27 (lsaA l pl)) ∧ Hid (LOwn w' B l pl) ∧ Hid (Life B w' g ⟨⟨⟨⟨age, kind, id, adv, seq, sum, long⟩, links, mem⟩, wanted, ⟨⟨age', kind', id', adv', seq', sum', long'⟩, links', mem'⟩, is, last, at_, ever⟩, now, told⟩ ⟨A, c, B1, d⟩ ⟨A', c', B', d'⟩ At ct) ∧ Hid (Below wr.heap.size wr w') | _ => fun _ _ => False) : Nat → (Nat → Option Value) → World → Prop) k vs w1 → wr.heap.size ≤ w1.heap.size := fun w1 k vs hk h => match k, hk, h with | 0, _, h => h.2.out.size
  refine slots_link [13] [0, 0, 0, 0, 0, 0, 0, 0, 0, 0, 0, 0, 0, 0, 1] [0, 0, 0, 0, 0, 0, 0, 0, 0, 0, 0, 1, 0, 1, 1] [fun v _ => v = .pointer (some ⟨g, 0, none⟩), fun v _ => v = .pointer (some ⟨g, 0, none⟩), fun v _ => v = .pointer (some ⟨g, 0, none⟩), fun v _ => v = .agg (List.toArray [.int .i64 age, .int .i64 kind, .int .i64 id, .int .i64 adv, .int .i64 seq, .int .i64 sum, .int .i64 long, .slice A links.length c, .slice B1 mem.length d, .bool wanted, .int .i64 age', .int .i64 kind', .int .i64 id', .int .i64 adv', .int .i64 seq', .int .i64 sum', .int .i64 long', .slice A' links'.length c', .slice B' mem'.length d', .bool is, .int .i64 last, .int .i64 at_, .bool ever]), fun v _ => v = .pointer (some ⟨g, 0, none⟩), fun v _ => v = .pointer (some ⟨g, 0, none⟩), fun v _ => v = .pointer (some ⟨g, 23, none⟩), fun v _ => v = .int .i64 now, fun v w' => ∃ pl, v = .tuple #[.agg (lsaA l pl), .int .i64 n] ∧ LOwn w' B l pl, fun v w' => ∃ pl, v = .tuple #[.agg (lsaA l pl), .int .i64 n] ∧ LOwn w' B l pl, fun v w' => ∃ pl, v = .agg (lsaA l pl) ∧ LOwn w' B l pl, fun v _ => v = .int .i64 n, fun v w' => ∃ g7, v = .pointer (some ⟨g7, 0, none⟩) ∧ wr.heap.size ≤ g7 ∧ ∃ cs, Blk w' g7 27 cs ∧ cs.size = 9, fun v _ => v = undef, fun v _ => v = .int .i64 n] (fun k => match k with | 0 => fun _ w' => Hid (Life B w' g ⟨⟨⟨⟨age, kind, id, adv, seq, sum, long⟩, links, mem⟩, wanted, ⟨⟨age', kind', id', adv', seq', sum', long'⟩, links', mem'⟩, is, last, at_, ever⟩, now, told⟩ ⟨A, c, B1, d⟩ ⟨A', c', B', d'⟩ At ct) ∧ Hid (Below wr.heap.size wr w') | 1 => fun vs w' => ∃ g7 pl, vs 12 = some (.pointer (some ⟨g7, 0, none⟩)) ∧ Hid (Blk w' g7 27 (lsaA l pl)) ∧ Hid (LOwn w' B l pl) ∧ Hid (Life B w' g ⟨⟨⟨⟨age, kind, id, adv, seq, sum, long⟩, links, mem⟩, wanted, ⟨⟨age', kind', id', adv', seq', sum', long'⟩, links', mem'⟩, is, last, at_, ever⟩, now, told⟩ ⟨A, c, B1, d⟩ ⟨A', c', B', d'⟩ At ct) ∧ Hid (Below wr.heap.size wr w') | _ => fun _ _ => False)
    (by kernel_rfl) (by kernel_rfl) (by kernel_rfl) hz (by kernel_rfl) rfl (by kernel_rfl)
    ⟨fun _ _ _ _ h => h, fun _ _ _ _ h => h, fun _ _ _ _ h => h, fun _ _ _ _ h => h, fun _ _ _ _ h => h, fun _ _ _ _ h => h, fun _ _ _ _ h => h, fun _ _ _ _ h => h, fun _ _ _ hb ⟨pl, e, h⟩ => ⟨pl, e, h.below hb⟩, fun _ _ _ hb ⟨pl, e, h⟩ => ⟨pl, e, h.below hb⟩, fun _ _ _ hb ⟨pl, e, h⟩ => ⟨pl, e, h.below hb⟩, fun _ _ _ _ h => h, fun _ _ _ hb ⟨g7, e, hg, cs, hc, hs⟩ => ⟨g7, e, hg, cs, hc.below hb hc.lt, hs⟩, fun _ _ _ _ h => h, fun _ _ _ _ h => h, trivial⟩
    (fun k vs vs' w1 w2 hb hv h => match k, h with | 0, h => ⟨hide (h.1.out.below hb), hide (h.2.out.trans (hb.mono h.2.out.size))⟩ | 1, ⟨g7, pl, e, hk, ho, h⟩ => ⟨g7, pl, hv _ _ e, hide (hk.out.below hb hk.out.lt), hide (ho.out.below hb), hide (h.1.out.below hb), hide (h.2.out.trans (hb.mono h.2.out.size))⟩ | _ + 2, h => h) (⟨hide hL, hide (Below.refl _ _)⟩)
    ⟨fun k vs a w1 hlo hhi hE hat => step_ok (on_none rfl) (run_move rfl ((hat.base 0 (by kernel_rfl)).trans s0)) ⟨_, rfl, Below.refl _ _, rfl⟩,
     fun k vs a w1 hlo hhi hE hat => step_ok (on_none rfl) (run_nilCheck rfl (hat.dep 0 86 (by kernel_rfl) (by kernel_rfl)).1) ⟨_, rfl, Below.refl _ _, rfl⟩,
     fun k vs a w1 hlo hhi hE hat => step_ok (on_none rfl) (run_fieldAddr (m := 0) rfl (hat.dep 1 87 (by kernel_rfl) (by kernel_rfl)).1 (by kernel_rfl) rfl) ⟨_, rfl, Below.refl _ _, rfl⟩,
     (fun k vs a w1 hlo hhi hE hat => match k, hlo, hhi, hE with
       | 0, _, _, hE => step_ok (on_none rfl) (run_loadS (n := 23) (out := [.int .i64 age, .int .i64 kind, .int .i64 id, .int .i64 adv, .int .i64 seq, .int .i64 sum, .int .i64 long, .slice A links.length c, .slice B1 mem.length d, .bool wanted, .int .i64 age', .int .i64 kind', .int .i64 id', .int .i64 adv', .int .i64 seq', .int .i64 sum', .int .i64 long', .slice A' links'.length c', .slice B' mem'.length d', .bool is, .int .i64 last, .int .i64 at_, .bool ever]) rfl (hat.dep 2 88 (by kernel_rfl) (by kernel_rfl)).1 (by kernel_rfl) hE.1.out.blk rfl rfl) ⟨_, rfl, Below.refl _ _, rfl⟩
       | k + 1, _, h, _ => absurd h (by show ¬ (k + 1 ≤ 0); omega)),
     fun k vs a w1 hlo hhi hE hat => step_ok (on_none rfl) (run_move rfl ((hat.base 0 (by kernel_rfl)).trans s0)) ⟨_, rfl, Below.refl _ _, rfl⟩,
     fun k vs a w1 hlo hhi hE hat => step_ok (on_none rfl) (run_nilCheck rfl (hat.dep 4 90 (by kernel_rfl) (by kernel_rfl)).1) ⟨_, rfl, Below.refl _ _, rfl⟩,
     fun k vs a w1 hlo hhi hE hat => step_ok (on_none rfl) (run_fieldAddr (m := 23) rfl (hat.dep 5 91 (by kernel_rfl) (by kernel_rfl)).1 (by kernel_rfl) rfl) ⟨_, rfl, Below.refl _ _, rfl⟩,
     (fun k vs a w1 hlo hhi hE hat => match k, hlo, hhi, hE with
       | 0, _, _, hE => step_ok (on_none rfl) (run_load rfl (hat.dep 6 92 (by kernel_rfl) (by kernel_rfl)).1 (by kernel_rfl) (show w1.cell? ⟨g, 23, none⟩ = some (.int .i64 now) from Blk.cell hE.1.out.blk 23)) ⟨_, rfl, Below.refl _ _, rfl⟩
       | k + 1, _, h, _ => absurd h (by show ¬ (k + 1 ≤ 0); omega)),
     fun k vs a w1 hlo hhi hE hat => step_call (on_none rfl) (run_call rfl (map2 (hat.dep 3 89 (by kernel_rfl) (by kernel_rfl)).1 (hat.dep 7 93 (by kernel_rfl) (by kernel_rfl)).1) rfl) (HPL.out w1 ⟨(h7 w1 k vs hhi hE).1, (h7 w1 k vs hhi hE).2⟩) (fun e w' ⟨pl, he, ho, hb⟩ => ⟨_, he, _, rfl, hb, pl, rfl, ho.mono (h7b w1 k vs hhi hE)⟩),
     fun k vs a w1 hlo hhi hE hat => step_ok (on_none rfl) (run_move rfl rfl) ⟨_, rfl, Below.refl _ _, (hat.dep 8 94 (by kernel_rfl) (by kernel_rfl)).1⟩,
     fun k vs a w1 hlo hhi hE hat => by
       obtain ⟨pl, e, ho⟩ := (hat.dep 9 85 (by kernel_rfl) (by kernel_rfl)).1
       exact step_ok (on_none rfl) (run_extract (v := .agg (lsaA l pl)) rfl e rfl) ⟨_, rfl, Below.refl _ _, pl, rfl, ho⟩,
     fun k vs a w1 hlo hhi hE hat => by
       obtain ⟨pl, e, ho⟩ := (hat.dep 9 85 (by kernel_rfl) (by kernel_rfl)).1
       exact step_ok (on_none rfl) (run_extract (v := .int .i64 n) rfl e rfl) ⟨_, rfl, Below.refl _ _, rfl⟩,
     fun k vs a w1 hlo hhi hE hat => step_ok (on_none rfl) (run_alloc (cells := lsa0) rfl (by kernel_rfl)) ⟨_, rfl, below_new w1 _, w1.heap.size, rfl, h7c w1 k vs hhi hE, lsa0, Blk.new w1 27 lsa0, rfl⟩,
     fun vs a w1 hn hE hat => by
       obtain ⟨pl, e10, ho⟩ := (hat.dep 10 95 (by kernel_rfl) (by kernel_rfl)).1
       have v10 := (hat.dep 10 95 (by kernel_rfl) (by kernel_rfl)).2
       obtain ⟨g7, e12, hg7, cs7, hk7, hs7⟩ := (hat.dep 12 7 (by kernel_rfl) (by kernel_rfl)).1
       have v12 := (hat.dep 12 7 (by kernel_rfl) (by kernel_rfl)).2
       rw [e12] at v12
       exact step_skip (on_none rfl) (run_store (n := 9) (cells := lsaA l pl) (cs' := lsaA l pl) rfl e12 e10 rfl hk7 (by kernel_rfl) ⟨by omega, rfl, by simp [Value.oneCell']⟩ (by rw [layL_all _ _ (by simpa using hs7)])) ⟨_, rfl, stabX ⟨.inr fun _ h => h, .inr fun _ h => h, .inr fun _ h => h, .inr fun _ h => h, .inr fun _ h => h, .inr fun _ h => h, .inr fun _ h => h, .inr fun _ h => h, .inr fun _ ⟨pl, e, h⟩ => ⟨pl, e, h.row27 hk7 _⟩, .inr fun _ ⟨pl, e, h⟩ => ⟨pl, e, h.row27 hk7 _⟩, .inr fun _ ⟨pl, e, h⟩ => ⟨pl, e, h.row27 hk7 _⟩, .inr fun _ h => h, .inr fun _ ⟨g7, e, hg, hc⟩ => ⟨g7, e, hg, blkN_row hc hk7 rfl⟩, .inl rfl, .inr fun _ h => h, trivial⟩, rfl, g7, pl, by rw [upd_ne _ _ (by decide)]; exact v12, hide (hk7.setRow_ _), hide (ho.row27 hk7 _), hide (hE.1.out.row27 hk7 _), hide (below27 hE.2.out hg7)⟩,
     fun k vs a w1 hlo hhi hE hat => step_ok (on_none rfl) (run_assign rfl (hat.dep 11 96 (by kernel_rfl) (by kernel_rfl)).1) ⟨_, rfl, Below.refl _ _, rfl⟩, trivial⟩ ?_
  rintro vs a2 w2 ⟨e0, e1, e2, e3, e4, e5, e6, e7, e8, e9, e10, e11, e12, e13, e14, -⟩ hE hput
  obtain ⟨g7, pl, ev, hk7, ho7, hL7, hb7⟩ := hE
  simp only [List.length_cons, List.length_nil] at ev
  have ev : vs 12 = .pointer (some ⟨g7, 0, none⟩) := by simpa using ev
  replace s0 : a2.tmps.getD 0 undef = .pointer (some ⟨g, 0, none⟩) := (hput.old 0 (by kernel_rfl)).trans s0
  have s7 : a2.tmps.getD 7 undef = .pointer (some ⟨g7, 0, none⟩) := (hput.new 12 7 rfl).trans ev
  have s8 : a2.tmps.getD 8 undef = .int .i64 n := (hput.new 14 8 rfl).trans e14
  replace hz := hput.size.trans hz
  replace hd := hput.defers.trans hd
  clear hput e0 e1 e2 e3 e4 e5 e6 e7 e8 e9 e10 e11 e12 e13 e14
  change Code.wp _ _ _ _ _
  exact tick8_any B g ⟨⟨⟨⟨age, kind, id, adv, seq, sum, long⟩, links, mem⟩, wanted, ⟨⟨age', kind', id', adv', seq', sum', long'⟩, links', mem'⟩, is, last, at_, ever⟩, now, told⟩ F ⟨A, c, B1, d⟩ ⟨A', c', B', d'⟩ At ct w w2 a2 hz hd s0 g7 l pl n s7 s8 hk7 ho7 HT.out HP (hide (by rw [hF.out, HP.out])) hB hL7.out (hW.trans (Went.of_below hb7.out hBr)) _ (by kernel_rfl)
set_option maxRecDepth 100000 in
set_option maxHeartbeats 8000000 in
theorem tick6_any (B g : Nat) (s F : LS) (p q : LP) (At : Option Addr) (ct : Nat) (w wr : World) (a : Act) (hz : a.tmps.size = 248) (hd : a.defers = [])
    (s0 : a.tmps.getD 0 undef = .pointer (some ⟨g, 0, none⟩)) (b : Int) (hb : 0 ≤ b ∧ b < 256) (s1 : a.tmps.getD 1 undef = .int .u8 b) (hT : TOK ⟨wantedF s.m b, s.now, s.told⟩) (hF : Hid (F = doneF ⟨wantedF s.m b, s.now, s.told⟩ (planF (wantedF s.m b) s.now)))
    (hB : B ≤ w.heap.size) (hL : Life B wr g s p q At ct) (hW : Went B w wr)
    (cde : Code) (hcd : tailOf Try.f20 6 = cde) : Code.wp Try.prog cde (bodyPost Try.prog Try.f20 (TP B g w F)) a wr := by
  subst hcd
  conv => arg 2; whnf
  obtain ⟨⟨⟨⟨age, kind, id, adv, seq, sum, long⟩, links, mem⟩, wanted, ⟨⟨age', kind', id', adv', seq', sum', long'⟩, links', mem'⟩, is, last, at_, ever⟩, now, told⟩ := s
  obtain ⟨A, c, B1, d⟩ := p
  obtain ⟨A', c', B', d'⟩ := q
  have HG := hide hL.base
  have hBr := Nat.le_trans hB hW.below.size
  refine wp_seq ?_
  have h6 : ∀ (w1 : World) (k : Nat), k ≤ 0 → ((fun k => match k with | 0 => fun w' => Hid (Blk w' g 60 (lifeA ⟨⟨⟨⟨age, kind, id, adv, seq, sum, long⟩, links, mem⟩, wanted, ⟨⟨age', kind', id', adv', seq', sum', long'⟩, links', mem'⟩, is, last, at_, ever⟩, now, told⟩ ⟨A, c, B1, d⟩ ⟨A', c', B', d'⟩ At ct)) ∧ Hid (Res B ⟨⟨age, kind, id, adv, seq, sum, long⟩, links, mem⟩ ⟨⟨age', kind', id', adv', seq', sum', long'⟩, links', mem'⟩ ⟨A, c, B1, d⟩ ⟨A', c', B', d'⟩ told At ct w w') | 1 => fun w' => ∃ pw, Hid (Blk w' g 60 (lifeA ⟨⟨wantF b, wanted, ⟨⟨age', kind', id', adv', seq', sum', long'⟩, links', mem'⟩, is, last, at_, ever⟩, now, told⟩ pw ⟨A', c', B', d'⟩ At ct)) ∧ Hid (Res B (wantF b) ⟨⟨age', kind', id', adv', seq', sum', long'⟩, links', mem'⟩ pw ⟨A', c', B', d'⟩ told At ct w w') | 2 => fun w' => ∃ pw, Hid (Blk w' g 60 (lifeA ⟨⟨wantF b, b % 7 != 0, ⟨⟨age', kind', id', adv', seq', sum', long'⟩, links', mem'⟩, is, last, at_, ever⟩, now, told⟩ pw ⟨A', c', B', d'⟩ At ct)) ∧ Hid (Res B (wantF b) ⟨⟨age', kind', id', adv', seq', sum', long'⟩, links', mem'⟩ pw ⟨A', c', B', d'⟩ told At ct w w') | _ => fun _ => False) : Nat → World → Prop) k w1 → B ≤ w1.heap.size := fun w1 k hk h => match k, hk, h with | 0, _, h => Nat.le_trans hB h.2.out.went.below.size
  refine slots_stage [10, 14] [0, 0, 0, 0, 0, 0, 0, 0, 0, 0, 0, 1, 1, 1, 1] [0, 1, 0, 0, 0, 0, 1, 1, 1, 0, 1, 2, 2, 1, 2] [fun v _ => v = .pointer (some ⟨g, 0, none⟩), fun v _ => v = .pointer (some ⟨g, 0, none⟩), fun v _ => v = .int .u8 b, fun v w' => ∃ pw, v = .tuple #[.agg (lsaA (wantF b) pw), .bool (b % 7 != 0)] ∧ LOwn w' B (wantF b) pw, fun v w' => ∃ pw, v = .tuple #[.agg (lsaA (wantF b) pw), .bool (b % 7 != 0)] ∧ LOwn w' B (wantF b) pw, fun v w' => ∃ pw, v = .agg (lsaA (wantF b) pw) ∧ LOwn w' B (wantF b) pw, fun v _ => v = .bool (b % 7 != 0), fun v _ => v = .pointer (some ⟨g, 0, none⟩), fun v _ => v = .pointer (some ⟨g, 0, none⟩), fun v _ => v = .pointer (some ⟨g, 0, none⟩), fun v _ => v = undef, fun v _ => v = .pointer (some ⟨g, 0, none⟩), fun v _ => v = .pointer (some ⟨g, 0, none⟩), fun v _ => v = .pointer (some ⟨g, 9, none⟩), fun v _ => v = undef] (fun k => match k with | 0 => fun w' => Hid (Blk w' g 60 (lifeA ⟨⟨⟨⟨age, kind, id, adv, seq, sum, long⟩, links, mem⟩, wanted, ⟨⟨age', kind', id', adv', seq', sum', long'⟩, links', mem'⟩, is, last, at_, ever⟩, now, told⟩ ⟨A, c, B1, d⟩ ⟨A', c', B', d'⟩ At ct)) ∧ Hid (Res B ⟨⟨age, kind, id, adv, seq, sum, long⟩, links, mem⟩ ⟨⟨age', kind', id', adv', seq', sum', long'⟩, links', mem'⟩ ⟨A, c, B1, d⟩ ⟨A', c', B', d'⟩ told At ct w w') | 1 => fun w' => ∃ pw, Hid (Blk w' g 60 (lifeA ⟨⟨wantF b, wanted, ⟨⟨age', kind', id', adv', seq', sum', long'⟩, links', mem'⟩, is, last, at_, ever⟩, now, told⟩ pw ⟨A', c', B', d'⟩ At ct)) ∧ Hid (Res B (wantF b) ⟨⟨age', kind', id', adv', seq', sum', long'⟩, links', mem'⟩ pw ⟨A', c', B', d'⟩ told At ct w w') | 2 => fun w' => ∃ pw, Hid (Blk w' g 60 (lifeA ⟨⟨wantF b, b % 7 != 0, ⟨⟨age', kind', id', adv', seq', sum', long'⟩, links', mem'⟩, is, last, at_, ever⟩, now, told⟩ pw ⟨A', c', B', d'⟩ At ct)) ∧ Hid (Res B (wantF b) ⟨⟨age', kind', id', adv', seq', sum', long'⟩, links', mem'⟩ pw ⟨A', c', B', d'⟩ told At ct w w') | _ => fun _ => False)
    (by kernel_rfl) (by kernel_rfl) (by kernel_rfl) hz (by kernel_rfl) rfl (by kernel_rfl)
    ⟨fun _ _ _ _ h => h, fun _ _ _ _ h => h, fun _ _ _ _ h => h, fun _ _ _ hb ⟨pl, e, h⟩ => ⟨pl, e, h.below hb⟩, fun _ _ _ hb ⟨pl, e, h⟩ => ⟨pl, e, h.below hb⟩, fun _ _ _ hb ⟨pl, e, h⟩ => ⟨pl, e, h.below hb⟩, fun _ _ _ _ h => h, fun _ _ _ _ h => h, fun _ _ _ _ h => h, fun _ _ _ _ h => h, fun _ _ _ _ h => h, fun _ _ _ _ h => h, fun _ _ _ _ h => h, fun _ _ _ _ h => h, fun _ _ _ _ h => h, trivial⟩
    (fun k w1 w2 hb h => match k, h with | 0, h => ⟨hide (h.1.out.below hb h.1.out.lt), hide (h.2.out.below hB hb)⟩ | 1, ⟨pw, h⟩ => ⟨pw, hide (h.1.out.below hb h.1.out.lt), hide (h.2.out.below hB hb)⟩ | 2, ⟨pw, h⟩ => ⟨pw, hide (h.1.out.below hb h.1.out.lt), hide (h.2.out.below hB hb)⟩ | _ + 3, h => h) (⟨hide hL.blk, hide ⟨hL.want, hL.held, hL.told, hW⟩⟩)
    ⟨fun k a w1 hlo hhi hE hat => step_ok (on_none rfl) (run_move rfl ((hat.base 0 (by kernel_rfl)).trans s0)) ⟨_, rfl, Below.refl _ _, rfl⟩,
     fun k a w1 hlo hhi hE hat => step_ok (on_none rfl) (run_move rfl ((hat.base 0 (by kernel_rfl)).trans s0)) ⟨_, rfl, Below.refl _ _, rfl⟩,
     fun k a w1 hlo hhi hE hat => step_ok (on_none rfl) (run_move rfl ((hat.base 1 (by kernel_rfl)).trans s1)) ⟨_, rfl, Below.refl _ _, rfl⟩,
     fun k a w1 hlo hhi hE hat => step_call (on_none rfl) (run_call rfl (map1 (hat.dep 2 75 (by kernel_rfl) (by kernel_rfl))) rfl) (wanted_any b w1 hb.1 hb.2) (fun e w' ⟨pl, he, ho, hb⟩ => ⟨_, he, _, rfl, hb, pl, rfl, ho.mono (h6 w1 k hhi hE)⟩),
     fun k a w1 hlo hhi hE hat => step_ok (on_none rfl) (run_move rfl rfl) ⟨_, rfl, Below.refl _ _, hat.dep 3 76 (by kernel_rfl) (by kernel_rfl)⟩,
     fun k a w1 hlo hhi hE hat => by
       obtain ⟨pl, e, ho⟩ := hat.dep 4 72 (by kernel_rfl) (by kernel_rfl)
       exact step_ok (on_none rfl) (run_extract (v := .agg (lsaA (wantF b) pl)) rfl e rfl) ⟨_, rfl, Below.refl _ _, pl, rfl, ho⟩,
     fun k a w1 hlo hhi hE hat => by
       obtain ⟨pl, e, ho⟩ := hat.dep 4 72 (by kernel_rfl) (by kernel_rfl)
       exact step_ok (on_none rfl) (run_extract (v := .bool (b % 7 != 0)) rfl e rfl) ⟨_, rfl, Below.refl _ _, rfl⟩,
     fun k a w1 hlo hhi hE hat => step_ok (on_none rfl) (run_nilCheck rfl (hat.dep 0 73 (by kernel_rfl) (by kernel_rfl))) ⟨_, rfl, Below.refl _ _, rfl⟩,
     fun k a w1 hlo hhi hE hat => step_ok (on_none rfl) (run_fieldAddr (m := 0) rfl (hat.dep 7 79 (by kernel_rfl) (by kernel_rfl)) (by kernel_rfl) rfl) ⟨_, rfl, Below.refl _ _, rfl⟩,
     fun k a w1 hlo hhi hE hat => step_ok (on_none rfl) (run_fieldAddr (m := 0) rfl (hat.dep 8 80 (by kernel_rfl) (by kernel_rfl)) (by kernel_rfl) rfl) ⟨_, rfl, Below.refl _ _, rfl⟩,
     fun a w1 hE hat => by
       obtain ⟨pw, e5, ho⟩ := hat.dep 5 77 (by kernel_rfl) (by kernel_rfl)
       have hr := hE.2.out.row hB HG.out hE.1.out (lifeA ⟨⟨wantF b, wanted, ⟨⟨age', kind', id', adv', seq', sum', long'⟩, links', mem'⟩, is, last, at_, ever⟩, now, told⟩ pw ⟨A', c', B', d'⟩ At ct)
       exact step_skip (on_none rfl) (run_store (n := 9) (cells := lsaA (wantF b) pw) (cs' := (lifeA ⟨⟨wantF b, wanted, ⟨⟨age', kind', id', adv', seq', sum', long'⟩, links', mem'⟩, is, last, at_, ever⟩, now, told⟩ pw ⟨A', c', B', d'⟩ At ct)) rfl (hat.dep 9 81 (by kernel_rfl) (by kernel_rfl)) e5 rfl hE.1.out (by kernel_rfl) ⟨Nat.le_of_ble_eq_true rfl, rfl, by simp [Value.oneCell']⟩ rfl) ⟨_, rfl, stabX ⟨.inr fun _ h => h, .inr fun _ h => h, .inr fun _ h => h, .inr fun _ ⟨pl, e, h⟩ => ⟨pl, e, h.keepT (went_blk hE.1.out HG.out (Nat.le_trans hB hE.2.out.went.below.size) ((Keeps.refl (fun x => x = g) w1).row (.inl rfl) _)).keep⟩, .inr fun _ ⟨pl, e, h⟩ => ⟨pl, e, h.keepT (went_blk hE.1.out HG.out (Nat.le_trans hB hE.2.out.went.below.size) ((Keeps.refl (fun x => x = g) w1).row (.inl rfl) _)).keep⟩, .inr fun _ ⟨pl, e, h⟩ => ⟨pl, e, h.keepT (went_blk hE.1.out HG.out (Nat.le_trans hB hE.2.out.went.below.size) ((Keeps.refl (fun x => x = g) w1).row (.inl rfl) _)).keep⟩, .inr fun _ h => h, .inr fun _ h => h, .inr fun _ h => h, .inr fun _ h => h, .inl rfl, .inr fun _ h => h, .inr fun _ h => h, .inr fun _ h => h, .inr fun _ h => h, trivial⟩, rfl, pw, hide (hE.1.out.setRow_ _), hide ⟨ho.keepT (went_blk hE.1.out HG.out (Nat.le_trans hB hE.2.out.went.below.size) ((Keeps.refl (fun x => x = g) w1).row (.inl rfl) _)).keep, hr.held, hr.told, hr.went⟩⟩,
     fun k a w1 hlo hhi hE hat => step_ok (on_none rfl) (run_nilCheck rfl (hat.dep 1 74 (by kernel_rfl) (by kernel_rfl))) ⟨_, rfl, Below.refl _ _, rfl⟩,
     fun k a w1 hlo hhi hE hat => step_ok (on_none rfl) (run_fieldAddr (m := 0) rfl (hat.dep 11 82 (by kernel_rfl) (by kernel_rfl)) (by kernel_rfl) rfl) ⟨_, rfl, Below.refl _ _, rfl⟩,
     fun k a w1 hlo hhi hE hat => step_ok (on_none rfl) (run_fieldAddr (m := 9) rfl (hat.dep 12 83 (by kernel_rfl) (by kernel_rfl)) (by kernel_rfl) rfl) ⟨_, rfl, Below.refl _ _, rfl⟩,
     fun a w1 hE hat => by
       obtain ⟨pw, hE⟩ := hE
       exact step_skip (on_none rfl) (run_store (n := 1) (cells := #[.bool (b % 7 != 0)]) (cs' := (lifeA ⟨⟨wantF b, b % 7 != 0, ⟨⟨age', kind', id', adv', seq', sum', long'⟩, links', mem'⟩, is, last, at_, ever⟩, now, told⟩ pw ⟨A', c', B', d'⟩ At ct)) rfl (hat.dep 13 84 (by kernel_rfl) (by kernel_rfl)) (hat.dep 6 78 (by kernel_rfl) (by kernel_rfl)) rfl hE.1.out (by kernel_rfl) ⟨Nat.le_of_ble_eq_true rfl, rfl, by simp [Value.oneCell']⟩ rfl) ⟨_, rfl, stabX ⟨.inr fun _ h => h, .inr fun _ h => h, .inr fun _ h => h, .inr fun _ ⟨pl, e, h⟩ => ⟨pl, e, h.keepT (went_blk hE.1.out HG.out (Nat.le_trans hB hE.2.out.went.below.size) ((Keeps.refl (fun x => x = g) w1).row (.inl rfl) _)).keep⟩, .inr fun _ ⟨pl, e, h⟩ => ⟨pl, e, h.keepT (went_blk hE.1.out HG.out (Nat.le_trans hB hE.2.out.went.below.size) ((Keeps.refl (fun x => x = g) w1).row (.inl rfl) _)).keep⟩, .inr fun _ ⟨pl, e, h⟩ => ⟨pl, e, h.keepT (went_blk hE.1.out HG.out (Nat.le_trans hB hE.2.out.went.below.size) ((Keeps.refl (fun x => x = g) w1).row (.inl rfl) _)).keep⟩, .inr fun _ h => h, .inr fun _ h => h, .inr fun _ h => h, .inr fun _ h => h, .inr fun _ h => h, .inr fun _ h => h, .inr fun _ h => h, .inr fun _ h => h, .inl rfl, trivial⟩, rfl, pw, hide (hE.1.out.setRow_ _), hide (hE.2.out.row hB HG.out hE.1.out _)⟩, trivial⟩ ?_
  rintro vs a2 w2 ⟨e0, e1, e2, e3, e4, e5, e6, e7, e8, e9, e10, e11, e12, e13, e14, -⟩ ⟨pw, hE⟩ hput
  replace s0 : a2.tmps.getD 0 undef = .pointer (some ⟨g, 0, none⟩) := (hput.old 0 (by kernel_rfl)).trans s0
  replace hz := hput.size.trans hz
  replace hd := hput.defers.trans hd
  clear hput e0 e1 e2 e3 e4 e5 e6 e7 e8 e9 e10 e11 e12 e13 e14 s1
  change Code.wp _ _ _ _ _
  exact tick7_any B g ⟨⟨wantF b, b % 7 != 0, ⟨⟨age', kind', id', adv', seq', sum', long'⟩, links', mem'⟩, is, last, at_, ever⟩, now, told⟩ F pw ⟨A', c', B', d'⟩ At ct w w2 a2 hz hd s0 hT hF hB ⟨hE.1.out, HG.out, hE.2.out.want, hE.2.out.held, hE.2.out.told⟩ hE.2.out.went _ (by kernel_rfl)
set_option maxRecDepth 100000 in
set_option maxHeartbeats 8000000 in
theorem tick4_any (B g : Nat) (s F : LS) (p q : LP) (At : Option Addr) (ct : Nat) (w wr : World) (a : Act) (hz : a.tmps.size = 248) (hd : a.defers = [])
    (s0 : a.tmps.getD 0 undef = .pointer (some ⟨g, 0, none⟩)) (b : Int) (hb : 0 ≤ b ∧ b < 256) (s1 : a.tmps.getD 1 undef = .int .u8 b) (hage : s.m.is_ = true → 0 ≤ s.m.held.hd.age ∧ s.m.held.hd.age ≤ 60) (hT : TOK ⟨wantedF (olderF s.m) b, s.now, s.told⟩) (hF : Hid (F = doneF ⟨wantedF (olderF s.m) b, s.now, s.told⟩ (planF (wantedF (olderF s.m) b) s.now)))
    (hB : B ≤ w.heap.size) (hL : Life B wr g s p q At ct) (hW : Went B w wr)
    (cde : Code) (hcd : tailOf Try.f20 4 = cde) : Code.wp Try.prog cde (bodyPost Try.prog Try.f20 (TP B g w F)) a wr := by
  subst hcd
  conv => arg 2; whnf
  obtain ⟨⟨⟨⟨age, kind, id, adv, seq, sum, long⟩, links, mem⟩, wanted, ⟨⟨age', kind', id', adv', seq', sum', long'⟩, links', mem'⟩, is, last, at_, ever⟩, now, told⟩ := s
  obtain ⟨A, c, B1, d⟩ := p
  obtain ⟨A', c', B', d'⟩ := q
  have HG := hide hL.base
  have hK := hL.blk
  dsimp only at hage
  cases is with
  | false =>
    refine wp_seq (wp_seq ?_)
    refine slots_by [fun v _ => v = .pointer (some ⟨g, 0, none⟩), fun v _ => v = .pointer (some ⟨g, 0, none⟩), fun v _ => v = .pointer (some ⟨g, 0, none⟩), fun v _ => v = .pointer (some ⟨g, 19, none⟩), fun v _ => v = .bool false, fun v _ => v = .bool false, fun v _ => v = undef, fun v _ => v = undef, fun v _ => v = undef, fun v _ => v = undef, fun v _ => v = undef, fun v _ => v = undef, fun v _ => v = undef, fun v _ => v = undef, fun v _ => v = .bool false]
      (by kernel_rfl) (by kernel_rfl) (by kernel_rfl) hz (by kernel_rfl) rfl
      ⟨fun _ _ _ _ h => h, fun _ _ _ _ h => h, fun _ _ _ _ h => h, fun _ _ _ _ h => h, fun _ _ _ _ h => h, fun _ _ _ _ h => h, fun _ _ _ _ h => h, fun _ _ _ _ h => h, fun _ _ _ _ h => h, fun _ _ _ _ h => h, fun _ _ _ _ h => h, fun _ _ _ _ h => h, fun _ _ _ _ h => h, fun _ _ _ _ h => h, fun _ _ _ _ h => h, trivial⟩
      ⟨fun a w1 hb hat => step_ok (on_none rfl) (run_move rfl ((hat.base 0 (by kernel_rfl)).trans s0)) ⟨_, rfl, Below.refl _ _, rfl⟩,
       fun a w1 hb hat => step_ok (on_none rfl) (run_nilCheck rfl (hat.dep 0 44 (by kernel_rfl) (by kernel_rfl))) ⟨_, rfl, Below.refl _ _, rfl⟩,
       fun a w1 hb hat => step_ok (on_none rfl) (run_fieldAddr (m := 0) rfl (hat.dep 1 45 (by kernel_rfl) (by kernel_rfl)) (by kernel_rfl) rfl) ⟨_, rfl, Below.refl _ _, rfl⟩,
       fun a w1 hb hat => step_ok (on_none rfl) (run_fieldAddr (m := 19) rfl (hat.dep 2 46 (by kernel_rfl) (by kernel_rfl)) (by kernel_rfl) rfl) ⟨_, rfl, Below.refl _ _, rfl⟩,
       fun a w1 hb hat => step_ok (on_none rfl) (run_load rfl (hat.dep 3 47 (by kernel_rfl) (by kernel_rfl)) (by kernel_rfl) (show w1.cell? ⟨g, 19, none⟩ = some (.bool false) from Blk.cell (hK.below hb hK.lt) 19)) ⟨_, rfl, Below.refl _ _, rfl⟩,
       fun a w1 hb hat => step_ok (on_none rfl) (run_move rfl (hat.dep 4 48 (by kernel_rfl) (by kernel_rfl))) ⟨_, rfl, Below.refl _ _, rfl⟩,
       fun a w1 hb hat => step_off (off_dep (b := true) (d := 49) rfl (by kernel_rfl) (hat.dep 5 49 (by kernel_rfl) (by kernel_rfl))) rfl,
       fun a w1 hb hat => step_off (off_dep (b := true) (d := 49) rfl (by kernel_rfl) (hat.dep 5 49 (by kernel_rfl) (by kernel_rfl))) rfl,
       fun a w1 hb hat => step_off (off_dep (b := true) (d := 49) rfl (by kernel_rfl) (hat.dep 5 49 (by kernel_rfl) (by kernel_rfl))) rfl,
       fun a w1 hb hat => step_off (off_dep (b := true) (d := 49) rfl (by kernel_rfl) (hat.dep 5 49 (by kernel_rfl) (by kernel_rfl))) rfl,
       fun a w1 hb hat => step_off (off_dep (b := true) (d := 49) rfl (by kernel_rfl) (hat.dep 5 49 (by kernel_rfl) (by kernel_rfl))) rfl,
       fun a w1 hb hat => step_off (off_dep (b := true) (d := 49) rfl (by kernel_rfl) (hat.dep 5 49 (by kernel_rfl) (by kernel_rfl))) rfl,
       fun a w1 hb hat => step_off (off_dep (b := true) (d := 49) rfl (by kernel_rfl) (hat.dep 5 49 (by kernel_rfl) (by kernel_rfl))) rfl,
       fun a w1 hb hat => step_off (off_dep (b := true) (d := 49) rfl (by kernel_rfl) (hat.dep 5 49 (by kernel_rfl) (by kernel_rfl))) rfl,
       fun a w1 hb hat => step_ok (on_none rfl) (run_pick_f rfl (hat.dep 5 49 (by kernel_rfl) (by kernel_rfl)) rfl) ⟨_, rfl, Below.refl _ _, rfl⟩, trivial⟩ ?_
    rintro vs a2 w2 hb2 ⟨e0, e1, e2, e3, e4, e5, e6, e7, e8, e9, e10, e11, e12, e13, e14, -⟩ hput
    replace s0 : a2.tmps.getD 0 undef = .pointer (some ⟨g, 0, none⟩) := (hput.old 0 (by kernel_rfl)).trans s0
    replace s1 : a2.tmps.getD 1 undef = .int .u8 b := (hput.old 1 (by kernel_rfl)).trans s1
    have s58 : a2.tmps.getD 58 undef = .bool false := (hput.new 14 58 rfl).trans e14
    replace hz := hput.size.trans hz
    replace hd := hput.defers.trans hd
    clear hput e0 e1 e2 e3 e4 e5 e6 e7 e8 e9 e10 e11 e12 e13 e14
    change Code.wp _ _ _ _ _
    refine wp_cond_false s58 (wp_skip ?_)
    change Code.wp _ _ _ _ _
    have e : olderF ⟨⟨⟨age, kind, id, adv, seq, sum, long⟩, links, mem⟩, wanted, ⟨⟨age', kind', id', adv', seq', sum', long'⟩, links', mem'⟩, false, last, at_, ever⟩ = ⟨⟨⟨age, kind, id, adv, seq, sum, long⟩, links, mem⟩, wanted, ⟨⟨age', kind', id', adv', seq', sum', long'⟩, links', mem'⟩, false, last, at_, ever⟩ := if_neg (by simp)
    rw [e] at hT hF
    exact tick6_any B g ⟨⟨⟨⟨age, kind, id, adv, seq, sum, long⟩, links, mem⟩, wanted, ⟨⟨age', kind', id', adv', seq', sum', long'⟩, links', mem'⟩, false, last, at_, ever⟩, now, told⟩ F ⟨A, c, B1, d⟩ ⟨A', c', B', d'⟩ At ct w w2 a2 hz hd s0 b hb s1 hT hF hB (hL.below hb2) (hW.trans (Went.of_below hb2 (Nat.le_trans hB hW.below.size))) _ (by kernel_rfl)
  | true =>
    have ha := hage rfl
    by_cases hy : age' < 60
    · refine wp_seq (wp_seq ?_)
      refine slots_by [fun v _ => v = .pointer (some ⟨g, 0, none⟩), fun v _ => v = .pointer (some ⟨g, 0, none⟩), fun v _ => v = .pointer (some ⟨g, 0, none⟩), fun v _ => v = .pointer (some ⟨g, 19, none⟩), fun v _ => v = .bool true, fun v _ => v = .bool true, fun v _ => v = .pointer (some ⟨g, 0, none⟩), fun v _ => v = .pointer (some ⟨g, 0, none⟩), fun v _ => v = .pointer (some ⟨g, 0, none⟩), fun v _ => v = .pointer (some ⟨g, 10, none⟩), fun v _ => v = .pointer (some ⟨g, 10, none⟩), fun v _ => v = .pointer (some ⟨g, 10, none⟩), fun v _ => v = .int .i64 age', fun v _ => v = .bool true, fun v _ => v = .bool true]
        (by kernel_rfl) (by kernel_rfl) (by kernel_rfl) hz (by kernel_rfl) rfl
        ⟨fun _ _ _ _ h => h, fun _ _ _ _ h => h, fun _ _ _ _ h => h, fun _ _ _ _ h => h, fun _ _ _ _ h => h, fun _ _ _ _ h => h, fun _ _ _ _ h => h, fun _ _ _ _ h => h, fun _ _ _ _ h => h, fun _ _ _ _ h => h, fun _ _ _ _ h => h, fun _ _ _ _ h => h, fun _ _ _ _ h => h, fun _ _ _ _ h => h, fun _ _ _ _ h => h, trivial⟩
        ⟨fun a w1 hb hat => step_ok (on_none rfl) (run_move rfl ((hat.base 0 (by kernel_rfl)).trans s0)) ⟨_, rfl, Below.refl _ _, rfl⟩,
         fun a w1 hb hat => step_ok (on_none rfl) (run_nilCheck rfl (hat.dep 0 44 (by kernel_rfl) (by kernel_rfl))) ⟨_, rfl, Below.refl _ _, rfl⟩,
         fun a w1 hb hat => step_ok (on_none rfl) (run_fieldAddr (m := 0) rfl (hat.dep 1 45 (by kernel_rfl) (by kernel_rfl)) (by kernel_rfl) rfl) ⟨_, rfl, Below.refl _ _, rfl⟩,
         fun a w1 hb hat => step_ok (on_none rfl) (run_fieldAddr (m := 19) rfl (hat.dep 2 46 (by kernel_rfl) (by kernel_rfl)) (by kernel_rfl) rfl) ⟨_, rfl, Below.refl _ _, rfl⟩,
         fun a w1 hb hat => step_ok (on_none rfl) (run_load rfl (hat.dep 3 47 (by kernel_rfl) (by kernel_rfl)) (by kernel_rfl) (show w1.cell? ⟨g, 19, none⟩ = some (.bool true) from Blk.cell (hK.below hb hK.lt) 19)) ⟨_, rfl, Below.refl _ _, rfl⟩,
         fun a w1 hb hat => step_ok (on_none rfl) (run_move rfl (hat.dep 4 48 (by kernel_rfl) (by kernel_rfl))) ⟨_, rfl, Below.refl _ _, rfl⟩,
         fun a w1 hb hat => step_ok (on_dep (b := true) (d := 49) rfl (by kernel_rfl) (hat.dep 5 49 (by kernel_rfl) (by kernel_rfl))) (run_move rfl ((hat.base 0 (by kernel_rfl)).trans s0)) ⟨_, rfl, Below.refl _ _, rfl⟩,
         fun a w1 hb hat => step_ok (on_dep (b := true) (d := 49) rfl (by kernel_rfl) (hat.dep 5 49 (by kernel_rfl) (by kernel_rfl))) (run_nilCheck rfl (hat.dep 6 50 (by kernel_rfl) (by kernel_rfl))) ⟨_, rfl, Below.refl _ _, rfl⟩,
         fun a w1 hb hat => step_ok (on_dep (b := true) (d := 49) rfl (by kernel_rfl) (hat.dep 5 49 (by kernel_rfl) (by kernel_rfl))) (run_fieldAddr (m := 0) rfl (hat.dep 7 51 (by kernel_rfl) (by kernel_rfl)) (by kernel_rfl) rfl) ⟨_, rfl, Below.refl _ _, rfl⟩,
         fun a w1 hb hat => step_ok (on_dep (b := true) (d := 49) rfl (by kernel_rfl) (hat.dep 5 49 (by kernel_rfl) (by kernel_rfl))) (run_fieldAddr (m := 10) rfl (hat.dep 8 52 (by kernel_rfl) (by kernel_rfl)) (by kernel_rfl) rfl) ⟨_, rfl, Below.refl _ _, rfl⟩,
         fun a w1 hb hat => step_ok (on_dep (b := true) (d := 49) rfl (by kernel_rfl) (hat.dep 5 49 (by kernel_rfl) (by kernel_rfl))) (run_fieldAddr (m := 0) rfl (hat.dep 9 53 (by kernel_rfl) (by kernel_rfl)) (by kernel_rfl) rfl) ⟨_, rfl, Below.refl _ _, rfl⟩,
         fun a w1 hb hat => step_ok (on_dep (b := true) (d := 49) rfl (by kernel_rfl) (hat.dep 5 49 (by kernel_rfl) (by kernel_rfl))) (run_fieldAddr (m := 0) rfl (hat.dep 10 54 (by kernel_rfl) (by kernel_rfl)) (by kernel_rfl) rfl) ⟨_, rfl, Below.refl _ _, rfl⟩,
         fun a w1 hb hat => step_ok (on_dep (b := true) (d := 49) rfl (by kernel_rfl) (hat.dep 5 49 (by kernel_rfl) (by kernel_rfl))) (run_load rfl (hat.dep 11 55 (by kernel_rfl) (by kernel_rfl)) (by kernel_rfl) (show w1.cell? ⟨g, 10, none⟩ = some (.int .i64 age') from Blk.cell (hK.below hb hK.lt) 10)) ⟨_, rfl, Below.refl _ _, rfl⟩,
         fun a w1 hb hat => step_ok (on_dep (b := true) (d := 49) rfl (by kernel_rfl) (hat.dep 5 49 (by kernel_rfl) (by kernel_rfl))) (run_cmp rfl (hat.dep 12 56 (by kernel_rfl) (by kernel_rfl)) rfl rfl (by simp; omega)) ⟨_, rfl, Below.refl _ _, rfl⟩,
         fun a w1 hb hat => step_ok (on_none rfl) (run_pick_t rfl (hat.dep 5 49 (by kernel_rfl) (by kernel_rfl)) (hat.dep 13 57 (by kernel_rfl) (by kernel_rfl))) ⟨_, rfl, Below.refl _ _, rfl⟩, trivial⟩ ?_
      rintro vs a2 w2 hb2 ⟨e0, e1, e2, e3, e4, e5, e6, e7, e8, e9, e10, e11, e12, e13, e14, -⟩ hput
      replace s0 : a2.tmps.getD 0 undef = .pointer (some ⟨g, 0, none⟩) := (hput.old 0 (by kernel_rfl)).trans s0
      replace s1 : a2.tmps.getD 1 undef = .int .u8 b := (hput.old 1 (by kernel_rfl)).trans s1
      have s58 : a2.tmps.getD 58 undef = .bool true := (hput.new 14 58 rfl).trans e14
      replace hz := hput.size.trans hz
      replace hd := hput.defers.trans hd
      clear hput e0 e1 e2 e3 e4 e5 e6 e7 e8 e9 e10 e11 e12 e13 e14
      change Code.wp _ _ _ _ _
      refine wp_cond_true s58 ?_
      have hL2 := hL.below hb2
      have hW2 := hW.trans (Went.of_below hb2 (Nat.le_trans hB hW.below.size))
      refine slots_flat [13] [0, 0, 0, 0, 0, 0, 0, 0, 0, 0, 0, 0, 0, 0] [0, 0, 0, 0, 0, 0, 0, 0, 1, 1, 1, 1, 0, 1] [fun v _ => v = .pointer (some ⟨g, 0, none⟩), fun v _ => v = .pointer (some ⟨g, 0, none⟩), fun v _ => v = .pointer (some ⟨g, 0, none⟩), fun v _ => v = .pointer (some ⟨g, 10, none⟩), fun v _ => v = .pointer (some ⟨g, 10, none⟩), fun v _ => v = .pointer (some ⟨g, 10, none⟩), fun v _ => v = .int .i64 age', fun v _ => v = .int .i64 (age' + 1), fun v _ => v = .pointer (some ⟨g, 0, none⟩), fun v _ => v = .pointer (some ⟨g, 0, none⟩), fun v _ => v = .pointer (some ⟨g, 10, none⟩), fun v _ => v = .pointer (some ⟨g, 10, none⟩), fun v _ => v = .pointer (some ⟨g, 10, none⟩), fun v _ => v = undef] (fun k => match k with | 0 => fun w' => Hid (Blk w' g 60 (#[.int .i64 age, .int .i64 kind, .int .i64 id, .int .i64 adv, .int .i64 seq, .int .i64 sum, .int .i64 long, .slice A links.length c, .slice B1 mem.length d, .bool wanted, .int .i64 age', .int .i64 kind', .int .i64 id', .int .i64 adv', .int .i64 seq', .int .i64 sum', .int .i64 long', .slice A' links'.length c', .slice B' mem'.length d', .bool true, .int .i64 last, .int .i64 at_, .bool ever, .int .i64 now, .slice At told.length ct] : Array Value)) ∧ Hid (Res B ⟨⟨age, kind, id, adv, seq, sum, long⟩, links, mem⟩ ⟨⟨age', kind', id', adv', seq', sum', long'⟩, links', mem'⟩ ⟨A, c, B1, d⟩ ⟨A', c', B', d'⟩ told At ct w w') | 1 => fun w' => Hid (Blk w' g 60 (#[.int .i64 age, .int .i64 kind, .int .i64 id, .int .i64 adv, .int .i64 seq, .int .i64 sum, .int .i64 long, .slice A links.length c, .slice B1 mem.length d, .bool wanted, .int .i64 (age' + 1), .int .i64 kind', .int .i64 id', .int .i64 adv', .int .i64 seq', .int .i64 sum', .int .i64 long', .slice A' links'.length c', .slice B' mem'.length d', .bool true, .int .i64 last, .int .i64 at_, .bool ever, .int .i64 now, .slice At told.length ct] : Array Value)) ∧ Hid (Res B ⟨⟨age, kind, id, adv, seq, sum, long⟩, links, mem⟩ ⟨⟨age' + 1, kind', id', adv', seq', sum', long'⟩, links', mem'⟩ ⟨A, c, B1, d⟩ ⟨A', c', B', d'⟩ told At ct w w') | _ => fun _ => False)
        (by kernel_rfl) (by kernel_rfl) (by kernel_rfl) hz (by kernel_rfl) rfl (by kernel_rfl)
        ⟨fun _ _ _ h => h, fun _ _ _ h => h, fun _ _ _ h => h, fun _ _ _ h => h, fun _ _ _ h => h, fun _ _ _ h => h, fun _ _ _ h => h, fun _ _ _ h => h, fun _ _ _ h => h, fun _ _ _ h => h, fun _ _ _ h => h, fun _ _ _ h => h, fun _ _ _ h => h, fun _ _ _ h => h, trivial⟩
        (fun k w1 w2 hb h => match k, h with | 0, h => ⟨hide (h.1.out.below hb h.1.out.lt), hide (h.2.out.below hB hb)⟩ | 1, h => ⟨hide (h.1.out.below hb h.1.out.lt), hide (h.2.out.below hB hb)⟩ | _ + 2, h => h) (⟨hide hL2.blk, hide ⟨hL2.want, hL2.held, hL2.told, hW2⟩⟩)
        ⟨fun k a w1 hlo hhi hE hat => step_ok (on_none rfl) (run_move rfl ((hat.base 0 (by kernel_rfl)).trans s0)) ⟨_, rfl, Below.refl _ _, rfl⟩,
         fun k a w1 hlo hhi hE hat => step_ok (on_none rfl) (run_nilCheck rfl (hat.dep 0 59 (by kernel_rfl) (by kernel_rfl))) ⟨_, rfl, Below.refl _ _, rfl⟩,
         fun k a w1 hlo hhi hE hat => step_ok (on_none rfl) (run_fieldAddr (m := 0) rfl (hat.dep 1 60 (by kernel_rfl) (by kernel_rfl)) (by kernel_rfl) rfl) ⟨_, rfl, Below.refl _ _, rfl⟩,
         fun k a w1 hlo hhi hE hat => step_ok (on_none rfl) (run_fieldAddr (m := 10) rfl (hat.dep 2 61 (by kernel_rfl) (by kernel_rfl)) (by kernel_rfl) rfl) ⟨_, rfl, Below.refl _ _, rfl⟩,
         fun k a w1 hlo hhi hE hat => step_ok (on_none rfl) (run_fieldAddr (m := 0) rfl (hat.dep 3 62 (by kernel_rfl) (by kernel_rfl)) (by kernel_rfl) rfl) ⟨_, rfl, Below.refl _ _, rfl⟩,
         fun k a w1 hlo hhi hE hat => step_ok (on_none rfl) (run_fieldAddr (m := 0) rfl (hat.dep 4 63 (by kernel_rfl) (by kernel_rfl)) (by kernel_rfl) rfl) ⟨_, rfl, Below.refl _ _, rfl⟩,
         (fun k a w1 hlo hhi hE hat => match k, hlo, hhi, hE with
           | 0, _, _, hE => step_ok (on_none rfl) (run_load rfl (hat.dep 5 64 (by kernel_rfl) (by kernel_rfl)) (by kernel_rfl) (show w1.cell? ⟨g, 10, none⟩ = some (.int .i64 age') from Blk.cell hE.1.out 10)) ⟨_, rfl, Below.refl _ _, rfl⟩
           | k + 1, _, h, _ => absurd h (by show ¬ (k + 1 ≤ 0); omega)),
         fun k a w1 hlo hhi hE hat => step_ok (on_none rfl) (run_addI rfl (hat.dep 6 65 (by kernel_rfl) (by kernel_rfl)) rfl (by omega) rfl) ⟨_, rfl, Below.refl _ _, rfl⟩,
         fun k a w1 hlo hhi hE hat => step_ok (on_none rfl) (run_nilCheck rfl (hat.dep 0 59 (by kernel_rfl) (by kernel_rfl))) ⟨_, rfl, Below.refl _ _, rfl⟩,
         fun k a w1 hlo hhi hE hat => step_ok (on_none rfl) (run_fieldAddr (m := 0) rfl (hat.dep 8 67 (by kernel_rfl) (by kernel_rfl)) (by kernel_rfl) rfl) ⟨_, rfl, Below.refl _ _, rfl⟩,
         fun k a w1 hlo hhi hE hat => step_ok (on_none rfl) (run_fieldAddr (m := 10) rfl (hat.dep 9 68 (by kernel_rfl) (by kernel_rfl)) (by kernel_rfl) rfl) ⟨_, rfl, Below.refl _ _, rfl⟩,
         fun k a w1 hlo hhi hE hat => step_ok (on_none rfl) (run_fieldAddr (m := 0) rfl (hat.dep 10 69 (by kernel_rfl) (by kernel_rfl)) (by kernel_rfl) rfl) ⟨_, rfl, Below.refl _ _, rfl⟩,
         fun k a w1 hlo hhi hE hat => step_ok (on_none rfl) (run_fieldAddr (m := 0) rfl (hat.dep 11 70 (by kernel_rfl) (by kernel_rfl)) (by kernel_rfl) rfl) ⟨_, rfl, Below.refl _ _, rfl⟩,
         fun a w1 hE hat => step_skip (on_none rfl) (run_store (n := 1) (cells := #[.int .i64 (age' + 1)]) (cs' := #[.int .i64 age, .int .i64 kind, .int .i64 id, .int .i64 adv, .int .i64 seq, .int .i64 sum, .int .i64 long, .slice A links.length c, .slice B1 mem.length d, .bool wanted, .int .i64 (age' + 1), .int .i64 kind', .int .i64 id', .int .i64 adv', .int .i64 seq', .int .i64 sum', .int .i64 long', .slice A' links'.length c', .slice B' mem'.length d', .bool true, .int .i64 last, .int .i64 at_, .bool ever, .int .i64 now, .slice At told.length ct]) rfl (hat.dep 12 71 (by kernel_rfl) (by kernel_rfl)) (hat.dep 7 66 (by kernel_rfl) (by kernel_rfl)) rfl hE.1.out (by kernel_rfl) ⟨Nat.le_of_ble_eq_true rfl, rfl, by simp [Value.oneCell']⟩ rfl) ⟨_, rfl, rfl, hide (hE.1.out.setRow_ _), hide (let h := hE.2.out.row hB HG.out hE.1.out _; ⟨h.want, h.held.head _, h.told, h.went⟩)⟩, trivial⟩ ?_
      rintro vs a3 w3 ⟨e0, e1, e2, e3, e4, e5, e6, e7, e8, e9, e10, e11, e12, e13, -⟩ hE hput
      replace s0 : a3.tmps.getD 0 undef = .pointer (some ⟨g, 0, none⟩) := (hput.old 0 (by kernel_rfl)).trans s0
      replace s1 : a3.tmps.getD 1 undef = .int .u8 b := (hput.old 1 (by kernel_rfl)).trans s1
      replace hz := hput.size.trans hz
      replace hd := hput.defers.trans hd
      clear hput e0 e1 e2 e3 e4 e5 e6 e7 e8 e9 e10 e11 e12 e13 s58
      change Code.wp _ _ _ _ _
      have e : olderF ⟨⟨⟨age, kind, id, adv, seq, sum, long⟩, links, mem⟩, wanted, ⟨⟨age', kind', id', adv', seq', sum', long'⟩, links', mem'⟩, true, last, at_, ever⟩ = ⟨⟨⟨age, kind, id, adv, seq, sum, long⟩, links, mem⟩, wanted, ⟨⟨age' + 1, kind', id', adv', seq', sum', long'⟩, links', mem'⟩, true, last, at_, ever⟩ := if_pos ⟨rfl, by assumption⟩
      rw [e] at hT hF
      exact tick6_any B g ⟨⟨⟨⟨age, kind, id, adv, seq, sum, long⟩, links, mem⟩, wanted, ⟨⟨age' + 1, kind', id', adv', seq', sum', long'⟩, links', mem'⟩, true, last, at_, ever⟩, now, told⟩ F ⟨A, c, B1, d⟩ ⟨A', c', B', d'⟩ At ct w w3 a3 hz hd s0 b hb s1 hT hF hB ⟨hE.1.out, HG.out, hE.2.out.want, hE.2.out.held, hE.2.out.told⟩ hE.2.out.went _ (by kernel_rfl)
    · refine wp_seq (wp_seq ?_)
      refine slots_by [fun v _ => v = .pointer (some ⟨g, 0, none⟩), fun v _ => v = .pointer (some ⟨g, 0, none⟩), fun v _ => v = .pointer (some ⟨g, 0, none⟩), fun v _ => v = .pointer (some ⟨g, 19, none⟩), fun v _ => v = .bool true, fun v _ => v = .bool true, fun v _ => v = .pointer (some ⟨g, 0, none⟩), fun v _ => v = .pointer (some ⟨g, 0, none⟩), fun v _ => v = .pointer (some ⟨g, 0, none⟩), fun v _ => v = .pointer (some ⟨g, 10, none⟩), fun v _ => v = .pointer (some ⟨g, 10, none⟩), fun v _ => v = .pointer (some ⟨g, 10, none⟩), fun v _ => v = .int .i64 age', fun v _ => v = .bool false, fun v _ => v = .bool false]
        (by kernel_rfl) (by kernel_rfl) (by kernel_rfl) hz (by kernel_rfl) rfl
        ⟨fun _ _ _ _ h => h, fun _ _ _ _ h => h, fun _ _ _ _ h => h, fun _ _ _ _ h => h, fun _ _ _ _ h => h, fun _ _ _ _ h => h, fun _ _ _ _ h => h, fun _ _ _ _ h => h, fun _ _ _ _ h => h, fun _ _ _ _ h => h, fun _ _ _ _ h => h, fun _ _ _ _ h => h, fun _ _ _ _ h => h, fun _ _ _ _ h => h, fun _ _ _ _ h => h, trivial⟩
        ⟨fun a w1 hb hat => step_ok (on_none rfl) (run_move rfl ((hat.base 0 (by kernel_rfl)).trans s0)) ⟨_, rfl, Below.refl _ _, rfl⟩,
         fun a w1 hb hat => step_ok (on_none rfl) (run_nilCheck rfl (hat.dep 0 44 (by kernel_rfl) (by kernel_rfl))) ⟨_, rfl, Below.refl _ _, rfl⟩,
         fun a w1 hb hat => step_ok (on_none rfl) (run_fieldAddr (m := 0) rfl (hat.dep 1 45 (by kernel_rfl) (by kernel_rfl)) (by kernel_rfl) rfl) ⟨_, rfl, Below.refl _ _, rfl⟩,
         fun a w1 hb hat => step_ok (on_none rfl) (run_fieldAddr (m := 19) rfl (hat.dep 2 46 (by kernel_rfl) (by kernel_rfl)) (by kernel_rfl) rfl) ⟨_, rfl, Below.refl _ _, rfl⟩,
         fun a w1 hb hat => step_ok (on_none rfl) (run_load rfl (hat.dep 3 47 (by kernel_rfl) (by kernel_rfl)) (by kernel_rfl) (show w1.cell? ⟨g, 19, none⟩ = some (.bool true) from Blk.cell (hK.below hb hK.lt) 19)) ⟨_, rfl, Below.refl _ _, rfl⟩,
         fun a w1 hb hat => step_ok (on_none rfl) (run_move rfl (hat.dep 4 48 (by kernel_rfl) (by kernel_rfl))) ⟨_, rfl, Below.refl _ _, rfl⟩,
         fun a w1 hb hat => step_ok (on_dep (b := true) (d := 49) rfl (by kernel_rfl) (hat.dep 5 49 (by kernel_rfl) (by kernel_rfl))) (run_move rfl ((hat.base 0 (by kernel_rfl)).trans s0)) ⟨_, rfl, Below.refl _ _, rfl⟩,
         fun a w1 hb hat => step_ok (on_dep (b := true) (d := 49) rfl (by kernel_rfl) (hat.dep 5 49 (by kernel_rfl) (by kernel_rfl))) (run_nilCheck rfl (hat.dep 6 50 (by kernel_rfl) (by kernel_rfl))) ⟨_, rfl, Below.refl _ _, rfl⟩,
         fun a w1 hb hat => step_ok (on_dep (b := true) (d := 49) rfl (by kernel_rfl) (hat.dep 5 49 (by kernel_rfl) (by kernel_rfl))) (run_fieldAddr (m := 0) rfl (hat.dep 7 51 (by kernel_rfl) (by kernel_rfl)) (by kernel_rfl) rfl) ⟨_, rfl, Below.refl _ _, rfl⟩,
         fun a w1 hb hat => step_ok (on_dep (b := true) (d := 49) rfl (by kernel_rfl) (hat.dep 5 49 (by kernel_rfl) (by kernel_rfl))) (run_fieldAddr (m := 10) rfl (hat.dep 8 52 (by kernel_rfl) (by kernel_rfl)) (by kernel_rfl) rfl) ⟨_, rfl, Below.refl _ _, rfl⟩,
         fun a w1 hb hat => step_ok (on_dep (b := true) (d := 49) rfl (by kernel_rfl) (hat.dep 5 49 (by kernel_rfl) (by kernel_rfl))) (run_fieldAddr (m := 0) rfl (hat.dep 9 53 (by kernel_rfl) (by kernel_rfl)) (by kernel_rfl) rfl) ⟨_, rfl, Below.refl _ _, rfl⟩,
         fun a w1 hb hat => step_ok (on_dep (b := true) (d := 49) rfl (by kernel_rfl) (hat.dep 5 49 (by kernel_rfl) (by kernel_rfl))) (run_fieldAddr (m := 0) rfl (hat.dep 10 54 (by kernel_rfl) (by kernel_rfl)) (by kernel_rfl) rfl) ⟨_, rfl, Below.refl _ _, rfl⟩,
         fun a w1 hb hat => step_ok (on_dep (b := true) (d := 49) rfl (by kernel_rfl) (hat.dep 5 49 (by kernel_rfl) (by kernel_rfl))) (run_load rfl (hat.dep 11 55 (by kernel_rfl) (by kernel_rfl)) (by kernel_rfl) (show w1.cell? ⟨g, 10, none⟩ = some (.int .i64 age') from Blk.cell (hK.below hb hK.lt) 10)) ⟨_, rfl, Below.refl _ _, rfl⟩,
         fun a w1 hb hat => step_ok (on_dep (b := true) (d := 49) rfl (by kernel_rfl) (hat.dep 5 49 (by kernel_rfl) (by kernel_rfl))) (run_cmp rfl (hat.dep 12 56 (by kernel_rfl) (by kernel_rfl)) rfl rfl (by simp; omega)) ⟨_, rfl, Below.refl _ _, rfl⟩,
         fun a w1 hb hat => step_ok (on_none rfl) (run_pick_t rfl (hat.dep 5 49 (by kernel_rfl) (by kernel_rfl)) (hat.dep 13 57 (by kernel_rfl) (by kernel_rfl))) ⟨_, rfl, Below.refl _ _, rfl⟩, trivial⟩ ?_
      rintro vs a2 w2 hb2 ⟨e0, e1, e2, e3, e4, e5, e6, e7, e8, e9, e10, e11, e12, e13, e14, -⟩ hput
      replace s0 : a2.tmps.getD 0 undef = .pointer (some ⟨g, 0, none⟩) := (hput.old 0 (by kernel_rfl)).trans s0
      replace s1 : a2.tmps.getD 1 undef = .int .u8 b := (hput.old 1 (by kernel_rfl)).trans s1
      have s58 : a2.tmps.getD 58 undef = .bool false := (hput.new 14 58 rfl).trans e14
      replace hz := hput.size.trans hz
      replace hd := hput.defers.trans hd
      clear hput e0 e1 e2 e3 e4 e5 e6 e7 e8 e9 e10 e11 e12 e13 e14
      change Code.wp _ _ _ _ _
      refine wp_cond_false s58 (wp_skip ?_)
      change Code.wp _ _ _ _ _
      have e : olderF ⟨⟨⟨age, kind, id, adv, seq, sum, long⟩, links, mem⟩, wanted, ⟨⟨age', kind', id', adv', seq', sum', long'⟩, links', mem'⟩, true, last, at_, ever⟩ = ⟨⟨⟨age, kind, id, adv, seq, sum, long⟩, links, mem⟩, wanted, ⟨⟨age', kind', id', adv', seq', sum', long'⟩, links', mem'⟩, true, last, at_, ever⟩ := if_neg (by simp; omega)
      rw [e] at hT hF
      exact tick6_any B g ⟨⟨⟨⟨age, kind, id, adv, seq, sum, long⟩, links, mem⟩, wanted, ⟨⟨age', kind', id', adv', seq', sum', long'⟩, links', mem'⟩, true, last, at_, ever⟩, now, told⟩ F ⟨A, c, B1, d⟩ ⟨A', c', B', d'⟩ At ct w w2 a2 hz hd s0 b hb s1 hT hF hB (hL.below hb2) (hW.trans (Went.of_below hb2 (Nat.le_trans hB hW.below.size))) _ (by kernel_rfl)
set_option maxRecDepth 100000 in
set_option maxHeartbeats 8000000 in
theorem tick2_any (B g : Nat) (s F : LS) (p q : LP) (At : Option Addr) (ct : Nat) (w wr : World) (a : Act) (hz : a.tmps.size = 248) (hd : a.defers = [])
    (s0 : a.tmps.getD 0 undef = .pointer (some ⟨g, 0, none⟩)) (b : Int) (drops : Bool) (hb : 0 ≤ b ∧ b < 256) (s1 : a.tmps.getD 1 undef = .int .u8 b) (s2 : a.tmps.getD 2 undef = .bool drops) (hage : s.m.is_ = true → 0 ≤ s.m.held.hd.age ∧ s.m.held.hd.age ≤ 60) (hT : TOK ⟨wantedF (ageF s.m drops) b, s.now, s.told⟩) (hF : Hid (F = doneF ⟨wantedF (ageF s.m drops) b, s.now, s.told⟩ (planF (wantedF (ageF s.m drops) b) s.now)))
    (hB : B ≤ w.heap.size) (hL : Life B wr g s p q At ct) (hW : Went B w wr)
    (cde : Code) (hcd : tailOf Try.f20 2 = cde) : Code.wp Try.prog cde (bodyPost Try.prog Try.f20 (TP B g w F)) a wr := by
  subst hcd
  conv => arg 2; whnf
  obtain ⟨⟨⟨⟨age, kind, id, adv, seq, sum, long⟩, links, mem⟩, wanted, ⟨⟨age', kind', id', adv', seq', sum', long'⟩, links', mem'⟩, is, last, at_, ever⟩, now, told⟩ := s
  obtain ⟨A, c, B1, d⟩ := p
  obtain ⟨A', c', B', d'⟩ := q
  have HG := hide hL.base
  have hK := hL.blk
  unfold ageF at hT hF
  cases is with
  | false =>
    refine wp_seq (wp_seq ?_)
    refine slots_by [fun v _ => v = .pointer (some ⟨g, 0, none⟩), fun v _ => v = .pointer (some ⟨g, 0, none⟩), fun v _ => v = .pointer (some ⟨g, 0, none⟩), fun v _ => v = .pointer (some ⟨g, 19, none⟩), fun v _ => v = .bool false, fun v _ => v = .bool false, fun v _ => v = undef, fun v _ => v = undef, fun v _ => v = undef, fun v _ => v = undef, fun v _ => v = undef, fun v _ => v = undef, fun v _ => v = undef, fun v _ => v = undef, fun v _ => v = .bool false, fun v _ => v = .bool false, fun v _ => v = undef, fun v _ => v = .bool false]
      (by kernel_rfl) (by kernel_rfl) (by kernel_rfl) hz (by kernel_rfl) rfl
      ⟨fun _ _ _ _ h => h, fun _ _ _ _ h => h, fun _ _ _ _ h => h, fun _ _ _ _ h => h, fun _ _ _ _ h => h, fun _ _ _ _ h => h, fun _ _ _ _ h => h, fun _ _ _ _ h => h, fun _ _ _ _ h => h, fun _ _ _ _ h => h, fun _ _ _ _ h => h, fun _ _ _ _ h => h, fun _ _ _ _ h => h, fun _ _ _ _ h => h, fun _ _ _ _ h => h, fun _ _ _ _ h => h, fun _ _ _ _ h => h, fun _ _ _ _ h => h, trivial⟩
      ⟨fun a w1 hb hat => step_ok (on_none rfl) (run_move rfl ((hat.base 0 (by kernel_rfl)).trans s0)) ⟨_, rfl, Below.refl _ _, rfl⟩,
       fun a w1 hb hat => step_ok (on_none rfl) (run_nilCheck rfl (hat.dep 0 17 (by kernel_rfl) (by kernel_rfl))) ⟨_, rfl, Below.refl _ _, rfl⟩,
       fun a w1 hb hat => step_ok (on_none rfl) (run_fieldAddr (m := 0) rfl (hat.dep 1 18 (by kernel_rfl) (by kernel_rfl)) (by kernel_rfl) rfl) ⟨_, rfl, Below.refl _ _, rfl⟩,
       fun a w1 hb hat => step_ok (on_none rfl) (run_fieldAddr (m := 19) rfl (hat.dep 2 19 (by kernel_rfl) (by kernel_rfl)) (by kernel_rfl) rfl) ⟨_, rfl, Below.refl _ _, rfl⟩,
       fun a w1 hb hat => step_ok (on_none rfl) (run_load rfl (hat.dep 3 20 (by kernel_rfl) (by kernel_rfl)) (by kernel_rfl) (show w1.cell? ⟨g, 19, none⟩ = some (.bool false) from Blk.cell (hK.below hb hK.lt) 19)) ⟨_, rfl, Below.refl _ _, rfl⟩,
       fun a w1 hb hat => step_ok (on_none rfl) (run_move rfl (hat.dep 4 21 (by kernel_rfl) (by kernel_rfl))) ⟨_, rfl, Below.refl _ _, rfl⟩,
       fun a w1 hb hat => step_off (off_dep (b := true) (d := 22) rfl (by kernel_rfl) (hat.dep 5 22 (by kernel_rfl) (by kernel_rfl))) rfl,
       fun a w1 hb hat => step_off (off_dep (b := true) (d := 22) rfl (by kernel_rfl) (hat.dep 5 22 (by kernel_rfl) (by kernel_rfl))) rfl,
       fun a w1 hb hat => step_off (off_dep (b := true) (d := 22) rfl (by kernel_rfl) (hat.dep 5 22 (by kernel_rfl) (by kernel_rfl))) rfl,
       fun a w1 hb hat => step_off (off_dep (b := true) (d := 22) rfl (by kernel_rfl) (hat.dep 5 22 (by kernel_rfl) (by kernel_rfl))) rfl,
       fun a w1 hb hat => step_off (off_dep (b := true) (d := 22) rfl (by kernel_rfl) (hat.dep 5 22 (by kernel_rfl) (by kernel_rfl))) rfl,
       fun a w1 hb hat => step_off (off_dep (b := true) (d := 22) rfl (by kernel_rfl) (hat.dep 5 22 (by kernel_rfl) (by kernel_rfl))) rfl,
       fun a w1 hb hat => step_off (off_dep (b := true) (d := 22) rfl (by kernel_rfl) (hat.dep 5 22 (by kernel_rfl) (by kernel_rfl))) rfl,
       fun a w1 hb hat => step_off (off_dep (b := true) (d := 22) rfl (by kernel_rfl) (hat.dep 5 22 (by kernel_rfl) (by kernel_rfl))) rfl,
       fun a w1 hb hat => step_ok (on_none rfl) (run_pick_f rfl (hat.dep 5 22 (by kernel_rfl) (by kernel_rfl)) rfl) ⟨_, rfl, Below.refl _ _, rfl⟩,
       fun a w1 hb hat => step_ok (on_none rfl) (run_move rfl (hat.dep 14 31 (by kernel_rfl) (by kernel_rfl))) ⟨_, rfl, Below.refl _ _, rfl⟩,
       fun a w1 hb hat => step_off (off_dep (b := true) (d := 32) rfl (by kernel_rfl) (hat.dep 15 32 (by kernel_rfl) (by kernel_rfl))) rfl,
       fun a w1 hb hat => step_ok (on_none rfl) (run_pick_f rfl (hat.dep 15 32 (by kernel_rfl) (by kernel_rfl)) rfl) ⟨_, rfl, Below.refl _ _, rfl⟩, trivial⟩ ?_
    rintro vs a2 w2 hb2 ⟨e0, e1, e2, e3, e4, e5, e6, e7, e8, e9, e10, e11, e12, e13, e14, e15, e16, e17, -⟩ hput
    replace s0 : a2.tmps.getD 0 undef = .pointer (some ⟨g, 0, none⟩) := (hput.old 0 (by kernel_rfl)).trans s0
    replace s1 : a2.tmps.getD 1 undef = .int .u8 b := (hput.old 1 (by kernel_rfl)).trans s1
    have s34 : a2.tmps.getD 34 undef = .bool false := (hput.new 17 34 rfl).trans e17
    replace hz := hput.size.trans hz
    replace hd := hput.defers.trans hd
    clear hput e0 e1 e2 e3 e4 e5 e6 e7 e8 e9 e10 e11 e12 e13 e14 e15 e16 e17 s2
    change Code.wp _ _ _ _ _
    refine wp_cond_false s34 (wp_skip ?_)
    change Code.wp _ _ _ _ _
    have e : dropF ⟨⟨⟨age, kind, id, adv, seq, sum, long⟩, links, mem⟩, wanted, ⟨⟨age', kind', id', adv', seq', sum', long'⟩, links', mem'⟩, false, last, at_, ever⟩ drops = ⟨⟨⟨age, kind, id, adv, seq, sum, long⟩, links, mem⟩, wanted, ⟨⟨age', kind', id', adv', seq', sum', long'⟩, links', mem'⟩, false, last, at_, ever⟩ := if_neg (by simp)
    rw [e] at hT hF
    exact tick4_any B g ⟨⟨⟨⟨age, kind, id, adv, seq, sum, long⟩, links, mem⟩, wanted, ⟨⟨age', kind', id', adv', seq', sum', long'⟩, links', mem'⟩, false, last, at_, ever⟩, now, told⟩ F ⟨A, c, B1, d⟩ ⟨A', c', B', d'⟩ At ct w w2 a2 hz hd s0 b hb s1 hage hT hF hB (hL.below hb2) (hW.trans (Went.of_below hb2 (Nat.le_trans hB hW.below.size))) _ (by kernel_rfl)
  | true =>
    by_cases hy : age' = 60
    · cases drops with
      | false =>
        refine wp_seq (wp_seq ?_)
        refine slots_by [fun v _ => v = .pointer (some ⟨g, 0, none⟩), fun v _ => v = .pointer (some ⟨g, 0, none⟩), fun v _ => v = .pointer (some ⟨g, 0, none⟩), fun v _ => v = .pointer (some ⟨g, 19, none⟩), fun v _ => v = .bool true, fun v _ => v = .bool true, fun v _ => v = .pointer (some ⟨g, 0, none⟩), fun v _ => v = .pointer (some ⟨g, 0, none⟩), fun v _ => v = .pointer (some ⟨g, 0, none⟩), fun v _ => v = .pointer (some ⟨g, 10, none⟩), fun v _ => v = .pointer (some ⟨g, 10, none⟩), fun v _ => v = .pointer (some ⟨g, 10, none⟩), fun v _ => v = .int .i64 age', fun v _ => v = .bool true, fun v _ => v = .bool true, fun v _ => v = .bool true, fun v _ => v = .bool false, fun v _ => v = .bool false]
          (by kernel_rfl) (by kernel_rfl) (by kernel_rfl) hz (by kernel_rfl) rfl
          ⟨fun _ _ _ _ h => h, fun _ _ _ _ h => h, fun _ _ _ _ h => h, fun _ _ _ _ h => h, fun _ _ _ _ h => h, fun _ _ _ _ h => h, fun _ _ _ _ h => h, fun _ _ _ _ h => h, fun _ _ _ _ h => h, fun _ _ _ _ h => h, fun _ _ _ _ h => h, fun _ _ _ _ h => h, fun _ _ _ _ h => h, fun _ _ _ _ h => h, fun _ _ _ _ h => h, fun _ _ _ _ h => h, fun _ _ _ _ h => h, fun _ _ _ _ h => h, trivial⟩
          ⟨fun a w1 hb hat => step_ok (on_none rfl) (run_move rfl ((hat.base 0 (by kernel_rfl)).trans s0)) ⟨_, rfl, Below.refl _ _, rfl⟩,
           fun a w1 hb hat => step_ok (on_none rfl) (run_nilCheck rfl (hat.dep 0 17 (by kernel_rfl) (by kernel_rfl))) ⟨_, rfl, Below.refl _ _, rfl⟩,
           fun a w1 hb hat => step_ok (on_none rfl) (run_fieldAddr (m := 0) rfl (hat.dep 1 18 (by kernel_rfl) (by kernel_rfl)) (by kernel_rfl) rfl) ⟨_, rfl, Below.refl _ _, rfl⟩,
           fun a w1 hb hat => step_ok (on_none rfl) (run_fieldAddr (m := 19) rfl (hat.dep 2 19 (by kernel_rfl) (by kernel_rfl)) (by kernel_rfl) rfl) ⟨_, rfl, Below.refl _ _, rfl⟩,
           fun a w1 hb hat => step_ok (on_none rfl) (run_load rfl (hat.dep 3 20 (by kernel_rfl) (by kernel_rfl)) (by kernel_rfl) (show w1.cell? ⟨g, 19, none⟩ = some (.bool true) from Blk.cell (hK.below hb hK.lt) 19)) ⟨_, rfl, Below.refl _ _, rfl⟩,
           fun a w1 hb hat => step_ok (on_none rfl) (run_move rfl (hat.dep 4 21 (by kernel_rfl) (by kernel_rfl))) ⟨_, rfl, Below.refl _ _, rfl⟩,
           fun a w1 hb hat => step_ok (on_dep (b := true) (d := 22) rfl (by kernel_rfl) (hat.dep 5 22 (by kernel_rfl) (by kernel_rfl))) (run_move rfl ((hat.base 0 (by kernel_rfl)).trans s0)) ⟨_, rfl, Below.refl _ _, rfl⟩,
           fun a w1 hb hat => step_ok (on_dep (b := true) (d := 22) rfl (by kernel_rfl) (hat.dep 5 22 (by kernel_rfl) (by kernel_rfl))) (run_nilCheck rfl (hat.dep 6 23 (by kernel_rfl) (by kernel_rfl))) ⟨_, rfl, Below.refl _ _, rfl⟩,
           fun a w1 hb hat => step_ok (on_dep (b := true) (d := 22) rfl (by kernel_rfl) (hat.dep 5 22 (by kernel_rfl) (by kernel_rfl))) (run_fieldAddr (m := 0) rfl (hat.dep 7 24 (by kernel_rfl) (by kernel_rfl)) (by kernel_rfl) rfl) ⟨_, rfl, Below.refl _ _, rfl⟩,
           fun a w1 hb hat => step_ok (on_dep (b := true) (d := 22) rfl (by kernel_rfl) (hat.dep 5 22 (by kernel_rfl) (by kernel_rfl))) (run_fieldAddr (m := 10) rfl (hat.dep 8 25 (by kernel_rfl) (by kernel_rfl)) (by kernel_rfl) rfl) ⟨_, rfl, Below.refl _ _, rfl⟩,
           fun a w1 hb hat => step_ok (on_dep (b := true) (d := 22) rfl (by kernel_rfl) (hat.dep 5 22 (by kernel_rfl) (by kernel_rfl))) (run_fieldAddr (m := 0) rfl (hat.dep 9 26 (by kernel_rfl) (by kernel_rfl)) (by kernel_rfl) rfl) ⟨_, rfl, Below.refl _ _, rfl⟩,
           fun a w1 hb hat => step_ok (on_dep (b := true) (d := 22) rfl (by kernel_rfl) (hat.dep 5 22 (by kernel_rfl) (by kernel_rfl))) (run_fieldAddr (m := 0) rfl (hat.dep 10 27 (by kernel_rfl) (by kernel_rfl)) (by kernel_rfl) rfl) ⟨_, rfl, Below.refl _ _, rfl⟩,
           fun a w1 hb hat => step_ok (on_dep (b := true) (d := 22) rfl (by kernel_rfl) (hat.dep 5 22 (by kernel_rfl) (by kernel_rfl))) (run_load rfl (hat.dep 11 28 (by kernel_rfl) (by kernel_rfl)) (by kernel_rfl) (show w1.cell? ⟨g, 10, none⟩ = some (.int .i64 age') from Blk.cell (hK.below hb hK.lt) 10)) ⟨_, rfl, Below.refl _ _, rfl⟩,
           fun a w1 hb hat => step_ok (on_dep (b := true) (d := 22) rfl (by kernel_rfl) (hat.dep 5 22 (by kernel_rfl) (by kernel_rfl))) (run_cmp rfl (hat.dep 12 29 (by kernel_rfl) (by kernel_rfl)) rfl rfl (by simp; omega)) ⟨_, rfl, Below.refl _ _, rfl⟩,
           fun a w1 hb hat => step_ok (on_none rfl) (run_pick_t rfl (hat.dep 5 22 (by kernel_rfl) (by kernel_rfl)) (hat.dep 13 30 (by kernel_rfl) (by kernel_rfl))) ⟨_, rfl, Below.refl _ _, rfl⟩,
           fun a w1 hb hat => step_ok (on_none rfl) (run_move rfl (hat.dep 14 31 (by kernel_rfl) (by kernel_rfl))) ⟨_, rfl, Below.refl _ _, rfl⟩,
           fun a w1 hb hat => step_ok (on_dep (b := true) (d := 32) rfl (by kernel_rfl) (hat.dep 15 32 (by kernel_rfl) (by kernel_rfl))) (run_move rfl ((hat.base 2 (by kernel_rfl)).trans s2)) ⟨_, rfl, Below.refl _ _, rfl⟩,
           fun a w1 hb hat => step_ok (on_none rfl) (run_pick_t rfl (hat.dep 15 32 (by kernel_rfl) (by kernel_rfl)) (hat.dep 16 33 (by kernel_rfl) (by kernel_rfl))) ⟨_, rfl, Below.refl _ _, rfl⟩, trivial⟩ ?_
        rintro vs a2 w2 hb2 ⟨e0, e1, e2, e3, e4, e5, e6, e7, e8, e9, e10, e11, e12, e13, e14, e15, e16, e17, -⟩ hput
        replace s0 : a2.tmps.getD 0 undef = .pointer (some ⟨g, 0, none⟩) := (hput.old 0 (by kernel_rfl)).trans s0
        replace s1 : a2.tmps.getD 1 undef = .int .u8 b := (hput.old 1 (by kernel_rfl)).trans s1
        have s34 : a2.tmps.getD 34 undef = .bool false := (hput.new 17 34 rfl).trans e17
        replace hz := hput.size.trans hz
        replace hd := hput.defers.trans hd
        clear hput e0 e1 e2 e3 e4 e5 e6 e7 e8 e9 e10 e11 e12 e13 e14 e15 e16 e17 s2
        change Code.wp _ _ _ _ _
        refine wp_cond_false s34 (wp_skip ?_)
        change Code.wp _ _ _ _ _
        have e : dropF ⟨⟨⟨age, kind, id, adv, seq, sum, long⟩, links, mem⟩, wanted, ⟨⟨age', kind', id', adv', seq', sum', long'⟩, links', mem'⟩, true, last, at_, ever⟩ false = ⟨⟨⟨age, kind, id, adv, seq, sum, long⟩, links, mem⟩, wanted, ⟨⟨age', kind', id', adv', seq', sum', long'⟩, links', mem'⟩, true, last, at_, ever⟩ := if_neg (by simp)
        rw [e] at hT hF
        exact tick4_any B g ⟨⟨⟨⟨age, kind, id, adv, seq, sum, long⟩, links, mem⟩, wanted, ⟨⟨age', kind', id', adv', seq', sum', long'⟩, links', mem'⟩, true, last, at_, ever⟩, now, told⟩ F ⟨A, c, B1, d⟩ ⟨A', c', B', d'⟩ At ct w w2 a2 hz hd s0 b hb s1 hage hT hF hB (hL.below hb2) (hW.trans (Went.of_below hb2 (Nat.le_trans hB hW.below.size))) _ (by kernel_rfl)
      | true =>
        refine wp_seq (wp_seq ?_)
        refine slots_by [fun v _ => v = .pointer (some ⟨g, 0, none⟩), fun v _ => v = .pointer (some ⟨g, 0, none⟩), fun v _ => v = .pointer (some ⟨g, 0, none⟩), fun v _ => v = .pointer (some ⟨g, 19, none⟩), fun v _ => v = .bool true, fun v _ => v = .bool true, fun v _ => v = .pointer (some ⟨g, 0, none⟩), fun v _ => v = .pointer (some ⟨g, 0, none⟩), fun v _ => v = .pointer (some ⟨g, 0, none⟩), fun v _ => v = .pointer (some ⟨g, 10, none⟩), fun v _ => v = .pointer (some ⟨g, 10, none⟩), fun v _ => v = .pointer (some ⟨g, 10, none⟩), fun v _ => v = .int .i64 age', fun v _ => v = .bool true, fun v _ => v = .bool true, fun v _ => v = .bool true, fun v _ => v = .bool true, fun v _ => v = .bool true]
          (by kernel_rfl) (by kernel_rfl) (by kernel_rfl) hz (by kernel_rfl) rfl
          ⟨fun _ _ _ _ h => h, fun _ _ _ _ h => h, fun _ _ _ _ h => h, fun _ _ _ _ h => h, fun _ _ _ _ h => h, fun _ _ _ _ h => h, fun _ _ _ _ h => h, fun _ _ _ _ h => h, fun _ _ _ _ h => h, fun _ _ _ _ h => h, fun _ _ _ _ h => h, fun _ _ _ _ h => h, fun _ _ _ _ h => h, fun _ _ _ _ h => h, fun _ _ _ _ h => h, fun _ _ _ _ h => h, fun _ _ _ _ h => h, fun _ _ _ _ h => h, trivial⟩
          ⟨fun a w1 hb hat => step_ok (on_none rfl) (run_move rfl ((hat.base 0 (by kernel_rfl)).trans s0)) ⟨_, rfl, Below.refl _ _, rfl⟩,
           fun a w1 hb hat => step_ok (on_none rfl) (run_nilCheck rfl (hat.dep 0 17 (by kernel_rfl) (by kernel_rfl))) ⟨_, rfl, Below.refl _ _, rfl⟩,
           fun a w1 hb hat => step_ok (on_none rfl) (run_fieldAddr (m := 0) rfl (hat.dep 1 18 (by kernel_rfl) (by kernel_rfl)) (by kernel_rfl) rfl) ⟨_, rfl, Below.refl _ _, rfl⟩,
           fun a w1 hb hat => step_ok (on_none rfl) (run_fieldAddr (m := 19) rfl (hat.dep 2 19 (by kernel_rfl) (by kernel_rfl)) (by kernel_rfl) rfl) ⟨_, rfl, Below.refl _ _, rfl⟩,
           fun a w1 hb hat => step_ok (on_none rfl) (run_load rfl (hat.dep 3 20 (by kernel_rfl) (by kernel_rfl)) (by kernel_rfl) (show w1.cell? ⟨g, 19, none⟩ = some (.bool true) from Blk.cell (hK.below hb hK.lt) 19)) ⟨_, rfl, Below.refl _ _, rfl⟩,
           fun a w1 hb hat => step_ok (on_none rfl) (run_move rfl (hat.dep 4 21 (by kernel_rfl) (by kernel_rfl))) ⟨_, rfl, Below.refl _ _, rfl⟩,
           fun a w1 hb hat => step_ok (on_dep (b := true) (d := 22) rfl (by kernel_rfl) (hat.dep 5 22 (by kernel_rfl) (by kernel_rfl))) (run_move rfl ((hat.base 0 (by kernel_rfl)).trans s0)) ⟨_, rfl, Below.refl _ _, rfl⟩,
           fun a w1 hb hat => step_ok (on_dep (b := true) (d := 22) rfl (by kernel_rfl) (hat.dep 5 22 (by kernel_rfl) (by kernel_rfl))) (run_nilCheck rfl (hat.dep 6 23 (by kernel_rfl) (by kernel_rfl))) ⟨_, rfl, Below.refl _ _, rfl⟩,
           fun a w1 hb hat => step_ok (on_dep (b := true) (d := 22) rfl (by kernel_rfl) (hat.dep 5 22 (by kernel_rfl) (by kernel_rfl))) (run_fieldAddr (m := 0) rfl (hat.dep 7 24 (by kernel_rfl) (by kernel_rfl)) (by kernel_rfl) rfl) ⟨_, rfl, Below.refl _ _, rfl⟩,
           fun a w1 hb hat => step_ok (on_dep (b := true) (d := 22) rfl (by kernel_rfl) (hat.dep 5 22 (by kernel_rfl) (by kernel_rfl))) (run_fieldAddr (m := 10) rfl (hat.dep 8 25 (by kernel_rfl) (by kernel_rfl)) (by kernel_rfl) rfl) ⟨_, rfl, Below.refl _ _, rfl⟩,
           fun a w1 hb hat => step_ok (on_dep (b := true) (d := 22) rfl (by kernel_rfl) (hat.dep 5 22 (by kernel_rfl) (by kernel_rfl))) (run_fieldAddr (m := 0) rfl (hat.dep 9 26 (by kernel_rfl) (by kernel_rfl)) (by kernel_rfl) rfl) ⟨_, rfl, Below.refl _ _, rfl⟩,
           fun a w1 hb hat => step_ok (on_dep (b := true) (d := 22) rfl (by kernel_rfl) (hat.dep 5 22 (by kernel_rfl) (by kernel_rfl))) (run_fieldAddr (m := 0) rfl (hat.dep 10 27 (by kernel_rfl) (by kernel_rfl)) (by kernel_rfl) rfl) ⟨_, rfl, Below.refl _ _, rfl⟩,
           fun a w1 hb hat => step_ok (on_dep (b := true) (d := 22) rfl (by kernel_rfl) (hat.dep 5 22 (by kernel_rfl) (by kernel_rfl))) (run_load rfl (hat.dep 11 28 (by kernel_rfl) (by kernel_rfl)) (by kernel_rfl) (show w1.cell? ⟨g, 10, none⟩ = some (.int .i64 age') from Blk.cell (hK.below hb hK.lt) 10)) ⟨_, rfl, Below.refl _ _, rfl⟩,
           fun a w1 hb hat => step_ok (on_dep (b := true) (d := 22) rfl (by kernel_rfl) (hat.dep 5 22 (by kernel_rfl) (by kernel_rfl))) (run_cmp rfl (hat.dep 12 29 (by kernel_rfl) (by kernel_rfl)) rfl rfl (by simp; omega)) ⟨_, rfl, Below.refl _ _, rfl⟩,
           fun a w1 hb hat => step_ok (on_none rfl) (run_pick_t rfl (hat.dep 5 22 (by kernel_rfl) (by kernel_rfl)) (hat.dep 13 30 (by kernel_rfl) (by kernel_rfl))) ⟨_, rfl, Below.refl _ _, rfl⟩,
           fun a w1 hb hat => step_ok (on_none rfl) (run_move rfl (hat.dep 14 31 (by kernel_rfl) (by kernel_rfl))) ⟨_, rfl, Below.refl _ _, rfl⟩,
           fun a w1 hb hat => step_ok (on_dep (b := true) (d := 32) rfl (by kernel_rfl) (hat.dep 15 32 (by kernel_rfl) (by kernel_rfl))) (run_move rfl ((hat.base 2 (by kernel_rfl)).trans s2)) ⟨_, rfl, Below.refl _ _, rfl⟩,
           fun a w1 hb hat => step_ok (on_none rfl) (run_pick_t rfl (hat.dep 15 32 (by kernel_rfl) (by kernel_rfl)) (hat.dep 16 33 (by kernel_rfl) (by kernel_rfl))) ⟨_, rfl, Below.refl _ _, rfl⟩, trivial⟩ ?_
        rintro vs a2 w2 hb2 ⟨e0, e1, e2, e3, e4, e5, e6, e7, e8, e9, e10, e11, e12, e13, e14, e15, e16, e17, -⟩ hput
        replace s0 : a2.tmps.getD 0 undef = .pointer (some ⟨g, 0, none⟩) := (hput.old 0 (by kernel_rfl)).trans s0
        replace s1 : a2.tmps.getD 1 undef = .int .u8 b := (hput.old 1 (by kernel_rfl)).trans s1
        have s34 : a2.tmps.getD 34 undef = .bool true := (hput.new 17 34 rfl).trans e17
        replace hz := hput.size.trans hz
        replace hd := hput.defers.trans hd
        clear hput e0 e1 e2 e3 e4 e5 e6 e7 e8 e9 e10 e11 e12 e13 e14 e15 e16 e17 s2
        change Code.wp _ _ _ _ _
        refine wp_cond_true s34 ?_
        have hL2 := hL.below hb2
        have hW2 := hW.trans (Went.of_below hb2 (Nat.le_trans hB hW.below.size))
        refine slots_flat [6, 10] [0, 0, 0, 0, 0, 0, 0, 1, 1, 1, 1] [0, 1, 1, 1, 1, 0, 1, 2, 2, 1, 2] [fun v _ => v = .pointer (some ⟨g, 0, none⟩), fun v _ => v = .pointer (some ⟨g, 0, none⟩), fun v _ => v = .agg (List.toArray [.int .i64 0, .int .i64 0, .int .i64 0, .int .i64 0, .int .i64 0, .int .i64 0, .int .i64 0, .slice none 0 0, .slice none 0 0]), fun v _ => v = .pointer (some ⟨g, 0, none⟩), fun v _ => v = .pointer (some ⟨g, 0, none⟩), fun v _ => v = .pointer (some ⟨g, 19, none⟩), fun v _ => v = undef, fun v _ => v = .pointer (some ⟨g, 0, none⟩), fun v _ => v = .pointer (some ⟨g, 0, none⟩), fun v _ => v = .pointer (some ⟨g, 10, none⟩), fun v _ => v = undef] (fun k => match k with | 0 => fun w' => Hid (Blk w' g 60 (#[.int .i64 age, .int .i64 kind, .int .i64 id, .int .i64 adv, .int .i64 seq, .int .i64 sum, .int .i64 long, .slice A links.length c, .slice B1 mem.length d, .bool wanted, .int .i64 age', .int .i64 kind', .int .i64 id', .int .i64 adv', .int .i64 seq', .int .i64 sum', .int .i64 long', .slice A' links'.length c', .slice B' mem'.length d', .bool true, .int .i64 last, .int .i64 at_, .bool ever, .int .i64 now, .slice At told.length ct] : Array Value)) ∧ Hid (Res B ⟨⟨age, kind, id, adv, seq, sum, long⟩, links, mem⟩ ⟨⟨age', kind', id', adv', seq', sum', long'⟩, links', mem'⟩ ⟨A, c, B1, d⟩ ⟨A', c', B', d'⟩ told At ct w w') | 1 => fun w' => Hid (Blk w' g 60 (#[.int .i64 age, .int .i64 kind, .int .i64 id, .int .i64 adv, .int .i64 seq, .int .i64 sum, .int .i64 long, .slice A links.length c, .slice B1 mem.length d, .bool wanted, .int .i64 age', .int .i64 kind', .int .i64 id', .int .i64 adv', .int .i64 seq', .int .i64 sum', .int .i64 long', .slice A' links'.length c', .slice B' mem'.length d', .bool false, .int .i64 last, .int .i64 at_, .bool ever, .int .i64 now, .slice At told.length ct] : Array Value)) ∧ Hid (Res B ⟨⟨age, kind, id, adv, seq, sum, long⟩, links, mem⟩ ⟨⟨age', kind', id', adv', seq', sum', long'⟩, links', mem'⟩ ⟨A, c, B1, d⟩ ⟨A', c', B', d'⟩ told At ct w w') | 2 => fun w' => Hid (Blk w' g 60 (#[.int .i64 age, .int .i64 kind, .int .i64 id, .int .i64 adv, .int .i64 seq, .int .i64 sum, .int .i64 long, .slice A links.length c, .slice B1 mem.length d, .bool wanted, .int .i64 0, .int .i64 0, .int .i64 0, .int .i64 0, .int .i64 0, .int .i64 0, .int .i64 0, .slice none 0 0, .slice none 0 0, .bool false, .int .i64 last, .int .i64 at_, .bool ever, .int .i64 now, .slice At told.length ct] : Array Value)) ∧ Hid (Res B ⟨⟨age, kind, id, adv, seq, sum, long⟩, links, mem⟩ default ⟨A, c, B1, d⟩ ⟨none, 0, none, 0⟩ told At ct w w') | _ => fun _ => False)
          (by kernel_rfl) (by kernel_rfl) (by kernel_rfl) hz (by kernel_rfl) rfl (by kernel_rfl)
          ⟨fun _ _ _ h => h, fun _ _ _ h => h, fun _ _ _ h => h, fun _ _ _ h => h, fun _ _ _ h => h, fun _ _ _ h => h, fun _ _ _ h => h, fun _ _ _ h => h, fun _ _ _ h => h, fun _ _ _ h => h, fun _ _ _ h => h, trivial⟩
          (fun k w1 w2 hb h => match k, h with | 0, h => ⟨hide (h.1.out.below hb h.1.out.lt), hide (h.2.out.below hB hb)⟩ | 1, h => ⟨hide (h.1.out.below hb h.1.out.lt), hide (h.2.out.below hB hb)⟩ | 2, h => ⟨hide (h.1.out.below hb h.1.out.lt), hide (h.2.out.below hB hb)⟩ | _ + 3, h => h) (⟨hide hL2.blk, hide ⟨hL2.want, hL2.held, hL2.told, hW2⟩⟩)
          ⟨fun k a w1 hlo hhi hE hat => step_ok (on_none rfl) (run_move rfl ((hat.base 0 (by kernel_rfl)).trans s0)) ⟨_, rfl, Below.refl _ _, rfl⟩,
           fun k a w1 hlo hhi hE hat => step_ok (on_none rfl) (run_move rfl ((hat.base 0 (by kernel_rfl)).trans s0)) ⟨_, rfl, Below.refl _ _, rfl⟩,
           fun k a w1 hlo hhi hE hat => step_ok (on_none rfl) (run_build (vals := #[]) (r := .agg (List.toArray [.int .i64 0, .int .i64 0, .int .i64 0, .int .i64 0, .int .i64 0, .int .i64 0, .int .i64 0, .slice none 0 0, .slice none 0 0])) rfl (by simp) (by kernel_rfl)) ⟨_, rfl, Below.refl _ _, rfl⟩,
           fun k a w1 hlo hhi hE hat => step_ok (on_none rfl) (run_nilCheck rfl (hat.dep 0 35 (by kernel_rfl) (by kernel_rfl))) ⟨_, rfl, Below.refl _ _, rfl⟩,
           fun k a w1 hlo hhi hE hat => step_ok (on_none rfl) (run_fieldAddr (m := 0) rfl (hat.dep 3 38 (by kernel_rfl) (by kernel_rfl)) (by kernel_rfl) rfl) ⟨_, rfl, Below.refl _ _, rfl⟩,
           fun k a w1 hlo hhi hE hat => step_ok (on_none rfl) (run_fieldAddr (m := 19) rfl (hat.dep 4 39 (by kernel_rfl) (by kernel_rfl)) (by kernel_rfl) rfl) ⟨_, rfl, Below.refl _ _, rfl⟩,
           fun a w1 hE hat => step_skip (on_none rfl) (run_store (n := 1) (cells := #[.bool false]) (cs' := #[.int .i64 age, .int .i64 kind, .int .i64 id, .int .i64 adv, .int .i64 seq, .int .i64 sum, .int .i64 long, .slice A links.length c, .slice B1 mem.length d, .bool wanted, .int .i64 age', .int .i64 kind', .int .i64 id', .int .i64 adv', .int .i64 seq', .int .i64 sum', .int .i64 long', .slice A' links'.length c', .slice B' mem'.length d', .bool false, .int .i64 last, .int .i64 at_, .bool ever, .int .i64 now, .slice At told.length ct]) rfl (hat.dep 5 40 (by kernel_rfl) (by kernel_rfl)) rfl rfl hE.1.out (by kernel_rfl) ⟨Nat.le_of_ble_eq_true rfl, rfl, by simp [Value.oneCell']⟩ rfl) ⟨_, rfl, rfl, hide (hE.1.out.setRow_ _), hide (let h := hE.2.out.row hB HG.out hE.1.out _; ⟨h.want, h.held, h.told, h.went⟩)⟩,
           fun k a w1 hlo hhi hE hat => step_ok (on_none rfl) (run_nilCheck rfl (hat.dep 1 36 (by kernel_rfl) (by kernel_rfl))) ⟨_, rfl, Below.refl _ _, rfl⟩,
           fun k a w1 hlo hhi hE hat => step_ok (on_none rfl) (run_fieldAddr (m := 0) rfl (hat.dep 7 41 (by kernel_rfl) (by kernel_rfl)) (by kernel_rfl) rfl) ⟨_, rfl, Below.refl _ _, rfl⟩,
           fun k a w1 hlo hhi hE hat => step_ok (on_none rfl) (run_fieldAddr (m := 10) rfl (hat.dep 8 42 (by kernel_rfl) (by kernel_rfl)) (by kernel_rfl) rfl) ⟨_, rfl, Below.refl _ _, rfl⟩,
           fun a w1 hE hat => step_skip (on_none rfl) (run_store (n := 9) (cells := #[.int .i64 0, .int .i64 0, .int .i64 0, .int .i64 0, .int .i64 0, .int .i64 0, .int .i64 0, .slice none 0 0, .slice none 0 0]) (cs' := #[.int .i64 age, .int .i64 kind, .int .i64 id, .int .i64 adv, .int .i64 seq, .int .i64 sum, .int .i64 long, .slice A links.length c, .slice B1 mem.length d, .bool wanted, .int .i64 0, .int .i64 0, .int .i64 0, .int .i64 0, .int .i64 0, .int .i64 0, .int .i64 0, .slice none 0 0, .slice none 0 0, .bool false, .int .i64 last, .int .i64 at_, .bool ever, .int .i64 now, .slice At told.length ct]) rfl (hat.dep 9 43 (by kernel_rfl) (by kernel_rfl)) (hat.dep 2 37 (by kernel_rfl) (by kernel_rfl)) rfl hE.1.out (by kernel_rfl) ⟨Nat.le_of_ble_eq_true rfl, rfl, by simp [Value.oneCell']⟩ rfl) ⟨_, rfl, rfl, hide (hE.1.out.setRow_ _), hide (let h := hE.2.out.row hB HG.out hE.1.out _; ⟨h.want, LOwn.none_ _ _, h.told, h.went⟩)⟩, trivial⟩ ?_
        rintro vs a3 w3 ⟨e0, e1, e2, e3, e4, e5, e6, e7, e8, e9, e10, -⟩ hE hput
        replace s0 : a3.tmps.getD 0 undef = .pointer (some ⟨g, 0, none⟩) := (hput.old 0 (by kernel_rfl)).trans s0
        replace s1 : a3.tmps.getD 1 undef = .int .u8 b := (hput.old 1 (by kernel_rfl)).trans s1
        replace hz := hput.size.trans hz
        replace hd := hput.defers.trans hd
        clear hput e0 e1 e2 e3 e4 e5 e6 e7 e8 e9 e10 s34
        change Code.wp _ _ _ _ _
        have e : dropF ⟨⟨⟨age, kind, id, adv, seq, sum, long⟩, links, mem⟩, wanted, ⟨⟨age', kind', id', adv', seq', sum', long'⟩, links', mem'⟩, true, last, at_, ever⟩ true = ⟨⟨⟨age, kind, id, adv, seq, sum, long⟩, links, mem⟩, wanted, default, false, last, at_, ever⟩ := if_pos ⟨rfl, hy, rfl⟩
        rw [e] at hT hF
        exact tick4_any B g ⟨⟨⟨⟨age, kind, id, adv, seq, sum, long⟩, links, mem⟩, wanted, default, false, last, at_, ever⟩, now, told⟩ F ⟨A, c, B1, d⟩ ⟨none, 0, none, 0⟩ At ct w w3 a3 hz hd s0 b hb s1 (fun h => by cases h) hT hF hB ⟨hE.1.out, HG.out, hE.2.out.want, hE.2.out.held, hE.2.out.told⟩ hE.2.out.went _ (by kernel_rfl)
    · refine wp_seq (wp_seq ?_)
      refine slots_by [fun v _ => v = .pointer (some ⟨g, 0, none⟩), fun v _ => v = .pointer (some ⟨g, 0, none⟩), fun v _ => v = .pointer (some ⟨g, 0, none⟩), fun v _ => v = .pointer (some ⟨g, 19, none⟩), fun v _ => v = .bool true, fun v _ => v = .bool true, fun v _ => v = .pointer (some ⟨g, 0, none⟩), fun v _ => v = .pointer (some ⟨g, 0, none⟩), fun v _ => v = .pointer (some ⟨g, 0, none⟩), fun v _ => v = .pointer (some ⟨g, 10, none⟩), fun v _ => v = .pointer (some ⟨g, 10, none⟩), fun v _ => v = .pointer (some ⟨g, 10, none⟩), fun v _ => v = .int .i64 age', fun v _ => v = .bool false, fun v _ => v = .bool false, fun v _ => v = .bool false, fun v _ => v = undef, fun v _ => v = .bool false]
        (by kernel_rfl) (by kernel_rfl) (by kernel_rfl) hz (by kernel_rfl) rfl
        ⟨fun _ _ _ _ h => h, fun _ _ _ _ h => h, fun _ _ _ _ h => h, fun _ _ _ _ h => h, fun _ _ _ _ h => h, fun _ _ _ _ h => h, fun _ _ _ _ h => h, fun _ _ _ _ h => h, fun _ _ _ _ h => h, fun _ _ _ _ h => h, fun _ _ _ _ h => h, fun _ _ _ _ h => h, fun _ _ _ _ h => h, fun _ _ _ _ h => h, fun _ _ _ _ h => h, fun _ _ _ _ h => h, fun _ _ _ _ h => h, fun _ _ _ _ h => h, trivial⟩
        ⟨fun a w1 hb hat => step_ok (on_none rfl) (run_move rfl ((hat.base 0 (by kernel_rfl)).trans s0)) ⟨_, rfl, Below.refl _ _, rfl⟩,
         fun a w1 hb hat => step_ok (on_none rfl) (run_nilCheck rfl (hat.dep 0 17 (by kernel_rfl) (by kernel_rfl))) ⟨_, rfl, Below.refl _ _, rfl⟩,
         fun a w1 hb hat => step_ok (on_none rfl) (run_fieldAddr (m := 0) rfl (hat.dep 1 18 (by kernel_rfl) (by kernel_rfl)) (by kernel_rfl) rfl) ⟨_, rfl, Below.refl _ _, rfl⟩,
         fun a w1 hb hat => step_ok (on_none rfl) (run_fieldAddr (m := 19) rfl (hat.dep 2 19 (by kernel_rfl) (by kernel_rfl)) (by kernel_rfl) rfl) ⟨_, rfl, Below.refl _ _, rfl⟩,
         fun a w1 hb hat => step_ok (on_none rfl) (run_load rfl (hat.dep 3 20 (by kernel_rfl) (by kernel_rfl)) (by kernel_rfl) (show w1.cell? ⟨g, 19, none⟩ = some (.bool true) from Blk.cell (hK.below hb hK.lt) 19)) ⟨_, rfl, Below.refl _ _, rfl⟩,
         fun a w1 hb hat => step_ok (on_none rfl) (run_move rfl (hat.dep 4 21 (by kernel_rfl) (by kernel_rfl))) ⟨_, rfl, Below.refl _ _, rfl⟩,
         fun a w1 hb hat => step_ok (on_dep (b := true) (d := 22) rfl (by kernel_rfl) (hat.dep 5 22 (by kernel_rfl) (by kernel_rfl))) (run_move rfl ((hat.base 0 (by kernel_rfl)).trans s0)) ⟨_, rfl, Below.refl _ _, rfl⟩,
         fun a w1 hb hat => step_ok (on_dep (b := true) (d := 22) rfl (by kernel_rfl) (hat.dep 5 22 (by kernel_rfl) (by kernel_rfl))) (run_nilCheck rfl (hat.dep 6 23 (by kernel_rfl) (by kernel_rfl))) ⟨_, rfl, Below.refl _ _, rfl⟩,
         fun a w1 hb hat => step_ok (on_dep (b := true) (d := 22) rfl (by kernel_rfl) (hat.dep 5 22 (by kernel_rfl) (by kernel_rfl))) (run_fieldAddr (m := 0) rfl (hat.dep 7 24 (by kernel_rfl) (by kernel_rfl)) (by kernel_rfl) rfl) ⟨_, rfl, Below.refl _ _, rfl⟩,
         fun a w1 hb hat => step_ok (on_dep (b := true) (d := 22) rfl (by kernel_rfl) (hat.dep 5 22 (by kernel_rfl) (by kernel_rfl))) (run_fieldAddr (m := 10) rfl (hat.dep 8 25 (by kernel_rfl) (by kernel_rfl)) (by kernel_rfl) rfl) ⟨_, rfl, Below.refl _ _, rfl⟩,
         fun a w1 hb hat => step_ok (on_dep (b := true) (d := 22) rfl (by kernel_rfl) (hat.dep 5 22 (by kernel_rfl) (by kernel_rfl))) (run_fieldAddr (m := 0) rfl (hat.dep 9 26 (by kernel_rfl) (by kernel_rfl)) (by kernel_rfl) rfl) ⟨_, rfl, Below.refl _ _, rfl⟩,
         fun a w1 hb hat => step_ok (on_dep (b := true) (d := 22) rfl (by kernel_rfl) (hat.dep 5 22 (by kernel_rfl) (by kernel_rfl))) (run_fieldAddr (m := 0) rfl (hat.dep 10 27 (by kernel_rfl) (by kernel_rfl)) (by kernel_rfl) rfl) ⟨_, rfl, Below.refl _ _, rfl⟩,
         fun a w1 hb hat => step_ok (on_dep (b := true) (d := 22) rfl (by kernel_rfl) (hat.dep 5 22 (by kernel_rfl) (by kernel_rfl))) (run_load rfl (hat.dep 11 28 (by kernel_rfl) (by kernel_rfl)) (by kernel_rfl) (show w1.cell? ⟨g, 10, none⟩ = some (.int .i64 age') from Blk.cell (hK.below hb hK.lt) 10)) ⟨_, rfl, Below.refl _ _, rfl⟩,
         fun a w1 hb hat => step_ok (on_dep (b := true) (d := 22) rfl (by kernel_rfl) (hat.dep 5 22 (by kernel_rfl) (by kernel_rfl))) (run_cmp rfl (hat.dep 12 29 (by kernel_rfl) (by kernel_rfl)) rfl rfl (by simp; omega)) ⟨_, rfl, Below.refl _ _, rfl⟩,
         fun a w1 hb hat => step_ok (on_none rfl) (run_pick_t rfl (hat.dep 5 22 (by kernel_rfl) (by kernel_rfl)) (hat.dep 13 30 (by kernel_rfl) (by kernel_rfl))) ⟨_, rfl, Below.refl _ _, rfl⟩,
         fun a w1 hb hat => step_ok (on_none rfl) (run_move rfl (hat.dep 14 31 (by kernel_rfl) (by kernel_rfl))) ⟨_, rfl, Below.refl _ _, rfl⟩,
         fun a w1 hb hat => step_off (off_dep (b := true) (d := 32) rfl (by kernel_rfl) (hat.dep 15 32 (by kernel_rfl) (by kernel_rfl))) rfl,
         fun a w1 hb hat => step_ok (on_none rfl) (run_pick_f rfl (hat.dep 15 32 (by kernel_rfl) (by kernel_rfl)) rfl) ⟨_, rfl, Below.refl _ _, rfl⟩, trivial⟩ ?_
      rintro vs a2 w2 hb2 ⟨e0, e1, e2, e3, e4, e5, e6, e7, e8, e9, e10, e11, e12, e13, e14, e15, e16, e17, -⟩ hput
      replace s0 : a2.tmps.getD 0 undef = .pointer (some ⟨g, 0, none⟩) := (hput.old 0 (by kernel_rfl)).trans s0
      replace s1 : a2.tmps.getD 1 undef = .int .u8 b := (hput.old 1 (by kernel_rfl)).trans s1
      have s34 : a2.tmps.getD 34 undef = .bool false := (hput.new 17 34 rfl).trans e17
      replace hz := hput.size.trans hz
      replace hd := hput.defers.trans hd
      clear hput e0 e1 e2 e3 e4 e5 e6 e7 e8 e9 e10 e11 e12 e13 e14 e15 e16 e17 s2
      change Code.wp _ _ _ _ _
      refine wp_cond_false s34 (wp_skip ?_)
      change Code.wp _ _ _ _ _
      have e : dropF ⟨⟨⟨age, kind, id, adv, seq, sum, long⟩, links, mem⟩, wanted, ⟨⟨age', kind', id', adv', seq', sum', long'⟩, links', mem'⟩, true, last, at_, ever⟩ drops = ⟨⟨⟨age, kind, id, adv, seq, sum, long⟩, links, mem⟩, wanted, ⟨⟨age', kind', id', adv', seq', sum', long'⟩, links', mem'⟩, true, last, at_, ever⟩ := if_neg (fun h => hy h.2.1)
      rw [e] at hT hF
      exact tick4_any B g ⟨⟨⟨⟨age, kind, id, adv, seq, sum, long⟩, links, mem⟩, wanted, ⟨⟨age', kind', id', adv', seq', sum', long'⟩, links', mem'⟩, true, last, at_, ever⟩, now, told⟩ F ⟨A, c, B1, d⟩ ⟨A', c', B', d'⟩ At ct w w2 a2 hz hd s0 b hb s1 hage hT hF hB (hL.below hb2) (hW.trans (Went.of_below hb2 (Nat.le_trans hB hW.below.size))) _ (by kernel_rfl)
set_option maxRecDepth 100000 in
set_option maxHeartbeats 8000000 in
theorem tick0_any (B g : Nat) (s F : LS) (p q : LP) (At : Option Addr) (ct : Nat) (w wr : World) (a : Act) (hz : a.tmps.size = 248) (hd : a.defers = [])
    (s0 : a.tmps.getD 0 undef = .pointer (some ⟨g, 0, none⟩)) (b : Int) (drops : Bool) (hb : 0 ≤ b ∧ b < 256) (s1 : a.tmps.getD 1 undef = .int .u8 b) (s2 : a.tmps.getD 2 undef = .bool drops) (hage : s.m.is_ = true → 0 ≤ s.m.held.hd.age ∧ s.m.held.hd.age ≤ 60) (hn : 0 ≤ s.now ∧ s.now ≤ 100000) (hT : TOK ⟨wantedF (ageF s.m drops) b, s.now + 1, s.told⟩) (hF : Hid (F = tickF s b drops))
    (hB : B ≤ w.heap.size) (hL : Life B wr g s p q At ct) (hW : Went B w wr)
    (cde : Code) (hcd : tailOf Try.f20 0 = cde) : Code.wp Try.prog cde (bodyPost Try.prog Try.f20 (TP B g w F)) a wr := by
  subst hcd
  conv => arg 2; whnf
  obtain ⟨⟨⟨⟨age, kind, id, adv, seq, sum, long⟩, links, mem⟩, wanted, ⟨⟨age', kind', id', adv', seq', sum', long'⟩, links', mem'⟩, is, last, at_, ever⟩, now, told⟩ := s
  obtain ⟨A, c, B1, d⟩ := p
  obtain ⟨A', c', B', d'⟩ := q
  have HG := hide hL.base
  have hK := hL.blk
  dsimp only at hn
  refine wp_seq ?_
  refine slots_by [fun v _ => v = .bool false]
    (by kernel_rfl) (by kernel_rfl) (by kernel_rfl) hz (by kernel_rfl) rfl
    ⟨fun _ _ _ _ h => h, trivial⟩
    ⟨fun a w1 hb hat => step_ok (on_none rfl) (run_assign rfl rfl) ⟨_, rfl, Below.refl _ _, rfl⟩, trivial⟩ ?_
  rintro vs a2 w2 hb2 ⟨e0, -⟩ hput
  replace s0 : a2.tmps.getD 0 undef = .pointer (some ⟨g, 0, none⟩) := (hput.old 0 (by kernel_rfl)).trans s0
  replace s1 : a2.tmps.getD 1 undef = .int .u8 b := (hput.old 1 (by kernel_rfl)).trans s1
  replace s2 : a2.tmps.getD 2 undef = .bool drops := (hput.old 2 (by kernel_rfl)).trans s2
  replace hz := hput.size.trans hz
  replace hd := hput.defers.trans hd
  clear hput e0
  change Code.wp _ _ _ _ _
  refine wp_seq ?_
  have hL2 := hL.below hb2
  have hW2 := hW.trans (Went.of_below hb2 (Nat.le_trans hB hW.below.size))
  refine slots_flat [7] [0, 0, 0, 0, 0, 0, 0, 0] [0, 0, 0, 0, 0, 1, 0, 1] [fun v _ => v = .pointer (some ⟨g, 0, none⟩), fun v _ => v = .pointer (some ⟨g, 0, none⟩), fun v _ => v = .pointer (some ⟨g, 23, none⟩), fun v _ => v = .int .i64 now, fun v _ => v = .int .i64 (now + 1), fun v _ => v = .pointer (some ⟨g, 0, none⟩), fun v _ => v = .pointer (some ⟨g, 23, none⟩), fun v _ => v = undef] (fun k => match k with | 0 => fun w' => Hid (Blk w' g 60 (#[.int .i64 age, .int .i64 kind, .int .i64 id, .int .i64 adv, .int .i64 seq, .int .i64 sum, .int .i64 long, .slice A links.length c, .slice B1 mem.length d, .bool wanted, .int .i64 age', .int .i64 kind', .int .i64 id', .int .i64 adv', .int .i64 seq', .int .i64 sum', .int .i64 long', .slice A' links'.length c', .slice B' mem'.length d', .bool is, .int .i64 last, .int .i64 at_, .bool ever, .int .i64 now, .slice At told.length ct] : Array Value)) ∧ Hid (Res B ⟨⟨age, kind, id, adv, seq, sum, long⟩, links, mem⟩ ⟨⟨age', kind', id', adv', seq', sum', long'⟩, links', mem'⟩ ⟨A, c, B1, d⟩ ⟨A', c', B', d'⟩ told At ct w w') | 1 => fun w' => Hid (Blk w' g 60 (#[.int .i64 age, .int .i64 kind, .int .i64 id, .int .i64 adv, .int .i64 seq, .int .i64 sum, .int .i64 long, .slice A links.length c, .slice B1 mem.length d, .bool wanted, .int .i64 age', .int .i64 kind', .int .i64 id', .int .i64 adv', .int .i64 seq', .int .i64 sum', .int .i64 long', .slice A' links'.length c', .slice B' mem'.length d', .bool is, .int .i64 last, .int .i64 at_, .bool ever, .int .i64 (now + 1), .slice At told.length ct] : Array Value)) ∧ Hid (Res B ⟨⟨age, kind, id, adv, seq, sum, long⟩, links, mem⟩ ⟨⟨age', kind', id', adv', seq', sum', long'⟩, links', mem'⟩ ⟨A, c, B1, d⟩ ⟨A', c', B', d'⟩ told At ct w w') | _ => fun _ => False)
    (by kernel_rfl) (by kernel_rfl) (by kernel_rfl) hz (by kernel_rfl) rfl (by kernel_rfl)
    ⟨fun _ _ _ h => h, fun _ _ _ h => h, fun _ _ _ h => h, fun _ _ _ h => h, fun _ _ _ h => h, fun _ _ _ h => h, fun _ _ _ h => h, fun _ _ _ h => h, trivial⟩
    (fun k w1 w2 hb h => match k, h with | 0, h => ⟨hide (h.1.out.below hb h.1.out.lt), hide (h.2.out.below hB hb)⟩ | 1, h => ⟨hide (h.1.out.below hb h.1.out.lt), hide (h.2.out.below hB hb)⟩ | _ + 2, h => h) (⟨hide hL2.blk, hide ⟨hL2.want, hL2.held, hL2.told, hW2⟩⟩)
    ⟨fun k a w1 hlo hhi hE hat => step_ok (on_none rfl) (run_move rfl ((hat.base 0 (by kernel_rfl)).trans s0)) ⟨_, rfl, Below.refl _ _, rfl⟩,
     fun k a w1 hlo hhi hE hat => step_ok (on_none rfl) (run_nilCheck rfl (hat.dep 0 10 (by kernel_rfl) (by kernel_rfl))) ⟨_, rfl, Below.refl _ _, rfl⟩,
     fun k a w1 hlo hhi hE hat => step_ok (on_none rfl) (run_fieldAddr (m := 23) rfl (hat.dep 1 11 (by kernel_rfl) (by kernel_rfl)) (by kernel_rfl) rfl) ⟨_, rfl, Below.refl _ _, rfl⟩,
     (fun k a w1 hlo hhi hE hat => match k, hlo, hhi, hE with
       | 0, _, _, hE => step_ok (on_none rfl) (run_load rfl (hat.dep 2 12 (by kernel_rfl) (by kernel_rfl)) (by kernel_rfl) (show w1.cell? ⟨g, 23, none⟩ = some (.int .i64 now) from Blk.cell hE.1.out 23)) ⟨_, rfl, Below.refl _ _, rfl⟩
       | k + 1, _, h, _ => absurd h (by show ¬ (k + 1 ≤ 0); omega)),
     fun k a w1 hlo hhi hE hat => step_ok (on_none rfl) (run_addI rfl (hat.dep 3 13 (by kernel_rfl) (by kernel_rfl)) rfl (by omega) rfl) ⟨_, rfl, Below.refl _ _, rfl⟩,
     fun k a w1 hlo hhi hE hat => step_ok (on_none rfl) (run_nilCheck rfl (hat.dep 0 10 (by kernel_rfl) (by kernel_rfl))) ⟨_, rfl, Below.refl _ _, rfl⟩,
     fun k a w1 hlo hhi hE hat => step_ok (on_none rfl) (run_fieldAddr (m := 23) rfl (hat.dep 5 15 (by kernel_rfl) (by kernel_rfl)) (by kernel_rfl) rfl) ⟨_, rfl, Below.refl _ _, rfl⟩,
     fun a w1 hE hat => step_skip (on_none rfl) (run_store (n := 1) (cells := #[.int .i64 (now + 1)]) (cs' := #[.int .i64 age, .int .i64 kind, .int .i64 id, .int .i64 adv, .int .i64 seq, .int .i64 sum, .int .i64 long, .slice A links.length c, .slice B1 mem.length d, .bool wanted, .int .i64 age', .int .i64 kind', .int .i64 id', .int .i64 adv', .int .i64 seq', .int .i64 sum', .int .i64 long', .slice A' links'.length c', .slice B' mem'.length d', .bool is, .int .i64 last, .int .i64 at_, .bool ever, .int .i64 (now + 1), .slice At told.length ct]) rfl (hat.dep 6 16 (by kernel_rfl) (by kernel_rfl)) (hat.dep 4 14 (by kernel_rfl) (by kernel_rfl)) rfl hE.1.out (by kernel_rfl) ⟨Nat.le_of_ble_eq_true rfl, rfl, by simp [Value.oneCell']⟩ rfl) ⟨_, rfl, rfl, hide (hE.1.out.setRow_ _), hide (hE.2.out.row hB HG.out hE.1.out _)⟩, trivial⟩ ?_
  rintro vs a3 w3 ⟨e0, e1, e2, e3, e4, e5, e6, e7, -⟩ hE hput
  replace s0 : a3.tmps.getD 0 undef = .pointer (some ⟨g, 0, none⟩) := (hput.old 0 (by kernel_rfl)).trans s0
  replace s1 : a3.tmps.getD 1 undef = .int .u8 b := (hput.old 1 (by kernel_rfl)).trans s1
  replace s2 : a3.tmps.getD 2 undef = .bool drops := (hput.old 2 (by kernel_rfl)).trans s2
  replace hz := hput.size.trans hz
  replace hd := hput.defers.trans hd
  clear hput e0 e1 e2 e3 e4 e5 e6 e7
  change Code.wp _ _ _ _ _
  exact tick2_any B g ⟨⟨⟨⟨age, kind, id, adv, seq, sum, long⟩, links, mem⟩, wanted, ⟨⟨age', kind', id', adv', seq', sum', long'⟩, links', mem'⟩, is, last, at_, ever⟩, now + 1, told⟩ F ⟨A, c, B1, d⟩ ⟨A', c', B', d'⟩ At ct w w3 a3 hz hd s0 b drops hb s1 s2 hage hT hF hB ⟨hE.1.out, HG.out, hE.2.out.want, hE.2.out.held, hE.2.out.told⟩ hE.2.out.went _ (by kernel_rfl)
set_option maxRecDepth 100000 in
set_option maxHeartbeats 8000000 in
theorem tick_any (B g : Nat) (s : LS) (p q : LP) (At : Option Addr) (ct : Nat) (b : Int) (drops : Bool) (w : World) (hB : B ≤ w.heap.size) (hL : Life B w g s p q At ct) (hb : 0 ≤ b ∧ b < 256) (hage : s.m.is_ = true → 0 ≤ s.m.held.hd.age ∧ s.m.held.hd.age ≤ 60) (hn : 0 ≤ s.now ∧ s.now ≤ 100000)
    (hT : TOK ⟨wantedF (ageF s.m drops) b, s.now + 1, s.told⟩) : Calls Try.prog 20 #[.pointer (some ⟨g, 0, none⟩), .int .u8 b, .bool drops] w (TP B g w (tickF s b drops)) := by
  refine calls_of_wp Try.func20 rfl ?_
  exact tick0_any B g s _ p q At ct w w _ (by kernel_rfl) (by kernel_rfl) (by kernel_rfl) b drops hb (by kernel_rfl) (by kernel_rfl) hage hn hT (hide rfl) hB hL (Went.refl _ _) _ (by kernel_rfl)
end Go.Proofs.Ytmklebkldailnaa
