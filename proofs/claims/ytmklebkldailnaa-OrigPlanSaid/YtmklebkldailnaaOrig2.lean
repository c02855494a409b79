/-
  orig.flushed, told, number.
-/
import Derived.Test.YtmklebkldailnaaOrig
namespace Go.Proofs.Ytmklebkldailnaa
open Go.RowKit
set_option linter.unusedSimpArgs false
set_option linter.unusedVariables false

/-- what there is of one own description -/
structure MV where
  want : LV
  wanted : Bool
  held : LV
  is_ : Bool
  last : Int
  at_ : Int
  ever : Bool
abbrev mineA (m : MV) (p q : LP) : Array Value :=
  #[.int .i64 m.want.hd.age, .int .i64 m.want.hd.kind, .int .i64 m.want.hd.id, .int .i64 m.want.hd.adv, .int .i64 m.want.hd.seq, .int .i64 m.want.hd.sum, .int .i64 m.want.hd.long, .slice p.A m.want.links.length p.c, .slice p.B m.want.mem.length p.d,
    .bool m.wanted,
    .int .i64 m.held.hd.age, .int .i64 m.held.hd.kind, .int .i64 m.held.hd.id, .int .i64 m.held.hd.adv, .int .i64 m.held.hd.seq, .int .i64 m.held.hd.sum, .int .i64 m.held.hd.long, .slice q.A m.held.links.length q.c, .slice q.B m.held.mem.length q.d,
    .bool m.is_, .int .i64 m.last, .int .i64 m.at_, .bool m.ever]
structure MOK (w : World) (m : MV) (p q : LP) : Prop where
  want : LOK w m.want p
  held : LOK w m.held q
theorem MOK.below {w w' : World} {m : MV} {p q : LP} (h : MOK w m p q) (hb : Below w.heap.size w w') : MOK w' m p q := ⟨h.want.below hb, h.held.below hb⟩
structure MSm (m : MV) : Prop where
  wl : m.want.links.length ≤ 5000
  wm : m.want.mem.length ≤ 5000
  hl : m.held.links.length ≤ 5000
  hm : m.held.mem.length ≤ 5000

/-- a description that lies in memory is laid in the result's block, and returned -/
theorem gives2_end {l : LV} {n : Int} {w0 w : World} {p : LP} {g B : Nat} (hb : Below w0.heap.size w0 w) (hg : g = w0.heap.size + 1) (hB : w0.heap.size + 2 ≤ B) (ho : LOwn w B l p) (cs : Array Value) :
    Gives2 l n w0 (.returned (.tuple #[.agg (lsaA l p), .int .i64 n])) (w.setRow g cs) := by
  have hK := (Keeps.refl (fun x => x = g) w).row (.inl rfl) cs
  exact ⟨p, rfl, (ho.keeps hK (fun x hx => by omega)).mono (by omega), below_keeps hb hK (fun x hx => by cases hx; omega)⟩

set_option maxRecDepth 20000 in
set_option maxHeartbeats 4000000 in
theorem flushed_any (m : MV) (p q : LP) (w : World) (hs : MSm m) (hok : MOK w m p q) :
    Calls Try.prog 21 #[.agg (mineA m p q)] w (Gives2 { m.held with hd := { m.held.hd with age := 60 } } 2 w) := by
  have HO := hide hok
  have HS := hide hs
  clear hok hs
  obtain ⟨want, wanted, ⟨⟨age, kind, id, adv, seq, sum, long⟩, links, mem⟩, is, last, at_, ever⟩ := m
  obtain ⟨A, c, B, d⟩ := q
  have HB0 := hide (below0 (below_new w (.cells (mineA ⟨want, wanted, ⟨⟨age, kind, id, adv, seq, sum, long⟩, links, mem⟩, is, last, at_, ever⟩ p ⟨A, c, B, d⟩) 29)) (below_new _ (.cells lsa0 27)))
  have HR0 := hide (Blk.new (w.alloc (.cells (mineA ⟨want, wanted, ⟨⟨age, kind, id, adv, seq, sum, long⟩, links, mem⟩, is, last, at_, ever⟩ p ⟨A, c, B, d⟩) 29)) 27 lsa0)
  rw [show (w.alloc (.cells (mineA ⟨want, wanted, ⟨⟨age, kind, id, adv, seq, sum, long⟩, links, mem⟩, is, last, at_, ever⟩ p ⟨A, c, B, d⟩) 29)).heap.size = w.heap.size + 1 by simp] at HR0
  go_enter Try.func21, Try.ntmps21
  go_wp2_with fail
  have hco := lcopied_any ⟨⟨age, kind, id, adv, seq, sum, long⟩, links, mem⟩ ⟨A, c, B, d⟩ _ HS.out.hl HS.out.hm (HO.out.held.below HB0.out)
  dsimp only [lsaA] at hco
  refine hco.mono ?_
  rintro r w1 ⟨⟨A', c', B', d'⟩, rfl, ho, hb1⟩
  dsimp only
  have HR1 := hide (fun (cs : Array Value) => (HR0.out.below hb1 HR0.out.lt).alloc (.cells cs 27))
  have HBX := hide (below0 HB0.out hb1)
  have HO1 := hide (ho.mono (show w.heap.size + 2 ≤ _ from Nat.add_le_add_right HB0.out.size 2))
  have hi : (Try.prog.info? 27).map (·.size) = some 9 := by kernel_rfl
  have hs : lsa0.size = 9 ∧ (#[.int .i64 60, .int .i64 kind, .int .i64 id, .int .i64 adv, .int .i64 seq, .int .i64 sum, .int .i64 long, .slice A' links.length c', .slice B' mem.length d'] : Array Value).size = 9 ∧ (#[.int .i64 60, .int .i64 kind, .int .i64 id, .int .i64 adv, .int .i64 seq, .int .i64 sum, .int .i64 long, .slice A' links.length c', .slice B' mem.length d'] : Array Value).all (·.oneCell') = true := ⟨rfl, rfl, by simp [Value.oneCell']⟩
  clear hb1 ho HB0 HR0 hco
  go_wp2_with (with_reducible refine wpList_store_at rfl 27 (.tmp 2) (.tmp 10) rfl (w.heap.size + 1) #[.int .i64 60, .int .i64 kind, .int .i64 id, .int .i64 adv, .int .i64 seq, .int .i64 sum, .int .i64 long, .slice A' links.length c', .slice B' mem.length d'] 9 rfl rfl 27 lsa0 (HR1.out _) hi hs ?_)
  have hkr := (HR1.out #[.int .i64 60, .int .i64 kind, .int .i64 id, .int .i64 adv, .int .i64 seq, .int .i64 sum, .int .i64 long, .slice A' links.length c', .slice B' mem.length d']).setRow_ #[.int .i64 60, .int .i64 kind, .int .i64 id, .int .i64 adv, .int .i64 seq, .int .i64 sum, .int .i64 long, .slice A' links.length c', .slice B' mem.length d']
  refine bodyPost_ret (results_row_tmp (fn := Try.f21) rfl _ _ (w.heap.size + 1) 27 _ _ rfl hkr Try.underlying27 rfl hi) rfl ?_
  exact gives2_end (l := ⟨⟨60, kind, id, adv, seq, sum, long⟩, links, mem⟩) (p := ⟨A', c', B', d'⟩) (HBX.out.alloc HBX.out.size _) rfl (Nat.le_refl _) ((HO1.out.head ⟨60, kind, id, adv, seq, sum, long⟩).below (below_new _ _)) _

set_option maxRecDepth 20000 in
set_option maxHeartbeats 4000000 in
theorem told_any (m : MV) (p q : LP) (n : Int) (w : World) (hs : MSm m) (hok : MOK w m p q) :
    Calls Try.prog 24 #[.agg (mineA m p q), .int .i64 n] w (Gives2 (sealF { m.want with hd := { m.want.hd with age := 0, seq := n } }) 1 w) := by
  have HO := hide hok
  have HS := hide hs
  clear hok hs
  obtain ⟨⟨⟨age, kind, id, adv, seq, sum, long⟩, links, mem⟩, wanted, held, is, last, at_, ever⟩ := m
  obtain ⟨A, c, B, d⟩ := p
  have HB0 := hide (below0 (below_new w (.cells (mineA ⟨⟨⟨age, kind, id, adv, seq, sum, long⟩, links, mem⟩, wanted, held, is, last, at_, ever⟩ ⟨A, c, B, d⟩ q) 29)) (below_new _ (.cells lsa0 27)))
  have HR0 := hide (Blk.new (w.alloc (.cells (mineA ⟨⟨⟨age, kind, id, adv, seq, sum, long⟩, links, mem⟩, wanted, held, is, last, at_, ever⟩ ⟨A, c, B, d⟩ q) 29)) 27 lsa0)
  rw [show (w.alloc (.cells (mineA ⟨⟨⟨age, kind, id, adv, seq, sum, long⟩, links, mem⟩, wanted, held, is, last, at_, ever⟩ ⟨A, c, B, d⟩ q) 29)).heap.size = w.heap.size + 1 by simp] at HR0
  go_enter Try.func24, Try.ntmps24
  go_wp2_with fail
  have hco := lcopied_any ⟨⟨age, kind, id, adv, seq, sum, long⟩, links, mem⟩ ⟨A, c, B, d⟩ _ HS.out.wl HS.out.wm (HO.out.want.below HB0.out)
  dsimp only [lsaA] at hco
  refine hco.mono ?_
  rintro r w1 ⟨⟨A', c', B', d'⟩, rfl, ho, hb1⟩
  dsimp only
  have HR1 := hide (fun (cs : Array Value) => (HR0.out.below hb1 HR0.out.lt).alloc (.cells cs 27))
  have HBX := hide (below0 HB0.out hb1)
  have HO1 := hide (ho.ok)
  have HSZ := hide (show w.heap.size + 2 ≤ w1.heap.size + 1 by have := HB0.out.size; have := hb1.size; have := (HR0.out.below hb1 HR0.out.lt).lt; omega)
  clear hb1 ho HB0 HR0 hco
  go_wp2_with fail
  have hse := fun W h => seal_any ⟨⟨0, kind, id, adv, n, sum, long⟩, links, mem⟩ ⟨A', c', B', d'⟩ W HS.out.wl HS.out.wm h
  obtain ⟨h', hz⟩ : ∃ h', sealF ⟨⟨0, kind, id, adv, n, sum, long⟩, links, mem⟩ = ⟨h', links, mem⟩ := by
    unfold sealF
    split
    · exact ⟨_, rfl⟩
    · exact ⟨_, rfl⟩
  have HZ := hide hz
  rw [hz] at hse
  obtain ⟨age', kind', id', adv', seq', sum', long'⟩ := h'
  dsimp only [lsaA] at hse
  refine (hse _ (LOK.below ⟨HO1.out.links, HO1.out.mem⟩ (below_new _ _))).mono ?_
  rintro r w2 ⟨⟨A2, c2, B2, d2⟩, rfl, ho2, hb2⟩
  dsimp only
  have HR2 := hide ((HR1.out _).below hb2 (HR1.out _).lt)
  have HB2 := hide (below0 (HBX.out.alloc HBX.out.size _) hb2)
  have hi : (Try.prog.info? 27).map (·.size) = some 9 := by kernel_rfl
  have hs : lsa0.size = 9 ∧ (#[.int .i64 age', .int .i64 kind', .int .i64 id', .int .i64 adv', .int .i64 seq', .int .i64 sum', .int .i64 long', .slice A2 links.length c2, .slice B2 mem.length d2] : Array Value).size = 9 ∧ (#[.int .i64 age', .int .i64 kind', .int .i64 id', .int .i64 adv', .int .i64 seq', .int .i64 sum', .int .i64 long', .slice A2 links.length c2, .slice B2 mem.length d2] : Array Value).all (·.oneCell') = true := ⟨rfl, rfl, by simp [Value.oneCell']⟩
  have HO2 := hide (ho2.mono (show w.heap.size + 2 ≤ _ by have := HSZ.out; simp; omega))
  clear hb2 hz hse ho2
  go_wp2_with (with_reducible refine wpList_store_at rfl 27 (.tmp 4) (.tmp 16) rfl (w.heap.size + 1) #[.int .i64 age', .int .i64 kind', .int .i64 id', .int .i64 adv', .int .i64 seq', .int .i64 sum', .int .i64 long', .slice A2 links.length c2, .slice B2 mem.length d2] 9 rfl rfl 27 lsa0 HR2.out hi hs ?_)
  have hkr := HR2.out.setRow_ #[.int .i64 age', .int .i64 kind', .int .i64 id', .int .i64 adv', .int .i64 seq', .int .i64 sum', .int .i64 long', .slice A2 links.length c2, .slice B2 mem.length d2]
  refine bodyPost_ret (results_row_tmp (fn := Try.f24) rfl _ _ (w.heap.size + 1) 27 _ _ rfl hkr Try.underlying27 rfl hi) rfl ?_
  dsimp only
  rw [HZ.out]
  exact gives2_end (l := ⟨⟨age', kind', id', adv', seq', sum', long'⟩, links, mem⟩) (p := ⟨A2, c2, B2, d2⟩) HB2.out rfl (Nat.le_refl _) HO2.out _

def numberF (m : MV) : Int × Bool := if m.is_ then (if m.ever then (max m.held.hd.seq m.last, true) else (m.held.hd.seq, true)) else (m.last, m.ever)
set_option maxRecDepth 20000 in
set_option maxHeartbeats 4000000 in
theorem number_any (m : MV) (p q : LP) (w : World) :
    Calls Try.prog 23 #[.agg (mineA m p q)] w fun r w' => r = .returned (.tuple #[.int .i64 (numberF m).1, .bool (numberF m).2]) ∧ Below w.heap.size w w' := by
  obtain ⟨⟨⟨age, kind, id, adv, seq, sum, long⟩, links, mem⟩, wanted, ⟨⟨age', kind', id', adv', seq', sum', long'⟩, links', mem'⟩, is, last, at_, ever⟩ := m
  obtain ⟨A, c, B, d⟩ := p
  obtain ⟨A', c', B', d'⟩ := q
  have HB := hide (below_new w (.cells (mineA ⟨⟨⟨age, kind, id, adv, seq, sum, long⟩, links, mem⟩, wanted, ⟨⟨age', kind', id', adv', seq', sum', long'⟩, links', mem'⟩, is, last, at_, ever⟩ ⟨A, c, B, d⟩ ⟨A', c', B', d'⟩) 29))
  go_enter Try.func23, Try.ntmps23
  cases is with
  | true =>
    cases ever with
    | true =>
      go_wp2
      all_goals go_ret2
      all_goals exact ⟨by first | (simp [numberF]; done) | (simp [numberF]; omega), HB.out⟩
    | false =>
      go_wp2
      all_goals go_ret2
      all_goals exact ⟨by first | (simp [numberF]; done) | (simp [numberF]; omega), HB.out⟩
  | false =>
    go_wp2
    go_quiet (fail)
    go_wp2
    go_ret2
    exact ⟨by simp [numberF], below_drewN HB.out _⟩
end Go.Proofs.Ytmklebkldailnaa
