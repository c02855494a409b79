/-
  orig.Plan: what is to be done.
-/
import Derived.Test.YtmklebkldailnaaOrig2
namespace Go.Proofs.Ytmklebkldailnaa
open Go.RowKit
set_option linter.unusedSimpArgs false
set_option linter.unusedVariables false

theorem sealF_form (l : LV) : ∃ h', sealF l = ⟨h', l.links, l.mem⟩ := by
  unfold sealF
  split
  · exact ⟨_, rfl⟩
  · exact ⟨_, rfl⟩
def tellF (m : MV) (n : Int) : LV := sealF { m.want with hd := { m.want.hd with age := 0, seq := n } }
def livesF (m : MV) : Bool := m.is_ && decide (m.held.hd.age ≠ 60)
def flushF (m : MV) : LV := { m.held with hd := { m.held.hd with age := 60 } }
/-- what is to be done of a number -/
def restF (m : MV) : LV × Int :=
  if !(numberF m).2 || (decide (2147483647 ≤ (numberF m).1) && !m.is_) then (tellF m (-2147483647), 1)
  else if (numberF m).1 < 2147483647 then (tellF m ((numberF m).1 + 1), 1)
  else if livesF m then (flushF m, 2) else (default, 3)
/-- what is to be done -/
def planF (m : MV) (now : Int) : LV × Int :=
  if m.wanted = false then (if livesF m then (flushF m, 2) else (default, 0))
  else if m.is_ && decide (m.held.hd.age < 20) && (decide (m.held.links = m.want.links) && decide (m.held.mem = m.want.mem)) then (default, 0)
  else if m.ever && decide (now - m.at_ < 2) then (default, 3)
  else restF m
theorem wrap_sub {a b : Int} (h1 : -1099511627776 ≤ a ∧ a ≤ 1099511627776) (h2 : -1099511627776 ≤ b ∧ b ≤ 1099511627776) : wrap64 (a - b) = a - b := IntWalk.wrap64_in _ (by omega)
theorem wrap_next {a : Int} (h1 : -9223372036854775808 ≤ a) (h2 : a < 2147483647) : wrap64 (a + 1) = a + 1 := IntWalk.wrap64_in _ (by omega)
theorem LOwn.none_ (w : World) (B : Nat) : LOwn w B default ⟨none, 0, none, 0⟩ := ⟨World.ownsRow_nil _ _ _ _, World.ownsRow_nil _ _ _ _⟩

set_option maxRecDepth 100000 in
set_option maxHeartbeats 16000000 in
theorem plan_any (m : MV) (p q : LP) (now : Int) (w : World) (hs : MSm m) (hok : MOK w m p q) (hn : -1099511627776 ≤ now ∧ now ≤ 1099511627776) (ha : -1099511627776 ≤ m.at_ ∧ m.at_ ≤ 1099511627776)
    (hl : -9223372036854775808 ≤ m.last) (hq : -9223372036854775808 ≤ m.held.hd.seq) :
    Calls Try.prog 11 #[.agg (mineA m p q), .int .i64 now] w (Gives2 (planF m now).1 (planF m now).2 w) := by
  have HO0 := hide hok
  have HS := hide hs
  clear hok hs
  obtain ⟨⟨⟨age, kind, id, adv, seq, sum, long⟩, links, mem⟩, wanted, ⟨⟨age', kind', id', adv', seq', sum', long'⟩, links', mem'⟩, is, last, at_, ever⟩ := m
  obtain ⟨A, c, B, d⟩ := p
  obtain ⟨A', c', B', d'⟩ := q
  have HN1 := hide hn
  have HA1 := hide ha
  have HLA := hide hl
  have HSQ := hide hq
  dsimp only at HA1 HLA HSQ
  clear hn ha hl hq
  go_enter Try.func11, Try.ntmps11
  go_upto_region 1 with (fail)
  have hb0 := (Blk.new w 29 (mineA ⟨⟨⟨age, kind, id, adv, seq, sum, long⟩, links, mem⟩, wanted, ⟨⟨age', kind', id', adv', seq', sum', long'⟩, links', mem'⟩, is, last, at_, ever⟩ ⟨A, c, B, d⟩ ⟨A', c', B', d'⟩)).alloc (.cells lsa0 27)
  have HWS := hide (show ((w.alloc (.cells (mineA ⟨⟨⟨age, kind, id, adv, seq, sum, long⟩, links, mem⟩, wanted, ⟨⟨age', kind', id', adv', seq', sum', long'⟩, links', mem'⟩, is, last, at_, ever⟩ ⟨A, c, B, d⟩ ⟨A', c', B', d'⟩) 29)).alloc (.cells lsa0 27)).heap.size = w.heap.size + 2 by simp)
  have hr0 := Blk.new (w.alloc (.cells (mineA ⟨⟨⟨age, kind, id, adv, seq, sum, long⟩, links, mem⟩, wanted, ⟨⟨age', kind', id', adv', seq', sum', long'⟩, links', mem'⟩, is, last, at_, ever⟩ ⟨A, c, B, d⟩ ⟨A', c', B', d'⟩) 29)) 27 lsa0
  rw [show (w.alloc (.cells (mineA ⟨⟨⟨age, kind, id, adv, seq, sum, long⟩, links, mem⟩, wanted, ⟨⟨age', kind', id', adv', seq', sum', long'⟩, links', mem'⟩, is, last, at_, ever⟩ ⟨A, c, B, d⟩ ⟨A', c', B', d'⟩) 29)).heap.size = w.heap.size + 1 by simp] at hr0
  have hB0 := below0 (below_new w (.cells (mineA ⟨⟨⟨age, kind, id, adv, seq, sum, long⟩, links, mem⟩, wanted, ⟨⟨age', kind', id', adv', seq', sum', long'⟩, links', mem'⟩, is, last, at_, ever⟩ ⟨A, c, B, d⟩ ⟨A', c', B', d'⟩) 29)) (below_new _ (.cells lsa0 27))
  generalize (w.alloc (.cells (mineA ⟨⟨⟨age, kind, id, adv, seq, sum, long⟩, links, mem⟩, wanted, ⟨⟨age', kind', id', adv', seq', sum', long'⟩, links', mem'⟩, is, last, at_, ever⟩ ⟨A, c, B, d⟩ ⟨A', c', B', d'⟩) 29)).alloc (.cells lsa0 27) = W at hb0 hB0 HWS hr0 ⊢
  have HK := hide hb0
  have HR := hide hr0
  have HB := hide hB0
  have HO := hide (HO0.out.below hB0)
  clear hb0 hr0 hB0 HO0
  have HT := hide (show StructOf Try.prog 29 23 from ⟨_, Try.underlying29, by kernel_rfl⟩)
  have hi : (Try.prog.info? 27).map (·.size) = some 9 := by kernel_rfl
  have hs0 : lsa0.size = 9 ∧ lsa0.size = 9 ∧ lsa0.all (·.oneCell') = true := ⟨rfl, rfl, by simp [Value.oneCell']⟩

  cases wanted with
  | false =>
    cases is with
    | false =>
      have c0 : W.cell? ⟨w.heap.size, 0, none⟩ = some (.int .i64 age) := HK.out.cell 0
      have c1 : W.cell? ⟨w.heap.size, 1, none⟩ = some (.int .i64 kind) := HK.out.cell 1
      have c2 : W.cell? ⟨w.heap.size, 2, none⟩ = some (.int .i64 id) := HK.out.cell 2
      have c3 : W.cell? ⟨w.heap.size, 3, none⟩ = some (.int .i64 adv) := HK.out.cell 3
      have c4 : W.cell? ⟨w.heap.size, 4, none⟩ = some (.int .i64 seq) := HK.out.cell 4
      have c5 : W.cell? ⟨w.heap.size, 5, none⟩ = some (.int .i64 sum) := HK.out.cell 5
      have c6 : W.cell? ⟨w.heap.size, 6, none⟩ = some (.int .i64 long) := HK.out.cell 6
      have c7 : W.cell? ⟨w.heap.size, 7, none⟩ = some (.slice A links.length c) := HK.out.cell 7
      have c8 : W.cell? ⟨w.heap.size, 8, none⟩ = some (.slice B mem.length d) := HK.out.cell 8
      have c9 : W.cell? ⟨w.heap.size, 9, none⟩ = some (.bool false) := HK.out.cell 9
      have c10 : W.cell? ⟨w.heap.size, 10, none⟩ = some (.int .i64 age') := HK.out.cell 10
      have c11 : W.cell? ⟨w.heap.size, 11, none⟩ = some (.int .i64 kind') := HK.out.cell 11
      have c12 : W.cell? ⟨w.heap.size, 12, none⟩ = some (.int .i64 id') := HK.out.cell 12
      have c13 : W.cell? ⟨w.heap.size, 13, none⟩ = some (.int .i64 adv') := HK.out.cell 13
      have c14 : W.cell? ⟨w.heap.size, 14, none⟩ = some (.int .i64 seq') := HK.out.cell 14
      have c15 : W.cell? ⟨w.heap.size, 15, none⟩ = some (.int .i64 sum') := HK.out.cell 15
      have c16 : W.cell? ⟨w.heap.size, 16, none⟩ = some (.int .i64 long') := HK.out.cell 16
      have c17 : W.cell? ⟨w.heap.size, 17, none⟩ = some (.slice A' links'.length c') := HK.out.cell 17
      have c18 : W.cell? ⟨w.heap.size, 18, none⟩ = some (.slice B' mem'.length d') := HK.out.cell 18
      have c19 : W.cell? ⟨w.heap.size, 19, none⟩ = some (.bool false) := HK.out.cell 19
      have c20 : W.cell? ⟨w.heap.size, 20, none⟩ = some (.int .i64 last) := HK.out.cell 20
      have c21 : W.cell? ⟨w.heap.size, 21, none⟩ = some (.int .i64 at_) := HK.out.cell 21
      have c22 : W.cell? ⟨w.heap.size, 22, none⟩ = some (.bool ever) := HK.out.cell 22
      have HPF := hide (show planF ⟨⟨⟨age, kind, id, adv, seq, sum, long⟩, links, mem⟩, false, ⟨⟨age', kind', id', adv', seq', sum', long'⟩, links', mem'⟩, false, last, at_, ever⟩ now = (default, 0) by simp [planF, livesF])
      go_wp2_with (with_reducible refine wpList_store_at rfl 27 (.tmp 4) (.tmp 26) rfl (w.heap.size + 1) lsa0 9 rfl rfl 27 lsa0 HR.out hi hs0 ?_)
      have hkr := (HR.out).setRow_ lsa0
      refine bodyPost_ret (results_row_tmp (fn := Try.f11) rfl _ _ (w.heap.size + 1) 27 _ _ rfl hkr Try.underlying27 rfl hi) rfl ?_
      rw [HPF.out]
      exact gives2_end (l := default) (p := ⟨none, 0, none, 0⟩) (HB.out) rfl (Nat.le_refl _) (LOwn.none_ _ _) _
    | true =>
      by_cases h60 : age' = 60
      · subst h60
        have c0 : W.cell? ⟨w.heap.size, 0, none⟩ = some (.int .i64 age) := HK.out.cell 0
        have c1 : W.cell? ⟨w.heap.size, 1, none⟩ = some (.int .i64 kind) := HK.out.cell 1
        have c2 : W.cell? ⟨w.heap.size, 2, none⟩ = some (.int .i64 id) := HK.out.cell 2
        have c3 : W.cell? ⟨w.heap.size, 3, none⟩ = some (.int .i64 adv) := HK.out.cell 3
        have c4 : W.cell? ⟨w.heap.size, 4, none⟩ = some (.int .i64 seq) := HK.out.cell 4
        have c5 : W.cell? ⟨w.heap.size, 5, none⟩ = some (.int .i64 sum) := HK.out.cell 5
        have c6 : W.cell? ⟨w.heap.size, 6, none⟩ = some (.int .i64 long) := HK.out.cell 6
        have c7 : W.cell? ⟨w.heap.size, 7, none⟩ = some (.slice A links.length c) := HK.out.cell 7
        have c8 : W.cell? ⟨w.heap.size, 8, none⟩ = some (.slice B mem.length d) := HK.out.cell 8
        have c9 : W.cell? ⟨w.heap.size, 9, none⟩ = some (.bool false) := HK.out.cell 9
        have c10 : W.cell? ⟨w.heap.size, 10, none⟩ = some (.int .i64 60) := HK.out.cell 10
        have c11 : W.cell? ⟨w.heap.size, 11, none⟩ = some (.int .i64 kind') := HK.out.cell 11
        have c12 : W.cell? ⟨w.heap.size, 12, none⟩ = some (.int .i64 id') := HK.out.cell 12
        have c13 : W.cell? ⟨w.heap.size, 13, none⟩ = some (.int .i64 adv') := HK.out.cell 13
        have c14 : W.cell? ⟨w.heap.size, 14, none⟩ = some (.int .i64 seq') := HK.out.cell 14
        have c15 : W.cell? ⟨w.heap.size, 15, none⟩ = some (.int .i64 sum') := HK.out.cell 15
        have c16 : W.cell? ⟨w.heap.size, 16, none⟩ = some (.int .i64 long') := HK.out.cell 16
        have c17 : W.cell? ⟨w.heap.size, 17, none⟩ = some (.slice A' links'.length c') := HK.out.cell 17
        have c18 : W.cell? ⟨w.heap.size, 18, none⟩ = some (.slice B' mem'.length d') := HK.out.cell 18
        have c19 : W.cell? ⟨w.heap.size, 19, none⟩ = some (.bool true) := HK.out.cell 19
        have c20 : W.cell? ⟨w.heap.size, 20, none⟩ = some (.int .i64 last) := HK.out.cell 20
        have c21 : W.cell? ⟨w.heap.size, 21, none⟩ = some (.int .i64 at_) := HK.out.cell 21
        have c22 : W.cell? ⟨w.heap.size, 22, none⟩ = some (.bool ever) := HK.out.cell 22
        have HPF := hide (show planF ⟨⟨⟨age, kind, id, adv, seq, sum, long⟩, links, mem⟩, false, ⟨⟨60, kind', id', adv', seq', sum', long'⟩, links', mem'⟩, true, last, at_, ever⟩ now = (default, 0) by simp [planF, livesF])
        go_wp2_with (with_reducible refine wpList_store_at rfl 27 (.tmp 4) (.tmp 26) rfl (w.heap.size + 1) lsa0 9 rfl rfl 27 lsa0 HR.out hi hs0 ?_)
        have hkr := (HR.out).setRow_ lsa0
        refine bodyPost_ret (results_row_tmp (fn := Try.f11) rfl _ _ (w.heap.size + 1) 27 _ _ rfl hkr Try.underlying27 rfl hi) rfl ?_
        rw [HPF.out]
        exact gives2_end (l := default) (p := ⟨none, 0, none, 0⟩) (HB.out) rfl (Nat.le_refl _) (LOwn.none_ _ _) _
      · have h61 : (age' == 60) = false := by simpa using h60
        have h62 : (age' != 60) = true := by simpa using h60
        have c0 : W.cell? ⟨w.heap.size, 0, none⟩ = some (.int .i64 age) := HK.out.cell 0
        have c1 : W.cell? ⟨w.heap.size, 1, none⟩ = some (.int .i64 kind) := HK.out.cell 1
        have c2 : W.cell? ⟨w.heap.size, 2, none⟩ = some (.int .i64 id) := HK.out.cell 2
        have c3 : W.cell? ⟨w.heap.size, 3, none⟩ = some (.int .i64 adv) := HK.out.cell 3
        have c4 : W.cell? ⟨w.heap.size, 4, none⟩ = some (.int .i64 seq) := HK.out.cell 4
        have c5 : W.cell? ⟨w.heap.size, 5, none⟩ = some (.int .i64 sum) := HK.out.cell 5
        have c6 : W.cell? ⟨w.heap.size, 6, none⟩ = some (.int .i64 long) := HK.out.cell 6
        have c7 : W.cell? ⟨w.heap.size, 7, none⟩ = some (.slice A links.length c) := HK.out.cell 7
        have c8 : W.cell? ⟨w.heap.size, 8, none⟩ = some (.slice B mem.length d) := HK.out.cell 8
        have c9 : W.cell? ⟨w.heap.size, 9, none⟩ = some (.bool false) := HK.out.cell 9
        have c10 : W.cell? ⟨w.heap.size, 10, none⟩ = some (.int .i64 age') := HK.out.cell 10
        have c11 : W.cell? ⟨w.heap.size, 11, none⟩ = some (.int .i64 kind') := HK.out.cell 11
        have c12 : W.cell? ⟨w.heap.size, 12, none⟩ = some (.int .i64 id') := HK.out.cell 12
        have c13 : W.cell? ⟨w.heap.size, 13, none⟩ = some (.int .i64 adv') := HK.out.cell 13
        have c14 : W.cell? ⟨w.heap.size, 14, none⟩ = some (.int .i64 seq') := HK.out.cell 14
        have c15 : W.cell? ⟨w.heap.size, 15, none⟩ = some (.int .i64 sum') := HK.out.cell 15
        have c16 : W.cell? ⟨w.heap.size, 16, none⟩ = some (.int .i64 long') := HK.out.cell 16
        have c17 : W.cell? ⟨w.heap.size, 17, none⟩ = some (.slice A' links'.length c') := HK.out.cell 17
        have c18 : W.cell? ⟨w.heap.size, 18, none⟩ = some (.slice B' mem'.length d') := HK.out.cell 18
        have c19 : W.cell? ⟨w.heap.size, 19, none⟩ = some (.bool true) := HK.out.cell 19
        have c20 : W.cell? ⟨w.heap.size, 20, none⟩ = some (.int .i64 last) := HK.out.cell 20
        have c21 : W.cell? ⟨w.heap.size, 21, none⟩ = some (.int .i64 at_) := HK.out.cell 21
        have c22 : W.cell? ⟨w.heap.size, 22, none⟩ = some (.bool ever) := HK.out.cell 22
        have HPF := hide (show planF ⟨⟨⟨age, kind, id, adv, seq, sum, long⟩, links, mem⟩, false, ⟨⟨age', kind', id', adv', seq', sum', long'⟩, links', mem'⟩, true, last, at_, ever⟩ now = ({ (⟨⟨⟨age, kind, id, adv, seq, sum, long⟩, links, mem⟩, false, ⟨⟨age', kind', id', adv', seq', sum', long'⟩, links', mem'⟩, true, last, at_, ever⟩ : MV).held with hd := { (⟨⟨⟨age, kind, id, adv, seq, sum, long⟩, links, mem⟩, false, ⟨⟨age', kind', id', adv', seq', sum', long'⟩, links', mem'⟩, true, last, at_, ever⟩ : MV).held.hd with age := 60 } }, 2) by simp [planF, livesF, h60, flushF])
        have hca := flushed_any ⟨⟨⟨age, kind, id, adv, seq, sum, long⟩, links, mem⟩, false, ⟨⟨age', kind', id', adv', seq', sum', long'⟩, links', mem'⟩, true, last, at_, ever⟩ ⟨A, c, B, d⟩ ⟨A', c', B', d'⟩ W HS.out (HO.out)
        obtain ⟨h2, hz2⟩ : ∃ h2, ({ (⟨⟨⟨age, kind, id, adv, seq, sum, long⟩, links, mem⟩, false, ⟨⟨age', kind', id', adv', seq', sum', long'⟩, links', mem'⟩, true, last, at_, ever⟩ : MV).held with hd := { (⟨⟨⟨age, kind, id, adv, seq, sum, long⟩, links, mem⟩, false, ⟨⟨age', kind', id', adv', seq', sum', long'⟩, links', mem'⟩, true, last, at_, ever⟩ : MV).held.hd with age := 60 } }) = ⟨h2, links', mem'⟩ := ⟨_, rfl⟩
        obtain ⟨age2, kind2, id2, adv2, seq2, sum2, long2⟩ := h2
        rw [hz2] at HPF
        rw [hz2] at hca
        have HCA := hide hca
        clear hca hz2
        clear h60
        have HTN := hide (show (mineA ⟨⟨⟨age, kind, id, adv, seq, sum, long⟩, links, mem⟩, false, ⟨⟨age', kind', id', adv', seq', sum', long'⟩, links', mem'⟩, true, last, at_, ever⟩ ⟨A, c, B, d⟩ ⟨A', c', B', d'⟩).size = 23 from rfl)
        go_wp2_with (with_reducible refine wpList_load_at rfl 29 (.tmp 2) rfl w.heap.size rfl 29 _ 23 HK.out HT.out HTN.out ?_)
        refine HCA.out.mono ?_
        rintro r w3 ⟨⟨A2, k2, B2, d2⟩, rfl, ho2, hb2⟩
        dsimp only
        have HR3 := hide ((HR.out).below hb2 (HR.out).lt)
        have HB3 := hide (below0 (HB.out) hb2)
        have HO3 := hide (ho2.mono (show w.heap.size + 2 ≤ _ by have h1 := HWS.out; have h2 := (Below.refl W.heap.size W).size; omega))
        have hs : lsa0.size = 9 ∧ (#[.int .i64 age2, .int .i64 kind2, .int .i64 id2, .int .i64 adv2, .int .i64 seq2, .int .i64 sum2, .int .i64 long2, .slice A2 links'.length k2, .slice B2 mem'.length d2] : Array Value).size = 9 ∧ (#[.int .i64 age2, .int .i64 kind2, .int .i64 id2, .int .i64 adv2, .int .i64 seq2, .int .i64 sum2, .int .i64 long2, .slice A2 links'.length k2, .slice B2 mem'.length d2] : Array Value).all (·.oneCell') = true := ⟨rfl, rfl, by simp [Value.oneCell']⟩
        clear hb2 ho2
        clear c0 c1 c2 c3 c4 c5 c6 c7 c8 c9 c10 c11 c12 c13 c14 c15 c16 c17 c18 c19 c20 c21 c22
        go_wp2_with (with_reducible refine wpList_store_at rfl 27 (.tmp 4) (.tmp 24) rfl (w.heap.size + 1) #[.int .i64 age2, .int .i64 kind2, .int .i64 id2, .int .i64 adv2, .int .i64 seq2, .int .i64 sum2, .int .i64 long2, .slice A2 links'.length k2, .slice B2 mem'.length d2] 9 rfl rfl 27 lsa0 HR3.out hi hs ?_)
        have hkr := HR3.out.setRow_ #[.int .i64 age2, .int .i64 kind2, .int .i64 id2, .int .i64 adv2, .int .i64 seq2, .int .i64 sum2, .int .i64 long2, .slice A2 links'.length k2, .slice B2 mem'.length d2]
        refine bodyPost_ret (results_row_tmp (fn := Try.f11) rfl _ _ (w.heap.size + 1) 27 _ _ rfl hkr Try.underlying27 rfl hi) rfl ?_
        dsimp only
        rw [HPF.out]
        exact gives2_end (l := ⟨⟨age2, kind2, id2, adv2, seq2, sum2, long2⟩, links', mem'⟩) (p := ⟨A2, k2, B2, d2⟩) HB3.out rfl (Nat.le_refl _) HO3.out _
  | true =>
    cases is with
    | false =>
      cases ever with
      | false =>
        have hnu := number_any ⟨⟨⟨age, kind, id, adv, seq, sum, long⟩, links, mem⟩, true, ⟨⟨age', kind', id', adv', seq', sum', long'⟩, links', mem'⟩, false, last, at_, false⟩ ⟨A, c, B, d⟩ ⟨A', c', B', d'⟩ W
        have HNU := hide (show numberF ⟨⟨⟨age, kind, id, adv, seq, sum, long⟩, links, mem⟩, true, ⟨⟨age', kind', id', adv', seq', sum', long'⟩, links', mem'⟩, false, last, at_, false⟩ = (last, false) by rfl)
        rw [HNU.out] at hnu
        have HRS := hide (show planF ⟨⟨⟨age, kind, id, adv, seq, sum, long⟩, links, mem⟩, true, ⟨⟨age', kind', id', adv', seq', sum', long'⟩, links', mem'⟩, false, last, at_, false⟩ now = restF ⟨⟨⟨age, kind, id, adv, seq, sum, long⟩, links, mem⟩, true, ⟨⟨age', kind', id', adv', seq', sum', long'⟩, links', mem'⟩, false, last, at_, false⟩ from by unfold planF; dsimp only; rw [if_neg (by simp), if_neg (by simp), if_neg (by simp)])
        have HN := hide hnu
        clear hnu
        have HTN := hide (show (mineA ⟨⟨⟨age, kind, id, adv, seq, sum, long⟩, links, mem⟩, true, ⟨⟨age', kind', id', adv', seq', sum', long'⟩, links', mem'⟩, false, last, at_, false⟩ ⟨A, c, B, d⟩ ⟨A', c', B', d'⟩).size = 23 from rfl)
        have c0 : W.cell? ⟨w.heap.size, 0, none⟩ = some (.int .i64 age) := HK.out.cell 0
        have c1 : W.cell? ⟨w.heap.size, 1, none⟩ = some (.int .i64 kind) := HK.out.cell 1
        have c2 : W.cell? ⟨w.heap.size, 2, none⟩ = some (.int .i64 id) := HK.out.cell 2
        have c3 : W.cell? ⟨w.heap.size, 3, none⟩ = some (.int .i64 adv) := HK.out.cell 3
        have c4 : W.cell? ⟨w.heap.size, 4, none⟩ = some (.int .i64 seq) := HK.out.cell 4
        have c5 : W.cell? ⟨w.heap.size, 5, none⟩ = some (.int .i64 sum) := HK.out.cell 5
        have c6 : W.cell? ⟨w.heap.size, 6, none⟩ = some (.int .i64 long) := HK.out.cell 6
        have c7 : W.cell? ⟨w.heap.size, 7, none⟩ = some (.slice A links.length c) := HK.out.cell 7
        have c8 : W.cell? ⟨w.heap.size, 8, none⟩ = some (.slice B mem.length d) := HK.out.cell 8
        have c9 : W.cell? ⟨w.heap.size, 9, none⟩ = some (.bool true) := HK.out.cell 9
        have c10 : W.cell? ⟨w.heap.size, 10, none⟩ = some (.int .i64 age') := HK.out.cell 10
        have c11 : W.cell? ⟨w.heap.size, 11, none⟩ = some (.int .i64 kind') := HK.out.cell 11
        have c12 : W.cell? ⟨w.heap.size, 12, none⟩ = some (.int .i64 id') := HK.out.cell 12
        have c13 : W.cell? ⟨w.heap.size, 13, none⟩ = some (.int .i64 adv') := HK.out.cell 13
        have c14 : W.cell? ⟨w.heap.size, 14, none⟩ = some (.int .i64 seq') := HK.out.cell 14
        have c15 : W.cell? ⟨w.heap.size, 15, none⟩ = some (.int .i64 sum') := HK.out.cell 15
        have c16 : W.cell? ⟨w.heap.size, 16, none⟩ = some (.int .i64 long') := HK.out.cell 16
        have c17 : W.cell? ⟨w.heap.size, 17, none⟩ = some (.slice A' links'.length c') := HK.out.cell 17
        have c18 : W.cell? ⟨w.heap.size, 18, none⟩ = some (.slice B' mem'.length d') := HK.out.cell 18
        have c19 : W.cell? ⟨w.heap.size, 19, none⟩ = some (.bool false) := HK.out.cell 19
        have c20 : W.cell? ⟨w.heap.size, 20, none⟩ = some (.int .i64 last) := HK.out.cell 20
        have c21 : W.cell? ⟨w.heap.size, 21, none⟩ = some (.int .i64 at_) := HK.out.cell 21
        have c22 : W.cell? ⟨w.heap.size, 22, none⟩ = some (.bool false) := HK.out.cell 22
        go_wp2_with (with_reducible refine wpList_load_at rfl 29 (.tmp 2) rfl w.heap.size rfl 29 _ 23 HK.out HT.out HTN.out ?_)
        refine HN.out.mono ?_
        rintro r w1 ⟨rfl, hb1⟩
        clear c0 c1 c2 c3 c4 c5 c6 c7 c8 c9 c10 c11 c12 c13 c14 c15 c16 c17 c18 c19 c20 c21 c22
        have HB1 := hide (below0 HB.out hb1)
        have HR1 := hide ((HR.out).below hb1 (HR.out).lt)
        have HK1 := hide ((HK.out).below hb1 (HK.out).lt)
        have HM1 := hide ((HO.out).below hb1)
        have HBW := hide (hb1)
        clear hb1
        have c0 : w1.cell? ⟨w.heap.size, 0, none⟩ = some (.int .i64 age) := HK1.out.cell 0
        have c1 : w1.cell? ⟨w.heap.size, 1, none⟩ = some (.int .i64 kind) := HK1.out.cell 1
        have c2 : w1.cell? ⟨w.heap.size, 2, none⟩ = some (.int .i64 id) := HK1.out.cell 2
        have c3 : w1.cell? ⟨w.heap.size, 3, none⟩ = some (.int .i64 adv) := HK1.out.cell 3
        have c4 : w1.cell? ⟨w.heap.size, 4, none⟩ = some (.int .i64 seq) := HK1.out.cell 4
        have c5 : w1.cell? ⟨w.heap.size, 5, none⟩ = some (.int .i64 sum) := HK1.out.cell 5
        have c6 : w1.cell? ⟨w.heap.size, 6, none⟩ = some (.int .i64 long) := HK1.out.cell 6
        have c7 : w1.cell? ⟨w.heap.size, 7, none⟩ = some (.slice A links.length c) := HK1.out.cell 7
        have c8 : w1.cell? ⟨w.heap.size, 8, none⟩ = some (.slice B mem.length d) := HK1.out.cell 8
        have c9 : w1.cell? ⟨w.heap.size, 9, none⟩ = some (.bool true) := HK1.out.cell 9
        have c10 : w1.cell? ⟨w.heap.size, 10, none⟩ = some (.int .i64 age') := HK1.out.cell 10
        have c11 : w1.cell? ⟨w.heap.size, 11, none⟩ = some (.int .i64 kind') := HK1.out.cell 11
        have c12 : w1.cell? ⟨w.heap.size, 12, none⟩ = some (.int .i64 id') := HK1.out.cell 12
        have c13 : w1.cell? ⟨w.heap.size, 13, none⟩ = some (.int .i64 adv') := HK1.out.cell 13
        have c14 : w1.cell? ⟨w.heap.size, 14, none⟩ = some (.int .i64 seq') := HK1.out.cell 14
        have c15 : w1.cell? ⟨w.heap.size, 15, none⟩ = some (.int .i64 sum') := HK1.out.cell 15
        have c16 : w1.cell? ⟨w.heap.size, 16, none⟩ = some (.int .i64 long') := HK1.out.cell 16
        have c17 : w1.cell? ⟨w.heap.size, 17, none⟩ = some (.slice A' links'.length c') := HK1.out.cell 17
        have c18 : w1.cell? ⟨w.heap.size, 18, none⟩ = some (.slice B' mem'.length d') := HK1.out.cell 18
        have c19 : w1.cell? ⟨w.heap.size, 19, none⟩ = some (.bool false) := HK1.out.cell 19
        have c20 : w1.cell? ⟨w.heap.size, 20, none⟩ = some (.int .i64 last) := HK1.out.cell 20
        have c21 : w1.cell? ⟨w.heap.size, 21, none⟩ = some (.int .i64 at_) := HK1.out.cell 21
        have c22 : w1.cell? ⟨w.heap.size, 22, none⟩ = some (.bool false) := HK1.out.cell 22
        have HPF := hide (show planF ⟨⟨⟨age, kind, id, adv, seq, sum, long⟩, links, mem⟩, true, ⟨⟨age', kind', id', adv', seq', sum', long'⟩, links', mem'⟩, false, last, at_, false⟩ now = (tellF ⟨⟨⟨age, kind, id, adv, seq, sum, long⟩, links, mem⟩, true, ⟨⟨age', kind', id', adv', seq', sum', long'⟩, links', mem'⟩, false, last, at_, false⟩ (-2147483647), 1) by (rw [HRS.out, restF, HNU.out]; simp))
        have hca := told_any ⟨⟨⟨age, kind, id, adv, seq, sum, long⟩, links, mem⟩, true, ⟨⟨age', kind', id', adv', seq', sum', long'⟩, links', mem'⟩, false, last, at_, false⟩ ⟨A, c, B, d⟩ ⟨A', c', B', d'⟩ (-2147483647) w1 HS.out (HM1.out)
        obtain ⟨h2, hz2⟩ : ∃ h2, (tellF ⟨⟨⟨age, kind, id, adv, seq, sum, long⟩, links, mem⟩, true, ⟨⟨age', kind', id', adv', seq', sum', long'⟩, links', mem'⟩, false, last, at_, false⟩ (-2147483647)) = ⟨h2, links, mem⟩ := sealF_form _
        obtain ⟨age2, kind2, id2, adv2, seq2, sum2, long2⟩ := h2
        rw [hz2] at HPF
        unfold tellF at hz2
        rw [hz2] at hca
        have HCA := hide hca
        clear hca hz2
        clear HNU HRS
        have HTN := hide (show (mineA ⟨⟨⟨age, kind, id, adv, seq, sum, long⟩, links, mem⟩, true, ⟨⟨age', kind', id', adv', seq', sum', long'⟩, links', mem'⟩, false, last, at_, false⟩ ⟨A, c, B, d⟩ ⟨A', c', B', d'⟩).size = 23 from rfl)
        go_wp2_with (with_reducible refine wpList_load_at rfl 29 (.tmp 2) rfl w.heap.size rfl 29 _ 23 HK1.out HT.out HTN.out ?_)
        refine HCA.out.mono ?_
        rintro r w3 ⟨⟨A2, k2, B2, d2⟩, rfl, ho2, hb2⟩
        dsimp only
        have HR3 := hide ((HR1.out).below hb2 (HR1.out).lt)
        have HB3 := hide (below0 (HB1.out) hb2)
        have HO3 := hide (ho2.mono (show w.heap.size + 2 ≤ _ by have h1 := HWS.out; have h2 := (HBW.out).size; omega))
        have hs : lsa0.size = 9 ∧ (#[.int .i64 age2, .int .i64 kind2, .int .i64 id2, .int .i64 adv2, .int .i64 seq2, .int .i64 sum2, .int .i64 long2, .slice A2 links.length k2, .slice B2 mem.length d2] : Array Value).size = 9 ∧ (#[.int .i64 age2, .int .i64 kind2, .int .i64 id2, .int .i64 adv2, .int .i64 seq2, .int .i64 sum2, .int .i64 long2, .slice A2 links.length k2, .slice B2 mem.length d2] : Array Value).all (·.oneCell') = true := ⟨rfl, rfl, by simp [Value.oneCell']⟩
        clear hb2 ho2
        clear c0 c1 c2 c3 c4 c5 c6 c7 c8 c9 c10 c11 c12 c13 c14 c15 c16 c17 c18 c19 c20 c21 c22
        go_wp2_with (with_reducible refine wpList_store_at rfl 27 (.tmp 4) (.tmp 73) rfl (w.heap.size + 1) #[.int .i64 age2, .int .i64 kind2, .int .i64 id2, .int .i64 adv2, .int .i64 seq2, .int .i64 sum2, .int .i64 long2, .slice A2 links.length k2, .slice B2 mem.length d2] 9 rfl rfl 27 lsa0 HR3.out hi hs ?_)
        have hkr := HR3.out.setRow_ #[.int .i64 age2, .int .i64 kind2, .int .i64 id2, .int .i64 adv2, .int .i64 seq2, .int .i64 sum2, .int .i64 long2, .slice A2 links.length k2, .slice B2 mem.length d2]
        refine bodyPost_ret (results_row_tmp (fn := Try.f11) rfl _ _ (w.heap.size + 1) 27 _ _ rfl hkr Try.underlying27 rfl hi) rfl ?_
        dsimp only
        rw [HPF.out]
        exact gives2_end (l := ⟨⟨age2, kind2, id2, adv2, seq2, sum2, long2⟩, links, mem⟩) (p := ⟨A2, k2, B2, d2⟩) HB3.out rfl (Nat.le_refl _) HO3.out _
      | true =>
        have hw1 : wrap64 (now - at_) = now - at_ := wrap_sub HN1.out HA1.out
        have c0 : W.cell? ⟨w.heap.size, 0, none⟩ = some (.int .i64 age) := HK.out.cell 0
        have c1 : W.cell? ⟨w.heap.size, 1, none⟩ = some (.int .i64 kind) := HK.out.cell 1
        have c2 : W.cell? ⟨w.heap.size, 2, none⟩ = some (.int .i64 id) := HK.out.cell 2
        have c3 : W.cell? ⟨w.heap.size, 3, none⟩ = some (.int .i64 adv) := HK.out.cell 3
        have c4 : W.cell? ⟨w.heap.size, 4, none⟩ = some (.int .i64 seq) := HK.out.cell 4
        have c5 : W.cell? ⟨w.heap.size, 5, none⟩ = some (.int .i64 sum) := HK.out.cell 5
        have c6 : W.cell? ⟨w.heap.size, 6, none⟩ = some (.int .i64 long) := HK.out.cell 6
        have c7 : W.cell? ⟨w.heap.size, 7, none⟩ = some (.slice A links.length c) := HK.out.cell 7
        have c8 : W.cell? ⟨w.heap.size, 8, none⟩ = some (.slice B mem.length d) := HK.out.cell 8
        have c9 : W.cell? ⟨w.heap.size, 9, none⟩ = some (.bool true) := HK.out.cell 9
        have c10 : W.cell? ⟨w.heap.size, 10, none⟩ = some (.int .i64 age') := HK.out.cell 10
        have c11 : W.cell? ⟨w.heap.size, 11, none⟩ = some (.int .i64 kind') := HK.out.cell 11
        have c12 : W.cell? ⟨w.heap.size, 12, none⟩ = some (.int .i64 id') := HK.out.cell 12
        have c13 : W.cell? ⟨w.heap.size, 13, none⟩ = some (.int .i64 adv') := HK.out.cell 13
        have c14 : W.cell? ⟨w.heap.size, 14, none⟩ = some (.int .i64 seq') := HK.out.cell 14
        have c15 : W.cell? ⟨w.heap.size, 15, none⟩ = some (.int .i64 sum') := HK.out.cell 15
        have c16 : W.cell? ⟨w.heap.size, 16, none⟩ = some (.int .i64 long') := HK.out.cell 16
        have c17 : W.cell? ⟨w.heap.size, 17, none⟩ = some (.slice A' links'.length c') := HK.out.cell 17
        have c18 : W.cell? ⟨w.heap.size, 18, none⟩ = some (.slice B' mem'.length d') := HK.out.cell 18
        have c19 : W.cell? ⟨w.heap.size, 19, none⟩ = some (.bool false) := HK.out.cell 19
        have c20 : W.cell? ⟨w.heap.size, 20, none⟩ = some (.int .i64 last) := HK.out.cell 20
        have c21 : W.cell? ⟨w.heap.size, 21, none⟩ = some (.int .i64 at_) := HK.out.cell 21
        have c22 : W.cell? ⟨w.heap.size, 22, none⟩ = some (.bool true) := HK.out.cell 22
        by_cases h2 : now - at_ < 2
        · have h3 := decide_eq_true h2
          have HPF := hide (show planF ⟨⟨⟨age, kind, id, adv, seq, sum, long⟩, links, mem⟩, true, ⟨⟨age', kind', id', adv', seq', sum', long'⟩, links', mem'⟩, false, last, at_, true⟩ now = (default, 3) by (unfold planF; dsimp only; rw [if_neg (by simp), if_neg (by simp), if_pos (by simpa using h2)]))
          go_wp2_with (with_reducible refine wpList_store_at rfl 27 (.tmp 4) (.tmp 53) rfl (w.heap.size + 1) lsa0 9 rfl rfl 27 lsa0 HR.out hi hs0 ?_)
          have hkr := (HR.out).setRow_ lsa0
          refine bodyPost_ret (results_row_tmp (fn := Try.f11) rfl _ _ (w.heap.size + 1) 27 _ _ rfl hkr Try.underlying27 rfl hi) rfl ?_
          rw [HPF.out]
          exact gives2_end (l := default) (p := ⟨none, 0, none, 0⟩) (HB.out) rfl (Nat.le_refl _) (LOwn.none_ _ _) _
        · have h3 := decide_eq_false h2
          clear c0 c1 c2 c3 c4 c5 c6 c7 c8 c9 c10 c11 c12 c13 c14 c15 c16 c17 c18 c19 c20 c21 c22
          have hnu := number_any ⟨⟨⟨age, kind, id, adv, seq, sum, long⟩, links, mem⟩, true, ⟨⟨age', kind', id', adv', seq', sum', long'⟩, links', mem'⟩, false, last, at_, true⟩ ⟨A, c, B, d⟩ ⟨A', c', B', d'⟩ W
          have HNU := hide (show numberF ⟨⟨⟨age, kind, id, adv, seq, sum, long⟩, links, mem⟩, true, ⟨⟨age', kind', id', adv', seq', sum', long'⟩, links', mem'⟩, false, last, at_, true⟩ = (last, true) by rfl)
          rw [HNU.out] at hnu
          have HRS := hide (show planF ⟨⟨⟨age, kind, id, adv, seq, sum, long⟩, links, mem⟩, true, ⟨⟨age', kind', id', adv', seq', sum', long'⟩, links', mem'⟩, false, last, at_, true⟩ now = restF ⟨⟨⟨age, kind, id, adv, seq, sum, long⟩, links, mem⟩, true, ⟨⟨age', kind', id', adv', seq', sum', long'⟩, links', mem'⟩, false, last, at_, true⟩ from by unfold planF; dsimp only; rw [if_neg (by simp), if_neg (by simp), if_neg (by simpa using h2)])
          by_cases hL : 2147483647 ≤ last
          · have hL1 := decide_eq_true hL
            have HN := hide hnu
            clear hnu
            have HTN := hide (show (mineA ⟨⟨⟨age, kind, id, adv, seq, sum, long⟩, links, mem⟩, true, ⟨⟨age', kind', id', adv', seq', sum', long'⟩, links', mem'⟩, false, last, at_, true⟩ ⟨A, c, B, d⟩ ⟨A', c', B', d'⟩).size = 23 from rfl)
            have c0 : W.cell? ⟨w.heap.size, 0, none⟩ = some (.int .i64 age) := HK.out.cell 0
            have c1 : W.cell? ⟨w.heap.size, 1, none⟩ = some (.int .i64 kind) := HK.out.cell 1
            have c2 : W.cell? ⟨w.heap.size, 2, none⟩ = some (.int .i64 id) := HK.out.cell 2
            have c3 : W.cell? ⟨w.heap.size, 3, none⟩ = some (.int .i64 adv) := HK.out.cell 3
            have c4 : W.cell? ⟨w.heap.size, 4, none⟩ = some (.int .i64 seq) := HK.out.cell 4
            have c5 : W.cell? ⟨w.heap.size, 5, none⟩ = some (.int .i64 sum) := HK.out.cell 5
            have c6 : W.cell? ⟨w.heap.size, 6, none⟩ = some (.int .i64 long) := HK.out.cell 6
            have c7 : W.cell? ⟨w.heap.size, 7, none⟩ = some (.slice A links.length c) := HK.out.cell 7
            have c8 : W.cell? ⟨w.heap.size, 8, none⟩ = some (.slice B mem.length d) := HK.out.cell 8
            have c9 : W.cell? ⟨w.heap.size, 9, none⟩ = some (.bool true) := HK.out.cell 9
            have c10 : W.cell? ⟨w.heap.size, 10, none⟩ = some (.int .i64 age') := HK.out.cell 10
            have c11 : W.cell? ⟨w.heap.size, 11, none⟩ = some (.int .i64 kind') := HK.out.cell 11
            have c12 : W.cell? ⟨w.heap.size, 12, none⟩ = some (.int .i64 id') := HK.out.cell 12
            have c13 : W.cell? ⟨w.heap.size, 13, none⟩ = some (.int .i64 adv') := HK.out.cell 13
            have c14 : W.cell? ⟨w.heap.size, 14, none⟩ = some (.int .i64 seq') := HK.out.cell 14
            have c15 : W.cell? ⟨w.heap.size, 15, none⟩ = some (.int .i64 sum') := HK.out.cell 15
            have c16 : W.cell? ⟨w.heap.size, 16, none⟩ = some (.int .i64 long') := HK.out.cell 16
            have c17 : W.cell? ⟨w.heap.size, 17, none⟩ = some (.slice A' links'.length c') := HK.out.cell 17
            have c18 : W.cell? ⟨w.heap.size, 18, none⟩ = some (.slice B' mem'.length d') := HK.out.cell 18
            have c19 : W.cell? ⟨w.heap.size, 19, none⟩ = some (.bool false) := HK.out.cell 19
            have c20 : W.cell? ⟨w.heap.size, 20, none⟩ = some (.int .i64 last) := HK.out.cell 20
            have c21 : W.cell? ⟨w.heap.size, 21, none⟩ = some (.int .i64 at_) := HK.out.cell 21
            have c22 : W.cell? ⟨w.heap.size, 22, none⟩ = some (.bool true) := HK.out.cell 22
            go_wp2_with (with_reducible refine wpList_load_at rfl 29 (.tmp 2) rfl w.heap.size rfl 29 _ 23 HK.out HT.out HTN.out ?_)
            refine HN.out.mono ?_
            rintro r w1 ⟨rfl, hb1⟩
            clear c0 c1 c2 c3 c4 c5 c6 c7 c8 c9 c10 c11 c12 c13 c14 c15 c16 c17 c18 c19 c20 c21 c22
            have HB1 := hide (below0 HB.out hb1)
            have HR1 := hide ((HR.out).below hb1 (HR.out).lt)
            have HK1 := hide ((HK.out).below hb1 (HK.out).lt)
            have HM1 := hide ((HO.out).below hb1)
            have HBW := hide (hb1)
            clear hb1
            have c0 : w1.cell? ⟨w.heap.size, 0, none⟩ = some (.int .i64 age) := HK1.out.cell 0
            have c1 : w1.cell? ⟨w.heap.size, 1, none⟩ = some (.int .i64 kind) := HK1.out.cell 1
            have c2 : w1.cell? ⟨w.heap.size, 2, none⟩ = some (.int .i64 id) := HK1.out.cell 2
            have c3 : w1.cell? ⟨w.heap.size, 3, none⟩ = some (.int .i64 adv) := HK1.out.cell 3
            have c4 : w1.cell? ⟨w.heap.size, 4, none⟩ = some (.int .i64 seq) := HK1.out.cell 4
            have c5 : w1.cell? ⟨w.heap.size, 5, none⟩ = some (.int .i64 sum) := HK1.out.cell 5
            have c6 : w1.cell? ⟨w.heap.size, 6, none⟩ = some (.int .i64 long) := HK1.out.cell 6
            have c7 : w1.cell? ⟨w.heap.size, 7, none⟩ = some (.slice A links.length c) := HK1.out.cell 7
            have c8 : w1.cell? ⟨w.heap.size, 8, none⟩ = some (.slice B mem.length d) := HK1.out.cell 8
            have c9 : w1.cell? ⟨w.heap.size, 9, none⟩ = some (.bool true) := HK1.out.cell 9
            have c10 : w1.cell? ⟨w.heap.size, 10, none⟩ = some (.int .i64 age') := HK1.out.cell 10
            have c11 : w1.cell? ⟨w.heap.size, 11, none⟩ = some (.int .i64 kind') := HK1.out.cell 11
            have c12 : w1.cell? ⟨w.heap.size, 12, none⟩ = some (.int .i64 id') := HK1.out.cell 12
            have c13 : w1.cell? ⟨w.heap.size, 13, none⟩ = some (.int .i64 adv') := HK1.out.cell 13
            have c14 : w1.cell? ⟨w.heap.size, 14, none⟩ = some (.int .i64 seq') := HK1.out.cell 14
            have c15 : w1.cell? ⟨w.heap.size, 15, none⟩ = some (.int .i64 sum') := HK1.out.cell 15
            have c16 : w1.cell? ⟨w.heap.size, 16, none⟩ = some (.int .i64 long') := HK1.out.cell 16
            have c17 : w1.cell? ⟨w.heap.size, 17, none⟩ = some (.slice A' links'.length c') := HK1.out.cell 17
            have c18 : w1.cell? ⟨w.heap.size, 18, none⟩ = some (.slice B' mem'.length d') := HK1.out.cell 18
            have c19 : w1.cell? ⟨w.heap.size, 19, none⟩ = some (.bool false) := HK1.out.cell 19
            have c20 : w1.cell? ⟨w.heap.size, 20, none⟩ = some (.int .i64 last) := HK1.out.cell 20
            have c21 : w1.cell? ⟨w.heap.size, 21, none⟩ = some (.int .i64 at_) := HK1.out.cell 21
            have c22 : w1.cell? ⟨w.heap.size, 22, none⟩ = some (.bool true) := HK1.out.cell 22
            have HPF := hide (show planF ⟨⟨⟨age, kind, id, adv, seq, sum, long⟩, links, mem⟩, true, ⟨⟨age', kind', id', adv', seq', sum', long'⟩, links', mem'⟩, false, last, at_, true⟩ now = (tellF ⟨⟨⟨age, kind, id, adv, seq, sum, long⟩, links, mem⟩, true, ⟨⟨age', kind', id', adv', seq', sum', long'⟩, links', mem'⟩, false, last, at_, true⟩ (-2147483647), 1) by (rw [HRS.out, restF, HNU.out, hL1]; simp))
            have hca := told_any ⟨⟨⟨age, kind, id, adv, seq, sum, long⟩, links, mem⟩, true, ⟨⟨age', kind', id', adv', seq', sum', long'⟩, links', mem'⟩, false, last, at_, true⟩ ⟨A, c, B, d⟩ ⟨A', c', B', d'⟩ (-2147483647) w1 HS.out (HM1.out)
            obtain ⟨h2, hz2⟩ : ∃ h2, (tellF ⟨⟨⟨age, kind, id, adv, seq, sum, long⟩, links, mem⟩, true, ⟨⟨age', kind', id', adv', seq', sum', long'⟩, links', mem'⟩, false, last, at_, true⟩ (-2147483647)) = ⟨h2, links, mem⟩ := sealF_form _
            obtain ⟨age2, kind2, id2, adv2, seq2, sum2, long2⟩ := h2
            rw [hz2] at HPF
            unfold tellF at hz2
            rw [hz2] at hca
            have HCA := hide hca
            clear hca hz2
            clear HNU HRS
            have HTN := hide (show (mineA ⟨⟨⟨age, kind, id, adv, seq, sum, long⟩, links, mem⟩, true, ⟨⟨age', kind', id', adv', seq', sum', long'⟩, links', mem'⟩, false, last, at_, true⟩ ⟨A, c, B, d⟩ ⟨A', c', B', d'⟩).size = 23 from rfl)
            go_wp2_with (with_reducible refine wpList_load_at rfl 29 (.tmp 2) rfl w.heap.size rfl 29 _ 23 HK1.out HT.out HTN.out ?_)
            refine HCA.out.mono ?_
            rintro r w3 ⟨⟨A2, k2, B2, d2⟩, rfl, ho2, hb2⟩
            dsimp only
            have HR3 := hide ((HR1.out).below hb2 (HR1.out).lt)
            have HB3 := hide (below0 (HB1.out) hb2)
            have HO3 := hide (ho2.mono (show w.heap.size + 2 ≤ _ by have h1 := HWS.out; have h2 := (HBW.out).size; omega))
            have hs : lsa0.size = 9 ∧ (#[.int .i64 age2, .int .i64 kind2, .int .i64 id2, .int .i64 adv2, .int .i64 seq2, .int .i64 sum2, .int .i64 long2, .slice A2 links.length k2, .slice B2 mem.length d2] : Array Value).size = 9 ∧ (#[.int .i64 age2, .int .i64 kind2, .int .i64 id2, .int .i64 adv2, .int .i64 seq2, .int .i64 sum2, .int .i64 long2, .slice A2 links.length k2, .slice B2 mem.length d2] : Array Value).all (·.oneCell') = true := ⟨rfl, rfl, by simp [Value.oneCell']⟩
            clear hb2 ho2
            clear c0 c1 c2 c3 c4 c5 c6 c7 c8 c9 c10 c11 c12 c13 c14 c15 c16 c17 c18 c19 c20 c21 c22
            go_wp2_with (with_reducible refine wpList_store_at rfl 27 (.tmp 4) (.tmp 73) rfl (w.heap.size + 1) #[.int .i64 age2, .int .i64 kind2, .int .i64 id2, .int .i64 adv2, .int .i64 seq2, .int .i64 sum2, .int .i64 long2, .slice A2 links.length k2, .slice B2 mem.length d2] 9 rfl rfl 27 lsa0 HR3.out hi hs ?_)
            have hkr := HR3.out.setRow_ #[.int .i64 age2, .int .i64 kind2, .int .i64 id2, .int .i64 adv2, .int .i64 seq2, .int .i64 sum2, .int .i64 long2, .slice A2 links.length k2, .slice B2 mem.length d2]
            refine bodyPost_ret (results_row_tmp (fn := Try.f11) rfl _ _ (w.heap.size + 1) 27 _ _ rfl hkr Try.underlying27 rfl hi) rfl ?_
            dsimp only
            rw [HPF.out]
            exact gives2_end (l := ⟨⟨age2, kind2, id2, adv2, seq2, sum2, long2⟩, links, mem⟩) (p := ⟨A2, k2, B2, d2⟩) HB3.out rfl (Nat.le_refl _) HO3.out _
          · have hL1 := decide_eq_false hL
            have hL2 : last < 2147483647 := by omega
            have hL3 := decide_eq_true hL2
            have HN := hide hnu
            clear hnu
            have HTN := hide (show (mineA ⟨⟨⟨age, kind, id, adv, seq, sum, long⟩, links, mem⟩, true, ⟨⟨age', kind', id', adv', seq', sum', long'⟩, links', mem'⟩, false, last, at_, true⟩ ⟨A, c, B, d⟩ ⟨A', c', B', d'⟩).size = 23 from rfl)
            have c0 : W.cell? ⟨w.heap.size, 0, none⟩ = some (.int .i64 age) := HK.out.cell 0
            have c1 : W.cell? ⟨w.heap.size, 1, none⟩ = some (.int .i64 kind) := HK.out.cell 1
            have c2 : W.cell? ⟨w.heap.size, 2, none⟩ = some (.int .i64 id) := HK.out.cell 2
            have c3 : W.cell? ⟨w.heap.size, 3, none⟩ = some (.int .i64 adv) := HK.out.cell 3
            have c4 : W.cell? ⟨w.heap.size, 4, none⟩ = some (.int .i64 seq) := HK.out.cell 4
            have c5 : W.cell? ⟨w.heap.size, 5, none⟩ = some (.int .i64 sum) := HK.out.cell 5
            have c6 : W.cell? ⟨w.heap.size, 6, none⟩ = some (.int .i64 long) := HK.out.cell 6
            have c7 : W.cell? ⟨w.heap.size, 7, none⟩ = some (.slice A links.length c) := HK.out.cell 7
            have c8 : W.cell? ⟨w.heap.size, 8, none⟩ = some (.slice B mem.length d) := HK.out.cell 8
            have c9 : W.cell? ⟨w.heap.size, 9, none⟩ = some (.bool true) := HK.out.cell 9
            have c10 : W.cell? ⟨w.heap.size, 10, none⟩ = some (.int .i64 age') := HK.out.cell 10
            have c11 : W.cell? ⟨w.heap.size, 11, none⟩ = some (.int .i64 kind') := HK.out.cell 11
            have c12 : W.cell? ⟨w.heap.size, 12, none⟩ = some (.int .i64 id') := HK.out.cell 12
            have c13 : W.cell? ⟨w.heap.size, 13, none⟩ = some (.int .i64 adv') := HK.out.cell 13
            have c14 : W.cell? ⟨w.heap.size, 14, none⟩ = some (.int .i64 seq') := HK.out.cell 14
            have c15 : W.cell? ⟨w.heap.size, 15, none⟩ = some (.int .i64 sum') := HK.out.cell 15
            have c16 : W.cell? ⟨w.heap.size, 16, none⟩ = some (.int .i64 long') := HK.out.cell 16
            have c17 : W.cell? ⟨w.heap.size, 17, none⟩ = some (.slice A' links'.length c') := HK.out.cell 17
            have c18 : W.cell? ⟨w.heap.size, 18, none⟩ = some (.slice B' mem'.length d') := HK.out.cell 18
            have c19 : W.cell? ⟨w.heap.size, 19, none⟩ = some (.bool false) := HK.out.cell 19
            have c20 : W.cell? ⟨w.heap.size, 20, none⟩ = some (.int .i64 last) := HK.out.cell 20
            have c21 : W.cell? ⟨w.heap.size, 21, none⟩ = some (.int .i64 at_) := HK.out.cell 21
            have c22 : W.cell? ⟨w.heap.size, 22, none⟩ = some (.bool true) := HK.out.cell 22
            go_wp2_with (with_reducible refine wpList_load_at rfl 29 (.tmp 2) rfl w.heap.size rfl 29 _ 23 HK.out HT.out HTN.out ?_)
            refine HN.out.mono ?_
            rintro r w1 ⟨rfl, hb1⟩
            clear c0 c1 c2 c3 c4 c5 c6 c7 c8 c9 c10 c11 c12 c13 c14 c15 c16 c17 c18 c19 c20 c21 c22
            have HB1 := hide (below0 HB.out hb1)
            have HR1 := hide ((HR.out).below hb1 (HR.out).lt)
            have HK1 := hide ((HK.out).below hb1 (HK.out).lt)
            have HM1 := hide ((HO.out).below hb1)
            have HBW := hide (hb1)
            clear hb1
            have c0 : w1.cell? ⟨w.heap.size, 0, none⟩ = some (.int .i64 age) := HK1.out.cell 0
            have c1 : w1.cell? ⟨w.heap.size, 1, none⟩ = some (.int .i64 kind) := HK1.out.cell 1
            have c2 : w1.cell? ⟨w.heap.size, 2, none⟩ = some (.int .i64 id) := HK1.out.cell 2
            have c3 : w1.cell? ⟨w.heap.size, 3, none⟩ = some (.int .i64 adv) := HK1.out.cell 3
            have c4 : w1.cell? ⟨w.heap.size, 4, none⟩ = some (.int .i64 seq) := HK1.out.cell 4
            have c5 : w1.cell? ⟨w.heap.size, 5, none⟩ = some (.int .i64 sum) := HK1.out.cell 5
            have c6 : w1.cell? ⟨w.heap.size, 6, none⟩ = some (.int .i64 long) := HK1.out.cell 6
            have c7 : w1.cell? ⟨w.heap.size, 7, none⟩ = some (.slice A links.length c) := HK1.out.cell 7
            have c8 : w1.cell? ⟨w.heap.size, 8, none⟩ = some (.slice B mem.length d) := HK1.out.cell 8
            have c9 : w1.cell? ⟨w.heap.size, 9, none⟩ = some (.bool true) := HK1.out.cell 9
            have c10 : w1.cell? ⟨w.heap.size, 10, none⟩ = some (.int .i64 age') := HK1.out.cell 10
            have c11 : w1.cell? ⟨w.heap.size, 11, none⟩ = some (.int .i64 kind') := HK1.out.cell 11
            have c12 : w1.cell? ⟨w.heap.size, 12, none⟩ = some (.int .i64 id') := HK1.out.cell 12
            have c13 : w1.cell? ⟨w.heap.size, 13, none⟩ = some (.int .i64 adv') := HK1.out.cell 13
            have c14 : w1.cell? ⟨w.heap.size, 14, none⟩ = some (.int .i64 seq') := HK1.out.cell 14
            have c15 : w1.cell? ⟨w.heap.size, 15, none⟩ = some (.int .i64 sum') := HK1.out.cell 15
            have c16 : w1.cell? ⟨w.heap.size, 16, none⟩ = some (.int .i64 long') := HK1.out.cell 16
            have c17 : w1.cell? ⟨w.heap.size, 17, none⟩ = some (.slice A' links'.length c') := HK1.out.cell 17
            have c18 : w1.cell? ⟨w.heap.size, 18, none⟩ = some (.slice B' mem'.length d') := HK1.out.cell 18
            have c19 : w1.cell? ⟨w.heap.size, 19, none⟩ = some (.bool false) := HK1.out.cell 19
            have c20 : w1.cell? ⟨w.heap.size, 20, none⟩ = some (.int .i64 last) := HK1.out.cell 20
            have c21 : w1.cell? ⟨w.heap.size, 21, none⟩ = some (.int .i64 at_) := HK1.out.cell 21
            have c22 : w1.cell? ⟨w.heap.size, 22, none⟩ = some (.bool true) := HK1.out.cell 22
            have HPF := hide (show planF ⟨⟨⟨age, kind, id, adv, seq, sum, long⟩, links, mem⟩, true, ⟨⟨age', kind', id', adv', seq', sum', long'⟩, links', mem'⟩, false, last, at_, true⟩ now = (tellF ⟨⟨⟨age, kind, id, adv, seq, sum, long⟩, links, mem⟩, true, ⟨⟨age', kind', id', adv', seq', sum', long'⟩, links', mem'⟩, false, last, at_, true⟩ (last + 1), 1) by (rw [HRS.out, restF, HNU.out, hL1]; simp [hL2]))
            have hca := told_any ⟨⟨⟨age, kind, id, adv, seq, sum, long⟩, links, mem⟩, true, ⟨⟨age', kind', id', adv', seq', sum', long'⟩, links', mem'⟩, false, last, at_, true⟩ ⟨A, c, B, d⟩ ⟨A', c', B', d'⟩ (last + 1) w1 HS.out (HM1.out)
            obtain ⟨h2, hz2⟩ : ∃ h2, (tellF ⟨⟨⟨age, kind, id, adv, seq, sum, long⟩, links, mem⟩, true, ⟨⟨age', kind', id', adv', seq', sum', long'⟩, links', mem'⟩, false, last, at_, true⟩ (last + 1)) = ⟨h2, links, mem⟩ := sealF_form _
            obtain ⟨age2, kind2, id2, adv2, seq2, sum2, long2⟩ := h2
            rw [hz2] at HPF
            unfold tellF at hz2
            rw [hz2] at hca
            have HCA := hide hca
            clear hca hz2
            have hw2 : wrap64 (last + 1) = last + 1 := wrap_next HLA.out hL2
            clear HNU HRS
            have HTN := hide (show (mineA ⟨⟨⟨age, kind, id, adv, seq, sum, long⟩, links, mem⟩, true, ⟨⟨age', kind', id', adv', seq', sum', long'⟩, links', mem'⟩, false, last, at_, true⟩ ⟨A, c, B, d⟩ ⟨A', c', B', d'⟩).size = 23 from rfl)
            go_wp2_with (with_reducible refine wpList_load_at rfl 29 (.tmp 2) rfl w.heap.size rfl 29 _ 23 HK1.out HT.out HTN.out ?_)
            refine HCA.out.mono ?_
            rintro r w3 ⟨⟨A2, k2, B2, d2⟩, rfl, ho2, hb2⟩
            dsimp only
            have HR3 := hide ((HR1.out).below hb2 (HR1.out).lt)
            have HB3 := hide (below0 (HB1.out) hb2)
            have HO3 := hide (ho2.mono (show w.heap.size + 2 ≤ _ by have h1 := HWS.out; have h2 := (HBW.out).size; omega))
            have hs : lsa0.size = 9 ∧ (#[.int .i64 age2, .int .i64 kind2, .int .i64 id2, .int .i64 adv2, .int .i64 seq2, .int .i64 sum2, .int .i64 long2, .slice A2 links.length k2, .slice B2 mem.length d2] : Array Value).size = 9 ∧ (#[.int .i64 age2, .int .i64 kind2, .int .i64 id2, .int .i64 adv2, .int .i64 seq2, .int .i64 sum2, .int .i64 long2, .slice A2 links.length k2, .slice B2 mem.length d2] : Array Value).all (·.oneCell') = true := ⟨rfl, rfl, by simp [Value.oneCell']⟩
            clear hb2 ho2
            clear c0 c1 c2 c3 c4 c5 c6 c7 c8 c9 c10 c11 c12 c13 c14 c15 c16 c17 c18 c19 c20 c21 c22
            go_wp2_with (with_reducible refine wpList_store_at rfl 27 (.tmp 4) (.tmp 82) rfl (w.heap.size + 1) #[.int .i64 age2, .int .i64 kind2, .int .i64 id2, .int .i64 adv2, .int .i64 seq2, .int .i64 sum2, .int .i64 long2, .slice A2 links.length k2, .slice B2 mem.length d2] 9 rfl rfl 27 lsa0 HR3.out hi hs ?_)
            have hkr := HR3.out.setRow_ #[.int .i64 age2, .int .i64 kind2, .int .i64 id2, .int .i64 adv2, .int .i64 seq2, .int .i64 sum2, .int .i64 long2, .slice A2 links.length k2, .slice B2 mem.length d2]
            refine bodyPost_ret (results_row_tmp (fn := Try.f11) rfl _ _ (w.heap.size + 1) 27 _ _ rfl hkr Try.underlying27 rfl hi) rfl ?_
            dsimp only
            rw [HPF.out]
            exact gives2_end (l := ⟨⟨age2, kind2, id2, adv2, seq2, sum2, long2⟩, links, mem⟩) (p := ⟨A2, k2, B2, d2⟩) HB3.out rfl (Nat.le_refl _) HO3.out _
    | true =>
      by_cases h60 : age' = 60
      · subst h60
        have hal : (true && decide ((60 : Int) < 20) && (decide (links' = links) && decide (mem' = mem))) = false := by simp
        cases ever with
        | false =>
          have hnu := number_any ⟨⟨⟨age, kind, id, adv, seq, sum, long⟩, links, mem⟩, true, ⟨⟨60, kind', id', adv', seq', sum', long'⟩, links', mem'⟩, true, last, at_, false⟩ ⟨A, c, B, d⟩ ⟨A', c', B', d'⟩ W
          have HNU := hide (show numberF ⟨⟨⟨age, kind, id, adv, seq, sum, long⟩, links, mem⟩, true, ⟨⟨60, kind', id', adv', seq', sum', long'⟩, links', mem'⟩, true, last, at_, false⟩ = (seq', true) by rfl)
          rw [HNU.out] at hnu
          have HRS := hide (show planF ⟨⟨⟨age, kind, id, adv, seq, sum, long⟩, links, mem⟩, true, ⟨⟨60, kind', id', adv', seq', sum', long'⟩, links', mem'⟩, true, last, at_, false⟩ now = restF ⟨⟨⟨age, kind, id, adv, seq, sum, long⟩, links, mem⟩, true, ⟨⟨60, kind', id', adv', seq', sum', long'⟩, links', mem'⟩, true, last, at_, false⟩ from by unfold planF; dsimp only; rw [if_neg (by simp), if_neg (by rw [hal]; simp), if_neg (by simp)])
          by_cases hL2 : seq' < 2147483647
          · have hL1 : decide (2147483647 ≤ seq') = false := decide_eq_false (by omega)
            have hL3 := decide_eq_true hL2
            have HN := hide hnu
            clear hnu
            have HTN := hide (show (mineA ⟨⟨⟨age, kind, id, adv, seq, sum, long⟩, links, mem⟩, true, ⟨⟨60, kind', id', adv', seq', sum', long'⟩, links', mem'⟩, true, last, at_, false⟩ ⟨A, c, B, d⟩ ⟨A', c', B', d'⟩).size = 23 from rfl)
            have c0 : W.cell? ⟨w.heap.size, 0, none⟩ = some (.int .i64 age) := HK.out.cell 0
            have c1 : W.cell? ⟨w.heap.size, 1, none⟩ = some (.int .i64 kind) := HK.out.cell 1
            have c2 : W.cell? ⟨w.heap.size, 2, none⟩ = some (.int .i64 id) := HK.out.cell 2
            have c3 : W.cell? ⟨w.heap.size, 3, none⟩ = some (.int .i64 adv) := HK.out.cell 3
            have c4 : W.cell? ⟨w.heap.size, 4, none⟩ = some (.int .i64 seq) := HK.out.cell 4
            have c5 : W.cell? ⟨w.heap.size, 5, none⟩ = some (.int .i64 sum) := HK.out.cell 5
            have c6 : W.cell? ⟨w.heap.size, 6, none⟩ = some (.int .i64 long) := HK.out.cell 6
            have c7 : W.cell? ⟨w.heap.size, 7, none⟩ = some (.slice A links.length c) := HK.out.cell 7
            have c8 : W.cell? ⟨w.heap.size, 8, none⟩ = some (.slice B mem.length d) := HK.out.cell 8
            have c9 : W.cell? ⟨w.heap.size, 9, none⟩ = some (.bool true) := HK.out.cell 9
            have c10 : W.cell? ⟨w.heap.size, 10, none⟩ = some (.int .i64 60) := HK.out.cell 10
            have c11 : W.cell? ⟨w.heap.size, 11, none⟩ = some (.int .i64 kind') := HK.out.cell 11
            have c12 : W.cell? ⟨w.heap.size, 12, none⟩ = some (.int .i64 id') := HK.out.cell 12
            have c13 : W.cell? ⟨w.heap.size, 13, none⟩ = some (.int .i64 adv') := HK.out.cell 13
            have c14 : W.cell? ⟨w.heap.size, 14, none⟩ = some (.int .i64 seq') := HK.out.cell 14
            have c15 : W.cell? ⟨w.heap.size, 15, none⟩ = some (.int .i64 sum') := HK.out.cell 15
            have c16 : W.cell? ⟨w.heap.size, 16, none⟩ = some (.int .i64 long') := HK.out.cell 16
            have c17 : W.cell? ⟨w.heap.size, 17, none⟩ = some (.slice A' links'.length c') := HK.out.cell 17
            have c18 : W.cell? ⟨w.heap.size, 18, none⟩ = some (.slice B' mem'.length d') := HK.out.cell 18
            have c19 : W.cell? ⟨w.heap.size, 19, none⟩ = some (.bool true) := HK.out.cell 19
            have c20 : W.cell? ⟨w.heap.size, 20, none⟩ = some (.int .i64 last) := HK.out.cell 20
            have c21 : W.cell? ⟨w.heap.size, 21, none⟩ = some (.int .i64 at_) := HK.out.cell 21
            have c22 : W.cell? ⟨w.heap.size, 22, none⟩ = some (.bool false) := HK.out.cell 22
            go_wp2_with (with_reducible refine wpList_load_at rfl 29 (.tmp 2) rfl w.heap.size rfl 29 _ 23 HK.out HT.out HTN.out ?_)
            refine HN.out.mono ?_
            rintro r w1 ⟨rfl, hb1⟩
            clear c0 c1 c2 c3 c4 c5 c6 c7 c8 c9 c10 c11 c12 c13 c14 c15 c16 c17 c18 c19 c20 c21 c22
            have HB1 := hide (below0 HB.out hb1)
            have HR1 := hide ((HR.out).below hb1 (HR.out).lt)
            have HK1 := hide ((HK.out).below hb1 (HK.out).lt)
            have HM1 := hide ((HO.out).below hb1)
            have HBW := hide (hb1)
            clear hb1
            have c0 : w1.cell? ⟨w.heap.size, 0, none⟩ = some (.int .i64 age) := HK1.out.cell 0
            have c1 : w1.cell? ⟨w.heap.size, 1, none⟩ = some (.int .i64 kind) := HK1.out.cell 1
            have c2 : w1.cell? ⟨w.heap.size, 2, none⟩ = some (.int .i64 id) := HK1.out.cell 2
            have c3 : w1.cell? ⟨w.heap.size, 3, none⟩ = some (.int .i64 adv) := HK1.out.cell 3
            have c4 : w1.cell? ⟨w.heap.size, 4, none⟩ = some (.int .i64 seq) := HK1.out.cell 4
            have c5 : w1.cell? ⟨w.heap.size, 5, none⟩ = some (.int .i64 sum) := HK1.out.cell 5
            have c6 : w1.cell? ⟨w.heap.size, 6, none⟩ = some (.int .i64 long) := HK1.out.cell 6
            have c7 : w1.cell? ⟨w.heap.size, 7, none⟩ = some (.slice A links.length c) := HK1.out.cell 7
            have c8 : w1.cell? ⟨w.heap.size, 8, none⟩ = some (.slice B mem.length d) := HK1.out.cell 8
            have c9 : w1.cell? ⟨w.heap.size, 9, none⟩ = some (.bool true) := HK1.out.cell 9
            have c10 : w1.cell? ⟨w.heap.size, 10, none⟩ = some (.int .i64 60) := HK1.out.cell 10
            have c11 : w1.cell? ⟨w.heap.size, 11, none⟩ = some (.int .i64 kind') := HK1.out.cell 11
            have c12 : w1.cell? ⟨w.heap.size, 12, none⟩ = some (.int .i64 id') := HK1.out.cell 12
            have c13 : w1.cell? ⟨w.heap.size, 13, none⟩ = some (.int .i64 adv') := HK1.out.cell 13
            have c14 : w1.cell? ⟨w.heap.size, 14, none⟩ = some (.int .i64 seq') := HK1.out.cell 14
            have c15 : w1.cell? ⟨w.heap.size, 15, none⟩ = some (.int .i64 sum') := HK1.out.cell 15
            have c16 : w1.cell? ⟨w.heap.size, 16, none⟩ = some (.int .i64 long') := HK1.out.cell 16
            have c17 : w1.cell? ⟨w.heap.size, 17, none⟩ = some (.slice A' links'.length c') := HK1.out.cell 17
            have c18 : w1.cell? ⟨w.heap.size, 18, none⟩ = some (.slice B' mem'.length d') := HK1.out.cell 18
            have c19 : w1.cell? ⟨w.heap.size, 19, none⟩ = some (.bool true) := HK1.out.cell 19
            have c20 : w1.cell? ⟨w.heap.size, 20, none⟩ = some (.int .i64 last) := HK1.out.cell 20
            have c21 : w1.cell? ⟨w.heap.size, 21, none⟩ = some (.int .i64 at_) := HK1.out.cell 21
            have c22 : w1.cell? ⟨w.heap.size, 22, none⟩ = some (.bool false) := HK1.out.cell 22
            have HPF := hide (show planF ⟨⟨⟨age, kind, id, adv, seq, sum, long⟩, links, mem⟩, true, ⟨⟨60, kind', id', adv', seq', sum', long'⟩, links', mem'⟩, true, last, at_, false⟩ now = (tellF ⟨⟨⟨age, kind, id, adv, seq, sum, long⟩, links, mem⟩, true, ⟨⟨60, kind', id', adv', seq', sum', long'⟩, links', mem'⟩, true, last, at_, false⟩ (seq' + 1), 1) by (rw [HRS.out, restF, HNU.out]; simp [hL2]))
            have hca := told_any ⟨⟨⟨age, kind, id, adv, seq, sum, long⟩, links, mem⟩, true, ⟨⟨60, kind', id', adv', seq', sum', long'⟩, links', mem'⟩, true, last, at_, false⟩ ⟨A, c, B, d⟩ ⟨A', c', B', d'⟩ (seq' + 1) w1 HS.out (HM1.out)
            obtain ⟨h2, hz2⟩ : ∃ h2, (tellF ⟨⟨⟨age, kind, id, adv, seq, sum, long⟩, links, mem⟩, true, ⟨⟨60, kind', id', adv', seq', sum', long'⟩, links', mem'⟩, true, last, at_, false⟩ (seq' + 1)) = ⟨h2, links, mem⟩ := sealF_form _
            obtain ⟨age2, kind2, id2, adv2, seq2, sum2, long2⟩ := h2
            rw [hz2] at HPF
            unfold tellF at hz2
            rw [hz2] at hca
            have HCA := hide hca
            clear hca hz2
            have hw2 : wrap64 (seq' + 1) = seq' + 1 := wrap_next HSQ.out hL2
            clear HNU HRS
            have HTN := hide (show (mineA ⟨⟨⟨age, kind, id, adv, seq, sum, long⟩, links, mem⟩, true, ⟨⟨60, kind', id', adv', seq', sum', long'⟩, links', mem'⟩, true, last, at_, false⟩ ⟨A, c, B, d⟩ ⟨A', c', B', d'⟩).size = 23 from rfl)
            go_wp2_with (with_reducible refine wpList_load_at rfl 29 (.tmp 2) rfl w.heap.size rfl 29 _ 23 HK1.out HT.out HTN.out ?_)
            refine HCA.out.mono ?_
            rintro r w3 ⟨⟨A2, k2, B2, d2⟩, rfl, ho2, hb2⟩
            dsimp only
            have HR3 := hide ((HR1.out).below hb2 (HR1.out).lt)
            have HB3 := hide (below0 (HB1.out) hb2)
            have HO3 := hide (ho2.mono (show w.heap.size + 2 ≤ _ by have h1 := HWS.out; have h2 := (HBW.out).size; omega))
            have hs : lsa0.size = 9 ∧ (#[.int .i64 age2, .int .i64 kind2, .int .i64 id2, .int .i64 adv2, .int .i64 seq2, .int .i64 sum2, .int .i64 long2, .slice A2 links.length k2, .slice B2 mem.length d2] : Array Value).size = 9 ∧ (#[.int .i64 age2, .int .i64 kind2, .int .i64 id2, .int .i64 adv2, .int .i64 seq2, .int .i64 sum2, .int .i64 long2, .slice A2 links.length k2, .slice B2 mem.length d2] : Array Value).all (·.oneCell') = true := ⟨rfl, rfl, by simp [Value.oneCell']⟩
            clear hb2 ho2
            clear c0 c1 c2 c3 c4 c5 c6 c7 c8 c9 c10 c11 c12 c13 c14 c15 c16 c17 c18 c19 c20 c21 c22
            go_wp2_with (with_reducible refine wpList_store_at rfl 27 (.tmp 4) (.tmp 82) rfl (w.heap.size + 1) #[.int .i64 age2, .int .i64 kind2, .int .i64 id2, .int .i64 adv2, .int .i64 seq2, .int .i64 sum2, .int .i64 long2, .slice A2 links.length k2, .slice B2 mem.length d2] 9 rfl rfl 27 lsa0 HR3.out hi hs ?_)
            have hkr := HR3.out.setRow_ #[.int .i64 age2, .int .i64 kind2, .int .i64 id2, .int .i64 adv2, .int .i64 seq2, .int .i64 sum2, .int .i64 long2, .slice A2 links.length k2, .slice B2 mem.length d2]
            refine bodyPost_ret (results_row_tmp (fn := Try.f11) rfl _ _ (w.heap.size + 1) 27 _ _ rfl hkr Try.underlying27 rfl hi) rfl ?_
            dsimp only
            rw [HPF.out]
            exact gives2_end (l := ⟨⟨age2, kind2, id2, adv2, seq2, sum2, long2⟩, links, mem⟩) (p := ⟨A2, k2, B2, d2⟩) HB3.out rfl (Nat.le_refl _) HO3.out _
          · have hL1 : decide (2147483647 ≤ seq') = true := decide_eq_true (by omega)
            have hL3 := decide_eq_false hL2
            have HN := hide hnu
            clear hnu
            have HTN := hide (show (mineA ⟨⟨⟨age, kind, id, adv, seq, sum, long⟩, links, mem⟩, true, ⟨⟨60, kind', id', adv', seq', sum', long'⟩, links', mem'⟩, true, last, at_, false⟩ ⟨A, c, B, d⟩ ⟨A', c', B', d'⟩).size = 23 from rfl)
            have c0 : W.cell? ⟨w.heap.size, 0, none⟩ = some (.int .i64 age) := HK.out.cell 0
            have c1 : W.cell? ⟨w.heap.size, 1, none⟩ = some (.int .i64 kind) := HK.out.cell 1
            have c2 : W.cell? ⟨w.heap.size, 2, none⟩ = some (.int .i64 id) := HK.out.cell 2
            have c3 : W.cell? ⟨w.heap.size, 3, none⟩ = some (.int .i64 adv) := HK.out.cell 3
            have c4 : W.cell? ⟨w.heap.size, 4, none⟩ = some (.int .i64 seq) := HK.out.cell 4
            have c5 : W.cell? ⟨w.heap.size, 5, none⟩ = some (.int .i64 sum) := HK.out.cell 5
            have c6 : W.cell? ⟨w.heap.size, 6, none⟩ = some (.int .i64 long) := HK.out.cell 6
            have c7 : W.cell? ⟨w.heap.size, 7, none⟩ = some (.slice A links.length c) := HK.out.cell 7
            have c8 : W.cell? ⟨w.heap.size, 8, none⟩ = some (.slice B mem.length d) := HK.out.cell 8
            have c9 : W.cell? ⟨w.heap.size, 9, none⟩ = some (.bool true) := HK.out.cell 9
            have c10 : W.cell? ⟨w.heap.size, 10, none⟩ = some (.int .i64 60) := HK.out.cell 10
            have c11 : W.cell? ⟨w.heap.size, 11, none⟩ = some (.int .i64 kind') := HK.out.cell 11
            have c12 : W.cell? ⟨w.heap.size, 12, none⟩ = some (.int .i64 id') := HK.out.cell 12
            have c13 : W.cell? ⟨w.heap.size, 13, none⟩ = some (.int .i64 adv') := HK.out.cell 13
            have c14 : W.cell? ⟨w.heap.size, 14, none⟩ = some (.int .i64 seq') := HK.out.cell 14
            have c15 : W.cell? ⟨w.heap.size, 15, none⟩ = some (.int .i64 sum') := HK.out.cell 15
            have c16 : W.cell? ⟨w.heap.size, 16, none⟩ = some (.int .i64 long') := HK.out.cell 16
            have c17 : W.cell? ⟨w.heap.size, 17, none⟩ = some (.slice A' links'.length c') := HK.out.cell 17
            have c18 : W.cell? ⟨w.heap.size, 18, none⟩ = some (.slice B' mem'.length d') := HK.out.cell 18
            have c19 : W.cell? ⟨w.heap.size, 19, none⟩ = some (.bool true) := HK.out.cell 19
            have c20 : W.cell? ⟨w.heap.size, 20, none⟩ = some (.int .i64 last) := HK.out.cell 20
            have c21 : W.cell? ⟨w.heap.size, 21, none⟩ = some (.int .i64 at_) := HK.out.cell 21
            have c22 : W.cell? ⟨w.heap.size, 22, none⟩ = some (.bool false) := HK.out.cell 22
            go_wp2_with (with_reducible refine wpList_load_at rfl 29 (.tmp 2) rfl w.heap.size rfl 29 _ 23 HK.out HT.out HTN.out ?_)
            refine HN.out.mono ?_
            rintro r w1 ⟨rfl, hb1⟩
            clear c0 c1 c2 c3 c4 c5 c6 c7 c8 c9 c10 c11 c12 c13 c14 c15 c16 c17 c18 c19 c20 c21 c22
            have HB1 := hide (below0 HB.out hb1)
            have HR1 := hide ((HR.out).below hb1 (HR.out).lt)
            have HK1 := hide ((HK.out).below hb1 (HK.out).lt)
            have HM1 := hide ((HO.out).below hb1)
            have HBW := hide (hb1)
            clear hb1
            have c0 : w1.cell? ⟨w.heap.size, 0, none⟩ = some (.int .i64 age) := HK1.out.cell 0
            have c1 : w1.cell? ⟨w.heap.size, 1, none⟩ = some (.int .i64 kind) := HK1.out.cell 1
            have c2 : w1.cell? ⟨w.heap.size, 2, none⟩ = some (.int .i64 id) := HK1.out.cell 2
            have c3 : w1.cell? ⟨w.heap.size, 3, none⟩ = some (.int .i64 adv) := HK1.out.cell 3
            have c4 : w1.cell? ⟨w.heap.size, 4, none⟩ = some (.int .i64 seq) := HK1.out.cell 4
            have c5 : w1.cell? ⟨w.heap.size, 5, none⟩ = some (.int .i64 sum) := HK1.out.cell 5
            have c6 : w1.cell? ⟨w.heap.size, 6, none⟩ = some (.int .i64 long) := HK1.out.cell 6
            have c7 : w1.cell? ⟨w.heap.size, 7, none⟩ = some (.slice A links.length c) := HK1.out.cell 7
            have c8 : w1.cell? ⟨w.heap.size, 8, none⟩ = some (.slice B mem.length d) := HK1.out.cell 8
            have c9 : w1.cell? ⟨w.heap.size, 9, none⟩ = some (.bool true) := HK1.out.cell 9
            have c10 : w1.cell? ⟨w.heap.size, 10, none⟩ = some (.int .i64 60) := HK1.out.cell 10
            have c11 : w1.cell? ⟨w.heap.size, 11, none⟩ = some (.int .i64 kind') := HK1.out.cell 11
            have c12 : w1.cell? ⟨w.heap.size, 12, none⟩ = some (.int .i64 id') := HK1.out.cell 12
            have c13 : w1.cell? ⟨w.heap.size, 13, none⟩ = some (.int .i64 adv') := HK1.out.cell 13
            have c14 : w1.cell? ⟨w.heap.size, 14, none⟩ = some (.int .i64 seq') := HK1.out.cell 14
            have c15 : w1.cell? ⟨w.heap.size, 15, none⟩ = some (.int .i64 sum') := HK1.out.cell 15
            have c16 : w1.cell? ⟨w.heap.size, 16, none⟩ = some (.int .i64 long') := HK1.out.cell 16
            have c17 : w1.cell? ⟨w.heap.size, 17, none⟩ = some (.slice A' links'.length c') := HK1.out.cell 17
            have c18 : w1.cell? ⟨w.heap.size, 18, none⟩ = some (.slice B' mem'.length d') := HK1.out.cell 18
            have c19 : w1.cell? ⟨w.heap.size, 19, none⟩ = some (.bool true) := HK1.out.cell 19
            have c20 : w1.cell? ⟨w.heap.size, 20, none⟩ = some (.int .i64 last) := HK1.out.cell 20
            have c21 : w1.cell? ⟨w.heap.size, 21, none⟩ = some (.int .i64 at_) := HK1.out.cell 21
            have c22 : w1.cell? ⟨w.heap.size, 22, none⟩ = some (.bool false) := HK1.out.cell 22
            have HPF := hide (show planF ⟨⟨⟨age, kind, id, adv, seq, sum, long⟩, links, mem⟩, true, ⟨⟨60, kind', id', adv', seq', sum', long'⟩, links', mem'⟩, true, last, at_, false⟩ now = (default, 3) by (rw [HRS.out, restF, HNU.out]; simp [hL2, livesF]))
            clear HNU HRS
            go_wp2_with (with_reducible refine wpList_store_at rfl 27 (.tmp 4) (.tmp 90) rfl (w.heap.size + 1) lsa0 9 rfl rfl 27 lsa0 HR1.out hi hs0 ?_)
            have hkr := (HR1.out).setRow_ lsa0
            refine bodyPost_ret (results_row_tmp (fn := Try.f11) rfl _ _ (w.heap.size + 1) 27 _ _ rfl hkr Try.underlying27 rfl hi) rfl ?_
            rw [HPF.out]
            exact gives2_end (l := default) (p := ⟨none, 0, none, 0⟩) (HB1.out) rfl (Nat.le_refl _) (LOwn.none_ _ _) _
        | true =>
          have hw1 : wrap64 (now - at_) = now - at_ := wrap_sub HN1.out HA1.out
          have c0 : W.cell? ⟨w.heap.size, 0, none⟩ = some (.int .i64 age) := HK.out.cell 0
          have c1 : W.cell? ⟨w.heap.size, 1, none⟩ = some (.int .i64 kind) := HK.out.cell 1
          have c2 : W.cell? ⟨w.heap.size, 2, none⟩ = some (.int .i64 id) := HK.out.cell 2
          have c3 : W.cell? ⟨w.heap.size, 3, none⟩ = some (.int .i64 adv) := HK.out.cell 3
          have c4 : W.cell? ⟨w.heap.size, 4, none⟩ = some (.int .i64 seq) := HK.out.cell 4
          have c5 : W.cell? ⟨w.heap.size, 5, none⟩ = some (.int .i64 sum) := HK.out.cell 5
          have c6 : W.cell? ⟨w.heap.size, 6, none⟩ = some (.int .i64 long) := HK.out.cell 6
          have c7 : W.cell? ⟨w.heap.size, 7, none⟩ = some (.slice A links.length c) := HK.out.cell 7
          have c8 : W.cell? ⟨w.heap.size, 8, none⟩ = some (.slice B mem.length d) := HK.out.cell 8
          have c9 : W.cell? ⟨w.heap.size, 9, none⟩ = some (.bool true) := HK.out.cell 9
          have c10 : W.cell? ⟨w.heap.size, 10, none⟩ = some (.int .i64 60) := HK.out.cell 10
          have c11 : W.cell? ⟨w.heap.size, 11, none⟩ = some (.int .i64 kind') := HK.out.cell 11
          have c12 : W.cell? ⟨w.heap.size, 12, none⟩ = some (.int .i64 id') := HK.out.cell 12
          have c13 : W.cell? ⟨w.heap.size, 13, none⟩ = some (.int .i64 adv') := HK.out.cell 13
          have c14 : W.cell? ⟨w.heap.size, 14, none⟩ = some (.int .i64 seq') := HK.out.cell 14
          have c15 : W.cell? ⟨w.heap.size, 15, none⟩ = some (.int .i64 sum') := HK.out.cell 15
          have c16 : W.cell? ⟨w.heap.size, 16, none⟩ = some (.int .i64 long') := HK.out.cell 16
          have c17 : W.cell? ⟨w.heap.size, 17, none⟩ = some (.slice A' links'.length c') := HK.out.cell 17
          have c18 : W.cell? ⟨w.heap.size, 18, none⟩ = some (.slice B' mem'.length d') := HK.out.cell 18
          have c19 : W.cell? ⟨w.heap.size, 19, none⟩ = some (.bool true) := HK.out.cell 19
          have c20 : W.cell? ⟨w.heap.size, 20, none⟩ = some (.int .i64 last) := HK.out.cell 20
          have c21 : W.cell? ⟨w.heap.size, 21, none⟩ = some (.int .i64 at_) := HK.out.cell 21
          have c22 : W.cell? ⟨w.heap.size, 22, none⟩ = some (.bool true) := HK.out.cell 22
          by_cases h2 : now - at_ < 2
          · have h3 := decide_eq_true h2
            have HPF := hide (show planF ⟨⟨⟨age, kind, id, adv, seq, sum, long⟩, links, mem⟩, true, ⟨⟨60, kind', id', adv', seq', sum', long'⟩, links', mem'⟩, true, last, at_, true⟩ now = (default, 3) by (unfold planF; dsimp only; rw [if_neg (by simp), if_neg (by rw [hal]; simp), if_pos (by simpa using h2)]))
            go_wp2_with (with_reducible refine wpList_store_at rfl 27 (.tmp 4) (.tmp 53) rfl (w.heap.size + 1) lsa0 9 rfl rfl 27 lsa0 HR.out hi hs0 ?_)
            have hkr := (HR.out).setRow_ lsa0
            refine bodyPost_ret (results_row_tmp (fn := Try.f11) rfl _ _ (w.heap.size + 1) 27 _ _ rfl hkr Try.underlying27 rfl hi) rfl ?_
            rw [HPF.out]
            exact gives2_end (l := default) (p := ⟨none, 0, none, 0⟩) (HB.out) rfl (Nat.le_refl _) (LOwn.none_ _ _) _
          · have h3 := decide_eq_false h2
            clear c0 c1 c2 c3 c4 c5 c6 c7 c8 c9 c10 c11 c12 c13 c14 c15 c16 c17 c18 c19 c20 c21 c22
            have hnu := number_any ⟨⟨⟨age, kind, id, adv, seq, sum, long⟩, links, mem⟩, true, ⟨⟨60, kind', id', adv', seq', sum', long'⟩, links', mem'⟩, true, last, at_, true⟩ ⟨A, c, B, d⟩ ⟨A', c', B', d'⟩ W
            have HNU := hide (show numberF ⟨⟨⟨age, kind, id, adv, seq, sum, long⟩, links, mem⟩, true, ⟨⟨60, kind', id', adv', seq', sum', long'⟩, links', mem'⟩, true, last, at_, true⟩ = (max seq' last, true) by rfl)
            rw [HNU.out] at hnu
            have HRS := hide (show planF ⟨⟨⟨age, kind, id, adv, seq, sum, long⟩, links, mem⟩, true, ⟨⟨60, kind', id', adv', seq', sum', long'⟩, links', mem'⟩, true, last, at_, true⟩ now = restF ⟨⟨⟨age, kind, id, adv, seq, sum, long⟩, links, mem⟩, true, ⟨⟨60, kind', id', adv', seq', sum', long'⟩, links', mem'⟩, true, last, at_, true⟩ from by unfold planF; dsimp only; rw [if_neg (by simp), if_neg (by rw [hal]; simp), if_neg (by simpa using h2)])
            have HMX := hide (show -9223372036854775808 ≤ max seq' last by have := HLA.out; omega)
            generalize max seq' last = mx at hnu HNU HMX
            by_cases hL2 : mx < 2147483647
            · have hL1 : decide (2147483647 ≤ mx) = false := decide_eq_false (by omega)
              have hL3 := decide_eq_true hL2
              have HN := hide hnu
              clear hnu
              have HTN := hide (show (mineA ⟨⟨⟨age, kind, id, adv, seq, sum, long⟩, links, mem⟩, true, ⟨⟨60, kind', id', adv', seq', sum', long'⟩, links', mem'⟩, true, last, at_, true⟩ ⟨A, c, B, d⟩ ⟨A', c', B', d'⟩).size = 23 from rfl)
              have c0 : W.cell? ⟨w.heap.size, 0, none⟩ = some (.int .i64 age) := HK.out.cell 0
              have c1 : W.cell? ⟨w.heap.size, 1, none⟩ = some (.int .i64 kind) := HK.out.cell 1
              have c2 : W.cell? ⟨w.heap.size, 2, none⟩ = some (.int .i64 id) := HK.out.cell 2
              have c3 : W.cell? ⟨w.heap.size, 3, none⟩ = some (.int .i64 adv) := HK.out.cell 3
              have c4 : W.cell? ⟨w.heap.size, 4, none⟩ = some (.int .i64 seq) := HK.out.cell 4
              have c5 : W.cell? ⟨w.heap.size, 5, none⟩ = some (.int .i64 sum) := HK.out.cell 5
              have c6 : W.cell? ⟨w.heap.size, 6, none⟩ = some (.int .i64 long) := HK.out.cell 6
              have c7 : W.cell? ⟨w.heap.size, 7, none⟩ = some (.slice A links.length c) := HK.out.cell 7
              have c8 : W.cell? ⟨w.heap.size, 8, none⟩ = some (.slice B mem.length d) := HK.out.cell 8
              have c9 : W.cell? ⟨w.heap.size, 9, none⟩ = some (.bool true) := HK.out.cell 9
              have c10 : W.cell? ⟨w.heap.size, 10, none⟩ = some (.int .i64 60) := HK.out.cell 10
              have c11 : W.cell? ⟨w.heap.size, 11, none⟩ = some (.int .i64 kind') := HK.out.cell 11
              have c12 : W.cell? ⟨w.heap.size, 12, none⟩ = some (.int .i64 id') := HK.out.cell 12
              have c13 : W.cell? ⟨w.heap.size, 13, none⟩ = some (.int .i64 adv') := HK.out.cell 13
              have c14 : W.cell? ⟨w.heap.size, 14, none⟩ = some (.int .i64 seq') := HK.out.cell 14
              have c15 : W.cell? ⟨w.heap.size, 15, none⟩ = some (.int .i64 sum') := HK.out.cell 15
              have c16 : W.cell? ⟨w.heap.size, 16, none⟩ = some (.int .i64 long') := HK.out.cell 16
              have c17 : W.cell? ⟨w.heap.size, 17, none⟩ = some (.slice A' links'.length c') := HK.out.cell 17
              have c18 : W.cell? ⟨w.heap.size, 18, none⟩ = some (.slice B' mem'.length d') := HK.out.cell 18
              have c19 : W.cell? ⟨w.heap.size, 19, none⟩ = some (.bool true) := HK.out.cell 19
              have c20 : W.cell? ⟨w.heap.size, 20, none⟩ = some (.int .i64 last) := HK.out.cell 20
              have c21 : W.cell? ⟨w.heap.size, 21, none⟩ = some (.int .i64 at_) := HK.out.cell 21
              have c22 : W.cell? ⟨w.heap.size, 22, none⟩ = some (.bool true) := HK.out.cell 22
              go_wp2_with (with_reducible refine wpList_load_at rfl 29 (.tmp 2) rfl w.heap.size rfl 29 _ 23 HK.out HT.out HTN.out ?_)
              refine HN.out.mono ?_
              rintro r w1 ⟨rfl, hb1⟩
              clear c0 c1 c2 c3 c4 c5 c6 c7 c8 c9 c10 c11 c12 c13 c14 c15 c16 c17 c18 c19 c20 c21 c22
              have HB1 := hide (below0 HB.out hb1)
              have HR1 := hide ((HR.out).below hb1 (HR.out).lt)
              have HK1 := hide ((HK.out).below hb1 (HK.out).lt)
              have HM1 := hide ((HO.out).below hb1)
              have HBW := hide (hb1)
              clear hb1
              have c0 : w1.cell? ⟨w.heap.size, 0, none⟩ = some (.int .i64 age) := HK1.out.cell 0
              have c1 : w1.cell? ⟨w.heap.size, 1, none⟩ = some (.int .i64 kind) := HK1.out.cell 1
              have c2 : w1.cell? ⟨w.heap.size, 2, none⟩ = some (.int .i64 id) := HK1.out.cell 2
              have c3 : w1.cell? ⟨w.heap.size, 3, none⟩ = some (.int .i64 adv) := HK1.out.cell 3
              have c4 : w1.cell? ⟨w.heap.size, 4, none⟩ = some (.int .i64 seq) := HK1.out.cell 4
              have c5 : w1.cell? ⟨w.heap.size, 5, none⟩ = some (.int .i64 sum) := HK1.out.cell 5
              have c6 : w1.cell? ⟨w.heap.size, 6, none⟩ = some (.int .i64 long) := HK1.out.cell 6
              have c7 : w1.cell? ⟨w.heap.size, 7, none⟩ = some (.slice A links.length c) := HK1.out.cell 7
              have c8 : w1.cell? ⟨w.heap.size, 8, none⟩ = some (.slice B mem.length d) := HK1.out.cell 8
              have c9 : w1.cell? ⟨w.heap.size, 9, none⟩ = some (.bool true) := HK1.out.cell 9
              have c10 : w1.cell? ⟨w.heap.size, 10, none⟩ = some (.int .i64 60) := HK1.out.cell 10
              have c11 : w1.cell? ⟨w.heap.size, 11, none⟩ = some (.int .i64 kind') := HK1.out.cell 11
              have c12 : w1.cell? ⟨w.heap.size, 12, none⟩ = some (.int .i64 id') := HK1.out.cell 12
              have c13 : w1.cell? ⟨w.heap.size, 13, none⟩ = some (.int .i64 adv') := HK1.out.cell 13
              have c14 : w1.cell? ⟨w.heap.size, 14, none⟩ = some (.int .i64 seq') := HK1.out.cell 14
              have c15 : w1.cell? ⟨w.heap.size, 15, none⟩ = some (.int .i64 sum') := HK1.out.cell 15
              have c16 : w1.cell? ⟨w.heap.size, 16, none⟩ = some (.int .i64 long') := HK1.out.cell 16
              have c17 : w1.cell? ⟨w.heap.size, 17, none⟩ = some (.slice A' links'.length c') := HK1.out.cell 17
              have c18 : w1.cell? ⟨w.heap.size, 18, none⟩ = some (.slice B' mem'.length d') := HK1.out.cell 18
              have c19 : w1.cell? ⟨w.heap.size, 19, none⟩ = some (.bool true) := HK1.out.cell 19
              have c20 : w1.cell? ⟨w.heap.size, 20, none⟩ = some (.int .i64 last) := HK1.out.cell 20
              have c21 : w1.cell? ⟨w.heap.size, 21, none⟩ = some (.int .i64 at_) := HK1.out.cell 21
              have c22 : w1.cell? ⟨w.heap.size, 22, none⟩ = some (.bool true) := HK1.out.cell 22
              have HPF := hide (show planF ⟨⟨⟨age, kind, id, adv, seq, sum, long⟩, links, mem⟩, true, ⟨⟨60, kind', id', adv', seq', sum', long'⟩, links', mem'⟩, true, last, at_, true⟩ now = (tellF ⟨⟨⟨age, kind, id, adv, seq, sum, long⟩, links, mem⟩, true, ⟨⟨60, kind', id', adv', seq', sum', long'⟩, links', mem'⟩, true, last, at_, true⟩ (mx + 1), 1) by (rw [HRS.out, restF, HNU.out]; simp [hL2]))
              have hca := told_any ⟨⟨⟨age, kind, id, adv, seq, sum, long⟩, links, mem⟩, true, ⟨⟨60, kind', id', adv', seq', sum', long'⟩, links', mem'⟩, true, last, at_, true⟩ ⟨A, c, B, d⟩ ⟨A', c', B', d'⟩ (mx + 1) w1 HS.out (HM1.out)
              obtain ⟨h2, hz2⟩ : ∃ h2, (tellF ⟨⟨⟨age, kind, id, adv, seq, sum, long⟩, links, mem⟩, true, ⟨⟨60, kind', id', adv', seq', sum', long'⟩, links', mem'⟩, true, last, at_, true⟩ (mx + 1)) = ⟨h2, links, mem⟩ := sealF_form _
              obtain ⟨age2, kind2, id2, adv2, seq2, sum2, long2⟩ := h2
              rw [hz2] at HPF
              unfold tellF at hz2
              rw [hz2] at hca
              have HCA := hide hca
              clear hca hz2
              have hw2 : wrap64 (mx + 1) = mx + 1 := wrap_next HMX.out hL2
              clear HNU HRS
              have HTN := hide (show (mineA ⟨⟨⟨age, kind, id, adv, seq, sum, long⟩, links, mem⟩, true, ⟨⟨60, kind', id', adv', seq', sum', long'⟩, links', mem'⟩, true, last, at_, true⟩ ⟨A, c, B, d⟩ ⟨A', c', B', d'⟩).size = 23 from rfl)
              go_wp2_with (with_reducible refine wpList_load_at rfl 29 (.tmp 2) rfl w.heap.size rfl 29 _ 23 HK1.out HT.out HTN.out ?_)
              refine HCA.out.mono ?_
              rintro r w3 ⟨⟨A2, k2, B2, d2⟩, rfl, ho2, hb2⟩
              dsimp only
              have HR3 := hide ((HR1.out).below hb2 (HR1.out).lt)
              have HB3 := hide (below0 (HB1.out) hb2)
              have HO3 := hide (ho2.mono (show w.heap.size + 2 ≤ _ by have h1 := HWS.out; have h2 := (HBW.out).size; omega))
              have hs : lsa0.size = 9 ∧ (#[.int .i64 age2, .int .i64 kind2, .int .i64 id2, .int .i64 adv2, .int .i64 seq2, .int .i64 sum2, .int .i64 long2, .slice A2 links.length k2, .slice B2 mem.length d2] : Array Value).size = 9 ∧ (#[.int .i64 age2, .int .i64 kind2, .int .i64 id2, .int .i64 adv2, .int .i64 seq2, .int .i64 sum2, .int .i64 long2, .slice A2 links.length k2, .slice B2 mem.length d2] : Array Value).all (·.oneCell') = true := ⟨rfl, rfl, by simp [Value.oneCell']⟩
              clear hb2 ho2
              clear c0 c1 c2 c3 c4 c5 c6 c7 c8 c9 c10 c11 c12 c13 c14 c15 c16 c17 c18 c19 c20 c21 c22
              go_wp2_with (with_reducible refine wpList_store_at rfl 27 (.tmp 4) (.tmp 82) rfl (w.heap.size + 1) #[.int .i64 age2, .int .i64 kind2, .int .i64 id2, .int .i64 adv2, .int .i64 seq2, .int .i64 sum2, .int .i64 long2, .slice A2 links.length k2, .slice B2 mem.length d2] 9 rfl rfl 27 lsa0 HR3.out hi hs ?_)
              have hkr := HR3.out.setRow_ #[.int .i64 age2, .int .i64 kind2, .int .i64 id2, .int .i64 adv2, .int .i64 seq2, .int .i64 sum2, .int .i64 long2, .slice A2 links.length k2, .slice B2 mem.length d2]
              refine bodyPost_ret (results_row_tmp (fn := Try.f11) rfl _ _ (w.heap.size + 1) 27 _ _ rfl hkr Try.underlying27 rfl hi) rfl ?_
              dsimp only
              rw [HPF.out]
              exact gives2_end (l := ⟨⟨age2, kind2, id2, adv2, seq2, sum2, long2⟩, links, mem⟩) (p := ⟨A2, k2, B2, d2⟩) HB3.out rfl (Nat.le_refl _) HO3.out _
            · have hL1 : decide (2147483647 ≤ mx) = true := decide_eq_true (by omega)
              have hL3 := decide_eq_false hL2
              have HN := hide hnu
              clear hnu
              have HTN := hide (show (mineA ⟨⟨⟨age, kind, id, adv, seq, sum, long⟩, links, mem⟩, true, ⟨⟨60, kind', id', adv', seq', sum', long'⟩, links', mem'⟩, true, last, at_, true⟩ ⟨A, c, B, d⟩ ⟨A', c', B', d'⟩).size = 23 from rfl)
              have c0 : W.cell? ⟨w.heap.size, 0, none⟩ = some (.int .i64 age) := HK.out.cell 0
              have c1 : W.cell? ⟨w.heap.size, 1, none⟩ = some (.int .i64 kind) := HK.out.cell 1
              have c2 : W.cell? ⟨w.heap.size, 2, none⟩ = some (.int .i64 id) := HK.out.cell 2
              have c3 : W.cell? ⟨w.heap.size, 3, none⟩ = some (.int .i64 adv) := HK.out.cell 3
              have c4 : W.cell? ⟨w.heap.size, 4, none⟩ = some (.int .i64 seq) := HK.out.cell 4
              have c5 : W.cell? ⟨w.heap.size, 5, none⟩ = some (.int .i64 sum) := HK.out.cell 5
              have c6 : W.cell? ⟨w.heap.size, 6, none⟩ = some (.int .i64 long) := HK.out.cell 6
              have c7 : W.cell? ⟨w.heap.size, 7, none⟩ = some (.slice A links.length c) := HK.out.cell 7
              have c8 : W.cell? ⟨w.heap.size, 8, none⟩ = some (.slice B mem.length d) := HK.out.cell 8
              have c9 : W.cell? ⟨w.heap.size, 9, none⟩ = some (.bool true) := HK.out.cell 9
              have c10 : W.cell? ⟨w.heap.size, 10, none⟩ = some (.int .i64 60) := HK.out.cell 10
              have c11 : W.cell? ⟨w.heap.size, 11, none⟩ = some (.int .i64 kind') := HK.out.cell 11
              have c12 : W.cell? ⟨w.heap.size, 12, none⟩ = some (.int .i64 id') := HK.out.cell 12
              have c13 : W.cell? ⟨w.heap.size, 13, none⟩ = some (.int .i64 adv') := HK.out.cell 13
              have c14 : W.cell? ⟨w.heap.size, 14, none⟩ = some (.int .i64 seq') := HK.out.cell 14
              have c15 : W.cell? ⟨w.heap.size, 15, none⟩ = some (.int .i64 sum') := HK.out.cell 15
              have c16 : W.cell? ⟨w.heap.size, 16, none⟩ = some (.int .i64 long') := HK.out.cell 16
              have c17 : W.cell? ⟨w.heap.size, 17, none⟩ = some (.slice A' links'.length c') := HK.out.cell 17
              have c18 : W.cell? ⟨w.heap.size, 18, none⟩ = some (.slice B' mem'.length d') := HK.out.cell 18
              have c19 : W.cell? ⟨w.heap.size, 19, none⟩ = some (.bool true) := HK.out.cell 19
              have c20 : W.cell? ⟨w.heap.size, 20, none⟩ = some (.int .i64 last) := HK.out.cell 20
              have c21 : W.cell? ⟨w.heap.size, 21, none⟩ = some (.int .i64 at_) := HK.out.cell 21
              have c22 : W.cell? ⟨w.heap.size, 22, none⟩ = some (.bool true) := HK.out.cell 22
              go_wp2_with (with_reducible refine wpList_load_at rfl 29 (.tmp 2) rfl w.heap.size rfl 29 _ 23 HK.out HT.out HTN.out ?_)
              refine HN.out.mono ?_
              rintro r w1 ⟨rfl, hb1⟩
              clear c0 c1 c2 c3 c4 c5 c6 c7 c8 c9 c10 c11 c12 c13 c14 c15 c16 c17 c18 c19 c20 c21 c22
              have HB1 := hide (below0 HB.out hb1)
              have HR1 := hide ((HR.out).below hb1 (HR.out).lt)
              have HK1 := hide ((HK.out).below hb1 (HK.out).lt)
              have HM1 := hide ((HO.out).below hb1)
              have HBW := hide (hb1)
              clear hb1
              have c0 : w1.cell? ⟨w.heap.size, 0, none⟩ = some (.int .i64 age) := HK1.out.cell 0
              have c1 : w1.cell? ⟨w.heap.size, 1, none⟩ = some (.int .i64 kind) := HK1.out.cell 1
              have c2 : w1.cell? ⟨w.heap.size, 2, none⟩ = some (.int .i64 id) := HK1.out.cell 2
              have c3 : w1.cell? ⟨w.heap.size, 3, none⟩ = some (.int .i64 adv) := HK1.out.cell 3
              have c4 : w1.cell? ⟨w.heap.size, 4, none⟩ = some (.int .i64 seq) := HK1.out.cell 4
              have c5 : w1.cell? ⟨w.heap.size, 5, none⟩ = some (.int .i64 sum) := HK1.out.cell 5
              have c6 : w1.cell? ⟨w.heap.size, 6, none⟩ = some (.int .i64 long) := HK1.out.cell 6
              have c7 : w1.cell? ⟨w.heap.size, 7, none⟩ = some (.slice A links.length c) := HK1.out.cell 7
              have c8 : w1.cell? ⟨w.heap.size, 8, none⟩ = some (.slice B mem.length d) := HK1.out.cell 8
              have c9 : w1.cell? ⟨w.heap.size, 9, none⟩ = some (.bool true) := HK1.out.cell 9
              have c10 : w1.cell? ⟨w.heap.size, 10, none⟩ = some (.int .i64 60) := HK1.out.cell 10
              have c11 : w1.cell? ⟨w.heap.size, 11, none⟩ = some (.int .i64 kind') := HK1.out.cell 11
              have c12 : w1.cell? ⟨w.heap.size, 12, none⟩ = some (.int .i64 id') := HK1.out.cell 12
              have c13 : w1.cell? ⟨w.heap.size, 13, none⟩ = some (.int .i64 adv') := HK1.out.cell 13
              have c14 : w1.cell? ⟨w.heap.size, 14, none⟩ = some (.int .i64 seq') := HK1.out.cell 14
              have c15 : w1.cell? ⟨w.heap.size, 15, none⟩ = some (.int .i64 sum') := HK1.out.cell 15
              have c16 : w1.cell? ⟨w.heap.size, 16, none⟩ = some (.int .i64 long') := HK1.out.cell 16
              have c17 : w1.cell? ⟨w.heap.size, 17, none⟩ = some (.slice A' links'.length c') := HK1.out.cell 17
              have c18 : w1.cell? ⟨w.heap.size, 18, none⟩ = some (.slice B' mem'.length d') := HK1.out.cell 18
              have c19 : w1.cell? ⟨w.heap.size, 19, none⟩ = some (.bool true) := HK1.out.cell 19
              have c20 : w1.cell? ⟨w.heap.size, 20, none⟩ = some (.int .i64 last) := HK1.out.cell 20
              have c21 : w1.cell? ⟨w.heap.size, 21, none⟩ = some (.int .i64 at_) := HK1.out.cell 21
              have c22 : w1.cell? ⟨w.heap.size, 22, none⟩ = some (.bool true) := HK1.out.cell 22
              have HPF := hide (show planF ⟨⟨⟨age, kind, id, adv, seq, sum, long⟩, links, mem⟩, true, ⟨⟨60, kind', id', adv', seq', sum', long'⟩, links', mem'⟩, true, last, at_, true⟩ now = (default, 3) by (rw [HRS.out, restF, HNU.out]; simp [hL2, livesF]))
              clear HNU HRS
              go_wp2_with (with_reducible refine wpList_store_at rfl 27 (.tmp 4) (.tmp 90) rfl (w.heap.size + 1) lsa0 9 rfl rfl 27 lsa0 HR1.out hi hs0 ?_)
              have hkr := (HR1.out).setRow_ lsa0
              refine bodyPost_ret (results_row_tmp (fn := Try.f11) rfl _ _ (w.heap.size + 1) 27 _ _ rfl hkr Try.underlying27 rfl hi) rfl ?_
              rw [HPF.out]
              exact gives2_end (l := default) (p := ⟨none, 0, none, 0⟩) (HB1.out) rfl (Nat.le_refl _) (LOwn.none_ _ _) _
      have h61 : (age' == 60) = false := by simpa using h60
      have h62 : (age' != 60) = true := by simpa using h60
      have H60 := hide h60
      clear h60
      by_cases h20 : age' < 20
      · have h21 := decide_eq_true h20
        have hal := alike_any ⟨⟨age', kind', id', adv', seq', sum', long'⟩, links', mem'⟩ ⟨⟨age, kind, id, adv, seq, sum, long⟩, links, mem⟩ ⟨A', c', B', d'⟩ ⟨A, c, B, d⟩ W HS.out.hl HS.out.hm HS.out.wl HS.out.wm HO.out.held HO.out.want
        dsimp only [lsaA] at hal
        obtain ⟨b, hb⟩ : ∃ b, (decide (links' = links) && decide (mem' = mem)) = b := ⟨_, rfl⟩
        rw [hb] at hal
        have HAL := hide hal
        have HBQ := hide hb
        clear hal hb
        have c0 : W.cell? ⟨w.heap.size, 0, none⟩ = some (.int .i64 age) := HK.out.cell 0
        have c1 : W.cell? ⟨w.heap.size, 1, none⟩ = some (.int .i64 kind) := HK.out.cell 1
        have c2 : W.cell? ⟨w.heap.size, 2, none⟩ = some (.int .i64 id) := HK.out.cell 2
        have c3 : W.cell? ⟨w.heap.size, 3, none⟩ = some (.int .i64 adv) := HK.out.cell 3
        have c4 : W.cell? ⟨w.heap.size, 4, none⟩ = some (.int .i64 seq) := HK.out.cell 4
        have c5 : W.cell? ⟨w.heap.size, 5, none⟩ = some (.int .i64 sum) := HK.out.cell 5
        have c6 : W.cell? ⟨w.heap.size, 6, none⟩ = some (.int .i64 long) := HK.out.cell 6
        have c7 : W.cell? ⟨w.heap.size, 7, none⟩ = some (.slice A links.length c) := HK.out.cell 7
        have c8 : W.cell? ⟨w.heap.size, 8, none⟩ = some (.slice B mem.length d) := HK.out.cell 8
        have c9 : W.cell? ⟨w.heap.size, 9, none⟩ = some (.bool true) := HK.out.cell 9
        have c10 : W.cell? ⟨w.heap.size, 10, none⟩ = some (.int .i64 age') := HK.out.cell 10
        have c11 : W.cell? ⟨w.heap.size, 11, none⟩ = some (.int .i64 kind') := HK.out.cell 11
        have c12 : W.cell? ⟨w.heap.size, 12, none⟩ = some (.int .i64 id') := HK.out.cell 12
        have c13 : W.cell? ⟨w.heap.size, 13, none⟩ = some (.int .i64 adv') := HK.out.cell 13
        have c14 : W.cell? ⟨w.heap.size, 14, none⟩ = some (.int .i64 seq') := HK.out.cell 14
        have c15 : W.cell? ⟨w.heap.size, 15, none⟩ = some (.int .i64 sum') := HK.out.cell 15
        have c16 : W.cell? ⟨w.heap.size, 16, none⟩ = some (.int .i64 long') := HK.out.cell 16
        have c17 : W.cell? ⟨w.heap.size, 17, none⟩ = some (.slice A' links'.length c') := HK.out.cell 17
        have c18 : W.cell? ⟨w.heap.size, 18, none⟩ = some (.slice B' mem'.length d') := HK.out.cell 18
        have c19 : W.cell? ⟨w.heap.size, 19, none⟩ = some (.bool true) := HK.out.cell 19
        have c20 : W.cell? ⟨w.heap.size, 20, none⟩ = some (.int .i64 last) := HK.out.cell 20
        have c21 : W.cell? ⟨w.heap.size, 21, none⟩ = some (.int .i64 at_) := HK.out.cell 21
        have c22 : W.cell? ⟨w.heap.size, 22, none⟩ = some (.bool ever) := HK.out.cell 22
        go_wp2_with fail
        refine HAL.out.mono ?_
        rintro r w0 ⟨rfl, hb0⟩
        clear c0 c1 c2 c3 c4 c5 c6 c7 c8 c9 c10 c11 c12 c13 c14 c15 c16 c17 c18 c19 c20 c21 c22
        have HB' := hide (below0 HB.out hb0)
        have HR' := hide (HR.out.below hb0 HR.out.lt)
        have HK' := hide (HK.out.below hb0 HK.out.lt)
        have HO' := hide (HO.out.below hb0)
        have HBW0 := hide hb0
        clear hb0 HAL HB HR HK HO
        cases b with
        | true =>
          have HPF := hide (show planF ⟨⟨⟨age, kind, id, adv, seq, sum, long⟩, links, mem⟩, true, ⟨⟨age', kind', id', adv', seq', sum', long'⟩, links', mem'⟩, true, last, at_, ever⟩ now = (default, 0) by (unfold planF; dsimp only; rw [if_neg (by simp), if_pos (by simpa [h20] using HBQ.out)]))
          go_wp2_with (with_reducible refine wpList_store_at rfl 27 (.tmp 4) (.tmp 43) rfl (w.heap.size + 1) lsa0 9 rfl rfl 27 lsa0 HR'.out hi hs0 ?_)
          have hkr := (HR'.out).setRow_ lsa0
          refine bodyPost_ret (results_row_tmp (fn := Try.f11) rfl _ _ (w.heap.size + 1) 27 _ _ rfl hkr Try.underlying27 rfl hi) rfl ?_
          rw [HPF.out]
          exact gives2_end (l := default) (p := ⟨none, 0, none, 0⟩) (HB'.out) rfl (Nat.le_refl _) (LOwn.none_ _ _) _
        | false =>
          have hal : (true && decide (age' < 20) && (decide (links' = links) && decide (mem' = mem))) = false := by rw [HBQ.out]; simp
          cases ever with
          | false =>
            have hnu := number_any ⟨⟨⟨age, kind, id, adv, seq, sum, long⟩, links, mem⟩, true, ⟨⟨age', kind', id', adv', seq', sum', long'⟩, links', mem'⟩, true, last, at_, false⟩ ⟨A, c, B, d⟩ ⟨A', c', B', d'⟩ w0
            have HNU := hide (show numberF ⟨⟨⟨age, kind, id, adv, seq, sum, long⟩, links, mem⟩, true, ⟨⟨age', kind', id', adv', seq', sum', long'⟩, links', mem'⟩, true, last, at_, false⟩ = (seq', true) by rfl)
            rw [HNU.out] at hnu
            have HRS := hide (show planF ⟨⟨⟨age, kind, id, adv, seq, sum, long⟩, links, mem⟩, true, ⟨⟨age', kind', id', adv', seq', sum', long'⟩, links', mem'⟩, true, last, at_, false⟩ now = restF ⟨⟨⟨age, kind, id, adv, seq, sum, long⟩, links, mem⟩, true, ⟨⟨age', kind', id', adv', seq', sum', long'⟩, links', mem'⟩, true, last, at_, false⟩ from by unfold planF; dsimp only; rw [if_neg (by simp), if_neg (by rw [hal]; simp), if_neg (by simp)])
            by_cases hL2 : seq' < 2147483647
            · have hL1 : decide (2147483647 ≤ seq') = false := decide_eq_false (by omega)
              have hL3 := decide_eq_true hL2
              have HN := hide hnu
              clear hnu
              have HTN := hide (show (mineA ⟨⟨⟨age, kind, id, adv, seq, sum, long⟩, links, mem⟩, true, ⟨⟨age', kind', id', adv', seq', sum', long'⟩, links', mem'⟩, true, last, at_, false⟩ ⟨A, c, B, d⟩ ⟨A', c', B', d'⟩).size = 23 from rfl)
              have c0 : w0.cell? ⟨w.heap.size, 0, none⟩ = some (.int .i64 age) := HK'.out.cell 0
              have c1 : w0.cell? ⟨w.heap.size, 1, none⟩ = some (.int .i64 kind) := HK'.out.cell 1
              have c2 : w0.cell? ⟨w.heap.size, 2, none⟩ = some (.int .i64 id) := HK'.out.cell 2
              have c3 : w0.cell? ⟨w.heap.size, 3, none⟩ = some (.int .i64 adv) := HK'.out.cell 3
              have c4 : w0.cell? ⟨w.heap.size, 4, none⟩ = some (.int .i64 seq) := HK'.out.cell 4
              have c5 : w0.cell? ⟨w.heap.size, 5, none⟩ = some (.int .i64 sum) := HK'.out.cell 5
              have c6 : w0.cell? ⟨w.heap.size, 6, none⟩ = some (.int .i64 long) := HK'.out.cell 6
              have c7 : w0.cell? ⟨w.heap.size, 7, none⟩ = some (.slice A links.length c) := HK'.out.cell 7
              have c8 : w0.cell? ⟨w.heap.size, 8, none⟩ = some (.slice B mem.length d) := HK'.out.cell 8
              have c9 : w0.cell? ⟨w.heap.size, 9, none⟩ = some (.bool true) := HK'.out.cell 9
              have c10 : w0.cell? ⟨w.heap.size, 10, none⟩ = some (.int .i64 age') := HK'.out.cell 10
              have c11 : w0.cell? ⟨w.heap.size, 11, none⟩ = some (.int .i64 kind') := HK'.out.cell 11
              have c12 : w0.cell? ⟨w.heap.size, 12, none⟩ = some (.int .i64 id') := HK'.out.cell 12
              have c13 : w0.cell? ⟨w.heap.size, 13, none⟩ = some (.int .i64 adv') := HK'.out.cell 13
              have c14 : w0.cell? ⟨w.heap.size, 14, none⟩ = some (.int .i64 seq') := HK'.out.cell 14
              have c15 : w0.cell? ⟨w.heap.size, 15, none⟩ = some (.int .i64 sum') := HK'.out.cell 15
              have c16 : w0.cell? ⟨w.heap.size, 16, none⟩ = some (.int .i64 long') := HK'.out.cell 16
              have c17 : w0.cell? ⟨w.heap.size, 17, none⟩ = some (.slice A' links'.length c') := HK'.out.cell 17
              have c18 : w0.cell? ⟨w.heap.size, 18, none⟩ = some (.slice B' mem'.length d') := HK'.out.cell 18
              have c19 : w0.cell? ⟨w.heap.size, 19, none⟩ = some (.bool true) := HK'.out.cell 19
              have c20 : w0.cell? ⟨w.heap.size, 20, none⟩ = some (.int .i64 last) := HK'.out.cell 20
              have c21 : w0.cell? ⟨w.heap.size, 21, none⟩ = some (.int .i64 at_) := HK'.out.cell 21
              have c22 : w0.cell? ⟨w.heap.size, 22, none⟩ = some (.bool false) := HK'.out.cell 22
              go_wp2_with (with_reducible refine wpList_load_at rfl 29 (.tmp 2) rfl w.heap.size rfl 29 _ 23 HK'.out HT.out HTN.out ?_)
              refine HN.out.mono ?_
              rintro r w1 ⟨rfl, hb1⟩
              clear c0 c1 c2 c3 c4 c5 c6 c7 c8 c9 c10 c11 c12 c13 c14 c15 c16 c17 c18 c19 c20 c21 c22
              have HB1 := hide (below0 HB'.out hb1)
              have HR1 := hide ((HR'.out).below hb1 (HR'.out).lt)
              have HK1 := hide ((HK'.out).below hb1 (HK'.out).lt)
              have HM1 := hide ((HO'.out).below hb1)
              have HBW := hide (below0 HBW0.out hb1)
              clear hb1
              have c0 : w1.cell? ⟨w.heap.size, 0, none⟩ = some (.int .i64 age) := HK1.out.cell 0
              have c1 : w1.cell? ⟨w.heap.size, 1, none⟩ = some (.int .i64 kind) := HK1.out.cell 1
              have c2 : w1.cell? ⟨w.heap.size, 2, none⟩ = some (.int .i64 id) := HK1.out.cell 2
              have c3 : w1.cell? ⟨w.heap.size, 3, none⟩ = some (.int .i64 adv) := HK1.out.cell 3
              have c4 : w1.cell? ⟨w.heap.size, 4, none⟩ = some (.int .i64 seq) := HK1.out.cell 4
              have c5 : w1.cell? ⟨w.heap.size, 5, none⟩ = some (.int .i64 sum) := HK1.out.cell 5
              have c6 : w1.cell? ⟨w.heap.size, 6, none⟩ = some (.int .i64 long) := HK1.out.cell 6
              have c7 : w1.cell? ⟨w.heap.size, 7, none⟩ = some (.slice A links.length c) := HK1.out.cell 7
              have c8 : w1.cell? ⟨w.heap.size, 8, none⟩ = some (.slice B mem.length d) := HK1.out.cell 8
              have c9 : w1.cell? ⟨w.heap.size, 9, none⟩ = some (.bool true) := HK1.out.cell 9
              have c10 : w1.cell? ⟨w.heap.size, 10, none⟩ = some (.int .i64 age') := HK1.out.cell 10
              have c11 : w1.cell? ⟨w.heap.size, 11, none⟩ = some (.int .i64 kind') := HK1.out.cell 11
              have c12 : w1.cell? ⟨w.heap.size, 12, none⟩ = some (.int .i64 id') := HK1.out.cell 12
              have c13 : w1.cell? ⟨w.heap.size, 13, none⟩ = some (.int .i64 adv') := HK1.out.cell 13
              have c14 : w1.cell? ⟨w.heap.size, 14, none⟩ = some (.int .i64 seq') := HK1.out.cell 14
              have c15 : w1.cell? ⟨w.heap.size, 15, none⟩ = some (.int .i64 sum') := HK1.out.cell 15
              have c16 : w1.cell? ⟨w.heap.size, 16, none⟩ = some (.int .i64 long') := HK1.out.cell 16
              have c17 : w1.cell? ⟨w.heap.size, 17, none⟩ = some (.slice A' links'.length c') := HK1.out.cell 17
              have c18 : w1.cell? ⟨w.heap.size, 18, none⟩ = some (.slice B' mem'.length d') := HK1.out.cell 18
              have c19 : w1.cell? ⟨w.heap.size, 19, none⟩ = some (.bool true) := HK1.out.cell 19
              have c20 : w1.cell? ⟨w.heap.size, 20, none⟩ = some (.int .i64 last) := HK1.out.cell 20
              have c21 : w1.cell? ⟨w.heap.size, 21, none⟩ = some (.int .i64 at_) := HK1.out.cell 21
              have c22 : w1.cell? ⟨w.heap.size, 22, none⟩ = some (.bool false) := HK1.out.cell 22
              have HPF := hide (show planF ⟨⟨⟨age, kind, id, adv, seq, sum, long⟩, links, mem⟩, true, ⟨⟨age', kind', id', adv', seq', sum', long'⟩, links', mem'⟩, true, last, at_, false⟩ now = (tellF ⟨⟨⟨age, kind, id, adv, seq, sum, long⟩, links, mem⟩, true, ⟨⟨age', kind', id', adv', seq', sum', long'⟩, links', mem'⟩, true, last, at_, false⟩ (seq' + 1), 1) by (rw [HRS.out, restF, HNU.out]; simp [hL2]))
              have hca := told_any ⟨⟨⟨age, kind, id, adv, seq, sum, long⟩, links, mem⟩, true, ⟨⟨age', kind', id', adv', seq', sum', long'⟩, links', mem'⟩, true, last, at_, false⟩ ⟨A, c, B, d⟩ ⟨A', c', B', d'⟩ (seq' + 1) w1 HS.out (HM1.out)
              obtain ⟨h2, hz2⟩ : ∃ h2, (tellF ⟨⟨⟨age, kind, id, adv, seq, sum, long⟩, links, mem⟩, true, ⟨⟨age', kind', id', adv', seq', sum', long'⟩, links', mem'⟩, true, last, at_, false⟩ (seq' + 1)) = ⟨h2, links, mem⟩ := sealF_form _
              obtain ⟨age2, kind2, id2, adv2, seq2, sum2, long2⟩ := h2
              rw [hz2] at HPF
              unfold tellF at hz2
              rw [hz2] at hca
              have HCA := hide hca
              clear hca hz2
              have hw2 : wrap64 (seq' + 1) = seq' + 1 := wrap_next HSQ.out hL2
              clear HNU HRS
              have HTN := hide (show (mineA ⟨⟨⟨age, kind, id, adv, seq, sum, long⟩, links, mem⟩, true, ⟨⟨age', kind', id', adv', seq', sum', long'⟩, links', mem'⟩, true, last, at_, false⟩ ⟨A, c, B, d⟩ ⟨A', c', B', d'⟩).size = 23 from rfl)
              go_wp2_with (with_reducible refine wpList_load_at rfl 29 (.tmp 2) rfl w.heap.size rfl 29 _ 23 HK1.out HT.out HTN.out ?_)
              refine HCA.out.mono ?_
              rintro r w3 ⟨⟨A2, k2, B2, d2⟩, rfl, ho2, hb2⟩
              dsimp only
              have HR3 := hide ((HR1.out).below hb2 (HR1.out).lt)
              have HB3 := hide (below0 (HB1.out) hb2)
              have HO3 := hide (ho2.mono (show w.heap.size + 2 ≤ _ by have h1 := HWS.out; have h2 := (HBW.out).size; omega))
              have hs : lsa0.size = 9 ∧ (#[.int .i64 age2, .int .i64 kind2, .int .i64 id2, .int .i64 adv2, .int .i64 seq2, .int .i64 sum2, .int .i64 long2, .slice A2 links.length k2, .slice B2 mem.length d2] : Array Value).size = 9 ∧ (#[.int .i64 age2, .int .i64 kind2, .int .i64 id2, .int .i64 adv2, .int .i64 seq2, .int .i64 sum2, .int .i64 long2, .slice A2 links.length k2, .slice B2 mem.length d2] : Array Value).all (·.oneCell') = true := ⟨rfl, rfl, by simp [Value.oneCell']⟩
              clear hb2 ho2
              clear c0 c1 c2 c3 c4 c5 c6 c7 c8 c9 c10 c11 c12 c13 c14 c15 c16 c17 c18 c19 c20 c21 c22
              go_wp2_with (with_reducible refine wpList_store_at rfl 27 (.tmp 4) (.tmp 82) rfl (w.heap.size + 1) #[.int .i64 age2, .int .i64 kind2, .int .i64 id2, .int .i64 adv2, .int .i64 seq2, .int .i64 sum2, .int .i64 long2, .slice A2 links.length k2, .slice B2 mem.length d2] 9 rfl rfl 27 lsa0 HR3.out hi hs ?_)
              have hkr := HR3.out.setRow_ #[.int .i64 age2, .int .i64 kind2, .int .i64 id2, .int .i64 adv2, .int .i64 seq2, .int .i64 sum2, .int .i64 long2, .slice A2 links.length k2, .slice B2 mem.length d2]
              refine bodyPost_ret (results_row_tmp (fn := Try.f11) rfl _ _ (w.heap.size + 1) 27 _ _ rfl hkr Try.underlying27 rfl hi) rfl ?_
              dsimp only
              rw [HPF.out]
              exact gives2_end (l := ⟨⟨age2, kind2, id2, adv2, seq2, sum2, long2⟩, links, mem⟩) (p := ⟨A2, k2, B2, d2⟩) HB3.out rfl (Nat.le_refl _) HO3.out _
            · have hL1 : decide (2147483647 ≤ seq') = true := decide_eq_true (by omega)
              have hL3 := decide_eq_false hL2
              have HN := hide hnu
              clear hnu
              have HTN := hide (show (mineA ⟨⟨⟨age, kind, id, adv, seq, sum, long⟩, links, mem⟩, true, ⟨⟨age', kind', id', adv', seq', sum', long'⟩, links', mem'⟩, true, last, at_, false⟩ ⟨A, c, B, d⟩ ⟨A', c', B', d'⟩).size = 23 from rfl)
              have c0 : w0.cell? ⟨w.heap.size, 0, none⟩ = some (.int .i64 age) := HK'.out.cell 0
              have c1 : w0.cell? ⟨w.heap.size, 1, none⟩ = some (.int .i64 kind) := HK'.out.cell 1
              have c2 : w0.cell? ⟨w.heap.size, 2, none⟩ = some (.int .i64 id) := HK'.out.cell 2
              have c3 : w0.cell? ⟨w.heap.size, 3, none⟩ = some (.int .i64 adv) := HK'.out.cell 3
              have c4 : w0.cell? ⟨w.heap.size, 4, none⟩ = some (.int .i64 seq) := HK'.out.cell 4
              have c5 : w0.cell? ⟨w.heap.size, 5, none⟩ = some (.int .i64 sum) := HK'.out.cell 5
              have c6 : w0.cell? ⟨w.heap.size, 6, none⟩ = some (.int .i64 long) := HK'.out.cell 6
              have c7 : w0.cell? ⟨w.heap.size, 7, none⟩ = some (.slice A links.length c) := HK'.out.cell 7
              have c8 : w0.cell? ⟨w.heap.size, 8, none⟩ = some (.slice B mem.length d) := HK'.out.cell 8
              have c9 : w0.cell? ⟨w.heap.size, 9, none⟩ = some (.bool true) := HK'.out.cell 9
              have c10 : w0.cell? ⟨w.heap.size, 10, none⟩ = some (.int .i64 age') := HK'.out.cell 10
              have c11 : w0.cell? ⟨w.heap.size, 11, none⟩ = some (.int .i64 kind') := HK'.out.cell 11
              have c12 : w0.cell? ⟨w.heap.size, 12, none⟩ = some (.int .i64 id') := HK'.out.cell 12
              have c13 : w0.cell? ⟨w.heap.size, 13, none⟩ = some (.int .i64 adv') := HK'.out.cell 13
              have c14 : w0.cell? ⟨w.heap.size, 14, none⟩ = some (.int .i64 seq') := HK'.out.cell 14
              have c15 : w0.cell? ⟨w.heap.size, 15, none⟩ = some (.int .i64 sum') := HK'.out.cell 15
              have c16 : w0.cell? ⟨w.heap.size, 16, none⟩ = some (.int .i64 long') := HK'.out.cell 16
              have c17 : w0.cell? ⟨w.heap.size, 17, none⟩ = some (.slice A' links'.length c') := HK'.out.cell 17
              have c18 : w0.cell? ⟨w.heap.size, 18, none⟩ = some (.slice B' mem'.length d') := HK'.out.cell 18
              have c19 : w0.cell? ⟨w.heap.size, 19, none⟩ = some (.bool true) := HK'.out.cell 19
              have c20 : w0.cell? ⟨w.heap.size, 20, none⟩ = some (.int .i64 last) := HK'.out.cell 20
              have c21 : w0.cell? ⟨w.heap.size, 21, none⟩ = some (.int .i64 at_) := HK'.out.cell 21
              have c22 : w0.cell? ⟨w.heap.size, 22, none⟩ = some (.bool false) := HK'.out.cell 22
              go_wp2_with (with_reducible refine wpList_load_at rfl 29 (.tmp 2) rfl w.heap.size rfl 29 _ 23 HK'.out HT.out HTN.out ?_)
              refine HN.out.mono ?_
              rintro r w1 ⟨rfl, hb1⟩
              clear c0 c1 c2 c3 c4 c5 c6 c7 c8 c9 c10 c11 c12 c13 c14 c15 c16 c17 c18 c19 c20 c21 c22
              have HB1 := hide (below0 HB'.out hb1)
              have HR1 := hide ((HR'.out).below hb1 (HR'.out).lt)
              have HK1 := hide ((HK'.out).below hb1 (HK'.out).lt)
              have HM1 := hide ((HO'.out).below hb1)
              have HBW := hide (below0 HBW0.out hb1)
              clear hb1
              have c0 : w1.cell? ⟨w.heap.size, 0, none⟩ = some (.int .i64 age) := HK1.out.cell 0
              have c1 : w1.cell? ⟨w.heap.size, 1, none⟩ = some (.int .i64 kind) := HK1.out.cell 1
              have c2 : w1.cell? ⟨w.heap.size, 2, none⟩ = some (.int .i64 id) := HK1.out.cell 2
              have c3 : w1.cell? ⟨w.heap.size, 3, none⟩ = some (.int .i64 adv) := HK1.out.cell 3
              have c4 : w1.cell? ⟨w.heap.size, 4, none⟩ = some (.int .i64 seq) := HK1.out.cell 4
              have c5 : w1.cell? ⟨w.heap.size, 5, none⟩ = some (.int .i64 sum) := HK1.out.cell 5
              have c6 : w1.cell? ⟨w.heap.size, 6, none⟩ = some (.int .i64 long) := HK1.out.cell 6
              have c7 : w1.cell? ⟨w.heap.size, 7, none⟩ = some (.slice A links.length c) := HK1.out.cell 7
              have c8 : w1.cell? ⟨w.heap.size, 8, none⟩ = some (.slice B mem.length d) := HK1.out.cell 8
              have c9 : w1.cell? ⟨w.heap.size, 9, none⟩ = some (.bool true) := HK1.out.cell 9
              have c10 : w1.cell? ⟨w.heap.size, 10, none⟩ = some (.int .i64 age') := HK1.out.cell 10
              have c11 : w1.cell? ⟨w.heap.size, 11, none⟩ = some (.int .i64 kind') := HK1.out.cell 11
              have c12 : w1.cell? ⟨w.heap.size, 12, none⟩ = some (.int .i64 id') := HK1.out.cell 12
              have c13 : w1.cell? ⟨w.heap.size, 13, none⟩ = some (.int .i64 adv') := HK1.out.cell 13
              have c14 : w1.cell? ⟨w.heap.size, 14, none⟩ = some (.int .i64 seq') := HK1.out.cell 14
              have c15 : w1.cell? ⟨w.heap.size, 15, none⟩ = some (.int .i64 sum') := HK1.out.cell 15
              have c16 : w1.cell? ⟨w.heap.size, 16, none⟩ = some (.int .i64 long') := HK1.out.cell 16
              have c17 : w1.cell? ⟨w.heap.size, 17, none⟩ = some (.slice A' links'.length c') := HK1.out.cell 17
              have c18 : w1.cell? ⟨w.heap.size, 18, none⟩ = some (.slice B' mem'.length d') := HK1.out.cell 18
              have c19 : w1.cell? ⟨w.heap.size, 19, none⟩ = some (.bool true) := HK1.out.cell 19
              have c20 : w1.cell? ⟨w.heap.size, 20, none⟩ = some (.int .i64 last) := HK1.out.cell 20
              have c21 : w1.cell? ⟨w.heap.size, 21, none⟩ = some (.int .i64 at_) := HK1.out.cell 21
              have c22 : w1.cell? ⟨w.heap.size, 22, none⟩ = some (.bool false) := HK1.out.cell 22
              have HPF := hide (show planF ⟨⟨⟨age, kind, id, adv, seq, sum, long⟩, links, mem⟩, true, ⟨⟨age', kind', id', adv', seq', sum', long'⟩, links', mem'⟩, true, last, at_, false⟩ now = ({ (⟨⟨⟨age, kind, id, adv, seq, sum, long⟩, links, mem⟩, true, ⟨⟨age', kind', id', adv', seq', sum', long'⟩, links', mem'⟩, true, last, at_, false⟩ : MV).held with hd := { (⟨⟨⟨age, kind, id, adv, seq, sum, long⟩, links, mem⟩, true, ⟨⟨age', kind', id', adv', seq', sum', long'⟩, links', mem'⟩, true, last, at_, false⟩ : MV).held.hd with age := 60 } }, 2) by (rw [HRS.out, restF, HNU.out]; simp [hL2, livesF, H60.out, flushF]))
              have hca := flushed_any ⟨⟨⟨age, kind, id, adv, seq, sum, long⟩, links, mem⟩, true, ⟨⟨age', kind', id', adv', seq', sum', long'⟩, links', mem'⟩, true, last, at_, false⟩ ⟨A, c, B, d⟩ ⟨A', c', B', d'⟩ w1 HS.out (HM1.out)
              obtain ⟨h2, hz2⟩ : ∃ h2, ({ (⟨⟨⟨age, kind, id, adv, seq, sum, long⟩, links, mem⟩, true, ⟨⟨age', kind', id', adv', seq', sum', long'⟩, links', mem'⟩, true, last, at_, false⟩ : MV).held with hd := { (⟨⟨⟨age, kind, id, adv, seq, sum, long⟩, links, mem⟩, true, ⟨⟨age', kind', id', adv', seq', sum', long'⟩, links', mem'⟩, true, last, at_, false⟩ : MV).held.hd with age := 60 } }) = ⟨h2, links', mem'⟩ := ⟨_, rfl⟩
              obtain ⟨age2, kind2, id2, adv2, seq2, sum2, long2⟩ := h2
              rw [hz2] at HPF
              rw [hz2] at hca
              have HCA := hide hca
              clear hca hz2
              clear HNU HRS hL2
              have HTN := hide (show (mineA ⟨⟨⟨age, kind, id, adv, seq, sum, long⟩, links, mem⟩, true, ⟨⟨age', kind', id', adv', seq', sum', long'⟩, links', mem'⟩, true, last, at_, false⟩ ⟨A, c, B, d⟩ ⟨A', c', B', d'⟩).size = 23 from rfl)
              go_wp2_with (with_reducible refine wpList_load_at rfl 29 (.tmp 2) rfl w.heap.size rfl 29 _ 23 HK1.out HT.out HTN.out ?_)
              refine HCA.out.mono ?_
              rintro r w3 ⟨⟨A2, k2, B2, d2⟩, rfl, ho2, hb2⟩
              dsimp only
              have HR3 := hide ((HR1.out).below hb2 (HR1.out).lt)
              have HB3 := hide (below0 (HB1.out) hb2)
              have HO3 := hide (ho2.mono (show w.heap.size + 2 ≤ _ by have h1 := HWS.out; have h2 := (HBW.out).size; omega))
              have hs : lsa0.size = 9 ∧ (#[.int .i64 age2, .int .i64 kind2, .int .i64 id2, .int .i64 adv2, .int .i64 seq2, .int .i64 sum2, .int .i64 long2, .slice A2 links'.length k2, .slice B2 mem'.length d2] : Array Value).size = 9 ∧ (#[.int .i64 age2, .int .i64 kind2, .int .i64 id2, .int .i64 adv2, .int .i64 seq2, .int .i64 sum2, .int .i64 long2, .slice A2 links'.length k2, .slice B2 mem'.length d2] : Array Value).all (·.oneCell') = true := ⟨rfl, rfl, by simp [Value.oneCell']⟩
              clear hb2 ho2
              clear c0 c1 c2 c3 c4 c5 c6 c7 c8 c9 c10 c11 c12 c13 c14 c15 c16 c17 c18 c19 c20 c21 c22
              go_wp2_with (with_reducible refine wpList_store_at rfl 27 (.tmp 4) (.tmp 88) rfl (w.heap.size + 1) #[.int .i64 age2, .int .i64 kind2, .int .i64 id2, .int .i64 adv2, .int .i64 seq2, .int .i64 sum2, .int .i64 long2, .slice A2 links'.length k2, .slice B2 mem'.length d2] 9 rfl rfl 27 lsa0 HR3.out hi hs ?_)
              have hkr := HR3.out.setRow_ #[.int .i64 age2, .int .i64 kind2, .int .i64 id2, .int .i64 adv2, .int .i64 seq2, .int .i64 sum2, .int .i64 long2, .slice A2 links'.length k2, .slice B2 mem'.length d2]
              refine bodyPost_ret (results_row_tmp (fn := Try.f11) rfl _ _ (w.heap.size + 1) 27 _ _ rfl hkr Try.underlying27 rfl hi) rfl ?_
              dsimp only
              rw [HPF.out]
              exact gives2_end (l := ⟨⟨age2, kind2, id2, adv2, seq2, sum2, long2⟩, links', mem'⟩) (p := ⟨A2, k2, B2, d2⟩) HB3.out rfl (Nat.le_refl _) HO3.out _
          | true =>
            have hw1 : wrap64 (now - at_) = now - at_ := wrap_sub HN1.out HA1.out
            have c0 : w0.cell? ⟨w.heap.size, 0, none⟩ = some (.int .i64 age) := HK'.out.cell 0
            have c1 : w0.cell? ⟨w.heap.size, 1, none⟩ = some (.int .i64 kind) := HK'.out.cell 1
            have c2 : w0.cell? ⟨w.heap.size, 2, none⟩ = some (.int .i64 id) := HK'.out.cell 2
            have c3 : w0.cell? ⟨w.heap.size, 3, none⟩ = some (.int .i64 adv) := HK'.out.cell 3
            have c4 : w0.cell? ⟨w.heap.size, 4, none⟩ = some (.int .i64 seq) := HK'.out.cell 4
            have c5 : w0.cell? ⟨w.heap.size, 5, none⟩ = some (.int .i64 sum) := HK'.out.cell 5
            have c6 : w0.cell? ⟨w.heap.size, 6, none⟩ = some (.int .i64 long) := HK'.out.cell 6
            have c7 : w0.cell? ⟨w.heap.size, 7, none⟩ = some (.slice A links.length c) := HK'.out.cell 7
            have c8 : w0.cell? ⟨w.heap.size, 8, none⟩ = some (.slice B mem.length d) := HK'.out.cell 8
            have c9 : w0.cell? ⟨w.heap.size, 9, none⟩ = some (.bool true) := HK'.out.cell 9
            have c10 : w0.cell? ⟨w.heap.size, 10, none⟩ = some (.int .i64 age') := HK'.out.cell 10
            have c11 : w0.cell? ⟨w.heap.size, 11, none⟩ = some (.int .i64 kind') := HK'.out.cell 11
            have c12 : w0.cell? ⟨w.heap.size, 12, none⟩ = some (.int .i64 id') := HK'.out.cell 12
            have c13 : w0.cell? ⟨w.heap.size, 13, none⟩ = some (.int .i64 adv') := HK'.out.cell 13
            have c14 : w0.cell? ⟨w.heap.size, 14, none⟩ = some (.int .i64 seq') := HK'.out.cell 14
            have c15 : w0.cell? ⟨w.heap.size, 15, none⟩ = some (.int .i64 sum') := HK'.out.cell 15
            have c16 : w0.cell? ⟨w.heap.size, 16, none⟩ = some (.int .i64 long') := HK'.out.cell 16
            have c17 : w0.cell? ⟨w.heap.size, 17, none⟩ = some (.slice A' links'.length c') := HK'.out.cell 17
            have c18 : w0.cell? ⟨w.heap.size, 18, none⟩ = some (.slice B' mem'.length d') := HK'.out.cell 18
            have c19 : w0.cell? ⟨w.heap.size, 19, none⟩ = some (.bool true) := HK'.out.cell 19
            have c20 : w0.cell? ⟨w.heap.size, 20, none⟩ = some (.int .i64 last) := HK'.out.cell 20
            have c21 : w0.cell? ⟨w.heap.size, 21, none⟩ = some (.int .i64 at_) := HK'.out.cell 21
            have c22 : w0.cell? ⟨w.heap.size, 22, none⟩ = some (.bool true) := HK'.out.cell 22
            by_cases h2 : now - at_ < 2
            · have h3 := decide_eq_true h2
              have HPF := hide (show planF ⟨⟨⟨age, kind, id, adv, seq, sum, long⟩, links, mem⟩, true, ⟨⟨age', kind', id', adv', seq', sum', long'⟩, links', mem'⟩, true, last, at_, true⟩ now = (default, 3) by (unfold planF; dsimp only; rw [if_neg (by simp), if_neg (by rw [hal]; simp), if_pos (by simpa using h2)]))
              go_wp2_with (with_reducible refine wpList_store_at rfl 27 (.tmp 4) (.tmp 53) rfl (w.heap.size + 1) lsa0 9 rfl rfl 27 lsa0 HR'.out hi hs0 ?_)
              have hkr := (HR'.out).setRow_ lsa0
              refine bodyPost_ret (results_row_tmp (fn := Try.f11) rfl _ _ (w.heap.size + 1) 27 _ _ rfl hkr Try.underlying27 rfl hi) rfl ?_
              rw [HPF.out]
              exact gives2_end (l := default) (p := ⟨none, 0, none, 0⟩) (HB'.out) rfl (Nat.le_refl _) (LOwn.none_ _ _) _
            · have h3 := decide_eq_false h2
              clear c0 c1 c2 c3 c4 c5 c6 c7 c8 c9 c10 c11 c12 c13 c14 c15 c16 c17 c18 c19 c20 c21 c22
              have hnu := number_any ⟨⟨⟨age, kind, id, adv, seq, sum, long⟩, links, mem⟩, true, ⟨⟨age', kind', id', adv', seq', sum', long'⟩, links', mem'⟩, true, last, at_, true⟩ ⟨A, c, B, d⟩ ⟨A', c', B', d'⟩ w0
              have HNU := hide (show numberF ⟨⟨⟨age, kind, id, adv, seq, sum, long⟩, links, mem⟩, true, ⟨⟨age', kind', id', adv', seq', sum', long'⟩, links', mem'⟩, true, last, at_, true⟩ = (max seq' last, true) by rfl)
              rw [HNU.out] at hnu
              have HRS := hide (show planF ⟨⟨⟨age, kind, id, adv, seq, sum, long⟩, links, mem⟩, true, ⟨⟨age', kind', id', adv', seq', sum', long'⟩, links', mem'⟩, true, last, at_, true⟩ now = restF ⟨⟨⟨age, kind, id, adv, seq, sum, long⟩, links, mem⟩, true, ⟨⟨age', kind', id', adv', seq', sum', long'⟩, links', mem'⟩, true, last, at_, true⟩ from by unfold planF; dsimp only; rw [if_neg (by simp), if_neg (by rw [hal]; simp), if_neg (by simpa using h2)])
              have HMX := hide (show -9223372036854775808 ≤ max seq' last by have := HLA.out; omega)
              generalize max seq' last = mx at hnu HNU HMX
              by_cases hL2 : mx < 2147483647
              · have hL1 : decide (2147483647 ≤ mx) = false := decide_eq_false (by omega)
                have hL3 := decide_eq_true hL2
                have HN := hide hnu
                clear hnu
                have HTN := hide (show (mineA ⟨⟨⟨age, kind, id, adv, seq, sum, long⟩, links, mem⟩, true, ⟨⟨age', kind', id', adv', seq', sum', long'⟩, links', mem'⟩, true, last, at_, true⟩ ⟨A, c, B, d⟩ ⟨A', c', B', d'⟩).size = 23 from rfl)
                have c0 : w0.cell? ⟨w.heap.size, 0, none⟩ = some (.int .i64 age) := HK'.out.cell 0
                have c1 : w0.cell? ⟨w.heap.size, 1, none⟩ = some (.int .i64 kind) := HK'.out.cell 1
                have c2 : w0.cell? ⟨w.heap.size, 2, none⟩ = some (.int .i64 id) := HK'.out.cell 2
                have c3 : w0.cell? ⟨w.heap.size, 3, none⟩ = some (.int .i64 adv) := HK'.out.cell 3
                have c4 : w0.cell? ⟨w.heap.size, 4, none⟩ = some (.int .i64 seq) := HK'.out.cell 4
                have c5 : w0.cell? ⟨w.heap.size, 5, none⟩ = some (.int .i64 sum) := HK'.out.cell 5
                have c6 : w0.cell? ⟨w.heap.size, 6, none⟩ = some (.int .i64 long) := HK'.out.cell 6
                have c7 : w0.cell? ⟨w.heap.size, 7, none⟩ = some (.slice A links.length c) := HK'.out.cell 7
                have c8 : w0.cell? ⟨w.heap.size, 8, none⟩ = some (.slice B mem.length d) := HK'.out.cell 8
                have c9 : w0.cell? ⟨w.heap.size, 9, none⟩ = some (.bool true) := HK'.out.cell 9
                have c10 : w0.cell? ⟨w.heap.size, 10, none⟩ = some (.int .i64 age') := HK'.out.cell 10
                have c11 : w0.cell? ⟨w.heap.size, 11, none⟩ = some (.int .i64 kind') := HK'.out.cell 11
                have c12 : w0.cell? ⟨w.heap.size, 12, none⟩ = some (.int .i64 id') := HK'.out.cell 12
                have c13 : w0.cell? ⟨w.heap.size, 13, none⟩ = some (.int .i64 adv') := HK'.out.cell 13
                have c14 : w0.cell? ⟨w.heap.size, 14, none⟩ = some (.int .i64 seq') := HK'.out.cell 14
                have c15 : w0.cell? ⟨w.heap.size, 15, none⟩ = some (.int .i64 sum') := HK'.out.cell 15
                have c16 : w0.cell? ⟨w.heap.size, 16, none⟩ = some (.int .i64 long') := HK'.out.cell 16
                have c17 : w0.cell? ⟨w.heap.size, 17, none⟩ = some (.slice A' links'.length c') := HK'.out.cell 17
                have c18 : w0.cell? ⟨w.heap.size, 18, none⟩ = some (.slice B' mem'.length d') := HK'.out.cell 18
                have c19 : w0.cell? ⟨w.heap.size, 19, none⟩ = some (.bool true) := HK'.out.cell 19
                have c20 : w0.cell? ⟨w.heap.size, 20, none⟩ = some (.int .i64 last) := HK'.out.cell 20
                have c21 : w0.cell? ⟨w.heap.size, 21, none⟩ = some (.int .i64 at_) := HK'.out.cell 21
                have c22 : w0.cell? ⟨w.heap.size, 22, none⟩ = some (.bool true) := HK'.out.cell 22
                go_wp2_with (with_reducible refine wpList_load_at rfl 29 (.tmp 2) rfl w.heap.size rfl 29 _ 23 HK'.out HT.out HTN.out ?_)
                refine HN.out.mono ?_
                rintro r w1 ⟨rfl, hb1⟩
                clear c0 c1 c2 c3 c4 c5 c6 c7 c8 c9 c10 c11 c12 c13 c14 c15 c16 c17 c18 c19 c20 c21 c22
                have HB1 := hide (below0 HB'.out hb1)
                have HR1 := hide ((HR'.out).below hb1 (HR'.out).lt)
                have HK1 := hide ((HK'.out).below hb1 (HK'.out).lt)
                have HM1 := hide ((HO'.out).below hb1)
                have HBW := hide (below0 HBW0.out hb1)
                clear hb1
                have c0 : w1.cell? ⟨w.heap.size, 0, none⟩ = some (.int .i64 age) := HK1.out.cell 0
                have c1 : w1.cell? ⟨w.heap.size, 1, none⟩ = some (.int .i64 kind) := HK1.out.cell 1
                have c2 : w1.cell? ⟨w.heap.size, 2, none⟩ = some (.int .i64 id) := HK1.out.cell 2
                have c3 : w1.cell? ⟨w.heap.size, 3, none⟩ = some (.int .i64 adv) := HK1.out.cell 3
                have c4 : w1.cell? ⟨w.heap.size, 4, none⟩ = some (.int .i64 seq) := HK1.out.cell 4
                have c5 : w1.cell? ⟨w.heap.size, 5, none⟩ = some (.int .i64 sum) := HK1.out.cell 5
                have c6 : w1.cell? ⟨w.heap.size, 6, none⟩ = some (.int .i64 long) := HK1.out.cell 6
                have c7 : w1.cell? ⟨w.heap.size, 7, none⟩ = some (.slice A links.length c) := HK1.out.cell 7
                have c8 : w1.cell? ⟨w.heap.size, 8, none⟩ = some (.slice B mem.length d) := HK1.out.cell 8
                have c9 : w1.cell? ⟨w.heap.size, 9, none⟩ = some (.bool true) := HK1.out.cell 9
                have c10 : w1.cell? ⟨w.heap.size, 10, none⟩ = some (.int .i64 age') := HK1.out.cell 10
                have c11 : w1.cell? ⟨w.heap.size, 11, none⟩ = some (.int .i64 kind') := HK1.out.cell 11
                have c12 : w1.cell? ⟨w.heap.size, 12, none⟩ = some (.int .i64 id') := HK1.out.cell 12
                have c13 : w1.cell? ⟨w.heap.size, 13, none⟩ = some (.int .i64 adv') := HK1.out.cell 13
                have c14 : w1.cell? ⟨w.heap.size, 14, none⟩ = some (.int .i64 seq') := HK1.out.cell 14
                have c15 : w1.cell? ⟨w.heap.size, 15, none⟩ = some (.int .i64 sum') := HK1.out.cell 15
                have c16 : w1.cell? ⟨w.heap.size, 16, none⟩ = some (.int .i64 long') := HK1.out.cell 16
                have c17 : w1.cell? ⟨w.heap.size, 17, none⟩ = some (.slice A' links'.length c') := HK1.out.cell 17
                have c18 : w1.cell? ⟨w.heap.size, 18, none⟩ = some (.slice B' mem'.length d') := HK1.out.cell 18
                have c19 : w1.cell? ⟨w.heap.size, 19, none⟩ = some (.bool true) := HK1.out.cell 19
                have c20 : w1.cell? ⟨w.heap.size, 20, none⟩ = some (.int .i64 last) := HK1.out.cell 20
                have c21 : w1.cell? ⟨w.heap.size, 21, none⟩ = some (.int .i64 at_) := HK1.out.cell 21
                have c22 : w1.cell? ⟨w.heap.size, 22, none⟩ = some (.bool true) := HK1.out.cell 22
                have HPF := hide (show planF ⟨⟨⟨age, kind, id, adv, seq, sum, long⟩, links, mem⟩, true, ⟨⟨age', kind', id', adv', seq', sum', long'⟩, links', mem'⟩, true, last, at_, true⟩ now = (tellF ⟨⟨⟨age, kind, id, adv, seq, sum, long⟩, links, mem⟩, true, ⟨⟨age', kind', id', adv', seq', sum', long'⟩, links', mem'⟩, true, last, at_, true⟩ (mx + 1), 1) by (rw [HRS.out, restF, HNU.out]; simp [hL2]))
                have hca := told_any ⟨⟨⟨age, kind, id, adv, seq, sum, long⟩, links, mem⟩, true, ⟨⟨age', kind', id', adv', seq', sum', long'⟩, links', mem'⟩, true, last, at_, true⟩ ⟨A, c, B, d⟩ ⟨A', c', B', d'⟩ (mx + 1) w1 HS.out (HM1.out)
                obtain ⟨h2, hz2⟩ : ∃ h2, (tellF ⟨⟨⟨age, kind, id, adv, seq, sum, long⟩, links, mem⟩, true, ⟨⟨age', kind', id', adv', seq', sum', long'⟩, links', mem'⟩, true, last, at_, true⟩ (mx + 1)) = ⟨h2, links, mem⟩ := sealF_form _
                obtain ⟨age2, kind2, id2, adv2, seq2, sum2, long2⟩ := h2
                rw [hz2] at HPF
                unfold tellF at hz2
                rw [hz2] at hca
                have HCA := hide hca
                clear hca hz2
                have hw2 : wrap64 (mx + 1) = mx + 1 := wrap_next HMX.out hL2
                clear HNU HRS
                have HTN := hide (show (mineA ⟨⟨⟨age, kind, id, adv, seq, sum, long⟩, links, mem⟩, true, ⟨⟨age', kind', id', adv', seq', sum', long'⟩, links', mem'⟩, true, last, at_, true⟩ ⟨A, c, B, d⟩ ⟨A', c', B', d'⟩).size = 23 from rfl)
                go_wp2_with (with_reducible refine wpList_load_at rfl 29 (.tmp 2) rfl w.heap.size rfl 29 _ 23 HK1.out HT.out HTN.out ?_)
                refine HCA.out.mono ?_
                rintro r w3 ⟨⟨A2, k2, B2, d2⟩, rfl, ho2, hb2⟩
                dsimp only
                have HR3 := hide ((HR1.out).below hb2 (HR1.out).lt)
                have HB3 := hide (below0 (HB1.out) hb2)
                have HO3 := hide (ho2.mono (show w.heap.size + 2 ≤ _ by have h1 := HWS.out; have h2 := (HBW.out).size; omega))
                have hs : lsa0.size = 9 ∧ (#[.int .i64 age2, .int .i64 kind2, .int .i64 id2, .int .i64 adv2, .int .i64 seq2, .int .i64 sum2, .int .i64 long2, .slice A2 links.length k2, .slice B2 mem.length d2] : Array Value).size = 9 ∧ (#[.int .i64 age2, .int .i64 kind2, .int .i64 id2, .int .i64 adv2, .int .i64 seq2, .int .i64 sum2, .int .i64 long2, .slice A2 links.length k2, .slice B2 mem.length d2] : Array Value).all (·.oneCell') = true := ⟨rfl, rfl, by simp [Value.oneCell']⟩
                clear hb2 ho2
                clear c0 c1 c2 c3 c4 c5 c6 c7 c8 c9 c10 c11 c12 c13 c14 c15 c16 c17 c18 c19 c20 c21 c22
                go_wp2_with (with_reducible refine wpList_store_at rfl 27 (.tmp 4) (.tmp 82) rfl (w.heap.size + 1) #[.int .i64 age2, .int .i64 kind2, .int .i64 id2, .int .i64 adv2, .int .i64 seq2, .int .i64 sum2, .int .i64 long2, .slice A2 links.length k2, .slice B2 mem.length d2] 9 rfl rfl 27 lsa0 HR3.out hi hs ?_)
                have hkr := HR3.out.setRow_ #[.int .i64 age2, .int .i64 kind2, .int .i64 id2, .int .i64 adv2, .int .i64 seq2, .int .i64 sum2, .int .i64 long2, .slice A2 links.length k2, .slice B2 mem.length d2]
                refine bodyPost_ret (results_row_tmp (fn := Try.f11) rfl _ _ (w.heap.size + 1) 27 _ _ rfl hkr Try.underlying27 rfl hi) rfl ?_
                dsimp only
                rw [HPF.out]
                exact gives2_end (l := ⟨⟨age2, kind2, id2, adv2, seq2, sum2, long2⟩, links, mem⟩) (p := ⟨A2, k2, B2, d2⟩) HB3.out rfl (Nat.le_refl _) HO3.out _
              · have hL1 : decide (2147483647 ≤ mx) = true := decide_eq_true (by omega)
                have hL3 := decide_eq_false hL2
                have HN := hide hnu
                clear hnu
                have HTN := hide (show (mineA ⟨⟨⟨age, kind, id, adv, seq, sum, long⟩, links, mem⟩, true, ⟨⟨age', kind', id', adv', seq', sum', long'⟩, links', mem'⟩, true, last, at_, true⟩ ⟨A, c, B, d⟩ ⟨A', c', B', d'⟩).size = 23 from rfl)
                have c0 : w0.cell? ⟨w.heap.size, 0, none⟩ = some (.int .i64 age) := HK'.out.cell 0
                have c1 : w0.cell? ⟨w.heap.size, 1, none⟩ = some (.int .i64 kind) := HK'.out.cell 1
                have c2 : w0.cell? ⟨w.heap.size, 2, none⟩ = some (.int .i64 id) := HK'.out.cell 2
                have c3 : w0.cell? ⟨w.heap.size, 3, none⟩ = some (.int .i64 adv) := HK'.out.cell 3
                have c4 : w0.cell? ⟨w.heap.size, 4, none⟩ = some (.int .i64 seq) := HK'.out.cell 4
                have c5 : w0.cell? ⟨w.heap.size, 5, none⟩ = some (.int .i64 sum) := HK'.out.cell 5
                have c6 : w0.cell? ⟨w.heap.size, 6, none⟩ = some (.int .i64 long) := HK'.out.cell 6
                have c7 : w0.cell? ⟨w.heap.size, 7, none⟩ = some (.slice A links.length c) := HK'.out.cell 7
                have c8 : w0.cell? ⟨w.heap.size, 8, none⟩ = some (.slice B mem.length d) := HK'.out.cell 8
                have c9 : w0.cell? ⟨w.heap.size, 9, none⟩ = some (.bool true) := HK'.out.cell 9
                have c10 : w0.cell? ⟨w.heap.size, 10, none⟩ = some (.int .i64 age') := HK'.out.cell 10
                have c11 : w0.cell? ⟨w.heap.size, 11, none⟩ = some (.int .i64 kind') := HK'.out.cell 11
                have c12 : w0.cell? ⟨w.heap.size, 12, none⟩ = some (.int .i64 id') := HK'.out.cell 12
                have c13 : w0.cell? ⟨w.heap.size, 13, none⟩ = some (.int .i64 adv') := HK'.out.cell 13
                have c14 : w0.cell? ⟨w.heap.size, 14, none⟩ = some (.int .i64 seq') := HK'.out.cell 14
                have c15 : w0.cell? ⟨w.heap.size, 15, none⟩ = some (.int .i64 sum') := HK'.out.cell 15
                have c16 : w0.cell? ⟨w.heap.size, 16, none⟩ = some (.int .i64 long') := HK'.out.cell 16
                have c17 : w0.cell? ⟨w.heap.size, 17, none⟩ = some (.slice A' links'.length c') := HK'.out.cell 17
                have c18 : w0.cell? ⟨w.heap.size, 18, none⟩ = some (.slice B' mem'.length d') := HK'.out.cell 18
                have c19 : w0.cell? ⟨w.heap.size, 19, none⟩ = some (.bool true) := HK'.out.cell 19
                have c20 : w0.cell? ⟨w.heap.size, 20, none⟩ = some (.int .i64 last) := HK'.out.cell 20
                have c21 : w0.cell? ⟨w.heap.size, 21, none⟩ = some (.int .i64 at_) := HK'.out.cell 21
                have c22 : w0.cell? ⟨w.heap.size, 22, none⟩ = some (.bool true) := HK'.out.cell 22
                go_wp2_with (with_reducible refine wpList_load_at rfl 29 (.tmp 2) rfl w.heap.size rfl 29 _ 23 HK'.out HT.out HTN.out ?_)
                refine HN.out.mono ?_
                rintro r w1 ⟨rfl, hb1⟩
                clear c0 c1 c2 c3 c4 c5 c6 c7 c8 c9 c10 c11 c12 c13 c14 c15 c16 c17 c18 c19 c20 c21 c22
                have HB1 := hide (below0 HB'.out hb1)
                have HR1 := hide ((HR'.out).below hb1 (HR'.out).lt)
                have HK1 := hide ((HK'.out).below hb1 (HK'.out).lt)
                have HM1 := hide ((HO'.out).below hb1)
                have HBW := hide (below0 HBW0.out hb1)
                clear hb1
                have c0 : w1.cell? ⟨w.heap.size, 0, none⟩ = some (.int .i64 age) := HK1.out.cell 0
                have c1 : w1.cell? ⟨w.heap.size, 1, none⟩ = some (.int .i64 kind) := HK1.out.cell 1
                have c2 : w1.cell? ⟨w.heap.size, 2, none⟩ = some (.int .i64 id) := HK1.out.cell 2
                have c3 : w1.cell? ⟨w.heap.size, 3, none⟩ = some (.int .i64 adv) := HK1.out.cell 3
                have c4 : w1.cell? ⟨w.heap.size, 4, none⟩ = some (.int .i64 seq) := HK1.out.cell 4
                have c5 : w1.cell? ⟨w.heap.size, 5, none⟩ = some (.int .i64 sum) := HK1.out.cell 5
                have c6 : w1.cell? ⟨w.heap.size, 6, none⟩ = some (.int .i64 long) := HK1.out.cell 6
                have c7 : w1.cell? ⟨w.heap.size, 7, none⟩ = some (.slice A links.length c) := HK1.out.cell 7
                have c8 : w1.cell? ⟨w.heap.size, 8, none⟩ = some (.slice B mem.length d) := HK1.out.cell 8
                have c9 : w1.cell? ⟨w.heap.size, 9, none⟩ = some (.bool true) := HK1.out.cell 9
                have c10 : w1.cell? ⟨w.heap.size, 10, none⟩ = some (.int .i64 age') := HK1.out.cell 10
                have c11 : w1.cell? ⟨w.heap.size, 11, none⟩ = some (.int .i64 kind') := HK1.out.cell 11
                have c12 : w1.cell? ⟨w.heap.size, 12, none⟩ = some (.int .i64 id') := HK1.out.cell 12
                have c13 : w1.cell? ⟨w.heap.size, 13, none⟩ = some (.int .i64 adv') := HK1.out.cell 13
                have c14 : w1.cell? ⟨w.heap.size, 14, none⟩ = some (.int .i64 seq') := HK1.out.cell 14
                have c15 : w1.cell? ⟨w.heap.size, 15, none⟩ = some (.int .i64 sum') := HK1.out.cell 15
                have c16 : w1.cell? ⟨w.heap.size, 16, none⟩ = some (.int .i64 long') := HK1.out.cell 16
                have c17 : w1.cell? ⟨w.heap.size, 17, none⟩ = some (.slice A' links'.length c') := HK1.out.cell 17
                have c18 : w1.cell? ⟨w.heap.size, 18, none⟩ = some (.slice B' mem'.length d') := HK1.out.cell 18
                have c19 : w1.cell? ⟨w.heap.size, 19, none⟩ = some (.bool true) := HK1.out.cell 19
                have c20 : w1.cell? ⟨w.heap.size, 20, none⟩ = some (.int .i64 last) := HK1.out.cell 20
                have c21 : w1.cell? ⟨w.heap.size, 21, none⟩ = some (.int .i64 at_) := HK1.out.cell 21
                have c22 : w1.cell? ⟨w.heap.size, 22, none⟩ = some (.bool true) := HK1.out.cell 22
                have HPF := hide (show planF ⟨⟨⟨age, kind, id, adv, seq, sum, long⟩, links, mem⟩, true, ⟨⟨age', kind', id', adv', seq', sum', long'⟩, links', mem'⟩, true, last, at_, true⟩ now = ({ (⟨⟨⟨age, kind, id, adv, seq, sum, long⟩, links, mem⟩, true, ⟨⟨age', kind', id', adv', seq', sum', long'⟩, links', mem'⟩, true, last, at_, true⟩ : MV).held with hd := { (⟨⟨⟨age, kind, id, adv, seq, sum, long⟩, links, mem⟩, true, ⟨⟨age', kind', id', adv', seq', sum', long'⟩, links', mem'⟩, true, last, at_, true⟩ : MV).held.hd with age := 60 } }, 2) by (rw [HRS.out, restF, HNU.out]; simp [hL2, livesF, H60.out, flushF]))
                have hca := flushed_any ⟨⟨⟨age, kind, id, adv, seq, sum, long⟩, links, mem⟩, true, ⟨⟨age', kind', id', adv', seq', sum', long'⟩, links', mem'⟩, true, last, at_, true⟩ ⟨A, c, B, d⟩ ⟨A', c', B', d'⟩ w1 HS.out (HM1.out)
                obtain ⟨h2, hz2⟩ : ∃ h2, ({ (⟨⟨⟨age, kind, id, adv, seq, sum, long⟩, links, mem⟩, true, ⟨⟨age', kind', id', adv', seq', sum', long'⟩, links', mem'⟩, true, last, at_, true⟩ : MV).held with hd := { (⟨⟨⟨age, kind, id, adv, seq, sum, long⟩, links, mem⟩, true, ⟨⟨age', kind', id', adv', seq', sum', long'⟩, links', mem'⟩, true, last, at_, true⟩ : MV).held.hd with age := 60 } }) = ⟨h2, links', mem'⟩ := ⟨_, rfl⟩
                obtain ⟨age2, kind2, id2, adv2, seq2, sum2, long2⟩ := h2
                rw [hz2] at HPF
                rw [hz2] at hca
                have HCA := hide hca
                clear hca hz2
                clear HNU HRS hL2
                have HTN := hide (show (mineA ⟨⟨⟨age, kind, id, adv, seq, sum, long⟩, links, mem⟩, true, ⟨⟨age', kind', id', adv', seq', sum', long'⟩, links', mem'⟩, true, last, at_, true⟩ ⟨A, c, B, d⟩ ⟨A', c', B', d'⟩).size = 23 from rfl)
                go_wp2_with (with_reducible refine wpList_load_at rfl 29 (.tmp 2) rfl w.heap.size rfl 29 _ 23 HK1.out HT.out HTN.out ?_)
                refine HCA.out.mono ?_
                rintro r w3 ⟨⟨A2, k2, B2, d2⟩, rfl, ho2, hb2⟩
                dsimp only
                have HR3 := hide ((HR1.out).below hb2 (HR1.out).lt)
                have HB3 := hide (below0 (HB1.out) hb2)
                have HO3 := hide (ho2.mono (show w.heap.size + 2 ≤ _ by have h1 := HWS.out; have h2 := (HBW.out).size; omega))
                have hs : lsa0.size = 9 ∧ (#[.int .i64 age2, .int .i64 kind2, .int .i64 id2, .int .i64 adv2, .int .i64 seq2, .int .i64 sum2, .int .i64 long2, .slice A2 links'.length k2, .slice B2 mem'.length d2] : Array Value).size = 9 ∧ (#[.int .i64 age2, .int .i64 kind2, .int .i64 id2, .int .i64 adv2, .int .i64 seq2, .int .i64 sum2, .int .i64 long2, .slice A2 links'.length k2, .slice B2 mem'.length d2] : Array Value).all (·.oneCell') = true := ⟨rfl, rfl, by simp [Value.oneCell']⟩
                clear hb2 ho2
                clear c0 c1 c2 c3 c4 c5 c6 c7 c8 c9 c10 c11 c12 c13 c14 c15 c16 c17 c18 c19 c20 c21 c22
                go_wp2_with (with_reducible refine wpList_store_at rfl 27 (.tmp 4) (.tmp 88) rfl (w.heap.size + 1) #[.int .i64 age2, .int .i64 kind2, .int .i64 id2, .int .i64 adv2, .int .i64 seq2, .int .i64 sum2, .int .i64 long2, .slice A2 links'.length k2, .slice B2 mem'.length d2] 9 rfl rfl 27 lsa0 HR3.out hi hs ?_)
                have hkr := HR3.out.setRow_ #[.int .i64 age2, .int .i64 kind2, .int .i64 id2, .int .i64 adv2, .int .i64 seq2, .int .i64 sum2, .int .i64 long2, .slice A2 links'.length k2, .slice B2 mem'.length d2]
                refine bodyPost_ret (results_row_tmp (fn := Try.f11) rfl _ _ (w.heap.size + 1) 27 _ _ rfl hkr Try.underlying27 rfl hi) rfl ?_
                dsimp only
                rw [HPF.out]
                exact gives2_end (l := ⟨⟨age2, kind2, id2, adv2, seq2, sum2, long2⟩, links', mem'⟩) (p := ⟨A2, k2, B2, d2⟩) HB3.out rfl (Nat.le_refl _) HO3.out _
      · have h21 := decide_eq_false h20
        have hal : (true && decide (age' < 20) && (decide (links' = links) && decide (mem' = mem))) = false := by simp [h20]
        cases ever with
        | false =>
          have hnu := number_any ⟨⟨⟨age, kind, id, adv, seq, sum, long⟩, links, mem⟩, true, ⟨⟨age', kind', id', adv', seq', sum', long'⟩, links', mem'⟩, true, last, at_, false⟩ ⟨A, c, B, d⟩ ⟨A', c', B', d'⟩ W
          have HNU := hide (show numberF ⟨⟨⟨age, kind, id, adv, seq, sum, long⟩, links, mem⟩, true, ⟨⟨age', kind', id', adv', seq', sum', long'⟩, links', mem'⟩, true, last, at_, false⟩ = (seq', true) by rfl)
          rw [HNU.out] at hnu
          have HRS := hide (show planF ⟨⟨⟨age, kind, id, adv, seq, sum, long⟩, links, mem⟩, true, ⟨⟨age', kind', id', adv', seq', sum', long'⟩, links', mem'⟩, true, last, at_, false⟩ now = restF ⟨⟨⟨age, kind, id, adv, seq, sum, long⟩, links, mem⟩, true, ⟨⟨age', kind', id', adv', seq', sum', long'⟩, links', mem'⟩, true, last, at_, false⟩ from by unfold planF; dsimp only; rw [if_neg (by simp), if_neg (by rw [hal]; simp), if_neg (by simp)])
          by_cases hL2 : seq' < 2147483647
          · have hL1 : decide (2147483647 ≤ seq') = false := decide_eq_false (by omega)
            have hL3 := decide_eq_true hL2
            have HN := hide hnu
            clear hnu
            have HTN := hide (show (mineA ⟨⟨⟨age, kind, id, adv, seq, sum, long⟩, links, mem⟩, true, ⟨⟨age', kind', id', adv', seq', sum', long'⟩, links', mem'⟩, true, last, at_, false⟩ ⟨A, c, B, d⟩ ⟨A', c', B', d'⟩).size = 23 from rfl)
            have c0 : W.cell? ⟨w.heap.size, 0, none⟩ = some (.int .i64 age) := HK.out.cell 0
            have c1 : W.cell? ⟨w.heap.size, 1, none⟩ = some (.int .i64 kind) := HK.out.cell 1
            have c2 : W.cell? ⟨w.heap.size, 2, none⟩ = some (.int .i64 id) := HK.out.cell 2
            have c3 : W.cell? ⟨w.heap.size, 3, none⟩ = some (.int .i64 adv) := HK.out.cell 3
            have c4 : W.cell? ⟨w.heap.size, 4, none⟩ = some (.int .i64 seq) := HK.out.cell 4
            have c5 : W.cell? ⟨w.heap.size, 5, none⟩ = some (.int .i64 sum) := HK.out.cell 5
            have c6 : W.cell? ⟨w.heap.size, 6, none⟩ = some (.int .i64 long) := HK.out.cell 6
            have c7 : W.cell? ⟨w.heap.size, 7, none⟩ = some (.slice A links.length c) := HK.out.cell 7
            have c8 : W.cell? ⟨w.heap.size, 8, none⟩ = some (.slice B mem.length d) := HK.out.cell 8
            have c9 : W.cell? ⟨w.heap.size, 9, none⟩ = some (.bool true) := HK.out.cell 9
            have c10 : W.cell? ⟨w.heap.size, 10, none⟩ = some (.int .i64 age') := HK.out.cell 10
            have c11 : W.cell? ⟨w.heap.size, 11, none⟩ = some (.int .i64 kind') := HK.out.cell 11
            have c12 : W.cell? ⟨w.heap.size, 12, none⟩ = some (.int .i64 id') := HK.out.cell 12
            have c13 : W.cell? ⟨w.heap.size, 13, none⟩ = some (.int .i64 adv') := HK.out.cell 13
            have c14 : W.cell? ⟨w.heap.size, 14, none⟩ = some (.int .i64 seq') := HK.out.cell 14
            have c15 : W.cell? ⟨w.heap.size, 15, none⟩ = some (.int .i64 sum') := HK.out.cell 15
            have c16 : W.cell? ⟨w.heap.size, 16, none⟩ = some (.int .i64 long') := HK.out.cell 16
            have c17 : W.cell? ⟨w.heap.size, 17, none⟩ = some (.slice A' links'.length c') := HK.out.cell 17
            have c18 : W.cell? ⟨w.heap.size, 18, none⟩ = some (.slice B' mem'.length d') := HK.out.cell 18
            have c19 : W.cell? ⟨w.heap.size, 19, none⟩ = some (.bool true) := HK.out.cell 19
            have c20 : W.cell? ⟨w.heap.size, 20, none⟩ = some (.int .i64 last) := HK.out.cell 20
            have c21 : W.cell? ⟨w.heap.size, 21, none⟩ = some (.int .i64 at_) := HK.out.cell 21
            have c22 : W.cell? ⟨w.heap.size, 22, none⟩ = some (.bool false) := HK.out.cell 22
            go_wp2_with (with_reducible refine wpList_load_at rfl 29 (.tmp 2) rfl w.heap.size rfl 29 _ 23 HK.out HT.out HTN.out ?_)
            refine HN.out.mono ?_
            rintro r w1 ⟨rfl, hb1⟩
            clear c0 c1 c2 c3 c4 c5 c6 c7 c8 c9 c10 c11 c12 c13 c14 c15 c16 c17 c18 c19 c20 c21 c22
            have HB1 := hide (below0 HB.out hb1)
            have HR1 := hide ((HR.out).below hb1 (HR.out).lt)
            have HK1 := hide ((HK.out).below hb1 (HK.out).lt)
            have HM1 := hide ((HO.out).below hb1)
            have HBW := hide (hb1)
            clear hb1
            have c0 : w1.cell? ⟨w.heap.size, 0, none⟩ = some (.int .i64 age) := HK1.out.cell 0
            have c1 : w1.cell? ⟨w.heap.size, 1, none⟩ = some (.int .i64 kind) := HK1.out.cell 1
            have c2 : w1.cell? ⟨w.heap.size, 2, none⟩ = some (.int .i64 id) := HK1.out.cell 2
            have c3 : w1.cell? ⟨w.heap.size, 3, none⟩ = some (.int .i64 adv) := HK1.out.cell 3
            have c4 : w1.cell? ⟨w.heap.size, 4, none⟩ = some (.int .i64 seq) := HK1.out.cell 4
            have c5 : w1.cell? ⟨w.heap.size, 5, none⟩ = some (.int .i64 sum) := HK1.out.cell 5
            have c6 : w1.cell? ⟨w.heap.size, 6, none⟩ = some (.int .i64 long) := HK1.out.cell 6
            have c7 : w1.cell? ⟨w.heap.size, 7, none⟩ = some (.slice A links.length c) := HK1.out.cell 7
            have c8 : w1.cell? ⟨w.heap.size, 8, none⟩ = some (.slice B mem.length d) := HK1.out.cell 8
            have c9 : w1.cell? ⟨w.heap.size, 9, none⟩ = some (.bool true) := HK1.out.cell 9
            have c10 : w1.cell? ⟨w.heap.size, 10, none⟩ = some (.int .i64 age') := HK1.out.cell 10
            have c11 : w1.cell? ⟨w.heap.size, 11, none⟩ = some (.int .i64 kind') := HK1.out.cell 11
            have c12 : w1.cell? ⟨w.heap.size, 12, none⟩ = some (.int .i64 id') := HK1.out.cell 12
            have c13 : w1.cell? ⟨w.heap.size, 13, none⟩ = some (.int .i64 adv') := HK1.out.cell 13
            have c14 : w1.cell? ⟨w.heap.size, 14, none⟩ = some (.int .i64 seq') := HK1.out.cell 14
            have c15 : w1.cell? ⟨w.heap.size, 15, none⟩ = some (.int .i64 sum') := HK1.out.cell 15
            have c16 : w1.cell? ⟨w.heap.size, 16, none⟩ = some (.int .i64 long') := HK1.out.cell 16
            have c17 : w1.cell? ⟨w.heap.size, 17, none⟩ = some (.slice A' links'.length c') := HK1.out.cell 17
            have c18 : w1.cell? ⟨w.heap.size, 18, none⟩ = some (.slice B' mem'.length d') := HK1.out.cell 18
            have c19 : w1.cell? ⟨w.heap.size, 19, none⟩ = some (.bool true) := HK1.out.cell 19
            have c20 : w1.cell? ⟨w.heap.size, 20, none⟩ = some (.int .i64 last) := HK1.out.cell 20
            have c21 : w1.cell? ⟨w.heap.size, 21, none⟩ = some (.int .i64 at_) := HK1.out.cell 21
            have c22 : w1.cell? ⟨w.heap.size, 22, none⟩ = some (.bool false) := HK1.out.cell 22
            have HPF := hide (show planF ⟨⟨⟨age, kind, id, adv, seq, sum, long⟩, links, mem⟩, true, ⟨⟨age', kind', id', adv', seq', sum', long'⟩, links', mem'⟩, true, last, at_, false⟩ now = (tellF ⟨⟨⟨age, kind, id, adv, seq, sum, long⟩, links, mem⟩, true, ⟨⟨age', kind', id', adv', seq', sum', long'⟩, links', mem'⟩, true, last, at_, false⟩ (seq' + 1), 1) by (rw [HRS.out, restF, HNU.out]; simp [hL2]))
            have hca := told_any ⟨⟨⟨age, kind, id, adv, seq, sum, long⟩, links, mem⟩, true, ⟨⟨age', kind', id', adv', seq', sum', long'⟩, links', mem'⟩, true, last, at_, false⟩ ⟨A, c, B, d⟩ ⟨A', c', B', d'⟩ (seq' + 1) w1 HS.out (HM1.out)
            obtain ⟨h2, hz2⟩ : ∃ h2, (tellF ⟨⟨⟨age, kind, id, adv, seq, sum, long⟩, links, mem⟩, true, ⟨⟨age', kind', id', adv', seq', sum', long'⟩, links', mem'⟩, true, last, at_, false⟩ (seq' + 1)) = ⟨h2, links, mem⟩ := sealF_form _
            obtain ⟨age2, kind2, id2, adv2, seq2, sum2, long2⟩ := h2
            rw [hz2] at HPF
            unfold tellF at hz2
            rw [hz2] at hca
            have HCA := hide hca
            clear hca hz2
            have hw2 : wrap64 (seq' + 1) = seq' + 1 := wrap_next HSQ.out hL2
            clear HNU HRS
            have HTN := hide (show (mineA ⟨⟨⟨age, kind, id, adv, seq, sum, long⟩, links, mem⟩, true, ⟨⟨age', kind', id', adv', seq', sum', long'⟩, links', mem'⟩, true, last, at_, false⟩ ⟨A, c, B, d⟩ ⟨A', c', B', d'⟩).size = 23 from rfl)
            go_wp2_with (with_reducible refine wpList_load_at rfl 29 (.tmp 2) rfl w.heap.size rfl 29 _ 23 HK1.out HT.out HTN.out ?_)
            refine HCA.out.mono ?_
            rintro r w3 ⟨⟨A2, k2, B2, d2⟩, rfl, ho2, hb2⟩
            dsimp only
            have HR3 := hide ((HR1.out).below hb2 (HR1.out).lt)
            have HB3 := hide (below0 (HB1.out) hb2)
            have HO3 := hide (ho2.mono (show w.heap.size + 2 ≤ _ by have h1 := HWS.out; have h2 := (HBW.out).size; omega))
            have hs : lsa0.size = 9 ∧ (#[.int .i64 age2, .int .i64 kind2, .int .i64 id2, .int .i64 adv2, .int .i64 seq2, .int .i64 sum2, .int .i64 long2, .slice A2 links.length k2, .slice B2 mem.length d2] : Array Value).size = 9 ∧ (#[.int .i64 age2, .int .i64 kind2, .int .i64 id2, .int .i64 adv2, .int .i64 seq2, .int .i64 sum2, .int .i64 long2, .slice A2 links.length k2, .slice B2 mem.length d2] : Array Value).all (·.oneCell') = true := ⟨rfl, rfl, by simp [Value.oneCell']⟩
            clear hb2 ho2
            clear c0 c1 c2 c3 c4 c5 c6 c7 c8 c9 c10 c11 c12 c13 c14 c15 c16 c17 c18 c19 c20 c21 c22
            go_wp2_with (with_reducible refine wpList_store_at rfl 27 (.tmp 4) (.tmp 82) rfl (w.heap.size + 1) #[.int .i64 age2, .int .i64 kind2, .int .i64 id2, .int .i64 adv2, .int .i64 seq2, .int .i64 sum2, .int .i64 long2, .slice A2 links.length k2, .slice B2 mem.length d2] 9 rfl rfl 27 lsa0 HR3.out hi hs ?_)
            have hkr := HR3.out.setRow_ #[.int .i64 age2, .int .i64 kind2, .int .i64 id2, .int .i64 adv2, .int .i64 seq2, .int .i64 sum2, .int .i64 long2, .slice A2 links.length k2, .slice B2 mem.length d2]
            refine bodyPost_ret (results_row_tmp (fn := Try.f11) rfl _ _ (w.heap.size + 1) 27 _ _ rfl hkr Try.underlying27 rfl hi) rfl ?_
            dsimp only
            rw [HPF.out]
            exact gives2_end (l := ⟨⟨age2, kind2, id2, adv2, seq2, sum2, long2⟩, links, mem⟩) (p := ⟨A2, k2, B2, d2⟩) HB3.out rfl (Nat.le_refl _) HO3.out _
          · have hL1 : decide (2147483647 ≤ seq') = true := decide_eq_true (by omega)
            have hL3 := decide_eq_false hL2
            have HN := hide hnu
            clear hnu
            have HTN := hide (show (mineA ⟨⟨⟨age, kind, id, adv, seq, sum, long⟩, links, mem⟩, true, ⟨⟨age', kind', id', adv', seq', sum', long'⟩, links', mem'⟩, true, last, at_, false⟩ ⟨A, c, B, d⟩ ⟨A', c', B', d'⟩).size = 23 from rfl)
            have c0 : W.cell? ⟨w.heap.size, 0, none⟩ = some (.int .i64 age) := HK.out.cell 0
            have c1 : W.cell? ⟨w.heap.size, 1, none⟩ = some (.int .i64 kind) := HK.out.cell 1
            have c2 : W.cell? ⟨w.heap.size, 2, none⟩ = some (.int .i64 id) := HK.out.cell 2
            have c3 : W.cell? ⟨w.heap.size, 3, none⟩ = some (.int .i64 adv) := HK.out.cell 3
            have c4 : W.cell? ⟨w.heap.size, 4, none⟩ = some (.int .i64 seq) := HK.out.cell 4
            have c5 : W.cell? ⟨w.heap.size, 5, none⟩ = some (.int .i64 sum) := HK.out.cell 5
            have c6 : W.cell? ⟨w.heap.size, 6, none⟩ = some (.int .i64 long) := HK.out.cell 6
            have c7 : W.cell? ⟨w.heap.size, 7, none⟩ = some (.slice A links.length c) := HK.out.cell 7
            have c8 : W.cell? ⟨w.heap.size, 8, none⟩ = some (.slice B mem.length d) := HK.out.cell 8
            have c9 : W.cell? ⟨w.heap.size, 9, none⟩ = some (.bool true) := HK.out.cell 9
            have c10 : W.cell? ⟨w.heap.size, 10, none⟩ = some (.int .i64 age') := HK.out.cell 10
            have c11 : W.cell? ⟨w.heap.size, 11, none⟩ = some (.int .i64 kind') := HK.out.cell 11
            have c12 : W.cell? ⟨w.heap.size, 12, none⟩ = some (.int .i64 id') := HK.out.cell 12
            have c13 : W.cell? ⟨w.heap.size, 13, none⟩ = some (.int .i64 adv') := HK.out.cell 13
            have c14 : W.cell? ⟨w.heap.size, 14, none⟩ = some (.int .i64 seq') := HK.out.cell 14
            have c15 : W.cell? ⟨w.heap.size, 15, none⟩ = some (.int .i64 sum') := HK.out.cell 15
            have c16 : W.cell? ⟨w.heap.size, 16, none⟩ = some (.int .i64 long') := HK.out.cell 16
            have c17 : W.cell? ⟨w.heap.size, 17, none⟩ = some (.slice A' links'.length c') := HK.out.cell 17
            have c18 : W.cell? ⟨w.heap.size, 18, none⟩ = some (.slice B' mem'.length d') := HK.out.cell 18
            have c19 : W.cell? ⟨w.heap.size, 19, none⟩ = some (.bool true) := HK.out.cell 19
            have c20 : W.cell? ⟨w.heap.size, 20, none⟩ = some (.int .i64 last) := HK.out.cell 20
            have c21 : W.cell? ⟨w.heap.size, 21, none⟩ = some (.int .i64 at_) := HK.out.cell 21
            have c22 : W.cell? ⟨w.heap.size, 22, none⟩ = some (.bool false) := HK.out.cell 22
            go_wp2_with (with_reducible refine wpList_load_at rfl 29 (.tmp 2) rfl w.heap.size rfl 29 _ 23 HK.out HT.out HTN.out ?_)
            refine HN.out.mono ?_
            rintro r w1 ⟨rfl, hb1⟩
            clear c0 c1 c2 c3 c4 c5 c6 c7 c8 c9 c10 c11 c12 c13 c14 c15 c16 c17 c18 c19 c20 c21 c22
            have HB1 := hide (below0 HB.out hb1)
            have HR1 := hide ((HR.out).below hb1 (HR.out).lt)
            have HK1 := hide ((HK.out).below hb1 (HK.out).lt)
            have HM1 := hide ((HO.out).below hb1)
            have HBW := hide (hb1)
            clear hb1
            have c0 : w1.cell? ⟨w.heap.size, 0, none⟩ = some (.int .i64 age) := HK1.out.cell 0
            have c1 : w1.cell? ⟨w.heap.size, 1, none⟩ = some (.int .i64 kind) := HK1.out.cell 1
            have c2 : w1.cell? ⟨w.heap.size, 2, none⟩ = some (.int .i64 id) := HK1.out.cell 2
            have c3 : w1.cell? ⟨w.heap.size, 3, none⟩ = some (.int .i64 adv) := HK1.out.cell 3
            have c4 : w1.cell? ⟨w.heap.size, 4, none⟩ = some (.int .i64 seq) := HK1.out.cell 4
            have c5 : w1.cell? ⟨w.heap.size, 5, none⟩ = some (.int .i64 sum) := HK1.out.cell 5
            have c6 : w1.cell? ⟨w.heap.size, 6, none⟩ = some (.int .i64 long) := HK1.out.cell 6
            have c7 : w1.cell? ⟨w.heap.size, 7, none⟩ = some (.slice A links.length c) := HK1.out.cell 7
            have c8 : w1.cell? ⟨w.heap.size, 8, none⟩ = some (.slice B mem.length d) := HK1.out.cell 8
            have c9 : w1.cell? ⟨w.heap.size, 9, none⟩ = some (.bool true) := HK1.out.cell 9
            have c10 : w1.cell? ⟨w.heap.size, 10, none⟩ = some (.int .i64 age') := HK1.out.cell 10
            have c11 : w1.cell? ⟨w.heap.size, 11, none⟩ = some (.int .i64 kind') := HK1.out.cell 11
            have c12 : w1.cell? ⟨w.heap.size, 12, none⟩ = some (.int .i64 id') := HK1.out.cell 12
            have c13 : w1.cell? ⟨w.heap.size, 13, none⟩ = some (.int .i64 adv') := HK1.out.cell 13
            have c14 : w1.cell? ⟨w.heap.size, 14, none⟩ = some (.int .i64 seq') := HK1.out.cell 14
            have c15 : w1.cell? ⟨w.heap.size, 15, none⟩ = some (.int .i64 sum') := HK1.out.cell 15
            have c16 : w1.cell? ⟨w.heap.size, 16, none⟩ = some (.int .i64 long') := HK1.out.cell 16
            have c17 : w1.cell? ⟨w.heap.size, 17, none⟩ = some (.slice A' links'.length c') := HK1.out.cell 17
            have c18 : w1.cell? ⟨w.heap.size, 18, none⟩ = some (.slice B' mem'.length d') := HK1.out.cell 18
            have c19 : w1.cell? ⟨w.heap.size, 19, none⟩ = some (.bool true) := HK1.out.cell 19
            have c20 : w1.cell? ⟨w.heap.size, 20, none⟩ = some (.int .i64 last) := HK1.out.cell 20
            have c21 : w1.cell? ⟨w.heap.size, 21, none⟩ = some (.int .i64 at_) := HK1.out.cell 21
            have c22 : w1.cell? ⟨w.heap.size, 22, none⟩ = some (.bool false) := HK1.out.cell 22
            have HPF := hide (show planF ⟨⟨⟨age, kind, id, adv, seq, sum, long⟩, links, mem⟩, true, ⟨⟨age', kind', id', adv', seq', sum', long'⟩, links', mem'⟩, true, last, at_, false⟩ now = ({ (⟨⟨⟨age, kind, id, adv, seq, sum, long⟩, links, mem⟩, true, ⟨⟨age', kind', id', adv', seq', sum', long'⟩, links', mem'⟩, true, last, at_, false⟩ : MV).held with hd := { (⟨⟨⟨age, kind, id, adv, seq, sum, long⟩, links, mem⟩, true, ⟨⟨age', kind', id', adv', seq', sum', long'⟩, links', mem'⟩, true, last, at_, false⟩ : MV).held.hd with age := 60 } }, 2) by (rw [HRS.out, restF, HNU.out]; simp [hL2, livesF, H60.out, flushF]))
            have hca := flushed_any ⟨⟨⟨age, kind, id, adv, seq, sum, long⟩, links, mem⟩, true, ⟨⟨age', kind', id', adv', seq', sum', long'⟩, links', mem'⟩, true, last, at_, false⟩ ⟨A, c, B, d⟩ ⟨A', c', B', d'⟩ w1 HS.out (HM1.out)
            obtain ⟨h2, hz2⟩ : ∃ h2, ({ (⟨⟨⟨age, kind, id, adv, seq, sum, long⟩, links, mem⟩, true, ⟨⟨age', kind', id', adv', seq', sum', long'⟩, links', mem'⟩, true, last, at_, false⟩ : MV).held with hd := { (⟨⟨⟨age, kind, id, adv, seq, sum, long⟩, links, mem⟩, true, ⟨⟨age', kind', id', adv', seq', sum', long'⟩, links', mem'⟩, true, last, at_, false⟩ : MV).held.hd with age := 60 } }) = ⟨h2, links', mem'⟩ := ⟨_, rfl⟩
            obtain ⟨age2, kind2, id2, adv2, seq2, sum2, long2⟩ := h2
            rw [hz2] at HPF
            rw [hz2] at hca
            have HCA := hide hca
            clear hca hz2
            clear HNU HRS hL2
            have HTN := hide (show (mineA ⟨⟨⟨age, kind, id, adv, seq, sum, long⟩, links, mem⟩, true, ⟨⟨age', kind', id', adv', seq', sum', long'⟩, links', mem'⟩, true, last, at_, false⟩ ⟨A, c, B, d⟩ ⟨A', c', B', d'⟩).size = 23 from rfl)
            go_wp2_with (with_reducible refine wpList_load_at rfl 29 (.tmp 2) rfl w.heap.size rfl 29 _ 23 HK1.out HT.out HTN.out ?_)
            refine HCA.out.mono ?_
            rintro r w3 ⟨⟨A2, k2, B2, d2⟩, rfl, ho2, hb2⟩
            dsimp only
            have HR3 := hide ((HR1.out).below hb2 (HR1.out).lt)
            have HB3 := hide (below0 (HB1.out) hb2)
            have HO3 := hide (ho2.mono (show w.heap.size + 2 ≤ _ by have h1 := HWS.out; have h2 := (HBW.out).size; omega))
            have hs : lsa0.size = 9 ∧ (#[.int .i64 age2, .int .i64 kind2, .int .i64 id2, .int .i64 adv2, .int .i64 seq2, .int .i64 sum2, .int .i64 long2, .slice A2 links'.length k2, .slice B2 mem'.length d2] : Array Value).size = 9 ∧ (#[.int .i64 age2, .int .i64 kind2, .int .i64 id2, .int .i64 adv2, .int .i64 seq2, .int .i64 sum2, .int .i64 long2, .slice A2 links'.length k2, .slice B2 mem'.length d2] : Array Value).all (·.oneCell') = true := ⟨rfl, rfl, by simp [Value.oneCell']⟩
            clear hb2 ho2
            clear c0 c1 c2 c3 c4 c5 c6 c7 c8 c9 c10 c11 c12 c13 c14 c15 c16 c17 c18 c19 c20 c21 c22
            go_wp2_with (with_reducible refine wpList_store_at rfl 27 (.tmp 4) (.tmp 88) rfl (w.heap.size + 1) #[.int .i64 age2, .int .i64 kind2, .int .i64 id2, .int .i64 adv2, .int .i64 seq2, .int .i64 sum2, .int .i64 long2, .slice A2 links'.length k2, .slice B2 mem'.length d2] 9 rfl rfl 27 lsa0 HR3.out hi hs ?_)
            have hkr := HR3.out.setRow_ #[.int .i64 age2, .int .i64 kind2, .int .i64 id2, .int .i64 adv2, .int .i64 seq2, .int .i64 sum2, .int .i64 long2, .slice A2 links'.length k2, .slice B2 mem'.length d2]
            refine bodyPost_ret (results_row_tmp (fn := Try.f11) rfl _ _ (w.heap.size + 1) 27 _ _ rfl hkr Try.underlying27 rfl hi) rfl ?_
            dsimp only
            rw [HPF.out]
            exact gives2_end (l := ⟨⟨age2, kind2, id2, adv2, seq2, sum2, long2⟩, links', mem'⟩) (p := ⟨A2, k2, B2, d2⟩) HB3.out rfl (Nat.le_refl _) HO3.out _
        | true =>
          have hw1 : wrap64 (now - at_) = now - at_ := wrap_sub HN1.out HA1.out
          have c0 : W.cell? ⟨w.heap.size, 0, none⟩ = some (.int .i64 age) := HK.out.cell 0
          have c1 : W.cell? ⟨w.heap.size, 1, none⟩ = some (.int .i64 kind) := HK.out.cell 1
          have c2 : W.cell? ⟨w.heap.size, 2, none⟩ = some (.int .i64 id) := HK.out.cell 2
          have c3 : W.cell? ⟨w.heap.size, 3, none⟩ = some (.int .i64 adv) := HK.out.cell 3
          have c4 : W.cell? ⟨w.heap.size, 4, none⟩ = some (.int .i64 seq) := HK.out.cell 4
          have c5 : W.cell? ⟨w.heap.size, 5, none⟩ = some (.int .i64 sum) := HK.out.cell 5
          have c6 : W.cell? ⟨w.heap.size, 6, none⟩ = some (.int .i64 long) := HK.out.cell 6
          have c7 : W.cell? ⟨w.heap.size, 7, none⟩ = some (.slice A links.length c) := HK.out.cell 7
          have c8 : W.cell? ⟨w.heap.size, 8, none⟩ = some (.slice B mem.length d) := HK.out.cell 8
          have c9 : W.cell? ⟨w.heap.size, 9, none⟩ = some (.bool true) := HK.out.cell 9
          have c10 : W.cell? ⟨w.heap.size, 10, none⟩ = some (.int .i64 age') := HK.out.cell 10
          have c11 : W.cell? ⟨w.heap.size, 11, none⟩ = some (.int .i64 kind') := HK.out.cell 11
          have c12 : W.cell? ⟨w.heap.size, 12, none⟩ = some (.int .i64 id') := HK.out.cell 12
          have c13 : W.cell? ⟨w.heap.size, 13, none⟩ = some (.int .i64 adv') := HK.out.cell 13
          have c14 : W.cell? ⟨w.heap.size, 14, none⟩ = some (.int .i64 seq') := HK.out.cell 14
          have c15 : W.cell? ⟨w.heap.size, 15, none⟩ = some (.int .i64 sum') := HK.out.cell 15
          have c16 : W.cell? ⟨w.heap.size, 16, none⟩ = some (.int .i64 long') := HK.out.cell 16
          have c17 : W.cell? ⟨w.heap.size, 17, none⟩ = some (.slice A' links'.length c') := HK.out.cell 17
          have c18 : W.cell? ⟨w.heap.size, 18, none⟩ = some (.slice B' mem'.length d') := HK.out.cell 18
          have c19 : W.cell? ⟨w.heap.size, 19, none⟩ = some (.bool true) := HK.out.cell 19
          have c20 : W.cell? ⟨w.heap.size, 20, none⟩ = some (.int .i64 last) := HK.out.cell 20
          have c21 : W.cell? ⟨w.heap.size, 21, none⟩ = some (.int .i64 at_) := HK.out.cell 21
          have c22 : W.cell? ⟨w.heap.size, 22, none⟩ = some (.bool true) := HK.out.cell 22
          by_cases h2 : now - at_ < 2
          · have h3 := decide_eq_true h2
            have HPF := hide (show planF ⟨⟨⟨age, kind, id, adv, seq, sum, long⟩, links, mem⟩, true, ⟨⟨age', kind', id', adv', seq', sum', long'⟩, links', mem'⟩, true, last, at_, true⟩ now = (default, 3) by (unfold planF; dsimp only; rw [if_neg (by simp), if_neg (by rw [hal]; simp), if_pos (by simpa using h2)]))
            go_wp2_with (with_reducible refine wpList_store_at rfl 27 (.tmp 4) (.tmp 53) rfl (w.heap.size + 1) lsa0 9 rfl rfl 27 lsa0 HR.out hi hs0 ?_)
            have hkr := (HR.out).setRow_ lsa0
            refine bodyPost_ret (results_row_tmp (fn := Try.f11) rfl _ _ (w.heap.size + 1) 27 _ _ rfl hkr Try.underlying27 rfl hi) rfl ?_
            rw [HPF.out]
            exact gives2_end (l := default) (p := ⟨none, 0, none, 0⟩) (HB.out) rfl (Nat.le_refl _) (LOwn.none_ _ _) _
          · have h3 := decide_eq_false h2
            clear c0 c1 c2 c3 c4 c5 c6 c7 c8 c9 c10 c11 c12 c13 c14 c15 c16 c17 c18 c19 c20 c21 c22
            have hnu := number_any ⟨⟨⟨age, kind, id, adv, seq, sum, long⟩, links, mem⟩, true, ⟨⟨age', kind', id', adv', seq', sum', long'⟩, links', mem'⟩, true, last, at_, true⟩ ⟨A, c, B, d⟩ ⟨A', c', B', d'⟩ W
            have HNU := hide (show numberF ⟨⟨⟨age, kind, id, adv, seq, sum, long⟩, links, mem⟩, true, ⟨⟨age', kind', id', adv', seq', sum', long'⟩, links', mem'⟩, true, last, at_, true⟩ = (max seq' last, true) by rfl)
            rw [HNU.out] at hnu
            have HRS := hide (show planF ⟨⟨⟨age, kind, id, adv, seq, sum, long⟩, links, mem⟩, true, ⟨⟨age', kind', id', adv', seq', sum', long'⟩, links', mem'⟩, true, last, at_, true⟩ now = restF ⟨⟨⟨age, kind, id, adv, seq, sum, long⟩, links, mem⟩, true, ⟨⟨age', kind', id', adv', seq', sum', long'⟩, links', mem'⟩, true, last, at_, true⟩ from by unfold planF; dsimp only; rw [if_neg (by simp), if_neg (by rw [hal]; simp), if_neg (by simpa using h2)])
            have HMX := hide (show -9223372036854775808 ≤ max seq' last by have := HLA.out; omega)
            generalize max seq' last = mx at hnu HNU HMX
            by_cases hL2 : mx < 2147483647
            · have hL1 : decide (2147483647 ≤ mx) = false := decide_eq_false (by omega)
              have hL3 := decide_eq_true hL2
              have HN := hide hnu
              clear hnu
              have HTN := hide (show (mineA ⟨⟨⟨age, kind, id, adv, seq, sum, long⟩, links, mem⟩, true, ⟨⟨age', kind', id', adv', seq', sum', long'⟩, links', mem'⟩, true, last, at_, true⟩ ⟨A, c, B, d⟩ ⟨A', c', B', d'⟩).size = 23 from rfl)
              have c0 : W.cell? ⟨w.heap.size, 0, none⟩ = some (.int .i64 age) := HK.out.cell 0
              have c1 : W.cell? ⟨w.heap.size, 1, none⟩ = some (.int .i64 kind) := HK.out.cell 1
              have c2 : W.cell? ⟨w.heap.size, 2, none⟩ = some (.int .i64 id) := HK.out.cell 2
              have c3 : W.cell? ⟨w.heap.size, 3, none⟩ = some (.int .i64 adv) := HK.out.cell 3
              have c4 : W.cell? ⟨w.heap.size, 4, none⟩ = some (.int .i64 seq) := HK.out.cell 4
              have c5 : W.cell? ⟨w.heap.size, 5, none⟩ = some (.int .i64 sum) := HK.out.cell 5
              have c6 : W.cell? ⟨w.heap.size, 6, none⟩ = some (.int .i64 long) := HK.out.cell 6
              have c7 : W.cell? ⟨w.heap.size, 7, none⟩ = some (.slice A links.length c) := HK.out.cell 7
              have c8 : W.cell? ⟨w.heap.size, 8, none⟩ = some (.slice B mem.length d) := HK.out.cell 8
              have c9 : W.cell? ⟨w.heap.size, 9, none⟩ = some (.bool true) := HK.out.cell 9
              have c10 : W.cell? ⟨w.heap.size, 10, none⟩ = some (.int .i64 age') := HK.out.cell 10
              have c11 : W.cell? ⟨w.heap.size, 11, none⟩ = some (.int .i64 kind') := HK.out.cell 11
              have c12 : W.cell? ⟨w.heap.size, 12, none⟩ = some (.int .i64 id') := HK.out.cell 12
              have c13 : W.cell? ⟨w.heap.size, 13, none⟩ = some (.int .i64 adv') := HK.out.cell 13
              have c14 : W.cell? ⟨w.heap.size, 14, none⟩ = some (.int .i64 seq') := HK.out.cell 14
              have c15 : W.cell? ⟨w.heap.size, 15, none⟩ = some (.int .i64 sum') := HK.out.cell 15
              have c16 : W.cell? ⟨w.heap.size, 16, none⟩ = some (.int .i64 long') := HK.out.cell 16
              have c17 : W.cell? ⟨w.heap.size, 17, none⟩ = some (.slice A' links'.length c') := HK.out.cell 17
              have c18 : W.cell? ⟨w.heap.size, 18, none⟩ = some (.slice B' mem'.length d') := HK.out.cell 18
              have c19 : W.cell? ⟨w.heap.size, 19, none⟩ = some (.bool true) := HK.out.cell 19
              have c20 : W.cell? ⟨w.heap.size, 20, none⟩ = some (.int .i64 last) := HK.out.cell 20
              have c21 : W.cell? ⟨w.heap.size, 21, none⟩ = some (.int .i64 at_) := HK.out.cell 21
              have c22 : W.cell? ⟨w.heap.size, 22, none⟩ = some (.bool true) := HK.out.cell 22
              go_wp2_with (with_reducible refine wpList_load_at rfl 29 (.tmp 2) rfl w.heap.size rfl 29 _ 23 HK.out HT.out HTN.out ?_)
              refine HN.out.mono ?_
              rintro r w1 ⟨rfl, hb1⟩
              clear c0 c1 c2 c3 c4 c5 c6 c7 c8 c9 c10 c11 c12 c13 c14 c15 c16 c17 c18 c19 c20 c21 c22
              have HB1 := hide (below0 HB.out hb1)
              have HR1 := hide ((HR.out).below hb1 (HR.out).lt)
              have HK1 := hide ((HK.out).below hb1 (HK.out).lt)
              have HM1 := hide ((HO.out).below hb1)
              have HBW := hide (hb1)
              clear hb1
              have c0 : w1.cell? ⟨w.heap.size, 0, none⟩ = some (.int .i64 age) := HK1.out.cell 0
              have c1 : w1.cell? ⟨w.heap.size, 1, none⟩ = some (.int .i64 kind) := HK1.out.cell 1
              have c2 : w1.cell? ⟨w.heap.size, 2, none⟩ = some (.int .i64 id) := HK1.out.cell 2
              have c3 : w1.cell? ⟨w.heap.size, 3, none⟩ = some (.int .i64 adv) := HK1.out.cell 3
              have c4 : w1.cell? ⟨w.heap.size, 4, none⟩ = some (.int .i64 seq) := HK1.out.cell 4
              have c5 : w1.cell? ⟨w.heap.size, 5, none⟩ = some (.int .i64 sum) := HK1.out.cell 5
              have c6 : w1.cell? ⟨w.heap.size, 6, none⟩ = some (.int .i64 long) := HK1.out.cell 6
              have c7 : w1.cell? ⟨w.heap.size, 7, none⟩ = some (.slice A links.length c) := HK1.out.cell 7
              have c8 : w1.cell? ⟨w.heap.size, 8, none⟩ = some (.slice B mem.length d) := HK1.out.cell 8
              have c9 : w1.cell? ⟨w.heap.size, 9, none⟩ = some (.bool true) := HK1.out.cell 9
              have c10 : w1.cell? ⟨w.heap.size, 10, none⟩ = some (.int .i64 age') := HK1.out.cell 10
              have c11 : w1.cell? ⟨w.heap.size, 11, none⟩ = some (.int .i64 kind') := HK1.out.cell 11
              have c12 : w1.cell? ⟨w.heap.size, 12, none⟩ = some (.int .i64 id') := HK1.out.cell 12
              have c13 : w1.cell? ⟨w.heap.size, 13, none⟩ = some (.int .i64 adv') := HK1.out.cell 13
              have c14 : w1.cell? ⟨w.heap.size, 14, none⟩ = some (.int .i64 seq') := HK1.out.cell 14
              have c15 : w1.cell? ⟨w.heap.size, 15, none⟩ = some (.int .i64 sum') := HK1.out.cell 15
              have c16 : w1.cell? ⟨w.heap.size, 16, none⟩ = some (.int .i64 long') := HK1.out.cell 16
              have c17 : w1.cell? ⟨w.heap.size, 17, none⟩ = some (.slice A' links'.length c') := HK1.out.cell 17
              have c18 : w1.cell? ⟨w.heap.size, 18, none⟩ = some (.slice B' mem'.length d') := HK1.out.cell 18
              have c19 : w1.cell? ⟨w.heap.size, 19, none⟩ = some (.bool true) := HK1.out.cell 19
              have c20 : w1.cell? ⟨w.heap.size, 20, none⟩ = some (.int .i64 last) := HK1.out.cell 20
              have c21 : w1.cell? ⟨w.heap.size, 21, none⟩ = some (.int .i64 at_) := HK1.out.cell 21
              have c22 : w1.cell? ⟨w.heap.size, 22, none⟩ = some (.bool true) := HK1.out.cell 22
              have HPF := hide (show planF ⟨⟨⟨age, kind, id, adv, seq, sum, long⟩, links, mem⟩, true, ⟨⟨age', kind', id', adv', seq', sum', long'⟩, links', mem'⟩, true, last, at_, true⟩ now = (tellF ⟨⟨⟨age, kind, id, adv, seq, sum, long⟩, links, mem⟩, true, ⟨⟨age', kind', id', adv', seq', sum', long'⟩, links', mem'⟩, true, last, at_, true⟩ (mx + 1), 1) by (rw [HRS.out, restF, HNU.out]; simp [hL2]))
              have hca := told_any ⟨⟨⟨age, kind, id, adv, seq, sum, long⟩, links, mem⟩, true, ⟨⟨age', kind', id', adv', seq', sum', long'⟩, links', mem'⟩, true, last, at_, true⟩ ⟨A, c, B, d⟩ ⟨A', c', B', d'⟩ (mx + 1) w1 HS.out (HM1.out)
              obtain ⟨h2, hz2⟩ : ∃ h2, (tellF ⟨⟨⟨age, kind, id, adv, seq, sum, long⟩, links, mem⟩, true, ⟨⟨age', kind', id', adv', seq', sum', long'⟩, links', mem'⟩, true, last, at_, true⟩ (mx + 1)) = ⟨h2, links, mem⟩ := sealF_form _
              obtain ⟨age2, kind2, id2, adv2, seq2, sum2, long2⟩ := h2
              rw [hz2] at HPF
              unfold tellF at hz2
              rw [hz2] at hca
              have HCA := hide hca
              clear hca hz2
              have hw2 : wrap64 (mx + 1) = mx + 1 := wrap_next HMX.out hL2
              clear HNU HRS
              have HTN := hide (show (mineA ⟨⟨⟨age, kind, id, adv, seq, sum, long⟩, links, mem⟩, true, ⟨⟨age', kind', id', adv', seq', sum', long'⟩, links', mem'⟩, true, last, at_, true⟩ ⟨A, c, B, d⟩ ⟨A', c', B', d'⟩).size = 23 from rfl)
              go_wp2_with (with_reducible refine wpList_load_at rfl 29 (.tmp 2) rfl w.heap.size rfl 29 _ 23 HK1.out HT.out HTN.out ?_)
              refine HCA.out.mono ?_
              rintro r w3 ⟨⟨A2, k2, B2, d2⟩, rfl, ho2, hb2⟩
              dsimp only
              have HR3 := hide ((HR1.out).below hb2 (HR1.out).lt)
              have HB3 := hide (below0 (HB1.out) hb2)
              have HO3 := hide (ho2.mono (show w.heap.size + 2 ≤ _ by have h1 := HWS.out; have h2 := (HBW.out).size; omega))
              have hs : lsa0.size = 9 ∧ (#[.int .i64 age2, .int .i64 kind2, .int .i64 id2, .int .i64 adv2, .int .i64 seq2, .int .i64 sum2, .int .i64 long2, .slice A2 links.length k2, .slice B2 mem.length d2] : Array Value).size = 9 ∧ (#[.int .i64 age2, .int .i64 kind2, .int .i64 id2, .int .i64 adv2, .int .i64 seq2, .int .i64 sum2, .int .i64 long2, .slice A2 links.length k2, .slice B2 mem.length d2] : Array Value).all (·.oneCell') = true := ⟨rfl, rfl, by simp [Value.oneCell']⟩
              clear hb2 ho2
              clear c0 c1 c2 c3 c4 c5 c6 c7 c8 c9 c10 c11 c12 c13 c14 c15 c16 c17 c18 c19 c20 c21 c22
              go_wp2_with (with_reducible refine wpList_store_at rfl 27 (.tmp 4) (.tmp 82) rfl (w.heap.size + 1) #[.int .i64 age2, .int .i64 kind2, .int .i64 id2, .int .i64 adv2, .int .i64 seq2, .int .i64 sum2, .int .i64 long2, .slice A2 links.length k2, .slice B2 mem.length d2] 9 rfl rfl 27 lsa0 HR3.out hi hs ?_)
              have hkr := HR3.out.setRow_ #[.int .i64 age2, .int .i64 kind2, .int .i64 id2, .int .i64 adv2, .int .i64 seq2, .int .i64 sum2, .int .i64 long2, .slice A2 links.length k2, .slice B2 mem.length d2]
              refine bodyPost_ret (results_row_tmp (fn := Try.f11) rfl _ _ (w.heap.size + 1) 27 _ _ rfl hkr Try.underlying27 rfl hi) rfl ?_
              dsimp only
              rw [HPF.out]
              exact gives2_end (l := ⟨⟨age2, kind2, id2, adv2, seq2, sum2, long2⟩, links, mem⟩) (p := ⟨A2, k2, B2, d2⟩) HB3.out rfl (Nat.le_refl _) HO3.out _
            · have hL1 : decide (2147483647 ≤ mx) = true := decide_eq_true (by omega)
              have hL3 := decide_eq_false hL2
              have HN := hide hnu
              clear hnu
              have HTN := hide (show (mineA ⟨⟨⟨age, kind, id, adv, seq, sum, long⟩, links, mem⟩, true, ⟨⟨age', kind', id', adv', seq', sum', long'⟩, links', mem'⟩, true, last, at_, true⟩ ⟨A, c, B, d⟩ ⟨A', c', B', d'⟩).size = 23 from rfl)
              have c0 : W.cell? ⟨w.heap.size, 0, none⟩ = some (.int .i64 age) := HK.out.cell 0
              have c1 : W.cell? ⟨w.heap.size, 1, none⟩ = some (.int .i64 kind) := HK.out.cell 1
              have c2 : W.cell? ⟨w.heap.size, 2, none⟩ = some (.int .i64 id) := HK.out.cell 2
              have c3 : W.cell? ⟨w.heap.size, 3, none⟩ = some (.int .i64 adv) := HK.out.cell 3
              have c4 : W.cell? ⟨w.heap.size, 4, none⟩ = some (.int .i64 seq) := HK.out.cell 4
              have c5 : W.cell? ⟨w.heap.size, 5, none⟩ = some (.int .i64 sum) := HK.out.cell 5
              have c6 : W.cell? ⟨w.heap.size, 6, none⟩ = some (.int .i64 long) := HK.out.cell 6
              have c7 : W.cell? ⟨w.heap.size, 7, none⟩ = some (.slice A links.length c) := HK.out.cell 7
              have c8 : W.cell? ⟨w.heap.size, 8, none⟩ = some (.slice B mem.length d) := HK.out.cell 8
              have c9 : W.cell? ⟨w.heap.size, 9, none⟩ = some (.bool true) := HK.out.cell 9
              have c10 : W.cell? ⟨w.heap.size, 10, none⟩ = some (.int .i64 age') := HK.out.cell 10
              have c11 : W.cell? ⟨w.heap.size, 11, none⟩ = some (.int .i64 kind') := HK.out.cell 11
              have c12 : W.cell? ⟨w.heap.size, 12, none⟩ = some (.int .i64 id') := HK.out.cell 12
              have c13 : W.cell? ⟨w.heap.size, 13, none⟩ = some (.int .i64 adv') := HK.out.cell 13
              have c14 : W.cell? ⟨w.heap.size, 14, none⟩ = some (.int .i64 seq') := HK.out.cell 14
              have c15 : W.cell? ⟨w.heap.size, 15, none⟩ = some (.int .i64 sum') := HK.out.cell 15
              have c16 : W.cell? ⟨w.heap.size, 16, none⟩ = some (.int .i64 long') := HK.out.cell 16
              have c17 : W.cell? ⟨w.heap.size, 17, none⟩ = some (.slice A' links'.length c') := HK.out.cell 17
              have c18 : W.cell? ⟨w.heap.size, 18, none⟩ = some (.slice B' mem'.length d') := HK.out.cell 18
              have c19 : W.cell? ⟨w.heap.size, 19, none⟩ = some (.bool true) := HK.out.cell 19
              have c20 : W.cell? ⟨w.heap.size, 20, none⟩ = some (.int .i64 last) := HK.out.cell 20
              have c21 : W.cell? ⟨w.heap.size, 21, none⟩ = some (.int .i64 at_) := HK.out.cell 21
              have c22 : W.cell? ⟨w.heap.size, 22, none⟩ = some (.bool true) := HK.out.cell 22
              go_wp2_with (with_reducible refine wpList_load_at rfl 29 (.tmp 2) rfl w.heap.size rfl 29 _ 23 HK.out HT.out HTN.out ?_)
              refine HN.out.mono ?_
              rintro r w1 ⟨rfl, hb1⟩
              clear c0 c1 c2 c3 c4 c5 c6 c7 c8 c9 c10 c11 c12 c13 c14 c15 c16 c17 c18 c19 c20 c21 c22
              have HB1 := hide (below0 HB.out hb1)
              have HR1 := hide ((HR.out).below hb1 (HR.out).lt)
              have HK1 := hide ((HK.out).below hb1 (HK.out).lt)
              have HM1 := hide ((HO.out).below hb1)
              have HBW := hide (hb1)
              clear hb1
              have c0 : w1.cell? ⟨w.heap.size, 0, none⟩ = some (.int .i64 age) := HK1.out.cell 0
              have c1 : w1.cell? ⟨w.heap.size, 1, none⟩ = some (.int .i64 kind) := HK1.out.cell 1
              have c2 : w1.cell? ⟨w.heap.size, 2, none⟩ = some (.int .i64 id) := HK1.out.cell 2
              have c3 : w1.cell? ⟨w.heap.size, 3, none⟩ = some (.int .i64 adv) := HK1.out.cell 3
              have c4 : w1.cell? ⟨w.heap.size, 4, none⟩ = some (.int .i64 seq) := HK1.out.cell 4
              have c5 : w1.cell? ⟨w.heap.size, 5, none⟩ = some (.int .i64 sum) := HK1.out.cell 5
              have c6 : w1.cell? ⟨w.heap.size, 6, none⟩ = some (.int .i64 long) := HK1.out.cell 6
              have c7 : w1.cell? ⟨w.heap.size, 7, none⟩ = some (.slice A links.length c) := HK1.out.cell 7
              have c8 : w1.cell? ⟨w.heap.size, 8, none⟩ = some (.slice B mem.length d) := HK1.out.cell 8
              have c9 : w1.cell? ⟨w.heap.size, 9, none⟩ = some (.bool true) := HK1.out.cell 9
              have c10 : w1.cell? ⟨w.heap.size, 10, none⟩ = some (.int .i64 age') := HK1.out.cell 10
              have c11 : w1.cell? ⟨w.heap.size, 11, none⟩ = some (.int .i64 kind') := HK1.out.cell 11
              have c12 : w1.cell? ⟨w.heap.size, 12, none⟩ = some (.int .i64 id') := HK1.out.cell 12
              have c13 : w1.cell? ⟨w.heap.size, 13, none⟩ = some (.int .i64 adv') := HK1.out.cell 13
              have c14 : w1.cell? ⟨w.heap.size, 14, none⟩ = some (.int .i64 seq') := HK1.out.cell 14
              have c15 : w1.cell? ⟨w.heap.size, 15, none⟩ = some (.int .i64 sum') := HK1.out.cell 15
              have c16 : w1.cell? ⟨w.heap.size, 16, none⟩ = some (.int .i64 long') := HK1.out.cell 16
              have c17 : w1.cell? ⟨w.heap.size, 17, none⟩ = some (.slice A' links'.length c') := HK1.out.cell 17
              have c18 : w1.cell? ⟨w.heap.size, 18, none⟩ = some (.slice B' mem'.length d') := HK1.out.cell 18
              have c19 : w1.cell? ⟨w.heap.size, 19, none⟩ = some (.bool true) := HK1.out.cell 19
              have c20 : w1.cell? ⟨w.heap.size, 20, none⟩ = some (.int .i64 last) := HK1.out.cell 20
              have c21 : w1.cell? ⟨w.heap.size, 21, none⟩ = some (.int .i64 at_) := HK1.out.cell 21
              have c22 : w1.cell? ⟨w.heap.size, 22, none⟩ = some (.bool true) := HK1.out.cell 22
              have HPF := hide (show planF ⟨⟨⟨age, kind, id, adv, seq, sum, long⟩, links, mem⟩, true, ⟨⟨age', kind', id', adv', seq', sum', long'⟩, links', mem'⟩, true, last, at_, true⟩ now = ({ (⟨⟨⟨age, kind, id, adv, seq, sum, long⟩, links, mem⟩, true, ⟨⟨age', kind', id', adv', seq', sum', long'⟩, links', mem'⟩, true, last, at_, true⟩ : MV).held with hd := { (⟨⟨⟨age, kind, id, adv, seq, sum, long⟩, links, mem⟩, true, ⟨⟨age', kind', id', adv', seq', sum', long'⟩, links', mem'⟩, true, last, at_, true⟩ : MV).held.hd with age := 60 } }, 2) by (rw [HRS.out, restF, HNU.out]; simp [hL2, livesF, H60.out, flushF]))
              have hca := flushed_any ⟨⟨⟨age, kind, id, adv, seq, sum, long⟩, links, mem⟩, true, ⟨⟨age', kind', id', adv', seq', sum', long'⟩, links', mem'⟩, true, last, at_, true⟩ ⟨A, c, B, d⟩ ⟨A', c', B', d'⟩ w1 HS.out (HM1.out)
              obtain ⟨h2, hz2⟩ : ∃ h2, ({ (⟨⟨⟨age, kind, id, adv, seq, sum, long⟩, links, mem⟩, true, ⟨⟨age', kind', id', adv', seq', sum', long'⟩, links', mem'⟩, true, last, at_, true⟩ : MV).held with hd := { (⟨⟨⟨age, kind, id, adv, seq, sum, long⟩, links, mem⟩, true, ⟨⟨age', kind', id', adv', seq', sum', long'⟩, links', mem'⟩, true, last, at_, true⟩ : MV).held.hd with age := 60 } }) = ⟨h2, links', mem'⟩ := ⟨_, rfl⟩
              obtain ⟨age2, kind2, id2, adv2, seq2, sum2, long2⟩ := h2
              rw [hz2] at HPF
              rw [hz2] at hca
              have HCA := hide hca
              clear hca hz2
              clear HNU HRS hL2
              have HTN := hide (show (mineA ⟨⟨⟨age, kind, id, adv, seq, sum, long⟩, links, mem⟩, true, ⟨⟨age', kind', id', adv', seq', sum', long'⟩, links', mem'⟩, true, last, at_, true⟩ ⟨A, c, B, d⟩ ⟨A', c', B', d'⟩).size = 23 from rfl)
              go_wp2_with (with_reducible refine wpList_load_at rfl 29 (.tmp 2) rfl w.heap.size rfl 29 _ 23 HK1.out HT.out HTN.out ?_)
              refine HCA.out.mono ?_
              rintro r w3 ⟨⟨A2, k2, B2, d2⟩, rfl, ho2, hb2⟩
              dsimp only
              have HR3 := hide ((HR1.out).below hb2 (HR1.out).lt)
              have HB3 := hide (below0 (HB1.out) hb2)
              have HO3 := hide (ho2.mono (show w.heap.size + 2 ≤ _ by have h1 := HWS.out; have h2 := (HBW.out).size; omega))
              have hs : lsa0.size = 9 ∧ (#[.int .i64 age2, .int .i64 kind2, .int .i64 id2, .int .i64 adv2, .int .i64 seq2, .int .i64 sum2, .int .i64 long2, .slice A2 links'.length k2, .slice B2 mem'.length d2] : Array Value).size = 9 ∧ (#[.int .i64 age2, .int .i64 kind2, .int .i64 id2, .int .i64 adv2, .int .i64 seq2, .int .i64 sum2, .int .i64 long2, .slice A2 links'.length k2, .slice B2 mem'.length d2] : Array Value).all (·.oneCell') = true := ⟨rfl, rfl, by simp [Value.oneCell']⟩
              clear hb2 ho2
              clear c0 c1 c2 c3 c4 c5 c6 c7 c8 c9 c10 c11 c12 c13 c14 c15 c16 c17 c18 c19 c20 c21 c22
              go_wp2_with (with_reducible refine wpList_store_at rfl 27 (.tmp 4) (.tmp 88) rfl (w.heap.size + 1) #[.int .i64 age2, .int .i64 kind2, .int .i64 id2, .int .i64 adv2, .int .i64 seq2, .int .i64 sum2, .int .i64 long2, .slice A2 links'.length k2, .slice B2 mem'.length d2] 9 rfl rfl 27 lsa0 HR3.out hi hs ?_)
              have hkr := HR3.out.setRow_ #[.int .i64 age2, .int .i64 kind2, .int .i64 id2, .int .i64 adv2, .int .i64 seq2, .int .i64 sum2, .int .i64 long2, .slice A2 links'.length k2, .slice B2 mem'.length d2]
              refine bodyPost_ret (results_row_tmp (fn := Try.f11) rfl _ _ (w.heap.size + 1) 27 _ _ rfl hkr Try.underlying27 rfl hi) rfl ?_
              dsimp only
              rw [HPF.out]
              exact gives2_end (l := ⟨⟨age2, kind2, id2, adv2, seq2, sum2, long2⟩, links', mem'⟩) (p := ⟨A2, k2, B2, d2⟩) HB3.out rfl (Nat.le_refl _) HO3.out _
end Go.Proofs.Ytmklebkldailnaa
