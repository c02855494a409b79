/-
  slices.Delete of one copy, in place.
-/
import Derived.Test.YtdenfgnkbfbpmaaLanD
import Derived.Lib.SliceRun
import Derived.Laws.IdiomCopy
namespace Go.Proofs.Ytdenfgnkbfbpmaa
open Go.RowKit

def layLO (cs : List Value) (o : Nat) (vs : List Value) : List Value := cs.take o ++ vs ++ cs.drop (o + vs.length)
theorem layL_consO (cs : List Value) (o : Nat) (v : Value) (r : List Value) (h : o < cs.length) : layLO (cs.set o v) (o + 1) r = layLO cs o (v :: r) := by
  obtain ⟨a, x, b, rfl, rfl⟩ : ∃ a x b, cs = a ++ x :: b ∧ a.length = o := ⟨cs.take o, cs[o], cs.drop (o + 1), by simp, by simp; omega⟩
  simp [layLO, List.take_append, List.drop_append, List.take_of_length_le, List.drop_of_length_le, show ∀ c : Nat, a.length + (c + 1) - a.length = c + 1 by intro c; omega, show ∀ c : Nat, a.length + 1 + c - a.length = c + 1 by intro c; omega]
  omega
theorem Blk.setCellsO {g : Nat} {t : TypeId} : ∀ (vs : List Value) (o : Nat) (w : World) (cs : Array Value), Blk w g t cs → o + vs.length ≤ cs.size → Blk (w.setCells g o vs) g t (layLO cs.toList o vs).toArray
  | [], o, w, cs, h, _ => by simpa [layLO, World.setCells] using h
  | v :: r, o, w, cs, h, hl => by
    have h1 := Blk.setCellsO r (o + 1) _ _ (h.set_ o v) (by simp at hl ⊢; omega)
    rw [Array.toList_setIfInBounds, layL_consO _ _ _ _ (by simp at hl ⊢; omega)] at h1
    exact h1
theorem Keeps.setCellsO {F : Nat → Prop} {g : Nat} (hg : F g) {a : World} : ∀ (vs : List Value) (o : Nat) (w : World), Keeps F a w → Keeps F a (w.setCells g o vs)
  | [], _, _, h => h
  | v :: r, o, _, h => Keeps.setCellsO hg r (o + 1) _ (h.setCell (p := ⟨g, o, none⟩) (.inl hg) v)

def zero6 : List Value := [.int .i64 0, .int .i64 0, .int .i64 0, .slice none 0 0, .int .i64 0, .bool false]
theorem run_clear_copy (w : World) (ty : TypeId) (b o c : Nat) (hc : ∀ j, j < 6 → (w.cell? ⟨b, o + j, none⟩).isSome = true) (hf : ∀ j, j < 6 → w.frozen? ⟨b, o + j, none⟩ = false) :
    (Builtin.clear_ #[71] ty #[.slice (some ⟨b, o, none⟩) 1 c]).run Try.prog w = .ok (.tuple #[]) (w.setCells b o zero6) := by
  have hzc : (Builtin.zeroCells zeroCopy.cells 1).toList = zero6 := by kernel_rfl
  have hst := run_storeCells_cells (P := Try.prog) b o zero6 0 w (by simpa [zero6] using hc) (by simpa [zero6] using hf) (by intro v hv'; simp [zero6] at hv'; rcases hv' with rfl | rfl | rfl | rfl <;> rfl)
  simp only [Nat.add_zero] at hst
  simp [Builtin.clear_, run_underlying Try.underlying71, hzc, hst]

theorem rawsC_take (l : List Raw) (k : Nat) (hk : k ≤ l.length) : (rawsC l).take (k * 6) = rawsC (l.take k) := by
  have e : rawsC l = rawsC (l.take k) ++ rawsC (l.drop k) := by rw [← rawsC_append, List.take_append_drop]
  rw [e, List.take_append_of_le_length (by rw [rawsC_length, List.length_take]; omega), List.take_of_length_le (by rw [rawsC_length, List.length_take]; omega)]
theorem rawsC_one (l : List Raw) : ∀ u ∈ rawsC l, u.oneCell' = true := by
  intro u hu
  obtain ⟨r, _, hr⟩ := List.mem_flatMap.1 hu
  simp [Raw.cells] at hr
  rcases hr with rfl | rfl | rfl | rfl | rfl | rfl <;> rfl

set_option maxRecDepth 20000 in
set_option maxHeartbeats 4000000 in
theorem delete_any (g cap k m : Nat) (l : List Raw) (base : Nat) (w : World) (hl : l.length = k + 1 + m) (hown : w.ownsRow base 48 6 (.slice (some ⟨g, 0, none⟩) l.length cap) l.length (rawsC l)) (hn : l.length ≤ 200000) :
    Calls Try.prog 34 #[.slice (some ⟨g, 0, none⟩) (k + 1 + m) cap, .int .i64 (k : Int), .int .i64 ((k : Int) + 1)] w fun r w' =>
      r = .returned (.slice (some ⟨g, 0, none⟩) (k + m) cap) ∧ w'.ownsRow base 48 6 (.slice (some ⟨g, 0, none⟩) (k + m) cap) (k + m) (rawsC (l.eraseIdx k)) ∧ Keeps (fun x => x = g) w w' := by
  obtain ⟨i0, hi, hz0, hz1, hz2⟩ := info_parts raw_info
  obtain ⟨cur, hbase, hblk, hnc, hcm, hsz, htk⟩ : ∃ cur : Array Value, base ≤ g ∧ Blk w g 48 cur ∧ l.length ≤ cap ∧ cap ≤ maxLen ∧ cur.size = cap * 6 ∧ cur.toList.take (l.length * 6) = rawsC l := by
    rcases hown.2 with ⟨h, _⟩ | ⟨g', cap', cur, h, hb, hh, h1, h2, h3, h4⟩
    · cases h
    · simp only [Value.slice.injEq, Option.some.injEq, Addr.mk.injEq, and_true, true_and] at h
      obtain ⟨rfl, rfl⟩ := h
      exact ⟨cur, hb, hh, h1, h2, h3, h4⟩
  unfold maxLen at hcm
  rw [hl] at hnc hn htk
  obtain ⟨news, hnews⟩ : ∃ news, news = rawsC (l.drop (k + 1)) := ⟨_, rfl⟩
  have hnl : news.length = m * 6 := by rw [hnews, rawsC_length, List.length_drop, hl]; omega
  have hbw : Blk w.drew g 48 cur := hblk
  have hcell : ∀ i, w.drew.cell? ⟨g, i, none⟩ = cur[i]? := hbw.cell
  have s2 : Hid (∀ u ∈ news, u.oneCell' = true) := by rw [hnews]; exact rawsC_one _
  obtain ⟨A, hA, hsrc⟩ : ∃ A : Addr, (if cap = k + 1 then some (⟨g, 0, none⟩ : Addr) else some ⟨g, (k + 1) * 6, none⟩) = some A ∧ Hid (∀ t u, news[t]? = some u → w.drew.cell? (A.add t) = some u) := by
    by_cases h : cap = k + 1
    · refine ⟨⟨g, 0, none⟩, by simp [h], fun t u hu => ?_⟩
      have h0 : news.length = 0 := by omega
      rw [List.length_eq_zero_iff.1 h0] at hu
      simp at hu
    · refine ⟨⟨g, (k + 1) * 6, none⟩, by simp [h], fun t u hu => ?_⟩
      have ht : t < m * 6 := by rw [← hnl]; exact (List.getElem?_eq_some_iff.1 hu).1
      rw [cell_add, hcell, ← hu, hnews]
      have e : (cur.toList.take ((k + 1 + m) * 6))[(k + 1) * 6 + t]? = (rawsC l)[(k + 1) * 6 + t]? := by rw [htk]
      rw [List.getElem?_take_of_lt (by omega), Array.getElem?_toList] at e
      rw [e]
      have e2 : rawsC l = rawsC (l.take (k + 1)) ++ rawsC (l.drop (k + 1)) := by rw [← rawsC_append, List.take_append_drop]
      rw [e2, List.getElem?_append_right (by rw [rawsC_length, List.length_take]; omega)]
      congr 1
      rw [rawsC_length, List.length_take, hl]
      omega
  have s3 : Hid (∀ t, t < news.length → (w.drew.cell? ⟨g, 0 + k * 6 + t, none⟩).isSome = true ∧ w.drew.frozen? ⟨g, 0 + k * 6 + t, none⟩ = false) := by
    intro t ht
    rw [hcell]
    exact ⟨by rw [Array.getElem?_eq_getElem (by omega)]; rfl, hbw.frozen _⟩
  obtain ⟨W1, hW1⟩ : ∃ W1, W1 = w.drew.setCells g (0 + k * 6) news := ⟨_, rfl⟩
  have hb1 : Blk W1 g 48 (layLO cur.toList (0 + k * 6) news).toArray := by rw [hW1]; exact Blk.setCellsO news _ _ _ hbw (by omega)
  have hl1 : (layLO cur.toList (0 + k * 6) news).length = cap * 6 := by simp [layLO]; omega
  have hcl : ∀ ty, (Builtin.clear_ #[71] ty #[.slice (some ⟨g, (k + m) * 6, none⟩) (k + 1 + m - (k + m)) (cap - (k + m))]).run Try.prog W1 = .ok (.tuple #[]) (W1.setCells g ((k + m) * 6) zero6) := fun ty => by
    rw [show k + 1 + m - (k + m) = 1 by omega]
    refine run_clear_copy W1 ty g ((k + m) * 6) (cap - (k + m)) (fun j hj => ?_) (fun j hj => hb1.frozen _)
    rw [hb1.cell, Array.getElem?_eq_getElem (by rw [List.size_toArray, hl1]; omega)]
    rfl
  have hK1 : Keeps (fun x => x = g) w W1 := by rw [hW1]; exact Keeps.setCellsO (F := fun x => x = g) rfl news _ _ (Keeps.refl _ _).drew
  have HW := hide hW1
  have HB1 := hide hb1
  have HK1 := hide hK1
  have HL1 := hide hl1
  have hkc : k ≤ cap := by omega
  have hkc1 : k + 1 ≤ cap := by omega
  have i1 : (0 : Int) ≤ (k : Int) + 1 := by omega
  have i2 : (k : Int) + 1 ≤ (k : Int) + 1 + (m : Int) := by omega
  clear hW1 hb1 hK1 hl1 hcell hbw hblk hown
  go_enter Try.func34, Try.ntmps34
  go_wp2_with fail
  go_region_law (refine step_append_room rfl (.tmp 22) (.tmp 25) 71 rfl 48 i0 6 Try.underlying71 hi hz1 g 0 k cap (by simp [Act.eval, Act.put]) A m (cap - (k + 1)) news (by simp [Act.eval, Act.put]) hnl hsrc.out s2.out (by omega) s3.out ?_; rw [← HW.out])
  go_wp2_with fail
  have hb2 := Blk.setCellsO zero6 ((k + m) * 6) _ _ HB1.out (by rw [List.size_toArray, HL1.out]; simp [zero6]; omega)
  have hK2 := Keeps.setCellsO (F := fun x => x = g) rfl zero6 ((k + m) * 6) _ HK1.out
  generalize W1.setCells g ((k + m) * 6) zero6 = W2 at hb2 hK2 ⊢
  go_ret
  refine ⟨rfl, ⟨?_, .inr ⟨g, cap, _, rfl, hbase, hb2, by omega, by unfold maxLen; omega, ?_, ?_⟩⟩, hK2⟩
  · rw [rawsC_length, List.length_eraseIdx, if_pos (by omega)]; omega
  · have := HL1.out
    simp only [List.size_toArray, layLO, List.length_append, List.length_take, List.length_drop, zero6, List.length_cons, List.length_nil, Array.length_toList] at this ⊢
    omega
  · have hr : rawsC (l.eraseIdx k) = rawsC (l.take k) ++ rawsC (l.drop (k + 1)) := by rw [List.eraseIdx_eq_take_drop_succ, rawsC_append]
    have h0 : cur.toList.take (k * 6) = rawsC (l.take k) := by
      rw [← rawsC_take l k (by omega), ← htk, List.take_take]
      congr 1
      omega
    have hz : (layLO cur.toList (0 + k * 6) news).take ((k + m) * 6) = rawsC (l.take k) ++ news := by
      unfold layLO
      rw [Nat.zero_add, h0, List.take_append_of_le_length (by rw [List.length_append, rawsC_length, List.length_take, hnl]; omega), List.take_of_length_le (by rw [List.length_append, rawsC_length, List.length_take, hnl]; omega)]
    rw [hr, ← hnews, ← hz]
    generalize layLO cur.toList (0 + k * 6) news = L at HL1 ⊢
    have hL := HL1.out
    dsimp only
    conv => lhs; unfold layLO
    rw [List.append_assoc, List.take_append_of_le_length (by rw [List.length_take]; omega), List.take_take, Nat.min_self]
end Go.Proofs.Ytdenfgnkbfbpmaa
