/-
  The walks of ScriptGets and ScriptPuts.
-/
import Derived.Test.YtgfpikelbemkiaaF
import Derived.Deep.DeepCutAuto
namespace Go.Proofs.Ytgfpikelbemkiaa
open Go.RowKit

theorem eql_ev (x : EV) (w : World) : (binOp .eql 27 (.agg x.arr) (.agg x.arr)).run Try.prog w = .ok (.bool true) w := by
  obtain ⟨a1, a2, a3, a4⟩ := x
  go_simp
set_option maxRecDepth 20000 in
set_option maxHeartbeats 4000000 in
theorem wakes_any (w : World) : Calls Try.prog 5 #[] w fun r w' => r = .returned (.bool true) ∧ Below w.heap.size w w' := by
  have hw := fun w => eql_ev ⟨4, 2, 0, 0⟩ w
  go_enter Try.func5, Try.ntmps5
  go_wp2_with fail
  have hr := Reads.new w #[.int .u8 4, .int .u8 2, .int .u8 0, .int .u8 0] 5 4 1 rfl
  have hb := hide (below_new w (.cells #[.int .u8 4, .int .u8 2, .int .u8 0, .int .u8 0] 5))
  have hs : (w.alloc (.cells #[.int .u8 4, .int .u8 2, .int .u8 0, .int .u8 0] 5)).heap.size = w.heap.size + 1 := by simp
  generalize w.alloc (.cells #[.int .u8 4, .int .u8 2, .int .u8 0, .int .u8 0] 5) = W at hr hb hs ⊢
  rw [← hs] at hr
  refine (get_any _ 4 4 [4, 2, 0, 0] _ (by omega) (by omega) (by omega) hr (by simp)).mono ?_
  rintro r w1 ⟨A', c', rfl, ho, hb1⟩
  obtain ⟨b, off, x, hA, hbb, hx, hat⟩ := (Reads.of_own ho).row_at EV.cells 4 EV.cells_len (by omega) (k := 0) (by omega)
  have hx' : x = ⟨4, 2, 0, 0⟩ := by
    have : (getN [4, 2, 0, 0] (4 / 4))[0]? = some ⟨4, 2, 0, 0⟩ := rfl
    exact Option.some.inj (hx.symm.trans this)
  subst hx'
  subst hA
  have d0 : w1.cell? ⟨b, off + 0 * 4 + 0, none⟩ = some (.int .i64 4) := hat 0 _ rfl
  have d1 : w1.cell? ⟨b, off + 0 * 4 + 1, none⟩ = some (.int .i64 2) := hat 1 _ rfl
  have d2 : w1.cell? ⟨b, off + 0 * 4 + 2, none⟩ = some (.int .i64 0) := hat 2 _ rfl
  have d3 : w1.cell? ⟨b, off + 0 * 4 + 3, none⟩ = some (.int .i64 0) := hat 3 _ rfl
  simp only [Nat.zero_mul, Nat.add_zero] at d0 d1 d2 d3
  have HB := hide (below0 hb.out hb1)
  clear hat hx ho hb1 hr hb hs
  go_wp2_with fail
  go_ret
  exact ⟨rfl, HB.out⟩

theorem entry_ok (bs : List Int) (hby : ∀ z ∈ bs, 0 ≤ z ∧ z < 256) (j : Nat) : okE (entryAt bs j) := by
  have h : ∀ i, 0 ≤ bs.getD i 0 ∧ bs.getD i 0 < 256 := fun i => by
    rw [List.getD_eq_getElem?_getD]
    cases hi : bs[i]? with
    | none => simp
    | some z => exact hby z (List.mem_of_getElem? hi)
  have h1 := h (4 * j + 1)
  have h2 := h (4 * j + 2)
  have h3 := h (4 * j + 3)
  refine ⟨?_, ?_, ?_, ?_, ?_, ?_, ?_, ?_⟩ <;> simp only [entryAt] <;> omega
theorem getN_ok (bs : List Int) (hby : ∀ z ∈ bs, 0 ≤ z ∧ z < 256) (k : Nat) : ∀ x ∈ getN bs k, okE x := fun x hx => by
  obtain ⟨j, _, rfl⟩ := List.mem_map.1 hx
  exact entry_ok bs hby j

set_option maxRecDepth 20000 in
set_option maxHeartbeats 4000000 in
theorem scriptGets_walk (A : Option Addr) (n c : Nat) (bs : List Int) (w : World) (hnc : n ≤ c) (hc : c ≤ 9223372036854775807) (hr : Reads w w.heap.size 1 A n (u8s bs)) (hby : ∀ z ∈ bs, 0 ≤ z ∧ z < 256) :
    Calls Try.prog 3 #[.slice A n c] w fun r w' => r = .returned (.bool true) ∧ Below w.heap.size w w' := by
  have HR := hide hr
  have HBY := hide hby
  clear hr hby
  go_enter Try.func3, Try.ntmps3
  go_wp2_with fail
  refine (wakes_any _).mono ?_
  rintro r w1 ⟨rfl, hb1⟩
  have HB1 := hide hb1
  clear hb1
  by_cases hn : 800 < n
  · go_wp2_with fail
    go_ret
    exact ⟨rfl, HB1.out⟩
  · go_wp2_with fail
    refine (get_any A n c bs _ (by omega) hnc hc ((HR.out.below HB1.out).more HB1.out.size) HBY.out).mono ?_
    rintro r w2 ⟨A2, c2, rfl, ho, hb⟩
    have HO := hide ho
    have HB2 := hide (below0 HB1.out hb)
    clear ho hb
    obtain ⟨N, hN⟩ : ∃ N, n / 4 = N := ⟨_, rfl⟩
    have hN2 : N ≤ 200 := by omega
    have HNN := hide hN
    rw [hN] at HO ⊢
    clear hN
    have HOK := hide (getN_ok bs HBY.out N)
    have HLN := hide (getN_length bs N)
    go_wp2_with fail
    go_loopw [15] (fun i wr => ∃ k : Nat, k ≤ N ∧ i = .int .i64 k ∧ Hid (Below w2.heap.size w2 wr)) (fun i _ => N - (intOf i).toNat)
    case atStart => exact ⟨0, Nat.zero_le _, rfl, Below.refl _ _⟩
    case round =>
      obtain ⟨k, hk, rfl, hb⟩ := hrel
      by_cases hlt : k < N
      · obtain ⟨b, off, x, rfl, hbb, hx, hat⟩ := (Reads.of_own HO.out).row_at EV.cells 4 EV.cells_len (by omega) hlt
        have HD := hide (decide_eq_true (HOK.out x (List.mem_of_getElem? hx)))
        obtain ⟨kind, xa, xb, xc⟩ := x
        have d0 : wr.cell? ⟨b, off + k * 4, none⟩ = some (.int .i64 kind) := cell_keep (hat 0 _ rfl) hb.out
        have d1 : wr.cell? ⟨b, off + k * 4 + 1, none⟩ = some (.int .i64 xa) := cell_keep (hat 1 _ rfl) hb.out
        have d2 : wr.cell? ⟨b, off + k * 4 + 2, none⟩ = some (.int .i64 xb) := cell_keep (hat 2 _ rfl) hb.out
        have d3 : wr.cell? ⟨b, off + k * 4 + 3, none⟩ = some (.int .i64 xc) := cell_keep (hat 3 _ rfl) hb.out
        have HBA := hide (below0 hb.out (below_new wr (.cells #[.int .i64 kind, .int .i64 xa, .int .i64 xb, .int .i64 xc] 27)))
        clear hat hx
        go_wp2_with fail
        refine (right_any ⟨kind, xa, xb, xc⟩ _).mono ?_
        rintro r w4 ⟨rfl, hb4⟩
        rw [HD.out]
        have HB4 := hide (below0 HBA.out hb4)
        clear hb4 d0 d1 d2 d3
        go_wp2_with fail
        go_roundw
        case rel => exact ⟨k + 1, by omega, by go_num, HB4⟩
        case measure => simp [intOf]; omega
      · have HBW := hide (below0 HB2.out hb.out)
        go_wp2_with fail
        refine (refGet_any A n c bs _ (by omega) ((HR.out.below HBW.out).more HBW.out.size) HBY.out).mono ?_
        rintro r w5 ⟨A5, c5, rfl, ho5, hb5⟩
        rw [HNN.out] at ho5 ⊢
        have HO5 := hide (Reads.of_own ho5)
        have HB5 := hide (below0 HBW.out hb5)
        have HO2 := hide ((((Reads.of_own HO.out).below hb.out).more hb.out.size |>.below hb5).more hb5.size)
        clear ho5 hb5
        go_wp2_with fail
        refine (same_any A2 N c2 _ A5 N c5 _ _ (by omega) (by omega) HO2.out HO5.out).mono ?_
        rintro r w6 ⟨rfl, hb6⟩
        have HB6 := hide (below0 HB5.out hb6)
        clear hb6
        go_wp2_with fail
        go_ret
        exact ⟨ret_bool (by simp), HB6.out⟩

/-- the bytes of right entries, and the entries of those -/
theorem putL_bytes (l : List EV) (h : ∀ x ∈ l, okE x) : ∀ z ∈ putL l, 0 ≤ z ∧ z < 256 := by
  intro z hz
  obtain ⟨x, hx, hz⟩ := List.mem_flatMap.1 hz
  obtain ⟨h1, h2, h3, h4, h5, h6, h7, h8⟩ := h x hx
  simp only [EV.bytes, List.mem_cons, List.not_mem_nil, or_false] at hz
  omega
theorem putL_at : ∀ (l : List EV) (j : Nat) (x : EV), l[j]? = some x → (putL l).getD (4 * j) 0 = x.kind ∧ (putL l).getD (4 * j + 1) 0 = x.a ∧ (putL l).getD (4 * j + 2) 0 = x.b ∧ (putL l).getD (4 * j + 3) 0 = x.c
  | [], _, _, h => by cases h
  | y :: l, 0, x, h => by
    simp only [List.getElem?_cons_zero, Option.some.injEq] at h
    subst h
    simp [putL, EV.bytes, List.getD_eq_getElem?_getD]
  | y :: l, j + 1, x, h => by
    simp only [List.getElem?_cons_succ] at h
    have := putL_at l j x h
    simp only [putL, List.getD_eq_getElem?_getD, List.flatMap_cons] at this ⊢
    have e : ∀ i, (y.bytes ++ List.flatMap EV.bytes l)[4 * (j + 1) + i]? = (List.flatMap EV.bytes l)[4 * j + i]? := fun i => by
      rw [List.getElem?_append_right (by simp [EV.bytes]; omega)]
      congr 1
      simp [EV.bytes]
      omega
    have e0 := e 0
    simp only [Nat.add_zero] at e0
    rw [e0, e 1, e 2, e 3]
    exact this
theorem getN_put (l : List EV) (h : ∀ x ∈ l, okE x) : getN (putL l) l.length = l := by
  refine List.ext_getElem? fun j => ?_
  rcases Nat.lt_or_ge j l.length with hj | hj
  · have hx : l[j]? = some l[j] := List.getElem?_eq_getElem hj
    obtain ⟨h1, h2, h3, h4⟩ := putL_at l j _ hx
    obtain ⟨g1, g2, _⟩ := h _ (List.mem_of_getElem? hx)
    rw [getN, List.getElem?_map, List.getElem?_range hj, hx]
    simp only [Option.map_some, entryAt, h1, h2, h3, h4]
    congr 1
    have : l[j].kind % 11 = l[j].kind := by omega
    rw [this]
  · rw [List.getElem?_eq_none (by rw [getN_length]; exact hj), List.getElem?_eq_none hj]

abbrev EntS (g : Nat) (k a b c : Int) (w : World) : Prop := w.cell? ⟨g, 0, none⟩ = some (.int .i64 k) ∧ w.cell? ⟨g, 1, none⟩ = some (.int .i64 a) ∧ w.cell? ⟨g, 2, none⟩ = some (.int .i64 b) ∧ w.cell? ⟨g, 3, none⟩ = some (.int .i64 c)
theorem EntS.of {w : World} {g : Nat} {k a b c : Int} (h : Blk w g 27 #[.int .i64 k, .int .i64 a, .int .i64 b, .int .i64 c]) : EntS g k a b c w := ⟨h.cell 0, h.cell 1, h.cell 2, h.cell 3⟩
def allB (l : List EV) : Bool := l.all fun x => decide (okE x)

theorem own_cap {w : World} {base : Nat} {e : TypeId} {size n c : Nat} {A : Option Addr} {xs : List Value} (h : w.ownsRow base e size (.slice A n c) n xs) : n ≤ c ∧ c ≤ maxLen := by
  rcases h.2 with ⟨e, rfl⟩ | ⟨g, cap, cur, e, _, _, h1, h2, _⟩
  · injection e with _ h1 h2
    subst h2
    exact ⟨Nat.le_refl _, by decide⟩
  · injection e with _ _ h0
    subst h0
    exact ⟨h1, h2⟩
theorem RowAt.reads {α : Type} {cells : α → List Value} {size : Nat} (hc : ∀ a, (cells a).length = size) (hs : 0 < size) {w : World} {A : Option Addr} {n : Nat} {l : List α} (h : RowAt cells size w A n l) : Reads w w.heap.size size A n (rowC cells l) := by
  refine ⟨by rw [rowC_length cells size hc, h.1], fun hn => ?_⟩
  obtain ⟨b, off, hA, hb, hat⟩ := h.2 hn
  refine ⟨b, off, hA, hb, fun i u hu => ?_⟩
  have hlt : i < l.length * size := by have := (List.getElem?_eq_some_iff.1 hu).1; rwa [rowC_length cells size hc] at this
  have hk : i / size < l.length := (Nat.div_lt_iff_lt_mul hs).2 hlt
  have hx : l[i / size]? = some l[i / size] := List.getElem?_eq_getElem hk
  have e : i = i / size * size + i % size := by have := Nat.div_add_mod i size; rw [Nat.mul_comm] at this; omega
  have h1 := rowC_at cells size hc l _ _ _ hx (Nat.mod_lt i hs)
  rw [← e, hu] at h1
  have := hat _ _ hx _ _ h1.symm
  rw [show off + i = off + i / size * size + i % size by omega]
  exact this

set_option maxRecDepth 20000 in
set_option maxHeartbeats 8000000 in
theorem scriptPuts_walk (A : Option Addr) (n c : Nat) (l : List EV) (w : World) (hr : RowAt EV.cells 4 w A n l) :
    Calls Try.prog 4 #[.slice A n c] w fun r w' => r = .returned (.bool true) ∧ Below w.heap.size w w' := by
  have HR := hide hr
  clear hr
  go_enter Try.func4, Try.ntmps4
  go_wp2_with fail
  refine (wakes_any _).mono ?_
  rintro r w1 ⟨rfl, hb1⟩
  have HB1 := hide hb1
  clear hb1
  by_cases hn : 200 < n
  · go_wp2_with fail
    go_ret
    exact ⟨rfl, HB1.out⟩
  · go_wp2_with fail
    go_loopw [3, 15] (fun v i wr => ∃ k : Nat, k ≤ n ∧ i = .int .i64 k ∧ v = .bool (allB (l.take k)) ∧ Hid (Below w.heap.size w wr)) (fun _ i _ => n - (intOf i).toNat)
    case atStart => exact ⟨0, Nat.zero_le _, rfl, rfl, HB1⟩
    case round =>
      obtain ⟨k, hk, rfl, rfl, hb⟩ := hrel
      obtain ⟨v, hv⟩ : ∃ v, allB (l.take k) = v := ⟨_, rfl⟩
      have HV := hide hv
      rw [hv]
      clear hv
      by_cases hlt : k < n
      · obtain ⟨b, off, x, rfl, hbb, hx, hat⟩ := HR.out.at_ hb.out hlt
        have HT := hide (show allB (l.take (k + 1)) = (v && decide (okE x)) by rw [take_snoc _ _ _ hx, ← HV.out]; simp [allB])
        obtain ⟨kind, xa, xb, xc⟩ := x
        have d0 : wr.cell? ⟨b, off + k * 4, none⟩ = some (.int .i64 kind) := hat 0 _ rfl
        have d1 : wr.cell? ⟨b, off + k * 4 + 1, none⟩ = some (.int .i64 xa) := hat 1 _ rfl
        have d2 : wr.cell? ⟨b, off + k * 4 + 2, none⟩ = some (.int .i64 xb) := hat 2 _ rfl
        have d3 : wr.cell? ⟨b, off + k * 4 + 3, none⟩ = some (.int .i64 xc) := hat 3 _ rfl
        have hB0 := below0 hb.out (below_new wr (.cells #[.int .i64 kind, .int .i64 xa, .int .i64 xb, .int .i64 xc] 27))
        have hx0 := Blk.new wr 27 #[.int .i64 kind, .int .i64 xa, .int .i64 xb, .int .i64 xc]
        clear hat hx
        obtain ⟨d, hd⟩ : ∃ d, decide (okE ⟨kind, xa, xb, xc⟩) = d := ⟨_, rfl⟩
        have HD := hide hd
        rw [hd] at HT
        clear hd
        go_upto_region 9 with (fail)
        generalize wr.alloc (.cells #[.int .i64 kind, .int .i64 xa, .int .i64 xb, .int .i64 xc] 27) = W at hB0 hx0 ⊢
        generalize wr.heap.size = z at hx0 ⊢
        have HX0 := hide hx0
        have HB0 := hide hB0
        clear d0 d1 d2 d3 hB0 hx0
        go_cut [3] (fun v' wc => v' = .bool (v && d) ∧ Hid (Blk wc z 27 #[.int .i64 kind, .int .i64 xa, .int .i64 xb, .int .i64 xc]) ∧ Hid (Below w.heap.size w wc))
        case first =>
          obtain ⟨s0, s1, s2, s3⟩ := EntS.of HX0.out
          cases v
          · go_wp2_with fail
            go_meet
            case rel => exact ⟨rfl, HX0, HB0⟩
          · go_wp2_with fail
            refine (refRight_any ⟨kind, xa, xb, xc⟩ _).mono ?_
            rintro r w4 ⟨rfl, hb4⟩
            rw [HD.out]
            have HX4 := hide (HX0.out.below hb4 HX0.out.lt)
            have HB4 := hide (below0 HB0.out hb4)
            clear hb4 s0 s1 s2 s3
            go_wp2_with fail
            go_meet
            case rel => exact ⟨by simp, HX4, HB4⟩
        case rest =>
        obtain ⟨rfl, HX1, HB2⟩ := hcut
        clear HX0 HB0
        have hS0 : EntS z kind xa xb xc wc.drew := EntS.of HX1.out
        go_wp2_with fail
        go_region_held3 (fun w' => EntS z kind xa xb xc w') (first | assumption | ((repeat' apply And.intro) <;> first | assumption | go_keep))
          (first
            | (go_at_call 7; refine (right_any ⟨kind, xa, xb, xc⟩ _).mono ?_; rintro r w5 ⟨rfl, hb5⟩; rw [HD.out]; have hx5 := HX1.out.drew.below hb5 HX1.out.lt; have hS5 := EntS.of hx5)
            | (go_at_call 10; refine (refRight_any ⟨kind, xa, xb, xc⟩ _).mono ?_; rintro r w6 ⟨rfl, hb6⟩; rw [HD.out]; have hx6 := hx5.below hb6 hx5.lt; have hS6 := EntS.of hx6))
        have HB6 := hide (below0 (below0 HB2.out.drew hb5) hb6)
        clear hS0 hS5 hS6 hx5 hx6 hb5 hb6
        cases d
        all_goals
          go_wp2_with fail
          go_roundw
          case rel => exact ⟨k + 1, by omega, by go_num, by rw [HT.out], HB6⟩
          case measure => simp [intOf]; omega
      · have hkl : l.take k = l := List.take_of_length_le (by have := HR.out.1; omega)
        rw [hkl] at HV
        have HRD := hide (HR.out.reads EV.cells_len (by omega))
        have hln := HR.out.1
        clear hkl
        go_wp2_with fail
        refine (put_any A n c l _ (by omega) ((HRD.out.below hb.out).more hb.out.size)).mono ?_
        rintro r w2 (⟨hok, A2, c2, rfl, ho, hb2⟩ | ⟨⟨x, hx, hno⟩, rfl, hb2⟩)
        · obtain rfl : v = true := by rw [← HV.out]; simpa [allB] using hok
          have HO2 := hide (Reads.of_own ho)
          have HC := own_cap ho
          have HOK := hide hok
          have HG := hide (getN_put l hok)
          have HBY := hide (putL_bytes l hok)
          have HB2 := hide (below0 hb.out hb2)
          obtain ⟨hc1, hc2⟩ := HC
          unfold maxLen at hc2
          subst hln
          clear ho hb2 hok
          go_wp2_with fail
          refine (get_any A2 (4 * l.length) c2 _ _ (by omega) hc1 hc2 HO2.out HBY.out).mono ?_
          rintro r w3 ⟨A3, c3, rfl, ho, hb3⟩
          rw [show 4 * l.length / 4 = l.length by omega, HG.out] at ho
          rw [show 4 * l.length / 4 = l.length by omega]
          have HO3 := hide (Reads.of_own ho)
          have HB3 := hide (below0 HB2.out hb3)
          have HO2' := hide ((HO2.out.below hb3).more hb3.size)
          clear ho hb3
          go_wp2_with fail
          refine (same_any A3 l.length c3 l A l.length c l _ (by omega) (by omega) HO3.out ((HRD.out.below HB3.out).more HB3.out.size)).mono ?_
          rintro r w4 ⟨rfl, hb4⟩
          rw [decide_eq_true rfl]
          have HB4 := hide (below0 HB3.out hb4)
          have HO4 := hide ((HO2'.out.below hb4).more hb4.size)
          clear hb4
          go_wp2_with fail
          refine (refGet_any A2 (4 * l.length) c2 _ _ (by omega) HO4.out HBY.out).mono ?_
          rintro r w5 ⟨A5, c5, rfl, ho, hb5⟩
          rw [show 4 * l.length / 4 = l.length by omega, HG.out] at ho
          rw [show 4 * l.length / 4 = l.length by omega]
          have HO5 := hide (Reads.of_own ho)
          have HB5 := hide (below0 HB4.out hb5)
          clear ho hb5
          go_wp2_with fail
          refine (same_any A5 l.length c5 l A l.length c l _ (by omega) (by omega) HO5.out ((HRD.out.below HB5.out).more HB5.out.size)).mono ?_
          rintro r w6 ⟨rfl, hb6⟩
          rw [decide_eq_true rfl]
          have HB6 := hide (below0 HB5.out hb6)
          clear hb6
          go_wp2_with fail
          go_ret
          exact ⟨rfl, HB6.out⟩
        · obtain rfl : v = false := by
            rw [← HV.out, Bool.eq_false_iff]
            intro h
            exact hno (by simpa using List.all_eq_true.1 h x hx)
          have HB2 := hide (below0 hb.out hb2)
          clear hb2
          go_wp2_with fail
          go_ret
          exact ⟨rfl, HB2.out⟩
end Go.Proofs.Ytgfpikelbemkiaa
