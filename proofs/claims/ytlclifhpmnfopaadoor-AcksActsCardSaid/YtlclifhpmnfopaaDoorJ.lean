/-
  acks.pieces over heads, and the statement's own pieces.
-/
import Derived.Test.YtlclifhpmnfopaaDoorI
namespace Go.Proofs.YtlclifhpmnfopaaDoor
open Go.RowKit

/-- piece j of three -/
def pieceAt (hs : List Hd) (j : Nat) : List Hd := (hs.drop (3 * j)).take 3
def PiecesAt (w : World) (base : Nat) (vs : List Value) (hs : List Hd) (n : Nat) : Prop :=
  vs.length = n ∧ ∀ j v, vs[j]? = some v → w.ownsRow base 46 7 v (pieceAt hs j).length (heads (pieceAt hs j))

theorem slices_info : (Tryd.prog.info? 33).map (fun i => (i.zero, i.size, i.bytes)) = some (some (.slice none 0 0), 1, 24) := by kernel_rfl
theorem size33 (w : World) : (sizeOf (Tryd.prog.elem 33)).run Tryd.prog w = .ok 7 w := by kernel_rfl

theorem PiecesAt.below {w w' : World} {base : Nat} {vs : List Value} {hs : List Hd} {n : Nat} (h : PiecesAt w base vs hs n) (hb : Below w.heap.size w w') : PiecesAt w' base vs hs n :=
  ⟨h.1, fun j v hv => (Keeps.of_below (F := fun _ => False) hb).own (h.2 j v hv) (fun _ _ h => h)⟩

theorem own_mono {w : World} {base base' : Nat} {e : TypeId} {size n : Nat} {v : Value} {xs : List Value} (h : w.ownsRow base e size v n xs) (hb : base' ≤ base) : w.ownsRow base' e size v n xs := by
  refine ⟨h.1, ?_⟩
  rcases h.2 with h0 | ⟨g, cap, cur, rfl, hg, r⟩
  · exact .inl h0
  · exact .inr ⟨g, cap, cur, rfl, Nat.le_trans hb hg, r⟩
theorem own_types {w : World} {base base' : Nat} {e e' : TypeId} {size size' n n' : Nat} {v v' : Value} {xs xs' : List Value} (h : w.ownsRow base e size v n xs) (h' : w.ownsRow base' e' size' v' n' xs') (hne : e ≠ e') : v.ownBlock = none ∨ v.ownBlock ≠ v'.ownBlock := by
  rcases h.2 with ⟨rfl, _⟩ | ⟨g, cap, cur, rfl, _, hh, _⟩
  · exact .inl rfl
  · rcases h'.2 with ⟨rfl, _⟩ | ⟨g', cap', cur', rfl, _, hh', _⟩
    · exact .inr (by simp [Value.ownBlock])
    · refine .inr (fun e0 => ?_)
      have : g = g' := by simpa [Value.ownBlock] using e0
      subst this
      rw [hh] at hh'
      injection hh' with hh'
      injection hh' with _ ht
      exact hne ht
theorem PiecesAt.snoc {w w1 w3 : World} {base : Nat} {vs : List Value} {hs : List Hd} {n : Nat} {A2 : Option Addr} {c2 : Nat} {v : Value} (h : PiecesAt w base vs hs n) (hb : Below w.heap.size w w1) (hbase : base ≤ w.heap.size)
    (ho : w1.ownsRow w.heap.size 46 7 v (pieceAt hs n).length (heads (pieceAt hs n))) (hout : w1.ownsRow base 33 1 (.slice A2 n c2) n vs)
    (hg : (w1.alloc (.cells #[v] 33)).grownBy w3 (Value.slice A2 n c2).ownBlock) : PiecesAt w3 base (vs ++ [v]) hs (n + 1) := by
  have hk : ∀ {v' : Value} {m : Nat} {xs : List Value}, w1.ownsRow base 46 7 v' m xs → w3.ownsRow base 46 7 v' m xs := fun {v' m xs} ho' =>
    (ho'.alloc _).kept hg (own_types ho' hout (by decide))
  refine ⟨by simp [h.1], fun j u hu => ?_⟩
  rw [List.getElem?_append] at hu
  split at hu
  · exact hk ((h.below hb).2 j u hu)
  · rename_i hlt
    rw [h.1] at hlt hu
    obtain ⟨hj, rfl⟩ : j - n = 0 ∧ v = u := by
      cases hjn : j - n with
      | zero => rw [hjn] at hu; exact ⟨rfl, by simpa using hu⟩
      | succ k => rw [hjn] at hu; simp at hu
    obtain rfl : j = n := by omega
    exact hk (own_mono ho hbase)

theorem Reads.tail {w : World} {B n lo b off : Nat} {hs : List Hd} (h : Reads w B 7 (some ⟨b, off, none⟩) n (heads hs)) (h1 : lo < n) : Reads w B 7 (some ⟨b, off + lo * 7, none⟩) (n - lo) (heads (hs.drop lo)) := by
  have hl : hs.length = n := by have := h.1; rw [heads_length] at this; omega
  have h0 := h.sub (lo := lo) (hi := n) (m := lo + 1) (by omega) (Nat.le_refl _) (fun _ => by omega)
  rw [if_neg (by omega), List.take_of_length_le (by rw [List.length_drop]; omega)] at h0
  rcases Nat.eq_zero_or_pos lo with rfl | hp
  · simpa [Addr.add] using h0
  · have h7 : ¬ lo * 7 = 0 := by omega
    simpa [Addr.add, h7] using h0
theorem Reads.nought {w : World} {B : Nat} {A : Option Addr} {hs : List Hd} (h : hs = []) : Reads w B 7 A 0 (heads hs) := by
  subst h
  exact ⟨rfl, fun h => absurd h (Nat.lt_irrefl _)⟩

set_option maxHeartbeats 2000000 in
theorem pieces_any (A : Option Addr) (n c : Nat) (hs : List Hd) (w : World) (hn : n ≤ 100000) (hnc : n ≤ c) (hcm : c ≤ maxLen) (hr : Reads w w.heap.size 7 A n (heads hs)) :
    Calls Tryd.prog 22 #[.slice A n c, .int .i64 3] w fun r w' => ∃ A' c' vs, r = .returned (.slice A' ((n + 2) / 3) c') ∧ w'.ownsRow w.heap.size 33 1 (.slice A' ((n + 2) / 3) c') ((n + 2) / 3) vs ∧ PiecesAt w' w.heap.size vs hs ((n + 2) / 3) ∧ Below w.heap.size w w' := by
  have hlen : hs.length = n := by have := hr.1; rw [heads_length] at this; omega
  have Hlen := hide hlen
  clear hlen
  unfold maxLen at hcm
  obtain ⟨i0, hi, hz0, hz1, hz2⟩ := info_parts slices_info
  go_enter Tryd.func22, Tryd.ntmps22
  go_wp2_with fail
  go_loopw [0, 5] (fun l v wr => ∃ (j : Nat) (A1 : Option Addr) (c1 : Nat) (A2 : Option Addr) (c2 : Nat) (vs : List Value), j ≤ (n + 2) / 3 ∧ l = .slice A1 (n - 3 * j) c1 ∧ v = .slice A2 j c2 ∧ n - 3 * j ≤ c1 ∧ c1 ≤ c ∧ Reads wr w.heap.size 7 A1 (n - 3 * j) (heads (hs.drop (3 * j))) ∧ wr.ownsRow w.heap.size 33 1 (.slice A2 j c2) j vs ∧ PiecesAt wr w.heap.size vs hs j ∧ Below w.heap.size w wr) (fun l _ _ => match l with | .slice _ k _ => k | _ => 0)
  case atStart => exact ⟨0, A, c, none, 0, [], Nat.zero_le _, rfl, rfl, hnc, Nat.le_refl _, by simpa using hr, World.ownsRow_nil _ _ _ _, ⟨rfl, fun j v hv => by simp at hv⟩, Below.refl _ _⟩
  case round =>
    obtain ⟨j, A1, c1, A2, c2, vs, hj, rfl, rfl, hnc1, hc1, hr1, hown, hP, hb⟩ := hrel
    by_cases hlt : 3 * j < n
    · have hs33 := size33
      go_wp2_with fail
      · have HPc := hide (show (hs.drop (3 * j)).take (3) = pieceAt hs j by rfl)
        obtain ⟨b, off, rfl, hbb, _⟩ := hr1.2 (by omega)
        have hrt := hr1.take (k := 3) (by omega)
        rw [heads_take, HPc.out] at hrt
        have hpl := hrt.1
        rw [heads_length] at hpl
        refine (clone_any _ _ _ (pieceAt hs j) _ (by omega) (hrt.more hb.size)).mono ?_
        rintro r w1 ⟨v, rfl, A4, c4, rfl, ho4, hb4⟩
        have hr1' := (hr1.below (hb4.mono hb.size))
        have hown' := (Keeps.of_below (F := fun _ => False) hb4).own hown (fun _ _ h => h)
        have hbw1 := below_call hb hb.size hb4
        have HH := hide (⟨hP, hb4, ho4⟩ : PiecesAt wr w.heap.size vs hs j ∧ Below wr.heap.size wr w1 ∧ w1.ownsRow wr.heap.size 46 7 (.slice A4 (pieceAt hs j).length c4) (pieceAt hs j).length (heads (pieceAt hs j)))
        have HB := hide hb
        clear hP hb4 ho4 hb
        go_wp2_with (first
          | (at_builtin
             refine wpList_append_any _ rfl (.tmp 15) (.tmp 23) 39 rfl w.heap.size 33 i0 _ 1 24 Tryd.underlying39 hi hz0 hz1 hz2 rfl (by omega) (.slice A2 j c2) j vs rfl
               (hown'.alloc _) (w1.heap.size + 1) (some ⟨w1.heap.size, 0, none⟩) 1 1 [.slice A4 (pieceAt hs j).length c4] rfl (Reads.new w1 #[.slice A4 (pieceAt hs j).length c4] 33 1 1 rfl) (by simp [Value.oneCell']) (by simp only [maxLen]; omega) (by omega) (by simp; have := hbw1.size; omega) ?_
             intro A3 c3 w3 hown3 hg3 hloc3))
        have hown4 : w3.ownsRow w.heap.size 33 1 (.slice A3 (j + 1) c3) (j + 1) (vs ++ [.slice A4 (pieceAt hs j).length c4]) := hown3
        have hP4 := PiecesAt.snoc HH.out.1 HH.out.2.1 HB.out.size HH.out.2.2 hown' hg3
        have hrow : ∀ g, (Value.slice A2 j c2).ownBlock = some g → w.heap.size ≤ g := fun g hg => (own_base hown' hg).1
        have hb4 : Below w.heap.size w w3 := (hbw1.alloc hbw1.size _).grown hg3 (by have := hbw1.size; simp; omega) hrow
        have hr4 : Reads w3 w.heap.size 7 (some ⟨b, off, none⟩) (n - 3 * j) (heads (hs.drop (3 * j))) := (hr1'.alloc hbw1.size _).grown hg3 (by have := hbw1.size; simp; omega) hrow
        refine ⟨⟨j + 1, _, _, A3, c3, _, by omega, by rw [show n - 3 * j - 3 = n - 3 * (j + 1) by omega], rfl, by omega, by omega, ?_, hown4, hP4, hb4⟩, by simp; omega⟩
        have := hr4.tail (lo := 3) (by omega)
        rw [List.drop_drop] at this
        rw [show n - 3 * (j + 1) = n - 3 * j - 3 by omega]
        exact this
      · have HPc := hide (show (hs.drop (3 * j)).take (n - 3 * j) = pieceAt hs j by rw [pieceAt, List.take_of_length_le (by rw [List.length_drop, Hlen.out]; omega), List.take_of_length_le (by rw [List.length_drop, Hlen.out]; omega)])
        obtain ⟨b, off, rfl, hbb, _⟩ := hr1.2 (by omega)
        have hrt := hr1.take (k := n - 3 * j) (by omega)
        rw [heads_take, HPc.out] at hrt
        have hpl := hrt.1
        rw [heads_length] at hpl
        refine (clone_any _ _ _ (pieceAt hs j) _ (by omega) (hrt.more hb.size)).mono ?_
        rintro r w1 ⟨v, rfl, A4, c4, rfl, ho4, hb4⟩
        have hr1' := (hr1.below (hb4.mono hb.size))
        have hown' := (Keeps.of_below (F := fun _ => False) hb4).own hown (fun _ _ h => h)
        have hbw1 := below_call hb hb.size hb4
        have HH := hide (⟨hP, hb4, ho4⟩ : PiecesAt wr w.heap.size vs hs j ∧ Below wr.heap.size wr w1 ∧ w1.ownsRow wr.heap.size 46 7 (.slice A4 (pieceAt hs j).length c4) (pieceAt hs j).length (heads (pieceAt hs j)))
        have HB := hide hb
        clear hP hb4 ho4 hb
        go_wp2_with (first
          | (at_builtin
             refine wpList_append_any _ rfl (.tmp 15) (.tmp 23) 39 rfl w.heap.size 33 i0 _ 1 24 Tryd.underlying39 hi hz0 hz1 hz2 rfl (by omega) (.slice A2 j c2) j vs rfl
               (hown'.alloc _) (w1.heap.size + 1) (some ⟨w1.heap.size, 0, none⟩) 1 1 [.slice A4 (pieceAt hs j).length c4] rfl (Reads.new w1 #[.slice A4 (pieceAt hs j).length c4] 33 1 1 rfl) (by simp [Value.oneCell']) (by simp only [maxLen]; omega) (by omega) (by simp; have := hbw1.size; omega) ?_
             intro A3 c3 w3 hown3 hg3 hloc3))
        have hown4 : w3.ownsRow w.heap.size 33 1 (.slice A3 (j + 1) c3) (j + 1) (vs ++ [.slice A4 (pieceAt hs j).length c4]) := hown3
        have hP4 := PiecesAt.snoc HH.out.1 HH.out.2.1 HB.out.size HH.out.2.2 hown' hg3
        have hrow : ∀ g, (Value.slice A2 j c2).ownBlock = some g → w.heap.size ≤ g := fun g hg => (own_base hown' hg).1
        have hb4 : Below w.heap.size w w3 := (hbw1.alloc hbw1.size _).grown hg3 (by have := hbw1.size; simp; omega) hrow
        have hr4 : Reads w3 w.heap.size 7 (some ⟨b, off, none⟩) (n - 3 * j) (heads (hs.drop (3 * j))) := (hr1'.alloc hbw1.size _).grown hg3 (by have := hbw1.size; simp; omega) hrow
        refine ⟨⟨j + 1, _, _, A3, c3, _, by omega, by rw [show n - 3 * (j + 1) = 0 by omega], rfl, by omega, by omega, ?_, hown4, hP4, hb4⟩, by simp; omega⟩
        rw [show n - 3 * (j + 1) = 0 by omega]
        exact Reads.nought (List.drop_eq_nil_of_le (by rw [Hlen.out]; omega))
    · obtain rfl : j = (n + 2) / 3 := by omega
      go_wp2_with fail
      go_ret
      exact ⟨A2, c2, vs, rfl, hown, hP, hb⟩

set_option maxHeartbeats 2000000 in
theorem lawPieces_any (A A' : Option Addr) (n c c' base : Nat) (hs : List Hd) (vs : List Value) (w : World) (hn : n ≤ 100000) (hnc : n ≤ c) (hcm : c ≤ maxLen) (hr : Reads w w.heap.size 7 A n (heads hs))
    (hown : w.ownsRow base 33 1 (.slice A' ((n + 2) / 3) c') ((n + 2) / 3) vs) (hP : PiecesAt w base vs hs ((n + 2) / 3)) :
    Calls Tryd.prog 14 #[.slice A' ((n + 2) / 3) c', .slice A n c] w fun r w' => r = .returned (.bool true) ∧ Below w.heap.size w w' := by
  have hlen : hs.length = n := by have := hr.1; rw [heads_length] at this; omega
  have Hlen := hide hlen
  clear hlen
  unfold maxLen at hcm
  have hro := Reads.of_own hown
  have HP := hide hP
  clear hP hown
  have hs33 := size33
  obtain ⟨q, hq⟩ : ∃ q, q = (n + 2) / 3 := ⟨_, rfl⟩
  have hq2 : (((n : Int) + 2) / 3) = (q : Int) := by omega
  rw [← hq] at hro HP ⊢
  have Hq := hide hq
  clear hq
  go_enter Tryd.func14, Tryd.ntmps14
  go_wp2_with fail
  clear hq2
  go_loopw [16] (fun i wr => ∃ k : Nat, k ≤ q ∧ i = .int .i64 k ∧ Below w.heap.size w wr) (fun i _ => q - (intOf i).toNat)
  case atStart => exact ⟨0, Nat.zero_le _, rfl, Below.refl _ _⟩
  case round =>
    obtain ⟨k, hk, rfl, hb⟩ := hrel
    by_cases hlt : k < q
    · have hkn : 3 * k < n := by have := Hq.out; omega
      obtain ⟨b', off', v, rfl, hbb', hv, hcell⟩ := hro.at_ hlt
      obtain ⟨A4, c4, hv4⟩ := own_form (HP.out.2 k v hv)
      subst hv4
      have hpc := ((Reads.of_own (HP.out.2 k _ hv)).below hb).more hb.size
      have hcell' : wr.cell? ⟨b', off' + k, none⟩ = some (.slice A4 (pieceAt hs k).length c4) := (hb.cell (p := ⟨b', off' + k, none⟩) hbb').trans hcell
      clear hcell hv
      obtain ⟨b, off, rfl, hbb, _⟩ := hr.2 (by omega)
      have hrw := (hr.below hb).more hb.size
      have hpl : (pieceAt hs k).length ≤ 3 := by unfold pieceAt; exact List.length_take_le _ _
      go_wp2_with fail
      · have ht := hrw.tail hkn
        have e0 : hs.drop (3 * k) = pieceAt hs k := by rw [pieceAt, List.take_of_length_le (by rw [List.length_drop, Hlen.out]; omega)]
        rw [e0] at ht
        refine (same_any _ _ _ (pieceAt hs k) _ _ _ _ (by omega) hpc ht).mono ?_
        rintro r w1 ⟨rfl, hb1⟩
        have hb2 := below0 hb hb1
        go_wp2
        go_roundw
        case rel => exact ⟨k + 1, by omega, by go_num, hb2⟩
        case measure => simp [intOf]; omega
      · have ht := (hrw.tail hkn).take (k := 3) (by omega)
        rw [heads_take, show (hs.drop (3 * k)).take 3 = pieceAt hs k from rfl] at ht
        rw [show ((3 * (k : Int) + 3).toNat - 3 * k) = 3 by omega]
        refine (same_any _ _ _ (pieceAt hs k) _ _ _ _ (by omega) hpc ht).mono ?_
        rintro r w1 ⟨rfl, hb1⟩
        have hb2 := below0 hb hb1
        go_wp2
        go_roundw
        case rel => exact ⟨k + 1, by omega, by go_num, hb2⟩
        case measure => simp [intOf]; omega
    · go_wp2
      go_ret
      exact ⟨rfl, hb⟩
end Go.Proofs.YtlclifhpmnfopaaDoor
