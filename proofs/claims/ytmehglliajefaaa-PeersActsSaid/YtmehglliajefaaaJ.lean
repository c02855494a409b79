/-
  The reference's list in memory; on, who, Find, Takes.
-/
import Derived.Test.YtmehglliajefaaaI
namespace Go.Proofs.Ytmehglliajefaaa
open Go.RowKit

theorem refWho_any (a : Int) (h : 0 ≤ a) (w : World) : Calls Try.prog 31 #[.int .i64 a] w fun r w' => r = .returned (.int .i64 (a % 16)) ∧ w' = w := by
  go_enter Try.func31, Try.ntmps31
  go_wp2
  go_ret
  exact ⟨rfl, rfl⟩

theorem okA_iff (l a : Int) : okA l a ↔ a = 0 ∨ ∃ i : Int, 1 ≤ i ∧ i ≤ 15 ∧ a = l * 16 + i := by
  unfold okA
  constructor
  · rintro (h | ⟨h1, h2⟩)
    · exact .inl h
    · exact .inr ⟨a % 16, by omega, by omega, h1⟩
  · rintro (h | ⟨i, h1, h2, h3⟩)
    · exact .inl h
    · have : a % 16 = i := by omega
      exact .inr ⟨by omega, by omega⟩

set_option maxHeartbeats 1000000 in
theorem on_any (l a : Int) (h0 : 0 ≤ l) (h1 : l ≤ 3) (w : World) : Calls Try.prog 38 #[.int .i64 l, .int .i64 a] w fun r w' => r = .returned (.bool (decide (okA l a))) ∧ w' = w := by
  by_cases ha : a = 0
  · subst ha
    have H := hide (show decide (okA l 0) = true from decide_eq_true (.inl rfl))
    go_enter Try.func38, Try.ntmps38
    go_wp2
    go_ret
    exact ⟨ret_bool H.out.symm, rfl⟩
  · have b0 : (a == 0) = false := by simpa using ha
    have HA := hide ha
    clear ha
    go_enter Try.func38, Try.ntmps38
    go_wp2_with fail
    go_loop [5] (fun i => ∃ k : Nat, 1 ≤ k ∧ k ≤ 16 ∧ i = .int .i64 k ∧ Hid (∀ j : Int, 1 ≤ j → j < k → ¬ a = l * 16 + j)) (fun i => 16 - (intOf i).toNat)
    case atStart => exact ⟨1, by omega, by omega, rfl, fun j h1 h2 => by omega⟩
    case round =>
      obtain ⟨k, hk1, hk, rfl, hst⟩ := hrel
      by_cases hlt : k < 16
      · by_cases he : a = l * 16 + k
        · have b1 : (a == l * 16 + (k : Int)) = true := by simpa using he
          have H := hide (show decide (okA l a) = true from decide_eq_true ((okA_iff l a).2 (.inr ⟨k, by omega, by omega, he⟩)))
          clear he
          go_wp2
          go_ret
          exact ⟨ret_bool H.out.symm, rfl⟩
        · have b1 : (a == l * 16 + (k : Int)) = false := by simpa using he
          have H := hide (show ∀ j : Int, 1 ≤ j → j < ((k + 1 : Nat) : Int) → ¬ a = l * 16 + j from fun j h1 h2 => by
            by_cases e : j = k
            · subst e; exact he
            · exact hst.out j h1 (by omega))
          clear he
          go_wp2
          go_round
          case rel => exact ⟨k + 1, by omega, by omega, by go_num, H⟩
          case measure => simp [intOf]; omega
      · have H := hide (show decide (okA l a) = false from decide_eq_false (fun h => by
          rcases (okA_iff l a).1 h with h | ⟨j, h1, h2, h3⟩
          · exact HA.out h
          · exact hst.out j h1 (by omega) h3))
        go_wp2
        go_ret
        exact ⟨ret_bool H.out.symm, rfl⟩

structure RefP (w : World) (F : Nat → Prop) (pl base : Nat) (me lan : Int) (l : List PV) (A : Option Addr) (c : Nat) : Prop where
  box : Blk w pl 38 #[.int .i64 me, .int .i64 lan, .slice A l.length c]
  own : w.ownsRow base 47 7 (.slice A l.length c) l.length (rowC PV.cells l)
  hpl : F pl
  hrow : ∀ g, (Value.slice A l.length c).ownBlock = some g → F g
  plb : pl < base
  lt : ∀ g, F g → g < w.heap.size
  bz : base ≤ w.heap.size
theorem RefP.keep {w w' : World} {F G : Nat → Prop} {pl base : Nat} {me lan : Int} {l : List PV} {A : Option Addr} {c : Nat} (h : RefP w F pl base me lan l A c) (hk : Keeps G w w') (hd : ∀ g, F g → ¬ G g) : RefP w' F pl base me lan l A c where
  box := hk.blk h.box (hd _ h.hpl)
  own := hk.own h.own (fun g hg => hd _ (h.hrow g hg))
  hpl := h.hpl
  hrow := h.hrow
  plb := h.plb
  lt := fun g hg => Nat.lt_of_lt_of_le (h.lt g hg) hk.size
  bz := Nat.le_trans h.bz hk.size
theorem RefP.below {w w' : World} {F : Nat → Prop} {pl base : Nat} {me lan : Int} {l : List PV} {A : Option Addr} {c : Nat} (h : RefP w F pl base me lan l A c) (hb : Below w.heap.size w w') : RefP w' F pl base me lan l A c :=
  h.keep (Keeps.of_below (F := fun _ => False) hb) (fun _ _ h => h)
theorem RefP.cells {w : World} {F : Nat → Prop} {pl base : Nat} {me lan : Int} {l : List PV} {A : Option Addr} {c : Nat} (h : RefP w F pl base me lan l A c) :
    w.cell? ⟨pl, 0, none⟩ = some (.int .i64 me) ∧ w.cell? ⟨pl, 1, none⟩ = some (.int .i64 lan) ∧ w.cell? ⟨pl, 2, none⟩ = some (.slice A l.length c) := ⟨h.box.cell 0, h.box.cell 1, h.box.cell 2⟩
theorem RefP.at_ {w : World} {F : Nat → Prop} {pl base : Nat} {me lan : Int} {l : List PV} {A : Option Addr} {c k : Nat} (h : RefP w F pl base me lan l A c) (hk : k < l.length) :
    ∃ b x, A = some ⟨b, 0, none⟩ ∧ l[k]? = some x ∧ ∀ j u, (PV.cells x)[j]? = some u → w.cell? ⟨b, k * 7 + j, none⟩ = some u := by
  obtain ⟨b, off, x, rfl, hbb, hx, hat⟩ := (Reads.of_own h.own).row_at PV.cells 7 PV.cells_len (by omega) hk
  obtain ⟨g, hg, _, _⟩ := own_spare h.own (by omega)
  simp only [Option.some.injEq, Addr.mk.injEq, and_true] at hg
  obtain ⟨rfl, rfl⟩ := hg
  exact ⟨b, x, rfl, hx, fun j u hu => by have := hat j u hu; rwa [Nat.zero_add] at this⟩

def findI (l : List PV) (id : Int) : Int := match l.findIdx? (fun x => x.id == id) with | some k => k | none => -1
theorem findI_at (l : List PV) (id : Int) (k : Nat) (x : PV) (hx : l[k]? = some x) (hid : x.id = id) (hno : ∀ y ∈ l.take k, ¬ y.id = id) : findI l id = k := by
  have hk : k < l.length := (List.getElem?_eq_some_iff.1 hx).1
  have : l.findIdx? (fun x => x.id == id) = some k := by
    rw [List.findIdx?_eq_some_iff_getElem]
    refine ⟨hk, ?_, fun j hj => ?_⟩
    · have := (List.getElem?_eq_some_iff.1 hx).2
      rw [this]; simpa using hid
    · have := hno l[j] (by rw [List.mem_take_iff_getElem]; exact ⟨j, by omega, rfl⟩)
      simpa using this
  rw [findI, this]
theorem findI_none (l : List PV) (id : Int) (hno : ∀ y ∈ l, ¬ y.id = id) : findI l id = -1 := by
  have : l.findIdx? (fun x => x.id == id) = none := by
    rw [List.findIdx?_eq_none_iff]
    intro x hx
    simpa using hno x hx
  rw [findI, this]

set_option maxHeartbeats 2000000 in
theorem find_any (F : Nat → Prop) (pl base : Nat) (me lan : Int) (l : List PV) (A : Option Addr) (c : Nat) (id : Int) (w : World) (h : RefP w F pl base me lan l A c) (hl : l.length ≤ 100000) :
    Calls Try.prog 30 #[.pointer (some ⟨pl, 0, none⟩), .int .i64 id] w fun r w' => r = .returned (.int .i64 (findI l id)) ∧ w' = w := by
  have Hh := hide h
  obtain ⟨_, _, hsl⟩ := h.cells
  clear h
  go_enter Try.func30, Try.ntmps30
  go_wp2_with fail
  go_loop [5] (fun i => ∃ k : Nat, k ≤ l.length ∧ i = .int .i64 k ∧ Hid (∀ y ∈ l.take k, ¬ y.id = id)) (fun i => l.length - (intOf i).toNat)
  case atStart => exact ⟨0, Nat.zero_le _, rfl, fun y hy => by simp at hy⟩
  case round =>
    obtain ⟨k, hk, rfl, hst⟩ := hrel
    by_cases hlt : k < l.length
    · obtain ⟨b, x, hA, hx, hat⟩ := Hh.out.at_ hlt
      have d0 : w.cell? ⟨b, k * 7, none⟩ = some (.int .i64 x.id) := hat 0 _ rfl
      subst hA
      by_cases he : x.id = id
      · have H := hide (findI_at l id k x hx he hst.out)
        have b1 : (x.id == id) = true := by simpa using he
        clear hat hx he
        go_wp2
        go_ret
        exact ⟨ret_int H.out.symm, rfl⟩
      · have H := hide (show ∀ y ∈ l.take (k + 1), ¬ y.id = id by
          rw [take_snoc _ _ _ hx]
          intro y hy
          rcases List.mem_append.1 hy with hy | hy
          · exact hst.out y hy
          · obtain rfl := List.mem_singleton.1 hy
            exact he)
        have b1 : (x.id == id) = false := by simpa using he
        clear hat hx he
        go_wp2
        go_round
        case rel => exact ⟨k + 1, by omega, by go_num, H⟩
        case measure => simp [intOf]; omega
    · have H := hide (findI_none l id (by have := hst.out; rwa [List.take_of_length_le (by omega)] at this))
      go_wp2
      go_ret
      exact ⟨ret_int H.out.symm, rfl⟩
end Go.Proofs.Ytmehglliajefaaa
