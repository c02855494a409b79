/-
  Addresses, a search in a slice, what a neighbor claims.
-/
import Derived.Test.YtmehglliajefaaaMore
import Derived.Laws.BitsLemmas
namespace Go.Proofs.Ytmehglliajefaaa
open Go.RowKit

theorem and15 (x : Int) : bits .and .i64 x 15 = x % 16 := by
  have h : (BitVec.ofInt 64 x &&& BitVec.ofInt 64 15).toNat = ((x % 18446744073709551616).toNat % 16) := by
    rw [BitVec.toNat_and, BitVec.toNat_ofInt]
    have e : (BitVec.ofInt 64 15).toNat = 2 ^ 4 - 1 := by decide
    rw [e, Nat.and_two_pow_sub_one_eq_mod]
    rfl
  have hw : bits .and .i64 x 15 = IntKind.i64.wrap (((x % 18446744073709551616).toNat % 16 : Nat) : Int) := by
    rw [← h]; rfl
  rw [hw, IntKind.wrap_i64]
  omega
theorem wraps_i64 (n : Int) (h₀ : 0 ≤ n) (h₁ : n < 2 ^ 62) : IntKind.i64.wrap n = n := by rw [IntKind.wrap_i64]; omega
theorem or16 (l i : Int) (h0 : 0 ≤ l) (h1 : l ≤ 3) (h2 : 0 ≤ i) (h3 : i < 16) : bits .or .i64 (l * 16) i = l * 16 + i :=
  bits_join .i64 62 (by decide) wraps_i64 4 (l * 16) i (by omega) (by omega) (by omega) h2 (by omega) (by omega)

theorem addr_any (l i : Int) (h0 : 0 ≤ l) (h1 : l ≤ 3) (h2 : 0 ≤ i) (h3 : i < 16) (w : World) : Calls Try.prog 36 #[.int .i64 l, .int .i64 i] w fun r w' => r = .returned (.int .i64 (l * 16 + i)) ∧ w' = w := by
  have H := hide (or16 l i h0 h1 h2 h3)
  go_enter Try.func36, Try.ntmps36
  go_wp2
  go_ret
  exact ⟨ret_int (H.out), rfl⟩

/-- may an address be told on a network? -/
def okA (l a : Int) : Prop := a = 0 ∨ (a = l * 16 + a % 16 ∧ 0 < a % 16)
instance (l a : Int) : Decidable (okA l a) := inferInstanceAs (Decidable (_ ∨ _))
set_option maxHeartbeats 1000000 in
theorem who_any (pl : Nat) (l a : Int) (h0 : 0 ≤ l) (h1 : l ≤ 3) (w : World) (hc : w.cell? ⟨pl, 1, none⟩ = some (.int .i64 l)) :
    Calls Try.prog 22 #[.pointer (some ⟨pl, 0, none⟩), .int .i64 a] w fun r w' => r = .returned (.tuple #[.int .i64 (a % 16), .bool (decide (okA l a))]) ∧ w' = w := by
  have HA := hide (and15 a)
  by_cases ha : a = 0
  · subst ha
    have HD := hide (show decide (okA l 0) = true from decide_eq_true (.inl rfl))
    go_enter Try.func22, Try.ntmps22
    go_wp2_with fail
    go_ret2
    exact ⟨by rw [HD.out]; rfl, rfl⟩
  · have b0 : (a == 0) = false := by simpa using ha
    have HD := hide (show decide (okA l a) = ((a == l * 16 + a % 16) && decide (0 < a % 16)) by
      rw [Bool.eq_iff_iff]; simp [okA, ha])
    have m1 : 0 ≤ a % 16 := by omega
    have m2 : a % 16 < 16 := by omega
    clear ha
    go_enter Try.func22, Try.ntmps22
    go_wp2_with fail
    rw [HA.out]
    refine (addr_any l (a % 16) h0 h1 m1 m2 _).mono ?_
    rintro r w1 ⟨rfl, rfl⟩
    by_cases he : a = l * 16 + a % 16
    · have b1 : (a == l * 16 + a % 16) = true := by simpa using he
      rw [b1, Bool.true_and] at HD
      have HB1 := hide b1
      clear he
      go_wp2_with fail
      go_ret2
      refine ⟨?_, rfl⟩
      rw [HD.out]
      simp
    · have b1 : (a == l * 16 + a % 16) = false := by simpa using he
      rw [b1, Bool.false_and] at HD
      clear he
      go_wp2_with fail
      go_ret2
      exact ⟨by rw [HD.out]; rfl, rfl⟩

set_option maxHeartbeats 1000000 in
theorem index_any (A : Option Addr) (n c : Nat) (zs : List Int) (x : Int) (w : World) (hn : n ≤ 9223372036854775807) (hr : Reads w w.heap.size 1 A n (ints zs)) :
    Calls Try.prog 37 #[.slice A n c, .int .i64 x] w fun r w' => (∃ i : Int, r = .returned (.int .i64 i) ∧ decide (0 ≤ i) = decide (x ∈ zs)) ∧ w' = w := by
  have hl1 : zs.length = n := by have := hr.1; simpa [ints] using this
  have H1 := hide hl1
  clear hl1
  go_enter Try.func37, Try.ntmps37
  go_wp2_with fail
  go_loop [8] (fun i => ∃ k : Nat, k ≤ n ∧ i = .int .i64 k ∧ Hid (¬ x ∈ zs.take k)) (fun i => n - (intOf i).toNat)
  case atStart => exact ⟨0, Nat.zero_le _, rfl, by show ¬ _; simp⟩
  case round =>
    obtain ⟨k, hk, rfl, hst⟩ := hrel
    by_cases hlt : k < n
    · obtain ⟨b, off, z, rfl, hbb, hz, hat⟩ := hr.int_at hlt
      by_cases hzx : x = z
      · subst hzx
        have HN := hide (show x ∈ zs from List.mem_of_getElem? hz)
        clear hz
        go_wp2
        go_ret
        exact ⟨⟨k, rfl, by simp [HN.out]⟩, rfl⟩
      · have HN := hide (show ¬ x ∈ zs.take (k + 1) by
          rw [take_snoc _ _ _ hz, List.mem_append, List.mem_singleton]
          exact fun h => h.elim hst.out (fun e => hzx e))
        have b1 : (x == z) = false := by simpa using hzx
        clear hz hzx
        go_wp2
        go_round
        case rel => exact ⟨k + 1, by omega, by go_num, HN.out⟩
        case measure => simp [intOf]; omega
    · have HN := hide (show ¬ x ∈ zs by
        have := hst.out
        rwa [List.take_of_length_le (by rw [H1.out]; omega)] at this)
      go_wp2
      go_ret
      exact ⟨⟨-1, rfl, by simp [HN.out]⟩, rfl⟩

theorem contains_any (A : Option Addr) (n c : Nat) (zs : List Int) (x : Int) (w : World) (hn : n ≤ 9223372036854775807) (hr : Reads w w.heap.size 1 A n (ints zs)) :
    Calls Try.prog 23 #[.slice A n c, .int .i64 x] w fun r w' => r = .returned (.bool (decide (x ∈ zs))) ∧ w' = w := by
  go_enter Try.func23, Try.ntmps23
  go_wp2_with fail
  refine (index_any A n c zs x _ hn hr).mono ?_
  rintro r w1 ⟨⟨i, rfl, hi⟩, rfl⟩
  have HI := hide hi
  clear hi
  go_wp2_with fail
  go_ret
  exact ⟨ret_bool HI.out, rfl⟩

/-- a neighbor -/
structure PV where
  id : Int
  prio : Int
  dr : Int
  bdr : Int
  state : Int
  two : Bool
  at_ : Int
deriving DecidableEq
instance : Inhabited PV := ⟨⟨0, 0, 0, 0, 0, false, 0⟩⟩
def PV.cells (x : PV) : List Value := [.int .i64 x.id, .int .i64 x.prio, .int .i64 x.dr, .int .i64 x.bdr, .int .i64 x.state, .bool x.two, .int .i64 x.at_]
abbrev PV.arr (x : PV) : Array Value := #[.int .i64 x.id, .int .i64 x.prio, .int .i64 x.dr, .int .i64 x.bdr, .int .i64 x.state, .bool x.two, .int .i64 x.at_]
/-- what it claims: two, dr, bdr, priority -/
def claimsF (x : PV) : Bool × Bool × Bool × Int := if x.two = true then (true, x.dr == x.id, x.bdr == x.id, x.prio) else (false, false, false, 0)
abbrev claimV (c : Bool × Bool × Bool × Int) : Value := .agg #[.bool c.1, .bool c.2.1, .bool c.2.2.1, .int .i64 c.2.2.2]

set_option maxHeartbeats 2000000 in
theorem claims_any (x : PV) (w : World) : Calls Try.prog 24 #[.agg x.arr] w fun r w' => r = .returned (claimV (claimsF x)) ∧ Below w.heap.size w w' := by
  obtain ⟨id, prio, dr, bdr, state, two, at_⟩ := x
  go_enter Try.func24, Try.ntmps24
  cases two
  · go_wp2_with fail
    have hb := Blk.new (w.alloc (.cells (PV.arr ⟨id, prio, dr, bdr, state, false, at_⟩) 47)) 62 #[.bool false, .bool false, .bool false, .int .i64 0]
    have hz : (w.alloc (.cells (PV.arr ⟨id, prio, dr, bdr, state, false, at_⟩) 47)).heap.size = w.heap.size + 1 := by simp
    rw [hz] at hb
    refine bodyPost_ret (results_cell_row (fn := Try.f24) rfl _ _ _ 62 _ (0, 0) _ rfl hb Try.underlying62 rfl (by kernel_rfl)) rfl ?_
    exact ⟨rfl, ((Below.refl _ _).alloc (Nat.le_refl _) _).alloc (by simp) _⟩
  · go_wp2_with fail
    have hb := Blk.new (w.alloc (.cells (PV.arr ⟨id, prio, dr, bdr, state, true, at_⟩) 47)) 62 #[.bool true, .bool (dr == id), .bool (bdr == id), .int .i64 prio]
    have hz : (w.alloc (.cells (PV.arr ⟨id, prio, dr, bdr, state, true, at_⟩) 47)).heap.size = w.heap.size + 1 := by simp
    rw [hz] at hb
    refine bodyPost_ret (results_cell_row (fn := Try.f24) rfl _ _ _ 62 _ (0, 0) _ rfl hb Try.underlying62 rfl (by kernel_rfl)) rfl ?_
    exact ⟨rfl, ((Below.refl _ _).alloc (Nat.le_refl _) _).alloc (by simp) _⟩
theorem claims_at (id prio dr bdr state : Int) (two : Bool) (at_ : Int) (w : World) : Calls Try.prog 24 #[.agg #[.int .i64 id, .int .i64 prio, .int .i64 dr, .int .i64 bdr, .int .i64 state, .bool two, .int .i64 at_]] w fun r w' => r = .returned (claimV (claimsF ⟨id, prio, dr, bdr, state, two, at_⟩)) ∧ Below w.heap.size w w' :=
  claims_any ⟨id, prio, dr, bdr, state, two, at_⟩ w
end Go.Proofs.Ytmehglliajefaaa
