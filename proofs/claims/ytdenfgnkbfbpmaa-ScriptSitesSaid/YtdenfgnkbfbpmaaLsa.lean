/-
  Descriptions: heads, links; which are right.
-/
import Derived.Test.YtdenfgnkbfbpmaaMore
import Derived.IntWalk
import Derived.Deep.DeepCutAuto
namespace Go.Proofs.Ytdenfgnkbfbpmaa
open Go.RowKit

structure HD where
  age : Int
  kind : Int
  id : Int
  adv : Int
  seq : Int
  sum : Int
  long : Int
deriving DecidableEq
instance : Inhabited HD := ⟨⟨0, 0, 0, 0, 0, 0, 0⟩⟩
abbrev HD.arr (h : HD) : Array Value := #[.int .i64 h.age, .int .i64 h.kind, .int .i64 h.id, .int .i64 h.adv, .int .i64 h.seq, .int .i64 h.sum, .int .i64 h.long]
structure Lk where
  kind : Int
  id : Int
  data : Int
  cost : Int
deriving DecidableEq
instance : Inhabited Lk := ⟨⟨0, 0, 0, 0⟩⟩
def Lk.cells (x : Lk) : List Value := [.int .i64 x.kind, .int .i64 x.id, .int .i64 x.data, .int .i64 x.cost]
abbrev Lk.arr (x : Lk) : Array Value := #[.int .i64 x.kind, .int .i64 x.id, .int .i64 x.data, .int .i64 x.cost]
theorem Lk.cells_len (x : Lk) : x.cells.length = 4 := rfl
theorem Lk.cells_one (x : Lk) : ∀ u ∈ x.cells, u.oneCell' = true := by
  intro u hu
  simp [Lk.cells] at hu
  rcases hu with rfl | rfl | rfl | rfl <;> rfl
/-- a description -/
structure LV where
  hd : HD
  links : List Lk
  mem : List Int
deriving DecidableEq
instance : Inhabited LV := ⟨⟨default, [], []⟩⟩
/-- where its links and members lie -/
structure LP where
  A : Option Addr
  c : Nat
  B : Option Addr
  d : Nat
instance : Inhabited LP := ⟨⟨none, 0, none, 0⟩⟩
abbrev lsaA (l : LV) (p : LP) : Array Value :=
  #[.int .i64 l.hd.age, .int .i64 l.hd.kind, .int .i64 l.hd.id, .int .i64 l.hd.adv, .int .i64 l.hd.seq, .int .i64 l.hd.sum, .int .i64 l.hd.long, .slice p.A l.links.length p.c, .slice p.B l.mem.length p.d]
structure LOK (w : World) (l : LV) (p : LP) : Prop where
  links : Reads w w.heap.size 4 p.A l.links.length (rowC Lk.cells l.links)
  mem : Reads w w.heap.size 1 p.B l.mem.length (ints l.mem)
theorem LOK.below {w w' : World} {l : LV} {p : LP} (h : LOK w l p) (hb : Below w.heap.size w w') : LOK w' l p :=
  ⟨(h.links.below hb).more hb.size, (h.mem.below hb).more hb.size⟩

theorem in_any (n a b : Int) (w : World) : Calls Try.prog 122 #[.int .i64 n, .int .i64 a, .int .i64 b] w fun r w' => r = .returned (.bool (decide (a ≤ n ∧ n ≤ b))) ∧ w' = w := by
  go_enter Try.func122, Try.ntmps122
  go_wp2
  all_goals go_ret
  all_goals exact ⟨ret_bool (by grind), rfl⟩

def okHead (h : HD) : Prop := (0 ≤ h.age ∧ h.age ≤ 60) ∧ (1 ≤ h.kind ∧ h.kind ≤ 2) ∧ (1 ≤ h.adv ∧ h.adv ≤ 15) ∧ (-2147483647 ≤ h.seq ∧ h.seq ≤ 2147483647)
instance (h : HD) : Decidable (okHead h) := inferInstanceAs (Decidable (_ ∧ _))
set_option maxHeartbeats 2000000 in
theorem head_any (h : HD) (w : World) : Calls Try.prog 92 #[.agg h.arr] w fun r w' => r = .returned (.bool (decide (okHead h))) ∧ Below w.heap.size w w' := by
  obtain ⟨age, kind, id, adv, seq, sum, long⟩ := h
  have HB := hide (below_new w (.cells (HD.arr ⟨age, kind, id, adv, seq, sum, long⟩) 34))
  go_enter Try.func92, Try.ntmps92
  go_wp2_with (go_at_call 122; refine (in_any _ _ _ _).mono ?_; rintro r w' ⟨rfl, rfl⟩)
  all_goals go_ret
  all_goals exact ⟨ret_bool (by simp only [okHead]; grind), HB.out⟩

def okLink (x : Lk) : Prop := (2 ≤ x.kind ∧ x.kind ≤ 3) ∧ (0 ≤ x.id ∧ x.id ≤ 63) ∧ (0 ≤ x.data ∧ x.data ≤ 63) ∧ (1 ≤ x.cost ∧ x.cost ≤ 100)
instance (x : Lk) : Decidable (okLink x) := inferInstanceAs (Decidable (_ ∧ _))
def linksB (l : List Lk) : Bool := l.all (fun x => decide (okLink x)) && decide (l.length ≤ 4)

set_option maxHeartbeats 4000000 in
theorem links_any (A : Option Addr) (n c : Nat) (l : List Lk) (w : World) (hn : n ≤ 100000) (hr : Reads w w.heap.size 4 A n (rowC Lk.cells l)) :
    Calls Try.prog 123 #[.slice A n c] w fun r w' => r = .returned (.bool (linksB l)) ∧ Below w.heap.size w w' := by
  have HR := hide hr
  have HL := hide (show l.length = n by have := hr.1; rw [rowC_length Lk.cells 4 Lk.cells_len] at this; omega)
  clear hr
  go_enter Try.func123, Try.ntmps123
  go_wp2_with fail
  go_loopw [7] (fun i wr => ∃ k : Nat, k ≤ n ∧ i = .int .i64 k ∧ Hid (∀ x ∈ l.take k, okLink x) ∧ Hid (Below w.heap.size w wr)) (fun i _ => n - (intOf i).toNat)
  case atStart => exact ⟨0, Nat.zero_le _, rfl, hide (fun x hx => by cases hx), Below.refl _ _⟩
  case round =>
    obtain ⟨k, hk, rfl, hok, hb⟩ := hrel
    by_cases hlt : k < n
    · obtain ⟨b, off, x, rfl, hbb, hx, hat⟩ := HR.out.row_at Lk.cells 4 Lk.cells_len (by omega) hlt
      have HX := hide hx
      obtain ⟨kind, id, data, cost⟩ := x
      have d0 : wr.cell? ⟨b, off + k * 4, none⟩ = some (.int .i64 kind) := cell_keep (hat 0 _ rfl) hb.out
      have d1 : wr.cell? ⟨b, off + k * 4 + 1, none⟩ = some (.int .i64 id) := cell_keep (hat 1 _ rfl) hb.out
      have d2 : wr.cell? ⟨b, off + k * 4 + 2, none⟩ = some (.int .i64 data) := cell_keep (hat 2 _ rfl) hb.out
      have d3 : wr.cell? ⟨b, off + k * 4 + 3, none⟩ = some (.int .i64 cost) := cell_keep (hat 3 _ rfl) hb.out
      have HB := hide (below0 hb.out (below_new wr (.cells (Lk.arr ⟨kind, id, data, cost⟩) 117)))
      clear hat hx
      by_cases hq : okLink ⟨kind, id, data, cost⟩
      · have HN := hide (show ∀ x ∈ l.take (k + 1), okLink x by
          rw [take_snoc _ _ _ HX.out]
          intro y hy
          rcases List.mem_append.1 hy with hy | hy
          · exact hok.out y hy
          · obtain rfl := List.mem_singleton.1 hy
            exact hq)
        obtain ⟨q1, q2, q3, q4⟩ := hq
        have e1 := decide_eq_true q1
        have e2 := decide_eq_true q2
        have e3 := decide_eq_true q3
        have e4 := decide_eq_true q4
        clear q1 q2 q3 q4
        go_wp2_with (go_at_call 122; refine (in_any _ _ _ _).mono ?_; rintro r w' ⟨rfl, rfl⟩)
        go_roundw
        case rel => exact ⟨k + 1, by omega, by go_num, HN, HB⟩
        case measure => (simp [intOf] <;> omega)
      · have HF := hide (show linksB l = false by
          rw [linksB, Bool.and_eq_false_iff]
          left
          rw [List.all_eq_false]
          exact ⟨_, List.mem_of_getElem? HX.out, by simpa using hq⟩)
        have HQ := hide hq
        clear hq
        go_wp2_with (go_at_call 122; refine (in_any _ _ _ _).mono ?_; rintro r w' ⟨rfl, rfl⟩)
        all_goals first
          | (go_ret; exact ⟨ret_bool HF.out.symm, HB.out⟩)
          | (exfalso; exact HQ.out (by unfold okLink; dsimp only; grind))
    · have hkl : l.take k = l := List.take_of_length_le (by rw [HL.out]; omega)
      rw [hkl] at hok
      have HF := hide (show linksB l = decide (n ≤ 4) by
        rw [linksB, HL.out]
        have : l.all (fun x => decide (okLink x)) = true := List.all_eq_true.2 (fun x hx => decide_eq_true (hok.out x hx))
        rw [this, Bool.true_and])
      clear hkl
      go_wp2
      go_ret
      exact ⟨ret_bool (by rw [HF.out]; rw [Bool.eq_iff_iff]; simp; omega), hb.out⟩

/-- members rise, and are routers -/
def memB : Int → List Int → Bool
  | _, [] => true
  | last, x :: r => decide (last + 1 ≤ x ∧ x ≤ 15) && memB x r
def membersB (l : List Int) : Bool := memB 0 l && decide (0 < l.length)
theorem memB_snoc : ∀ (l : List Int) (a x : Int), memB a (l ++ [x]) = (memB a l && decide (l.getLastD a + 1 ≤ x ∧ x ≤ 15))
  | [], a, x => by simp [memB]
  | y :: l, a, x => by
    rw [List.cons_append, memB, memB, memB_snoc l y x, List.getLastD_cons, Bool.and_assoc]
theorem memB_cut (l : List Int) (a : Int) (k : Nat) (h : memB a (l.take k) = false) : memB a l = false := by
  induction l generalizing a k with
  | nil => simp [memB] at h
  | cons y l ih =>
    cases k with
    | zero => simp [memB] at h
    | succ k =>
      rw [List.take_succ_cons, memB, Bool.and_eq_false_iff] at h
      rw [memB, Bool.and_eq_false_iff]
      exact h.imp id (ih y k)

set_option maxHeartbeats 4000000 in
theorem members_any (A : Option Addr) (n c : Nat) (l : List Int) (w : World) (hn : n ≤ 100000) (hr : Reads w w.heap.size 1 A n (ints l)) :
    Calls Try.prog 124 #[.slice A n c] w fun r w' => r = .returned (.bool (membersB l)) ∧ w' = w := by
  have HR := hide hr
  have HL := hide (show l.length = n by have := hr.1; simpa [ints] using this)
  clear hr
  go_enter Try.func124, Try.ntmps124
  go_wp2_with fail
  go_loop [3, 8] (fun v i => ∃ (k : Nat) (last : Int), k ≤ n ∧ i = .int .i64 k ∧ v = .int .i64 last ∧ 0 ≤ last ∧ last ≤ 15 ∧ Hid (memB 0 (l.take k) = true ∧ (l.take k).getLastD 0 = last)) (fun _ i => n - (intOf i).toNat)
  case atStart => exact ⟨0, 0, Nat.zero_le _, rfl, rfl, by omega, by omega, hide ⟨rfl, rfl⟩⟩
  case round =>
    obtain ⟨k, last, hk, rfl, rfl, hl0, hl1, hok⟩ := hrel
    by_cases hlt : k < n
    · obtain ⟨b, off, x, rfl, hbb, hx, hat⟩ := HR.out.int_at hlt
      have HS := hide (show memB 0 (l.take (k + 1)) = decide (last + 1 ≤ x ∧ x ≤ 15) by
        rw [take_snoc _ _ _ hx, memB_snoc, hok.out.1, hok.out.2, Bool.true_and])
      have HT := hide (show (l.take (k + 1)).getLastD 0 = x by rw [take_snoc _ _ _ hx]; simp)
      clear hx
      by_cases hq : last + 1 ≤ x ∧ x ≤ 15
      · have e1 := decide_eq_true hq
        have HN := hide (show memB 0 (l.take (k + 1)) = true by rw [HS.out]; exact e1)
        obtain ⟨q1, q2⟩ := hq
        go_wp2_with (go_at_call 122; refine (in_any _ _ _ _).mono ?_; rintro r w' ⟨rfl, rfl⟩; rw [e1])
        go_round
        case rel => exact ⟨k + 1, x, by omega, by go_num, rfl, by omega, by omega, hide ⟨HN.out, HT.out⟩⟩
        case measure => (simp [intOf] <;> omega)
      · have e1 := decide_eq_false hq
        have HF := hide (show membersB l = false by
          rw [membersB, memB_cut l 0 (k + 1) (by rw [HS.out]; exact e1), Bool.false_and])
        clear hq
        go_wp2_with (go_at_call 122; refine (in_any _ _ _ _).mono ?_; rintro r w' ⟨rfl, rfl⟩; rw [e1])
        go_ret
        exact ⟨ret_bool HF.out.symm, rfl⟩
    · have hkl : l.take k = l := List.take_of_length_le (by rw [HL.out]; omega)
      rw [hkl] at hok
      have HF := hide (show membersB l = decide (0 < n) by rw [membersB, hok.out.1, HL.out, Bool.true_and])
      clear hkl hok
      go_wp2
      go_ret
      exact ⟨ret_bool (by rw [HF.out]; try (rw [Bool.eq_iff_iff]; simp)), rfl⟩

def rightB (l : LV) : Bool :=
  decide (okHead l.hd) && if l.hd.kind = 1 then decide (l.hd.id = l.hd.adv) && decide (l.mem.length = 0) && linksB l.links else decide (0 ≤ l.hd.id ∧ l.hd.id ≤ 63) && decide (l.links.length = 0) && membersB l.mem

set_option maxRecDepth 20000 in
set_option maxHeartbeats 4000000 in
theorem right_any (l : LV) (p : LP) (w : World) (h1 : l.links.length ≤ 100000) (h2 : l.mem.length ≤ 100000) (hok : LOK w l p) :
    Calls Try.prog 93 #[.agg (lsaA l p)] w fun r w' => r = .returned (.bool (rightB l)) ∧ Below w.heap.size w w' := by
  obtain ⟨⟨age, kind, id, adv, seq, sum, long⟩, links, mem⟩ := l
  obtain ⟨A, c, B, d⟩ := p
  have HOK := hide hok
  clear hok
  dsimp only at h1 h2 ⊢
  have hb0 := Blk.new w 37 #[.int .i64 age, .int .i64 kind, .int .i64 id, .int .i64 adv, .int .i64 seq, .int .i64 sum, .int .i64 long, .slice A links.length c, .slice B mem.length d]
  have hB0 := below_new w (.cells #[.int .i64 age, .int .i64 kind, .int .i64 id, .int .i64 adv, .int .i64 seq, .int .i64 sum, .int .i64 long, .slice A links.length c, .slice B mem.length d] 37)
  go_enter Try.func93, Try.ntmps93
  go_upto_region 1 with (fail)
  generalize w.alloc (.cells #[.int .i64 age, .int .i64 kind, .int .i64 id, .int .i64 adv, .int .i64 seq, .int .i64 sum, .int .i64 long, .slice A links.length c, .slice B mem.length d] 37) = W at hb0 hB0 ⊢
  have q0 : W.cell? ⟨w.heap.size, 0, none⟩ = some (.int .i64 age) := hb0.cell 0
  have q1 : W.cell? ⟨w.heap.size, 1, none⟩ = some (.int .i64 kind) := hb0.cell 1
  have q2 : W.cell? ⟨w.heap.size, 2, none⟩ = some (.int .i64 id) := hb0.cell 2
  have q3 : W.cell? ⟨w.heap.size, 3, none⟩ = some (.int .i64 adv) := hb0.cell 3
  have q4 : W.cell? ⟨w.heap.size, 4, none⟩ = some (.int .i64 seq) := hb0.cell 4
  have q5 : W.cell? ⟨w.heap.size, 5, none⟩ = some (.int .i64 sum) := hb0.cell 5
  have q6 : W.cell? ⟨w.heap.size, 6, none⟩ = some (.int .i64 long) := hb0.cell 6
  have HB0 := hide hB0
  have HX0 := hide hb0
  clear hb0 hB0
  go_wp2_with fail
  refine (head_any ⟨age, kind, id, adv, seq, sum, long⟩ _).mono ?_
  rintro r w1 ⟨rfl, hb1⟩
  have HB1 := hide (below0 HB0.out hb1)
  have hx1 := HX0.out.below hb1 HX0.out.lt
  have q1 : w1.cell? ⟨w.heap.size, 1, none⟩ = some (.int .i64 kind) := hx1.cell 1
  have q2 : w1.cell? ⟨w.heap.size, 2, none⟩ = some (.int .i64 id) := hx1.cell 2
  have q3 : w1.cell? ⟨w.heap.size, 3, none⟩ = some (.int .i64 adv) := hx1.cell 3
  have q7 : w1.cell? ⟨w.heap.size, 7, none⟩ = some (.slice A links.length c) := hx1.cell 7
  have q8 : w1.cell? ⟨w.heap.size, 8, none⟩ = some (.slice B mem.length d) := hx1.cell 8
  have HK1 := hide (HOK.out.below HB1.out)
  have HK1L : Hid (Reads w1 w1.heap.size 4 A links.length (rowC Lk.cells links)) := hide HK1.out.links
  have HK1M : Hid (Reads w1 w1.heap.size 1 B mem.length (ints mem)) := hide HK1.out.mem
  clear hb1 hx1 HX0 HB0 q0 q4 q5 q6
  by_cases hh : okHead ⟨age, kind, id, adv, seq, sum, long⟩
  · have HR := hide (show rightB ⟨⟨age, kind, id, adv, seq, sum, long⟩, links, mem⟩ = if kind = 1 then decide (id = adv) && decide (mem.length = 0) && linksB links else decide (0 ≤ id ∧ id ≤ 63) && decide (links.length = 0) && membersB mem by
      rw [rightB, decide_eq_true hh, Bool.true_and])
    rw [decide_eq_true hh]
    clear hh
    by_cases hk1 : kind = 1
    · have e1 : (kind == 1) = true := by simpa using hk1
      rw [if_pos hk1] at HR
      clear hk1
      by_cases hi : id = adv
      · have e2 : (id == adv) = true := by simpa using hi
        have f2 := decide_eq_true hi
        rw [f2, Bool.true_and] at HR
        clear hi f2
        by_cases hm : mem.length = 0
        · have f3 := decide_eq_true hm
          rw [f3, Bool.true_and] at HR
          have e3 : ((mem.length : Int) == 0) = true := by simpa using hm
          clear f3
          go_wp2_with (go_at_call 123; refine (links_any A _ c links _ h1 HK1L.out).mono ?_; rintro r w2 ⟨rfl, hb2⟩)
          go_ret
          exact ⟨ret_bool HR.out.symm, below0 HB1.out hb2⟩
        · have f3 := decide_eq_false hm
          rw [f3, Bool.false_and] at HR
          have e3 : ((mem.length : Int) == 0) = false := by
            rw [beq_eq_false_iff_ne]; omega
          clear f3 hm
          go_wp2_with fail
          go_ret
          exact ⟨ret_bool HR.out.symm, HB1.out⟩
      · have e2 : (id == adv) = false := by simpa using hi
        have f2 := decide_eq_false hi
        rw [f2, Bool.false_and, Bool.false_and] at HR
        clear hi f2
        go_wp2_with fail
        go_ret
        exact ⟨ret_bool HR.out.symm, HB1.out⟩
    · have e1 : (kind == 1) = false := by simpa using hk1
      rw [if_neg hk1] at HR
      clear hk1
      obtain ⟨v, hv⟩ : ∃ v, decide (0 ≤ id ∧ id ≤ 63) = v := ⟨_, rfl⟩
      have HV := hide hv
      rw [hv] at HR
      clear hv
      go_wp2_with fail
      refine (in_any id 0 63 _).mono ?_
      rintro r w2 ⟨rfl, rfl⟩
      rw [HV.out]
      cases v
      · rw [Bool.false_and, Bool.false_and] at HR
        go_wp2_with fail
        go_ret
        exact ⟨ret_bool HR.out.symm, HB1.out⟩
      · rw [Bool.true_and] at HR
        by_cases hm : links.length = 0
        · have f3 := decide_eq_true hm
          rw [f3, Bool.true_and] at HR
          have e3 : ((links.length : Int) == 0) = true := by simpa using hm
          clear f3
          go_wp2_with (go_at_call 124; refine (members_any B _ d mem _ h2 HK1M.out).mono ?_; rintro r w3 ⟨rfl, rfl⟩)
          go_ret
          exact ⟨ret_bool HR.out.symm, HB1.out⟩
        · have f3 := decide_eq_false hm
          rw [f3, Bool.false_and] at HR
          have e3 : ((links.length : Int) == 0) = false := by
            rw [beq_eq_false_iff_ne]; omega
          clear f3 hm
          go_wp2_with fail
          go_ret
          exact ⟨ret_bool HR.out.symm, HB1.out⟩
  · have HR := hide (show rightB ⟨⟨age, kind, id, adv, seq, sum, long⟩, links, mem⟩ = false by rw [rightB, decide_eq_false hh, Bool.false_and])
    rw [decide_eq_false hh]
    clear hh
    go_wp2_with fail
    go_ret
    exact ⟨ret_bool HR.out.symm, HB1.out⟩
end Go.Proofs.Ytdenfgnkbfbpmaa
