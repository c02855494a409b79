/-
  The reference's network in memory; syndicref24.left, Copied, New; syndicref01.Ints.
-/
import Derived.Test.YtldanafbaadgoaaM
namespace Go.Proofs.Ytldanafbaadgoaa
open Go.RowKit

theorem left_same (n m : Int) (hm : 0 < m) (hm2 : m ≤ 1000000) (w : World) : Calls Try.prog 27 #[.int .i64 n, .int .i64 m] w fun r w' => r = .returned (.int .i64 (n % m)) ∧ w' = w := by
  have h1 := Int.tmod_lt_of_pos n hm
  have h2 := Int.lt_tmod_of_pos n hm
  have h3 : n.tmod m < 0 → n % m = n.tmod m + m := fun h => by
    have h4 := tmod_pos n m
    rw [Int.emod_eq_of_lt (by omega) (by omega)] at h4
    exact h4.symm
  have h5 : 0 ≤ n.tmod m → n % m = n.tmod m := fun h => by
    have h4 := tmod_pos n m
    rw [Int.add_emod_right, Int.emod_eq_of_lt h (by omega)] at h4
    exact h4.symm
  by_cases hneg : n.tmod m < 0
  · have H := hide (h3 hneg)
    clear h3 h5
    go_enter Try.func27, Try.ntmps27
    go_wp2
    go_ret
    exact ⟨ret_int H.out.symm, rfl⟩
  · have H := hide (h5 (by omega))
    clear h3 h5
    go_enter Try.func27, Try.ntmps27
    go_wp2
    go_ret
    exact ⟨ret_int H.out.symm, rfl⟩

set_option maxHeartbeats 2000000 in
theorem ints_any (A : Option Addr) (n c : Nat) (xs : List Int) (A' : Option Addr) (n' c' : Nat) (ys : List Int) (w : World) (hn : n ≤ 9223372036854775807) (hr : Reads w w.heap.size 1 A n (ints xs)) (hr' : Reads w w.heap.size 1 A' n' (ints ys)) :
    Calls Try.prog 21 #[.slice A n c, .slice A' n' c'] w fun r w' => r = .returned (.bool (decide (xs = ys))) ∧ Below w.heap.size w w' := by
  have hl1 : xs.length = n := by have := hr.1; simpa [ints] using this
  have hl2 : ys.length = n' := by have := hr'.1; simpa [ints] using this
  have H1 := hide hl1
  have H2 := hide hl2
  clear hl1 hl2
  go_enter Try.func21, Try.ntmps21
  by_cases hnn : n = n'
  · subst hnn
    go_wp2_with fail
    go_loopw [5] (fun i wr => ∃ k : Nat, ∃ d : Nat, k ≤ n ∧ i = .int .i64 k ∧ wr = w.drewN d ∧ Hid (xs.take k = ys.take k)) (fun i _ => n - (intOf i).toNat)
    case atStart => exact ⟨0, 0, Nat.zero_le _, rfl, rfl, rfl⟩
    case round =>
      obtain ⟨k, d, hk, rfl, rfl, hst⟩ := hrel
      by_cases hlt : k < n
      · obtain ⟨b, off, x, rfl, hbb, hx, hat⟩ := hr.int_at hlt
        obtain ⟨b', off', y, rfl, hbb', hy, hat'⟩ := hr'.int_at hlt
        by_cases hxy : x = y
        · subst hxy
          have HN := hide (show xs.take (k + 1) = ys.take (k + 1) by rw [take_snoc _ _ _ hx, take_snoc _ _ _ hy, hst.out])
          clear hx hy
          go_wp2_with fail
          go_quiet (fail)
          go_wp2
          go_roundw
          case rel => exact ⟨k + 1, d + nq, by omega, by go_num, rfl, HN.out⟩
          case measure => simp [intOf]; omega
        · have HN := hide (show decide (xs = ys) = false from decide_eq_false (fun e => hxy (by rw [e] at hx; exact Option.some.inj (hx.symm.trans hy))))
          clear hx hy
          go_wp2_with fail
          go_quiet (fail)
          go_wp2
          go_ret
          exact ⟨ret_bool HN.out.symm, below_drewN (below_drewN (Below.refl _ _) _) _⟩
      · have HN := hide (show decide (xs = ys) = true from decide_eq_true (by
          have := hst.out
          rwa [List.take_of_length_le (by rw [H1.out]; omega), List.take_of_length_le (by rw [H2.out]; omega)] at this))
        go_wp2
        go_ret
        exact ⟨ret_bool HN.out.symm, below_drewN (Below.refl _ _) _⟩
  · have HN := hide (show decide (xs = ys) = false from decide_eq_false (fun e => hnn (by rw [← H1.out, ← H2.out, e])))
    go_wp2
    go_ret
    exact ⟨ret_bool HN.out.symm, Below.refl _ _⟩

def refCells (room : Int) (vo v : Value) : Array Value := #[.int .i64 room, vo, v]
structure RefRep (w : World) (F : Nat → Prop) (pl base : Nat) (room : Int) (ids : List Int) (Ao : Option Addr) (co : Nat) (l : List Raw) (A : Option Addr) (c : Nat) : Prop where
  box : Blk w pl 49 (refCells room (.slice Ao ids.length co) (.slice A l.length c))
  on : w.ownsRow base 3 1 (.slice Ao ids.length co) ids.length (ints ids)
  own : w.ownsRow base 30 6 (.slice A l.length c) l.length (rawsC l)
  byt : ∀ r ∈ l, w.ownsRow base 5 1 r.sl r.cp.bs.length (u8s r.cp.bs)
  hpl : F pl
  hon : ∀ g, (Value.slice Ao ids.length co).ownBlock = some g → F g
  hrow : ∀ g, (Value.slice A l.length c).ownBlock = some g → F g
  hbyt : ∀ r ∈ l, ∀ g, r.sl.ownBlock = some g → F g
  plb : pl < base
  lt : ∀ g, F g → g < w.heap.size
  bz : base ≤ w.heap.size

theorem RefRep.keep {w w' : World} {F G : Nat → Prop} {pl base : Nat} {room : Int} {ids : List Int} {Ao : Option Addr} {co : Nat} {l : List Raw} {A : Option Addr} {c : Nat} (h : RefRep w F pl base room ids Ao co l A c) (hk : Keeps G w w') (hd : ∀ g, F g → ¬ G g) : RefRep w' F pl base room ids Ao co l A c where
  box := hk.blk h.box (hd _ h.hpl)
  on := hk.own h.on (fun g hg => hd _ (h.hon g hg))
  own := hk.own h.own (fun g hg => hd _ (h.hrow g hg))
  byt := fun r hr => hk.own (h.byt r hr) (fun g hg => hd _ (h.hbyt r hr g hg))
  hpl := h.hpl
  hon := h.hon
  hrow := h.hrow
  hbyt := h.hbyt
  plb := h.plb
  lt := fun g hg => Nat.lt_of_lt_of_le (h.lt g hg) hk.size
  bz := Nat.le_trans h.bz hk.size
theorem RefRep.below {w w' : World} {F : Nat → Prop} {pl base : Nat} {room : Int} {ids : List Int} {Ao : Option Addr} {co : Nat} {l : List Raw} {A : Option Addr} {c : Nat} (h : RefRep w F pl base room ids Ao co l A c) (hb : Below w.heap.size w w') : RefRep w' F pl base room ids Ao co l A c :=
  h.keep (Keeps.of_below (F := fun _ => False) hb) (fun _ _ h => h)
theorem RefRep.drewN {w : World} {F : Nat → Prop} {pl base : Nat} {room : Int} {ids : List Int} {Ao : Option Addr} {co : Nat} {l : List Raw} {A : Option Addr} {c : Nat} (h : RefRep w F pl base room ids Ao co l A c) (d : Nat) : RefRep (w.drewN d) F pl base room ids Ao co l A c := h.below (below_drewN (Below.refl _ _) d)
theorem RefRep.cells {w : World} {F : Nat → Prop} {pl base : Nat} {room : Int} {ids : List Int} {Ao : Option Addr} {co : Nat} {l : List Raw} {A : Option Addr} {c : Nat} (h : RefRep w F pl base room ids Ao co l A c) :
    w.cell? ⟨pl, 0, none⟩ = some (.int .i64 room) ∧ w.cell? ⟨pl, 1, none⟩ = some (.slice Ao ids.length co) ∧ w.cell? ⟨pl, 2, none⟩ = some (.slice A l.length c) :=
  ⟨h.box.cell 0, h.box.cell 1, h.box.cell 2⟩

def RefAt (w : World) (F : Nat → Prop) (pl base : Nat) (room : Int) (ids : List Int) (cps : List Cp) (wr : World) : Prop :=
  ∃ (F' : Nat → Prop) (Ao : Option Addr) (co : Nat) (l : List Raw) (A : Option Addr) (c : Nat), RefRep wr F' pl base room ids Ao co l A c ∧ l.map (·.cp) = cps ∧ (∀ g, F' g → F g ∨ w.heap.size ≤ g) ∧ Keeps F w wr

set_option maxHeartbeats 2000000 in
theorem refCopied_any (c : Cp) (A : Option Addr) (k : Nat) (w : World) (hn : c.bs.length ≤ 100000) (hr : Reads w w.heap.size 1 A c.bs.length (u8s c.bs)) :
    Calls Try.prog 26 #[c.val A k] w fun r w' => ∃ A' k', r = .returned (c.val A' k') ∧ w'.ownsRow w.heap.size 5 1 (.slice A' c.bs.length k') c.bs.length (u8s c.bs) ∧ Below w.heap.size w w' := by
  obtain ⟨lan, frm, to, bs, for_, sp⟩ := c
  obtain ⟨i0, hi, hz0, hz1, hz2⟩ := info_parts byte_info
  dsimp only at hr hn ⊢
  have HRA := fun o1 o2 => hide ((hr.alloc (Nat.le_refl _) o1).alloc (by simp) o2)
  clear hr
  go_enter Try.func26, Try.ntmps26
  go_wp2_with (first
    | (at_builtin
       refine wpList_append_any _ rfl (.tmp 4) (.tmp 7) 22 rfl (w.heap.size + 2) 5 i0 _ 1 1 Try.underlying22 hi hz0 hz1 hz2 rfl (by omega) (.slice none 0 0) 0 [] rfl
         (World.ownsRow_nil _ _ _ _) w.heap.size A bs.length k (u8s bs) rfl (HRA _ _).out (u8s_one bs) (by simp only [maxLen]; omega) (by omega) (by simp) ?_
       intro A3 c3 w3 hown3 hg3 hloc3
       have hb1 := ((Blk.new w 30 #[.int .i64 lan, .int .i64 frm, .int .i64 to, .slice A bs.length k, .int .i64 for_, .bool sp]).alloc (.cells #[.int .i64 0, .int .i64 0, .int .i64 0, .slice none 0 0, .int .i64 0, .bool false] 30)).grown hg3 (by simp [Value.ownBlock])
       have hb2 := (Blk.new (w.alloc (.cells #[.int .i64 lan, .int .i64 frm, .int .i64 to, .slice A bs.length k, .int .i64 for_, .bool sp] 30)) 30 #[.int .i64 0, .int .i64 0, .int .i64 0, .slice none 0 0, .int .i64 0, .bool false]).grown hg3 (by simp [Value.ownBlock])
       have hz : (w.alloc (.cells #[.int .i64 lan, .int .i64 frm, .int .i64 to, .slice A bs.length k, .int .i64 for_, .bool sp] 30)).heap.size = w.heap.size + 1 := by simp
       rw [hz] at hb2
       clear hz
       have HB := hide ((((Below.refl w.heap.size w).alloc (Nat.le_refl _) (.cells #[.int .i64 lan, .int .i64 frm, .int .i64 to, .slice A bs.length k, .int .i64 for_, .bool sp] 30)).alloc (by simp) (.cells #[.int .i64 0, .int .i64 0, .int .i64 0, .slice none 0 0, .int .i64 0, .bool false] 30)).grown hg3 (by simp; omega) (fun g hg => by cases hg))
       simp only [Nat.zero_add, List.nil_append] at hown3
       have HO := hide hown3
       obtain ⟨p0, p1, p2, p3, p4, p5, pf⟩ := hb1.cells6
       obtain ⟨q0, q1, q2, q3, q4, q5, qf⟩ := hb2.cells6
       have H2 := hide hb2
       clear hown3 hg3 hloc3 hb1 hb2))
  have hb := (H2.out.far (p := ⟨w.heap.size, 3, none⟩) (by simp) (.slice A3 bs.length c3)).six (.int .i64 lan) (.int .i64 frm) (.int .i64 to) (.slice A3 bs.length c3) (.int .i64 for_) (.bool sp)
  refine bodyPost_ret (results_cell_row (fn := Try.f26) rfl _ _ _ 30 _ (0, 0) _ rfl hb Try.underlying30 rfl (by kernel_rfl)) rfl ?_
  refine ⟨A3, c3, rfl, ?_, below_six (HB.out.setCell (p := ⟨w.heap.size, 3, none⟩) (Nat.le_refl _) _) (by omega) _ _ _ _ _ _⟩
  exact own_mono (own_six (ownsRow_setCell_below HO.out (a := ⟨w.heap.size, 3, none⟩) (by show w.heap.size < _; omega) _) (by omega) _ _ _ _ _ _) (by omega)

theorem onF_zero (zs : List Int) : onF zs 0 = false := by simp [onF]
theorem onL_one (zs : List Int) : onL (onF zs) 1 = [] := by rw [onL_succ, onF_zero]; rfl
theorem onF_at (zs : List Int) (k : Nat) (h1 : 1 ≤ k) (h2 : k ≤ 15) : onF zs k = decide ((k : Int) ∈ zs) := by
  simp [onF, h1, h2]
theorem blk3_set1 (a b c v : Value) : (#[a, b, c] : Array Value).setIfInBounds 1 v = #[a, v, c] := rfl

set_option maxHeartbeats 4000000 in
theorem refNew_any (room : Int) (A : Option Addr) (n c : Nat) (zs : List Int) (w : World) (hr : Reads w w.heap.size 1 A n (ints zs)) (hn : n ≤ 100000) :
    Calls Try.prog 17 #[.int .i64 room, .slice A n c] w fun r w' => r = .returned (.pointer (some ⟨w.heap.size, 0, none⟩)) ∧ Below w.heap.size w w' ∧
      ∃ F Ao co, RefRep w' F w.heap.size (w.heap.size + 1) (roomF room) (onL (onF zs) 16) Ao co [] none 0 ∧ ∀ g, F g → w.heap.size ≤ g := by
  obtain ⟨i0, hi, hz0, hz1, hz2⟩ := info_parts int_info
  have HR := hide hr
  clear hr
  have hcut : decide (room < 1) = true ∧ decide (1024 < room) = false ∧ roomF room = 1 ∨ decide (room < 1) = false ∧ decide (1024 < room) = true ∧ roomF room = 1024 ∨ decide (room < 1) = false ∧ decide (1024 < room) = false ∧ roomF room = room := by
    simp only [roomF, decide_eq_true_eq, decide_eq_false_iff_not]
    split
    · omega
    · split <;> omega
  go_enter Try.func17, Try.ntmps17
  rcases hcut with ⟨d1, d2, hrm⟩ | ⟨d1, d2, hrm⟩ | ⟨d1, d2, hrm⟩
  all_goals
    have HRM := hide hrm
    clear hrm
    go_wp2_with fail
    generalize hW : World.alloc w _ = W1
    have hbl : Blk W1 w.heap.size 49 (refCells (roomF room) (.slice none (onL (onF zs) 1).length 0) (.slice none 0 0)) := by
      unfold Blk
      rw [← hW, heap_alloc_new, onL_one, HRM.out]
      rfl
    have hB1 : Below w.heap.size w W1 := by rw [← hW]; exact (Below.refl _ _).alloc (Nat.le_refl _) _
    have hz1' : w.heap.size + 1 ≤ W1.heap.size := by rw [← hW]; simp
    clear hW
    have HB1 := hide hB1
    have HBL := hide hbl
    clear hbl hB1
    go_loopw [6] (fun i wr => ∃ k : Nat, ∃ Ao co, 1 ≤ k ∧ k ≤ 16 ∧ i = .int .i64 k ∧ Hid (Blk wr w.heap.size 49 (refCells (roomF room) (.slice Ao (onL (onF zs) k).length co) (.slice none 0 0))) ∧ Hid (wr.ownsRow (w.heap.size + 1) 3 1 (.slice Ao (onL (onF zs) k).length co) (onL (onF zs) k).length (ints (onL (onF zs) k))) ∧ Hid (Below w.heap.size w wr)) (fun i _ => 16 - (intOf i).toNat)
    case atStart => exact ⟨1, none, 0, by omega, by omega, rfl, HBL, by rw [onL_one]; exact World.ownsRow_nil _ _ _ _, HB1⟩
    case round =>
      obtain ⟨k, Ao, co, hk1, hk, rfl, hbl, hown, hb⟩ := hrel
      have hlt := hbl.out.lt
      by_cases hlt2 : k < 16
      · go_wp2_with fail
        refine (has_any A n c zs (k : Int) _ (by omega) ((HR.out.below hb.out).more hb.out.size)).mono ?_
        rintro r wr ⟨rfl, rfl⟩
        have hs := onL_succ (onF zs) k
        rw [onF_at zs k hk1 (by omega)] at hs
        by_cases hmem : (k : Int) ∈ zs
        · rw [decide_eq_true hmem] at hs ⊢
          rw [if_pos rfl] at hs
          have hle := onL_le (onF zs) k
          have hC := hbl.out.cell 1
          have hc1 : wr.cell? ⟨w.heap.size, 1, none⟩ = some (.slice Ao (onL (onF zs) k).length co) := hC
          have HS := hide hs
          clear hs hmem hC
          go_wp2_with (first
            | (at_builtin
               refine wpList_append_any _ rfl (.tmp 31) (.tmp 33) 36 rfl (w.heap.size + 1) 3 i0 _ 1 8 Try.underlying36 hi hz0 hz1 hz2 rfl (by omega) (.slice Ao (onL (onF zs) k).length co) (onL (onF zs) k).length (ints (onL (onF zs) k)) rfl
                 (hown.out.alloc _) (wr.heap.size + 1) (some ⟨wr.heap.size, 0, none⟩) 1 1 [.int .i64 k] rfl (Reads.new wr #[.int .i64 k] 3 1 1 rfl) (by simp [Value.oneCell']) (by simp only [maxLen]; omega) (by omega) (by simp; omega) ?_
               intro A3 c3 w3 hown3 hg3 hloc3
               have HB3 := hide ((hbl.out.alloc (.cells #[.int .i64 k] 3)).grown hg3 (fun e => by have := (own_base hown.out e.symm).1; omega))
               have HW3 := hide ((hb.out.alloc hb.out.size (.cells #[.int .i64 k] 3)).grown hg3 (by have := hb.out.size; simp; omega) (fun g hg => by have := (own_base hown.out hg).1; omega))
               have HO3 := hide hown3
               have d1 : w3.cell? ⟨w.heap.size, 1, none⟩ = some (.slice Ao (onL (onF zs) k).length co) := HB3.out.cell 1
               have f1 : w3.frozen? ⟨w.heap.size, 1, none⟩ = false := HB3.out.frozen 1
               clear hown3 hg3 hloc3))
          go_roundw
          case rel => exact ⟨k + 1, A3, c3, by omega, by omega, by go_num, by rw [HS.out, List.length_append]; have := HB3.out.set_ 1 (.slice A3 ((onL (onF zs) k).length + 1) c3); exact this, by rw [HS.out, ints_append, List.length_append]; exact ownsRow_setCell_below HO3.out (a := ⟨w.heap.size, 1, none⟩) (by show w.heap.size < _; omega) _, HW3.out.setCell (p := ⟨w.heap.size, 1, none⟩) (Nat.le_refl _) _⟩
          case measure => simp [intOf]; omega
        · rw [decide_eq_false hmem] at hs ⊢
          rw [if_neg (by simp)] at hs
          have HS := hide hs
          clear hs hmem
          go_wp2
          go_roundw
          case rel => exact ⟨k + 1, Ao, co, by omega, by omega, by go_num, by rw [HS.out]; exact hbl, by rw [HS.out]; exact hown, hb⟩
          case measure => simp [intOf]; omega
      · obtain rfl : k = 16 := by omega
        go_wp2
        go_ret
        refine ⟨rfl, hb.out, fun g => g = w.heap.size ∨ (Value.slice Ao (onL (onF zs) 16).length co).ownBlock = some g, Ao, co, ⟨hbl.out, hown.out, World.ownsRow_nil _ _ _ _, (fun r hr => by cases hr), .inl rfl, (fun g hg => .inr hg), (fun g hg => by cases hg), (fun r hr => by cases hr), by omega, ?_, by omega⟩, ?_⟩
        · rintro g (rfl | hg)
          · exact hlt
          · exact (own_base hown.out hg).2
        · rintro g (rfl | hg)
          · exact Nat.le_refl _
          · have := (own_base hown.out hg).1; omega
end Go.Proofs.Ytldanafbaadgoaa
