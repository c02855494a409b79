/-
  The walk of AcksActs.
-/
import Derived.Test.YtlclifhpmnfopaaDoorR
import Derived.Deep.RegionHeld3
namespace Go.Proofs.YtlclifhpmnfopaaDoor
open Go.RowKit

/-- one thing that is done: kind, network, heads -/
structure ActV where
  kind : Int
  lan : Int
  A : Option Addr
  n : Nat
  c : Nat
  hs : List Hd
def ActV.vals (a : ActV) : List Value := [.int .i64 a.kind, .int .i64 a.lan, .slice a.A a.n a.c]
def actsC (l : List ActV) : List Value := l.flatMap ActV.vals
/-- the rows behind what is done -/
def rowsF (rs : List Rw) (a : ActV) : List Rw := if a.kind = 0 then laterR a.lan rs a.hs else if a.kind = 1 ∨ a.kind = 2 then dropF a.lan rs else rs

def ActsAt (w : World) (A : Option Addr) (n : Nat) (l : List ActV) : Prop :=
  l.length = n ∧ (0 < n → ∃ b off, A = some ⟨b, off, none⟩ ∧ b < w.heap.size ∧ ∀ k a, l[k]? = some a →
    w.cell? ⟨b, off + k * 3, none⟩ = some (.int .i64 a.kind) ∧ w.cell? ⟨b, off + k * 3 + 1, none⟩ = some (.int .i64 a.lan) ∧ w.cell? ⟨b, off + k * 3 + 2, none⟩ = some (.slice a.A a.n a.c)) ∧
  ∀ a ∈ l, Wf a.lan ∧ Reads w w.heap.size 7 a.A a.n (heads a.hs)
theorem ActsAt.at_ {w w' : World} {A : Option Addr} {n k : Nat} {l : List ActV} (h : ActsAt w A n l) (hb : Below w.heap.size w w') (hk : k < n) :
    ∃ b off a, A = some ⟨b, off, none⟩ ∧ b < w.heap.size ∧ l[k]? = some a ∧ w'.cell? ⟨b, off + k * 3, none⟩ = some (.int .i64 a.kind) ∧ w'.cell? ⟨b, off + k * 3 + 1, none⟩ = some (.int .i64 a.lan) ∧ w'.cell? ⟨b, off + k * 3 + 2, none⟩ = some (.slice a.A a.n a.c) ∧ Wf a.lan ∧ Reads w w.heap.size 7 a.A a.n (heads a.hs) := by
  obtain ⟨h1, h2, h3⟩ := h
  obtain ⟨b, off, rfl, hbb, hc⟩ := h2 (by omega)
  have hlt : k < l.length := by omega
  have hg : l[k]? = some l[k] := List.getElem?_eq_getElem hlt
  obtain ⟨c0, c1, c2⟩ := hc k _ hg
  obtain ⟨r1, r2⟩ := h3 l[k] (List.getElem_mem hlt)
  exact ⟨b, off, l[k], rfl, hbb, hg, (hb.cell (p := ⟨b, _, none⟩) hbb).trans c0, (hb.cell (p := ⟨b, _, none⟩) hbb).trans c1, (hb.cell (p := ⟨b, _, none⟩) hbb).trans c2, r1, r2⟩

abbrev ActS (g0 : Nat) (kind lan : Int) (A : Option Addr) (n c : Nat) (w' : World) : Prop :=
  w'.cell? ⟨g0, 0, none⟩ = some (.int .i64 kind) ∧ w'.cell? ⟨g0, 1, none⟩ = some (.int .i64 lan) ∧ w'.cell? ⟨g0, 2, none⟩ = some (.slice A n c)
theorem Both2.acts {w0 wr : World} {pa bm base N : Nat} {rm : List Rw} {px base2 : Nat} {rs : List Rw} {g0 : Nat} {kind lan : Int} {A : Option Addr} {n c : Nat}
    (h : Both2 w0 wr pa bm base N rm px base2 rs g0 #[.int .i64 kind, .int .i64 lan, .slice A n c]) : ActS g0 kind lan A n c wr := by
  have hb := h.blk
  have h0 := hb.cell 0
  have h1 := hb.cell 1
  have h2 := hb.cell 2
  exact ⟨by simpa using h0, by simpa using h1, by simpa using h2⟩

set_option maxRecDepth 20000 in
set_option maxHeartbeats 4000000 in
theorem acksActs_walk (A : Option Addr) (n c : Nat) (l : List ActV) (w : World) (h : HasTable w) (hp : 0 < w.heap.size) (hr : ActsAt w A n l) :
    Calls Tryd.prog 5 #[.slice A n c] w fun r w' => r = .returned (.bool true) ∧ Below w.heap.size w w' := by
  have HT := hide h
  have HP := hide hp
  have HR := hide hr
  clear h hp hr
  go_enter Tryd.func5, Tryd.ntmps5
  go_wp2_with fail
  refine (wakes_any _ HT.out HP.out).mono ?_
  rintro r w1 ⟨rfl, hb1⟩
  have HB1 := hide hb1
  clear hb1
  by_cases hn : 60 < n
  · go_wp2
    go_ret
    exact ⟨rfl, HB1.out⟩
  · go_wp2_with fail
    refine (new_any _).mono ?_
    rintro r w2 ⟨rfl, hA, hb2⟩
    have HB := hide (both_new HB1.out hA hb2)
    clear hA hb2
    go_wp2_with fail
    go_loopw [19] (fun i wr => ∃ k N : Nat, ∃ rs, k ≤ n ∧ i = .int .i64 k ∧ N ≤ k * 30 ∧ rs.length ≤ k * 30 ∧ Both w wr (w1.heap.size + 1) w1.heap.size (w1.heap.size + 2) N (fun x => ofF x rs) w2.heap.size (w2.heap.size + 1) rs) (fun i _ => n - (intOf i).toNat)
    case atStart => exact ⟨0, 0, [], by omega, rfl, by omega, by simp, HB.out⟩
    case round =>
      obtain ⟨k, N, rs, hk, rfl, hN, hrs, hB⟩ := hrel
      have HB := hide hB
      clear hB
      by_cases hlt : k < n
      · obtain ⟨b, off, a, rfl, hbb, hx, e0, e1, e2, hwf, hra⟩ := HR.out.at_ HB.out.frame hlt
        obtain ⟨kind, lan, A1, n1, c1, hs⟩ := a
        have HRA := hide hra
        clear hra
        by_cases hn1 : 30 < n1
        · have hfr := HB.out.frame.alloc HB.out.frame.size (.cells #[.int .i64 kind, .int .i64 lan, .slice A1 n1 c1] 35)
          go_wp2
          go_ret
          exact ⟨rfl, hfr⟩
        · have hB2 := HB.out.two #[.int .i64 kind, .int .i64 lan, .slice A1 n1 c1]
          have hrl : rs.length ≤ 5000 := by omega
          by_cases hk0 : kind = 0
          · subst hk0
            go_wp2_with fail
            generalize wr.alloc (.cells #[.int .i64 0, .int .i64 lan, .slice A1 n1 c1] 35) = W1 at hB2 ⊢
            have hBd := hB2.drew
            have hS0 := hB2.acts
            go_region_held3 (fun w' => ActS wr.heap.size 0 lan A1 n1 c1 w') (first | assumption | ((repeat' apply And.intro) <;> first | assumption | go_keep))
              (first
                | (go_at_call 12; refine (two_later (by assumption) hwf HRA.out (by omega) (by omega) (by omega)).mono ?_; rintro r w3 ⟨rfl, hB3⟩; have hS2 := Both2.acts hB3)
                | (go_at_call 13; refine (two_refLater (by assumption) HRA.out (by omega) (by omega)).mono ?_; rintro r w4 ⟨rfl, hB4⟩; have hS3 := Both2.acts hB4))
            have HBZ := hide hB4.back
            have Hrs2 := hide (show (laterR lan rs hs).length ≤ (k + 1) * 30 by
              have h1 := laterR_le lan hs rs
              have h2 := HRA.out.1
              rw [heads_length] at h2
              omega)
            have Hrs3 := hide (show (laterR lan rs hs).length ≤ 10000 by have := Hrs2.out; omega)
            clear hS0 hS2 hS3 hB3 hB4 hB2 hBd e0 e1 e2
            go_wp2_with fail
            go_loopw [73] (fun i wq => ∃ m : Nat, m ≤ n ∧ i = .int .i64 m ∧ Both w wq (w1.heap.size + 1) w1.heap.size (w1.heap.size + 2) (N + n1) (fun x => ofF x (laterR lan rs hs)) w2.heap.size (w2.heap.size + 1) (laterR lan rs hs)) (fun i _ => n - (intOf i).toNat)
            case atStart => exact ⟨0, by omega, rfl, HBZ.out⟩
            case round =>
              obtain ⟨m, hm, rfl, hBq⟩ := hrel
              have HBQ := hide hBq
              clear hBq
              by_cases hmlt : m < n
              · obtain ⟨b', off', a2, hA', hbb2, hx2, f0, f1, f2, hwf2, hra2⟩ := HR.out.at_ HBQ.out.frame hmlt
                cases hA'
                obtain ⟨kind2, lan2, A2, n2, c2, hs2⟩ := a2
                clear hra2 hx2
                have hB2q := HBQ.out.two #[.int .i64 kind2, .int .i64 lan2, .slice A2 n2 c2]
                go_wp2_with fail
                generalize hW2 : wr.alloc (.cells #[.int .i64 kind2, .int .i64 lan2, .slice A2 n2 c2] 35) = W2 at hB2q ⊢
                have hBdq := hB2q.drew
                have hSq := hB2q.acts
                go_region_held3 (fun w' => ActS wr.heap.size kind2 lan2 A2 n2 c2 w') (first | assumption | ((repeat' apply And.intro) <;> first | assumption | go_keep))
                  (first
                    | (go_at_call 19; refine (two_len (by assumption) hwf2).mono ?_; rintro r w3 ⟨rfl, hB3⟩; have hS2 := Both2.acts hB3)
                    | (go_at_call 16; refine (two_of (by assumption) lan2 (by have := Hrs3.out; omega)).mono ?_; rintro r w4 ⟨⟨A5, c5, rfl, _, _⟩, hB4⟩; have hS3 := Both2.acts hB4))
                go_wp2
                exact ⟨⟨m + 1, by omega, by go_num, hB4.back⟩, by simp [intOf]; omega⟩
              · have HBE := HBQ
                go_wp2
                exact ⟨⟨k + 1, N + n1, laterR lan rs hs, by omega, by go_num, by omega, Hrs2.out, HBE.out⟩, by simp [intOf]; omega⟩
          · by_cases hk1 : kind = 1
            · subst hk1
              clear hk0
              go_wp2_with fail
              generalize wr.alloc (.cells #[.int .i64 1, .int .i64 lan, .slice A1 n1 c1] 35) = W1 at hB2 ⊢
              have hBd := hB2.drew
              have hS0 := hB2.acts
              go_region_held3 (fun w' => ActS wr.heap.size 1 lan A1 n1 c1 w') (first | assumption | ((repeat' apply And.intro) <;> first | assumption | go_keep))
                (first
                  | (go_at_call 15; refine (two_take (by assumption) hwf (by omega)).mono ?_; rintro r w3 ⟨⟨A3, c3, vs, rfl, ho3, hP3⟩, hB3⟩; have hS2 := Both2.acts hB3)
                  | (go_at_call 16; refine (two_of (by assumption) lan (by omega)).mono ?_; rintro r w4 ⟨⟨A4, c4, rfl, ho4, hb4⟩, hB4⟩; have hS3 := Both2.acts hB4; have ho3' := (Keeps.of_below (F := fun _ => False) hb4).own ho3 (fun _ _ h => h); have hP3' := hP3.below hb4; have hcap := own_cap ho4; have hrd := Reads.of_own ho4)
                  | (go_at_call 14; refine (lawPieces_any _ _ _ _ _ _ (ofF lan rs) vs _ (by have := ofF_le lan rs; omega) hcap.1 hcap.2 hrd ho3' hP3').mono ?_; rintro r w5 ⟨rfl, hb5⟩; have hB5 := hB4.below hb5; have hS4 := Both2.acts hB5))
              obtain ⟨s0, s1, s2⟩ := hS4
              have HB5 := hide hB5
              clear hS0 hS2 hS3 hB3 hB4 hB5 hB2 hBd e0 e1 e2 ho3 hP3 ho4 hb4 ho3' hP3' hcap hrd hb5
              go_wp2_with fail
              refine (two_refDrop HB5.out lan (by omega)).mono ?_
              rintro r w6 ⟨rfl, hB6⟩
              have HBZ := hide hB6.back
              have Hrs2 := hide (show (dropF lan rs).length ≤ (k + 1) * 30 by
                have h1 := dropF_le lan rs
                omega)
              have Hrs3 := hide (show (dropF lan rs).length ≤ 10000 by have := Hrs2.out; omega)
              clear hB6 s0 s1 s2
              go_wp2_with fail
              go_loopw [73] (fun i wq => ∃ m : Nat, m ≤ n ∧ i = .int .i64 m ∧ Both w wq (w1.heap.size + 1) w1.heap.size (w1.heap.size + 2) (N) (fun x => ofF x (dropF lan rs)) w2.heap.size (w2.heap.size + 1) (dropF lan rs)) (fun i _ => n - (intOf i).toNat)
              case atStart => exact ⟨0, by omega, rfl, HBZ.out⟩
              case round =>
                obtain ⟨m, hm, rfl, hBq⟩ := hrel
                have HBQ := hide hBq
                clear hBq
                by_cases hmlt : m < n
                · obtain ⟨b', off', a2, hA', hbb2, hx2, f0, f1, f2, hwf2, hra2⟩ := HR.out.at_ HBQ.out.frame hmlt
                  cases hA'
                  obtain ⟨kind2, lan2, A2, n2, c2, hs2⟩ := a2
                  clear hra2 hx2
                  have hB2q := HBQ.out.two #[.int .i64 kind2, .int .i64 lan2, .slice A2 n2 c2]
                  go_wp2_with fail
                  generalize hW2 : wr.alloc (.cells #[.int .i64 kind2, .int .i64 lan2, .slice A2 n2 c2] 35) = W2 at hB2q ⊢
                  have hBdq := hB2q.drew
                  have hSq := hB2q.acts
                  go_region_held3 (fun w' => ActS wr.heap.size kind2 lan2 A2 n2 c2 w') (first | assumption | ((repeat' apply And.intro) <;> first | assumption | go_keep))
                    (first
                      | (go_at_call 19; refine (two_len (by assumption) hwf2).mono ?_; rintro r w3 ⟨rfl, hB3⟩; have hS2 := Both2.acts hB3)
                      | (go_at_call 16; refine (two_of (by assumption) lan2 (by have := Hrs3.out; omega)).mono ?_; rintro r w4 ⟨⟨A5, c5, rfl, _, _⟩, hB4⟩; have hS3 := Both2.acts hB4))
                  go_wp2
                  exact ⟨⟨m + 1, by omega, by go_num, hB4.back⟩, by simp [intOf]; omega⟩
                · have HBE := HBQ
                  go_wp2
                  exact ⟨⟨k + 1, N, dropF lan rs, by omega, by go_num, by omega, Hrs2.out, HBE.out⟩, by simp [intOf]; omega⟩
            · by_cases hk2 : kind = 2
              · subst hk2
                clear hk0 hk1
                go_wp2_with fail
                generalize wr.alloc (.cells #[.int .i64 2, .int .i64 lan, .slice A1 n1 c1] 35) = W1 at hB2 ⊢
                have hBd := hB2.drew
                have hS0 := hB2.acts
                go_region_held3 (fun w' => ActS wr.heap.size 2 lan A1 n1 c1 w') (first | assumption | ((repeat' apply And.intro) <;> first | assumption | go_keep))
                  (first
                    | (go_at_call 18; refine (two_drop (by assumption) hwf).mono ?_; rintro r w3 ⟨rfl, hB3⟩; have hS2 := Both2.acts hB3)
                    | (go_at_call 17; refine (two_refDrop (by assumption) lan (by omega)).mono ?_; rintro r w4 ⟨rfl, hB4⟩; have hS3 := Both2.acts hB4))
                have HBZ := hide hB4.back
                have Hrs2 := hide (show (dropF lan rs).length ≤ (k + 1) * 30 by
                  have h1 := dropF_le lan rs
                  omega)
                have Hrs3 := hide (show (dropF lan rs).length ≤ 10000 by have := Hrs2.out; omega)
                clear hS0 hS2 hS3 hB3 hB4 hB2 hBd e0 e1 e2
                go_wp2_with fail
                go_loopw [73] (fun i wq => ∃ m : Nat, m ≤ n ∧ i = .int .i64 m ∧ Both w wq (w1.heap.size + 1) w1.heap.size (w1.heap.size + 2) (N) (fun x => ofF x (dropF lan rs)) w2.heap.size (w2.heap.size + 1) (dropF lan rs)) (fun i _ => n - (intOf i).toNat)
                case atStart => exact ⟨0, by omega, rfl, HBZ.out⟩
                case round =>
                  obtain ⟨m, hm, rfl, hBq⟩ := hrel
                  have HBQ := hide hBq
                  clear hBq
                  by_cases hmlt : m < n
                  · obtain ⟨b', off', a2, hA', hbb2, hx2, f0, f1, f2, hwf2, hra2⟩ := HR.out.at_ HBQ.out.frame hmlt
                    cases hA'
                    obtain ⟨kind2, lan2, A2, n2, c2, hs2⟩ := a2
                    clear hra2 hx2
                    have hB2q := HBQ.out.two #[.int .i64 kind2, .int .i64 lan2, .slice A2 n2 c2]
                    go_wp2_with fail
                    generalize hW2 : wr.alloc (.cells #[.int .i64 kind2, .int .i64 lan2, .slice A2 n2 c2] 35) = W2 at hB2q ⊢
                    have hBdq := hB2q.drew
                    have hSq := hB2q.acts
                    go_region_held3 (fun w' => ActS wr.heap.size kind2 lan2 A2 n2 c2 w') (first | assumption | ((repeat' apply And.intro) <;> first | assumption | go_keep))
                      (first
                        | (go_at_call 19; refine (two_len (by assumption) hwf2).mono ?_; rintro r w3 ⟨rfl, hB3⟩; have hS2 := Both2.acts hB3)
                        | (go_at_call 16; refine (two_of (by assumption) lan2 (by have := Hrs3.out; omega)).mono ?_; rintro r w4 ⟨⟨A5, c5, rfl, _, _⟩, hB4⟩; have hS3 := Both2.acts hB4))
                    go_wp2
                    exact ⟨⟨m + 1, by omega, by go_num, hB4.back⟩, by simp [intOf]; omega⟩
                  · have HBE := HBQ
                    go_wp2
                    exact ⟨⟨k + 1, N, dropF lan rs, by omega, by go_num, by omega, Hrs2.out, HBE.out⟩, by simp [intOf]; omega⟩
              · have HBZ := hide hB2.back
                have Hrs2 := hide (show rs.length ≤ (k + 1) * 30 by omega)
                have Hrs3 := hide (show rs.length ≤ 10000 by omega)
                go_wp2_with fail
                clear hB2 e0 e1 e2
                go_loopw [73] (fun i wq => ∃ m : Nat, m ≤ n ∧ i = .int .i64 m ∧ Both w wq (w1.heap.size + 1) w1.heap.size (w1.heap.size + 2) (N) (fun x => ofF x (rs)) w2.heap.size (w2.heap.size + 1) (rs)) (fun i _ => n - (intOf i).toNat)
                case atStart => exact ⟨0, by omega, rfl, HBZ.out⟩
                case round =>
                  obtain ⟨m, hm, rfl, hBq⟩ := hrel
                  have HBQ := hide hBq
                  clear hBq
                  by_cases hmlt : m < n
                  · obtain ⟨b', off', a2, hA', hbb2, hx2, f0, f1, f2, hwf2, hra2⟩ := HR.out.at_ HBQ.out.frame hmlt
                    cases hA'
                    obtain ⟨kind2, lan2, A2, n2, c2, hs2⟩ := a2
                    clear hra2 hx2
                    have hB2q := HBQ.out.two #[.int .i64 kind2, .int .i64 lan2, .slice A2 n2 c2]
                    go_wp2_with fail
                    generalize hW2 : wr.alloc (.cells #[.int .i64 kind2, .int .i64 lan2, .slice A2 n2 c2] 35) = W2 at hB2q ⊢
                    have hBdq := hB2q.drew
                    have hSq := hB2q.acts
                    go_region_held3 (fun w' => ActS wr.heap.size kind2 lan2 A2 n2 c2 w') (first | assumption | ((repeat' apply And.intro) <;> first | assumption | go_keep))
                      (first
                        | (go_at_call 19; refine (two_len (by assumption) hwf2).mono ?_; rintro r w3 ⟨rfl, hB3⟩; have hS2 := Both2.acts hB3)
                        | (go_at_call 16; refine (two_of (by assumption) lan2 (by have := Hrs3.out; omega)).mono ?_; rintro r w4 ⟨⟨A5, c5, rfl, _, _⟩, hB4⟩; have hS3 := Both2.acts hB4))
                    go_wp2
                    exact ⟨⟨m + 1, by omega, by go_num, hB4.back⟩, by simp [intOf]; omega⟩
                  · have HBE := HBQ
                    go_wp2
                    exact ⟨⟨k + 1, N, rs, by omega, by go_num, by omega, Hrs2.out, HBE.out⟩, by simp [intOf]; omega⟩
      · go_wp2
        go_ret
        exact ⟨rfl, HB.out.frame⟩
end Go.Proofs.YtlclifhpmnfopaaDoor
