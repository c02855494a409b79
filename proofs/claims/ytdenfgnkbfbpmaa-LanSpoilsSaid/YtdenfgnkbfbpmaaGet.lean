/-
  packet.Get of bytes whose sum is not whole: an error of sum.
-/
import Derived.Test.YtdenfgnkbfbpmaaIp
import Derived.ScopeJumps
namespace Go.Proofs.Ytdenfgnkbfbpmaa
open Go.RowKit
set_option linter.unusedSimpArgs false
set_option linter.unusedVariables false

set_option maxRecDepth 100000 in
set_option maxHeartbeats 800000 in
theorem get_bad (A : Option Addr) (n c : Nat) (bs : List Int) (W : World) (hn : n ≤ 100000) (h24 : 24 ≤ n) (hev : n % 2 = 0) (hr : Reads W W.heap.size 1 A n (u8s bs)) (hby : Bys bs) (hbad : ¬ wsum bs % 65535 = 0) :
    Calls Try.prog 12 #[.slice A n c] W (fun r w' => r = .returned (.tuple #[.agg #[i6 0, i6 0, i6 0, i6 0, i6 0, i6 0, i6 0, .slice none 0 0, .bool false, .bool false, .bool false, i6 0, .slice none 0 0, .slice none 0 0, .slice none 0 0, .slice none 0 0], .int .i64 5]) ∧ Below W.heap.size W w') := by
  have hS := S.start W
  refine calls_walk Try.func12 rfl fun R_ hR_ a hz hd hargs => ?_
  replace hz : a.tmps.size = 162 := hz.trans (by kernel_rfl)
  have s0 := hargs 0 _ rfl
  clear hargs
  refine wp_seq ?_
  refine seq_l [0] hz ?_
  refine ⟨fun a_ h_ => st_alloc (cells := #[i6 0, i6 0, i6 0, i6 0, i6 0, i6 0, i6 0, .slice none 0 0, .bool false, .bool false, .bool false, i6 0, .slice none 0 0, .slice none 0 0, .slice none 0 0, .slice none 0 0]) hS (on_none rfl) rfl (by kernel_rfl) fun g3 w3 hS3 hb3 => ⟨_, rfl, ?_⟩, trivial⟩
  clear h_ a_ hS
  clear hb3
  refine ⟨i6 0, fun _ h_ => rk (run_assign rfl rfl), ?_⟩
  intro a2 hput
  replace s0 := hput.o 0 s0
  have s2 : sl a2 2 = pt g3 0 := hput.new 0 2 rfl
  have s3 : sl a2 3 = i6 0 := hput.new 1 3 rfl
  replace hz := hput.size.trans hz
  replace hd := hput.defers.trans hd
  clear hput
  change Code.wp _ _ _ _ _
  refine wp_scope_jumps 0 (fun a_ w_ => a_.tmps.size = 162 ∧ a_.defers = [] ∧ sl a_ 2 = pt g3 0 ∧ sl a_ 8 = i6 5 ∧ S (kap W) ((blkA g3 31 #[i6 0, i6 0, i6 0, i6 0, i6 0, i6 0, i6 0, .slice none 0 0, .bool false, .bool false, .bool false, i6 0, .slice none 0 0, .slice none 0 0, .slice none 0 0, .slice none 0 0]) :: []) ((memA W W.heap.size) :: []) w_) (fun _ _ => 0) rfl ?_ ?_
  · refine wp_seq ?_
    refine seq_l [] hz ?_
    refine ⟨.pointer none, fun _ h_ => rk (run_assign rfl rfl), ?_⟩
    intro a4 hput
    replace s0 := hput.o 0 s0
    replace s2 := hput.o 2 s2
    replace s3 := hput.o 3 s3
    have s4 : sl a4 4 = .pointer none := hput.new 0 4 rfl
    replace hz := hput.size.trans hz
    replace hd := hput.defers.trans hd
    clear hput
    change Code.wp _ _ _ _ _
    refine wp_seq ?_
    refine seq_l [0] hz ?_
    refine ⟨fun a_ h_ => st_alloc (cells := #[.nilFunc, .nilFunc, .nilFunc, .nilFunc, .nilFunc, .nilFunc]) hS3 (on_none rfl) rfl (by kernel_rfl) fun g6 w6 hS6 hb6 => ⟨_, rfl, ?_⟩, trivial⟩
    clear h_ a_ hS3
    clear hb6
    intro a5 hput
    replace s0 := hput.o 0 s0
    replace s2 := hput.o 2 s2
    replace s3 := hput.o 3 s3
    replace s4 := hput.o 4 s4
    have s5 : sl a5 5 = pt g6 0 := hput.new 0 5 rfl
    replace hz := hput.size.trans hz
    replace hd := hput.defers.trans hd
    clear hput
    change Code.wp _ _ _ _ _
    refine wp_seq ?_
    refine seq_l [] hz ?_
    refine ⟨i6 0, fun _ h_ => rk (run_assign rfl rfl),
     i6 0, fun _ h_ => rk (run_assign rfl rfl),
     i6 3, fun _ h_ => rk (run_assign rfl rfl), ?_⟩
    intro a7 hput
    replace s0 := hput.o 0 s0
    replace s2 := hput.o 2 s2
    replace s3 := hput.o 3 s3
    replace s4 := hput.o 4 s4
    replace s5 := hput.o 5 s5
    have s6 : sl a7 6 = i6 0 := hput.new 0 6 rfl
    have s7 : sl a7 7 = i6 0 := hput.new 1 7 rfl
    have s8 : sl a7 8 = i6 3 := hput.new 2 8 rfl
    replace hz := hput.size.trans hz
    replace hd := hput.defers.trans hd
    clear hput
    change Code.wp _ _ _ _ _
    refine wp_seq ?_
    refine wp_seq ?_
    refine seq_l [] hz ?_
    refine ⟨.slice A n c, fun _ h_ => rmv (h_.b 0 s0),
     i6 n, fun _ h_ => rk (run_lenS rfl (h_.d 0 9) (by kernel_rfl)),
     .bool false, fun _ h_ => rk (run_cmp rfl (h_.d 1 10) rfl rfl (decide_eq_false (by omega))), ?_⟩
    intro a8 hput
    replace s0 := hput.o 0 s0
    replace s2 := hput.o 2 s2
    replace s3 := hput.o 3 s3
    replace s4 := hput.o 4 s4
    replace s5 := hput.o 5 s5
    replace s6 := hput.o 6 s6
    replace s7 := hput.o 7 s7
    replace s8 := hput.o 8 s8
    have s11 : sl a8 11 = .bool false := hput.new 2 11 rfl
    replace hz := hput.size.trans hz
    replace hd := hput.defers.trans hd
    clear hput
    change Code.wp _ _ _ _ _
    refine wp_cond_false s11 ?_
    refine wp_skip ?_
    change Code.wp _ _ _ _ _
    refine wp_seq ?_
    refine wp_seq ?_
    refine seq_l [] hz ?_
    refine ⟨i6 5, fun _ h_ => rk (run_assign rfl rfl), ?_⟩
    intro a9 hput
    replace s0 := hput.o 0 s0
    replace s2 := hput.o 2 s2
    replace s3 := hput.o 3 s3
    replace s4 := hput.o 4 s4
    replace s5 := hput.o 5 s5
    replace s6 := hput.o 6 s6
    replace s7 := hput.o 7 s7
    replace s8 : sl a9 8 = i6 5 := hput.new 0 8 rfl
    replace hz := hput.size.trans hz
    replace hd := hput.defers.trans hd
    clear hput s11
    change Code.wp _ _ _ _ _
    refine wp_seq ?_
    refine seq_l [1] hz ?_
    refine ⟨.slice A n c, fun _ h_ => rmv (h_.b 0 s0), ?_⟩
    refine ⟨fun a_ h_ => st_call (on_none rfl) (run_call rfl (map1 (h_.d 0 12)) rfl) (good_bad A n c bs _ hn hev (Reads.old hr (hS6.old (by simp))) hby hbad) ?_, trivial⟩
    rintro e w11 ⟨rfl, hb11⟩
    refine ⟨_, rfl, _, rfl, ?_⟩
    clear h_ a_
    have hS11 := hS6.below hb11
    clear hS6 hb11
    refine ⟨.bool true, fun _ h_ => rk (run_not rfl (h_.d 1 13) rfl), ?_⟩
    intro a10 hput
    replace s0 := hput.o 0 s0
    replace s2 := hput.o 2 s2
    replace s3 := hput.o 3 s3
    replace s4 := hput.o 4 s4
    replace s5 := hput.o 5 s5
    replace s6 := hput.o 6 s6
    replace s7 := hput.o 7 s7
    replace s8 := hput.o 8 s8
    have s14 : sl a10 14 = .bool true := hput.new 2 14 rfl
    replace hz := hput.size.trans hz
    replace hd := hput.defers.trans hd
    clear hput
    change Code.wp _ _ _ _ _
    refine wp_cond_true s14 ?_
    refine wp_goto ?_
    refine And.intro rfl ?_
    have hSd := hS11.drop
    exact ⟨hz, hd, s2, s8, hSd⟩
  · clear hz hd s0 s2 s3 hS3
    rintro a12 w12 ⟨hz, hd, s2, s8, hS12⟩
    refine wp_seq ?_
    refine wp_skip ?_
    change Code.wp _ _ _ _ _
    refine wp_seq ?_
    refine seq_l [2] hz ?_
    refine ⟨.agg #[i6 0, i6 0, i6 0, i6 0, i6 0, i6 0, i6 0, .slice none 0 0, .bool false, .bool false, .bool false, i6 0, .slice none 0 0, .slice none 0 0, .slice none 0 0, .slice none 0 0], fun _ h_ => rk (run_build (vals := #[]) (r := .agg #[i6 0, i6 0, i6 0, i6 0, i6 0, i6 0, i6 0, .slice none 0 0, .bool false, .bool false, .bool false, i6 0, .slice none 0 0, .slice none 0 0, .slice none 0 0, .slice none 0 0]) rfl (by simp) (by kernel_rfl)),
     i6 5, fun _ h_ => rmv (h_.b 8 s8), ?_⟩
    refine ⟨fun a_ h_ => st_store (n := 16) (cells := #[i6 0, i6 0, i6 0, i6 0, i6 0, i6 0, i6 0, .slice none 0 0, .bool false, .bool false, .bool false, i6 0, .slice none 0 0, .slice none 0 0, .slice none 0 0, .slice none 0 0]) (cs' := #[i6 0, i6 0, i6 0, i6 0, i6 0, i6 0, i6 0, .slice none 0 0, .bool false, .bool false, .bool false, i6 0, .slice none 0 0, .slice none 0 0, .slice none 0 0, .slice none 0 0]) 0 hS12 rfl (on_none rfl) rfl (h_.b 2 s2) (h_.d 0 160) rfl (by kernel_rfl) ⟨Nat.le_of_ble_eq_true rfl, rfl, by kernel_rfl⟩ rfl fun w14 hS14 he14 => ⟨_, rfl, ?_⟩, trivial⟩
    clear h_ a_ he14 hS12
    replace hS14 : S (kap W) ((blkA g3 31 #[i6 0, i6 0, i6 0, i6 0, i6 0, i6 0, i6 0, .slice none 0 0, .bool false, .bool false, .bool false, i6 0, .slice none 0 0, .slice none 0 0, .slice none 0 0, .slice none 0 0]) :: []) ((memA W W.heap.size) :: []) w14 := hS14
    refine ⟨i6 5, fun _ h_ => ras (h_.d 1 161), ?_⟩
    intro a13 hput
    replace s2 := hput.o 2 s2
    have s3 : sl a13 3 = i6 5 := hput.new 3 3 rfl
    replace hz := hput.size.trans hz
    replace hd := hput.defers.trans hd
    clear hput s8
    change Code.wp _ _ _ _ _
    refine wp_ret ?_
    refine retCT (P := Try.prog) (fn := Try.f12) hd s2 s3 (hS14.blk (i := 0) rfl) (hR_ _ _ ?_) Try.underlying31
    exact ⟨rfl, (hS14.old (by simp))⟩
end Go.Proofs.Ytdenfgnkbfbpmaa
