/-
  DERIVED. GIVEN WITH THE SEED: THE PROGRAM's TIES (one call each: nine closed facts by the kernel) AND EACH ROW's TIE, after the 31st guide's Derived/Test/Toyas{Tie, Card}.lean. No idea stands in it: it is a product of the set-up. Laid BY PROGRAM, IN A SANDBOX (cutbox-door.mjs). By AI agents, Wed Nov 11 2026. No macro, syntax, notation, axiom, sorry.
-/
import Derived.Test.YtehpdklphhmbgaaGreatDoorRows
import Derived.LaidByTextLater
import Derived.SevenTiedAt
import Derived.LaidSub
import Derived.LaidOnce
namespace Go.Proofs.YtehpdklphhmbgaaGreatDoor
open Go
set_option maxRecDepth 100000
theorem seatTie1 : Tryz.prog.laidByTextLater [("syndic/acks.table", Rows.laid_syndic_acks_table), ("syndic/near.rules", Rows.laid_syndic_near_rules)] [.data, .data] true :=
  Program.laidByTextLater_by_one 35 8 56 (by kernel_rfl) (by kernel_rfl) (by kernel_rfl) (by kernel_rfl) (by kernel_rfl) (by kernel_rfl) (fun _ _ => by kernel_rfl)
theorem noOwnUnsafe : Tryz.pinned.checked.prog.headLifts.contains "ownunsafe" = false := by kernel_rfl
theorem tie : Tryz.prog.laidByTextLater [("syndic/near.rules", Rows.laid_syndic_near_rules)] [.data] true :=
  Program.laidByTextLater.sub seatTie1 ["syndic/near.rules"] (by kernel_rfl) (by kernel_rfl)
theorem routerErrs_row_tie : Rows.routerErrsRow.laidByTextAt .later Tryz.pinned [.data] true :=
  OpenClaim.laidByTextAt_later rfl rfl tie noOwnUnsafe
theorem routerAlone_row_tie : Rows.routerAloneRow.laidByTextAt .later Tryz.pinned [.data] true :=
  OpenClaim.laidByTextAt_later rfl rfl tie noOwnUnsafe
theorem tie2 : Tryz.prog.laidByTextLater [("syndic/acks.table", Rows.laid_syndic_acks_table), ("syndic/near.rules", Rows.laid_syndic_near_rules)] [.data, .data] true :=
  Program.laidByTextLater.sub seatTie1 ["syndic/acks.table", "syndic/near.rules"] (by kernel_rfl) (by kernel_rfl)
theorem routerSame_row_tie : Rows.routerSameRow.laidByTextAt .later Tryz.pinned [.data, .data] true :=
  OpenClaim.laidByTextAt_later rfl rfl tie2 noOwnUnsafe
theorem routerDrops_row_tie : Rows.routerDropsRow.laidByTextAt .later Tryz.pinned [.data, .data] true :=
  OpenClaim.laidByTextAt_later rfl rfl tie2 noOwnUnsafe
theorem routerErrsUpto_row_tie : Rows.routerErrsUptoRow.laidByTextAt .later Tryz.pinned [.data] true :=
  OpenClaim.laidByTextAt_later rfl rfl tie noOwnUnsafe
theorem routerAloneUpto_row_tie : Rows.routerAloneUptoRow.laidByTextAt .later Tryz.pinned [.data] true :=
  OpenClaim.laidByTextAt_later rfl rfl tie noOwnUnsafe
theorem routerSameUpto_row_tie : Rows.routerSameUptoRow.laidByTextAt .later Tryz.pinned [.data, .data] true :=
  OpenClaim.laidByTextAt_later rfl rfl tie2 noOwnUnsafe
theorem routerDropsUpto_row_tie : Rows.routerDropsUptoRow.laidByTextAt .later Tryz.pinned [.data, .data] true :=
  OpenClaim.laidByTextAt_later rfl rfl tie2 noOwnUnsafe
end Go.Proofs.YtehpdklphhmbgaaGreatDoor
