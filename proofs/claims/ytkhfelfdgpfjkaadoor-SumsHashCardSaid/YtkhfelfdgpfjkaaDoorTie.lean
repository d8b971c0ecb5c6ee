/-
  DERIVED. GIVEN WITH THE SEED: THE PROGRAM's TIES (one call each: nine closed facts by the kernel) AND EACH ROW's TIE, after the 31st guide's Derived/Test/Toyas{Tie, Card}.lean. No idea stands in it: it is a product of the set-up. Laid BY PROGRAM, IN A SANDBOX (cutbox-door.mjs). By AI agents, Wed Nov 11 2026. No macro, syntax, notation, axiom, sorry.
-/
import Derived.Test.YtkhfelfdgpfjkaaDoorRows
import Derived.LaidByTextLater
import Derived.SevenTiedAt
import Derived.LaidSub
import Derived.LaidOnce
namespace Go.Proofs.YtkhfelfdgpfjkaaDoor
open Go
set_option maxRecDepth 100000
theorem seatTie1 : Tryd.prog.laidByTextLater [("usher/api.ErrArg", Rows.laid_usher_api_ErrArg), ("usher/api.ErrText", Rows.laid_usher_api_ErrText), ("usher/api.ErrMany", Rows.laid_usher_api_ErrMany), ("usher/api.ErrTwice", Rows.laid_usher_api_ErrTwice), ("usher/api.ErrScheme", Rows.laid_usher_api_ErrScheme), ("usher/api.ErrShort", Rows.laid_usher_api_ErrShort), ("usher/api.ErrDry", Rows.laid_usher_api_ErrDry), ("usher/api.ErrTaken", Rows.laid_usher_api_ErrTaken), ("usher/api.ErrFull", Rows.laid_usher_api_ErrFull), ("usher/api.ErrDead", Rows.laid_usher_api_ErrDead), ("usher/api.ErrLog", Rows.laid_usher_api_ErrLog), ("usher/api.ErrLost", Rows.laid_usher_api_ErrLost), ("usher/api.ErrDenied", Rows.laid_usher_api_ErrDenied), ("usher/sums.crcRows", Rows.laid_usher_sums_crcRows), ("usher/sums.firstWords", Rows.laid_usher_sums_firstWords), ("usher/sums.roundWords", Rows.laid_usher_sums_roundWords), ("usher/usherref1.first", Rows.laid_usher_usherref1_first), ("usher/usherref1.round", Rows.laid_usher_usherref1_round)] [.sentinel, .sentinel, .sentinel, .sentinel, .sentinel, .sentinel, .sentinel, .sentinel, .sentinel, .sentinel, .sentinel, .sentinel, .sentinel, .data, .data, .data, .data, .data] true :=
  Program.laidByTextLater_by_one 281 8 65 (by kernel_rfl) (by kernel_rfl) (by kernel_rfl) (by kernel_rfl) (by kernel_rfl) (by kernel_rfl) (fun _ _ => by kernel_rfl)
theorem noOwnUnsafe : Tryd.pinned.checked.prog.headLifts.contains "ownunsafe" = false := by kernel_rfl
theorem tie : Tryd.prog.laidByTextLater [("usher/sums.crcRows", Rows.laid_usher_sums_crcRows)] [.data] true :=
  Program.laidByTextLater.sub seatTie1 ["usher/sums.crcRows"] (by kernel_rfl) (by kernel_rfl)
theorem sumsCrc_row_tie : Rows.sumsCrcRow.laidByTextAt .later Tryd.pinned [.data] true :=
  OpenClaim.laidByTextAt_later rfl rfl tie noOwnUnsafe
theorem sumsMore_row_tie : Rows.sumsMoreRow.laidByTextAt .later Tryd.pinned [.data] true :=
  OpenClaim.laidByTextAt_later rfl rfl tie noOwnUnsafe
theorem sumsBurst_row_tie : Rows.sumsBurstRow.laidByTextAt .later Tryd.pinned [.data] true :=
  OpenClaim.laidByTextAt_later rfl rfl tie noOwnUnsafe
theorem sumsAffine_row_tie : Rows.sumsAffineRow.laidByTextAt .later Tryd.pinned [.data] true :=
  OpenClaim.laidByTextAt_later rfl rfl tie noOwnUnsafe
theorem tie2 : Tryd.prog.laidByTextLater [("usher/sums.firstWords", Rows.laid_usher_sums_firstWords), ("usher/sums.roundWords", Rows.laid_usher_sums_roundWords), ("usher/usherref1.first", Rows.laid_usher_usherref1_first), ("usher/usherref1.round", Rows.laid_usher_usherref1_round)] [.data, .data, .data, .data] true :=
  Program.laidByTextLater.sub seatTie1 ["usher/sums.firstWords", "usher/sums.roundWords", "usher/usherref1.first", "usher/usherref1.round"] (by kernel_rfl) (by kernel_rfl)
theorem sumsHash_row_tie : Rows.sumsHashRow.laidByTextAt .later Tryd.pinned [.data, .data, .data, .data] true :=
  OpenClaim.laidByTextAt_later rfl rfl tie2 noOwnUnsafe
theorem sumsSha_row_tie : Rows.sumsShaRow.laidByTextAt .later Tryd.pinned [.data, .data, .data, .data] true :=
  OpenClaim.laidByTextAt_later rfl rfl tie2 noOwnUnsafe
theorem sumsMac_row_tie : Rows.sumsMacRow.laidByTextAt .later Tryd.pinned [.data, .data, .data, .data] true :=
  OpenClaim.laidByTextAt_later rfl rfl tie2 noOwnUnsafe
theorem tie3 : Tryd.prog.laidByTextLater [("usher/sums.firstWords", Rows.laid_usher_sums_firstWords), ("usher/sums.roundWords", Rows.laid_usher_sums_roundWords)] [.data, .data] true :=
  Program.laidByTextLater.sub seatTie1 ["usher/sums.firstWords", "usher/sums.roundWords"] (by kernel_rfl) (by kernel_rfl)
theorem sumsMacIs_row_tie : Rows.sumsMacIsRow.laidByTextAt .later Tryd.pinned [.data, .data] true :=
  OpenClaim.laidByTextAt_later rfl rfl tie3 noOwnUnsafe
theorem sumsKeys_row_tie : Rows.sumsKeysRow.laidByTextAt .later Tryd.pinned [.data, .data] true :=
  OpenClaim.laidByTextAt_later rfl rfl tie3 noOwnUnsafe
theorem tie4 : Tryd.prog.laidByTextLater [("usher/api.ErrArg", Rows.laid_usher_api_ErrArg), ("usher/api.ErrText", Rows.laid_usher_api_ErrText), ("usher/api.ErrMany", Rows.laid_usher_api_ErrMany), ("usher/api.ErrTwice", Rows.laid_usher_api_ErrTwice), ("usher/api.ErrScheme", Rows.laid_usher_api_ErrScheme), ("usher/api.ErrShort", Rows.laid_usher_api_ErrShort), ("usher/api.ErrDry", Rows.laid_usher_api_ErrDry), ("usher/api.ErrTaken", Rows.laid_usher_api_ErrTaken), ("usher/api.ErrFull", Rows.laid_usher_api_ErrFull), ("usher/api.ErrDead", Rows.laid_usher_api_ErrDead), ("usher/api.ErrLog", Rows.laid_usher_api_ErrLog), ("usher/api.ErrLost", Rows.laid_usher_api_ErrLost), ("usher/api.ErrDenied", Rows.laid_usher_api_ErrDenied), ("usher/sums.firstWords", Rows.laid_usher_sums_firstWords), ("usher/sums.roundWords", Rows.laid_usher_sums_roundWords), ("usher/usherref1.first", Rows.laid_usher_usherref1_first), ("usher/usherref1.round", Rows.laid_usher_usherref1_round)] [.sentinel, .sentinel, .sentinel, .sentinel, .sentinel, .sentinel, .sentinel, .sentinel, .sentinel, .sentinel, .sentinel, .sentinel, .sentinel, .data, .data, .data, .data] true :=
  Program.laidByTextLater.sub seatTie1 ["usher/api.ErrArg", "usher/api.ErrText", "usher/api.ErrMany", "usher/api.ErrTwice", "usher/api.ErrScheme", "usher/api.ErrShort", "usher/api.ErrDry", "usher/api.ErrTaken", "usher/api.ErrFull", "usher/api.ErrDead", "usher/api.ErrLog", "usher/api.ErrLost", "usher/api.ErrDenied", "usher/sums.firstWords", "usher/sums.roundWords", "usher/usherref1.first", "usher/usherref1.round"] (by kernel_rfl) (by kernel_rfl)
theorem sumsStretch_row_tie : Rows.sumsStretchRow.laidByTextAt .later Tryd.pinned [.sentinel, .sentinel, .sentinel, .sentinel, .sentinel, .sentinel, .sentinel, .sentinel, .sentinel, .sentinel, .sentinel, .sentinel, .sentinel, .data, .data, .data, .data] true :=
  OpenClaim.laidByTextAt_later rfl rfl tie4 noOwnUnsafe
theorem tie5 : Tryd.prog.laidByTextLater [("usher/api.ErrArg", Rows.laid_usher_api_ErrArg), ("usher/api.ErrText", Rows.laid_usher_api_ErrText), ("usher/api.ErrMany", Rows.laid_usher_api_ErrMany), ("usher/api.ErrTwice", Rows.laid_usher_api_ErrTwice), ("usher/api.ErrScheme", Rows.laid_usher_api_ErrScheme), ("usher/api.ErrShort", Rows.laid_usher_api_ErrShort), ("usher/api.ErrDry", Rows.laid_usher_api_ErrDry), ("usher/api.ErrTaken", Rows.laid_usher_api_ErrTaken), ("usher/api.ErrFull", Rows.laid_usher_api_ErrFull), ("usher/api.ErrDead", Rows.laid_usher_api_ErrDead), ("usher/api.ErrLog", Rows.laid_usher_api_ErrLog), ("usher/api.ErrLost", Rows.laid_usher_api_ErrLost), ("usher/api.ErrDenied", Rows.laid_usher_api_ErrDenied), ("usher/sums.firstWords", Rows.laid_usher_sums_firstWords), ("usher/sums.roundWords", Rows.laid_usher_sums_roundWords)] [.sentinel, .sentinel, .sentinel, .sentinel, .sentinel, .sentinel, .sentinel, .sentinel, .sentinel, .sentinel, .sentinel, .sentinel, .sentinel, .data, .data] true :=
  Program.laidByTextLater.sub seatTie1 ["usher/api.ErrArg", "usher/api.ErrText", "usher/api.ErrMany", "usher/api.ErrTwice", "usher/api.ErrScheme", "usher/api.ErrShort", "usher/api.ErrDry", "usher/api.ErrTaken", "usher/api.ErrFull", "usher/api.ErrDead", "usher/api.ErrLog", "usher/api.ErrLost", "usher/api.ErrDenied", "usher/sums.firstWords", "usher/sums.roundWords"] (by kernel_rfl) (by kernel_rfl)
theorem sumsFold_row_tie : Rows.sumsFoldRow.laidByTextAt .later Tryd.pinned [.sentinel, .sentinel, .sentinel, .sentinel, .sentinel, .sentinel, .sentinel, .sentinel, .sentinel, .sentinel, .sentinel, .sentinel, .sentinel, .data, .data] true :=
  OpenClaim.laidByTextAt_later rfl rfl tie5 noOwnUnsafe
theorem sumsCrcUpto_row_tie : Rows.sumsCrcUptoRow.laidByTextAt .later Tryd.pinned [.data] true :=
  OpenClaim.laidByTextAt_later rfl rfl tie noOwnUnsafe
theorem sumsMoreUpto_row_tie : Rows.sumsMoreUptoRow.laidByTextAt .later Tryd.pinned [.data] true :=
  OpenClaim.laidByTextAt_later rfl rfl tie noOwnUnsafe
theorem sumsBurstUpto_row_tie : Rows.sumsBurstUptoRow.laidByTextAt .later Tryd.pinned [.data] true :=
  OpenClaim.laidByTextAt_later rfl rfl tie noOwnUnsafe
theorem sumsAffineUpto_row_tie : Rows.sumsAffineUptoRow.laidByTextAt .later Tryd.pinned [.data] true :=
  OpenClaim.laidByTextAt_later rfl rfl tie noOwnUnsafe
theorem sumsHashUpto_row_tie : Rows.sumsHashUptoRow.laidByTextAt .later Tryd.pinned [.data, .data, .data, .data] true :=
  OpenClaim.laidByTextAt_later rfl rfl tie2 noOwnUnsafe
theorem sumsShaUpto_row_tie : Rows.sumsShaUptoRow.laidByTextAt .later Tryd.pinned [.data, .data, .data, .data] true :=
  OpenClaim.laidByTextAt_later rfl rfl tie2 noOwnUnsafe
theorem sumsMacUpto_row_tie : Rows.sumsMacUptoRow.laidByTextAt .later Tryd.pinned [.data, .data, .data, .data] true :=
  OpenClaim.laidByTextAt_later rfl rfl tie2 noOwnUnsafe
theorem sumsMacIsUpto_row_tie : Rows.sumsMacIsUptoRow.laidByTextAt .later Tryd.pinned [.data, .data] true :=
  OpenClaim.laidByTextAt_later rfl rfl tie3 noOwnUnsafe
theorem sumsKeysUpto_row_tie : Rows.sumsKeysUptoRow.laidByTextAt .later Tryd.pinned [.data, .data] true :=
  OpenClaim.laidByTextAt_later rfl rfl tie3 noOwnUnsafe
theorem sumsStretchUpto_row_tie : Rows.sumsStretchUptoRow.laidByTextAt .later Tryd.pinned [.sentinel, .sentinel, .sentinel, .sentinel, .sentinel, .sentinel, .sentinel, .sentinel, .sentinel, .sentinel, .sentinel, .sentinel, .sentinel, .data, .data, .data, .data] true :=
  OpenClaim.laidByTextAt_later rfl rfl tie4 noOwnUnsafe
theorem sumsFoldUpto_row_tie : Rows.sumsFoldUptoRow.laidByTextAt .later Tryd.pinned [.sentinel, .sentinel, .sentinel, .sentinel, .sentinel, .sentinel, .sentinel, .sentinel, .sentinel, .sentinel, .sentinel, .sentinel, .sentinel, .data, .data] true :=
  OpenClaim.laidByTextAt_later rfl rfl tie5 noOwnUnsafe
end Go.Proofs.YtkhfelfdgpfjkaaDoor
