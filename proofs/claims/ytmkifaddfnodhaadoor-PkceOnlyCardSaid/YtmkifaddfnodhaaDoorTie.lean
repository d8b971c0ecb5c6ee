/-
  DERIVED. GIVEN WITH THE SEED: THE PROGRAM's TIES (one call each: nine closed facts by the kernel) AND EACH ROW's TIE, after the 31st guide's Derived/Test/Toyas{Tie, Card}.lean. No idea stands in it: it is a product of the set-up. Laid BY PROGRAM, IN A SANDBOX (cutbox-door.mjs). By AI agents, Wed Nov 11 2026. No macro, syntax, notation, axiom, sorry.
-/
import Derived.Test.YtmkifaddfnodhaaDoorRows
import Derived.LaidByTextLater
import Derived.SevenTiedAt
import Derived.LaidSub
import Derived.LaidOnce
namespace Go.Proofs.YtmkifaddfnodhaaDoor
open Go
set_option maxRecDepth 100000
theorem seatTie1 : Tryd.prog.laidByTextLater [("usher/api.ErrArg", Rows.laid_usher_api_ErrArg), ("usher/api.ErrText", Rows.laid_usher_api_ErrText), ("usher/api.ErrMany", Rows.laid_usher_api_ErrMany), ("usher/api.ErrTwice", Rows.laid_usher_api_ErrTwice), ("usher/api.ErrScheme", Rows.laid_usher_api_ErrScheme), ("usher/api.ErrShort", Rows.laid_usher_api_ErrShort), ("usher/api.ErrDry", Rows.laid_usher_api_ErrDry), ("usher/api.ErrTaken", Rows.laid_usher_api_ErrTaken), ("usher/api.ErrFull", Rows.laid_usher_api_ErrFull), ("usher/api.ErrDead", Rows.laid_usher_api_ErrDead), ("usher/api.ErrLog", Rows.laid_usher_api_ErrLog), ("usher/api.ErrLost", Rows.laid_usher_api_ErrLost), ("usher/api.ErrDenied", Rows.laid_usher_api_ErrDenied), ("usher/radix.hexDigits", Rows.laid_usher_radix_hexDigits), ("usher/sums.firstWords", Rows.laid_usher_sums_firstWords), ("usher/sums.roundWords", Rows.laid_usher_sums_roundWords), ("usher/pkce.unreserved", Rows.laid_usher_pkce_unreserved), ("usher/usherref1.first", Rows.laid_usher_usherref1_first), ("usher/usherref1.round", Rows.laid_usher_usherref1_round)] [.sentinel, .sentinel, .sentinel, .sentinel, .sentinel, .sentinel, .sentinel, .sentinel, .sentinel, .sentinel, .sentinel, .sentinel, .sentinel, .data, .data, .data, .data, .data, .data] true :=
  Program.laidByTextLater_by_one 286 8 65 (by kernel_rfl) (by kernel_rfl) (by kernel_rfl) (by kernel_rfl) (by kernel_rfl) (by kernel_rfl) (fun _ _ => by kernel_rfl)
theorem noOwnUnsafe : Tryd.pinned.checked.prog.headLifts.contains "ownunsafe" = false := by kernel_rfl
theorem tie : Tryd.prog.laidByTextLater [("usher/api.ErrArg", Rows.laid_usher_api_ErrArg), ("usher/api.ErrText", Rows.laid_usher_api_ErrText), ("usher/api.ErrMany", Rows.laid_usher_api_ErrMany), ("usher/api.ErrTwice", Rows.laid_usher_api_ErrTwice), ("usher/api.ErrScheme", Rows.laid_usher_api_ErrScheme), ("usher/api.ErrShort", Rows.laid_usher_api_ErrShort), ("usher/api.ErrDry", Rows.laid_usher_api_ErrDry), ("usher/api.ErrTaken", Rows.laid_usher_api_ErrTaken), ("usher/api.ErrFull", Rows.laid_usher_api_ErrFull), ("usher/api.ErrDead", Rows.laid_usher_api_ErrDead), ("usher/api.ErrLog", Rows.laid_usher_api_ErrLog), ("usher/api.ErrLost", Rows.laid_usher_api_ErrLost), ("usher/api.ErrDenied", Rows.laid_usher_api_ErrDenied), ("usher/radix.hexDigits", Rows.laid_usher_radix_hexDigits), ("usher/sums.firstWords", Rows.laid_usher_sums_firstWords), ("usher/sums.roundWords", Rows.laid_usher_sums_roundWords)] [.sentinel, .sentinel, .sentinel, .sentinel, .sentinel, .sentinel, .sentinel, .sentinel, .sentinel, .sentinel, .sentinel, .sentinel, .sentinel, .data, .data, .data] true :=
  Program.laidByTextLater.sub seatTie1 ["usher/api.ErrArg", "usher/api.ErrText", "usher/api.ErrMany", "usher/api.ErrTwice", "usher/api.ErrScheme", "usher/api.ErrShort", "usher/api.ErrDry", "usher/api.ErrTaken", "usher/api.ErrFull", "usher/api.ErrDead", "usher/api.ErrLog", "usher/api.ErrLost", "usher/api.ErrDenied", "usher/radix.hexDigits", "usher/sums.firstWords", "usher/sums.roundWords"] (by kernel_rfl) (by kernel_rfl)
theorem radixDigest_row_tie : Rows.radixDigestRow.laidByTextAt .later Tryd.pinned [.sentinel, .sentinel, .sentinel, .sentinel, .sentinel, .sentinel, .sentinel, .sentinel, .sentinel, .sentinel, .sentinel, .sentinel, .sentinel, .data, .data, .data] true :=
  OpenClaim.laidByTextAt_later rfl rfl tie noOwnUnsafe
theorem tie2 : Tryd.prog.laidByTextLater [("usher/sums.firstWords", Rows.laid_usher_sums_firstWords), ("usher/sums.roundWords", Rows.laid_usher_sums_roundWords), ("usher/usherref1.first", Rows.laid_usher_usherref1_first), ("usher/usherref1.round", Rows.laid_usher_usherref1_round)] [.data, .data, .data, .data] true :=
  Program.laidByTextLater.sub seatTie1 ["usher/sums.firstWords", "usher/sums.roundWords", "usher/usherref1.first", "usher/usherref1.round"] (by kernel_rfl) (by kernel_rfl)
theorem pkceS256_row_tie : Rows.pkceS256Row.laidByTextAt .later Tryd.pinned [.data, .data, .data, .data] true :=
  OpenClaim.laidByTextAt_later rfl rfl tie2 noOwnUnsafe
theorem tie3 : Tryd.prog.laidByTextLater [("usher/api.ErrArg", Rows.laid_usher_api_ErrArg), ("usher/api.ErrText", Rows.laid_usher_api_ErrText), ("usher/api.ErrMany", Rows.laid_usher_api_ErrMany), ("usher/api.ErrTwice", Rows.laid_usher_api_ErrTwice), ("usher/api.ErrScheme", Rows.laid_usher_api_ErrScheme), ("usher/api.ErrShort", Rows.laid_usher_api_ErrShort), ("usher/api.ErrDry", Rows.laid_usher_api_ErrDry), ("usher/api.ErrTaken", Rows.laid_usher_api_ErrTaken), ("usher/api.ErrFull", Rows.laid_usher_api_ErrFull), ("usher/api.ErrDead", Rows.laid_usher_api_ErrDead), ("usher/api.ErrLog", Rows.laid_usher_api_ErrLog), ("usher/api.ErrLost", Rows.laid_usher_api_ErrLost), ("usher/api.ErrDenied", Rows.laid_usher_api_ErrDenied), ("usher/sums.firstWords", Rows.laid_usher_sums_firstWords), ("usher/sums.roundWords", Rows.laid_usher_sums_roundWords), ("usher/usherref1.first", Rows.laid_usher_usherref1_first), ("usher/usherref1.round", Rows.laid_usher_usherref1_round)] [.sentinel, .sentinel, .sentinel, .sentinel, .sentinel, .sentinel, .sentinel, .sentinel, .sentinel, .sentinel, .sentinel, .sentinel, .sentinel, .data, .data, .data, .data] true :=
  Program.laidByTextLater.sub seatTie1 ["usher/api.ErrArg", "usher/api.ErrText", "usher/api.ErrMany", "usher/api.ErrTwice", "usher/api.ErrScheme", "usher/api.ErrShort", "usher/api.ErrDry", "usher/api.ErrTaken", "usher/api.ErrFull", "usher/api.ErrDead", "usher/api.ErrLog", "usher/api.ErrLost", "usher/api.ErrDenied", "usher/sums.firstWords", "usher/sums.roundWords", "usher/usherref1.first", "usher/usherref1.round"] (by kernel_rfl) (by kernel_rfl)
theorem pkceSeal_row_tie : Rows.pkceSealRow.laidByTextAt .later Tryd.pinned [.sentinel, .sentinel, .sentinel, .sentinel, .sentinel, .sentinel, .sentinel, .sentinel, .sentinel, .sentinel, .sentinel, .sentinel, .sentinel, .data, .data, .data, .data] true :=
  OpenClaim.laidByTextAt_later rfl rfl tie3 noOwnUnsafe
theorem tie4 : Tryd.prog.laidByTextLater [("usher/api.ErrArg", Rows.laid_usher_api_ErrArg), ("usher/sums.firstWords", Rows.laid_usher_sums_firstWords), ("usher/sums.roundWords", Rows.laid_usher_sums_roundWords), ("usher/usherref1.first", Rows.laid_usher_usherref1_first), ("usher/usherref1.round", Rows.laid_usher_usherref1_round)] [.sentinel, .data, .data, .data, .data] true :=
  Program.laidByTextLater.sub seatTie1 ["usher/api.ErrArg", "usher/sums.firstWords", "usher/sums.roundWords", "usher/usherref1.first", "usher/usherref1.round"] (by kernel_rfl) (by kernel_rfl)
theorem pkcePassword_row_tie : Rows.pkcePasswordRow.laidByTextAt .later Tryd.pinned [.sentinel, .data, .data, .data, .data] true :=
  OpenClaim.laidByTextAt_later rfl rfl tie4 noOwnUnsafe
theorem tie5 : Tryd.prog.laidByTextLater [("usher/api.ErrArg", Rows.laid_usher_api_ErrArg), ("usher/sums.firstWords", Rows.laid_usher_sums_firstWords), ("usher/sums.roundWords", Rows.laid_usher_sums_roundWords)] [.sentinel, .data, .data] true :=
  Program.laidByTextLater.sub seatTie1 ["usher/api.ErrArg", "usher/sums.firstWords", "usher/sums.roundWords"] (by kernel_rfl) (by kernel_rfl)
theorem pkceOpens_row_tie : Rows.pkceOpensRow.laidByTextAt .later Tryd.pinned [.sentinel, .data, .data] true :=
  OpenClaim.laidByTextAt_later rfl rfl tie5 noOwnUnsafe
theorem tie6 : Tryd.prog.laidByTextLater [("usher/sums.firstWords", Rows.laid_usher_sums_firstWords), ("usher/sums.roundWords", Rows.laid_usher_sums_roundWords), ("usher/pkce.unreserved", Rows.laid_usher_pkce_unreserved), ("usher/usherref1.first", Rows.laid_usher_usherref1_first), ("usher/usherref1.round", Rows.laid_usher_usherref1_round)] [.data, .data, .data, .data, .data] true :=
  Program.laidByTextLater.sub seatTie1 ["usher/sums.firstWords", "usher/sums.roundWords", "usher/pkce.unreserved", "usher/usherref1.first", "usher/usherref1.round"] (by kernel_rfl) (by kernel_rfl)
theorem pkceMatch_row_tie : Rows.pkceMatchRow.laidByTextAt .later Tryd.pinned [.data, .data, .data, .data, .data] true :=
  OpenClaim.laidByTextAt_later rfl rfl tie6 noOwnUnsafe
theorem tie7 : Tryd.prog.laidByTextLater [("usher/sums.firstWords", Rows.laid_usher_sums_firstWords), ("usher/sums.roundWords", Rows.laid_usher_sums_roundWords), ("usher/pkce.unreserved", Rows.laid_usher_pkce_unreserved)] [.data, .data, .data] true :=
  Program.laidByTextLater.sub seatTie1 ["usher/sums.firstWords", "usher/sums.roundWords", "usher/pkce.unreserved"] (by kernel_rfl) (by kernel_rfl)
theorem pkceOnly_row_tie : Rows.pkceOnlyRow.laidByTextAt .later Tryd.pinned [.data, .data, .data] true :=
  OpenClaim.laidByTextAt_later rfl rfl tie7 noOwnUnsafe
theorem tie8 : Tryd.prog.laidByTextLater [("usher/api.ErrText", Rows.laid_usher_api_ErrText), ("usher/sums.firstWords", Rows.laid_usher_sums_firstWords), ("usher/sums.roundWords", Rows.laid_usher_sums_roundWords), ("usher/pkce.unreserved", Rows.laid_usher_pkce_unreserved)] [.sentinel, .data, .data, .data] true :=
  Program.laidByTextLater.sub seatTie1 ["usher/api.ErrText", "usher/sums.firstWords", "usher/sums.roundWords", "usher/pkce.unreserved"] (by kernel_rfl) (by kernel_rfl)
theorem pkceBound_row_tie : Rows.pkceBoundRow.laidByTextAt .later Tryd.pinned [.sentinel, .data, .data, .data] true :=
  OpenClaim.laidByTextAt_later rfl rfl tie8 noOwnUnsafe
theorem radixDigestUpto_row_tie : Rows.radixDigestUptoRow.laidByTextAt .later Tryd.pinned [.sentinel, .sentinel, .sentinel, .sentinel, .sentinel, .sentinel, .sentinel, .sentinel, .sentinel, .sentinel, .sentinel, .sentinel, .sentinel, .data, .data, .data] true :=
  OpenClaim.laidByTextAt_later rfl rfl tie noOwnUnsafe
theorem pkceS256Upto_row_tie : Rows.pkceS256UptoRow.laidByTextAt .later Tryd.pinned [.data, .data, .data, .data] true :=
  OpenClaim.laidByTextAt_later rfl rfl tie2 noOwnUnsafe
theorem pkceSealUpto_row_tie : Rows.pkceSealUptoRow.laidByTextAt .later Tryd.pinned [.sentinel, .sentinel, .sentinel, .sentinel, .sentinel, .sentinel, .sentinel, .sentinel, .sentinel, .sentinel, .sentinel, .sentinel, .sentinel, .data, .data, .data, .data] true :=
  OpenClaim.laidByTextAt_later rfl rfl tie3 noOwnUnsafe
theorem pkcePasswordUpto_row_tie : Rows.pkcePasswordUptoRow.laidByTextAt .later Tryd.pinned [.sentinel, .data, .data, .data, .data] true :=
  OpenClaim.laidByTextAt_later rfl rfl tie4 noOwnUnsafe
theorem pkceOpensUpto_row_tie : Rows.pkceOpensUptoRow.laidByTextAt .later Tryd.pinned [.sentinel, .data, .data] true :=
  OpenClaim.laidByTextAt_later rfl rfl tie5 noOwnUnsafe
theorem pkceMatchUpto_row_tie : Rows.pkceMatchUptoRow.laidByTextAt .later Tryd.pinned [.data, .data, .data, .data, .data] true :=
  OpenClaim.laidByTextAt_later rfl rfl tie6 noOwnUnsafe
theorem pkceOnlyUpto_row_tie : Rows.pkceOnlyUptoRow.laidByTextAt .later Tryd.pinned [.data, .data, .data] true :=
  OpenClaim.laidByTextAt_later rfl rfl tie7 noOwnUnsafe
theorem pkceBoundUpto_row_tie : Rows.pkceBoundUptoRow.laidByTextAt .later Tryd.pinned [.sentinel, .data, .data, .data] true :=
  OpenClaim.laidByTextAt_later rfl rfl tie8 noOwnUnsafe
end Go.Proofs.YtmkifaddfnodhaaDoor
