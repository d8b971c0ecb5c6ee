/-
  NARROWER THAN 'FOR EVERY INPUT', by the rows' own cells (each row's printed sentence says how): RadixDigest: laid · PkceS256: laid · PkceSeal: laid · PkcePassword: laid · PkceOpens: laid · PkceMatch: laid · PkceOnly: laid · PkceBound: laid.
  DERIVED. THE GIVEN ROWS OF THIS SEAT. 8 by the template 'for every input the law returns true; each argument reads behind the call as it read before'; 0 by the template 'total and deterministic' (their statements: YtmkifaddfnodhaaDoorTotals.lean).
  GIVEN WITH THE SEED: the statements are not yours to turn. If you find one false, say at which input.
  Laid BY PROGRAM, IN A SANDBOX (cutbox-rows.mjs): the forced cells as the released guide's own fill.sh prints them over the translation 8b5d3f73203115dc… (all of the seat's roots in one cut). By AI agents, Wed Nov 11 2026. No macro, syntax, notation, axiom, sorry.
-/
import Derived.Test.YtmkifaddfnodhaaDoorChecked
import GoSem.Claim
import GoSem.ClaimJoined
import GoSem.ClaimMapViews
import Derived.JoinedTies
import Derived.KernelRfl
namespace Go.Proofs.YtmkifaddfnodhaaDoor
/- THE CELL 'sum', in the pinned program and in every row, IS THE sha256 OF THE DUMP (.gsa) THAT YtmkifaddfnodhaaDoorProg.lean LOADS. Nothing in Lean hashes anything: it is a label: what it is worth is what the hold of that sum in a sandbox is worth. -/
noncomputable def Tryd.pinned : Pinned := { name := "ytmkifaddfnodhaadoor", sum := "8b5d3f73203115dc32efac874e5892f148a4f042fa4a511a05faf28b7b57ed2c", checked := Tryd.checked }
namespace Rows
def none {H : Type} : Left H := { results := [], args := [] }

/- WHAT THE LISTED PACKAGE-LEVEL VARIABLES READ AS WHEN THE CALL BEGINS. Each datum BY PROGRAM (the guide's laid-datum.mjs) off the statement by which the dump's own 'gosem.cut.vars' lays the variable. In a bare row this is a premise. The card (YtmkifaddfnodhaaDoorCards.lean) ties it to the program's text. -/
def laid_usher_api_ErrArg {H : Type} : DataW H := .iface "*errors.errorString" (.ptr (.agg [.lit (.string [97, 114, 103, 117, 109, 101, 110, 116])]))
def laid_usher_api_ErrText {H : Type} : DataW H := .iface "*errors.errorString" (.ptr (.agg [.lit (.string [116, 101, 120, 116])]))
def laid_usher_api_ErrMany {H : Type} : DataW H := .iface "*errors.errorString" (.ptr (.agg [.lit (.string [109, 97, 110, 121])]))
def laid_usher_api_ErrTwice {H : Type} : DataW H := .iface "*errors.errorString" (.ptr (.agg [.lit (.string [116, 119, 105, 99, 101])]))
def laid_usher_api_ErrScheme {H : Type} : DataW H := .iface "*errors.errorString" (.ptr (.agg [.lit (.string [115, 99, 104, 101, 109, 101])]))
def laid_usher_api_ErrShort {H : Type} : DataW H := .iface "*errors.errorString" (.ptr (.agg [.lit (.string [115, 104, 111, 114, 116])]))
def laid_usher_api_ErrDry {H : Type} : DataW H := .iface "*errors.errorString" (.ptr (.agg [.lit (.string [100, 114, 121])]))
def laid_usher_api_ErrTaken {H : Type} : DataW H := .iface "*errors.errorString" (.ptr (.agg [.lit (.string [116, 97, 107, 101, 110])]))
def laid_usher_api_ErrFull {H : Type} : DataW H := .iface "*errors.errorString" (.ptr (.agg [.lit (.string [102, 117, 108, 108])]))
def laid_usher_api_ErrDead {H : Type} : DataW H := .iface "*errors.errorString" (.ptr (.agg [.lit (.string [100, 101, 97, 100])]))
def laid_usher_api_ErrLog {H : Type} : DataW H := .iface "*errors.errorString" (.ptr (.agg [.lit (.string [108, 111, 103])]))
def laid_usher_api_ErrLost {H : Type} : DataW H := .iface "*errors.errorString" (.ptr (.agg [.lit (.string [108, 111, 115, 116])]))
def laid_usher_api_ErrDenied {H : Type} : DataW H := .iface "*errors.errorString" (.ptr (.agg [.lit (.string [100, 101, 110, 105, 101, 100])]))
def laid_usher_radix_hexDigits {H : Type} : DataW H := .agg [.lit (.int .u8 48), .lit (.int .u8 49), .lit (.int .u8 50), .lit (.int .u8 51), .lit (.int .u8 52), .lit (.int .u8 53), .lit (.int .u8 54), .lit (.int .u8 55), .lit (.int .u8 56), .lit (.int .u8 57), .lit (.int .u8 97), .lit (.int .u8 98), .lit (.int .u8 99), .lit (.int .u8 100), .lit (.int .u8 101), .lit (.int .u8 102)]
def laid_usher_sums_firstWords {H : Type} : DataW H := .agg [.lit (.int .u32 1779033703), .lit (.int .u32 3144134277), .lit (.int .u32 1013904242), .lit (.int .u32 2773480762), .lit (.int .u32 1359893119), .lit (.int .u32 2600822924), .lit (.int .u32 528734635), .lit (.int .u32 1541459225)]
def laid_usher_sums_roundWords {H : Type} : DataW H := .agg [.lit (.int .u32 1116352408), .lit (.int .u32 1899447441), .lit (.int .u32 3049323471), .lit (.int .u32 3921009573), .lit (.int .u32 961987163), .lit (.int .u32 1508970993), .lit (.int .u32 2453635748), .lit (.int .u32 2870763221), .lit (.int .u32 3624381080), .lit (.int .u32 310598401), .lit (.int .u32 607225278), .lit (.int .u32 1426881987), .lit (.int .u32 1925078388), .lit (.int .u32 2162078206), .lit (.int .u32 2614888103), .lit (.int .u32 3248222580), .lit (.int .u32 3835390401), .lit (.int .u32 4022224774), .lit (.int .u32 264347078), .lit (.int .u32 604807628), .lit (.int .u32 770255983), .lit (.int .u32 1249150122), .lit (.int .u32 1555081692), .lit (.int .u32 1996064986), .lit (.int .u32 2554220882), .lit (.int .u32 2821834349), .lit (.int .u32 2952996808), .lit (.int .u32 3210313671), .lit (.int .u32 3336571891), .lit (.int .u32 3584528711), .lit (.int .u32 113926993), .lit (.int .u32 338241895), .lit (.int .u32 666307205), .lit (.int .u32 773529912), .lit (.int .u32 1294757372), .lit (.int .u32 1396182291), .lit (.int .u32 1695183700), .lit (.int .u32 1986661051), .lit (.int .u32 2177026350), .lit (.int .u32 2456956037), .lit (.int .u32 2730485921), .lit (.int .u32 2820302411), .lit (.int .u32 3259730800), .lit (.int .u32 3345764771), .lit (.int .u32 3516065817), .lit (.int .u32 3600352804), .lit (.int .u32 4094571909), .lit (.int .u32 275423344), .lit (.int .u32 430227734), .lit (.int .u32 506948616), .lit (.int .u32 659060556), .lit (.int .u32 883997877), .lit (.int .u32 958139571), .lit (.int .u32 1322822218), .lit (.int .u32 1537002063), .lit (.int .u32 1747873779), .lit (.int .u32 1955562222), .lit (.int .u32 2024104815), .lit (.int .u32 2227730452), .lit (.int .u32 2361852424), .lit (.int .u32 2428436474), .lit (.int .u32 2756734187), .lit (.int .u32 3204031479), .lit (.int .u32 3329325298)]
def laid_usher_usherref1_first {H : Type} : DataW H := .agg [.lit (.int .u32 1779033703), .lit (.int .u32 3144134277), .lit (.int .u32 1013904242), .lit (.int .u32 2773480762), .lit (.int .u32 1359893119), .lit (.int .u32 2600822924), .lit (.int .u32 528734635), .lit (.int .u32 1541459225)]
def laid_usher_usherref1_round {H : Type} : DataW H := .agg [.lit (.int .u32 1116352408), .lit (.int .u32 1899447441), .lit (.int .u32 3049323471), .lit (.int .u32 3921009573), .lit (.int .u32 961987163), .lit (.int .u32 1508970993), .lit (.int .u32 2453635748), .lit (.int .u32 2870763221), .lit (.int .u32 3624381080), .lit (.int .u32 310598401), .lit (.int .u32 607225278), .lit (.int .u32 1426881987), .lit (.int .u32 1925078388), .lit (.int .u32 2162078206), .lit (.int .u32 2614888103), .lit (.int .u32 3248222580), .lit (.int .u32 3835390401), .lit (.int .u32 4022224774), .lit (.int .u32 264347078), .lit (.int .u32 604807628), .lit (.int .u32 770255983), .lit (.int .u32 1249150122), .lit (.int .u32 1555081692), .lit (.int .u32 1996064986), .lit (.int .u32 2554220882), .lit (.int .u32 2821834349), .lit (.int .u32 2952996808), .lit (.int .u32 3210313671), .lit (.int .u32 3336571891), .lit (.int .u32 3584528711), .lit (.int .u32 113926993), .lit (.int .u32 338241895), .lit (.int .u32 666307205), .lit (.int .u32 773529912), .lit (.int .u32 1294757372), .lit (.int .u32 1396182291), .lit (.int .u32 1695183700), .lit (.int .u32 1986661051), .lit (.int .u32 2177026350), .lit (.int .u32 2456956037), .lit (.int .u32 2730485921), .lit (.int .u32 2820302411), .lit (.int .u32 3259730800), .lit (.int .u32 3345764771), .lit (.int .u32 3516065817), .lit (.int .u32 3600352804), .lit (.int .u32 4094571909), .lit (.int .u32 275423344), .lit (.int .u32 430227734), .lit (.int .u32 506948616), .lit (.int .u32 659060556), .lit (.int .u32 883997877), .lit (.int .u32 958139571), .lit (.int .u32 1322822218), .lit (.int .u32 1537002063), .lit (.int .u32 1747873779), .lit (.int .u32 1955562222), .lit (.int .u32 2024104815), .lit (.int .u32 2227730452), .lit (.int .u32 2361852424), .lit (.int .u32 2428436474), .lit (.int .u32 2756734187), .lit (.int .u32 3204031479), .lit (.int .u32 3329325298)]
def laid_usher_pkce_unreserved {H : Type} : DataW H := .agg [.lit (.int .u32 0), .lit (.int .u32 67067904), .lit (.int .u32 2281701374), .lit (.int .u32 1207959550), .lit (.int .u32 0), .lit (.int .u32 0), .lit (.int .u32 0), .lit (.int .u32 0)]

/-- 'usherlaw2.RadixDigest': WHATEVER THE INPUT: true; the input reads as it did. -/
def radixDigestSpec : ChangeSpec := { name := "radixDigest", fn := fun _ => fun
  | [d] => { results := [.lit (.bool true)], args := [d] }
  | _ => none }
def radixDigestRow : OpenClaim := { program := "ytmkifaddfnodhaadoor", sum := "8b5d3f73203115dc32efac874e5892f148a4f042fa4a511a05faf28b7b57ed2c", func := "usher/usherlaw2.RadixDigest", spec := "radixDigest", inPlace := ["internal/abi.NoEscape"], named := ["usher/api.ErrText", "usher/sums.firstWords", "usher/sums.roundWords", "usher/radix.hexDigits", "usher/api.ErrArg", "usher/api.ErrMany", "usher/api.ErrTwice", "usher/api.ErrScheme", "usher/api.ErrShort", "usher/api.ErrDry", "usher/api.ErrTaken", "usher/api.ErrFull", "usher/api.ErrDead", "usher/api.ErrLog", "usher/api.ErrLost", "usher/api.ErrDenied"], apart := false, laid := [("usher/api.ErrArg", laid_usher_api_ErrArg), ("usher/api.ErrText", laid_usher_api_ErrText), ("usher/api.ErrMany", laid_usher_api_ErrMany), ("usher/api.ErrTwice", laid_usher_api_ErrTwice), ("usher/api.ErrScheme", laid_usher_api_ErrScheme), ("usher/api.ErrShort", laid_usher_api_ErrShort), ("usher/api.ErrDry", laid_usher_api_ErrDry), ("usher/api.ErrTaken", laid_usher_api_ErrTaken), ("usher/api.ErrFull", laid_usher_api_ErrFull), ("usher/api.ErrDead", laid_usher_api_ErrDead), ("usher/api.ErrLog", laid_usher_api_ErrLog), ("usher/api.ErrLost", laid_usher_api_ErrLost), ("usher/api.ErrDenied", laid_usher_api_ErrDenied), ("usher/radix.hexDigits", laid_usher_radix_hexDigits), ("usher/sums.firstWords", laid_usher_sums_firstWords), ("usher/sums.roundWords", laid_usher_sums_roundWords)] }
def RadixDigestSaid : Prop := radixDigestRow.holds Tryd.pinned (OpenSpec.ofChange radixDigestSpec)

/-- ITS FALSE NEIGHBOUR: 'it returns false'. Refute it at one input. -/
def radixDigestWrong : ChangeSpec := { name := "radixDigest", fn := fun _ => fun
  | [d] => { results := [.lit (.bool false)], args := [d] }
  | _ => none }
def RadixDigestWrongFalsely : Prop := radixDigestRow.holds Tryd.pinned (OpenSpec.ofChange radixDigestWrong)

/-- 'usherlaw10.PkceS256': WHATEVER THE INPUT: true; the input reads as it did. -/
def pkceS256Spec : ChangeSpec := { name := "pkceS256", fn := fun _ => fun
  | [d] => { results := [.lit (.bool true)], args := [d] }
  | _ => none }
def pkceS256Row : OpenClaim := { program := "ytmkifaddfnodhaadoor", sum := "8b5d3f73203115dc32efac874e5892f148a4f042fa4a511a05faf28b7b57ed2c", func := "usher/usherlaw10.PkceS256", spec := "pkceS256", inPlace := ["internal/abi.NoEscape"], named := ["usher/sums.firstWords", "usher/sums.roundWords", "usher/usherref1.first", "usher/usherref1.round"], apart := false, laid := [("usher/sums.firstWords", laid_usher_sums_firstWords), ("usher/sums.roundWords", laid_usher_sums_roundWords), ("usher/usherref1.first", laid_usher_usherref1_first), ("usher/usherref1.round", laid_usher_usherref1_round)] }
def PkceS256Said : Prop := pkceS256Row.holds Tryd.pinned (OpenSpec.ofChange pkceS256Spec)

/-- ITS FALSE NEIGHBOUR: 'it returns false'. Refute it at one input. -/
def pkceS256Wrong : ChangeSpec := { name := "pkceS256", fn := fun _ => fun
  | [d] => { results := [.lit (.bool false)], args := [d] }
  | _ => none }
def PkceS256WrongFalsely : Prop := pkceS256Row.holds Tryd.pinned (OpenSpec.ofChange pkceS256Wrong)

/-- 'usherlaw10.PkceSeal': WHATEVER THE INPUT: true; the input reads as it did. -/
def pkceSealSpec : ChangeSpec := { name := "pkceSeal", fn := fun _ => fun
  | [d] => { results := [.lit (.bool true)], args := [d] }
  | _ => none }
def pkceSealRow : OpenClaim := { program := "ytmkifaddfnodhaadoor", sum := "8b5d3f73203115dc32efac874e5892f148a4f042fa4a511a05faf28b7b57ed2c", func := "usher/usherlaw10.PkceSeal", spec := "pkceSeal", named := ["usher/api.ErrArg", "usher/sums.firstWords", "usher/sums.roundWords", "usher/usherref1.first", "usher/usherref1.round", "usher/api.ErrText", "usher/api.ErrMany", "usher/api.ErrTwice", "usher/api.ErrScheme", "usher/api.ErrShort", "usher/api.ErrDry", "usher/api.ErrTaken", "usher/api.ErrFull", "usher/api.ErrDead", "usher/api.ErrLog", "usher/api.ErrLost", "usher/api.ErrDenied"], apart := false, laid := [("usher/api.ErrArg", laid_usher_api_ErrArg), ("usher/api.ErrText", laid_usher_api_ErrText), ("usher/api.ErrMany", laid_usher_api_ErrMany), ("usher/api.ErrTwice", laid_usher_api_ErrTwice), ("usher/api.ErrScheme", laid_usher_api_ErrScheme), ("usher/api.ErrShort", laid_usher_api_ErrShort), ("usher/api.ErrDry", laid_usher_api_ErrDry), ("usher/api.ErrTaken", laid_usher_api_ErrTaken), ("usher/api.ErrFull", laid_usher_api_ErrFull), ("usher/api.ErrDead", laid_usher_api_ErrDead), ("usher/api.ErrLog", laid_usher_api_ErrLog), ("usher/api.ErrLost", laid_usher_api_ErrLost), ("usher/api.ErrDenied", laid_usher_api_ErrDenied), ("usher/sums.firstWords", laid_usher_sums_firstWords), ("usher/sums.roundWords", laid_usher_sums_roundWords), ("usher/usherref1.first", laid_usher_usherref1_first), ("usher/usherref1.round", laid_usher_usherref1_round)] }
def PkceSealSaid : Prop := pkceSealRow.holds Tryd.pinned (OpenSpec.ofChange pkceSealSpec)

/-- ITS FALSE NEIGHBOUR: 'it returns false'. Refute it at one input. -/
def pkceSealWrong : ChangeSpec := { name := "pkceSeal", fn := fun _ => fun
  | [d] => { results := [.lit (.bool false)], args := [d] }
  | _ => none }
def PkceSealWrongFalsely : Prop := pkceSealRow.holds Tryd.pinned (OpenSpec.ofChange pkceSealWrong)

/-- 'usherlaw10.PkcePassword': WHATEVER THE INPUT: true; the input reads as it did. -/
def pkcePasswordSpec : ChangeSpec := { name := "pkcePassword", fn := fun _ => fun
  | [d] => { results := [.lit (.bool true)], args := [d] }
  | _ => none }
def pkcePasswordRow : OpenClaim := { program := "ytmkifaddfnodhaadoor", sum := "8b5d3f73203115dc32efac874e5892f148a4f042fa4a511a05faf28b7b57ed2c", func := "usher/usherlaw10.PkcePassword", spec := "pkcePassword", named := ["usher/api.ErrArg", "usher/sums.firstWords", "usher/sums.roundWords", "usher/usherref1.first", "usher/usherref1.round"], apart := false, laid := [("usher/api.ErrArg", laid_usher_api_ErrArg), ("usher/sums.firstWords", laid_usher_sums_firstWords), ("usher/sums.roundWords", laid_usher_sums_roundWords), ("usher/usherref1.first", laid_usher_usherref1_first), ("usher/usherref1.round", laid_usher_usherref1_round)] }
def PkcePasswordSaid : Prop := pkcePasswordRow.holds Tryd.pinned (OpenSpec.ofChange pkcePasswordSpec)

/-- ITS FALSE NEIGHBOUR: 'it returns false'. Refute it at one input. -/
def pkcePasswordWrong : ChangeSpec := { name := "pkcePassword", fn := fun _ => fun
  | [d] => { results := [.lit (.bool false)], args := [d] }
  | _ => none }
def PkcePasswordWrongFalsely : Prop := pkcePasswordRow.holds Tryd.pinned (OpenSpec.ofChange pkcePasswordWrong)

/-- 'usherlaw10.PkceOpens': WHATEVER THE INPUT: true; the input reads as it did. -/
def pkceOpensSpec : ChangeSpec := { name := "pkceOpens", fn := fun _ => fun
  | [d] => { results := [.lit (.bool true)], args := [d] }
  | _ => none }
def pkceOpensRow : OpenClaim := { program := "ytmkifaddfnodhaadoor", sum := "8b5d3f73203115dc32efac874e5892f148a4f042fa4a511a05faf28b7b57ed2c", func := "usher/usherlaw10.PkceOpens", spec := "pkceOpens", named := ["usher/api.ErrArg", "usher/sums.firstWords", "usher/sums.roundWords"], apart := false, laid := [("usher/api.ErrArg", laid_usher_api_ErrArg), ("usher/sums.firstWords", laid_usher_sums_firstWords), ("usher/sums.roundWords", laid_usher_sums_roundWords)] }
def PkceOpensSaid : Prop := pkceOpensRow.holds Tryd.pinned (OpenSpec.ofChange pkceOpensSpec)

/-- ITS FALSE NEIGHBOUR: 'it returns false'. Refute it at one input. -/
def pkceOpensWrong : ChangeSpec := { name := "pkceOpens", fn := fun _ => fun
  | [d] => { results := [.lit (.bool false)], args := [d] }
  | _ => none }
def PkceOpensWrongFalsely : Prop := pkceOpensRow.holds Tryd.pinned (OpenSpec.ofChange pkceOpensWrong)

/-- 'usherlaw10.PkceMatch': WHATEVER THE INPUT: true; the input reads as it did. -/
def pkceMatchSpec : ChangeSpec := { name := "pkceMatch", fn := fun _ => fun
  | [d] => { results := [.lit (.bool true)], args := [d] }
  | _ => none }
def pkceMatchRow : OpenClaim := { program := "ytmkifaddfnodhaadoor", sum := "8b5d3f73203115dc32efac874e5892f148a4f042fa4a511a05faf28b7b57ed2c", func := "usher/usherlaw10.PkceMatch", spec := "pkceMatch", inPlace := ["internal/abi.NoEscape"], named := ["usher/pkce.unreserved", "usher/sums.firstWords", "usher/sums.roundWords", "usher/usherref1.first", "usher/usherref1.round"], apart := false, laid := [("usher/sums.firstWords", laid_usher_sums_firstWords), ("usher/sums.roundWords", laid_usher_sums_roundWords), ("usher/pkce.unreserved", laid_usher_pkce_unreserved), ("usher/usherref1.first", laid_usher_usherref1_first), ("usher/usherref1.round", laid_usher_usherref1_round)] }
def PkceMatchSaid : Prop := pkceMatchRow.holds Tryd.pinned (OpenSpec.ofChange pkceMatchSpec)

/-- ITS FALSE NEIGHBOUR: 'it returns false'. Refute it at one input. -/
def pkceMatchWrong : ChangeSpec := { name := "pkceMatch", fn := fun _ => fun
  | [d] => { results := [.lit (.bool false)], args := [d] }
  | _ => none }
def PkceMatchWrongFalsely : Prop := pkceMatchRow.holds Tryd.pinned (OpenSpec.ofChange pkceMatchWrong)

/-- 'usherlaw10.PkceOnly': WHATEVER THE INPUT: true; the input reads as it did. -/
def pkceOnlySpec : ChangeSpec := { name := "pkceOnly", fn := fun _ => fun
  | [d] => { results := [.lit (.bool true)], args := [d] }
  | _ => none }
def pkceOnlyRow : OpenClaim := { program := "ytmkifaddfnodhaadoor", sum := "8b5d3f73203115dc32efac874e5892f148a4f042fa4a511a05faf28b7b57ed2c", func := "usher/usherlaw10.PkceOnly", spec := "pkceOnly", inPlace := ["internal/abi.NoEscape"], named := ["usher/pkce.unreserved", "usher/sums.firstWords", "usher/sums.roundWords"], apart := false, laid := [("usher/sums.firstWords", laid_usher_sums_firstWords), ("usher/sums.roundWords", laid_usher_sums_roundWords), ("usher/pkce.unreserved", laid_usher_pkce_unreserved)] }
def PkceOnlySaid : Prop := pkceOnlyRow.holds Tryd.pinned (OpenSpec.ofChange pkceOnlySpec)

/-- ITS FALSE NEIGHBOUR: 'it returns false'. Refute it at one input. -/
def pkceOnlyWrong : ChangeSpec := { name := "pkceOnly", fn := fun _ => fun
  | [d] => { results := [.lit (.bool false)], args := [d] }
  | _ => none }
def PkceOnlyWrongFalsely : Prop := pkceOnlyRow.holds Tryd.pinned (OpenSpec.ofChange pkceOnlyWrong)

/-- 'usherlaw10.PkceBound': WHATEVER THE INPUT: true; the input reads as it did. -/
def pkceBoundSpec : ChangeSpec := { name := "pkceBound", fn := fun _ => fun
  | [d] => { results := [.lit (.bool true)], args := [d] }
  | _ => none }
def pkceBoundRow : OpenClaim := { program := "ytmkifaddfnodhaadoor", sum := "8b5d3f73203115dc32efac874e5892f148a4f042fa4a511a05faf28b7b57ed2c", func := "usher/usherlaw10.PkceBound", spec := "pkceBound", inPlace := ["internal/abi.NoEscape"], named := ["usher/sums.firstWords", "usher/sums.roundWords", "usher/api.ErrText", "usher/pkce.unreserved"], apart := false, laid := [("usher/api.ErrText", laid_usher_api_ErrText), ("usher/sums.firstWords", laid_usher_sums_firstWords), ("usher/sums.roundWords", laid_usher_sums_roundWords), ("usher/pkce.unreserved", laid_usher_pkce_unreserved)] }
def PkceBoundSaid : Prop := pkceBoundRow.holds Tryd.pinned (OpenSpec.ofChange pkceBoundSpec)

/-- ITS FALSE NEIGHBOUR: 'it returns false'. Refute it at one input. -/
def pkceBoundWrong : ChangeSpec := { name := "pkceBound", fn := fun _ => fun
  | [d] => { results := [.lit (.bool false)], args := [d] }
  | _ => none }
def PkceBoundWrongFalsely : Prop := pkceBoundRow.holds Tryd.pinned (OpenSpec.ofChange pkceBoundWrong)

/- THE SECOND FORM. 'bulk': how many values and letters a reading holds, each counted each time it is reached (what is shared counts as often as it is met; a slice's spare places count too). A statement '..UptoSaid' is the law's where the arguments, and the package variables that the reading takes, are together of bulk at most 1048576: NARROWER than '..Said'. Prove '..Said' where nothing that the law and all that it calls make is longer than what came in: it says more and counts as full. Else prove '..UptoSaid'. A law counts once. -/
mutual
def uptoBulk {H : Type} : DataW H → Nat
  | .lit (.string bytes) => bytes.length + 1
  | .lit _ => 1
  | .nil => 1
  | .ptr d => uptoBulk d + 1
  | .slice elems spare => uptoBulkAll elems + uptoBulkAll spare + 1
  | .agg parts => uptoBulkAll parts + 1
  | .iface _ d => uptoBulk d + 1
  | .map entries => uptoBulkEntries entries + 1
  | .held _ => 1
def uptoBulkAll {H : Type} : List (DataW H) → Nat
  | [] => 0
  | d :: r => uptoBulk d + uptoBulkAll r
def uptoBulkEntries {H : Type} : List (Lit × DataW H) → Nat
  | [] => 0
  | x :: r => uptoBulkEntry x + uptoBulkEntries r
def uptoBulkEntry {H : Type} : Lit × DataW H → Nat
  | (.string bytes, d) => bytes.length + uptoBulk d + 1
  | (_, d) => uptoBulk d + 1
 end
def uptoSmall : (H : Type) → List (DataW H) → Bool := fun _ ds => decide (uptoBulkAll ds ≤ 1048576)
def OpenSpec.upto (s : _root_.Go.ChangeSpec) : _root_.Go.OpenSpec := { _root_.Go.OpenSpec.ofChange s with cond := some uptoSmall }

/-- 'usherlaw2.RadixDigest', WHERE WHAT IT READS IS OF BULK AT MOST 1048576: true; the input reads as it did. -/
def radixDigestUptoRow : OpenClaim := { program := "ytmkifaddfnodhaadoor", sum := "8b5d3f73203115dc32efac874e5892f148a4f042fa4a511a05faf28b7b57ed2c", func := "usher/usherlaw2.RadixDigest", spec := "radixDigest", inPlace := ["internal/abi.NoEscape"], named := ["usher/api.ErrText", "usher/sums.firstWords", "usher/sums.roundWords", "usher/radix.hexDigits", "usher/api.ErrArg", "usher/api.ErrMany", "usher/api.ErrTwice", "usher/api.ErrScheme", "usher/api.ErrShort", "usher/api.ErrDry", "usher/api.ErrTaken", "usher/api.ErrFull", "usher/api.ErrDead", "usher/api.ErrLog", "usher/api.ErrLost", "usher/api.ErrDenied"], apart := false, laid := [("usher/api.ErrArg", laid_usher_api_ErrArg), ("usher/api.ErrText", laid_usher_api_ErrText), ("usher/api.ErrMany", laid_usher_api_ErrMany), ("usher/api.ErrTwice", laid_usher_api_ErrTwice), ("usher/api.ErrScheme", laid_usher_api_ErrScheme), ("usher/api.ErrShort", laid_usher_api_ErrShort), ("usher/api.ErrDry", laid_usher_api_ErrDry), ("usher/api.ErrTaken", laid_usher_api_ErrTaken), ("usher/api.ErrFull", laid_usher_api_ErrFull), ("usher/api.ErrDead", laid_usher_api_ErrDead), ("usher/api.ErrLog", laid_usher_api_ErrLog), ("usher/api.ErrLost", laid_usher_api_ErrLost), ("usher/api.ErrDenied", laid_usher_api_ErrDenied), ("usher/radix.hexDigits", laid_usher_radix_hexDigits), ("usher/sums.firstWords", laid_usher_sums_firstWords), ("usher/sums.roundWords", laid_usher_sums_roundWords)], narrowed := true }
def RadixDigestUptoSaid : Prop := radixDigestUptoRow.holds Tryd.pinned (OpenSpec.upto radixDigestSpec)

/-- 'usherlaw10.PkceS256', WHERE WHAT IT READS IS OF BULK AT MOST 1048576: true; the input reads as it did. -/
def pkceS256UptoRow : OpenClaim := { program := "ytmkifaddfnodhaadoor", sum := "8b5d3f73203115dc32efac874e5892f148a4f042fa4a511a05faf28b7b57ed2c", func := "usher/usherlaw10.PkceS256", spec := "pkceS256", inPlace := ["internal/abi.NoEscape"], named := ["usher/sums.firstWords", "usher/sums.roundWords", "usher/usherref1.first", "usher/usherref1.round"], apart := false, laid := [("usher/sums.firstWords", laid_usher_sums_firstWords), ("usher/sums.roundWords", laid_usher_sums_roundWords), ("usher/usherref1.first", laid_usher_usherref1_first), ("usher/usherref1.round", laid_usher_usherref1_round)], narrowed := true }
def PkceS256UptoSaid : Prop := pkceS256UptoRow.holds Tryd.pinned (OpenSpec.upto pkceS256Spec)

/-- 'usherlaw10.PkceSeal', WHERE WHAT IT READS IS OF BULK AT MOST 1048576: true; the input reads as it did. -/
def pkceSealUptoRow : OpenClaim := { program := "ytmkifaddfnodhaadoor", sum := "8b5d3f73203115dc32efac874e5892f148a4f042fa4a511a05faf28b7b57ed2c", func := "usher/usherlaw10.PkceSeal", spec := "pkceSeal", named := ["usher/api.ErrArg", "usher/sums.firstWords", "usher/sums.roundWords", "usher/usherref1.first", "usher/usherref1.round", "usher/api.ErrText", "usher/api.ErrMany", "usher/api.ErrTwice", "usher/api.ErrScheme", "usher/api.ErrShort", "usher/api.ErrDry", "usher/api.ErrTaken", "usher/api.ErrFull", "usher/api.ErrDead", "usher/api.ErrLog", "usher/api.ErrLost", "usher/api.ErrDenied"], apart := false, laid := [("usher/api.ErrArg", laid_usher_api_ErrArg), ("usher/api.ErrText", laid_usher_api_ErrText), ("usher/api.ErrMany", laid_usher_api_ErrMany), ("usher/api.ErrTwice", laid_usher_api_ErrTwice), ("usher/api.ErrScheme", laid_usher_api_ErrScheme), ("usher/api.ErrShort", laid_usher_api_ErrShort), ("usher/api.ErrDry", laid_usher_api_ErrDry), ("usher/api.ErrTaken", laid_usher_api_ErrTaken), ("usher/api.ErrFull", laid_usher_api_ErrFull), ("usher/api.ErrDead", laid_usher_api_ErrDead), ("usher/api.ErrLog", laid_usher_api_ErrLog), ("usher/api.ErrLost", laid_usher_api_ErrLost), ("usher/api.ErrDenied", laid_usher_api_ErrDenied), ("usher/sums.firstWords", laid_usher_sums_firstWords), ("usher/sums.roundWords", laid_usher_sums_roundWords), ("usher/usherref1.first", laid_usher_usherref1_first), ("usher/usherref1.round", laid_usher_usherref1_round)], narrowed := true }
def PkceSealUptoSaid : Prop := pkceSealUptoRow.holds Tryd.pinned (OpenSpec.upto pkceSealSpec)

/-- 'usherlaw10.PkcePassword', WHERE WHAT IT READS IS OF BULK AT MOST 1048576: true; the input reads as it did. -/
def pkcePasswordUptoRow : OpenClaim := { program := "ytmkifaddfnodhaadoor", sum := "8b5d3f73203115dc32efac874e5892f148a4f042fa4a511a05faf28b7b57ed2c", func := "usher/usherlaw10.PkcePassword", spec := "pkcePassword", named := ["usher/api.ErrArg", "usher/sums.firstWords", "usher/sums.roundWords", "usher/usherref1.first", "usher/usherref1.round"], apart := false, laid := [("usher/api.ErrArg", laid_usher_api_ErrArg), ("usher/sums.firstWords", laid_usher_sums_firstWords), ("usher/sums.roundWords", laid_usher_sums_roundWords), ("usher/usherref1.first", laid_usher_usherref1_first), ("usher/usherref1.round", laid_usher_usherref1_round)], narrowed := true }
def PkcePasswordUptoSaid : Prop := pkcePasswordUptoRow.holds Tryd.pinned (OpenSpec.upto pkcePasswordSpec)

/-- 'usherlaw10.PkceOpens', WHERE WHAT IT READS IS OF BULK AT MOST 1048576: true; the input reads as it did. -/
def pkceOpensUptoRow : OpenClaim := { program := "ytmkifaddfnodhaadoor", sum := "8b5d3f73203115dc32efac874e5892f148a4f042fa4a511a05faf28b7b57ed2c", func := "usher/usherlaw10.PkceOpens", spec := "pkceOpens", named := ["usher/api.ErrArg", "usher/sums.firstWords", "usher/sums.roundWords"], apart := false, laid := [("usher/api.ErrArg", laid_usher_api_ErrArg), ("usher/sums.firstWords", laid_usher_sums_firstWords), ("usher/sums.roundWords", laid_usher_sums_roundWords)], narrowed := true }
def PkceOpensUptoSaid : Prop := pkceOpensUptoRow.holds Tryd.pinned (OpenSpec.upto pkceOpensSpec)

/-- 'usherlaw10.PkceMatch', WHERE WHAT IT READS IS OF BULK AT MOST 1048576: true; the input reads as it did. -/
def pkceMatchUptoRow : OpenClaim := { program := "ytmkifaddfnodhaadoor", sum := "8b5d3f73203115dc32efac874e5892f148a4f042fa4a511a05faf28b7b57ed2c", func := "usher/usherlaw10.PkceMatch", spec := "pkceMatch", inPlace := ["internal/abi.NoEscape"], named := ["usher/pkce.unreserved", "usher/sums.firstWords", "usher/sums.roundWords", "usher/usherref1.first", "usher/usherref1.round"], apart := false, laid := [("usher/sums.firstWords", laid_usher_sums_firstWords), ("usher/sums.roundWords", laid_usher_sums_roundWords), ("usher/pkce.unreserved", laid_usher_pkce_unreserved), ("usher/usherref1.first", laid_usher_usherref1_first), ("usher/usherref1.round", laid_usher_usherref1_round)], narrowed := true }
def PkceMatchUptoSaid : Prop := pkceMatchUptoRow.holds Tryd.pinned (OpenSpec.upto pkceMatchSpec)

/-- 'usherlaw10.PkceOnly', WHERE WHAT IT READS IS OF BULK AT MOST 1048576: true; the input reads as it did. -/
def pkceOnlyUptoRow : OpenClaim := { program := "ytmkifaddfnodhaadoor", sum := "8b5d3f73203115dc32efac874e5892f148a4f042fa4a511a05faf28b7b57ed2c", func := "usher/usherlaw10.PkceOnly", spec := "pkceOnly", inPlace := ["internal/abi.NoEscape"], named := ["usher/pkce.unreserved", "usher/sums.firstWords", "usher/sums.roundWords"], apart := false, laid := [("usher/sums.firstWords", laid_usher_sums_firstWords), ("usher/sums.roundWords", laid_usher_sums_roundWords), ("usher/pkce.unreserved", laid_usher_pkce_unreserved)], narrowed := true }
def PkceOnlyUptoSaid : Prop := pkceOnlyUptoRow.holds Tryd.pinned (OpenSpec.upto pkceOnlySpec)

/-- 'usherlaw10.PkceBound', WHERE WHAT IT READS IS OF BULK AT MOST 1048576: true; the input reads as it did. -/
def pkceBoundUptoRow : OpenClaim := { program := "ytmkifaddfnodhaadoor", sum := "8b5d3f73203115dc32efac874e5892f148a4f042fa4a511a05faf28b7b57ed2c", func := "usher/usherlaw10.PkceBound", spec := "pkceBound", inPlace := ["internal/abi.NoEscape"], named := ["usher/sums.firstWords", "usher/sums.roundWords", "usher/api.ErrText", "usher/pkce.unreserved"], apart := false, laid := [("usher/api.ErrText", laid_usher_api_ErrText), ("usher/sums.firstWords", laid_usher_sums_firstWords), ("usher/sums.roundWords", laid_usher_sums_roundWords), ("usher/pkce.unreserved", laid_usher_pkce_unreserved)], narrowed := true }
def PkceBoundUptoSaid : Prop := pkceBoundUptoRow.holds Tryd.pinned (OpenSpec.upto pkceBoundSpec)

end Rows
end Go.Proofs.YtmkifaddfnodhaaDoor
