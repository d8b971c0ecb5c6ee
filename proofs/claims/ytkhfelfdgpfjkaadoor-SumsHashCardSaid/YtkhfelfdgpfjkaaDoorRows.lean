/-
  NARROWER THAN 'FOR EVERY INPUT', by the rows' own cells (each row's printed sentence says how): SumsCrc: laid · SumsMore: laid · SumsBurst: laid · SumsAffine: laid · SumsHash: laid · SumsSha: laid · SumsMac: laid · SumsMacIs: laid · SumsKeys: laid · SumsStretch: laid · SumsFold: laid.
  DERIVED. THE GIVEN ROWS OF THIS SEAT. 11 by the template 'for every input the law returns true; each argument reads behind the call as it read before'; 0 by the template 'total and deterministic' (their statements: YtkhfelfdgpfjkaaDoorTotals.lean).
  GIVEN WITH THE SEED: the statements are not yours to turn. If you find one false, say at which input.
  Laid BY PROGRAM, IN A SANDBOX (cutbox-rows.mjs): the forced cells as the released guide's own fill.sh prints them over the translation 9a4019561c57ed08… (all of the seat's roots in one cut). By AI agents, Wed Nov 11 2026. No macro, syntax, notation, axiom, sorry.
-/
import Derived.Test.YtkhfelfdgpfjkaaDoorChecked
import GoSem.Claim
import GoSem.ClaimJoined
import GoSem.ClaimMapViews
import Derived.JoinedTies
import Derived.KernelRfl
namespace Go.Proofs.YtkhfelfdgpfjkaaDoor
/- THE CELL 'sum', in the pinned program and in every row, IS THE sha256 OF THE DUMP (.gsa) THAT YtkhfelfdgpfjkaaDoorProg.lean LOADS. Nothing in Lean hashes anything: it is a label: what it is worth is what the hold of that sum in a sandbox is worth. -/
noncomputable def Tryd.pinned : Pinned := { name := "ytkhfelfdgpfjkaadoor", sum := "9a4019561c57ed081b8f6bfc65c036670ffd359d8927f068be1b3a47027d3517", checked := Tryd.checked }
namespace Rows
def none {H : Type} : Left H := { results := [], args := [] }

/- WHAT THE LISTED PACKAGE-LEVEL VARIABLES READ AS WHEN THE CALL BEGINS. Each datum BY PROGRAM (the guide's laid-datum.mjs) off the statement by which the dump's own 'gosem.cut.vars' lays the variable. In a bare row this is a premise. The card (YtkhfelfdgpfjkaaDoorCards.lean) ties it to the program's text. -/
def laid_usher_sums_crcRows {H : Type} : DataW H := .agg [.lit (.int .u32 0), .lit (.int .u32 498536548), .lit (.int .u32 997073096), .lit (.int .u32 651767980), .lit (.int .u32 1994146192), .lit (.int .u32 1802195444), .lit (.int .u32 1303535960), .lit (.int .u32 1342533948), .lit (.int .u32 3988292384), .lit (.int .u32 4027552580), .lit (.int .u32 3604390888), .lit (.int .u32 3412177804), .lit (.int .u32 2607071920), .lit (.int .u32 2262029012), .lit (.int .u32 2685067896), .lit (.int .u32 3183342108)]
def laid_usher_sums_firstWords {H : Type} : DataW H := .agg [.lit (.int .u32 1779033703), .lit (.int .u32 3144134277), .lit (.int .u32 1013904242), .lit (.int .u32 2773480762), .lit (.int .u32 1359893119), .lit (.int .u32 2600822924), .lit (.int .u32 528734635), .lit (.int .u32 1541459225)]
def laid_usher_sums_roundWords {H : Type} : DataW H := .agg [.lit (.int .u32 1116352408), .lit (.int .u32 1899447441), .lit (.int .u32 3049323471), .lit (.int .u32 3921009573), .lit (.int .u32 961987163), .lit (.int .u32 1508970993), .lit (.int .u32 2453635748), .lit (.int .u32 2870763221), .lit (.int .u32 3624381080), .lit (.int .u32 310598401), .lit (.int .u32 607225278), .lit (.int .u32 1426881987), .lit (.int .u32 1925078388), .lit (.int .u32 2162078206), .lit (.int .u32 2614888103), .lit (.int .u32 3248222580), .lit (.int .u32 3835390401), .lit (.int .u32 4022224774), .lit (.int .u32 264347078), .lit (.int .u32 604807628), .lit (.int .u32 770255983), .lit (.int .u32 1249150122), .lit (.int .u32 1555081692), .lit (.int .u32 1996064986), .lit (.int .u32 2554220882), .lit (.int .u32 2821834349), .lit (.int .u32 2952996808), .lit (.int .u32 3210313671), .lit (.int .u32 3336571891), .lit (.int .u32 3584528711), .lit (.int .u32 113926993), .lit (.int .u32 338241895), .lit (.int .u32 666307205), .lit (.int .u32 773529912), .lit (.int .u32 1294757372), .lit (.int .u32 1396182291), .lit (.int .u32 1695183700), .lit (.int .u32 1986661051), .lit (.int .u32 2177026350), .lit (.int .u32 2456956037), .lit (.int .u32 2730485921), .lit (.int .u32 2820302411), .lit (.int .u32 3259730800), .lit (.int .u32 3345764771), .lit (.int .u32 3516065817), .lit (.int .u32 3600352804), .lit (.int .u32 4094571909), .lit (.int .u32 275423344), .lit (.int .u32 430227734), .lit (.int .u32 506948616), .lit (.int .u32 659060556), .lit (.int .u32 883997877), .lit (.int .u32 958139571), .lit (.int .u32 1322822218), .lit (.int .u32 1537002063), .lit (.int .u32 1747873779), .lit (.int .u32 1955562222), .lit (.int .u32 2024104815), .lit (.int .u32 2227730452), .lit (.int .u32 2361852424), .lit (.int .u32 2428436474), .lit (.int .u32 2756734187), .lit (.int .u32 3204031479), .lit (.int .u32 3329325298)]
def laid_usher_usherref1_first {H : Type} : DataW H := .agg [.lit (.int .u32 1779033703), .lit (.int .u32 3144134277), .lit (.int .u32 1013904242), .lit (.int .u32 2773480762), .lit (.int .u32 1359893119), .lit (.int .u32 2600822924), .lit (.int .u32 528734635), .lit (.int .u32 1541459225)]
def laid_usher_usherref1_round {H : Type} : DataW H := .agg [.lit (.int .u32 1116352408), .lit (.int .u32 1899447441), .lit (.int .u32 3049323471), .lit (.int .u32 3921009573), .lit (.int .u32 961987163), .lit (.int .u32 1508970993), .lit (.int .u32 2453635748), .lit (.int .u32 2870763221), .lit (.int .u32 3624381080), .lit (.int .u32 310598401), .lit (.int .u32 607225278), .lit (.int .u32 1426881987), .lit (.int .u32 1925078388), .lit (.int .u32 2162078206), .lit (.int .u32 2614888103), .lit (.int .u32 3248222580), .lit (.int .u32 3835390401), .lit (.int .u32 4022224774), .lit (.int .u32 264347078), .lit (.int .u32 604807628), .lit (.int .u32 770255983), .lit (.int .u32 1249150122), .lit (.int .u32 1555081692), .lit (.int .u32 1996064986), .lit (.int .u32 2554220882), .lit (.int .u32 2821834349), .lit (.int .u32 2952996808), .lit (.int .u32 3210313671), .lit (.int .u32 3336571891), .lit (.int .u32 3584528711), .lit (.int .u32 113926993), .lit (.int .u32 338241895), .lit (.int .u32 666307205), .lit (.int .u32 773529912), .lit (.int .u32 1294757372), .lit (.int .u32 1396182291), .lit (.int .u32 1695183700), .lit (.int .u32 1986661051), .lit (.int .u32 2177026350), .lit (.int .u32 2456956037), .lit (.int .u32 2730485921), .lit (.int .u32 2820302411), .lit (.int .u32 3259730800), .lit (.int .u32 3345764771), .lit (.int .u32 3516065817), .lit (.int .u32 3600352804), .lit (.int .u32 4094571909), .lit (.int .u32 275423344), .lit (.int .u32 430227734), .lit (.int .u32 506948616), .lit (.int .u32 659060556), .lit (.int .u32 883997877), .lit (.int .u32 958139571), .lit (.int .u32 1322822218), .lit (.int .u32 1537002063), .lit (.int .u32 1747873779), .lit (.int .u32 1955562222), .lit (.int .u32 2024104815), .lit (.int .u32 2227730452), .lit (.int .u32 2361852424), .lit (.int .u32 2428436474), .lit (.int .u32 2756734187), .lit (.int .u32 3204031479), .lit (.int .u32 3329325298)]
def laid_usher_api_ErrArg {H : Type} : DataW H := .iface "*errors.errorString" (.ptr (.agg [.lit (.string [97, 114, 103, 117, 109, 101, 110, 116])]))
def laid_usher_api_ErrText {H : Type} : DataW H := .iface "*errors.errorString" (.ptr (.agg [.lit (.string [116, 101, 120, 116])]))
def laid_usher_api_ErrMany {H : Type} : DataW H := .iface "*errors.errorString" (.ptr (.agg [.lit (.string [109, 97, 110, 121])]))
def laid_usher_api_ErrTwice {H : Type} : DataW H := .iface "*errors.errorString" (.ptr (.agg [.lit (.string [116, 119, 105, 99, 101])]))
def laid_usher_api_ErrScheme {H : Type} : DataW H := .iface "*errors.errorString" (.ptr (.agg [.lit (.string [115, 99, 104, 101, 109, 101])]))
def laid_usher_api_ErrShort {H : Type} : DataW H := .iface "*errors.errorString" (.ptr (.agg [.lit (.string [115, 104, 111, 114, 116])]))
def laid_usher_api_ErrDry {H : Type} : DataW H := .iface "*errors.errorString" (.ptr (.agg [.lit (.string [100, 114, 121])]))
def laid_usher_api_ErrTaken {H : Type} : DataW H := .iface "*errors.errorString" (.ptr (.agg [.lit (.string [116, 97, 107, 101, 110])]))
def laid_usher_api_ErrFull {H : Type} : DataW H := .iface "*errors.errorString" (.ptr (.agg [.lit (.string [102, 117, 108, 108])]))
def laid_usher_api_ErrDead {H : Type} : DataW H := .iface "*errors.errorString" (.ptr (.agg [.lit (.string [100, 101, 97, 100])]))
def laid_usher_api_ErrLog {H : Type} : DataW H := .iface "*errors.errorString" (.ptr (.agg [.lit (.string [108, 111, 103])]))
def laid_usher_api_ErrLost {H : Type} : DataW H := .iface "*errors.errorString" (.ptr (.agg [.lit (.string [108, 111, 115, 116])]))
def laid_usher_api_ErrDenied {H : Type} : DataW H := .iface "*errors.errorString" (.ptr (.agg [.lit (.string [100, 101, 110, 105, 101, 100])]))

/-- 'usherlaw1.SumsCrc': WHATEVER THE INPUT: true; the input reads as it did. -/
def sumsCrcSpec : ChangeSpec := { name := "sumsCrc", fn := fun _ => fun
  | [d] => { results := [.lit (.bool true)], args := [d] }
  | _ => none }
def sumsCrcRow : OpenClaim := { program := "ytkhfelfdgpfjkaadoor", sum := "9a4019561c57ed081b8f6bfc65c036670ffd359d8927f068be1b3a47027d3517", func := "usher/usherlaw1.SumsCrc", spec := "sumsCrc", named := ["usher/sums.crcRows"], apart := false, laid := [("usher/sums.crcRows", laid_usher_sums_crcRows)] }
def SumsCrcSaid : Prop := sumsCrcRow.holds Tryd.pinned (OpenSpec.ofChange sumsCrcSpec)

/-- ITS FALSE NEIGHBOUR: 'it returns false'. Refute it at one input. -/
def sumsCrcWrong : ChangeSpec := { name := "sumsCrc", fn := fun _ => fun
  | [d] => { results := [.lit (.bool false)], args := [d] }
  | _ => none }
def SumsCrcWrongFalsely : Prop := sumsCrcRow.holds Tryd.pinned (OpenSpec.ofChange sumsCrcWrong)

/-- 'usherlaw1.SumsMore': WHATEVER THE INPUT: true; the input reads as it did. -/
def sumsMoreSpec : ChangeSpec := { name := "sumsMore", fn := fun _ => fun
  | [d] => { results := [.lit (.bool true)], args := [d] }
  | _ => none }
def sumsMoreRow : OpenClaim := { program := "ytkhfelfdgpfjkaadoor", sum := "9a4019561c57ed081b8f6bfc65c036670ffd359d8927f068be1b3a47027d3517", func := "usher/usherlaw1.SumsMore", spec := "sumsMore", named := ["usher/sums.crcRows"], apart := false, laid := [("usher/sums.crcRows", laid_usher_sums_crcRows)] }
def SumsMoreSaid : Prop := sumsMoreRow.holds Tryd.pinned (OpenSpec.ofChange sumsMoreSpec)

/-- ITS FALSE NEIGHBOUR: 'it returns false'. Refute it at one input. -/
def sumsMoreWrong : ChangeSpec := { name := "sumsMore", fn := fun _ => fun
  | [d] => { results := [.lit (.bool false)], args := [d] }
  | _ => none }
def SumsMoreWrongFalsely : Prop := sumsMoreRow.holds Tryd.pinned (OpenSpec.ofChange sumsMoreWrong)

/-- 'usherlaw1.SumsBurst': WHATEVER THE INPUT: true; the input reads as it did. -/
def sumsBurstSpec : ChangeSpec := { name := "sumsBurst", fn := fun _ => fun
  | [d] => { results := [.lit (.bool true)], args := [d] }
  | _ => none }
def sumsBurstRow : OpenClaim := { program := "ytkhfelfdgpfjkaadoor", sum := "9a4019561c57ed081b8f6bfc65c036670ffd359d8927f068be1b3a47027d3517", func := "usher/usherlaw1.SumsBurst", spec := "sumsBurst", named := ["usher/sums.crcRows"], apart := false, laid := [("usher/sums.crcRows", laid_usher_sums_crcRows)] }
def SumsBurstSaid : Prop := sumsBurstRow.holds Tryd.pinned (OpenSpec.ofChange sumsBurstSpec)

/-- ITS FALSE NEIGHBOUR: 'it returns false'. Refute it at one input. -/
def sumsBurstWrong : ChangeSpec := { name := "sumsBurst", fn := fun _ => fun
  | [d] => { results := [.lit (.bool false)], args := [d] }
  | _ => none }
def SumsBurstWrongFalsely : Prop := sumsBurstRow.holds Tryd.pinned (OpenSpec.ofChange sumsBurstWrong)

/-- 'usherlaw1.SumsAffine': WHATEVER THE INPUT: true; the input reads as it did. -/
def sumsAffineSpec : ChangeSpec := { name := "sumsAffine", fn := fun _ => fun
  | [d] => { results := [.lit (.bool true)], args := [d] }
  | _ => none }
def sumsAffineRow : OpenClaim := { program := "ytkhfelfdgpfjkaadoor", sum := "9a4019561c57ed081b8f6bfc65c036670ffd359d8927f068be1b3a47027d3517", func := "usher/usherlaw1.SumsAffine", spec := "sumsAffine", named := ["usher/sums.crcRows"], apart := false, laid := [("usher/sums.crcRows", laid_usher_sums_crcRows)] }
def SumsAffineSaid : Prop := sumsAffineRow.holds Tryd.pinned (OpenSpec.ofChange sumsAffineSpec)

/-- ITS FALSE NEIGHBOUR: 'it returns false'. Refute it at one input. -/
def sumsAffineWrong : ChangeSpec := { name := "sumsAffine", fn := fun _ => fun
  | [d] => { results := [.lit (.bool false)], args := [d] }
  | _ => none }
def SumsAffineWrongFalsely : Prop := sumsAffineRow.holds Tryd.pinned (OpenSpec.ofChange sumsAffineWrong)

/-- 'usherlaw1.SumsHash': WHATEVER THE INPUT: true; the input reads as it did. -/
def sumsHashSpec : ChangeSpec := { name := "sumsHash", fn := fun _ => fun
  | [d] => { results := [.lit (.bool true)], args := [d] }
  | _ => none }
def sumsHashRow : OpenClaim := { program := "ytkhfelfdgpfjkaadoor", sum := "9a4019561c57ed081b8f6bfc65c036670ffd359d8927f068be1b3a47027d3517", func := "usher/usherlaw1.SumsHash", spec := "sumsHash", named := ["usher/sums.firstWords", "usher/sums.roundWords", "usher/usherref1.first", "usher/usherref1.round"], apart := false, laid := [("usher/sums.firstWords", laid_usher_sums_firstWords), ("usher/sums.roundWords", laid_usher_sums_roundWords), ("usher/usherref1.first", laid_usher_usherref1_first), ("usher/usherref1.round", laid_usher_usherref1_round)] }
def SumsHashSaid : Prop := sumsHashRow.holds Tryd.pinned (OpenSpec.ofChange sumsHashSpec)

/-- ITS FALSE NEIGHBOUR: 'it returns false'. Refute it at one input. -/
def sumsHashWrong : ChangeSpec := { name := "sumsHash", fn := fun _ => fun
  | [d] => { results := [.lit (.bool false)], args := [d] }
  | _ => none }
def SumsHashWrongFalsely : Prop := sumsHashRow.holds Tryd.pinned (OpenSpec.ofChange sumsHashWrong)

/-- 'usherlaw1.SumsSha': WHATEVER THE INPUT: true; the input reads as it did. -/
def sumsShaSpec : ChangeSpec := { name := "sumsSha", fn := fun _ => fun
  | [d] => { results := [.lit (.bool true)], args := [d] }
  | _ => none }
def sumsShaRow : OpenClaim := { program := "ytkhfelfdgpfjkaadoor", sum := "9a4019561c57ed081b8f6bfc65c036670ffd359d8927f068be1b3a47027d3517", func := "usher/usherlaw1.SumsSha", spec := "sumsSha", named := ["usher/sums.firstWords", "usher/sums.roundWords", "usher/usherref1.first", "usher/usherref1.round"], apart := false, laid := [("usher/sums.firstWords", laid_usher_sums_firstWords), ("usher/sums.roundWords", laid_usher_sums_roundWords), ("usher/usherref1.first", laid_usher_usherref1_first), ("usher/usherref1.round", laid_usher_usherref1_round)] }
def SumsShaSaid : Prop := sumsShaRow.holds Tryd.pinned (OpenSpec.ofChange sumsShaSpec)

/-- ITS FALSE NEIGHBOUR: 'it returns false'. Refute it at one input. -/
def sumsShaWrong : ChangeSpec := { name := "sumsSha", fn := fun _ => fun
  | [d] => { results := [.lit (.bool false)], args := [d] }
  | _ => none }
def SumsShaWrongFalsely : Prop := sumsShaRow.holds Tryd.pinned (OpenSpec.ofChange sumsShaWrong)

/-- 'usherlaw1.SumsMac': WHATEVER THE INPUT: true; the input reads as it did. -/
def sumsMacSpec : ChangeSpec := { name := "sumsMac", fn := fun _ => fun
  | [d] => { results := [.lit (.bool true)], args := [d] }
  | _ => none }
def sumsMacRow : OpenClaim := { program := "ytkhfelfdgpfjkaadoor", sum := "9a4019561c57ed081b8f6bfc65c036670ffd359d8927f068be1b3a47027d3517", func := "usher/usherlaw1.SumsMac", spec := "sumsMac", named := ["usher/sums.firstWords", "usher/sums.roundWords", "usher/usherref1.first", "usher/usherref1.round"], apart := false, laid := [("usher/sums.firstWords", laid_usher_sums_firstWords), ("usher/sums.roundWords", laid_usher_sums_roundWords), ("usher/usherref1.first", laid_usher_usherref1_first), ("usher/usherref1.round", laid_usher_usherref1_round)] }
def SumsMacSaid : Prop := sumsMacRow.holds Tryd.pinned (OpenSpec.ofChange sumsMacSpec)

/-- ITS FALSE NEIGHBOUR: 'it returns false'. Refute it at one input. -/
def sumsMacWrong : ChangeSpec := { name := "sumsMac", fn := fun _ => fun
  | [d] => { results := [.lit (.bool false)], args := [d] }
  | _ => none }
def SumsMacWrongFalsely : Prop := sumsMacRow.holds Tryd.pinned (OpenSpec.ofChange sumsMacWrong)

/-- 'usherlaw1.SumsMacIs': WHATEVER THE INPUT: true; the input reads as it did. -/
def sumsMacIsSpec : ChangeSpec := { name := "sumsMacIs", fn := fun _ => fun
  | [d] => { results := [.lit (.bool true)], args := [d] }
  | _ => none }
def sumsMacIsRow : OpenClaim := { program := "ytkhfelfdgpfjkaadoor", sum := "9a4019561c57ed081b8f6bfc65c036670ffd359d8927f068be1b3a47027d3517", func := "usher/usherlaw1.SumsMacIs", spec := "sumsMacIs", named := ["usher/sums.firstWords", "usher/sums.roundWords"], apart := false, laid := [("usher/sums.firstWords", laid_usher_sums_firstWords), ("usher/sums.roundWords", laid_usher_sums_roundWords)] }
def SumsMacIsSaid : Prop := sumsMacIsRow.holds Tryd.pinned (OpenSpec.ofChange sumsMacIsSpec)

/-- ITS FALSE NEIGHBOUR: 'it returns false'. Refute it at one input. -/
def sumsMacIsWrong : ChangeSpec := { name := "sumsMacIs", fn := fun _ => fun
  | [d] => { results := [.lit (.bool false)], args := [d] }
  | _ => none }
def SumsMacIsWrongFalsely : Prop := sumsMacIsRow.holds Tryd.pinned (OpenSpec.ofChange sumsMacIsWrong)

/-- 'usherlaw1.SumsKeys': WHATEVER THE INPUT: true; the input reads as it did. -/
def sumsKeysSpec : ChangeSpec := { name := "sumsKeys", fn := fun _ => fun
  | [d] => { results := [.lit (.bool true)], args := [d] }
  | _ => none }
def sumsKeysRow : OpenClaim := { program := "ytkhfelfdgpfjkaadoor", sum := "9a4019561c57ed081b8f6bfc65c036670ffd359d8927f068be1b3a47027d3517", func := "usher/usherlaw1.SumsKeys", spec := "sumsKeys", named := ["usher/sums.firstWords", "usher/sums.roundWords"], apart := false, laid := [("usher/sums.firstWords", laid_usher_sums_firstWords), ("usher/sums.roundWords", laid_usher_sums_roundWords)] }
def SumsKeysSaid : Prop := sumsKeysRow.holds Tryd.pinned (OpenSpec.ofChange sumsKeysSpec)

/-- ITS FALSE NEIGHBOUR: 'it returns false'. Refute it at one input. -/
def sumsKeysWrong : ChangeSpec := { name := "sumsKeys", fn := fun _ => fun
  | [d] => { results := [.lit (.bool false)], args := [d] }
  | _ => none }
def SumsKeysWrongFalsely : Prop := sumsKeysRow.holds Tryd.pinned (OpenSpec.ofChange sumsKeysWrong)

/-- 'usherlaw1.SumsStretch': WHATEVER THE INPUT: true; the input reads as it did. -/
def sumsStretchSpec : ChangeSpec := { name := "sumsStretch", fn := fun _ => fun
  | [d] => { results := [.lit (.bool true)], args := [d] }
  | _ => none }
def sumsStretchRow : OpenClaim := { program := "ytkhfelfdgpfjkaadoor", sum := "9a4019561c57ed081b8f6bfc65c036670ffd359d8927f068be1b3a47027d3517", func := "usher/usherlaw1.SumsStretch", spec := "sumsStretch", named := ["usher/api.ErrArg", "usher/sums.firstWords", "usher/sums.roundWords", "usher/usherref1.first", "usher/usherref1.round", "usher/api.ErrText", "usher/api.ErrMany", "usher/api.ErrTwice", "usher/api.ErrScheme", "usher/api.ErrShort", "usher/api.ErrDry", "usher/api.ErrTaken", "usher/api.ErrFull", "usher/api.ErrDead", "usher/api.ErrLog", "usher/api.ErrLost", "usher/api.ErrDenied"], apart := false, laid := [("usher/api.ErrArg", laid_usher_api_ErrArg), ("usher/api.ErrText", laid_usher_api_ErrText), ("usher/api.ErrMany", laid_usher_api_ErrMany), ("usher/api.ErrTwice", laid_usher_api_ErrTwice), ("usher/api.ErrScheme", laid_usher_api_ErrScheme), ("usher/api.ErrShort", laid_usher_api_ErrShort), ("usher/api.ErrDry", laid_usher_api_ErrDry), ("usher/api.ErrTaken", laid_usher_api_ErrTaken), ("usher/api.ErrFull", laid_usher_api_ErrFull), ("usher/api.ErrDead", laid_usher_api_ErrDead), ("usher/api.ErrLog", laid_usher_api_ErrLog), ("usher/api.ErrLost", laid_usher_api_ErrLost), ("usher/api.ErrDenied", laid_usher_api_ErrDenied), ("usher/sums.firstWords", laid_usher_sums_firstWords), ("usher/sums.roundWords", laid_usher_sums_roundWords), ("usher/usherref1.first", laid_usher_usherref1_first), ("usher/usherref1.round", laid_usher_usherref1_round)] }
def SumsStretchSaid : Prop := sumsStretchRow.holds Tryd.pinned (OpenSpec.ofChange sumsStretchSpec)

/-- ITS FALSE NEIGHBOUR: 'it returns false'. Refute it at one input. -/
def sumsStretchWrong : ChangeSpec := { name := "sumsStretch", fn := fun _ => fun
  | [d] => { results := [.lit (.bool false)], args := [d] }
  | _ => none }
def SumsStretchWrongFalsely : Prop := sumsStretchRow.holds Tryd.pinned (OpenSpec.ofChange sumsStretchWrong)

/-- 'usherlaw1.SumsFold': WHATEVER THE INPUT: true; the input reads as it did. -/
def sumsFoldSpec : ChangeSpec := { name := "sumsFold", fn := fun _ => fun
  | [d] => { results := [.lit (.bool true)], args := [d] }
  | _ => none }
def sumsFoldRow : OpenClaim := { program := "ytkhfelfdgpfjkaadoor", sum := "9a4019561c57ed081b8f6bfc65c036670ffd359d8927f068be1b3a47027d3517", func := "usher/usherlaw1.SumsFold", spec := "sumsFold", named := ["usher/api.ErrArg", "usher/sums.firstWords", "usher/sums.roundWords", "usher/api.ErrText", "usher/api.ErrMany", "usher/api.ErrTwice", "usher/api.ErrScheme", "usher/api.ErrShort", "usher/api.ErrDry", "usher/api.ErrTaken", "usher/api.ErrFull", "usher/api.ErrDead", "usher/api.ErrLog", "usher/api.ErrLost", "usher/api.ErrDenied"], apart := false, laid := [("usher/api.ErrArg", laid_usher_api_ErrArg), ("usher/api.ErrText", laid_usher_api_ErrText), ("usher/api.ErrMany", laid_usher_api_ErrMany), ("usher/api.ErrTwice", laid_usher_api_ErrTwice), ("usher/api.ErrScheme", laid_usher_api_ErrScheme), ("usher/api.ErrShort", laid_usher_api_ErrShort), ("usher/api.ErrDry", laid_usher_api_ErrDry), ("usher/api.ErrTaken", laid_usher_api_ErrTaken), ("usher/api.ErrFull", laid_usher_api_ErrFull), ("usher/api.ErrDead", laid_usher_api_ErrDead), ("usher/api.ErrLog", laid_usher_api_ErrLog), ("usher/api.ErrLost", laid_usher_api_ErrLost), ("usher/api.ErrDenied", laid_usher_api_ErrDenied), ("usher/sums.firstWords", laid_usher_sums_firstWords), ("usher/sums.roundWords", laid_usher_sums_roundWords)] }
def SumsFoldSaid : Prop := sumsFoldRow.holds Tryd.pinned (OpenSpec.ofChange sumsFoldSpec)

/-- ITS FALSE NEIGHBOUR: 'it returns false'. Refute it at one input. -/
def sumsFoldWrong : ChangeSpec := { name := "sumsFold", fn := fun _ => fun
  | [d] => { results := [.lit (.bool false)], args := [d] }
  | _ => none }
def SumsFoldWrongFalsely : Prop := sumsFoldRow.holds Tryd.pinned (OpenSpec.ofChange sumsFoldWrong)

/- THE SECOND FORM. 'bulk': how many values and letters a reading holds, each counted each time it is reached (what is shared counts as often as it is met; a slice's spare places count too). A statement '..UptoSaid' is the law's where the arguments, and the package variables that the reading takes, are together of bulk at most 1048576: NARROWER than '..Said'. Prove '..Said' where nothing that the law and all that it calls make is longer than what came in: it says more and counts as full. Else prove '..UptoSaid'. A law counts once. -/
mutual
def uptoBulk {H : Type} : DataW H → Nat
  | .lit (.string bytes) => bytes.length + 1
  | .lit _ => 1
  | .nil => 1
  | .ptr d => uptoBulk d + 1
  | .slice elems spare => uptoBulkAll elems + uptoBulkAll spare + 1
  | .agg parts => uptoBulkAll parts + 1
  | .iface _ d => uptoBulk d + 1
  | .map entries => uptoBulkEntries entries + 1
  | .held _ => 1
def uptoBulkAll {H : Type} : List (DataW H) → Nat
  | [] => 0
  | d :: r => uptoBulk d + uptoBulkAll r
def uptoBulkEntries {H : Type} : List (Lit × DataW H) → Nat
  | [] => 0
  | x :: r => uptoBulkEntry x + uptoBulkEntries r
def uptoBulkEntry {H : Type} : Lit × DataW H → Nat
  | (.string bytes, d) => bytes.length + uptoBulk d + 1
  | (_, d) => uptoBulk d + 1
 end
def uptoSmall : (H : Type) → List (DataW H) → Bool := fun _ ds => decide (uptoBulkAll ds ≤ 1048576)
def OpenSpec.upto (s : _root_.Go.ChangeSpec) : _root_.Go.OpenSpec := { _root_.Go.OpenSpec.ofChange s with cond := some uptoSmall }

/-- 'usherlaw1.SumsCrc', WHERE WHAT IT READS IS OF BULK AT MOST 1048576: true; the input reads as it did. -/
def sumsCrcUptoRow : OpenClaim := { program := "ytkhfelfdgpfjkaadoor", sum := "9a4019561c57ed081b8f6bfc65c036670ffd359d8927f068be1b3a47027d3517", func := "usher/usherlaw1.SumsCrc", spec := "sumsCrc", named := ["usher/sums.crcRows"], apart := false, laid := [("usher/sums.crcRows", laid_usher_sums_crcRows)], narrowed := true }
def SumsCrcUptoSaid : Prop := sumsCrcUptoRow.holds Tryd.pinned (OpenSpec.upto sumsCrcSpec)

/-- 'usherlaw1.SumsMore', WHERE WHAT IT READS IS OF BULK AT MOST 1048576: true; the input reads as it did. -/
def sumsMoreUptoRow : OpenClaim := { program := "ytkhfelfdgpfjkaadoor", sum := "9a4019561c57ed081b8f6bfc65c036670ffd359d8927f068be1b3a47027d3517", func := "usher/usherlaw1.SumsMore", spec := "sumsMore", named := ["usher/sums.crcRows"], apart := false, laid := [("usher/sums.crcRows", laid_usher_sums_crcRows)], narrowed := true }
def SumsMoreUptoSaid : Prop := sumsMoreUptoRow.holds Tryd.pinned (OpenSpec.upto sumsMoreSpec)

/-- 'usherlaw1.SumsBurst', WHERE WHAT IT READS IS OF BULK AT MOST 1048576: true; the input reads as it did. -/
def sumsBurstUptoRow : OpenClaim := { program := "ytkhfelfdgpfjkaadoor", sum := "9a4019561c57ed081b8f6bfc65c036670ffd359d8927f068be1b3a47027d3517", func := "usher/usherlaw1.SumsBurst", spec := "sumsBurst", named := ["usher/sums.crcRows"], apart := false, laid := [("usher/sums.crcRows", laid_usher_sums_crcRows)], narrowed := true }
def SumsBurstUptoSaid : Prop := sumsBurstUptoRow.holds Tryd.pinned (OpenSpec.upto sumsBurstSpec)

/-- 'usherlaw1.SumsAffine', WHERE WHAT IT READS IS OF BULK AT MOST 1048576: true; the input reads as it did. -/
def sumsAffineUptoRow : OpenClaim := { program := "ytkhfelfdgpfjkaadoor", sum := "9a4019561c57ed081b8f6bfc65c036670ffd359d8927f068be1b3a47027d3517", func := "usher/usherlaw1.SumsAffine", spec := "sumsAffine", named := ["usher/sums.crcRows"], apart := false, laid := [("usher/sums.crcRows", laid_usher_sums_crcRows)], narrowed := true }
def SumsAffineUptoSaid : Prop := sumsAffineUptoRow.holds Tryd.pinned (OpenSpec.upto sumsAffineSpec)

/-- 'usherlaw1.SumsHash', WHERE WHAT IT READS IS OF BULK AT MOST 1048576: true; the input reads as it did. -/
def sumsHashUptoRow : OpenClaim := { program := "ytkhfelfdgpfjkaadoor", sum := "9a4019561c57ed081b8f6bfc65c036670ffd359d8927f068be1b3a47027d3517", func := "usher/usherlaw1.SumsHash", spec := "sumsHash", named := ["usher/sums.firstWords", "usher/sums.roundWords", "usher/usherref1.first", "usher/usherref1.round"], apart := false, laid := [("usher/sums.firstWords", laid_usher_sums_firstWords), ("usher/sums.roundWords", laid_usher_sums_roundWords), ("usher/usherref1.first", laid_usher_usherref1_first), ("usher/usherref1.round", laid_usher_usherref1_round)], narrowed := true }
def SumsHashUptoSaid : Prop := sumsHashUptoRow.holds Tryd.pinned (OpenSpec.upto sumsHashSpec)

/-- 'usherlaw1.SumsSha', WHERE WHAT IT READS IS OF BULK AT MOST 1048576: true; the input reads as it did. -/
def sumsShaUptoRow : OpenClaim := { program := "ytkhfelfdgpfjkaadoor", sum := "9a4019561c57ed081b8f6bfc65c036670ffd359d8927f068be1b3a47027d3517", func := "usher/usherlaw1.SumsSha", spec := "sumsSha", named := ["usher/sums.firstWords", "usher/sums.roundWords", "usher/usherref1.first", "usher/usherref1.round"], apart := false, laid := [("usher/sums.firstWords", laid_usher_sums_firstWords), ("usher/sums.roundWords", laid_usher_sums_roundWords), ("usher/usherref1.first", laid_usher_usherref1_first), ("usher/usherref1.round", laid_usher_usherref1_round)], narrowed := true }
def SumsShaUptoSaid : Prop := sumsShaUptoRow.holds Tryd.pinned (OpenSpec.upto sumsShaSpec)

/-- 'usherlaw1.SumsMac', WHERE WHAT IT READS IS OF BULK AT MOST 1048576: true; the input reads as it did. -/
def sumsMacUptoRow : OpenClaim := { program := "ytkhfelfdgpfjkaadoor", sum := "9a4019561c57ed081b8f6bfc65c036670ffd359d8927f068be1b3a47027d3517", func := "usher/usherlaw1.SumsMac", spec := "sumsMac", named := ["usher/sums.firstWords", "usher/sums.roundWords", "usher/usherref1.first", "usher/usherref1.round"], apart := false, laid := [("usher/sums.firstWords", laid_usher_sums_firstWords), ("usher/sums.roundWords", laid_usher_sums_roundWords), ("usher/usherref1.first", laid_usher_usherref1_first), ("usher/usherref1.round", laid_usher_usherref1_round)], narrowed := true }
def SumsMacUptoSaid : Prop := sumsMacUptoRow.holds Tryd.pinned (OpenSpec.upto sumsMacSpec)

/-- 'usherlaw1.SumsMacIs', WHERE WHAT IT READS IS OF BULK AT MOST 1048576: true; the input reads as it did. -/
def sumsMacIsUptoRow : OpenClaim := { program := "ytkhfelfdgpfjkaadoor", sum := "9a4019561c57ed081b8f6bfc65c036670ffd359d8927f068be1b3a47027d3517", func := "usher/usherlaw1.SumsMacIs", spec := "sumsMacIs", named := ["usher/sums.firstWords", "usher/sums.roundWords"], apart := false, laid := [("usher/sums.firstWords", laid_usher_sums_firstWords), ("usher/sums.roundWords", laid_usher_sums_roundWords)], narrowed := true }
def SumsMacIsUptoSaid : Prop := sumsMacIsUptoRow.holds Tryd.pinned (OpenSpec.upto sumsMacIsSpec)

/-- 'usherlaw1.SumsKeys', WHERE WHAT IT READS IS OF BULK AT MOST 1048576: true; the input reads as it did. -/
def sumsKeysUptoRow : OpenClaim := { program := "ytkhfelfdgpfjkaadoor", sum := "9a4019561c57ed081b8f6bfc65c036670ffd359d8927f068be1b3a47027d3517", func := "usher/usherlaw1.SumsKeys", spec := "sumsKeys", named := ["usher/sums.firstWords", "usher/sums.roundWords"], apart := false, laid := [("usher/sums.firstWords", laid_usher_sums_firstWords), ("usher/sums.roundWords", laid_usher_sums_roundWords)], narrowed := true }
def SumsKeysUptoSaid : Prop := sumsKeysUptoRow.holds Tryd.pinned (OpenSpec.upto sumsKeysSpec)

/-- 'usherlaw1.SumsStretch', WHERE WHAT IT READS IS OF BULK AT MOST 1048576: true; the input reads as it did. -/
def sumsStretchUptoRow : OpenClaim := { program := "ytkhfelfdgpfjkaadoor", sum := "9a4019561c57ed081b8f6bfc65c036670ffd359d8927f068be1b3a47027d3517", func := "usher/usherlaw1.SumsStretch", spec := "sumsStretch", named := ["usher/api.ErrArg", "usher/sums.firstWords", "usher/sums.roundWords", "usher/usherref1.first", "usher/usherref1.round", "usher/api.ErrText", "usher/api.ErrMany", "usher/api.ErrTwice", "usher/api.ErrScheme", "usher/api.ErrShort", "usher/api.ErrDry", "usher/api.ErrTaken", "usher/api.ErrFull", "usher/api.ErrDead", "usher/api.ErrLog", "usher/api.ErrLost", "usher/api.ErrDenied"], apart := false, laid := [("usher/api.ErrArg", laid_usher_api_ErrArg), ("usher/api.ErrText", laid_usher_api_ErrText), ("usher/api.ErrMany", laid_usher_api_ErrMany), ("usher/api.ErrTwice", laid_usher_api_ErrTwice), ("usher/api.ErrScheme", laid_usher_api_ErrScheme), ("usher/api.ErrShort", laid_usher_api_ErrShort), ("usher/api.ErrDry", laid_usher_api_ErrDry), ("usher/api.ErrTaken", laid_usher_api_ErrTaken), ("usher/api.ErrFull", laid_usher_api_ErrFull), ("usher/api.ErrDead", laid_usher_api_ErrDead), ("usher/api.ErrLog", laid_usher_api_ErrLog), ("usher/api.ErrLost", laid_usher_api_ErrLost), ("usher/api.ErrDenied", laid_usher_api_ErrDenied), ("usher/sums.firstWords", laid_usher_sums_firstWords), ("usher/sums.roundWords", laid_usher_sums_roundWords), ("usher/usherref1.first", laid_usher_usherref1_first), ("usher/usherref1.round", laid_usher_usherref1_round)], narrowed := true }
def SumsStretchUptoSaid : Prop := sumsStretchUptoRow.holds Tryd.pinned (OpenSpec.upto sumsStretchSpec)

/-- 'usherlaw1.SumsFold', WHERE WHAT IT READS IS OF BULK AT MOST 1048576: true; the input reads as it did. -/
def sumsFoldUptoRow : OpenClaim := { program := "ytkhfelfdgpfjkaadoor", sum := "9a4019561c57ed081b8f6bfc65c036670ffd359d8927f068be1b3a47027d3517", func := "usher/usherlaw1.SumsFold", spec := "sumsFold", named := ["usher/api.ErrArg", "usher/sums.firstWords", "usher/sums.roundWords", "usher/api.ErrText", "usher/api.ErrMany", "usher/api.ErrTwice", "usher/api.ErrScheme", "usher/api.ErrShort", "usher/api.ErrDry", "usher/api.ErrTaken", "usher/api.ErrFull", "usher/api.ErrDead", "usher/api.ErrLog", "usher/api.ErrLost", "usher/api.ErrDenied"], apart := false, laid := [("usher/api.ErrArg", laid_usher_api_ErrArg), ("usher/api.ErrText", laid_usher_api_ErrText), ("usher/api.ErrMany", laid_usher_api_ErrMany), ("usher/api.ErrTwice", laid_usher_api_ErrTwice), ("usher/api.ErrScheme", laid_usher_api_ErrScheme), ("usher/api.ErrShort", laid_usher_api_ErrShort), ("usher/api.ErrDry", laid_usher_api_ErrDry), ("usher/api.ErrTaken", laid_usher_api_ErrTaken), ("usher/api.ErrFull", laid_usher_api_ErrFull), ("usher/api.ErrDead", laid_usher_api_ErrDead), ("usher/api.ErrLog", laid_usher_api_ErrLog), ("usher/api.ErrLost", laid_usher_api_ErrLost), ("usher/api.ErrDenied", laid_usher_api_ErrDenied), ("usher/sums.firstWords", laid_usher_sums_firstWords), ("usher/sums.roundWords", laid_usher_sums_roundWords)], narrowed := true }
def SumsFoldUptoSaid : Prop := sumsFoldUptoRow.holds Tryd.pinned (OpenSpec.upto sumsFoldSpec)

end Rows
end Go.Proofs.YtkhfelfdgpfjkaaDoor
