/-
  NARROWER THAN 'FOR EVERY INPUT', by the rows' own cells (each row's printed sentence says how): RadixHexExact: laid · RadixUnHexExact: laid · RadixUnUrlExact: laid · RadixUnStdExact: laid · RadixJoin: laid · RadixApart: laid · RadixBack: laid · RadixOnly: laid.
  DERIVED. THE GIVEN ROWS OF THIS SEAT. 8 by the template 'for every input the law returns true; each argument reads behind the call as it read before'; 0 by the template 'total and deterministic' (their statements: YtoldmgpnogkjfaaDoorTotals.lean).
  GIVEN WITH THE SEED: the statements are not yours to turn. If you find one false, say at which input.
  Laid BY PROGRAM, IN A SANDBOX (cutbox-rows.mjs): the forced cells as the released guide's own fill.sh prints them over the translation 75148213bc714f68… (all of the seat's roots in one cut). By AI agents, Wed Nov 11 2026. No macro, syntax, notation, axiom, sorry.
-/
import Derived.Test.YtoldmgpnogkjfaaDoorChecked
import GoSem.Claim
import GoSem.ClaimJoined
import GoSem.ClaimMapViews
import Derived.JoinedTies
import Derived.KernelRfl
namespace Go.Proofs.YtoldmgpnogkjfaaDoor
/- THE CELL 'sum', in the pinned program and in every row, IS THE sha256 OF THE DUMP (.gsa) THAT YtoldmgpnogkjfaaDoorProg.lean LOADS. Nothing in Lean hashes anything: it is a label: what it is worth is what the hold of that sum in a sandbox is worth. -/
noncomputable def Tryd.pinned : Pinned := { name := "ytoldmgpnogkjfaadoor", sum := "75148213bc714f6817619798c2f105d994cd92ce2c2568090c0bff13f1f1a84d", checked := Tryd.checked }
namespace Rows
def none {H : Type} : Left H := { results := [], args := [] }

/- WHAT THE LISTED PACKAGE-LEVEL VARIABLES READ AS WHEN THE CALL BEGINS. Each datum BY PROGRAM (the guide's laid-datum.mjs) off the statement by which the dump's own 'gosem.cut.vars' lays the variable. In a bare row this is a premise. The card (YtoldmgpnogkjfaaDoorCards.lean) ties it to the program's text. -/
def laid_usher_radix_hexDigits {H : Type} : DataW H := .agg [.lit (.int .u8 48), .lit (.int .u8 49), .lit (.int .u8 50), .lit (.int .u8 51), .lit (.int .u8 52), .lit (.int .u8 53), .lit (.int .u8 54), .lit (.int .u8 55), .lit (.int .u8 56), .lit (.int .u8 57), .lit (.int .u8 97), .lit (.int .u8 98), .lit (.int .u8 99), .lit (.int .u8 100), .lit (.int .u8 101), .lit (.int .u8 102)]
def laid_usher_api_ErrArg {H : Type} : DataW H := .iface "*errors.errorString" (.ptr (.agg [.lit (.string [97, 114, 103, 117, 109, 101, 110, 116])]))
def laid_usher_api_ErrText {H : Type} : DataW H := .iface "*errors.errorString" (.ptr (.agg [.lit (.string [116, 101, 120, 116])]))
def laid_usher_api_ErrMany {H : Type} : DataW H := .iface "*errors.errorString" (.ptr (.agg [.lit (.string [109, 97, 110, 121])]))
def laid_usher_api_ErrTwice {H : Type} : DataW H := .iface "*errors.errorString" (.ptr (.agg [.lit (.string [116, 119, 105, 99, 101])]))
def laid_usher_api_ErrScheme {H : Type} : DataW H := .iface "*errors.errorString" (.ptr (.agg [.lit (.string [115, 99, 104, 101, 109, 101])]))
def laid_usher_api_ErrShort {H : Type} : DataW H := .iface "*errors.errorString" (.ptr (.agg [.lit (.string [115, 104, 111, 114, 116])]))
def laid_usher_api_ErrDry {H : Type} : DataW H := .iface "*errors.errorString" (.ptr (.agg [.lit (.string [100, 114, 121])]))
def laid_usher_api_ErrTaken {H : Type} : DataW H := .iface "*errors.errorString" (.ptr (.agg [.lit (.string [116, 97, 107, 101, 110])]))
def laid_usher_api_ErrFull {H : Type} : DataW H := .iface "*errors.errorString" (.ptr (.agg [.lit (.string [102, 117, 108, 108])]))
def laid_usher_api_ErrDead {H : Type} : DataW H := .iface "*errors.errorString" (.ptr (.agg [.lit (.string [100, 101, 97, 100])]))
def laid_usher_api_ErrLog {H : Type} : DataW H := .iface "*errors.errorString" (.ptr (.agg [.lit (.string [108, 111, 103])]))
def laid_usher_api_ErrLost {H : Type} : DataW H := .iface "*errors.errorString" (.ptr (.agg [.lit (.string [108, 111, 115, 116])]))
def laid_usher_api_ErrDenied {H : Type} : DataW H := .iface "*errors.errorString" (.ptr (.agg [.lit (.string [100, 101, 110, 105, 101, 100])]))

/-- 'usherlaw2.RadixHexExact': WHATEVER THE INPUT: true; the input reads as it did. -/
def radixHexExactSpec : ChangeSpec := { name := "radixHexExact", fn := fun _ => fun
  | [d] => { results := [.lit (.bool true)], args := [d] }
  | _ => none }
def radixHexExactRow : OpenClaim := { program := "ytoldmgpnogkjfaadoor", sum := "75148213bc714f6817619798c2f105d994cd92ce2c2568090c0bff13f1f1a84d", func := "usher/usherlaw2.RadixHexExact", spec := "radixHexExact", inPlace := ["internal/abi.NoEscape"], named := ["usher/radix.hexDigits"], apart := false, laid := [("usher/radix.hexDigits", laid_usher_radix_hexDigits)] }
def RadixHexExactSaid : Prop := radixHexExactRow.holds Tryd.pinned (OpenSpec.ofChange radixHexExactSpec)

/-- ITS FALSE NEIGHBOUR: 'it returns false'. Refute it at one input. -/
def radixHexExactWrong : ChangeSpec := { name := "radixHexExact", fn := fun _ => fun
  | [d] => { results := [.lit (.bool false)], args := [d] }
  | _ => none }
def RadixHexExactWrongFalsely : Prop := radixHexExactRow.holds Tryd.pinned (OpenSpec.ofChange radixHexExactWrong)

/-- 'usherlaw2.RadixUnHexExact': WHATEVER THE INPUT: true; the input reads as it did. -/
def radixUnHexExactSpec : ChangeSpec := { name := "radixUnHexExact", fn := fun _ => fun
  | [d] => { results := [.lit (.bool true)], args := [d] }
  | _ => none }
def radixUnHexExactRow : OpenClaim := { program := "ytoldmgpnogkjfaadoor", sum := "75148213bc714f6817619798c2f105d994cd92ce2c2568090c0bff13f1f1a84d", func := "usher/usherlaw2.RadixUnHexExact", spec := "radixUnHexExact", inPlace := ["internal/abi.NoEscape"], named := ["usher/api.ErrText", "usher/radix.hexDigits", "usher/api.ErrArg", "usher/api.ErrMany", "usher/api.ErrTwice", "usher/api.ErrScheme", "usher/api.ErrShort", "usher/api.ErrDry", "usher/api.ErrTaken", "usher/api.ErrFull", "usher/api.ErrDead", "usher/api.ErrLog", "usher/api.ErrLost", "usher/api.ErrDenied"], apart := false, laid := [("usher/api.ErrArg", laid_usher_api_ErrArg), ("usher/api.ErrText", laid_usher_api_ErrText), ("usher/api.ErrMany", laid_usher_api_ErrMany), ("usher/api.ErrTwice", laid_usher_api_ErrTwice), ("usher/api.ErrScheme", laid_usher_api_ErrScheme), ("usher/api.ErrShort", laid_usher_api_ErrShort), ("usher/api.ErrDry", laid_usher_api_ErrDry), ("usher/api.ErrTaken", laid_usher_api_ErrTaken), ("usher/api.ErrFull", laid_usher_api_ErrFull), ("usher/api.ErrDead", laid_usher_api_ErrDead), ("usher/api.ErrLog", laid_usher_api_ErrLog), ("usher/api.ErrLost", laid_usher_api_ErrLost), ("usher/api.ErrDenied", laid_usher_api_ErrDenied), ("usher/radix.hexDigits", laid_usher_radix_hexDigits)] }
def RadixUnHexExactSaid : Prop := radixUnHexExactRow.holds Tryd.pinned (OpenSpec.ofChange radixUnHexExactSpec)

/-- ITS FALSE NEIGHBOUR: 'it returns false'. Refute it at one input. -/
def radixUnHexExactWrong : ChangeSpec := { name := "radixUnHexExact", fn := fun _ => fun
  | [d] => { results := [.lit (.bool false)], args := [d] }
  | _ => none }
def RadixUnHexExactWrongFalsely : Prop := radixUnHexExactRow.holds Tryd.pinned (OpenSpec.ofChange radixUnHexExactWrong)

/-- 'usherlaw2.RadixUnUrlExact': WHATEVER THE INPUT: true; the input reads as it did. -/
def radixUnUrlExactSpec : ChangeSpec := { name := "radixUnUrlExact", fn := fun _ => fun
  | [d] => { results := [.lit (.bool true)], args := [d] }
  | _ => none }
def radixUnUrlExactRow : OpenClaim := { program := "ytoldmgpnogkjfaadoor", sum := "75148213bc714f6817619798c2f105d994cd92ce2c2568090c0bff13f1f1a84d", func := "usher/usherlaw2.RadixUnUrlExact", spec := "radixUnUrlExact", inPlace := ["internal/abi.NoEscape"], named := ["usher/api.ErrText", "usher/api.ErrArg", "usher/api.ErrMany", "usher/api.ErrTwice", "usher/api.ErrScheme", "usher/api.ErrShort", "usher/api.ErrDry", "usher/api.ErrTaken", "usher/api.ErrFull", "usher/api.ErrDead", "usher/api.ErrLog", "usher/api.ErrLost", "usher/api.ErrDenied"], apart := false, laid := [("usher/api.ErrArg", laid_usher_api_ErrArg), ("usher/api.ErrText", laid_usher_api_ErrText), ("usher/api.ErrMany", laid_usher_api_ErrMany), ("usher/api.ErrTwice", laid_usher_api_ErrTwice), ("usher/api.ErrScheme", laid_usher_api_ErrScheme), ("usher/api.ErrShort", laid_usher_api_ErrShort), ("usher/api.ErrDry", laid_usher_api_ErrDry), ("usher/api.ErrTaken", laid_usher_api_ErrTaken), ("usher/api.ErrFull", laid_usher_api_ErrFull), ("usher/api.ErrDead", laid_usher_api_ErrDead), ("usher/api.ErrLog", laid_usher_api_ErrLog), ("usher/api.ErrLost", laid_usher_api_ErrLost), ("usher/api.ErrDenied", laid_usher_api_ErrDenied)] }
def RadixUnUrlExactSaid : Prop := radixUnUrlExactRow.holds Tryd.pinned (OpenSpec.ofChange radixUnUrlExactSpec)

/-- ITS FALSE NEIGHBOUR: 'it returns false'. Refute it at one input. -/
def radixUnUrlExactWrong : ChangeSpec := { name := "radixUnUrlExact", fn := fun _ => fun
  | [d] => { results := [.lit (.bool false)], args := [d] }
  | _ => none }
def RadixUnUrlExactWrongFalsely : Prop := radixUnUrlExactRow.holds Tryd.pinned (OpenSpec.ofChange radixUnUrlExactWrong)

/-- 'usherlaw2.RadixUnStdExact': WHATEVER THE INPUT: true; the input reads as it did. -/
def radixUnStdExactSpec : ChangeSpec := { name := "radixUnStdExact", fn := fun _ => fun
  | [d] => { results := [.lit (.bool true)], args := [d] }
  | _ => none }
def radixUnStdExactRow : OpenClaim := { program := "ytoldmgpnogkjfaadoor", sum := "75148213bc714f6817619798c2f105d994cd92ce2c2568090c0bff13f1f1a84d", func := "usher/usherlaw2.RadixUnStdExact", spec := "radixUnStdExact", inPlace := ["internal/abi.NoEscape"], named := ["usher/api.ErrText", "usher/api.ErrArg", "usher/api.ErrMany", "usher/api.ErrTwice", "usher/api.ErrScheme", "usher/api.ErrShort", "usher/api.ErrDry", "usher/api.ErrTaken", "usher/api.ErrFull", "usher/api.ErrDead", "usher/api.ErrLog", "usher/api.ErrLost", "usher/api.ErrDenied"], apart := false, laid := [("usher/api.ErrArg", laid_usher_api_ErrArg), ("usher/api.ErrText", laid_usher_api_ErrText), ("usher/api.ErrMany", laid_usher_api_ErrMany), ("usher/api.ErrTwice", laid_usher_api_ErrTwice), ("usher/api.ErrScheme", laid_usher_api_ErrScheme), ("usher/api.ErrShort", laid_usher_api_ErrShort), ("usher/api.ErrDry", laid_usher_api_ErrDry), ("usher/api.ErrTaken", laid_usher_api_ErrTaken), ("usher/api.ErrFull", laid_usher_api_ErrFull), ("usher/api.ErrDead", laid_usher_api_ErrDead), ("usher/api.ErrLog", laid_usher_api_ErrLog), ("usher/api.ErrLost", laid_usher_api_ErrLost), ("usher/api.ErrDenied", laid_usher_api_ErrDenied)] }
def RadixUnStdExactSaid : Prop := radixUnStdExactRow.holds Tryd.pinned (OpenSpec.ofChange radixUnStdExactSpec)

/-- ITS FALSE NEIGHBOUR: 'it returns false'. Refute it at one input. -/
def radixUnStdExactWrong : ChangeSpec := { name := "radixUnStdExact", fn := fun _ => fun
  | [d] => { results := [.lit (.bool false)], args := [d] }
  | _ => none }
def RadixUnStdExactWrongFalsely : Prop := radixUnStdExactRow.holds Tryd.pinned (OpenSpec.ofChange radixUnStdExactWrong)

/-- 'usherlaw2.RadixJoin': WHATEVER THE INPUT: true; the input reads as it did. -/
def radixJoinSpec : ChangeSpec := { name := "radixJoin", fn := fun _ => fun
  | [d] => { results := [.lit (.bool true)], args := [d] }
  | _ => none }
def radixJoinRow : OpenClaim := { program := "ytoldmgpnogkjfaadoor", sum := "75148213bc714f6817619798c2f105d994cd92ce2c2568090c0bff13f1f1a84d", func := "usher/usherlaw2.RadixJoin", spec := "radixJoin", inPlace := ["internal/abi.NoEscape"], named := ["usher/radix.hexDigits"], apart := false, laid := [("usher/radix.hexDigits", laid_usher_radix_hexDigits)] }
def RadixJoinSaid : Prop := radixJoinRow.holds Tryd.pinned (OpenSpec.ofChange radixJoinSpec)

/-- ITS FALSE NEIGHBOUR: 'it returns false'. Refute it at one input. -/
def radixJoinWrong : ChangeSpec := { name := "radixJoin", fn := fun _ => fun
  | [d] => { results := [.lit (.bool false)], args := [d] }
  | _ => none }
def RadixJoinWrongFalsely : Prop := radixJoinRow.holds Tryd.pinned (OpenSpec.ofChange radixJoinWrong)

/-- 'usherlaw2.RadixApart': WHATEVER THE INPUT: true; the input reads as it did. -/
def radixApartSpec : ChangeSpec := { name := "radixApart", fn := fun _ => fun
  | [d] => { results := [.lit (.bool true)], args := [d] }
  | _ => none }
def radixApartRow : OpenClaim := { program := "ytoldmgpnogkjfaadoor", sum := "75148213bc714f6817619798c2f105d994cd92ce2c2568090c0bff13f1f1a84d", func := "usher/usherlaw2.RadixApart", spec := "radixApart", inPlace := ["internal/abi.NoEscape"], named := ["usher/radix.hexDigits"], apart := false, laid := [("usher/radix.hexDigits", laid_usher_radix_hexDigits)] }
def RadixApartSaid : Prop := radixApartRow.holds Tryd.pinned (OpenSpec.ofChange radixApartSpec)

/-- ITS FALSE NEIGHBOUR: 'it returns false'. Refute it at one input. -/
def radixApartWrong : ChangeSpec := { name := "radixApart", fn := fun _ => fun
  | [d] => { results := [.lit (.bool false)], args := [d] }
  | _ => none }
def RadixApartWrongFalsely : Prop := radixApartRow.holds Tryd.pinned (OpenSpec.ofChange radixApartWrong)

/-- 'usherlaw2.RadixBack': WHATEVER THE INPUT: true; the input reads as it did. -/
def radixBackSpec : ChangeSpec := { name := "radixBack", fn := fun _ => fun
  | [d] => { results := [.lit (.bool true)], args := [d] }
  | _ => none }
def radixBackRow : OpenClaim := { program := "ytoldmgpnogkjfaadoor", sum := "75148213bc714f6817619798c2f105d994cd92ce2c2568090c0bff13f1f1a84d", func := "usher/usherlaw2.RadixBack", spec := "radixBack", inPlace := ["internal/abi.NoEscape"], named := ["usher/radix.hexDigits", "usher/api.ErrText"], apart := false, laid := [("usher/api.ErrText", laid_usher_api_ErrText), ("usher/radix.hexDigits", laid_usher_radix_hexDigits)] }
def RadixBackSaid : Prop := radixBackRow.holds Tryd.pinned (OpenSpec.ofChange radixBackSpec)

/-- ITS FALSE NEIGHBOUR: 'it returns false'. Refute it at one input. -/
def radixBackWrong : ChangeSpec := { name := "radixBack", fn := fun _ => fun
  | [d] => { results := [.lit (.bool false)], args := [d] }
  | _ => none }
def RadixBackWrongFalsely : Prop := radixBackRow.holds Tryd.pinned (OpenSpec.ofChange radixBackWrong)

/-- 'usherlaw2.RadixOnly': WHATEVER THE INPUT: true; the input reads as it did. -/
def radixOnlySpec : ChangeSpec := { name := "radixOnly", fn := fun _ => fun
  | [d] => { results := [.lit (.bool true)], args := [d] }
  | _ => none }
def radixOnlyRow : OpenClaim := { program := "ytoldmgpnogkjfaadoor", sum := "75148213bc714f6817619798c2f105d994cd92ce2c2568090c0bff13f1f1a84d", func := "usher/usherlaw2.RadixOnly", spec := "radixOnly", inPlace := ["internal/abi.NoEscape"], named := ["usher/radix.hexDigits", "usher/api.ErrText", "usher/api.ErrArg", "usher/api.ErrMany", "usher/api.ErrTwice", "usher/api.ErrScheme", "usher/api.ErrShort", "usher/api.ErrDry", "usher/api.ErrTaken", "usher/api.ErrFull", "usher/api.ErrDead", "usher/api.ErrLog", "usher/api.ErrLost", "usher/api.ErrDenied"], apart := false, laid := [("usher/api.ErrArg", laid_usher_api_ErrArg), ("usher/api.ErrText", laid_usher_api_ErrText), ("usher/api.ErrMany", laid_usher_api_ErrMany), ("usher/api.ErrTwice", laid_usher_api_ErrTwice), ("usher/api.ErrScheme", laid_usher_api_ErrScheme), ("usher/api.ErrShort", laid_usher_api_ErrShort), ("usher/api.ErrDry", laid_usher_api_ErrDry), ("usher/api.ErrTaken", laid_usher_api_ErrTaken), ("usher/api.ErrFull", laid_usher_api_ErrFull), ("usher/api.ErrDead", laid_usher_api_ErrDead), ("usher/api.ErrLog", laid_usher_api_ErrLog), ("usher/api.ErrLost", laid_usher_api_ErrLost), ("usher/api.ErrDenied", laid_usher_api_ErrDenied), ("usher/radix.hexDigits", laid_usher_radix_hexDigits)] }
def RadixOnlySaid : Prop := radixOnlyRow.holds Tryd.pinned (OpenSpec.ofChange radixOnlySpec)

/-- ITS FALSE NEIGHBOUR: 'it returns false'. Refute it at one input. -/
def radixOnlyWrong : ChangeSpec := { name := "radixOnly", fn := fun _ => fun
  | [d] => { results := [.lit (.bool false)], args := [d] }
  | _ => none }
def RadixOnlyWrongFalsely : Prop := radixOnlyRow.holds Tryd.pinned (OpenSpec.ofChange radixOnlyWrong)

/- THE SECOND FORM. 'bulk': how many values and letters a reading holds, each counted each time it is reached (what is shared counts as often as it is met; a slice's spare places count too). A statement '..UptoSaid' is the law's where the arguments, and the package variables that the reading takes, are together of bulk at most 1048576: NARROWER than '..Said'. Prove '..Said' where nothing that the law and all that it calls make is longer than what came in: it says more and counts as full. Else prove '..UptoSaid'. A law counts once. -/
mutual
def uptoBulk {H : Type} : DataW H → Nat
  | .lit (.string bytes) => bytes.length + 1
  | .lit _ => 1
  | .nil => 1
  | .ptr d => uptoBulk d + 1
  | .slice elems spare => uptoBulkAll elems + uptoBulkAll spare + 1
  | .agg parts => uptoBulkAll parts + 1
  | .iface _ d => uptoBulk d + 1
  | .map entries => uptoBulkEntries entries + 1
  | .held _ => 1
def uptoBulkAll {H : Type} : List (DataW H) → Nat
  | [] => 0
  | d :: r => uptoBulk d + uptoBulkAll r
def uptoBulkEntries {H : Type} : List (Lit × DataW H) → Nat
  | [] => 0
  | x :: r => uptoBulkEntry x + uptoBulkEntries r
def uptoBulkEntry {H : Type} : Lit × DataW H → Nat
  | (.string bytes, d) => bytes.length + uptoBulk d + 1
  | (_, d) => uptoBulk d + 1
 end
def uptoSmall : (H : Type) → List (DataW H) → Bool := fun _ ds => decide (uptoBulkAll ds ≤ 1048576)
def OpenSpec.upto (s : _root_.Go.ChangeSpec) : _root_.Go.OpenSpec := { _root_.Go.OpenSpec.ofChange s with cond := some uptoSmall }

/-- 'usherlaw2.RadixHexExact', WHERE WHAT IT READS IS OF BULK AT MOST 1048576: true; the input reads as it did. -/
def radixHexExactUptoRow : OpenClaim := { program := "ytoldmgpnogkjfaadoor", sum := "75148213bc714f6817619798c2f105d994cd92ce2c2568090c0bff13f1f1a84d", func := "usher/usherlaw2.RadixHexExact", spec := "radixHexExact", inPlace := ["internal/abi.NoEscape"], named := ["usher/radix.hexDigits"], apart := false, laid := [("usher/radix.hexDigits", laid_usher_radix_hexDigits)], narrowed := true }
def RadixHexExactUptoSaid : Prop := radixHexExactUptoRow.holds Tryd.pinned (OpenSpec.upto radixHexExactSpec)

/-- 'usherlaw2.RadixUnHexExact', WHERE WHAT IT READS IS OF BULK AT MOST 1048576: true; the input reads as it did. -/
def radixUnHexExactUptoRow : OpenClaim := { program := "ytoldmgpnogkjfaadoor", sum := "75148213bc714f6817619798c2f105d994cd92ce2c2568090c0bff13f1f1a84d", func := "usher/usherlaw2.RadixUnHexExact", spec := "radixUnHexExact", inPlace := ["internal/abi.NoEscape"], named := ["usher/api.ErrText", "usher/radix.hexDigits", "usher/api.ErrArg", "usher/api.ErrMany", "usher/api.ErrTwice", "usher/api.ErrScheme", "usher/api.ErrShort", "usher/api.ErrDry", "usher/api.ErrTaken", "usher/api.ErrFull", "usher/api.ErrDead", "usher/api.ErrLog", "usher/api.ErrLost", "usher/api.ErrDenied"], apart := false, laid := [("usher/api.ErrArg", laid_usher_api_ErrArg), ("usher/api.ErrText", laid_usher_api_ErrText), ("usher/api.ErrMany", laid_usher_api_ErrMany), ("usher/api.ErrTwice", laid_usher_api_ErrTwice), ("usher/api.ErrScheme", laid_usher_api_ErrScheme), ("usher/api.ErrShort", laid_usher_api_ErrShort), ("usher/api.ErrDry", laid_usher_api_ErrDry), ("usher/api.ErrTaken", laid_usher_api_ErrTaken), ("usher/api.ErrFull", laid_usher_api_ErrFull), ("usher/api.ErrDead", laid_usher_api_ErrDead), ("usher/api.ErrLog", laid_usher_api_ErrLog), ("usher/api.ErrLost", laid_usher_api_ErrLost), ("usher/api.ErrDenied", laid_usher_api_ErrDenied), ("usher/radix.hexDigits", laid_usher_radix_hexDigits)], narrowed := true }
def RadixUnHexExactUptoSaid : Prop := radixUnHexExactUptoRow.holds Tryd.pinned (OpenSpec.upto radixUnHexExactSpec)

/-- 'usherlaw2.RadixUnUrlExact', WHERE WHAT IT READS IS OF BULK AT MOST 1048576: true; the input reads as it did. -/
def radixUnUrlExactUptoRow : OpenClaim := { program := "ytoldmgpnogkjfaadoor", sum := "75148213bc714f6817619798c2f105d994cd92ce2c2568090c0bff13f1f1a84d", func := "usher/usherlaw2.RadixUnUrlExact", spec := "radixUnUrlExact", inPlace := ["internal/abi.NoEscape"], named := ["usher/api.ErrText", "usher/api.ErrArg", "usher/api.ErrMany", "usher/api.ErrTwice", "usher/api.ErrScheme", "usher/api.ErrShort", "usher/api.ErrDry", "usher/api.ErrTaken", "usher/api.ErrFull", "usher/api.ErrDead", "usher/api.ErrLog", "usher/api.ErrLost", "usher/api.ErrDenied"], apart := false, laid := [("usher/api.ErrArg", laid_usher_api_ErrArg), ("usher/api.ErrText", laid_usher_api_ErrText), ("usher/api.ErrMany", laid_usher_api_ErrMany), ("usher/api.ErrTwice", laid_usher_api_ErrTwice), ("usher/api.ErrScheme", laid_usher_api_ErrScheme), ("usher/api.ErrShort", laid_usher_api_ErrShort), ("usher/api.ErrDry", laid_usher_api_ErrDry), ("usher/api.ErrTaken", laid_usher_api_ErrTaken), ("usher/api.ErrFull", laid_usher_api_ErrFull), ("usher/api.ErrDead", laid_usher_api_ErrDead), ("usher/api.ErrLog", laid_usher_api_ErrLog), ("usher/api.ErrLost", laid_usher_api_ErrLost), ("usher/api.ErrDenied", laid_usher_api_ErrDenied)], narrowed := true }
def RadixUnUrlExactUptoSaid : Prop := radixUnUrlExactUptoRow.holds Tryd.pinned (OpenSpec.upto radixUnUrlExactSpec)

/-- 'usherlaw2.RadixUnStdExact', WHERE WHAT IT READS IS OF BULK AT MOST 1048576: true; the input reads as it did. -/
def radixUnStdExactUptoRow : OpenClaim := { program := "ytoldmgpnogkjfaadoor", sum := "75148213bc714f6817619798c2f105d994cd92ce2c2568090c0bff13f1f1a84d", func := "usher/usherlaw2.RadixUnStdExact", spec := "radixUnStdExact", inPlace := ["internal/abi.NoEscape"], named := ["usher/api.ErrText", "usher/api.ErrArg", "usher/api.ErrMany", "usher/api.ErrTwice", "usher/api.ErrScheme", "usher/api.ErrShort", "usher/api.ErrDry", "usher/api.ErrTaken", "usher/api.ErrFull", "usher/api.ErrDead", "usher/api.ErrLog", "usher/api.ErrLost", "usher/api.ErrDenied"], apart := false, laid := [("usher/api.ErrArg", laid_usher_api_ErrArg), ("usher/api.ErrText", laid_usher_api_ErrText), ("usher/api.ErrMany", laid_usher_api_ErrMany), ("usher/api.ErrTwice", laid_usher_api_ErrTwice), ("usher/api.ErrScheme", laid_usher_api_ErrScheme), ("usher/api.ErrShort", laid_usher_api_ErrShort), ("usher/api.ErrDry", laid_usher_api_ErrDry), ("usher/api.ErrTaken", laid_usher_api_ErrTaken), ("usher/api.ErrFull", laid_usher_api_ErrFull), ("usher/api.ErrDead", laid_usher_api_ErrDead), ("usher/api.ErrLog", laid_usher_api_ErrLog), ("usher/api.ErrLost", laid_usher_api_ErrLost), ("usher/api.ErrDenied", laid_usher_api_ErrDenied)], narrowed := true }
def RadixUnStdExactUptoSaid : Prop := radixUnStdExactUptoRow.holds Tryd.pinned (OpenSpec.upto radixUnStdExactSpec)

/-- 'usherlaw2.RadixJoin', WHERE WHAT IT READS IS OF BULK AT MOST 1048576: true; the input reads as it did. -/
def radixJoinUptoRow : OpenClaim := { program := "ytoldmgpnogkjfaadoor", sum := "75148213bc714f6817619798c2f105d994cd92ce2c2568090c0bff13f1f1a84d", func := "usher/usherlaw2.RadixJoin", spec := "radixJoin", inPlace := ["internal/abi.NoEscape"], named := ["usher/radix.hexDigits"], apart := false, laid := [("usher/radix.hexDigits", laid_usher_radix_hexDigits)], narrowed := true }
def RadixJoinUptoSaid : Prop := radixJoinUptoRow.holds Tryd.pinned (OpenSpec.upto radixJoinSpec)

/-- 'usherlaw2.RadixApart', WHERE WHAT IT READS IS OF BULK AT MOST 1048576: true; the input reads as it did. -/
def radixApartUptoRow : OpenClaim := { program := "ytoldmgpnogkjfaadoor", sum := "75148213bc714f6817619798c2f105d994cd92ce2c2568090c0bff13f1f1a84d", func := "usher/usherlaw2.RadixApart", spec := "radixApart", inPlace := ["internal/abi.NoEscape"], named := ["usher/radix.hexDigits"], apart := false, laid := [("usher/radix.hexDigits", laid_usher_radix_hexDigits)], narrowed := true }
def RadixApartUptoSaid : Prop := radixApartUptoRow.holds Tryd.pinned (OpenSpec.upto radixApartSpec)

/-- 'usherlaw2.RadixBack', WHERE WHAT IT READS IS OF BULK AT MOST 1048576: true; the input reads as it did. -/
def radixBackUptoRow : OpenClaim := { program := "ytoldmgpnogkjfaadoor", sum := "75148213bc714f6817619798c2f105d994cd92ce2c2568090c0bff13f1f1a84d", func := "usher/usherlaw2.RadixBack", spec := "radixBack", inPlace := ["internal/abi.NoEscape"], named := ["usher/radix.hexDigits", "usher/api.ErrText"], apart := false, laid := [("usher/api.ErrText", laid_usher_api_ErrText), ("usher/radix.hexDigits", laid_usher_radix_hexDigits)], narrowed := true }
def RadixBackUptoSaid : Prop := radixBackUptoRow.holds Tryd.pinned (OpenSpec.upto radixBackSpec)

/-- 'usherlaw2.RadixOnly', WHERE WHAT IT READS IS OF BULK AT MOST 1048576: true; the input reads as it did. -/
def radixOnlyUptoRow : OpenClaim := { program := "ytoldmgpnogkjfaadoor", sum := "75148213bc714f6817619798c2f105d994cd92ce2c2568090c0bff13f1f1a84d", func := "usher/usherlaw2.RadixOnly", spec := "radixOnly", inPlace := ["internal/abi.NoEscape"], named := ["usher/radix.hexDigits", "usher/api.ErrText", "usher/api.ErrArg", "usher/api.ErrMany", "usher/api.ErrTwice", "usher/api.ErrScheme", "usher/api.ErrShort", "usher/api.ErrDry", "usher/api.ErrTaken", "usher/api.ErrFull", "usher/api.ErrDead", "usher/api.ErrLog", "usher/api.ErrLost", "usher/api.ErrDenied"], apart := false, laid := [("usher/api.ErrArg", laid_usher_api_ErrArg), ("usher/api.ErrText", laid_usher_api_ErrText), ("usher/api.ErrMany", laid_usher_api_ErrMany), ("usher/api.ErrTwice", laid_usher_api_ErrTwice), ("usher/api.ErrScheme", laid_usher_api_ErrScheme), ("usher/api.ErrShort", laid_usher_api_ErrShort), ("usher/api.ErrDry", laid_usher_api_ErrDry), ("usher/api.ErrTaken", laid_usher_api_ErrTaken), ("usher/api.ErrFull", laid_usher_api_ErrFull), ("usher/api.ErrDead", laid_usher_api_ErrDead), ("usher/api.ErrLog", laid_usher_api_ErrLog), ("usher/api.ErrLost", laid_usher_api_ErrLost), ("usher/api.ErrDenied", laid_usher_api_ErrDenied), ("usher/radix.hexDigits", laid_usher_radix_hexDigits)], narrowed := true }
def RadixOnlyUptoSaid : Prop := radixOnlyUptoRow.holds Tryd.pinned (OpenSpec.upto radixOnlySpec)

end Rows
end Go.Proofs.YtoldmgpnogkjfaaDoor
