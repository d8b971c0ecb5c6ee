/-
  NARROWER THAN 'FOR EVERY INPUT', by the rows' own cells (each row's printed sentence says how): Names: laid · PkceGrammar: laid · PkceSource: laid · PkceOnce: laid.
  DERIVED. THE GIVEN ROWS OF THIS SEAT. 4 by the template 'for every input the law returns true; each argument reads behind the call as it read before'; 0 by the template 'total and deterministic' (their statements: YtmmniapkajbdhaaDoorTotals.lean).
  GIVEN WITH THE SEED: the statements are not yours to turn. If you find one false, say at which input.
  Laid BY PROGRAM, IN A SANDBOX (cutbox-rows.mjs): the forced cells as the released guide's own fill.sh prints them over the translation a6b26fca9831093c… (all of the seat's roots in one cut). By AI agents, Wed Nov 11 2026. No macro, syntax, notation, axiom, sorry.
-/
import Derived.Test.YtmmniapkajbdhaaDoorChecked
import GoSem.Claim
import GoSem.ClaimJoined
import GoSem.ClaimMapViews
import Derived.JoinedTies
import Derived.KernelRfl
namespace Go.Proofs.YtmmniapkajbdhaaDoor
/- THE CELL 'sum', in the pinned program and in every row, IS THE sha256 OF THE DUMP (.gsa) THAT YtmmniapkajbdhaaDoorProg.lean LOADS. Nothing in Lean hashes anything: it is a label: what it is worth is what the hold of that sum in a sandbox is worth. -/
noncomputable def Tryd.pinned : Pinned := { name := "ytmmniapkajbdhaadoor", sum := "a6b26fca9831093c770cf2e869c85685be15187805f3446a0ea5ddb4e0dcd81c", checked := Tryd.checked }
namespace Rows
def none {H : Type} : Left H := { results := [], args := [] }

/- WHAT THE LISTED PACKAGE-LEVEL VARIABLES READ AS WHEN THE CALL BEGINS. Each datum BY PROGRAM (the guide's laid-datum.mjs) off the statement by which the dump's own 'gosem.cut.vars' lays the variable. In a bare row this is a premise. The card (YtmmniapkajbdhaaDoorCards.lean) ties it to the program's text. -/
def laid_usher_api_ErrArg {H : Type} : DataW H := .iface "*errors.errorString" (.ptr (.agg [.lit (.string [97, 114, 103, 117, 109, 101, 110, 116])]))
def laid_usher_api_ErrText {H : Type} : DataW H := .iface "*errors.errorString" (.ptr (.agg [.lit (.string [116, 101, 120, 116])]))
def laid_usher_api_ErrMany {H : Type} : DataW H := .iface "*errors.errorString" (.ptr (.agg [.lit (.string [109, 97, 110, 121])]))
def laid_usher_api_ErrTwice {H : Type} : DataW H := .iface "*errors.errorString" (.ptr (.agg [.lit (.string [116, 119, 105, 99, 101])]))
def laid_usher_api_ErrScheme {H : Type} : DataW H := .iface "*errors.errorString" (.ptr (.agg [.lit (.string [115, 99, 104, 101, 109, 101])]))
def laid_usher_api_ErrShort {H : Type} : DataW H := .iface "*errors.errorString" (.ptr (.agg [.lit (.string [115, 104, 111, 114, 116])]))
def laid_usher_api_ErrDry {H : Type} : DataW H := .iface "*errors.errorString" (.ptr (.agg [.lit (.string [100, 114, 121])]))
def laid_usher_api_ErrTaken {H : Type} : DataW H := .iface "*errors.errorString" (.ptr (.agg [.lit (.string [116, 97, 107, 101, 110])]))
def laid_usher_api_ErrFull {H : Type} : DataW H := .iface "*errors.errorString" (.ptr (.agg [.lit (.string [102, 117, 108, 108])]))
def laid_usher_api_ErrDead {H : Type} : DataW H := .iface "*errors.errorString" (.ptr (.agg [.lit (.string [100, 101, 97, 100])]))
def laid_usher_api_ErrLog {H : Type} : DataW H := .iface "*errors.errorString" (.ptr (.agg [.lit (.string [108, 111, 103])]))
def laid_usher_api_ErrLost {H : Type} : DataW H := .iface "*errors.errorString" (.ptr (.agg [.lit (.string [108, 111, 115, 116])]))
def laid_usher_api_ErrDenied {H : Type} : DataW H := .iface "*errors.errorString" (.ptr (.agg [.lit (.string [100, 101, 110, 105, 101, 100])]))
def laid_usher_usherlaw0_limits {H : Type} : DataW H := .agg [.lit (.int .i64 1000), .lit (.int .i64 1000), .lit (.int .i64 32), .lit (.int .i64 32), .lit (.int .i64 16), .lit (.int .i64 64), .lit (.int .i64 64), .lit (.int .i64 32), .lit (.int .i64 16), .lit (.int .i64 512), .lit (.int .i64 512), .lit (.int .i64 8), .lit (.int .i64 64), .lit (.int .i64 64), .lit (.int .i64 64), .lit (.int .i64 1073741824), .lit (.int .i64 1073741824), .lit (.int .i64 65536), .lit (.int .i64 65536), .lit (.int .i64 1048576), .lit (.int .i64 262144), .lit (.int .i64 32), .lit (.int .i64 1024), .lit (.int .i64 43), .lit (.int .i64 4), .lit (.int .i64 8192), .lit (.int .i64 8), .lit (.int .i64 16), .lit (.int .i64 1099511627776), .lit (.int .i64 10), .lit (.int .i64 256), .lit (.int .i64 253402300799)]
def laid_usher_usherlaw0_wanted {H : Type} : DataW H := .agg [.lit (.int .i64 1000), .lit (.int .i64 1000), .lit (.int .i64 32), .lit (.int .i64 32), .lit (.int .i64 16), .lit (.int .i64 64), .lit (.int .i64 64), .lit (.int .i64 32), .lit (.int .i64 16), .lit (.int .i64 512), .lit (.int .i64 512), .lit (.int .i64 8), .lit (.int .i64 64), .lit (.int .i64 64), .lit (.int .i64 64), .lit (.int .i64 1073741824), .lit (.int .i64 1073741824), .lit (.int .i64 65536), .lit (.int .i64 65536), .lit (.int .i64 1048576), .lit (.int .i64 262144), .lit (.int .i64 32), .lit (.int .i64 1024), .lit (.int .i64 43), .lit (.int .i64 4), .lit (.int .i64 8192), .lit (.int .i64 8), .lit (.int .i64 16), .lit (.int .i64 1099511627776), .lit (.int .i64 10), .lit (.int .i64 256), .lit (.int .i64 253402300799)]
def laid_usher_usherlaw0_kinds {H : Type} : DataW H := .agg [.lit (.int .i64 1), .lit (.int .i64 2), .lit (.int .i64 3), .lit (.int .i64 1), .lit (.int .i64 2), .lit (.int .i64 3), .lit (.int .i64 4), .lit (.int .i64 1), .lit (.int .i64 2), .lit (.int .i64 3), .lit (.int .i64 4), .lit (.int .i64 5), .lit (.int .i64 6), .lit (.int .i64 7), .lit (.int .i64 8), .lit (.int .i64 9), .lit (.int .i64 10), .lit (.int .i64 11), .lit (.int .i64 1), .lit (.int .i64 2), .lit (.int .i64 3), .lit (.int .i64 4), .lit (.int .i64 5), .lit (.int .i64 6), .lit (.int .i64 1), .lit (.int .i64 2), .lit (.int .i64 3), .lit (.int .i64 4), .lit (.int .i64 5), .lit (.int .i64 6), .lit (.int .i64 0), .lit (.int .i64 1), .lit (.int .i64 2), .lit (.int .i64 3)]
def laid_usher_usherlaw0_numbers {H : Type} : DataW H := .agg [.lit (.int .i64 1), .lit (.int .i64 2), .lit (.int .i64 3), .lit (.int .i64 1), .lit (.int .i64 2), .lit (.int .i64 3), .lit (.int .i64 4), .lit (.int .i64 1), .lit (.int .i64 2), .lit (.int .i64 3), .lit (.int .i64 4), .lit (.int .i64 5), .lit (.int .i64 6), .lit (.int .i64 7), .lit (.int .i64 8), .lit (.int .i64 9), .lit (.int .i64 10), .lit (.int .i64 11), .lit (.int .i64 1), .lit (.int .i64 2), .lit (.int .i64 3), .lit (.int .i64 4), .lit (.int .i64 5), .lit (.int .i64 6), .lit (.int .i64 1), .lit (.int .i64 2), .lit (.int .i64 3), .lit (.int .i64 4), .lit (.int .i64 5), .lit (.int .i64 6), .lit (.int .i64 0), .lit (.int .i64 1), .lit (.int .i64 2), .lit (.int .i64 3)]
def laid_usher_usherlaw0_words {H : Type} : DataW H := .agg [.lit (.string [105, 110, 118, 97, 108, 105, 100, 95, 114, 101, 113, 117, 101, 115, 116]), .lit (.string [105, 110, 118, 97, 108, 105, 100, 95, 99, 108, 105, 101, 110, 116]), .lit (.string [105, 110, 118, 97, 108, 105, 100, 95, 103, 114, 97, 110, 116]), .lit (.string [105, 110, 118, 97, 108, 105, 100, 95, 115, 99, 111, 112, 101]), .lit (.string [117, 110, 97, 117, 116, 104, 111, 114, 105, 122, 101, 100, 95, 99, 108, 105, 101, 110, 116]), .lit (.string [117, 110, 115, 117, 112, 112, 111, 114, 116, 101, 100, 95, 103, 114, 97, 110, 116, 95, 116, 121, 112, 101]), .lit (.string [117, 110, 115, 117, 112, 112, 111, 114, 116, 101, 100, 95, 114, 101, 115, 112, 111, 110, 115, 101, 95, 116, 121, 112, 101]), .lit (.string [97, 99, 99, 101, 115, 115, 95, 100, 101, 110, 105, 101, 100]), .lit (.string [115, 101, 114, 118, 101, 114, 95, 101, 114, 114, 111, 114]), .lit (.string [116, 101, 109, 112, 111, 114, 97, 114, 105, 108, 121, 95, 117, 110, 97, 118, 97, 105, 108, 97, 98, 108, 101]), .lit (.string [111, 102, 102, 108, 105, 110, 101, 95, 97, 99, 99, 101, 115, 115]), .lit (.string [105, 110, 118, 97, 108, 105, 100, 95, 116, 111, 107, 101, 110]), .lit (.string [105, 110, 115, 117, 102, 102, 105, 99, 105, 101, 110, 116, 95, 115, 99, 111, 112, 101])]
def laid_usher_usherlaw0_spelt {H : Type} : DataW H := .agg [.lit (.string [105, 110, 118, 97, 108, 105, 100, 95, 114, 101, 113, 117, 101, 115, 116]), .lit (.string [105, 110, 118, 97, 108, 105, 100, 95, 99, 108, 105, 101, 110, 116]), .lit (.string [105, 110, 118, 97, 108, 105, 100, 95, 103, 114, 97, 110, 116]), .lit (.string [105, 110, 118, 97, 108, 105, 100, 95, 115, 99, 111, 112, 101]), .lit (.string [117, 110, 97, 117, 116, 104, 111, 114, 105, 122, 101, 100, 95, 99, 108, 105, 101, 110, 116]), .lit (.string [117, 110, 115, 117, 112, 112, 111, 114, 116, 101, 100, 95, 103, 114, 97, 110, 116, 95, 116, 121, 112, 101]), .lit (.string [117, 110, 115, 117, 112, 112, 111, 114, 116, 101, 100, 95, 114, 101, 115, 112, 111, 110, 115, 101, 95, 116, 121, 112, 101]), .lit (.string [97, 99, 99, 101, 115, 115, 95, 100, 101, 110, 105, 101, 100]), .lit (.string [115, 101, 114, 118, 101, 114, 95, 101, 114, 114, 111, 114]), .lit (.string [116, 101, 109, 112, 111, 114, 97, 114, 105, 108, 121, 95, 117, 110, 97, 118, 97, 105, 108, 97, 98, 108, 101]), .lit (.string [111, 102, 102, 108, 105, 110, 101, 95, 97, 99, 99, 101, 115, 115]), .lit (.string [105, 110, 118, 97, 108, 105, 100, 95, 116, 111, 107, 101, 110]), .lit (.string [105, 110, 115, 117, 102, 102, 105, 99, 105, 101, 110, 116, 95, 115, 99, 111, 112, 101])]
def laid_usher_pkce_unreserved {H : Type} : DataW H := .agg [.lit (.int .u32 0), .lit (.int .u32 67067904), .lit (.int .u32 2281701374), .lit (.int .u32 1207959550), .lit (.int .u32 0), .lit (.int .u32 0), .lit (.int .u32 0), .lit (.int .u32 0)]

/-- 'usherlaw0.Names': WHATEVER THE INPUT: true; the input reads as it did. -/
def namesSpec : ChangeSpec := { name := "names", fn := fun _ => fun
  | [] => { results := [.lit (.bool true)], args := [] }
  | _ => none }
def namesRow : OpenClaim := { program := "ytmmniapkajbdhaadoor", sum := "a6b26fca9831093c770cf2e869c85685be15187805f3446a0ea5ddb4e0dcd81c", func := "usher/usherlaw0.Names", spec := "names", named := ["usher/usherlaw0.limits", "usher/usherlaw0.wanted", "usher/usherlaw0.kinds", "usher/usherlaw0.numbers", "usher/usherlaw0.words", "usher/usherlaw0.spelt", "usher/api.ErrArg", "usher/api.ErrText", "usher/api.ErrMany", "usher/api.ErrTwice", "usher/api.ErrScheme", "usher/api.ErrShort", "usher/api.ErrDry", "usher/api.ErrTaken", "usher/api.ErrFull", "usher/api.ErrDead", "usher/api.ErrLog", "usher/api.ErrLost", "usher/api.ErrDenied"], apart := false, laid := [("usher/api.ErrArg", laid_usher_api_ErrArg), ("usher/api.ErrText", laid_usher_api_ErrText), ("usher/api.ErrMany", laid_usher_api_ErrMany), ("usher/api.ErrTwice", laid_usher_api_ErrTwice), ("usher/api.ErrScheme", laid_usher_api_ErrScheme), ("usher/api.ErrShort", laid_usher_api_ErrShort), ("usher/api.ErrDry", laid_usher_api_ErrDry), ("usher/api.ErrTaken", laid_usher_api_ErrTaken), ("usher/api.ErrFull", laid_usher_api_ErrFull), ("usher/api.ErrDead", laid_usher_api_ErrDead), ("usher/api.ErrLog", laid_usher_api_ErrLog), ("usher/api.ErrLost", laid_usher_api_ErrLost), ("usher/api.ErrDenied", laid_usher_api_ErrDenied), ("usher/usherlaw0.limits", laid_usher_usherlaw0_limits), ("usher/usherlaw0.wanted", laid_usher_usherlaw0_wanted), ("usher/usherlaw0.kinds", laid_usher_usherlaw0_kinds), ("usher/usherlaw0.numbers", laid_usher_usherlaw0_numbers), ("usher/usherlaw0.words", laid_usher_usherlaw0_words), ("usher/usherlaw0.spelt", laid_usher_usherlaw0_spelt)] }
def NamesSaid : Prop := namesRow.holds Tryd.pinned (OpenSpec.ofChange namesSpec)

/-- ITS FALSE NEIGHBOUR: 'it returns false'. Refute it at one input. -/
def namesWrong : ChangeSpec := { name := "names", fn := fun _ => fun
  | [] => { results := [.lit (.bool false)], args := [] }
  | _ => none }
def NamesWrongFalsely : Prop := namesRow.holds Tryd.pinned (OpenSpec.ofChange namesWrong)

/-- 'usherlaw10.PkceGrammar': WHATEVER THE INPUT: true; the input reads as it did. -/
def pkceGrammarSpec : ChangeSpec := { name := "pkceGrammar", fn := fun _ => fun
  | [d] => { results := [.lit (.bool true)], args := [d] }
  | _ => none }
def pkceGrammarRow : OpenClaim := { program := "ytmmniapkajbdhaadoor", sum := "a6b26fca9831093c770cf2e869c85685be15187805f3446a0ea5ddb4e0dcd81c", func := "usher/usherlaw10.PkceGrammar", spec := "pkceGrammar", named := ["usher/pkce.unreserved"], apart := false, laid := [("usher/pkce.unreserved", laid_usher_pkce_unreserved)] }
def PkceGrammarSaid : Prop := pkceGrammarRow.holds Tryd.pinned (OpenSpec.ofChange pkceGrammarSpec)

/-- ITS FALSE NEIGHBOUR: 'it returns false'. Refute it at one input. -/
def pkceGrammarWrong : ChangeSpec := { name := "pkceGrammar", fn := fun _ => fun
  | [d] => { results := [.lit (.bool false)], args := [d] }
  | _ => none }
def PkceGrammarWrongFalsely : Prop := pkceGrammarRow.holds Tryd.pinned (OpenSpec.ofChange pkceGrammarWrong)

/-- 'usherlaw10.PkceSource': WHATEVER THE INPUT: true; the input reads as it did. -/
def pkceSourceSpec : ChangeSpec := { name := "pkceSource", fn := fun _ => fun
  | [d] => { results := [.lit (.bool true)], args := [d] }
  | _ => none }
def pkceSourceRow : OpenClaim := { program := "ytmmniapkajbdhaadoor", sum := "a6b26fca9831093c770cf2e869c85685be15187805f3446a0ea5ddb4e0dcd81c", func := "usher/usherlaw10.PkceSource", spec := "pkceSource", inPlace := ["internal/abi.NoEscape"], unfollowed := true, recurses := true, named := ["usher/api.ErrArg", "usher/api.ErrMany", "usher/api.ErrText", "usher/api.ErrTwice", "usher/api.ErrScheme", "usher/api.ErrShort", "usher/api.ErrDry", "usher/api.ErrTaken", "usher/api.ErrFull", "usher/api.ErrDead", "usher/api.ErrLog", "usher/api.ErrLost", "usher/api.ErrDenied"], apart := false, laid := [("usher/api.ErrArg", laid_usher_api_ErrArg), ("usher/api.ErrText", laid_usher_api_ErrText), ("usher/api.ErrMany", laid_usher_api_ErrMany), ("usher/api.ErrTwice", laid_usher_api_ErrTwice), ("usher/api.ErrScheme", laid_usher_api_ErrScheme), ("usher/api.ErrShort", laid_usher_api_ErrShort), ("usher/api.ErrDry", laid_usher_api_ErrDry), ("usher/api.ErrTaken", laid_usher_api_ErrTaken), ("usher/api.ErrFull", laid_usher_api_ErrFull), ("usher/api.ErrDead", laid_usher_api_ErrDead), ("usher/api.ErrLog", laid_usher_api_ErrLog), ("usher/api.ErrLost", laid_usher_api_ErrLost), ("usher/api.ErrDenied", laid_usher_api_ErrDenied)] }
def PkceSourceSaid : Prop := pkceSourceRow.holds Tryd.pinned (OpenSpec.ofChange pkceSourceSpec)

/-- ITS FALSE NEIGHBOUR: 'it returns false'. Refute it at one input. -/
def pkceSourceWrong : ChangeSpec := { name := "pkceSource", fn := fun _ => fun
  | [d] => { results := [.lit (.bool false)], args := [d] }
  | _ => none }
def PkceSourceWrongFalsely : Prop := pkceSourceRow.holds Tryd.pinned (OpenSpec.ofChange pkceSourceWrong)

/-- 'usherlaw10.PkceOnce': WHATEVER THE INPUT: true; the input reads as it did. -/
def pkceOnceSpec : ChangeSpec := { name := "pkceOnce", fn := fun _ => fun
  | [d] => { results := [.lit (.bool true)], args := [d] }
  | _ => none }
def pkceOnceRow : OpenClaim := { program := "ytmmniapkajbdhaadoor", sum := "a6b26fca9831093c770cf2e869c85685be15187805f3446a0ea5ddb4e0dcd81c", func := "usher/usherlaw10.PkceOnce", spec := "pkceOnce", inPlace := ["internal/abi.NoEscape"], unfollowed := true, recurses := true, named := ["usher/api.ErrArg", "usher/api.ErrMany", "usher/api.ErrDry", "usher/api.ErrTaken", "usher/api.ErrText", "usher/api.ErrTwice", "usher/api.ErrScheme", "usher/api.ErrShort", "usher/api.ErrFull", "usher/api.ErrDead", "usher/api.ErrLog", "usher/api.ErrLost", "usher/api.ErrDenied"], apart := false, laid := [("usher/api.ErrArg", laid_usher_api_ErrArg), ("usher/api.ErrText", laid_usher_api_ErrText), ("usher/api.ErrMany", laid_usher_api_ErrMany), ("usher/api.ErrTwice", laid_usher_api_ErrTwice), ("usher/api.ErrScheme", laid_usher_api_ErrScheme), ("usher/api.ErrShort", laid_usher_api_ErrShort), ("usher/api.ErrDry", laid_usher_api_ErrDry), ("usher/api.ErrTaken", laid_usher_api_ErrTaken), ("usher/api.ErrFull", laid_usher_api_ErrFull), ("usher/api.ErrDead", laid_usher_api_ErrDead), ("usher/api.ErrLog", laid_usher_api_ErrLog), ("usher/api.ErrLost", laid_usher_api_ErrLost), ("usher/api.ErrDenied", laid_usher_api_ErrDenied)] }
def PkceOnceSaid : Prop := pkceOnceRow.holds Tryd.pinned (OpenSpec.ofChange pkceOnceSpec)

/-- ITS FALSE NEIGHBOUR: 'it returns false'. Refute it at one input. -/
def pkceOnceWrong : ChangeSpec := { name := "pkceOnce", fn := fun _ => fun
  | [d] => { results := [.lit (.bool false)], args := [d] }
  | _ => none }
def PkceOnceWrongFalsely : Prop := pkceOnceRow.holds Tryd.pinned (OpenSpec.ofChange pkceOnceWrong)

/- THE SECOND FORM. 'bulk': how many values and letters a reading holds, each counted each time it is reached (what is shared counts as often as it is met; a slice's spare places count too). A statement '..UptoSaid' is the law's where the arguments, and the package variables that the reading takes, are together of bulk at most 1048576: NARROWER than '..Said'. Prove '..Said' where nothing that the law and all that it calls make is longer than what came in: it says more and counts as full. Else prove '..UptoSaid'. A law counts once. -/
mutual
def uptoBulk {H : Type} : DataW H → Nat
  | .lit (.string bytes) => bytes.length + 1
  | .lit _ => 1
  | .nil => 1
  | .ptr d => uptoBulk d + 1
  | .slice elems spare => uptoBulkAll elems + uptoBulkAll spare + 1
  | .agg parts => uptoBulkAll parts + 1
  | .iface _ d => uptoBulk d + 1
  | .map entries => uptoBulkEntries entries + 1
  | .held _ => 1
def uptoBulkAll {H : Type} : List (DataW H) → Nat
  | [] => 0
  | d :: r => uptoBulk d + uptoBulkAll r
def uptoBulkEntries {H : Type} : List (Lit × DataW H) → Nat
  | [] => 0
  | x :: r => uptoBulkEntry x + uptoBulkEntries r
def uptoBulkEntry {H : Type} : Lit × DataW H → Nat
  | (.string bytes, d) => bytes.length + uptoBulk d + 1
  | (_, d) => uptoBulk d + 1
 end
def uptoSmall : (H : Type) → List (DataW H) → Bool := fun _ ds => decide (uptoBulkAll ds ≤ 1048576)
def OpenSpec.upto (s : _root_.Go.ChangeSpec) : _root_.Go.OpenSpec := { _root_.Go.OpenSpec.ofChange s with cond := some uptoSmall }

/-- 'usherlaw0.Names', WHERE WHAT IT READS IS OF BULK AT MOST 1048576: true; the input reads as it did. -/
def namesUptoRow : OpenClaim := { program := "ytmmniapkajbdhaadoor", sum := "a6b26fca9831093c770cf2e869c85685be15187805f3446a0ea5ddb4e0dcd81c", func := "usher/usherlaw0.Names", spec := "names", named := ["usher/usherlaw0.limits", "usher/usherlaw0.wanted", "usher/usherlaw0.kinds", "usher/usherlaw0.numbers", "usher/usherlaw0.words", "usher/usherlaw0.spelt", "usher/api.ErrArg", "usher/api.ErrText", "usher/api.ErrMany", "usher/api.ErrTwice", "usher/api.ErrScheme", "usher/api.ErrShort", "usher/api.ErrDry", "usher/api.ErrTaken", "usher/api.ErrFull", "usher/api.ErrDead", "usher/api.ErrLog", "usher/api.ErrLost", "usher/api.ErrDenied"], apart := false, laid := [("usher/api.ErrArg", laid_usher_api_ErrArg), ("usher/api.ErrText", laid_usher_api_ErrText), ("usher/api.ErrMany", laid_usher_api_ErrMany), ("usher/api.ErrTwice", laid_usher_api_ErrTwice), ("usher/api.ErrScheme", laid_usher_api_ErrScheme), ("usher/api.ErrShort", laid_usher_api_ErrShort), ("usher/api.ErrDry", laid_usher_api_ErrDry), ("usher/api.ErrTaken", laid_usher_api_ErrTaken), ("usher/api.ErrFull", laid_usher_api_ErrFull), ("usher/api.ErrDead", laid_usher_api_ErrDead), ("usher/api.ErrLog", laid_usher_api_ErrLog), ("usher/api.ErrLost", laid_usher_api_ErrLost), ("usher/api.ErrDenied", laid_usher_api_ErrDenied), ("usher/usherlaw0.limits", laid_usher_usherlaw0_limits), ("usher/usherlaw0.wanted", laid_usher_usherlaw0_wanted), ("usher/usherlaw0.kinds", laid_usher_usherlaw0_kinds), ("usher/usherlaw0.numbers", laid_usher_usherlaw0_numbers), ("usher/usherlaw0.words", laid_usher_usherlaw0_words), ("usher/usherlaw0.spelt", laid_usher_usherlaw0_spelt)], narrowed := true }
def NamesUptoSaid : Prop := namesUptoRow.holds Tryd.pinned (OpenSpec.upto namesSpec)

/-- 'usherlaw10.PkceGrammar', WHERE WHAT IT READS IS OF BULK AT MOST 1048576: true; the input reads as it did. -/
def pkceGrammarUptoRow : OpenClaim := { program := "ytmmniapkajbdhaadoor", sum := "a6b26fca9831093c770cf2e869c85685be15187805f3446a0ea5ddb4e0dcd81c", func := "usher/usherlaw10.PkceGrammar", spec := "pkceGrammar", named := ["usher/pkce.unreserved"], apart := false, laid := [("usher/pkce.unreserved", laid_usher_pkce_unreserved)], narrowed := true }
def PkceGrammarUptoSaid : Prop := pkceGrammarUptoRow.holds Tryd.pinned (OpenSpec.upto pkceGrammarSpec)

/-- 'usherlaw10.PkceSource', WHERE WHAT IT READS IS OF BULK AT MOST 1048576: true; the input reads as it did. -/
def pkceSourceUptoRow : OpenClaim := { program := "ytmmniapkajbdhaadoor", sum := "a6b26fca9831093c770cf2e869c85685be15187805f3446a0ea5ddb4e0dcd81c", func := "usher/usherlaw10.PkceSource", spec := "pkceSource", inPlace := ["internal/abi.NoEscape"], unfollowed := true, recurses := true, named := ["usher/api.ErrArg", "usher/api.ErrMany", "usher/api.ErrText", "usher/api.ErrTwice", "usher/api.ErrScheme", "usher/api.ErrShort", "usher/api.ErrDry", "usher/api.ErrTaken", "usher/api.ErrFull", "usher/api.ErrDead", "usher/api.ErrLog", "usher/api.ErrLost", "usher/api.ErrDenied"], apart := false, laid := [("usher/api.ErrArg", laid_usher_api_ErrArg), ("usher/api.ErrText", laid_usher_api_ErrText), ("usher/api.ErrMany", laid_usher_api_ErrMany), ("usher/api.ErrTwice", laid_usher_api_ErrTwice), ("usher/api.ErrScheme", laid_usher_api_ErrScheme), ("usher/api.ErrShort", laid_usher_api_ErrShort), ("usher/api.ErrDry", laid_usher_api_ErrDry), ("usher/api.ErrTaken", laid_usher_api_ErrTaken), ("usher/api.ErrFull", laid_usher_api_ErrFull), ("usher/api.ErrDead", laid_usher_api_ErrDead), ("usher/api.ErrLog", laid_usher_api_ErrLog), ("usher/api.ErrLost", laid_usher_api_ErrLost), ("usher/api.ErrDenied", laid_usher_api_ErrDenied)], narrowed := true }
def PkceSourceUptoSaid : Prop := pkceSourceUptoRow.holds Tryd.pinned (OpenSpec.upto pkceSourceSpec)

/-- 'usherlaw10.PkceOnce', WHERE WHAT IT READS IS OF BULK AT MOST 1048576: true; the input reads as it did. -/
def pkceOnceUptoRow : OpenClaim := { program := "ytmmniapkajbdhaadoor", sum := "a6b26fca9831093c770cf2e869c85685be15187805f3446a0ea5ddb4e0dcd81c", func := "usher/usherlaw10.PkceOnce", spec := "pkceOnce", inPlace := ["internal/abi.NoEscape"], unfollowed := true, recurses := true, named := ["usher/api.ErrArg", "usher/api.ErrMany", "usher/api.ErrDry", "usher/api.ErrTaken", "usher/api.ErrText", "usher/api.ErrTwice", "usher/api.ErrScheme", "usher/api.ErrShort", "usher/api.ErrFull", "usher/api.ErrDead", "usher/api.ErrLog", "usher/api.ErrLost", "usher/api.ErrDenied"], apart := false, laid := [("usher/api.ErrArg", laid_usher_api_ErrArg), ("usher/api.ErrText", laid_usher_api_ErrText), ("usher/api.ErrMany", laid_usher_api_ErrMany), ("usher/api.ErrTwice", laid_usher_api_ErrTwice), ("usher/api.ErrScheme", laid_usher_api_ErrScheme), ("usher/api.ErrShort", laid_usher_api_ErrShort), ("usher/api.ErrDry", laid_usher_api_ErrDry), ("usher/api.ErrTaken", laid_usher_api_ErrTaken), ("usher/api.ErrFull", laid_usher_api_ErrFull), ("usher/api.ErrDead", laid_usher_api_ErrDead), ("usher/api.ErrLog", laid_usher_api_ErrLog), ("usher/api.ErrLost", laid_usher_api_ErrLost), ("usher/api.ErrDenied", laid_usher_api_ErrDenied)], narrowed := true }
def PkceOnceUptoSaid : Prop := pkceOnceUptoRow.holds Tryd.pinned (OpenSpec.upto pkceOnceSpec)

end Rows
end Go.Proofs.YtmmniapkajbdhaaDoor
