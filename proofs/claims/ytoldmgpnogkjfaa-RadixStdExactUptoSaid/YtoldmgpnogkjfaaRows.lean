/-
  No cell of these rows narrows 'for every input' (looked for: loops, veiled, ifaces, maps, wideKeys, modest, calm, conditions, laid).
  DERIVED. THE GIVEN ROWS OF THIS SEAT. 2 by the template 'for every input the law returns true; each argument reads behind the call as it read before'; 0 by the template 'total and deterministic' (their statements: YtoldmgpnogkjfaaTotals.lean).
  GIVEN WITH THE SEED: the statements are not yours to turn. If you find one false, say at which input.
  Laid BY PROGRAM, IN A SANDBOX (cutbox-rows.mjs): the forced cells as the released guide's own fill.sh prints them over the translation b1d4ff1f5960f50a… (all of the seat's roots in one cut). By AI agents, Wed Nov 11 2026. No macro, syntax, notation, axiom, sorry.
-/
import Derived.Test.YtoldmgpnogkjfaaChecked
import GoSem.Claim
import GoSem.ClaimJoined
import GoSem.ClaimMapViews
import Derived.JoinedTies
import Derived.KernelRfl
namespace Go.Proofs.Ytoldmgpnogkjfaa
/- THE CELL 'sum', in the pinned program and in every row, IS THE sha256 OF THE DUMP (.gsa) THAT YtoldmgpnogkjfaaProg.lean LOADS. Nothing in Lean hashes anything: it is a label: what it is worth is what the hold of that sum in a sandbox is worth. -/
noncomputable def Try.pinned : Pinned := { name := "ytoldmgpnogkjfaa", sum := "b1d4ff1f5960f50a5ab515e7245c8635f8d14b607fbfda583aa3f852409eb42b", checked := Try.checked }
namespace Rows
def none {H : Type} : Left H := { results := [], args := [] }

/-- 'usherlaw2.RadixUrlExact': WHATEVER THE INPUT: true; the input reads as it did. -/
def radixUrlExactSpec : ChangeSpec := { name := "radixUrlExact", fn := fun _ => fun
  | [d] => { results := [.lit (.bool true)], args := [d] }
  | _ => none }
def radixUrlExactRow : OpenClaim := { program := "ytoldmgpnogkjfaa", sum := "b1d4ff1f5960f50a5ab515e7245c8635f8d14b607fbfda583aa3f852409eb42b", func := "usher/usherlaw2.RadixUrlExact", spec := "radixUrlExact", inPlace := ["internal/abi.NoEscape"], apart := false }
def RadixUrlExactSaid : Prop := radixUrlExactRow.holds Try.pinned (OpenSpec.ofChange radixUrlExactSpec)

/-- ITS FALSE NEIGHBOUR: 'it returns false'. Refute it at one input. -/
def radixUrlExactWrong : ChangeSpec := { name := "radixUrlExact", fn := fun _ => fun
  | [d] => { results := [.lit (.bool false)], args := [d] }
  | _ => none }
def RadixUrlExactWrongFalsely : Prop := radixUrlExactRow.holds Try.pinned (OpenSpec.ofChange radixUrlExactWrong)

/-- 'usherlaw2.RadixStdExact': WHATEVER THE INPUT: true; the input reads as it did. -/
def radixStdExactSpec : ChangeSpec := { name := "radixStdExact", fn := fun _ => fun
  | [d] => { results := [.lit (.bool true)], args := [d] }
  | _ => none }
def radixStdExactRow : OpenClaim := { program := "ytoldmgpnogkjfaa", sum := "b1d4ff1f5960f50a5ab515e7245c8635f8d14b607fbfda583aa3f852409eb42b", func := "usher/usherlaw2.RadixStdExact", spec := "radixStdExact", inPlace := ["internal/abi.NoEscape"], apart := false }
def RadixStdExactSaid : Prop := radixStdExactRow.holds Try.pinned (OpenSpec.ofChange radixStdExactSpec)

/-- ITS FALSE NEIGHBOUR: 'it returns false'. Refute it at one input. -/
def radixStdExactWrong : ChangeSpec := { name := "radixStdExact", fn := fun _ => fun
  | [d] => { results := [.lit (.bool false)], args := [d] }
  | _ => none }
def RadixStdExactWrongFalsely : Prop := radixStdExactRow.holds Try.pinned (OpenSpec.ofChange radixStdExactWrong)

/- THE SECOND FORM. 'bulk': how many values and letters a reading holds, each counted each time it is reached (what is shared counts as often as it is met; a slice's spare places count too). A statement '..UptoSaid' is the law's where the arguments, and the package variables that the reading takes, are together of bulk at most 1048576: NARROWER than '..Said'. Prove '..Said' where nothing that the law and all that it calls make is longer than what came in: it says more and counts as full. Else prove '..UptoSaid'. A law counts once. -/
mutual
def uptoBulk {H : Type} : DataW H → Nat
  | .lit (.string bytes) => bytes.length + 1
  | .lit _ => 1
  | .nil => 1
  | .ptr d => uptoBulk d + 1
  | .slice elems spare => uptoBulkAll elems + uptoBulkAll spare + 1
  | .agg parts => uptoBulkAll parts + 1
  | .iface _ d => uptoBulk d + 1
  | .map entries => uptoBulkEntries entries + 1
  | .held _ => 1
def uptoBulkAll {H : Type} : List (DataW H) → Nat
  | [] => 0
  | d :: r => uptoBulk d + uptoBulkAll r
def uptoBulkEntries {H : Type} : List (Lit × DataW H) → Nat
  | [] => 0
  | x :: r => uptoBulkEntry x + uptoBulkEntries r
def uptoBulkEntry {H : Type} : Lit × DataW H → Nat
  | (.string bytes, d) => bytes.length + uptoBulk d + 1
  | (_, d) => uptoBulk d + 1
 end
def uptoSmall : (H : Type) → List (DataW H) → Bool := fun _ ds => decide (uptoBulkAll ds ≤ 1048576)
def OpenSpec.upto (s : _root_.Go.ChangeSpec) : _root_.Go.OpenSpec := { _root_.Go.OpenSpec.ofChange s with cond := some uptoSmall }

/-- 'usherlaw2.RadixUrlExact', WHERE WHAT IT READS IS OF BULK AT MOST 1048576: true; the input reads as it did. -/
def radixUrlExactUptoRow : OpenClaim := { program := "ytoldmgpnogkjfaa", sum := "b1d4ff1f5960f50a5ab515e7245c8635f8d14b607fbfda583aa3f852409eb42b", func := "usher/usherlaw2.RadixUrlExact", spec := "radixUrlExact", inPlace := ["internal/abi.NoEscape"], apart := false, narrowed := true }
def RadixUrlExactUptoSaid : Prop := radixUrlExactUptoRow.holds Try.pinned (OpenSpec.upto radixUrlExactSpec)

/-- 'usherlaw2.RadixStdExact', WHERE WHAT IT READS IS OF BULK AT MOST 1048576: true; the input reads as it did. -/
def radixStdExactUptoRow : OpenClaim := { program := "ytoldmgpnogkjfaa", sum := "b1d4ff1f5960f50a5ab515e7245c8635f8d14b607fbfda583aa3f852409eb42b", func := "usher/usherlaw2.RadixStdExact", spec := "radixStdExact", inPlace := ["internal/abi.NoEscape"], apart := false, narrowed := true }
def RadixStdExactUptoSaid : Prop := radixStdExactUptoRow.holds Try.pinned (OpenSpec.upto radixStdExactSpec)

end Rows
end Go.Proofs.Ytoldmgpnogkjfaa
