/-
  DERIVED. GIVEN WITH THE SEED: THE CARDS: each row of YtoldmgpnogkjfaaDoorRows.lean that lists a variable, with what it lists TIED to the program's text (the seventh form; the later family's looks); each row that meets fmt, with fmt's text TOLD by the authors' own Lean function (tested against real Go, not proved from fmt's source: count such statements apart). THE CARD IS WHAT COUNTS. Prove the row's statement (the work); the ties are given (YtoldmgpnogkjfaaDoorTie.lean); close each card by the builder's one call (the guide's Derived/Test/ToyasCard.lean, 'card_holds'). Laid BY PROGRAM, IN A SANDBOX (cutbox-door.mjs). By AI agents, Wed Nov 11 2026. No macro, syntax, notation, axiom, sorry.
-/
import Derived.Test.YtoldmgpnogkjfaaDoorRows
import GoSem.ClaimSeven
namespace Go.Proofs.YtoldmgpnogkjfaaDoor
namespace Rows

/-- THE TIED CARD OF 'usherlaw2.RadixHexExact'. -/
def radixHexExactCard : Claim7 := { stood := { row := radixHexExactRow, standIns := [], harness := (true, "1d6568ac73bba0c1c3feeb26359954c691ef2e02c2addbf0f2b735442be145eb"), looks := true }, kinds := [], alts := [], laidByText := true, laidKinds := [.data], laidTests := true, laidLooks := .later }
def RadixHexExactCardSaid : Prop := Claim7.holds Tryd.pinned (.plain (OpenSpec.ofChange radixHexExactSpec)) radixHexExactCard

/-- THE TIED CARD OF 'usherlaw2.RadixUnHexExact'. -/
def radixUnHexExactCard : Claim7 := { stood := { row := radixUnHexExactRow, standIns := [], harness := (true, "1d6568ac73bba0c1c3feeb26359954c691ef2e02c2addbf0f2b735442be145eb"), looks := true }, kinds := [], alts := [], laidByText := true, laidKinds := [.sentinel, .sentinel, .sentinel, .sentinel, .sentinel, .sentinel, .sentinel, .sentinel, .sentinel, .sentinel, .sentinel, .sentinel, .sentinel, .data], laidTests := true, laidLooks := .later }
def RadixUnHexExactCardSaid : Prop := Claim7.holds Tryd.pinned (.plain (OpenSpec.ofChange radixUnHexExactSpec)) radixUnHexExactCard

/-- THE TIED CARD OF 'usherlaw2.RadixUnUrlExact'. -/
def radixUnUrlExactCard : Claim7 := { stood := { row := radixUnUrlExactRow, standIns := [], harness := (true, "1d6568ac73bba0c1c3feeb26359954c691ef2e02c2addbf0f2b735442be145eb"), looks := true }, kinds := [], alts := [], laidByText := true, laidKinds := [.sentinel, .sentinel, .sentinel, .sentinel, .sentinel, .sentinel, .sentinel, .sentinel, .sentinel, .sentinel, .sentinel, .sentinel, .sentinel], laidTests := true, laidLooks := .later }
def RadixUnUrlExactCardSaid : Prop := Claim7.holds Tryd.pinned (.plain (OpenSpec.ofChange radixUnUrlExactSpec)) radixUnUrlExactCard

/-- THE TIED CARD OF 'usherlaw2.RadixUnStdExact'. -/
def radixUnStdExactCard : Claim7 := { stood := { row := radixUnStdExactRow, standIns := [], harness := (true, "1d6568ac73bba0c1c3feeb26359954c691ef2e02c2addbf0f2b735442be145eb"), looks := true }, kinds := [], alts := [], laidByText := true, laidKinds := [.sentinel, .sentinel, .sentinel, .sentinel, .sentinel, .sentinel, .sentinel, .sentinel, .sentinel, .sentinel, .sentinel, .sentinel, .sentinel], laidTests := true, laidLooks := .later }
def RadixUnStdExactCardSaid : Prop := Claim7.holds Tryd.pinned (.plain (OpenSpec.ofChange radixUnStdExactSpec)) radixUnStdExactCard

/-- THE TIED CARD OF 'usherlaw2.RadixJoin'. -/
def radixJoinCard : Claim7 := { stood := { row := radixJoinRow, standIns := [], harness := (true, "1d6568ac73bba0c1c3feeb26359954c691ef2e02c2addbf0f2b735442be145eb"), looks := true }, kinds := [], alts := [], laidByText := true, laidKinds := [.data], laidTests := true, laidLooks := .later }
def RadixJoinCardSaid : Prop := Claim7.holds Tryd.pinned (.plain (OpenSpec.ofChange radixJoinSpec)) radixJoinCard

/-- THE TIED CARD OF 'usherlaw2.RadixApart'. -/
def radixApartCard : Claim7 := { stood := { row := radixApartRow, standIns := [], harness := (true, "1d6568ac73bba0c1c3feeb26359954c691ef2e02c2addbf0f2b735442be145eb"), looks := true }, kinds := [], alts := [], laidByText := true, laidKinds := [.data], laidTests := true, laidLooks := .later }
def RadixApartCardSaid : Prop := Claim7.holds Tryd.pinned (.plain (OpenSpec.ofChange radixApartSpec)) radixApartCard

/-- THE TIED CARD OF 'usherlaw2.RadixBack'. -/
def radixBackCard : Claim7 := { stood := { row := radixBackRow, standIns := [], harness := (true, "1d6568ac73bba0c1c3feeb26359954c691ef2e02c2addbf0f2b735442be145eb"), looks := true }, kinds := [], alts := [], laidByText := true, laidKinds := [.sentinel, .data], laidTests := true, laidLooks := .later }
def RadixBackCardSaid : Prop := Claim7.holds Tryd.pinned (.plain (OpenSpec.ofChange radixBackSpec)) radixBackCard

/-- THE TIED CARD OF 'usherlaw2.RadixOnly'. -/
def radixOnlyCard : Claim7 := { stood := { row := radixOnlyRow, standIns := [], harness := (true, "1d6568ac73bba0c1c3feeb26359954c691ef2e02c2addbf0f2b735442be145eb"), looks := true }, kinds := [], alts := [], laidByText := true, laidKinds := [.sentinel, .sentinel, .sentinel, .sentinel, .sentinel, .sentinel, .sentinel, .sentinel, .sentinel, .sentinel, .sentinel, .sentinel, .sentinel, .data], laidTests := true, laidLooks := .later }
def RadixOnlyCardSaid : Prop := Claim7.holds Tryd.pinned (.plain (OpenSpec.ofChange radixOnlySpec)) radixOnlyCard

/-- THE SECOND FORM's CARD OF 'usherlaw2.RadixHexExact'. -/
def radixHexExactUptoCard : Claim7 := { stood := { row := radixHexExactUptoRow, standIns := [], harness := (true, "1d6568ac73bba0c1c3feeb26359954c691ef2e02c2addbf0f2b735442be145eb"), looks := true }, kinds := [], alts := [], laidByText := true, laidKinds := [.data], laidTests := true, laidLooks := .later }
def RadixHexExactUptoCardSaid : Prop := Claim7.holds Tryd.pinned (.plain (OpenSpec.upto radixHexExactSpec)) radixHexExactUptoCard

/-- THE SECOND FORM's CARD OF 'usherlaw2.RadixUnHexExact'. -/
def radixUnHexExactUptoCard : Claim7 := { stood := { row := radixUnHexExactUptoRow, standIns := [], harness := (true, "1d6568ac73bba0c1c3feeb26359954c691ef2e02c2addbf0f2b735442be145eb"), looks := true }, kinds := [], alts := [], laidByText := true, laidKinds := [.sentinel, .sentinel, .sentinel, .sentinel, .sentinel, .sentinel, .sentinel, .sentinel, .sentinel, .sentinel, .sentinel, .sentinel, .sentinel, .data], laidTests := true, laidLooks := .later }
def RadixUnHexExactUptoCardSaid : Prop := Claim7.holds Tryd.pinned (.plain (OpenSpec.upto radixUnHexExactSpec)) radixUnHexExactUptoCard

/-- THE SECOND FORM's CARD OF 'usherlaw2.RadixUnUrlExact'. -/
def radixUnUrlExactUptoCard : Claim7 := { stood := { row := radixUnUrlExactUptoRow, standIns := [], harness := (true, "1d6568ac73bba0c1c3feeb26359954c691ef2e02c2addbf0f2b735442be145eb"), looks := true }, kinds := [], alts := [], laidByText := true, laidKinds := [.sentinel, .sentinel, .sentinel, .sentinel, .sentinel, .sentinel, .sentinel, .sentinel, .sentinel, .sentinel, .sentinel, .sentinel, .sentinel], laidTests := true, laidLooks := .later }
def RadixUnUrlExactUptoCardSaid : Prop := Claim7.holds Tryd.pinned (.plain (OpenSpec.upto radixUnUrlExactSpec)) radixUnUrlExactUptoCard

/-- THE SECOND FORM's CARD OF 'usherlaw2.RadixUnStdExact'. -/
def radixUnStdExactUptoCard : Claim7 := { stood := { row := radixUnStdExactUptoRow, standIns := [], harness := (true, "1d6568ac73bba0c1c3feeb26359954c691ef2e02c2addbf0f2b735442be145eb"), looks := true }, kinds := [], alts := [], laidByText := true, laidKinds := [.sentinel, .sentinel, .sentinel, .sentinel, .sentinel, .sentinel, .sentinel, .sentinel, .sentinel, .sentinel, .sentinel, .sentinel, .sentinel], laidTests := true, laidLooks := .later }
def RadixUnStdExactUptoCardSaid : Prop := Claim7.holds Tryd.pinned (.plain (OpenSpec.upto radixUnStdExactSpec)) radixUnStdExactUptoCard

/-- THE SECOND FORM's CARD OF 'usherlaw2.RadixJoin'. -/
def radixJoinUptoCard : Claim7 := { stood := { row := radixJoinUptoRow, standIns := [], harness := (true, "1d6568ac73bba0c1c3feeb26359954c691ef2e02c2addbf0f2b735442be145eb"), looks := true }, kinds := [], alts := [], laidByText := true, laidKinds := [.data], laidTests := true, laidLooks := .later }
def RadixJoinUptoCardSaid : Prop := Claim7.holds Tryd.pinned (.plain (OpenSpec.upto radixJoinSpec)) radixJoinUptoCard

/-- THE SECOND FORM's CARD OF 'usherlaw2.RadixApart'. -/
def radixApartUptoCard : Claim7 := { stood := { row := radixApartUptoRow, standIns := [], harness := (true, "1d6568ac73bba0c1c3feeb26359954c691ef2e02c2addbf0f2b735442be145eb"), looks := true }, kinds := [], alts := [], laidByText := true, laidKinds := [.data], laidTests := true, laidLooks := .later }
def RadixApartUptoCardSaid : Prop := Claim7.holds Tryd.pinned (.plain (OpenSpec.upto radixApartSpec)) radixApartUptoCard

/-- THE SECOND FORM's CARD OF 'usherlaw2.RadixBack'. -/
def radixBackUptoCard : Claim7 := { stood := { row := radixBackUptoRow, standIns := [], harness := (true, "1d6568ac73bba0c1c3feeb26359954c691ef2e02c2addbf0f2b735442be145eb"), looks := true }, kinds := [], alts := [], laidByText := true, laidKinds := [.sentinel, .data], laidTests := true, laidLooks := .later }
def RadixBackUptoCardSaid : Prop := Claim7.holds Tryd.pinned (.plain (OpenSpec.upto radixBackSpec)) radixBackUptoCard

/-- THE SECOND FORM's CARD OF 'usherlaw2.RadixOnly'. -/
def radixOnlyUptoCard : Claim7 := { stood := { row := radixOnlyUptoRow, standIns := [], harness := (true, "1d6568ac73bba0c1c3feeb26359954c691ef2e02c2addbf0f2b735442be145eb"), looks := true }, kinds := [], alts := [], laidByText := true, laidKinds := [.sentinel, .sentinel, .sentinel, .sentinel, .sentinel, .sentinel, .sentinel, .sentinel, .sentinel, .sentinel, .sentinel, .sentinel, .sentinel, .data], laidTests := true, laidLooks := .later }
def RadixOnlyUptoCardSaid : Prop := Claim7.holds Tryd.pinned (.plain (OpenSpec.upto radixOnlySpec)) radixOnlyUptoCard
end Rows
end Go.Proofs.YtoldmgpnogkjfaaDoor
