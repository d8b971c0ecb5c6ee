/-
  DERIVED. GIVEN WITH THE SEED: THE CARDS: each row of YtmkifaddfnodhaaDoorRows.lean that lists a variable, with what it lists TIED to the program's text (the seventh form; the later family's looks); each row that meets fmt, with fmt's text TOLD by the authors' own Lean function (tested against real Go, not proved from fmt's source: count such statements apart). THE CARD IS WHAT COUNTS. Prove the row's statement (the work); the ties are given (YtmkifaddfnodhaaDoorTie.lean); close each card by the builder's one call (the guide's Derived/Test/ToyasCard.lean, 'card_holds'). Laid BY PROGRAM, IN A SANDBOX (cutbox-door.mjs). By AI agents, Wed Nov 11 2026. No macro, syntax, notation, axiom, sorry.
-/
import Derived.Test.YtmkifaddfnodhaaDoorRows
import GoSem.ClaimSeven
namespace Go.Proofs.YtmkifaddfnodhaaDoor
namespace Rows

/-- THE TIED CARD OF 'usherlaw2.RadixDigest'. -/
def radixDigestCard : Claim7 := { stood := { row := radixDigestRow, standIns := [], harness := (true, "b9c92e8f74764cbc61b7e9518d9a8e2e7304386e10c74e7923b013c95794bd6c"), looks := true }, kinds := [], alts := [], laidByText := true, laidKinds := [.sentinel, .sentinel, .sentinel, .sentinel, .sentinel, .sentinel, .sentinel, .sentinel, .sentinel, .sentinel, .sentinel, .sentinel, .sentinel, .data, .data, .data], laidTests := true, laidLooks := .later }
def RadixDigestCardSaid : Prop := Claim7.holds Tryd.pinned (.plain (OpenSpec.ofChange radixDigestSpec)) radixDigestCard

/-- THE TIED CARD OF 'usherlaw10.PkceS256'. -/
def pkceS256Card : Claim7 := { stood := { row := pkceS256Row, standIns := [], harness := (true, "b9c92e8f74764cbc61b7e9518d9a8e2e7304386e10c74e7923b013c95794bd6c"), looks := true }, kinds := [], alts := [], laidByText := true, laidKinds := [.data, .data, .data, .data], laidTests := true, laidLooks := .later }
def PkceS256CardSaid : Prop := Claim7.holds Tryd.pinned (.plain (OpenSpec.ofChange pkceS256Spec)) pkceS256Card

/-- THE TIED CARD OF 'usherlaw10.PkceSeal'. -/
def pkceSealCard : Claim7 := { stood := { row := pkceSealRow, standIns := [], harness := (true, "b9c92e8f74764cbc61b7e9518d9a8e2e7304386e10c74e7923b013c95794bd6c"), looks := true }, kinds := [], alts := [], laidByText := true, laidKinds := [.sentinel, .sentinel, .sentinel, .sentinel, .sentinel, .sentinel, .sentinel, .sentinel, .sentinel, .sentinel, .sentinel, .sentinel, .sentinel, .data, .data, .data, .data], laidTests := true, laidLooks := .later }
def PkceSealCardSaid : Prop := Claim7.holds Tryd.pinned (.plain (OpenSpec.ofChange pkceSealSpec)) pkceSealCard

/-- THE TIED CARD OF 'usherlaw10.PkcePassword'. -/
def pkcePasswordCard : Claim7 := { stood := { row := pkcePasswordRow, standIns := [], harness := (true, "b9c92e8f74764cbc61b7e9518d9a8e2e7304386e10c74e7923b013c95794bd6c"), looks := true }, kinds := [], alts := [], laidByText := true, laidKinds := [.sentinel, .data, .data, .data, .data], laidTests := true, laidLooks := .later }
def PkcePasswordCardSaid : Prop := Claim7.holds Tryd.pinned (.plain (OpenSpec.ofChange pkcePasswordSpec)) pkcePasswordCard

/-- THE TIED CARD OF 'usherlaw10.PkceOpens'. -/
def pkceOpensCard : Claim7 := { stood := { row := pkceOpensRow, standIns := [], harness := (true, "b9c92e8f74764cbc61b7e9518d9a8e2e7304386e10c74e7923b013c95794bd6c"), looks := true }, kinds := [], alts := [], laidByText := true, laidKinds := [.sentinel, .data, .data], laidTests := true, laidLooks := .later }
def PkceOpensCardSaid : Prop := Claim7.holds Tryd.pinned (.plain (OpenSpec.ofChange pkceOpensSpec)) pkceOpensCard

/-- THE TIED CARD OF 'usherlaw10.PkceMatch'. -/
def pkceMatchCard : Claim7 := { stood := { row := pkceMatchRow, standIns := [], harness := (true, "b9c92e8f74764cbc61b7e9518d9a8e2e7304386e10c74e7923b013c95794bd6c"), looks := true }, kinds := [], alts := [], laidByText := true, laidKinds := [.data, .data, .data, .data, .data], laidTests := true, laidLooks := .later }
def PkceMatchCardSaid : Prop := Claim7.holds Tryd.pinned (.plain (OpenSpec.ofChange pkceMatchSpec)) pkceMatchCard

/-- THE TIED CARD OF 'usherlaw10.PkceOnly'. -/
def pkceOnlyCard : Claim7 := { stood := { row := pkceOnlyRow, standIns := [], harness := (true, "b9c92e8f74764cbc61b7e9518d9a8e2e7304386e10c74e7923b013c95794bd6c"), looks := true }, kinds := [], alts := [], laidByText := true, laidKinds := [.data, .data, .data], laidTests := true, laidLooks := .later }
def PkceOnlyCardSaid : Prop := Claim7.holds Tryd.pinned (.plain (OpenSpec.ofChange pkceOnlySpec)) pkceOnlyCard

/-- THE TIED CARD OF 'usherlaw10.PkceBound'. -/
def pkceBoundCard : Claim7 := { stood := { row := pkceBoundRow, standIns := [], harness := (true, "b9c92e8f74764cbc61b7e9518d9a8e2e7304386e10c74e7923b013c95794bd6c"), looks := true }, kinds := [], alts := [], laidByText := true, laidKinds := [.sentinel, .data, .data, .data], laidTests := true, laidLooks := .later }
def PkceBoundCardSaid : Prop := Claim7.holds Tryd.pinned (.plain (OpenSpec.ofChange pkceBoundSpec)) pkceBoundCard

/-- THE SECOND FORM's CARD OF 'usherlaw2.RadixDigest'. -/
def radixDigestUptoCard : Claim7 := { stood := { row := radixDigestUptoRow, standIns := [], harness := (true, "b9c92e8f74764cbc61b7e9518d9a8e2e7304386e10c74e7923b013c95794bd6c"), looks := true }, kinds := [], alts := [], laidByText := true, laidKinds := [.sentinel, .sentinel, .sentinel, .sentinel, .sentinel, .sentinel, .sentinel, .sentinel, .sentinel, .sentinel, .sentinel, .sentinel, .sentinel, .data, .data, .data], laidTests := true, laidLooks := .later }
def RadixDigestUptoCardSaid : Prop := Claim7.holds Tryd.pinned (.plain (OpenSpec.upto radixDigestSpec)) radixDigestUptoCard

/-- THE SECOND FORM's CARD OF 'usherlaw10.PkceS256'. -/
def pkceS256UptoCard : Claim7 := { stood := { row := pkceS256UptoRow, standIns := [], harness := (true, "b9c92e8f74764cbc61b7e9518d9a8e2e7304386e10c74e7923b013c95794bd6c"), looks := true }, kinds := [], alts := [], laidByText := true, laidKinds := [.data, .data, .data, .data], laidTests := true, laidLooks := .later }
def PkceS256UptoCardSaid : Prop := Claim7.holds Tryd.pinned (.plain (OpenSpec.upto pkceS256Spec)) pkceS256UptoCard

/-- THE SECOND FORM's CARD OF 'usherlaw10.PkceSeal'. -/
def pkceSealUptoCard : Claim7 := { stood := { row := pkceSealUptoRow, standIns := [], harness := (true, "b9c92e8f74764cbc61b7e9518d9a8e2e7304386e10c74e7923b013c95794bd6c"), looks := true }, kinds := [], alts := [], laidByText := true, laidKinds := [.sentinel, .sentinel, .sentinel, .sentinel, .sentinel, .sentinel, .sentinel, .sentinel, .sentinel, .sentinel, .sentinel, .sentinel, .sentinel, .data, .data, .data, .data], laidTests := true, laidLooks := .later }
def PkceSealUptoCardSaid : Prop := Claim7.holds Tryd.pinned (.plain (OpenSpec.upto pkceSealSpec)) pkceSealUptoCard

/-- THE SECOND FORM's CARD OF 'usherlaw10.PkcePassword'. -/
def pkcePasswordUptoCard : Claim7 := { stood := { row := pkcePasswordUptoRow, standIns := [], harness := (true, "b9c92e8f74764cbc61b7e9518d9a8e2e7304386e10c74e7923b013c95794bd6c"), looks := true }, kinds := [], alts := [], laidByText := true, laidKinds := [.sentinel, .data, .data, .data, .data], laidTests := true, laidLooks := .later }
def PkcePasswordUptoCardSaid : Prop := Claim7.holds Tryd.pinned (.plain (OpenSpec.upto pkcePasswordSpec)) pkcePasswordUptoCard

/-- THE SECOND FORM's CARD OF 'usherlaw10.PkceOpens'. -/
def pkceOpensUptoCard : Claim7 := { stood := { row := pkceOpensUptoRow, standIns := [], harness := (true, "b9c92e8f74764cbc61b7e9518d9a8e2e7304386e10c74e7923b013c95794bd6c"), looks := true }, kinds := [], alts := [], laidByText := true, laidKinds := [.sentinel, .data, .data], laidTests := true, laidLooks := .later }
def PkceOpensUptoCardSaid : Prop := Claim7.holds Tryd.pinned (.plain (OpenSpec.upto pkceOpensSpec)) pkceOpensUptoCard

/-- THE SECOND FORM's CARD OF 'usherlaw10.PkceMatch'. -/
def pkceMatchUptoCard : Claim7 := { stood := { row := pkceMatchUptoRow, standIns := [], harness := (true, "b9c92e8f74764cbc61b7e9518d9a8e2e7304386e10c74e7923b013c95794bd6c"), looks := true }, kinds := [], alts := [], laidByText := true, laidKinds := [.data, .data, .data, .data, .data], laidTests := true, laidLooks := .later }
def PkceMatchUptoCardSaid : Prop := Claim7.holds Tryd.pinned (.plain (OpenSpec.upto pkceMatchSpec)) pkceMatchUptoCard

/-- THE SECOND FORM's CARD OF 'usherlaw10.PkceOnly'. -/
def pkceOnlyUptoCard : Claim7 := { stood := { row := pkceOnlyUptoRow, standIns := [], harness := (true, "b9c92e8f74764cbc61b7e9518d9a8e2e7304386e10c74e7923b013c95794bd6c"), looks := true }, kinds := [], alts := [], laidByText := true, laidKinds := [.data, .data, .data], laidTests := true, laidLooks := .later }
def PkceOnlyUptoCardSaid : Prop := Claim7.holds Tryd.pinned (.plain (OpenSpec.upto pkceOnlySpec)) pkceOnlyUptoCard

/-- THE SECOND FORM's CARD OF 'usherlaw10.PkceBound'. -/
def pkceBoundUptoCard : Claim7 := { stood := { row := pkceBoundUptoRow, standIns := [], harness := (true, "b9c92e8f74764cbc61b7e9518d9a8e2e7304386e10c74e7923b013c95794bd6c"), looks := true }, kinds := [], alts := [], laidByText := true, laidKinds := [.sentinel, .data, .data, .data], laidTests := true, laidLooks := .later }
def PkceBoundUptoCardSaid : Prop := Claim7.holds Tryd.pinned (.plain (OpenSpec.upto pkceBoundSpec)) pkceBoundUptoCard
end Rows
end Go.Proofs.YtmkifaddfnodhaaDoor
