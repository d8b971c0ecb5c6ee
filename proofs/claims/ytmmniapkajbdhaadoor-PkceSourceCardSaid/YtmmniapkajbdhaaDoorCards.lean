/-
  DERIVED. GIVEN WITH THE SEED: THE CARDS: each row of YtmmniapkajbdhaaDoorRows.lean that lists a variable, with what it lists TIED to the program's text (the seventh form; the later family's looks); each row that meets fmt, with fmt's text TOLD by the authors' own Lean function (tested against real Go, not proved from fmt's source: count such statements apart). THE CARD IS WHAT COUNTS. Prove the row's statement (the work); the ties are given (YtmmniapkajbdhaaDoorTie.lean); close each card by the builder's one call (the guide's Derived/Test/ToyasCard.lean, 'card_holds'). Laid BY PROGRAM, IN A SANDBOX (cutbox-door.mjs). By AI agents, Wed Nov 11 2026. No macro, syntax, notation, axiom, sorry.
-/
import Derived.Test.YtmmniapkajbdhaaDoorRows
import GoSem.ClaimSeven
namespace Go.Proofs.YtmmniapkajbdhaaDoor
namespace Rows

/-- THE TIED CARD OF 'usherlaw0.Names'. -/
def namesCard : Claim7 := { stood := { row := namesRow, standIns := [], harness := (true, "55cbf906e306c24b75210cb81a41fe321fd8a7b9f9320df2ce656202f935153a"), looks := true }, kinds := [], alts := [], laidByText := true, laidKinds := [.sentinel, .sentinel, .sentinel, .sentinel, .sentinel, .sentinel, .sentinel, .sentinel, .sentinel, .sentinel, .sentinel, .sentinel, .sentinel, .data, .data, .data, .data, .data, .data], laidTests := true, laidLooks := .later }
def NamesCardSaid : Prop := Claim7.holds Tryd.pinned (.plain (OpenSpec.ofChange namesSpec)) namesCard

/-- THE TIED CARD OF 'usherlaw10.PkceGrammar'. -/
def pkceGrammarCard : Claim7 := { stood := { row := pkceGrammarRow, standIns := [], harness := (true, "55cbf906e306c24b75210cb81a41fe321fd8a7b9f9320df2ce656202f935153a"), looks := true }, kinds := [], alts := [], laidByText := true, laidKinds := [.data], laidTests := true, laidLooks := .later }
def PkceGrammarCardSaid : Prop := Claim7.holds Tryd.pinned (.plain (OpenSpec.ofChange pkceGrammarSpec)) pkceGrammarCard

/-- THE TIED CARD OF 'usherlaw10.PkceSource'. -/
def pkceSourceCard : Claim7 := { stood := { row := pkceSourceRow, standIns := [], harness := (true, "55cbf906e306c24b75210cb81a41fe321fd8a7b9f9320df2ce656202f935153a"), looks := true }, kinds := [], alts := [], laidByText := true, laidKinds := [.sentinel, .sentinel, .sentinel, .sentinel, .sentinel, .sentinel, .sentinel, .sentinel, .sentinel, .sentinel, .sentinel, .sentinel, .sentinel], laidTests := true, laidLooks := .later }
def PkceSourceCardSaid : Prop := Claim7.holds Tryd.pinned (.plain (OpenSpec.ofChange pkceSourceSpec)) pkceSourceCard

/-- THE TIED CARD OF 'usherlaw10.PkceOnce'. -/
def pkceOnceCard : Claim7 := { stood := { row := pkceOnceRow, standIns := [], harness := (true, "55cbf906e306c24b75210cb81a41fe321fd8a7b9f9320df2ce656202f935153a"), looks := true }, kinds := [], alts := [], laidByText := true, laidKinds := [.sentinel, .sentinel, .sentinel, .sentinel, .sentinel, .sentinel, .sentinel, .sentinel, .sentinel, .sentinel, .sentinel, .sentinel, .sentinel], laidTests := true, laidLooks := .later }
def PkceOnceCardSaid : Prop := Claim7.holds Tryd.pinned (.plain (OpenSpec.ofChange pkceOnceSpec)) pkceOnceCard

/-- THE SECOND FORM's CARD OF 'usherlaw0.Names'. -/
def namesUptoCard : Claim7 := { stood := { row := namesUptoRow, standIns := [], harness := (true, "55cbf906e306c24b75210cb81a41fe321fd8a7b9f9320df2ce656202f935153a"), looks := true }, kinds := [], alts := [], laidByText := true, laidKinds := [.sentinel, .sentinel, .sentinel, .sentinel, .sentinel, .sentinel, .sentinel, .sentinel, .sentinel, .sentinel, .sentinel, .sentinel, .sentinel, .data, .data, .data, .data, .data, .data], laidTests := true, laidLooks := .later }
def NamesUptoCardSaid : Prop := Claim7.holds Tryd.pinned (.plain (OpenSpec.upto namesSpec)) namesUptoCard

/-- THE SECOND FORM's CARD OF 'usherlaw10.PkceGrammar'. -/
def pkceGrammarUptoCard : Claim7 := { stood := { row := pkceGrammarUptoRow, standIns := [], harness := (true, "55cbf906e306c24b75210cb81a41fe321fd8a7b9f9320df2ce656202f935153a"), looks := true }, kinds := [], alts := [], laidByText := true, laidKinds := [.data], laidTests := true, laidLooks := .later }
def PkceGrammarUptoCardSaid : Prop := Claim7.holds Tryd.pinned (.plain (OpenSpec.upto pkceGrammarSpec)) pkceGrammarUptoCard

/-- THE SECOND FORM's CARD OF 'usherlaw10.PkceSource'. -/
def pkceSourceUptoCard : Claim7 := { stood := { row := pkceSourceUptoRow, standIns := [], harness := (true, "55cbf906e306c24b75210cb81a41fe321fd8a7b9f9320df2ce656202f935153a"), looks := true }, kinds := [], alts := [], laidByText := true, laidKinds := [.sentinel, .sentinel, .sentinel, .sentinel, .sentinel, .sentinel, .sentinel, .sentinel, .sentinel, .sentinel, .sentinel, .sentinel, .sentinel], laidTests := true, laidLooks := .later }
def PkceSourceUptoCardSaid : Prop := Claim7.holds Tryd.pinned (.plain (OpenSpec.upto pkceSourceSpec)) pkceSourceUptoCard

/-- THE SECOND FORM's CARD OF 'usherlaw10.PkceOnce'. -/
def pkceOnceUptoCard : Claim7 := { stood := { row := pkceOnceUptoRow, standIns := [], harness := (true, "55cbf906e306c24b75210cb81a41fe321fd8a7b9f9320df2ce656202f935153a"), looks := true }, kinds := [], alts := [], laidByText := true, laidKinds := [.sentinel, .sentinel, .sentinel, .sentinel, .sentinel, .sentinel, .sentinel, .sentinel, .sentinel, .sentinel, .sentinel, .sentinel, .sentinel], laidTests := true, laidLooks := .later }
def PkceOnceUptoCardSaid : Prop := Claim7.holds Tryd.pinned (.plain (OpenSpec.upto pkceOnceSpec)) pkceOnceUptoCard
end Rows
end Go.Proofs.YtmmniapkajbdhaaDoor
