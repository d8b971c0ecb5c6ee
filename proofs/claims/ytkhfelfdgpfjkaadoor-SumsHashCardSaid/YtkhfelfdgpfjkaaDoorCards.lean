/-
  DERIVED. GIVEN WITH THE SEED: THE CARDS: each row of YtkhfelfdgpfjkaaDoorRows.lean that lists a variable, with what it lists TIED to the program's text (the seventh form; the later family's looks); each row that meets fmt, with fmt's text TOLD by the authors' own Lean function (tested against real Go, not proved from fmt's source: count such statements apart). THE CARD IS WHAT COUNTS. Prove the row's statement (the work); the ties are given (YtkhfelfdgpfjkaaDoorTie.lean); close each card by the builder's one call (the guide's Derived/Test/ToyasCard.lean, 'card_holds'). Laid BY PROGRAM, IN A SANDBOX (cutbox-door.mjs). By AI agents, Wed Nov 11 2026. No macro, syntax, notation, axiom, sorry.
-/
import Derived.Test.YtkhfelfdgpfjkaaDoorRows
import GoSem.ClaimSeven
namespace Go.Proofs.YtkhfelfdgpfjkaaDoor
namespace Rows

/-- THE TIED CARD OF 'usherlaw1.SumsCrc'. -/
def sumsCrcCard : Claim7 := { stood := { row := sumsCrcRow, standIns := [], harness := (true, "aa729769b8c6dbec14b9afe508a2353d8ceb3080676e47d0a074ed295503275d"), looks := true }, kinds := [], alts := [], laidByText := true, laidKinds := [.data], laidTests := true, laidLooks := .later }
def SumsCrcCardSaid : Prop := Claim7.holds Tryd.pinned (.plain (OpenSpec.ofChange sumsCrcSpec)) sumsCrcCard

/-- THE TIED CARD OF 'usherlaw1.SumsMore'. -/
def sumsMoreCard : Claim7 := { stood := { row := sumsMoreRow, standIns := [], harness := (true, "aa729769b8c6dbec14b9afe508a2353d8ceb3080676e47d0a074ed295503275d"), looks := true }, kinds := [], alts := [], laidByText := true, laidKinds := [.data], laidTests := true, laidLooks := .later }
def SumsMoreCardSaid : Prop := Claim7.holds Tryd.pinned (.plain (OpenSpec.ofChange sumsMoreSpec)) sumsMoreCard

/-- THE TIED CARD OF 'usherlaw1.SumsBurst'. -/
def sumsBurstCard : Claim7 := { stood := { row := sumsBurstRow, standIns := [], harness := (true, "aa729769b8c6dbec14b9afe508a2353d8ceb3080676e47d0a074ed295503275d"), looks := true }, kinds := [], alts := [], laidByText := true, laidKinds := [.data], laidTests := true, laidLooks := .later }
def SumsBurstCardSaid : Prop := Claim7.holds Tryd.pinned (.plain (OpenSpec.ofChange sumsBurstSpec)) sumsBurstCard

/-- THE TIED CARD OF 'usherlaw1.SumsAffine'. -/
def sumsAffineCard : Claim7 := { stood := { row := sumsAffineRow, standIns := [], harness := (true, "aa729769b8c6dbec14b9afe508a2353d8ceb3080676e47d0a074ed295503275d"), looks := true }, kinds := [], alts := [], laidByText := true, laidKinds := [.data], laidTests := true, laidLooks := .later }
def SumsAffineCardSaid : Prop := Claim7.holds Tryd.pinned (.plain (OpenSpec.ofChange sumsAffineSpec)) sumsAffineCard

/-- THE TIED CARD OF 'usherlaw1.SumsHash'. -/
def sumsHashCard : Claim7 := { stood := { row := sumsHashRow, standIns := [], harness := (true, "aa729769b8c6dbec14b9afe508a2353d8ceb3080676e47d0a074ed295503275d"), looks := true }, kinds := [], alts := [], laidByText := true, laidKinds := [.data, .data, .data, .data], laidTests := true, laidLooks := .later }
def SumsHashCardSaid : Prop := Claim7.holds Tryd.pinned (.plain (OpenSpec.ofChange sumsHashSpec)) sumsHashCard

/-- THE TIED CARD OF 'usherlaw1.SumsSha'. -/
def sumsShaCard : Claim7 := { stood := { row := sumsShaRow, standIns := [], harness := (true, "aa729769b8c6dbec14b9afe508a2353d8ceb3080676e47d0a074ed295503275d"), looks := true }, kinds := [], alts := [], laidByText := true, laidKinds := [.data, .data, .data, .data], laidTests := true, laidLooks := .later }
def SumsShaCardSaid : Prop := Claim7.holds Tryd.pinned (.plain (OpenSpec.ofChange sumsShaSpec)) sumsShaCard

/-- THE TIED CARD OF 'usherlaw1.SumsMac'. -/
def sumsMacCard : Claim7 := { stood := { row := sumsMacRow, standIns := [], harness := (true, "aa729769b8c6dbec14b9afe508a2353d8ceb3080676e47d0a074ed295503275d"), looks := true }, kinds := [], alts := [], laidByText := true, laidKinds := [.data, .data, .data, .data], laidTests := true, laidLooks := .later }
def SumsMacCardSaid : Prop := Claim7.holds Tryd.pinned (.plain (OpenSpec.ofChange sumsMacSpec)) sumsMacCard

/-- THE TIED CARD OF 'usherlaw1.SumsMacIs'. -/
def sumsMacIsCard : Claim7 := { stood := { row := sumsMacIsRow, standIns := [], harness := (true, "aa729769b8c6dbec14b9afe508a2353d8ceb3080676e47d0a074ed295503275d"), looks := true }, kinds := [], alts := [], laidByText := true, laidKinds := [.data, .data], laidTests := true, laidLooks := .later }
def SumsMacIsCardSaid : Prop := Claim7.holds Tryd.pinned (.plain (OpenSpec.ofChange sumsMacIsSpec)) sumsMacIsCard

/-- THE TIED CARD OF 'usherlaw1.SumsKeys'. -/
def sumsKeysCard : Claim7 := { stood := { row := sumsKeysRow, standIns := [], harness := (true, "aa729769b8c6dbec14b9afe508a2353d8ceb3080676e47d0a074ed295503275d"), looks := true }, kinds := [], alts := [], laidByText := true, laidKinds := [.data, .data], laidTests := true, laidLooks := .later }
def SumsKeysCardSaid : Prop := Claim7.holds Tryd.pinned (.plain (OpenSpec.ofChange sumsKeysSpec)) sumsKeysCard

/-- THE TIED CARD OF 'usherlaw1.SumsStretch'. -/
def sumsStretchCard : Claim7 := { stood := { row := sumsStretchRow, standIns := [], harness := (true, "aa729769b8c6dbec14b9afe508a2353d8ceb3080676e47d0a074ed295503275d"), looks := true }, kinds := [], alts := [], laidByText := true, laidKinds := [.sentinel, .sentinel, .sentinel, .sentinel, .sentinel, .sentinel, .sentinel, .sentinel, .sentinel, .sentinel, .sentinel, .sentinel, .sentinel, .data, .data, .data, .data], laidTests := true, laidLooks := .later }
def SumsStretchCardSaid : Prop := Claim7.holds Tryd.pinned (.plain (OpenSpec.ofChange sumsStretchSpec)) sumsStretchCard

/-- THE TIED CARD OF 'usherlaw1.SumsFold'. -/
def sumsFoldCard : Claim7 := { stood := { row := sumsFoldRow, standIns := [], harness := (true, "aa729769b8c6dbec14b9afe508a2353d8ceb3080676e47d0a074ed295503275d"), looks := true }, kinds := [], alts := [], laidByText := true, laidKinds := [.sentinel, .sentinel, .sentinel, .sentinel, .sentinel, .sentinel, .sentinel, .sentinel, .sentinel, .sentinel, .sentinel, .sentinel, .sentinel, .data, .data], laidTests := true, laidLooks := .later }
def SumsFoldCardSaid : Prop := Claim7.holds Tryd.pinned (.plain (OpenSpec.ofChange sumsFoldSpec)) sumsFoldCard

/-- THE SECOND FORM's CARD OF 'usherlaw1.SumsCrc'. -/
def sumsCrcUptoCard : Claim7 := { stood := { row := sumsCrcUptoRow, standIns := [], harness := (true, "aa729769b8c6dbec14b9afe508a2353d8ceb3080676e47d0a074ed295503275d"), looks := true }, kinds := [], alts := [], laidByText := true, laidKinds := [.data], laidTests := true, laidLooks := .later }
def SumsCrcUptoCardSaid : Prop := Claim7.holds Tryd.pinned (.plain (OpenSpec.upto sumsCrcSpec)) sumsCrcUptoCard

/-- THE SECOND FORM's CARD OF 'usherlaw1.SumsMore'. -/
def sumsMoreUptoCard : Claim7 := { stood := { row := sumsMoreUptoRow, standIns := [], harness := (true, "aa729769b8c6dbec14b9afe508a2353d8ceb3080676e47d0a074ed295503275d"), looks := true }, kinds := [], alts := [], laidByText := true, laidKinds := [.data], laidTests := true, laidLooks := .later }
def SumsMoreUptoCardSaid : Prop := Claim7.holds Tryd.pinned (.plain (OpenSpec.upto sumsMoreSpec)) sumsMoreUptoCard

/-- THE SECOND FORM's CARD OF 'usherlaw1.SumsBurst'. -/
def sumsBurstUptoCard : Claim7 := { stood := { row := sumsBurstUptoRow, standIns := [], harness := (true, "aa729769b8c6dbec14b9afe508a2353d8ceb3080676e47d0a074ed295503275d"), looks := true }, kinds := [], alts := [], laidByText := true, laidKinds := [.data], laidTests := true, laidLooks := .later }
def SumsBurstUptoCardSaid : Prop := Claim7.holds Tryd.pinned (.plain (OpenSpec.upto sumsBurstSpec)) sumsBurstUptoCard

/-- THE SECOND FORM's CARD OF 'usherlaw1.SumsAffine'. -/
def sumsAffineUptoCard : Claim7 := { stood := { row := sumsAffineUptoRow, standIns := [], harness := (true, "aa729769b8c6dbec14b9afe508a2353d8ceb3080676e47d0a074ed295503275d"), looks := true }, kinds := [], alts := [], laidByText := true, laidKinds := [.data], laidTests := true, laidLooks := .later }
def SumsAffineUptoCardSaid : Prop := Claim7.holds Tryd.pinned (.plain (OpenSpec.upto sumsAffineSpec)) sumsAffineUptoCard

/-- THE SECOND FORM's CARD OF 'usherlaw1.SumsHash'. -/
def sumsHashUptoCard : Claim7 := { stood := { row := sumsHashUptoRow, standIns := [], harness := (true, "aa729769b8c6dbec14b9afe508a2353d8ceb3080676e47d0a074ed295503275d"), looks := true }, kinds := [], alts := [], laidByText := true, laidKinds := [.data, .data, .data, .data], laidTests := true, laidLooks := .later }
def SumsHashUptoCardSaid : Prop := Claim7.holds Tryd.pinned (.plain (OpenSpec.upto sumsHashSpec)) sumsHashUptoCard

/-- THE SECOND FORM's CARD OF 'usherlaw1.SumsSha'. -/
def sumsShaUptoCard : Claim7 := { stood := { row := sumsShaUptoRow, standIns := [], harness := (true, "aa729769b8c6dbec14b9afe508a2353d8ceb3080676e47d0a074ed295503275d"), looks := true }, kinds := [], alts := [], laidByText := true, laidKinds := [.data, .data, .data, .data], laidTests := true, laidLooks := .later }
def SumsShaUptoCardSaid : Prop := Claim7.holds Tryd.pinned (.plain (OpenSpec.upto sumsShaSpec)) sumsShaUptoCard

/-- THE SECOND FORM's CARD OF 'usherlaw1.SumsMac'. -/
def sumsMacUptoCard : Claim7 := { stood := { row := sumsMacUptoRow, standIns := [], harness := (true, "aa729769b8c6dbec14b9afe508a2353d8ceb3080676e47d0a074ed295503275d"), looks := true }, kinds := [], alts := [], laidByText := true, laidKinds := [.data, .data, .data, .data], laidTests := true, laidLooks := .later }
def SumsMacUptoCardSaid : Prop := Claim7.holds Tryd.pinned (.plain (OpenSpec.upto sumsMacSpec)) sumsMacUptoCard

/-- THE SECOND FORM's CARD OF 'usherlaw1.SumsMacIs'. -/
def sumsMacIsUptoCard : Claim7 := { stood := { row := sumsMacIsUptoRow, standIns := [], harness := (true, "aa729769b8c6dbec14b9afe508a2353d8ceb3080676e47d0a074ed295503275d"), looks := true }, kinds := [], alts := [], laidByText := true, laidKinds := [.data, .data], laidTests := true, laidLooks := .later }
def SumsMacIsUptoCardSaid : Prop := Claim7.holds Tryd.pinned (.plain (OpenSpec.upto sumsMacIsSpec)) sumsMacIsUptoCard

/-- THE SECOND FORM's CARD OF 'usherlaw1.SumsKeys'. -/
def sumsKeysUptoCard : Claim7 := { stood := { row := sumsKeysUptoRow, standIns := [], harness := (true, "aa729769b8c6dbec14b9afe508a2353d8ceb3080676e47d0a074ed295503275d"), looks := true }, kinds := [], alts := [], laidByText := true, laidKinds := [.data, .data], laidTests := true, laidLooks := .later }
def SumsKeysUptoCardSaid : Prop := Claim7.holds Tryd.pinned (.plain (OpenSpec.upto sumsKeysSpec)) sumsKeysUptoCard

/-- THE SECOND FORM's CARD OF 'usherlaw1.SumsStretch'. -/
def sumsStretchUptoCard : Claim7 := { stood := { row := sumsStretchUptoRow, standIns := [], harness := (true, "aa729769b8c6dbec14b9afe508a2353d8ceb3080676e47d0a074ed295503275d"), looks := true }, kinds := [], alts := [], laidByText := true, laidKinds := [.sentinel, .sentinel, .sentinel, .sentinel, .sentinel, .sentinel, .sentinel, .sentinel, .sentinel, .sentinel, .sentinel, .sentinel, .sentinel, .data, .data, .data, .data], laidTests := true, laidLooks := .later }
def SumsStretchUptoCardSaid : Prop := Claim7.holds Tryd.pinned (.plain (OpenSpec.upto sumsStretchSpec)) sumsStretchUptoCard

/-- THE SECOND FORM's CARD OF 'usherlaw1.SumsFold'. -/
def sumsFoldUptoCard : Claim7 := { stood := { row := sumsFoldUptoRow, standIns := [], harness := (true, "aa729769b8c6dbec14b9afe508a2353d8ceb3080676e47d0a074ed295503275d"), looks := true }, kinds := [], alts := [], laidByText := true, laidKinds := [.sentinel, .sentinel, .sentinel, .sentinel, .sentinel, .sentinel, .sentinel, .sentinel, .sentinel, .sentinel, .sentinel, .sentinel, .sentinel, .data, .data], laidTests := true, laidLooks := .later }
def SumsFoldUptoCardSaid : Prop := Claim7.holds Tryd.pinned (.plain (OpenSpec.upto sumsFoldSpec)) sumsFoldUptoCard
end Rows
end Go.Proofs.YtkhfelfdgpfjkaaDoor
