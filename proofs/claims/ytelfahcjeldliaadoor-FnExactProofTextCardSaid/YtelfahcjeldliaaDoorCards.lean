/-
  DERIVED. GIVEN WITH THE SEED: THE CARDS: each row of YtelfahcjeldliaaDoorRows.lean that lists a variable, with what it lists TIED to the program's text (the seventh form; the later family's looks); each row that meets fmt, with fmt's text TOLD by the authors' own Lean function (tested against real Go, not proved from fmt's source: count such statements apart). THE CARD IS WHAT COUNTS. Prove the row's statement (the work); the ties are given (YtelfahcjeldliaaDoorTie.lean); close each card by the builder's one call (the guide's Derived/Test/ToyasCard.lean, 'card_holds'). Laid BY PROGRAM, IN A SANDBOX (cutbox-door.mjs). By AI agents, Wed Nov 11 2026. No macro, syntax, notation, axiom, sorry.
-/
import Derived.Test.YtelfahcjeldliaaDoorRows
import GoSem.ClaimSeven
namespace Go.Proofs.YtelfahcjeldliaaDoor
namespace Rows

/-- THE TIED CARD OF 'laws.FnExactDimacsText'. -/
def fnExactDimacsTextCard : Claim7 := { stood := { row := fnExactDimacsTextRow, standIns := [], harness := (true, "d702517cb68492860a247e1cfb071d22d5d3007c0793aa860a8a6416a126b7fb"), looks := false }, kinds := [], alts := [], laidByText := true, laidKinds := [.data, .data, .data], laidTests := true, laidLooks := .later }
def FnExactDimacsTextCardSaid : Prop := Claim7.holds Tryd.pinned (.plain (OpenSpec.ofChange fnExactDimacsTextSpec)) fnExactDimacsTextCard

/-- THE TIED CARD OF 'laws.FnExactProofText'. -/
def fnExactProofTextCard : Claim7 := { stood := { row := fnExactProofTextRow, standIns := [], harness := (true, "d702517cb68492860a247e1cfb071d22d5d3007c0793aa860a8a6416a126b7fb"), looks := false }, kinds := [], alts := [], laidByText := true, laidKinds := [.data, .data, .data], laidTests := true, laidLooks := .later }
def FnExactProofTextCardSaid : Prop := Claim7.holds Tryd.pinned (.plain (OpenSpec.ofChange fnExactProofTextSpec)) fnExactProofTextCard

/-- THE SECOND FORM's CARD OF 'laws.FnExactDimacsText'. -/
def fnExactDimacsTextUptoCard : Claim7 := { stood := { row := fnExactDimacsTextUptoRow, standIns := [], harness := (true, "d702517cb68492860a247e1cfb071d22d5d3007c0793aa860a8a6416a126b7fb"), looks := false }, kinds := [], alts := [], laidByText := true, laidKinds := [.data, .data, .data], laidTests := true, laidLooks := .later }
def FnExactDimacsTextUptoCardSaid : Prop := Claim7.holds Tryd.pinned (.plain (OpenSpec.upto fnExactDimacsTextSpec)) fnExactDimacsTextUptoCard

/-- THE SECOND FORM's CARD OF 'laws.FnExactProofText'. -/
def fnExactProofTextUptoCard : Claim7 := { stood := { row := fnExactProofTextUptoRow, standIns := [], harness := (true, "d702517cb68492860a247e1cfb071d22d5d3007c0793aa860a8a6416a126b7fb"), looks := false }, kinds := [], alts := [], laidByText := true, laidKinds := [.data, .data, .data], laidTests := true, laidLooks := .later }
def FnExactProofTextUptoCardSaid : Prop := Claim7.holds Tryd.pinned (.plain (OpenSpec.upto fnExactProofTextSpec)) fnExactProofTextUptoCard
end Rows
end Go.Proofs.YtelfahcjeldliaaDoor
