/-
  DERIVED. GIVEN WITH THE SEED: THE CARDS: each row of YtnofckhljoghpaaDoorRows.lean that lists a variable, with what it lists TIED to the program's text (the seventh form; the later family's looks); each row that meets fmt, with fmt's text TOLD by the authors' own Lean function (tested against real Go, not proved from fmt's source: count such statements apart). THE CARD IS WHAT COUNTS. Prove the row's statement (the work); the ties are given (YtnofckhljoghpaaDoorTie.lean); close each card by the builder's one call (the guide's Derived/Test/ToyasCard.lean, 'card_holds'). Laid BY PROGRAM, IN A SANDBOX (cutbox-door.mjs). By AI agents, Wed Nov 11 2026. No macro, syntax, notation, axiom, sorry.
-/
import Derived.Test.YtnofckhljoghpaaDoorRows
import GoSem.ClaimSeven
namespace Go.Proofs.YtnofckhljoghpaaDoor
namespace Rows

/-- THE TIED CARD OF 'caucuslaw03.PolyTells'. -/
def polyTellsCard : Claim7 := { stood := { row := polyTellsRow, standIns := [], harness := (true, "78e2a75805954f771dc8ea51b248428cc2e48561e99428fac842b7c6ae2a7e33"), looks := true }, kinds := [], alts := [], laidByText := true, laidKinds := [.handle], laidTests := true, laidLooks := .later }
def PolyTellsCardSaid : Prop := Claim7.holds Tryd.pinned (.plain (OpenSpec.ofChange polyTellsSpec)) polyTellsCard

/-- THE TIED CARD OF 'caucuslaw03.PolyKnown'. -/
def polyKnownCard : Claim7 := { stood := { row := polyKnownRow, standIns := [], harness := (true, "78e2a75805954f771dc8ea51b248428cc2e48561e99428fac842b7c6ae2a7e33"), looks := true }, kinds := [], alts := [], laidByText := true, laidKinds := [.handle], laidTests := true, laidLooks := .later }
def PolyKnownCardSaid : Prop := Claim7.holds Tryd.pinned (.plain (OpenSpec.ofChange polyKnownSpec)) polyKnownCard

/-- THE TIED CARD OF 'caucuslaw03.PolySums'. -/
def polySumsCard : Claim7 := { stood := { row := polySumsRow, standIns := [], harness := (true, "78e2a75805954f771dc8ea51b248428cc2e48561e99428fac842b7c6ae2a7e33"), looks := true }, kinds := [], alts := [], laidByText := true, laidKinds := [.handle], laidTests := true, laidLooks := .later }
def PolySumsCardSaid : Prop := Claim7.holds Tryd.pinned (.plain (OpenSpec.ofChange polySumsSpec)) polySumsCard

/-- THE SECOND FORM's CARD OF 'caucuslaw03.PolyTells'. -/
def polyTellsUptoCard : Claim7 := { stood := { row := polyTellsUptoRow, standIns := [], harness := (true, "78e2a75805954f771dc8ea51b248428cc2e48561e99428fac842b7c6ae2a7e33"), looks := true }, kinds := [], alts := [], laidByText := true, laidKinds := [.handle], laidTests := true, laidLooks := .later }
def PolyTellsUptoCardSaid : Prop := Claim7.holds Tryd.pinned (.plain (OpenSpec.upto polyTellsSpec)) polyTellsUptoCard

/-- THE SECOND FORM's CARD OF 'caucuslaw03.PolyKnown'. -/
def polyKnownUptoCard : Claim7 := { stood := { row := polyKnownUptoRow, standIns := [], harness := (true, "78e2a75805954f771dc8ea51b248428cc2e48561e99428fac842b7c6ae2a7e33"), looks := true }, kinds := [], alts := [], laidByText := true, laidKinds := [.handle], laidTests := true, laidLooks := .later }
def PolyKnownUptoCardSaid : Prop := Claim7.holds Tryd.pinned (.plain (OpenSpec.upto polyKnownSpec)) polyKnownUptoCard

/-- THE SECOND FORM's CARD OF 'caucuslaw03.PolySums'. -/
def polySumsUptoCard : Claim7 := { stood := { row := polySumsUptoRow, standIns := [], harness := (true, "78e2a75805954f771dc8ea51b248428cc2e48561e99428fac842b7c6ae2a7e33"), looks := true }, kinds := [], alts := [], laidByText := true, laidKinds := [.handle], laidTests := true, laidLooks := .later }
def PolySumsUptoCardSaid : Prop := Claim7.holds Tryd.pinned (.plain (OpenSpec.upto polySumsSpec)) polySumsUptoCard
end Rows
end Go.Proofs.YtnofckhljoghpaaDoor
