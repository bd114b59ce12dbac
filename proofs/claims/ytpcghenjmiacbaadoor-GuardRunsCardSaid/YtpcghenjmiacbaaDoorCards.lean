/-
  DERIVED. GIVEN WITH THE SEED: THE CARDS: each row of YtpcghenjmiacbaaDoorRows.lean that lists a variable, with what it lists TIED to the program's text (the seventh form; the later family's looks); each row that meets fmt, with fmt's text TOLD by the authors' own Lean function (tested against real Go, not proved from fmt's source: count such statements apart). THE CARD IS WHAT COUNTS. Prove the row's statement (the work); the ties are given (YtpcghenjmiacbaaDoorTie.lean); close each card by the builder's one call (the guide's Derived/Test/ToyasCard.lean, 'card_holds'). Laid BY PROGRAM, IN A SANDBOX (cutbox-door.mjs). By AI agents, Wed Nov 11 2026. No macro, syntax, notation, axiom, sorry.
-/
import Derived.Test.YtpcghenjmiacbaaDoorRows
import GoSem.ClaimSeven
namespace Go.Proofs.YtpcghenjmiacbaaDoor
namespace Rows

/-- THE TIED CARD OF 'caucuslaw26.GuardOne'. -/
def guardOneCard : Claim7 := { stood := { row := guardOneRow, standIns := [], harness := (true, "13186772286f3df696cd9604afb71ceede72e1872976ef0a1388657254bc4f79"), looks := true }, kinds := [], alts := [], laidByText := true, laidKinds := [.handle], laidTests := true, laidLooks := .later }
def GuardOneCardSaid : Prop := Claim7.holds Tryd.pinned (.plain (OpenSpec.ofChange guardOneSpec)) guardOneCard

/-- THE TIED CARD OF 'caucuslaw26.GuardRuns'. -/
def guardRunsCard : Claim7 := { stood := { row := guardRunsRow, standIns := [], harness := (true, "13186772286f3df696cd9604afb71ceede72e1872976ef0a1388657254bc4f79"), looks := true }, kinds := [], alts := [], laidByText := true, laidKinds := [.handle], laidTests := true, laidLooks := .later }
def GuardRunsCardSaid : Prop := Claim7.holds Tryd.pinned (.plain (OpenSpec.ofChange guardRunsSpec)) guardRunsCard

/-- THE TIED CARD OF 'caucuslaw26.GuardFirst'. -/
def guardFirstCard : Claim7 := { stood := { row := guardFirstRow, standIns := [], harness := (true, "13186772286f3df696cd9604afb71ceede72e1872976ef0a1388657254bc4f79"), looks := true }, kinds := [], alts := [], laidByText := true, laidKinds := [.handle], laidTests := true, laidLooks := .later }
def GuardFirstCardSaid : Prop := Claim7.holds Tryd.pinned (.plain (OpenSpec.ofChange guardFirstSpec)) guardFirstCard

/-- THE SECOND FORM's CARD OF 'caucuslaw26.GuardOne'. -/
def guardOneUptoCard : Claim7 := { stood := { row := guardOneUptoRow, standIns := [], harness := (true, "13186772286f3df696cd9604afb71ceede72e1872976ef0a1388657254bc4f79"), looks := true }, kinds := [], alts := [], laidByText := true, laidKinds := [.handle], laidTests := true, laidLooks := .later }
def GuardOneUptoCardSaid : Prop := Claim7.holds Tryd.pinned (.plain (OpenSpec.upto guardOneSpec)) guardOneUptoCard

/-- THE SECOND FORM's CARD OF 'caucuslaw26.GuardRuns'. -/
def guardRunsUptoCard : Claim7 := { stood := { row := guardRunsUptoRow, standIns := [], harness := (true, "13186772286f3df696cd9604afb71ceede72e1872976ef0a1388657254bc4f79"), looks := true }, kinds := [], alts := [], laidByText := true, laidKinds := [.handle], laidTests := true, laidLooks := .later }
def GuardRunsUptoCardSaid : Prop := Claim7.holds Tryd.pinned (.plain (OpenSpec.upto guardRunsSpec)) guardRunsUptoCard

/-- THE SECOND FORM's CARD OF 'caucuslaw26.GuardFirst'. -/
def guardFirstUptoCard : Claim7 := { stood := { row := guardFirstUptoRow, standIns := [], harness := (true, "13186772286f3df696cd9604afb71ceede72e1872976ef0a1388657254bc4f79"), looks := true }, kinds := [], alts := [], laidByText := true, laidKinds := [.handle], laidTests := true, laidLooks := .later }
def GuardFirstUptoCardSaid : Prop := Claim7.holds Tryd.pinned (.plain (OpenSpec.upto guardFirstSpec)) guardFirstUptoCard
end Rows
end Go.Proofs.YtpcghenjmiacbaaDoor
