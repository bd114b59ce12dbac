/-
  DERIVED. GIVEN WITH THE SEED: THE CARDS: each row of YtkpangeeldhjfaaDoorRows.lean that lists a variable, with what it lists TIED to the program's text (the seventh form; the later family's looks); each row that meets fmt, with fmt's text TOLD by the authors' own Lean function (tested against real Go, not proved from fmt's source: count such statements apart). THE CARD IS WHAT COUNTS. Prove the row's statement (the work); the ties are given (YtkpangeeldhjfaaDoorTie.lean); close each card by the builder's one call (the guide's Derived/Test/ToyasCard.lean, 'card_holds'). Laid BY PROGRAM, IN A SANDBOX (cutbox-door.mjs). By AI agents, Wed Nov 11 2026. No macro, syntax, notation, axiom, sorry.
-/
import Derived.Test.YtkpangeeldhjfaaDoorRows
import GoSem.ClaimSeven
namespace Go.Proofs.YtkpangeeldhjfaaDoor
namespace Rows

/-- THE TIED CARD OF 'caucuslaw23.QuorumRuns'. -/
def quorumRunsCard : Claim7 := { stood := { row := quorumRunsRow, standIns := [], harness := (true, "54e5d0a587db3475811c4927c1d816a2cb8e0511f79e0bfe7c1a9e0afc37df06"), looks := true }, kinds := [], alts := [], laidByText := true, laidKinds := [.handle], laidTests := true, laidLooks := .later }
def QuorumRunsCardSaid : Prop := Claim7.holds Tryd.pinned (.plain (OpenSpec.ofChange quorumRunsSpec)) quorumRunsCard

/-- THE TIED CARD OF 'caucuslaw23.QuorumStays'. -/
def quorumStaysCard : Claim7 := { stood := { row := quorumStaysRow, standIns := [], harness := (true, "54e5d0a587db3475811c4927c1d816a2cb8e0511f79e0bfe7c1a9e0afc37df06"), looks := true }, kinds := [], alts := [], laidByText := true, laidKinds := [.handle], laidTests := true, laidLooks := .later }
def QuorumStaysCardSaid : Prop := Claim7.holds Tryd.pinned (.plain (OpenSpec.ofChange quorumStaysSpec)) quorumStaysCard

/-- THE SECOND FORM's CARD OF 'caucuslaw23.QuorumRuns'. -/
def quorumRunsUptoCard : Claim7 := { stood := { row := quorumRunsUptoRow, standIns := [], harness := (true, "54e5d0a587db3475811c4927c1d816a2cb8e0511f79e0bfe7c1a9e0afc37df06"), looks := true }, kinds := [], alts := [], laidByText := true, laidKinds := [.handle], laidTests := true, laidLooks := .later }
def QuorumRunsUptoCardSaid : Prop := Claim7.holds Tryd.pinned (.plain (OpenSpec.upto quorumRunsSpec)) quorumRunsUptoCard

/-- THE SECOND FORM's CARD OF 'caucuslaw23.QuorumStays'. -/
def quorumStaysUptoCard : Claim7 := { stood := { row := quorumStaysUptoRow, standIns := [], harness := (true, "54e5d0a587db3475811c4927c1d816a2cb8e0511f79e0bfe7c1a9e0afc37df06"), looks := true }, kinds := [], alts := [], laidByText := true, laidKinds := [.handle], laidTests := true, laidLooks := .later }
def QuorumStaysUptoCardSaid : Prop := Claim7.holds Tryd.pinned (.plain (OpenSpec.upto quorumStaysSpec)) quorumStaysUptoCard
end Rows
end Go.Proofs.YtkpangeeldhjfaaDoor
