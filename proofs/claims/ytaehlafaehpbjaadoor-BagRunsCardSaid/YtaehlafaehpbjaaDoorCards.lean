/-
  DERIVED. GIVEN WITH THE SEED: THE CARDS: each row of YtaehlafaehpbjaaDoorRows.lean that lists a variable, with what it lists TIED to the program's text (the seventh form; the later family's looks); each row that meets fmt, with fmt's text TOLD by the authors' own Lean function (tested against real Go, not proved from fmt's source: count such statements apart). THE CARD IS WHAT COUNTS. Prove the row's statement (the work); the ties are given (YtaehlafaehpbjaaDoorTie.lean); close each card by the builder's one call (the guide's Derived/Test/ToyasCard.lean, 'card_holds'). Laid BY PROGRAM, IN A SANDBOX (cutbox-door.mjs). By AI agents, Wed Nov 11 2026. No macro, syntax, notation, axiom, sorry.
-/
import Derived.Test.YtaehlafaehpbjaaDoorRows
import GoSem.ClaimSeven
namespace Go.Proofs.YtaehlafaehpbjaaDoor
namespace Rows

/-- THE TIED CARD OF 'caucuslaw20.BagRuns'. -/
def bagRunsCard : Claim7 := { stood := { row := bagRunsRow, standIns := [], harness := (true, "4ee42b6cf3ed49224845d24fe6b339e6f0598c9a971835f8aa28f607d8b59f94"), looks := true }, kinds := [], alts := [], laidByText := true, laidKinds := [.handle], laidTests := true, laidLooks := .later }
def BagRunsCardSaid : Prop := Claim7.holds Tryd.pinned (.plain (OpenSpec.ofChange bagRunsSpec)) bagRunsCard

/-- THE SECOND FORM's CARD OF 'caucuslaw20.BagRuns'. -/
def bagRunsUptoCard : Claim7 := { stood := { row := bagRunsUptoRow, standIns := [], harness := (true, "4ee42b6cf3ed49224845d24fe6b339e6f0598c9a971835f8aa28f607d8b59f94"), looks := true }, kinds := [], alts := [], laidByText := true, laidKinds := [.handle], laidTests := true, laidLooks := .later }
def BagRunsUptoCardSaid : Prop := Claim7.holds Tryd.pinned (.plain (OpenSpec.upto bagRunsSpec)) bagRunsUptoCard
end Rows
end Go.Proofs.YtaehlafaehpbjaaDoor
