/-
  DERIVED. GIVEN WITH THE SEED: THE CARDS: each row of YtbejknjlpnibaaaDoorRows.lean that lists a variable, with what it lists TIED to the program's text (the seventh form; the later family's looks); each row that meets fmt, with fmt's text TOLD by the authors' own Lean function (tested against real Go, not proved from fmt's source: count such statements apart). THE CARD IS WHAT COUNTS. Prove the row's statement (the work); the ties are given (YtbejknjlpnibaaaDoorTie.lean); close each card by the builder's one call (the guide's Derived/Test/ToyasCard.lean, 'card_holds'). Laid BY PROGRAM, IN A SANDBOX (cutbox-door.mjs). By AI agents, Wed Nov 11 2026. No macro, syntax, notation, axiom, sorry.
-/
import Derived.Test.YtbejknjlpnibaaaDoorRows
import GoSem.ClaimSeven
namespace Go.Proofs.YtbejknjlpnibaaaDoor
namespace Rows

/-- THE TIED CARD OF 'caucuslaw17.SenderRuns'. -/
def senderRunsCard : Claim7 := { stood := { row := senderRunsRow, standIns := [], harness := (true, "e0a1e920065d5872e2e45cb756357f181eb1bd21279f09c0a5e2a31cc57f60f5"), looks := true }, kinds := [], alts := [], laidByText := true, laidKinds := [.handle], laidTests := true, laidLooks := .later }
def SenderRunsCardSaid : Prop := Claim7.holds Tryd.pinned (.plain (OpenSpec.ofChange senderRunsSpec)) senderRunsCard

/-- THE SECOND FORM's CARD OF 'caucuslaw17.SenderRuns'. -/
def senderRunsUptoCard : Claim7 := { stood := { row := senderRunsUptoRow, standIns := [], harness := (true, "e0a1e920065d5872e2e45cb756357f181eb1bd21279f09c0a5e2a31cc57f60f5"), looks := true }, kinds := [], alts := [], laidByText := true, laidKinds := [.handle], laidTests := true, laidLooks := .later }
def SenderRunsUptoCardSaid : Prop := Claim7.holds Tryd.pinned (.plain (OpenSpec.upto senderRunsSpec)) senderRunsUptoCard
end Rows
end Go.Proofs.YtbejknjlpnibaaaDoor
