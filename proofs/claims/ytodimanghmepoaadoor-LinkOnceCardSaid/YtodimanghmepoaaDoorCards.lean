/-
  DERIVED. GIVEN WITH THE SEED: THE CARDS: each row of YtodimanghmepoaaDoorRows.lean that lists a variable, with what it lists TIED to the program's text (the seventh form; the later family's looks); each row that meets fmt, with fmt's text TOLD by the authors' own Lean function (tested against real Go, not proved from fmt's source: count such statements apart). THE CARD IS WHAT COUNTS. Prove the row's statement (the work); the ties are given (YtodimanghmepoaaDoorTie.lean); close each card by the builder's one call (the guide's Derived/Test/ToyasCard.lean, 'card_holds'). Laid BY PROGRAM, IN A SANDBOX (cutbox-door.mjs). By AI agents, Wed Nov 11 2026. No macro, syntax, notation, axiom, sorry.
-/
import Derived.Test.YtodimanghmepoaaDoorRows
import GoSem.ClaimSeven
namespace Go.Proofs.YtodimanghmepoaaDoor
namespace Rows

/-- THE TIED CARD OF 'caucuslaw19.LinkWord'. -/
def linkWordCard : Claim7 := { stood := { row := linkWordRow, standIns := [], harness := (true, "68d82aa18a9175544c014d79b82fa64aab3b93cbf254ea54eaed7d880f0cc077"), looks := true }, kinds := [], alts := [], laidByText := true, laidKinds := [.handle], laidTests := true, laidLooks := .later }
def LinkWordCardSaid : Prop := Claim7.holds Tryd.pinned (.plain (OpenSpec.ofChange linkWordSpec)) linkWordCard

/-- THE TIED CARD OF 'caucuslaw19.LinkRuns'. -/
def linkRunsCard : Claim7 := { stood := { row := linkRunsRow, standIns := [], harness := (true, "68d82aa18a9175544c014d79b82fa64aab3b93cbf254ea54eaed7d880f0cc077"), looks := true }, kinds := [], alts := [], laidByText := true, laidKinds := [.handle], laidTests := true, laidLooks := .later }
def LinkRunsCardSaid : Prop := Claim7.holds Tryd.pinned (.plain (OpenSpec.ofChange linkRunsSpec)) linkRunsCard

/-- THE TIED CARD OF 'caucuslaw19.LinkOnce'. -/
def linkOnceCard : Claim7 := { stood := { row := linkOnceRow, standIns := [], harness := (true, "68d82aa18a9175544c014d79b82fa64aab3b93cbf254ea54eaed7d880f0cc077"), looks := true }, kinds := [], alts := [], laidByText := true, laidKinds := [.handle], laidTests := true, laidLooks := .later }
def LinkOnceCardSaid : Prop := Claim7.holds Tryd.pinned (.plain (OpenSpec.ofChange linkOnceSpec)) linkOnceCard

/-- THE SECOND FORM's CARD OF 'caucuslaw19.LinkWord'. -/
def linkWordUptoCard : Claim7 := { stood := { row := linkWordUptoRow, standIns := [], harness := (true, "68d82aa18a9175544c014d79b82fa64aab3b93cbf254ea54eaed7d880f0cc077"), looks := true }, kinds := [], alts := [], laidByText := true, laidKinds := [.handle], laidTests := true, laidLooks := .later }
def LinkWordUptoCardSaid : Prop := Claim7.holds Tryd.pinned (.plain (OpenSpec.upto linkWordSpec)) linkWordUptoCard

/-- THE SECOND FORM's CARD OF 'caucuslaw19.LinkRuns'. -/
def linkRunsUptoCard : Claim7 := { stood := { row := linkRunsUptoRow, standIns := [], harness := (true, "68d82aa18a9175544c014d79b82fa64aab3b93cbf254ea54eaed7d880f0cc077"), looks := true }, kinds := [], alts := [], laidByText := true, laidKinds := [.handle], laidTests := true, laidLooks := .later }
def LinkRunsUptoCardSaid : Prop := Claim7.holds Tryd.pinned (.plain (OpenSpec.upto linkRunsSpec)) linkRunsUptoCard

/-- THE SECOND FORM's CARD OF 'caucuslaw19.LinkOnce'. -/
def linkOnceUptoCard : Claim7 := { stood := { row := linkOnceUptoRow, standIns := [], harness := (true, "68d82aa18a9175544c014d79b82fa64aab3b93cbf254ea54eaed7d880f0cc077"), looks := true }, kinds := [], alts := [], laidByText := true, laidKinds := [.handle], laidTests := true, laidLooks := .later }
def LinkOnceUptoCardSaid : Prop := Claim7.holds Tryd.pinned (.plain (OpenSpec.upto linkOnceSpec)) linkOnceUptoCard
end Rows
end Go.Proofs.YtodimanghmepoaaDoor
