/-
  DERIVED. GIVEN WITH THE SEED: THE CARDS: each row of YtpmejkgmeoajaaaDoorRows.lean that lists a variable, with what it lists TIED to the program's text (the seventh form; the later family's looks); each row that meets fmt, with fmt's text TOLD by the authors' own Lean function (tested against real Go, not proved from fmt's source: count such statements apart). THE CARD IS WHAT COUNTS. Prove the row's statement (the work); the ties are given (YtpmejkgmeoajaaaDoorTie.lean); close each card by the builder's one call (the guide's Derived/Test/ToyasCard.lean, 'card_holds'). Laid BY PROGRAM, IN A SANDBOX (cutbox-door.mjs). By AI agents, Wed Nov 11 2026. No macro, syntax, notation, axiom, sorry.
-/
import Derived.Test.YtpmejkgmeoajaaaDoorRows
import GoSem.ClaimSeven
namespace Go.Proofs.YtpmejkgmeoajaaaDoor
namespace Rows

/-- THE TIED CARD OF 'caucuslaw31.StandSilent'. -/
def standSilentCard : Claim7 := { stood := { row := standSilentRow, standIns := [], harness := (true, "6134dccbdb566cc5002b80908269234a82ff37d71016752065c05679053e010c"), looks := true }, kinds := [], alts := [], laidByText := true, laidKinds := [.handle], laidTests := true, laidLooks := .later }
def StandSilentCardSaid : Prop := Claim7.holds Tryd.pinned (.plain (OpenSpec.ofChange standSilentSpec)) standSilentCard

/-- THE TIED CARD OF 'caucuslaw15.SetTells'. -/
def setTellsCard : Claim7 := { stood := { row := setTellsRow, standIns := [], harness := (true, "6134dccbdb566cc5002b80908269234a82ff37d71016752065c05679053e010c"), looks := true }, kinds := [], alts := [], laidByText := true, laidKinds := [.handle], laidTests := true, laidLooks := .later }
def SetTellsCardSaid : Prop := Claim7.holds Tryd.pinned (.plain (OpenSpec.ofChange setTellsSpec)) setTellsCard

/-- THE TIED CARD OF 'caucuslaw15.SetParts'. -/
def setPartsCard : Claim7 := { stood := { row := setPartsRow, standIns := [], harness := (true, "6134dccbdb566cc5002b80908269234a82ff37d71016752065c05679053e010c"), looks := true }, kinds := [], alts := [], laidByText := true, laidKinds := [.handle], laidTests := true, laidLooks := .later }
def SetPartsCardSaid : Prop := Claim7.holds Tryd.pinned (.plain (OpenSpec.ofChange setPartsSpec)) setPartsCard

/-- THE TIED CARD OF 'caucuslaw15.SetOrder'. -/
def setOrderCard : Claim7 := { stood := { row := setOrderRow, standIns := [], harness := (true, "6134dccbdb566cc5002b80908269234a82ff37d71016752065c05679053e010c"), looks := true }, kinds := [], alts := [], laidByText := true, laidKinds := [.handle], laidTests := true, laidLooks := .later }
def SetOrderCardSaid : Prop := Claim7.holds Tryd.pinned (.plain (OpenSpec.ofChange setOrderSpec)) setOrderCard

/-- THE SECOND FORM's CARD OF 'caucuslaw31.StandSilent'. -/
def standSilentUptoCard : Claim7 := { stood := { row := standSilentUptoRow, standIns := [], harness := (true, "6134dccbdb566cc5002b80908269234a82ff37d71016752065c05679053e010c"), looks := true }, kinds := [], alts := [], laidByText := true, laidKinds := [.handle], laidTests := true, laidLooks := .later }
def StandSilentUptoCardSaid : Prop := Claim7.holds Tryd.pinned (.plain (OpenSpec.upto standSilentSpec)) standSilentUptoCard

/-- THE SECOND FORM's CARD OF 'caucuslaw15.SetTells'. -/
def setTellsUptoCard : Claim7 := { stood := { row := setTellsUptoRow, standIns := [], harness := (true, "6134dccbdb566cc5002b80908269234a82ff37d71016752065c05679053e010c"), looks := true }, kinds := [], alts := [], laidByText := true, laidKinds := [.handle], laidTests := true, laidLooks := .later }
def SetTellsUptoCardSaid : Prop := Claim7.holds Tryd.pinned (.plain (OpenSpec.upto setTellsSpec)) setTellsUptoCard

/-- THE SECOND FORM's CARD OF 'caucuslaw15.SetParts'. -/
def setPartsUptoCard : Claim7 := { stood := { row := setPartsUptoRow, standIns := [], harness := (true, "6134dccbdb566cc5002b80908269234a82ff37d71016752065c05679053e010c"), looks := true }, kinds := [], alts := [], laidByText := true, laidKinds := [.handle], laidTests := true, laidLooks := .later }
def SetPartsUptoCardSaid : Prop := Claim7.holds Tryd.pinned (.plain (OpenSpec.upto setPartsSpec)) setPartsUptoCard

/-- THE SECOND FORM's CARD OF 'caucuslaw15.SetOrder'. -/
def setOrderUptoCard : Claim7 := { stood := { row := setOrderUptoRow, standIns := [], harness := (true, "6134dccbdb566cc5002b80908269234a82ff37d71016752065c05679053e010c"), looks := true }, kinds := [], alts := [], laidByText := true, laidKinds := [.handle], laidTests := true, laidLooks := .later }
def SetOrderUptoCardSaid : Prop := Claim7.holds Tryd.pinned (.plain (OpenSpec.upto setOrderSpec)) setOrderUptoCard
end Rows
end Go.Proofs.YtpmejkgmeoajaaaDoor
