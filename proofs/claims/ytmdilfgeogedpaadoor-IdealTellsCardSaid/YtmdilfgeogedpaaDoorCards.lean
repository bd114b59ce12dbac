/-
  DERIVED. GIVEN WITH THE SEED: THE CARDS: each row of YtmdilfgeogedpaaDoorRows.lean that lists a variable, with what it lists TIED to the program's text (the seventh form; the later family's looks); each row that meets fmt, with fmt's text TOLD by the authors' own Lean function (tested against real Go, not proved from fmt's source: count such statements apart). THE CARD IS WHAT COUNTS. Prove the row's statement (the work); the ties are given (YtmdilfgeogedpaaDoorTie.lean); close each card by the builder's one call (the guide's Derived/Test/ToyasCard.lean, 'card_holds'). Laid BY PROGRAM, IN A SANDBOX (cutbox-door.mjs). By AI agents, Wed Nov 11 2026. No macro, syntax, notation, axiom, sorry.
-/
import Derived.Test.YtmdilfgeogedpaaDoorRows
import GoSem.ClaimSeven
namespace Go.Proofs.YtmdilfgeogedpaaDoor
namespace Rows

/-- THE TIED CARD OF 'caucuslaw37.IdealTells'. -/
def idealTellsCard : Claim7 := { stood := { row := idealTellsRow, standIns := [], harness := (true, "24e7a23670ca79f414ce74d97e665c85e77a4978ba129887a950b3dbe6d1e3c8"), looks := true }, kinds := [], alts := [], laidByText := true, laidKinds := [.handle], laidTests := true, laidLooks := .later }
def IdealTellsCardSaid : Prop := Claim7.holds Tryd.pinned (.plain (OpenSpec.ofChange idealTellsSpec)) idealTellsCard

/-- THE TIED CARD OF 'caucuslaw37.IdealSame'. -/
def idealSameCard : Claim7 := { stood := { row := idealSameRow, standIns := [], harness := (true, "24e7a23670ca79f414ce74d97e665c85e77a4978ba129887a950b3dbe6d1e3c8"), looks := true }, kinds := [], alts := [], laidByText := true, laidKinds := [.handle], laidTests := true, laidLooks := .later }
def IdealSameCardSaid : Prop := Claim7.holds Tryd.pinned (.plain (OpenSpec.ofChange idealSameSpec)) idealSameCard

/-- THE TIED CARD OF 'caucuslaw37.IdealSums'. -/
def idealSumsCard : Claim7 := { stood := { row := idealSumsRow, standIns := [], harness := (true, "24e7a23670ca79f414ce74d97e665c85e77a4978ba129887a950b3dbe6d1e3c8"), looks := true }, kinds := [], alts := [], laidByText := true, laidKinds := [.handle], laidTests := true, laidLooks := .later }
def IdealSumsCardSaid : Prop := Claim7.holds Tryd.pinned (.plain (OpenSpec.ofChange idealSumsSpec)) idealSumsCard

/-- THE SECOND FORM's CARD OF 'caucuslaw37.IdealTells'. -/
def idealTellsUptoCard : Claim7 := { stood := { row := idealTellsUptoRow, standIns := [], harness := (true, "24e7a23670ca79f414ce74d97e665c85e77a4978ba129887a950b3dbe6d1e3c8"), looks := true }, kinds := [], alts := [], laidByText := true, laidKinds := [.handle], laidTests := true, laidLooks := .later }
def IdealTellsUptoCardSaid : Prop := Claim7.holds Tryd.pinned (.plain (OpenSpec.upto idealTellsSpec)) idealTellsUptoCard

/-- THE SECOND FORM's CARD OF 'caucuslaw37.IdealSame'. -/
def idealSameUptoCard : Claim7 := { stood := { row := idealSameUptoRow, standIns := [], harness := (true, "24e7a23670ca79f414ce74d97e665c85e77a4978ba129887a950b3dbe6d1e3c8"), looks := true }, kinds := [], alts := [], laidByText := true, laidKinds := [.handle], laidTests := true, laidLooks := .later }
def IdealSameUptoCardSaid : Prop := Claim7.holds Tryd.pinned (.plain (OpenSpec.upto idealSameSpec)) idealSameUptoCard

/-- THE SECOND FORM's CARD OF 'caucuslaw37.IdealSums'. -/
def idealSumsUptoCard : Claim7 := { stood := { row := idealSumsUptoRow, standIns := [], harness := (true, "24e7a23670ca79f414ce74d97e665c85e77a4978ba129887a950b3dbe6d1e3c8"), looks := true }, kinds := [], alts := [], laidByText := true, laidKinds := [.handle], laidTests := true, laidLooks := .later }
def IdealSumsUptoCardSaid : Prop := Claim7.holds Tryd.pinned (.plain (OpenSpec.upto idealSumsSpec)) idealSumsUptoCard
end Rows
end Go.Proofs.YtmdilfgeogedpaaDoor
