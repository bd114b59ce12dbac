/-
  DERIVED. GIVEN WITH THE SEED: THE CARDS: each row of YtbgmbemaopnjfaaDoorRows.lean that lists a variable, with what it lists TIED to the program's text (the seventh form; the later family's looks); each row that meets fmt, with fmt's text TOLD by the authors' own Lean function (tested against real Go, not proved from fmt's source: count such statements apart). THE CARD IS WHAT COUNTS. Prove the row's statement (the work); the ties are given (YtbgmbemaopnjfaaDoorTie.lean); close each card by the builder's one call (the guide's Derived/Test/ToyasCard.lean, 'card_holds'). Laid BY PROGRAM, IN A SANDBOX (cutbox-door.mjs). By AI agents, Wed Nov 11 2026. No macro, syntax, notation, axiom, sorry.
-/
import Derived.Test.YtbgmbemaopnjfaaDoorRows
import GoSem.ClaimSeven
namespace Go.Proofs.YtbgmbemaopnjfaaDoor
namespace Rows

/-- THE TIED CARD OF 'caucuslaw01.FpTells'. -/
def fpTellsCard : Claim7 := { stood := { row := fpTellsRow, standIns := [], harness := (true, "73173b38752192e6b2742453d1fa05c8afc958476eaddfa29285868b07f1fb60"), looks := true }, kinds := [], alts := [], laidByText := true, laidKinds := [.handle], laidTests := true, laidLooks := .later }
def FpTellsCardSaid : Prop := Claim7.holds Tryd.pinned (.plain (OpenSpec.ofChange fpTellsSpec)) fpTellsCard

/-- THE TIED CARD OF 'caucuslaw01.FpField'. -/
def fpFieldCard : Claim7 := { stood := { row := fpFieldRow, standIns := [], harness := (true, "73173b38752192e6b2742453d1fa05c8afc958476eaddfa29285868b07f1fb60"), looks := true }, kinds := [], alts := [], laidByText := true, laidKinds := [.handle], laidTests := true, laidLooks := .later }
def FpFieldCardSaid : Prop := Claim7.holds Tryd.pinned (.plain (OpenSpec.ofChange fpFieldSpec)) fpFieldCard

/-- THE TIED CARD OF 'caucuslaw01.FpPowers'. -/
def fpPowersCard : Claim7 := { stood := { row := fpPowersRow, standIns := [], harness := (true, "73173b38752192e6b2742453d1fa05c8afc958476eaddfa29285868b07f1fb60"), looks := true }, kinds := [], alts := [], laidByText := true, laidKinds := [.handle], laidTests := true, laidLooks := .later }
def FpPowersCardSaid : Prop := Claim7.holds Tryd.pinned (.plain (OpenSpec.ofChange fpPowersSpec)) fpPowersCard

/-- THE TIED CARD OF 'caucuslaw11.VarintBytes'. -/
def varintBytesCard : Claim7 := { stood := { row := varintBytesRow, standIns := [], harness := (true, "73173b38752192e6b2742453d1fa05c8afc958476eaddfa29285868b07f1fb60"), looks := true }, kinds := [], alts := [], laidByText := true, laidKinds := [.handle], laidTests := true, laidLooks := .later }
def VarintBytesCardSaid : Prop := Claim7.holds Tryd.pinned (.plain (OpenSpec.ofChange varintBytesSpec)) varintBytesCard

/-- THE TIED CARD OF 'caucuslaw11.VarintBack'. -/
def varintBackCard : Claim7 := { stood := { row := varintBackRow, standIns := [], harness := (true, "73173b38752192e6b2742453d1fa05c8afc958476eaddfa29285868b07f1fb60"), looks := true }, kinds := [], alts := [], laidByText := true, laidKinds := [.handle], laidTests := true, laidLooks := .later }
def VarintBackCardSaid : Prop := Claim7.holds Tryd.pinned (.plain (OpenSpec.ofChange varintBackSpec)) varintBackCard

/-- THE TIED CARD OF 'caucuslaw11.VarintRow'. -/
def varintRowCard : Claim7 := { stood := { row := varintRowRow, standIns := [], harness := (true, "73173b38752192e6b2742453d1fa05c8afc958476eaddfa29285868b07f1fb60"), looks := true }, kinds := [], alts := [], laidByText := true, laidKinds := [.handle], laidTests := true, laidLooks := .later }
def VarintRowCardSaid : Prop := Claim7.holds Tryd.pinned (.plain (OpenSpec.ofChange varintRowSpec)) varintRowCard

/-- THE TIED CARD OF 'caucuslaw20.BagAll'. -/
def bagAllCard : Claim7 := { stood := { row := bagAllRow, standIns := [], harness := (true, "73173b38752192e6b2742453d1fa05c8afc958476eaddfa29285868b07f1fb60"), looks := true }, kinds := [], alts := [], laidByText := true, laidKinds := [.handle], laidTests := true, laidLooks := .later }
def BagAllCardSaid : Prop := Claim7.holds Tryd.pinned (.plain (OpenSpec.ofChange bagAllSpec)) bagAllCard

/-- THE TIED CARD OF 'caucuslaw02.VecTells'. -/
def vecTellsCard : Claim7 := { stood := { row := vecTellsRow, standIns := [], harness := (true, "73173b38752192e6b2742453d1fa05c8afc958476eaddfa29285868b07f1fb60"), looks := true }, kinds := [], alts := [], laidByText := true, laidKinds := [.handle], laidTests := true, laidLooks := .later }
def VecTellsCardSaid : Prop := Claim7.holds Tryd.pinned (.plain (OpenSpec.ofChange vecTellsSpec)) vecTellsCard

/-- THE TIED CARD OF 'caucuslaw02.VecSums'. -/
def vecSumsCard : Claim7 := { stood := { row := vecSumsRow, standIns := [], harness := (true, "73173b38752192e6b2742453d1fa05c8afc958476eaddfa29285868b07f1fb60"), looks := true }, kinds := [], alts := [], laidByText := true, laidKinds := [.handle], laidTests := true, laidLooks := .later }
def VecSumsCardSaid : Prop := Claim7.holds Tryd.pinned (.plain (OpenSpec.ofChange vecSumsSpec)) vecSumsCard

/-- THE TIED CARD OF 'caucuslaw02.VecOrder'. -/
def vecOrderCard : Claim7 := { stood := { row := vecOrderRow, standIns := [], harness := (true, "73173b38752192e6b2742453d1fa05c8afc958476eaddfa29285868b07f1fb60"), looks := true }, kinds := [], alts := [], laidByText := true, laidKinds := [.handle], laidTests := true, laidLooks := .later }
def VecOrderCardSaid : Prop := Claim7.holds Tryd.pinned (.plain (OpenSpec.ofChange vecOrderSpec)) vecOrderCard

/-- THE TIED CARD OF 'caucuslaw02.VecTaken'. -/
def vecTakenCard : Claim7 := { stood := { row := vecTakenRow, standIns := [], harness := (true, "73173b38752192e6b2742453d1fa05c8afc958476eaddfa29285868b07f1fb60"), looks := true }, kinds := [], alts := [], laidByText := true, laidKinds := [.handle], laidTests := true, laidLooks := .later }
def VecTakenCardSaid : Prop := Claim7.holds Tryd.pinned (.plain (OpenSpec.ofChange vecTakenSpec)) vecTakenCard

/-- THE TIED CARD OF 'caucuslaw20.BagRuns'. -/
def bagRunsCard : Claim7 := { stood := { row := bagRunsRow, standIns := [], harness := (true, "73173b38752192e6b2742453d1fa05c8afc958476eaddfa29285868b07f1fb60"), looks := true }, kinds := [], alts := [], laidByText := true, laidKinds := [.handle], laidTests := true, laidLooks := .later }
def BagRunsCardSaid : Prop := Claim7.holds Tryd.pinned (.plain (OpenSpec.ofChange bagRunsSpec)) bagRunsCard

/-- THE SECOND FORM's CARD OF 'caucuslaw01.FpTells'. -/
def fpTellsUptoCard : Claim7 := { stood := { row := fpTellsUptoRow, standIns := [], harness := (true, "73173b38752192e6b2742453d1fa05c8afc958476eaddfa29285868b07f1fb60"), looks := true }, kinds := [], alts := [], laidByText := true, laidKinds := [.handle], laidTests := true, laidLooks := .later }
def FpTellsUptoCardSaid : Prop := Claim7.holds Tryd.pinned (.plain (OpenSpec.upto fpTellsSpec)) fpTellsUptoCard

/-- THE SECOND FORM's CARD OF 'caucuslaw01.FpField'. -/
def fpFieldUptoCard : Claim7 := { stood := { row := fpFieldUptoRow, standIns := [], harness := (true, "73173b38752192e6b2742453d1fa05c8afc958476eaddfa29285868b07f1fb60"), looks := true }, kinds := [], alts := [], laidByText := true, laidKinds := [.handle], laidTests := true, laidLooks := .later }
def FpFieldUptoCardSaid : Prop := Claim7.holds Tryd.pinned (.plain (OpenSpec.upto fpFieldSpec)) fpFieldUptoCard

/-- THE SECOND FORM's CARD OF 'caucuslaw01.FpPowers'. -/
def fpPowersUptoCard : Claim7 := { stood := { row := fpPowersUptoRow, standIns := [], harness := (true, "73173b38752192e6b2742453d1fa05c8afc958476eaddfa29285868b07f1fb60"), looks := true }, kinds := [], alts := [], laidByText := true, laidKinds := [.handle], laidTests := true, laidLooks := .later }
def FpPowersUptoCardSaid : Prop := Claim7.holds Tryd.pinned (.plain (OpenSpec.upto fpPowersSpec)) fpPowersUptoCard

/-- THE SECOND FORM's CARD OF 'caucuslaw11.VarintBytes'. -/
def varintBytesUptoCard : Claim7 := { stood := { row := varintBytesUptoRow, standIns := [], harness := (true, "73173b38752192e6b2742453d1fa05c8afc958476eaddfa29285868b07f1fb60"), looks := true }, kinds := [], alts := [], laidByText := true, laidKinds := [.handle], laidTests := true, laidLooks := .later }
def VarintBytesUptoCardSaid : Prop := Claim7.holds Tryd.pinned (.plain (OpenSpec.upto varintBytesSpec)) varintBytesUptoCard

/-- THE SECOND FORM's CARD OF 'caucuslaw11.VarintBack'. -/
def varintBackUptoCard : Claim7 := { stood := { row := varintBackUptoRow, standIns := [], harness := (true, "73173b38752192e6b2742453d1fa05c8afc958476eaddfa29285868b07f1fb60"), looks := true }, kinds := [], alts := [], laidByText := true, laidKinds := [.handle], laidTests := true, laidLooks := .later }
def VarintBackUptoCardSaid : Prop := Claim7.holds Tryd.pinned (.plain (OpenSpec.upto varintBackSpec)) varintBackUptoCard

/-- THE SECOND FORM's CARD OF 'caucuslaw11.VarintRow'. -/
def varintRowUptoCard : Claim7 := { stood := { row := varintRowUptoRow, standIns := [], harness := (true, "73173b38752192e6b2742453d1fa05c8afc958476eaddfa29285868b07f1fb60"), looks := true }, kinds := [], alts := [], laidByText := true, laidKinds := [.handle], laidTests := true, laidLooks := .later }
def VarintRowUptoCardSaid : Prop := Claim7.holds Tryd.pinned (.plain (OpenSpec.upto varintRowSpec)) varintRowUptoCard

/-- THE SECOND FORM's CARD OF 'caucuslaw20.BagAll'. -/
def bagAllUptoCard : Claim7 := { stood := { row := bagAllUptoRow, standIns := [], harness := (true, "73173b38752192e6b2742453d1fa05c8afc958476eaddfa29285868b07f1fb60"), looks := true }, kinds := [], alts := [], laidByText := true, laidKinds := [.handle], laidTests := true, laidLooks := .later }
def BagAllUptoCardSaid : Prop := Claim7.holds Tryd.pinned (.plain (OpenSpec.upto bagAllSpec)) bagAllUptoCard

/-- THE SECOND FORM's CARD OF 'caucuslaw02.VecTells'. -/
def vecTellsUptoCard : Claim7 := { stood := { row := vecTellsUptoRow, standIns := [], harness := (true, "73173b38752192e6b2742453d1fa05c8afc958476eaddfa29285868b07f1fb60"), looks := true }, kinds := [], alts := [], laidByText := true, laidKinds := [.handle], laidTests := true, laidLooks := .later }
def VecTellsUptoCardSaid : Prop := Claim7.holds Tryd.pinned (.plain (OpenSpec.upto vecTellsSpec)) vecTellsUptoCard

/-- THE SECOND FORM's CARD OF 'caucuslaw02.VecSums'. -/
def vecSumsUptoCard : Claim7 := { stood := { row := vecSumsUptoRow, standIns := [], harness := (true, "73173b38752192e6b2742453d1fa05c8afc958476eaddfa29285868b07f1fb60"), looks := true }, kinds := [], alts := [], laidByText := true, laidKinds := [.handle], laidTests := true, laidLooks := .later }
def VecSumsUptoCardSaid : Prop := Claim7.holds Tryd.pinned (.plain (OpenSpec.upto vecSumsSpec)) vecSumsUptoCard

/-- THE SECOND FORM's CARD OF 'caucuslaw02.VecOrder'. -/
def vecOrderUptoCard : Claim7 := { stood := { row := vecOrderUptoRow, standIns := [], harness := (true, "73173b38752192e6b2742453d1fa05c8afc958476eaddfa29285868b07f1fb60"), looks := true }, kinds := [], alts := [], laidByText := true, laidKinds := [.handle], laidTests := true, laidLooks := .later }
def VecOrderUptoCardSaid : Prop := Claim7.holds Tryd.pinned (.plain (OpenSpec.upto vecOrderSpec)) vecOrderUptoCard

/-- THE SECOND FORM's CARD OF 'caucuslaw02.VecTaken'. -/
def vecTakenUptoCard : Claim7 := { stood := { row := vecTakenUptoRow, standIns := [], harness := (true, "73173b38752192e6b2742453d1fa05c8afc958476eaddfa29285868b07f1fb60"), looks := true }, kinds := [], alts := [], laidByText := true, laidKinds := [.handle], laidTests := true, laidLooks := .later }
def VecTakenUptoCardSaid : Prop := Claim7.holds Tryd.pinned (.plain (OpenSpec.upto vecTakenSpec)) vecTakenUptoCard

/-- THE SECOND FORM's CARD OF 'caucuslaw20.BagRuns'. -/
def bagRunsUptoCard : Claim7 := { stood := { row := bagRunsUptoRow, standIns := [], harness := (true, "73173b38752192e6b2742453d1fa05c8afc958476eaddfa29285868b07f1fb60"), looks := true }, kinds := [], alts := [], laidByText := true, laidKinds := [.handle], laidTests := true, laidLooks := .later }
def BagRunsUptoCardSaid : Prop := Claim7.holds Tryd.pinned (.plain (OpenSpec.upto bagRunsSpec)) bagRunsUptoCard
end Rows
end Go.Proofs.YtbgmbemaopnjfaaDoor
