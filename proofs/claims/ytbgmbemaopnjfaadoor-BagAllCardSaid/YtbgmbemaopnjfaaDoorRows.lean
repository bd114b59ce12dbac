/-
  NARROWER THAN 'FOR EVERY INPUT', by the rows' own cells (each row's printed sentence says how): FpTells: laid · FpField: laid · FpPowers: laid · VarintBytes: laid · VarintBack: laid · VarintRow: laid · BagAll: laid · VecTells: laid · VecSums: laid · VecOrder: laid · VecTaken: laid · BagRuns: laid.
  DERIVED. THE GIVEN ROWS OF THIS SEAT. 12 by the template 'for every input the law returns true; each argument reads behind the call as it read before'; 0 by the template 'total and deterministic' (their statements: YtbgmbemaopnjfaaDoorTotals.lean).
  GIVEN WITH THE SEED: the statements are not yours to turn. If you find one false, say at which input.
  Laid BY PROGRAM, IN A SANDBOX (cutbox-rows.mjs): the forced cells as the released guide's own fill.sh prints them over the translation bc193dfd70f1ada0… (all of the seat's roots in one cut). By AI agents, Wed Nov 11 2026. No macro, syntax, notation, axiom, sorry.
-/
import Derived.Test.YtbgmbemaopnjfaaDoorChecked
import GoSem.Claim
import GoSem.ClaimJoined
import GoSem.ClaimMapViews
import Derived.JoinedTies
import Derived.KernelRfl
namespace Go.Proofs.YtbgmbemaopnjfaaDoor
/- THE CELL 'sum', in the pinned program and in every row, IS THE sha256 OF THE DUMP (.gsa) THAT YtbgmbemaopnjfaaDoorProg.lean LOADS. Nothing in Lean hashes anything: it is a label: what it is worth is what the hold of that sum in a sandbox is worth. -/
noncomputable def Tryd.pinned : Pinned := { name := "ytbgmbemaopnjfaadoor", sum := "bc193dfd70f1ada0525f0ec967065663b345c2ff9843e66a7e264c901cb8a756", checked := Tryd.checked }
namespace Rows
def none {H : Type} : Left H := { results := [], args := [] }

/- WHAT THE LISTED PACKAGE-LEVEL VARIABLES READ AS WHEN THE CALL BEGINS. Each datum BY PROGRAM (the guide's laid-datum.mjs) off the statement by which the dump's own 'gosem.cut.vars' lays the variable. In a bare row this is a premise. The card (YtbgmbemaopnjfaaDoorCards.lean) ties it to the program's text. -/
def laid_errors_errorType {H : Type} : DataW H := .iface "internal/reflectlite.rtype" (.agg [.ptr (.lit (.string [101, 114, 114, 111, 114]))])

/-- 'caucuslaw01.FpTells': WHATEVER THE INPUT: true; the input reads as it did. -/
def fpTellsSpec : ChangeSpec := { name := "fpTells", fn := fun _ => fun
  | [d1, d2] => { results := [.lit (.bool true)], args := [d1, d2] }
  | _ => none }
def fpTellsRow : OpenClaim := { program := "ytbgmbemaopnjfaadoor", sum := "bc193dfd70f1ada0525f0ec967065663b345c2ff9843e66a7e264c901cb8a756", func := "caucus/caucuslaw01.FpTells", spec := "fpTells", inPlace := ["internal/reflectlite.ValueOf", "(internal/reflectlite.Value).Type", "(internal/reflectlite.Value).IsNil", "internal/reflectlite.TypeOf", "(internal/reflectlite.Value).Elem", "(internal/reflectlite.Value).Set"], unfollowed := true, recurses := true, named := ["errors.errorType"], apart := false, laid := [("errors.errorType", laid_errors_errorType)] }
def FpTellsSaid : Prop := fpTellsRow.holds Tryd.pinned (OpenSpec.ofChange fpTellsSpec)

/-- ITS FALSE NEIGHBOUR: 'it returns false'. Refute it at one input. -/
def fpTellsWrong : ChangeSpec := { name := "fpTells", fn := fun _ => fun
  | [d1, d2] => { results := [.lit (.bool false)], args := [d1, d2] }
  | _ => none }
def FpTellsWrongFalsely : Prop := fpTellsRow.holds Tryd.pinned (OpenSpec.ofChange fpTellsWrong)

/-- 'caucuslaw01.FpField': WHATEVER THE INPUT: true; the input reads as it did. -/
def fpFieldSpec : ChangeSpec := { name := "fpField", fn := fun _ => fun
  | [d1, d2, d3] => { results := [.lit (.bool true)], args := [d1, d2, d3] }
  | _ => none }
def fpFieldRow : OpenClaim := { program := "ytbgmbemaopnjfaadoor", sum := "bc193dfd70f1ada0525f0ec967065663b345c2ff9843e66a7e264c901cb8a756", func := "caucus/caucuslaw01.FpField", spec := "fpField", inPlace := ["internal/reflectlite.ValueOf", "(internal/reflectlite.Value).Type", "(internal/reflectlite.Value).IsNil", "internal/reflectlite.TypeOf", "(internal/reflectlite.Value).Elem", "(internal/reflectlite.Value).Set"], unfollowed := true, recurses := true, named := ["errors.errorType"], apart := false, laid := [("errors.errorType", laid_errors_errorType)] }
def FpFieldSaid : Prop := fpFieldRow.holds Tryd.pinned (OpenSpec.ofChange fpFieldSpec)

/-- ITS FALSE NEIGHBOUR: 'it returns false'. Refute it at one input. -/
def fpFieldWrong : ChangeSpec := { name := "fpField", fn := fun _ => fun
  | [d1, d2, d3] => { results := [.lit (.bool false)], args := [d1, d2, d3] }
  | _ => none }
def FpFieldWrongFalsely : Prop := fpFieldRow.holds Tryd.pinned (OpenSpec.ofChange fpFieldWrong)

/-- 'caucuslaw01.FpPowers': WHATEVER THE INPUT: true; the input reads as it did. -/
def fpPowersSpec : ChangeSpec := { name := "fpPowers", fn := fun _ => fun
  | [d1, d2, d3] => { results := [.lit (.bool true)], args := [d1, d2, d3] }
  | _ => none }
def fpPowersRow : OpenClaim := { program := "ytbgmbemaopnjfaadoor", sum := "bc193dfd70f1ada0525f0ec967065663b345c2ff9843e66a7e264c901cb8a756", func := "caucus/caucuslaw01.FpPowers", spec := "fpPowers", inPlace := ["internal/reflectlite.ValueOf", "(internal/reflectlite.Value).Type", "(internal/reflectlite.Value).IsNil", "internal/reflectlite.TypeOf", "(internal/reflectlite.Value).Elem", "(internal/reflectlite.Value).Set"], unfollowed := true, recurses := true, named := ["errors.errorType"], apart := false, laid := [("errors.errorType", laid_errors_errorType)] }
def FpPowersSaid : Prop := fpPowersRow.holds Tryd.pinned (OpenSpec.ofChange fpPowersSpec)

/-- ITS FALSE NEIGHBOUR: 'it returns false'. Refute it at one input. -/
def fpPowersWrong : ChangeSpec := { name := "fpPowers", fn := fun _ => fun
  | [d1, d2, d3] => { results := [.lit (.bool false)], args := [d1, d2, d3] }
  | _ => none }
def FpPowersWrongFalsely : Prop := fpPowersRow.holds Tryd.pinned (OpenSpec.ofChange fpPowersWrong)

/-- 'caucuslaw11.VarintBytes': WHATEVER THE INPUT: true; the input reads as it did. -/
def varintBytesSpec : ChangeSpec := { name := "varintBytes", fn := fun _ => fun
  | [d1, d2] => { results := [.lit (.bool true)], args := [d1, d2] }
  | _ => none }
def varintBytesRow : OpenClaim := { program := "ytbgmbemaopnjfaadoor", sum := "bc193dfd70f1ada0525f0ec967065663b345c2ff9843e66a7e264c901cb8a756", func := "caucus/caucuslaw11.VarintBytes", spec := "varintBytes", inPlace := ["internal/reflectlite.ValueOf", "(internal/reflectlite.Value).Type", "(internal/reflectlite.Value).IsNil", "internal/reflectlite.TypeOf", "(internal/reflectlite.Value).Elem", "(internal/reflectlite.Value).Set"], unfollowed := true, recurses := true, named := ["errors.errorType"], apart := false, laid := [("errors.errorType", laid_errors_errorType)] }
def VarintBytesSaid : Prop := varintBytesRow.holds Tryd.pinned (OpenSpec.ofChange varintBytesSpec)

/-- ITS FALSE NEIGHBOUR: 'it returns false'. Refute it at one input. -/
def varintBytesWrong : ChangeSpec := { name := "varintBytes", fn := fun _ => fun
  | [d1, d2] => { results := [.lit (.bool false)], args := [d1, d2] }
  | _ => none }
def VarintBytesWrongFalsely : Prop := varintBytesRow.holds Tryd.pinned (OpenSpec.ofChange varintBytesWrong)

/-- 'caucuslaw11.VarintBack': WHATEVER THE INPUT: true; the input reads as it did. -/
def varintBackSpec : ChangeSpec := { name := "varintBack", fn := fun _ => fun
  | [d1, d2, d3] => { results := [.lit (.bool true)], args := [d1, d2, d3] }
  | _ => none }
def varintBackRow : OpenClaim := { program := "ytbgmbemaopnjfaadoor", sum := "bc193dfd70f1ada0525f0ec967065663b345c2ff9843e66a7e264c901cb8a756", func := "caucus/caucuslaw11.VarintBack", spec := "varintBack", inPlace := ["internal/reflectlite.ValueOf", "(internal/reflectlite.Value).Type", "(internal/reflectlite.Value).IsNil", "internal/reflectlite.TypeOf", "(internal/reflectlite.Value).Elem", "(internal/reflectlite.Value).Set"], unfollowed := true, recurses := true, named := ["errors.errorType"], apart := false, laid := [("errors.errorType", laid_errors_errorType)] }
def VarintBackSaid : Prop := varintBackRow.holds Tryd.pinned (OpenSpec.ofChange varintBackSpec)

/-- ITS FALSE NEIGHBOUR: 'it returns false'. Refute it at one input. -/
def varintBackWrong : ChangeSpec := { name := "varintBack", fn := fun _ => fun
  | [d1, d2, d3] => { results := [.lit (.bool false)], args := [d1, d2, d3] }
  | _ => none }
def VarintBackWrongFalsely : Prop := varintBackRow.holds Tryd.pinned (OpenSpec.ofChange varintBackWrong)

/-- 'caucuslaw11.VarintRow': WHATEVER THE INPUT: true; the input reads as it did. -/
def varintRowSpec : ChangeSpec := { name := "varintRow", fn := fun _ => fun
  | [d] => { results := [.lit (.bool true)], args := [d] }
  | _ => none }
def varintRowRow : OpenClaim := { program := "ytbgmbemaopnjfaadoor", sum := "bc193dfd70f1ada0525f0ec967065663b345c2ff9843e66a7e264c901cb8a756", func := "caucus/caucuslaw11.VarintRow", spec := "varintRow", inPlace := ["internal/reflectlite.ValueOf", "(internal/reflectlite.Value).Type", "(internal/reflectlite.Value).IsNil", "internal/reflectlite.TypeOf", "(internal/reflectlite.Value).Elem", "(internal/reflectlite.Value).Set"], unfollowed := true, recurses := true, named := ["errors.errorType"], apart := false, laid := [("errors.errorType", laid_errors_errorType)] }
def VarintRowSaid : Prop := varintRowRow.holds Tryd.pinned (OpenSpec.ofChange varintRowSpec)

/-- ITS FALSE NEIGHBOUR: 'it returns false'. Refute it at one input. -/
def varintRowWrong : ChangeSpec := { name := "varintRow", fn := fun _ => fun
  | [d] => { results := [.lit (.bool false)], args := [d] }
  | _ => none }
def VarintRowWrongFalsely : Prop := varintRowRow.holds Tryd.pinned (OpenSpec.ofChange varintRowWrong)

/-- 'caucuslaw20.BagAll': WHATEVER THE INPUT: true; the input reads as it did. -/
def bagAllSpec : ChangeSpec := { name := "bagAll", fn := fun _ => fun
  | [d1, d2, d3] => { results := [.lit (.bool true)], args := [d1, d2, d3] }
  | _ => none }
def bagAllRow : OpenClaim := { program := "ytbgmbemaopnjfaadoor", sum := "bc193dfd70f1ada0525f0ec967065663b345c2ff9843e66a7e264c901cb8a756", func := "caucus/caucuslaw20.BagAll", spec := "bagAll", inPlace := ["internal/reflectlite.ValueOf", "(internal/reflectlite.Value).Type", "(internal/reflectlite.Value).IsNil", "internal/reflectlite.TypeOf", "(internal/reflectlite.Value).Elem", "(internal/reflectlite.Value).Set"], unfollowed := true, recurses := true, named := ["errors.errorType"], apart := false, laid := [("errors.errorType", laid_errors_errorType)] }
def BagAllSaid : Prop := bagAllRow.holds Tryd.pinned (OpenSpec.ofChange bagAllSpec)

/-- ITS FALSE NEIGHBOUR: 'it returns false'. Refute it at one input. -/
def bagAllWrong : ChangeSpec := { name := "bagAll", fn := fun _ => fun
  | [d1, d2, d3] => { results := [.lit (.bool false)], args := [d1, d2, d3] }
  | _ => none }
def BagAllWrongFalsely : Prop := bagAllRow.holds Tryd.pinned (OpenSpec.ofChange bagAllWrong)

/-- 'caucuslaw02.VecTells': WHATEVER THE INPUT: true; the input reads as it did. -/
def vecTellsSpec : ChangeSpec := { name := "vecTells", fn := fun _ => fun
  | [d1, d2, d3] => { results := [.lit (.bool true)], args := [d1, d2, d3] }
  | _ => none }
def vecTellsRow : OpenClaim := { program := "ytbgmbemaopnjfaadoor", sum := "bc193dfd70f1ada0525f0ec967065663b345c2ff9843e66a7e264c901cb8a756", func := "caucus/caucuslaw02.VecTells", spec := "vecTells", inPlace := ["internal/reflectlite.ValueOf", "(internal/reflectlite.Value).Type", "(internal/reflectlite.Value).IsNil", "internal/reflectlite.TypeOf", "(internal/reflectlite.Value).Elem", "(internal/reflectlite.Value).Set"], unfollowed := true, recurses := true, named := ["errors.errorType"], apart := false, laid := [("errors.errorType", laid_errors_errorType)] }
def VecTellsSaid : Prop := vecTellsRow.holds Tryd.pinned (OpenSpec.ofChange vecTellsSpec)

/-- ITS FALSE NEIGHBOUR: 'it returns false'. Refute it at one input. -/
def vecTellsWrong : ChangeSpec := { name := "vecTells", fn := fun _ => fun
  | [d1, d2, d3] => { results := [.lit (.bool false)], args := [d1, d2, d3] }
  | _ => none }
def VecTellsWrongFalsely : Prop := vecTellsRow.holds Tryd.pinned (OpenSpec.ofChange vecTellsWrong)

/-- 'caucuslaw02.VecSums': WHATEVER THE INPUT: true; the input reads as it did. -/
def vecSumsSpec : ChangeSpec := { name := "vecSums", fn := fun _ => fun
  | [d1, d2] => { results := [.lit (.bool true)], args := [d1, d2] }
  | _ => none }
def vecSumsRow : OpenClaim := { program := "ytbgmbemaopnjfaadoor", sum := "bc193dfd70f1ada0525f0ec967065663b345c2ff9843e66a7e264c901cb8a756", func := "caucus/caucuslaw02.VecSums", spec := "vecSums", inPlace := ["internal/reflectlite.ValueOf", "(internal/reflectlite.Value).Type", "(internal/reflectlite.Value).IsNil", "internal/reflectlite.TypeOf", "(internal/reflectlite.Value).Elem", "(internal/reflectlite.Value).Set"], unfollowed := true, recurses := true, named := ["errors.errorType"], apart := false, laid := [("errors.errorType", laid_errors_errorType)] }
def VecSumsSaid : Prop := vecSumsRow.holds Tryd.pinned (OpenSpec.ofChange vecSumsSpec)

/-- ITS FALSE NEIGHBOUR: 'it returns false'. Refute it at one input. -/
def vecSumsWrong : ChangeSpec := { name := "vecSums", fn := fun _ => fun
  | [d1, d2] => { results := [.lit (.bool false)], args := [d1, d2] }
  | _ => none }
def VecSumsWrongFalsely : Prop := vecSumsRow.holds Tryd.pinned (OpenSpec.ofChange vecSumsWrong)

/-- 'caucuslaw02.VecOrder': WHATEVER THE INPUT: true; the input reads as it did. -/
def vecOrderSpec : ChangeSpec := { name := "vecOrder", fn := fun _ => fun
  | [d1, d2, d3] => { results := [.lit (.bool true)], args := [d1, d2, d3] }
  | _ => none }
def vecOrderRow : OpenClaim := { program := "ytbgmbemaopnjfaadoor", sum := "bc193dfd70f1ada0525f0ec967065663b345c2ff9843e66a7e264c901cb8a756", func := "caucus/caucuslaw02.VecOrder", spec := "vecOrder", inPlace := ["internal/reflectlite.ValueOf", "(internal/reflectlite.Value).Type", "(internal/reflectlite.Value).IsNil", "internal/reflectlite.TypeOf", "(internal/reflectlite.Value).Elem", "(internal/reflectlite.Value).Set"], unfollowed := true, recurses := true, named := ["errors.errorType"], apart := false, laid := [("errors.errorType", laid_errors_errorType)] }
def VecOrderSaid : Prop := vecOrderRow.holds Tryd.pinned (OpenSpec.ofChange vecOrderSpec)

/-- ITS FALSE NEIGHBOUR: 'it returns false'. Refute it at one input. -/
def vecOrderWrong : ChangeSpec := { name := "vecOrder", fn := fun _ => fun
  | [d1, d2, d3] => { results := [.lit (.bool false)], args := [d1, d2, d3] }
  | _ => none }
def VecOrderWrongFalsely : Prop := vecOrderRow.holds Tryd.pinned (OpenSpec.ofChange vecOrderWrong)

/-- 'caucuslaw02.VecTaken': WHATEVER THE INPUT: true; the input reads as it did. -/
def vecTakenSpec : ChangeSpec := { name := "vecTaken", fn := fun _ => fun
  | [d1, d2, d3] => { results := [.lit (.bool true)], args := [d1, d2, d3] }
  | _ => none }
def vecTakenRow : OpenClaim := { program := "ytbgmbemaopnjfaadoor", sum := "bc193dfd70f1ada0525f0ec967065663b345c2ff9843e66a7e264c901cb8a756", func := "caucus/caucuslaw02.VecTaken", spec := "vecTaken", inPlace := ["internal/reflectlite.ValueOf", "(internal/reflectlite.Value).Type", "(internal/reflectlite.Value).IsNil", "internal/reflectlite.TypeOf", "(internal/reflectlite.Value).Elem", "(internal/reflectlite.Value).Set"], unfollowed := true, recurses := true, named := ["errors.errorType"], apart := false, laid := [("errors.errorType", laid_errors_errorType)] }
def VecTakenSaid : Prop := vecTakenRow.holds Tryd.pinned (OpenSpec.ofChange vecTakenSpec)

/-- ITS FALSE NEIGHBOUR: 'it returns false'. Refute it at one input. -/
def vecTakenWrong : ChangeSpec := { name := "vecTaken", fn := fun _ => fun
  | [d1, d2, d3] => { results := [.lit (.bool false)], args := [d1, d2, d3] }
  | _ => none }
def VecTakenWrongFalsely : Prop := vecTakenRow.holds Tryd.pinned (OpenSpec.ofChange vecTakenWrong)

/-- 'caucuslaw20.BagRuns': WHATEVER THE INPUT: true; the input reads as it did. -/
def bagRunsSpec : ChangeSpec := { name := "bagRuns", fn := fun _ => fun
  | [d1, d2] => { results := [.lit (.bool true)], args := [d1, d2] }
  | _ => none }
def bagRunsRow : OpenClaim := { program := "ytbgmbemaopnjfaadoor", sum := "bc193dfd70f1ada0525f0ec967065663b345c2ff9843e66a7e264c901cb8a756", func := "caucus/caucuslaw20.BagRuns", spec := "bagRuns", inPlace := ["internal/reflectlite.ValueOf", "(internal/reflectlite.Value).Type", "(internal/reflectlite.Value).IsNil", "internal/reflectlite.TypeOf", "(internal/reflectlite.Value).Elem", "(internal/reflectlite.Value).Set"], unfollowed := true, recurses := true, named := ["errors.errorType"], apart := false, laid := [("errors.errorType", laid_errors_errorType)] }
def BagRunsSaid : Prop := bagRunsRow.holds Tryd.pinned (OpenSpec.ofChange bagRunsSpec)

/-- ITS FALSE NEIGHBOUR: 'it returns false'. Refute it at one input. -/
def bagRunsWrong : ChangeSpec := { name := "bagRuns", fn := fun _ => fun
  | [d1, d2] => { results := [.lit (.bool false)], args := [d1, d2] }
  | _ => none }
def BagRunsWrongFalsely : Prop := bagRunsRow.holds Tryd.pinned (OpenSpec.ofChange bagRunsWrong)

/- THE SECOND FORM. 'bulk': how many values and letters a reading holds, each counted each time it is reached (what is shared counts as often as it is met; a slice's spare places count too). A statement '..UptoSaid' is the law's where the arguments, and the package variables that the reading takes, are together of bulk at most 1048576: NARROWER than '..Said'. Prove '..Said' where nothing that the law and all that it calls make is longer than what came in: it says more and counts as full. Else prove '..UptoSaid'. A law counts once. -/
mutual
def uptoBulk {H : Type} : DataW H → Nat
  | .lit (.string bytes) => bytes.length + 1
  | .lit _ => 1
  | .nil => 1
  | .ptr d => uptoBulk d + 1
  | .slice elems spare => uptoBulkAll elems + uptoBulkAll spare + 1
  | .agg parts => uptoBulkAll parts + 1
  | .iface _ d => uptoBulk d + 1
  | .map entries => uptoBulkEntries entries + 1
  | .held _ => 1
def uptoBulkAll {H : Type} : List (DataW H) → Nat
  | [] => 0
  | d :: r => uptoBulk d + uptoBulkAll r
def uptoBulkEntries {H : Type} : List (Lit × DataW H) → Nat
  | [] => 0
  | x :: r => uptoBulkEntry x + uptoBulkEntries r
def uptoBulkEntry {H : Type} : Lit × DataW H → Nat
  | (.string bytes, d) => bytes.length + uptoBulk d + 1
  | (_, d) => uptoBulk d + 1
 end
def uptoSmall : (H : Type) → List (DataW H) → Bool := fun _ ds => decide (uptoBulkAll ds ≤ 1048576)
def OpenSpec.upto (s : _root_.Go.ChangeSpec) : _root_.Go.OpenSpec := { _root_.Go.OpenSpec.ofChange s with cond := some uptoSmall }

/-- 'caucuslaw01.FpTells', WHERE WHAT IT READS IS OF BULK AT MOST 1048576: true; the input reads as it did. -/
def fpTellsUptoRow : OpenClaim := { program := "ytbgmbemaopnjfaadoor", sum := "bc193dfd70f1ada0525f0ec967065663b345c2ff9843e66a7e264c901cb8a756", func := "caucus/caucuslaw01.FpTells", spec := "fpTells", inPlace := ["internal/reflectlite.ValueOf", "(internal/reflectlite.Value).Type", "(internal/reflectlite.Value).IsNil", "internal/reflectlite.TypeOf", "(internal/reflectlite.Value).Elem", "(internal/reflectlite.Value).Set"], unfollowed := true, recurses := true, named := ["errors.errorType"], apart := false, laid := [("errors.errorType", laid_errors_errorType)], narrowed := true }
def FpTellsUptoSaid : Prop := fpTellsUptoRow.holds Tryd.pinned (OpenSpec.upto fpTellsSpec)

/-- 'caucuslaw01.FpField', WHERE WHAT IT READS IS OF BULK AT MOST 1048576: true; the input reads as it did. -/
def fpFieldUptoRow : OpenClaim := { program := "ytbgmbemaopnjfaadoor", sum := "bc193dfd70f1ada0525f0ec967065663b345c2ff9843e66a7e264c901cb8a756", func := "caucus/caucuslaw01.FpField", spec := "fpField", inPlace := ["internal/reflectlite.ValueOf", "(internal/reflectlite.Value).Type", "(internal/reflectlite.Value).IsNil", "internal/reflectlite.TypeOf", "(internal/reflectlite.Value).Elem", "(internal/reflectlite.Value).Set"], unfollowed := true, recurses := true, named := ["errors.errorType"], apart := false, laid := [("errors.errorType", laid_errors_errorType)], narrowed := true }
def FpFieldUptoSaid : Prop := fpFieldUptoRow.holds Tryd.pinned (OpenSpec.upto fpFieldSpec)

/-- 'caucuslaw01.FpPowers', WHERE WHAT IT READS IS OF BULK AT MOST 1048576: true; the input reads as it did. -/
def fpPowersUptoRow : OpenClaim := { program := "ytbgmbemaopnjfaadoor", sum := "bc193dfd70f1ada0525f0ec967065663b345c2ff9843e66a7e264c901cb8a756", func := "caucus/caucuslaw01.FpPowers", spec := "fpPowers", inPlace := ["internal/reflectlite.ValueOf", "(internal/reflectlite.Value).Type", "(internal/reflectlite.Value).IsNil", "internal/reflectlite.TypeOf", "(internal/reflectlite.Value).Elem", "(internal/reflectlite.Value).Set"], unfollowed := true, recurses := true, named := ["errors.errorType"], apart := false, laid := [("errors.errorType", laid_errors_errorType)], narrowed := true }
def FpPowersUptoSaid : Prop := fpPowersUptoRow.holds Tryd.pinned (OpenSpec.upto fpPowersSpec)

/-- 'caucuslaw11.VarintBytes', WHERE WHAT IT READS IS OF BULK AT MOST 1048576: true; the input reads as it did. -/
def varintBytesUptoRow : OpenClaim := { program := "ytbgmbemaopnjfaadoor", sum := "bc193dfd70f1ada0525f0ec967065663b345c2ff9843e66a7e264c901cb8a756", func := "caucus/caucuslaw11.VarintBytes", spec := "varintBytes", inPlace := ["internal/reflectlite.ValueOf", "(internal/reflectlite.Value).Type", "(internal/reflectlite.Value).IsNil", "internal/reflectlite.TypeOf", "(internal/reflectlite.Value).Elem", "(internal/reflectlite.Value).Set"], unfollowed := true, recurses := true, named := ["errors.errorType"], apart := false, laid := [("errors.errorType", laid_errors_errorType)], narrowed := true }
def VarintBytesUptoSaid : Prop := varintBytesUptoRow.holds Tryd.pinned (OpenSpec.upto varintBytesSpec)

/-- 'caucuslaw11.VarintBack', WHERE WHAT IT READS IS OF BULK AT MOST 1048576: true; the input reads as it did. -/
def varintBackUptoRow : OpenClaim := { program := "ytbgmbemaopnjfaadoor", sum := "bc193dfd70f1ada0525f0ec967065663b345c2ff9843e66a7e264c901cb8a756", func := "caucus/caucuslaw11.VarintBack", spec := "varintBack", inPlace := ["internal/reflectlite.ValueOf", "(internal/reflectlite.Value).Type", "(internal/reflectlite.Value).IsNil", "internal/reflectlite.TypeOf", "(internal/reflectlite.Value).Elem", "(internal/reflectlite.Value).Set"], unfollowed := true, recurses := true, named := ["errors.errorType"], apart := false, laid := [("errors.errorType", laid_errors_errorType)], narrowed := true }
def VarintBackUptoSaid : Prop := varintBackUptoRow.holds Tryd.pinned (OpenSpec.upto varintBackSpec)

/-- 'caucuslaw11.VarintRow', WHERE WHAT IT READS IS OF BULK AT MOST 1048576: true; the input reads as it did. -/
def varintRowUptoRow : OpenClaim := { program := "ytbgmbemaopnjfaadoor", sum := "bc193dfd70f1ada0525f0ec967065663b345c2ff9843e66a7e264c901cb8a756", func := "caucus/caucuslaw11.VarintRow", spec := "varintRow", inPlace := ["internal/reflectlite.ValueOf", "(internal/reflectlite.Value).Type", "(internal/reflectlite.Value).IsNil", "internal/reflectlite.TypeOf", "(internal/reflectlite.Value).Elem", "(internal/reflectlite.Value).Set"], unfollowed := true, recurses := true, named := ["errors.errorType"], apart := false, laid := [("errors.errorType", laid_errors_errorType)], narrowed := true }
def VarintRowUptoSaid : Prop := varintRowUptoRow.holds Tryd.pinned (OpenSpec.upto varintRowSpec)

/-- 'caucuslaw20.BagAll', WHERE WHAT IT READS IS OF BULK AT MOST 1048576: true; the input reads as it did. -/
def bagAllUptoRow : OpenClaim := { program := "ytbgmbemaopnjfaadoor", sum := "bc193dfd70f1ada0525f0ec967065663b345c2ff9843e66a7e264c901cb8a756", func := "caucus/caucuslaw20.BagAll", spec := "bagAll", inPlace := ["internal/reflectlite.ValueOf", "(internal/reflectlite.Value).Type", "(internal/reflectlite.Value).IsNil", "internal/reflectlite.TypeOf", "(internal/reflectlite.Value).Elem", "(internal/reflectlite.Value).Set"], unfollowed := true, recurses := true, named := ["errors.errorType"], apart := false, laid := [("errors.errorType", laid_errors_errorType)], narrowed := true }
def BagAllUptoSaid : Prop := bagAllUptoRow.holds Tryd.pinned (OpenSpec.upto bagAllSpec)

/-- 'caucuslaw02.VecTells', WHERE WHAT IT READS IS OF BULK AT MOST 1048576: true; the input reads as it did. -/
def vecTellsUptoRow : OpenClaim := { program := "ytbgmbemaopnjfaadoor", sum := "bc193dfd70f1ada0525f0ec967065663b345c2ff9843e66a7e264c901cb8a756", func := "caucus/caucuslaw02.VecTells", spec := "vecTells", inPlace := ["internal/reflectlite.ValueOf", "(internal/reflectlite.Value).Type", "(internal/reflectlite.Value).IsNil", "internal/reflectlite.TypeOf", "(internal/reflectlite.Value).Elem", "(internal/reflectlite.Value).Set"], unfollowed := true, recurses := true, named := ["errors.errorType"], apart := false, laid := [("errors.errorType", laid_errors_errorType)], narrowed := true }
def VecTellsUptoSaid : Prop := vecTellsUptoRow.holds Tryd.pinned (OpenSpec.upto vecTellsSpec)

/-- 'caucuslaw02.VecSums', WHERE WHAT IT READS IS OF BULK AT MOST 1048576: true; the input reads as it did. -/
def vecSumsUptoRow : OpenClaim := { program := "ytbgmbemaopnjfaadoor", sum := "bc193dfd70f1ada0525f0ec967065663b345c2ff9843e66a7e264c901cb8a756", func := "caucus/caucuslaw02.VecSums", spec := "vecSums", inPlace := ["internal/reflectlite.ValueOf", "(internal/reflectlite.Value).Type", "(internal/reflectlite.Value).IsNil", "internal/reflectlite.TypeOf", "(internal/reflectlite.Value).Elem", "(internal/reflectlite.Value).Set"], unfollowed := true, recurses := true, named := ["errors.errorType"], apart := false, laid := [("errors.errorType", laid_errors_errorType)], narrowed := true }
def VecSumsUptoSaid : Prop := vecSumsUptoRow.holds Tryd.pinned (OpenSpec.upto vecSumsSpec)

/-- 'caucuslaw02.VecOrder', WHERE WHAT IT READS IS OF BULK AT MOST 1048576: true; the input reads as it did. -/
def vecOrderUptoRow : OpenClaim := { program := "ytbgmbemaopnjfaadoor", sum := "bc193dfd70f1ada0525f0ec967065663b345c2ff9843e66a7e264c901cb8a756", func := "caucus/caucuslaw02.VecOrder", spec := "vecOrder", inPlace := ["internal/reflectlite.ValueOf", "(internal/reflectlite.Value).Type", "(internal/reflectlite.Value).IsNil", "internal/reflectlite.TypeOf", "(internal/reflectlite.Value).Elem", "(internal/reflectlite.Value).Set"], unfollowed := true, recurses := true, named := ["errors.errorType"], apart := false, laid := [("errors.errorType", laid_errors_errorType)], narrowed := true }
def VecOrderUptoSaid : Prop := vecOrderUptoRow.holds Tryd.pinned (OpenSpec.upto vecOrderSpec)

/-- 'caucuslaw02.VecTaken', WHERE WHAT IT READS IS OF BULK AT MOST 1048576: true; the input reads as it did. -/
def vecTakenUptoRow : OpenClaim := { program := "ytbgmbemaopnjfaadoor", sum := "bc193dfd70f1ada0525f0ec967065663b345c2ff9843e66a7e264c901cb8a756", func := "caucus/caucuslaw02.VecTaken", spec := "vecTaken", inPlace := ["internal/reflectlite.ValueOf", "(internal/reflectlite.Value).Type", "(internal/reflectlite.Value).IsNil", "internal/reflectlite.TypeOf", "(internal/reflectlite.Value).Elem", "(internal/reflectlite.Value).Set"], unfollowed := true, recurses := true, named := ["errors.errorType"], apart := false, laid := [("errors.errorType", laid_errors_errorType)], narrowed := true }
def VecTakenUptoSaid : Prop := vecTakenUptoRow.holds Tryd.pinned (OpenSpec.upto vecTakenSpec)

/-- 'caucuslaw20.BagRuns', WHERE WHAT IT READS IS OF BULK AT MOST 1048576: true; the input reads as it did. -/
def bagRunsUptoRow : OpenClaim := { program := "ytbgmbemaopnjfaadoor", sum := "bc193dfd70f1ada0525f0ec967065663b345c2ff9843e66a7e264c901cb8a756", func := "caucus/caucuslaw20.BagRuns", spec := "bagRuns", inPlace := ["internal/reflectlite.ValueOf", "(internal/reflectlite.Value).Type", "(internal/reflectlite.Value).IsNil", "internal/reflectlite.TypeOf", "(internal/reflectlite.Value).Elem", "(internal/reflectlite.Value).Set"], unfollowed := true, recurses := true, named := ["errors.errorType"], apart := false, laid := [("errors.errorType", laid_errors_errorType)], narrowed := true }
def BagRunsUptoSaid : Prop := bagRunsUptoRow.holds Tryd.pinned (OpenSpec.upto bagRunsSpec)

end Rows
end Go.Proofs.YtbgmbemaopnjfaaDoor
