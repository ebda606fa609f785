/-
  NARROWER THAN 'FOR EVERY INPUT', by the rows' own cells (each row's printed sentence says how): PackBack: laid · PackTakes: laid · PackMany: laid · LedgerKeeps: laid · LedgerTells: laid · LedgerSince: laid · ReplyForms: laid · ReplyBack: laid · ReplyWrong: laid · RequestForms: laid · RequestBack: laid · RequestKinds: laid · HandleRuns: laid · HandleAlone: laid · HandleForgets: laid.
  DERIVED. THE GIVEN ROWS OF THIS SEAT. 15 by the template 'for every input the law returns true; each argument reads behind the call as it read before'; 0 by the template 'total and deterministic' (their statements: YtmnhfpcbfdgbcaaDoorTotals.lean).
  GIVEN WITH THE SEED: the statements are not yours to turn. If you find one false, say at which input.
  Laid BY PROGRAM, IN A SANDBOX (cutbox-rows.mjs): the forced cells as the released guide's own fill.sh prints them over the translation 53adbc8bee8a2fe7… (all of the seat's roots in one cut). By AI agents, Wed Nov 11 2026. No macro, syntax, notation, axiom, sorry.
-/
import Derived.Test.YtmnhfpcbfdgbcaaDoorChecked
import GoSem.Claim
import GoSem.ClaimJoined
import GoSem.ClaimMapViews
import Derived.JoinedTies
import Derived.KernelRfl
namespace Go.Proofs.YtmnhfpcbfdgbcaaDoor
/- THE CELL 'sum', in the pinned program and in every row, IS THE sha256 OF THE DUMP (.gsa) THAT YtmnhfpcbfdgbcaaDoorProg.lean LOADS. Nothing in Lean hashes anything: it is a label: what it is worth is what the hold of that sum in a sandbox is worth. -/
noncomputable def Tryd.pinned : Pinned := { name := "ytmnhfpcbfdgbcaadoor", sum := "53adbc8bee8a2fe7f96a96ae6f8f605dd88d7eab15957a9ffdb9dec7e0416d34", checked := Tryd.checked }
namespace Rows
def none {H : Type} : Left H := { results := [], args := [] }

/- WHAT THE LISTED PACKAGE-LEVEL VARIABLES READ AS WHEN THE CALL BEGINS. Each datum BY PROGRAM (the guide's laid-datum.mjs) off the statement by which the dump's own 'gosem.cut.vars' lays the variable. In a bare row this is a premise. The card (YtmnhfpcbfdgbcaaDoorCards.lean) ties it to the program's text. -/
def laid_errors_errorType {H : Type} : DataW H := .iface "internal/reflectlite.rtype" (.agg [.ptr (.lit (.string [101, 114, 114, 111, 114]))])

/-- 'warrenlaw06.PackBack': WHATEVER THE INPUT: true; the input reads as it did. -/
def packBackSpec : ChangeSpec := { name := "packBack", fn := fun _ => fun
  | [d1, d2, d3] => { results := [.lit (.bool true)], args := [d1, d2, d3] }
  | _ => none }
def packBackRow : OpenClaim := { program := "ytmnhfpcbfdgbcaadoor", sum := "53adbc8bee8a2fe7f96a96ae6f8f605dd88d7eab15957a9ffdb9dec7e0416d34", func := "warren/warrenlaw06.PackBack", spec := "packBack", inPlace := ["internal/reflectlite.ValueOf", "(internal/reflectlite.Value).Type", "(internal/reflectlite.Value).IsNil", "internal/reflectlite.TypeOf", "(internal/reflectlite.Value).Elem", "(internal/reflectlite.Value).Set"], unfollowed := true, recurses := true, named := ["errors.errorType"], plainKeys := false, apart := false, laid := [("errors.errorType", laid_errors_errorType)] }
def PackBackSaid : Prop := packBackRow.holds Tryd.pinned (OpenSpec.ofChange packBackSpec)

/-- ITS FALSE NEIGHBOUR: 'it returns false'. Refute it at one input. -/
def packBackWrong : ChangeSpec := { name := "packBack", fn := fun _ => fun
  | [d1, d2, d3] => { results := [.lit (.bool false)], args := [d1, d2, d3] }
  | _ => none }
def PackBackWrongFalsely : Prop := packBackRow.holds Tryd.pinned (OpenSpec.ofChange packBackWrong)

/-- 'warrenlaw06.PackTakes': WHATEVER THE INPUT: true; the input reads as it did. -/
def packTakesSpec : ChangeSpec := { name := "packTakes", fn := fun _ => fun
  | [d1, d2, d3] => { results := [.lit (.bool true)], args := [d1, d2, d3] }
  | _ => none }
def packTakesRow : OpenClaim := { program := "ytmnhfpcbfdgbcaadoor", sum := "53adbc8bee8a2fe7f96a96ae6f8f605dd88d7eab15957a9ffdb9dec7e0416d34", func := "warren/warrenlaw06.PackTakes", spec := "packTakes", inPlace := ["internal/reflectlite.ValueOf", "(internal/reflectlite.Value).Type", "(internal/reflectlite.Value).IsNil", "internal/reflectlite.TypeOf", "(internal/reflectlite.Value).Elem", "(internal/reflectlite.Value).Set"], unfollowed := true, recurses := true, named := ["errors.errorType"], plainKeys := false, apart := false, laid := [("errors.errorType", laid_errors_errorType)] }
def PackTakesSaid : Prop := packTakesRow.holds Tryd.pinned (OpenSpec.ofChange packTakesSpec)

/-- ITS FALSE NEIGHBOUR: 'it returns false'. Refute it at one input. -/
def packTakesWrong : ChangeSpec := { name := "packTakes", fn := fun _ => fun
  | [d1, d2, d3] => { results := [.lit (.bool false)], args := [d1, d2, d3] }
  | _ => none }
def PackTakesWrongFalsely : Prop := packTakesRow.holds Tryd.pinned (OpenSpec.ofChange packTakesWrong)

/-- 'warrenlaw06.PackMany': WHATEVER THE INPUT: true; the input reads as it did. -/
def packManySpec : ChangeSpec := { name := "packMany", fn := fun _ => fun
  | [d] => { results := [.lit (.bool true)], args := [d] }
  | _ => none }
def packManyRow : OpenClaim := { program := "ytmnhfpcbfdgbcaadoor", sum := "53adbc8bee8a2fe7f96a96ae6f8f605dd88d7eab15957a9ffdb9dec7e0416d34", func := "warren/warrenlaw06.PackMany", spec := "packMany", inPlace := ["internal/reflectlite.ValueOf", "(internal/reflectlite.Value).Type", "(internal/reflectlite.Value).IsNil", "internal/reflectlite.TypeOf", "(internal/reflectlite.Value).Elem", "(internal/reflectlite.Value).Set"], unfollowed := true, recurses := true, named := ["errors.errorType"], plainKeys := false, apart := false, laid := [("errors.errorType", laid_errors_errorType)] }
def PackManySaid : Prop := packManyRow.holds Tryd.pinned (OpenSpec.ofChange packManySpec)

/-- ITS FALSE NEIGHBOUR: 'it returns false'. Refute it at one input. -/
def packManyWrong : ChangeSpec := { name := "packMany", fn := fun _ => fun
  | [d] => { results := [.lit (.bool false)], args := [d] }
  | _ => none }
def PackManyWrongFalsely : Prop := packManyRow.holds Tryd.pinned (OpenSpec.ofChange packManyWrong)

/-- 'warrenlaw30.LedgerKeeps': WHATEVER THE INPUT: true; the input reads as it did. -/
def ledgerKeepsSpec : ChangeSpec := { name := "ledgerKeeps", fn := fun _ => fun
  | [d] => { results := [.lit (.bool true)], args := [d] }
  | _ => none }
def ledgerKeepsRow : OpenClaim := { program := "ytmnhfpcbfdgbcaadoor", sum := "53adbc8bee8a2fe7f96a96ae6f8f605dd88d7eab15957a9ffdb9dec7e0416d34", func := "warren/warrenlaw30.LedgerKeeps", spec := "ledgerKeeps", inPlace := ["internal/reflectlite.ValueOf", "(internal/reflectlite.Value).Type", "(internal/reflectlite.Value).IsNil", "internal/reflectlite.TypeOf", "(internal/reflectlite.Value).Elem", "(internal/reflectlite.Value).Set"], unfollowed := true, recurses := true, named := ["errors.errorType"], plainKeys := false, apart := false, laid := [("errors.errorType", laid_errors_errorType)] }
def LedgerKeepsSaid : Prop := ledgerKeepsRow.holds Tryd.pinned (OpenSpec.ofChange ledgerKeepsSpec)

/-- ITS FALSE NEIGHBOUR: 'it returns false'. Refute it at one input. -/
def ledgerKeepsWrong : ChangeSpec := { name := "ledgerKeeps", fn := fun _ => fun
  | [d] => { results := [.lit (.bool false)], args := [d] }
  | _ => none }
def LedgerKeepsWrongFalsely : Prop := ledgerKeepsRow.holds Tryd.pinned (OpenSpec.ofChange ledgerKeepsWrong)

/-- 'warrenlaw30.LedgerTells': WHATEVER THE INPUT: true; the input reads as it did. -/
def ledgerTellsSpec : ChangeSpec := { name := "ledgerTells", fn := fun _ => fun
  | [d1, d2, d3] => { results := [.lit (.bool true)], args := [d1, d2, d3] }
  | _ => none }
def ledgerTellsRow : OpenClaim := { program := "ytmnhfpcbfdgbcaadoor", sum := "53adbc8bee8a2fe7f96a96ae6f8f605dd88d7eab15957a9ffdb9dec7e0416d34", func := "warren/warrenlaw30.LedgerTells", spec := "ledgerTells", inPlace := ["internal/reflectlite.ValueOf", "(internal/reflectlite.Value).Type", "(internal/reflectlite.Value).IsNil", "internal/reflectlite.TypeOf", "(internal/reflectlite.Value).Elem", "(internal/reflectlite.Value).Set"], unfollowed := true, recurses := true, named := ["errors.errorType"], plainKeys := false, apart := false, laid := [("errors.errorType", laid_errors_errorType)] }
def LedgerTellsSaid : Prop := ledgerTellsRow.holds Tryd.pinned (OpenSpec.ofChange ledgerTellsSpec)

/-- ITS FALSE NEIGHBOUR: 'it returns false'. Refute it at one input. -/
def ledgerTellsWrong : ChangeSpec := { name := "ledgerTells", fn := fun _ => fun
  | [d1, d2, d3] => { results := [.lit (.bool false)], args := [d1, d2, d3] }
  | _ => none }
def LedgerTellsWrongFalsely : Prop := ledgerTellsRow.holds Tryd.pinned (OpenSpec.ofChange ledgerTellsWrong)

/-- 'warrenlaw30.LedgerSince': WHATEVER THE INPUT: true; the input reads as it did. -/
def ledgerSinceSpec : ChangeSpec := { name := "ledgerSince", fn := fun _ => fun
  | [d1, d2] => { results := [.lit (.bool true)], args := [d1, d2] }
  | _ => none }
def ledgerSinceRow : OpenClaim := { program := "ytmnhfpcbfdgbcaadoor", sum := "53adbc8bee8a2fe7f96a96ae6f8f605dd88d7eab15957a9ffdb9dec7e0416d34", func := "warren/warrenlaw30.LedgerSince", spec := "ledgerSince", inPlace := ["internal/reflectlite.ValueOf", "(internal/reflectlite.Value).Type", "(internal/reflectlite.Value).IsNil", "internal/reflectlite.TypeOf", "(internal/reflectlite.Value).Elem", "(internal/reflectlite.Value).Set"], unfollowed := true, recurses := true, named := ["errors.errorType"], plainKeys := false, apart := false, laid := [("errors.errorType", laid_errors_errorType)] }
def LedgerSinceSaid : Prop := ledgerSinceRow.holds Tryd.pinned (OpenSpec.ofChange ledgerSinceSpec)

/-- ITS FALSE NEIGHBOUR: 'it returns false'. Refute it at one input. -/
def ledgerSinceWrong : ChangeSpec := { name := "ledgerSince", fn := fun _ => fun
  | [d1, d2] => { results := [.lit (.bool false)], args := [d1, d2] }
  | _ => none }
def LedgerSinceWrongFalsely : Prop := ledgerSinceRow.holds Tryd.pinned (OpenSpec.ofChange ledgerSinceWrong)

/-- 'warrenlaw36.ReplyForms': WHATEVER THE INPUT: true; the input reads as it did. -/
def replyFormsSpec : ChangeSpec := { name := "replyForms", fn := fun _ => fun
  | [d1, d2, d3] => { results := [.lit (.bool true)], args := [d1, d2, d3] }
  | _ => none }
def replyFormsRow : OpenClaim := { program := "ytmnhfpcbfdgbcaadoor", sum := "53adbc8bee8a2fe7f96a96ae6f8f605dd88d7eab15957a9ffdb9dec7e0416d34", func := "warren/warrenlaw36.ReplyForms", spec := "replyForms", inPlace := ["internal/reflectlite.ValueOf", "(internal/reflectlite.Value).Type", "(internal/reflectlite.Value).IsNil", "internal/reflectlite.TypeOf", "(internal/reflectlite.Value).Elem", "(internal/reflectlite.Value).Set"], unfollowed := true, recurses := true, named := ["errors.errorType"], plainKeys := false, apart := false, laid := [("errors.errorType", laid_errors_errorType)] }
def ReplyFormsSaid : Prop := replyFormsRow.holds Tryd.pinned (OpenSpec.ofChange replyFormsSpec)

/-- ITS FALSE NEIGHBOUR: 'it returns false'. Refute it at one input. -/
def replyFormsWrong : ChangeSpec := { name := "replyForms", fn := fun _ => fun
  | [d1, d2, d3] => { results := [.lit (.bool false)], args := [d1, d2, d3] }
  | _ => none }
def ReplyFormsWrongFalsely : Prop := replyFormsRow.holds Tryd.pinned (OpenSpec.ofChange replyFormsWrong)

/-- 'warrenlaw36.ReplyBack': WHATEVER THE INPUT: true; the input reads as it did. -/
def replyBackSpec : ChangeSpec := { name := "replyBack", fn := fun _ => fun
  | [d1, d2] => { results := [.lit (.bool true)], args := [d1, d2] }
  | _ => none }
def replyBackRow : OpenClaim := { program := "ytmnhfpcbfdgbcaadoor", sum := "53adbc8bee8a2fe7f96a96ae6f8f605dd88d7eab15957a9ffdb9dec7e0416d34", func := "warren/warrenlaw36.ReplyBack", spec := "replyBack", inPlace := ["internal/reflectlite.ValueOf", "(internal/reflectlite.Value).Type", "(internal/reflectlite.Value).IsNil", "internal/reflectlite.TypeOf", "(internal/reflectlite.Value).Elem", "(internal/reflectlite.Value).Set"], unfollowed := true, recurses := true, named := ["errors.errorType"], plainKeys := false, apart := false, laid := [("errors.errorType", laid_errors_errorType)] }
def ReplyBackSaid : Prop := replyBackRow.holds Tryd.pinned (OpenSpec.ofChange replyBackSpec)

/-- ITS FALSE NEIGHBOUR: 'it returns false'. Refute it at one input. -/
def replyBackWrong : ChangeSpec := { name := "replyBack", fn := fun _ => fun
  | [d1, d2] => { results := [.lit (.bool false)], args := [d1, d2] }
  | _ => none }
def ReplyBackWrongFalsely : Prop := replyBackRow.holds Tryd.pinned (OpenSpec.ofChange replyBackWrong)

/-- 'warrenlaw36.ReplyWrong': WHATEVER THE INPUT: true; the input reads as it did. -/
def replyWrongSpec : ChangeSpec := { name := "replyWrong", fn := fun _ => fun
  | [d1, d2] => { results := [.lit (.bool true)], args := [d1, d2] }
  | _ => none }
def replyWrongRow : OpenClaim := { program := "ytmnhfpcbfdgbcaadoor", sum := "53adbc8bee8a2fe7f96a96ae6f8f605dd88d7eab15957a9ffdb9dec7e0416d34", func := "warren/warrenlaw36.ReplyWrong", spec := "replyWrong", inPlace := ["internal/reflectlite.ValueOf", "(internal/reflectlite.Value).Type", "(internal/reflectlite.Value).IsNil", "internal/reflectlite.TypeOf", "(internal/reflectlite.Value).Elem", "(internal/reflectlite.Value).Set"], unfollowed := true, recurses := true, named := ["errors.errorType"], plainKeys := false, apart := false, laid := [("errors.errorType", laid_errors_errorType)] }
def ReplyWrongSaid : Prop := replyWrongRow.holds Tryd.pinned (OpenSpec.ofChange replyWrongSpec)

/-- ITS FALSE NEIGHBOUR: 'it returns false'. Refute it at one input. -/
def replyWrongWrong : ChangeSpec := { name := "replyWrong", fn := fun _ => fun
  | [d1, d2] => { results := [.lit (.bool false)], args := [d1, d2] }
  | _ => none }
def ReplyWrongWrongFalsely : Prop := replyWrongRow.holds Tryd.pinned (OpenSpec.ofChange replyWrongWrong)

/-- 'warrenlaw35.RequestForms': WHATEVER THE INPUT: true; the input reads as it did. -/
def requestFormsSpec : ChangeSpec := { name := "requestForms", fn := fun _ => fun
  | [d1, d2, d3] => { results := [.lit (.bool true)], args := [d1, d2, d3] }
  | _ => none }
def requestFormsRow : OpenClaim := { program := "ytmnhfpcbfdgbcaadoor", sum := "53adbc8bee8a2fe7f96a96ae6f8f605dd88d7eab15957a9ffdb9dec7e0416d34", func := "warren/warrenlaw35.RequestForms", spec := "requestForms", inPlace := ["internal/reflectlite.ValueOf", "(internal/reflectlite.Value).Type", "(internal/reflectlite.Value).IsNil", "internal/reflectlite.TypeOf", "(internal/reflectlite.Value).Elem", "(internal/reflectlite.Value).Set"], unfollowed := true, recurses := true, named := ["errors.errorType"], plainKeys := false, apart := false, laid := [("errors.errorType", laid_errors_errorType)] }
def RequestFormsSaid : Prop := requestFormsRow.holds Tryd.pinned (OpenSpec.ofChange requestFormsSpec)

/-- ITS FALSE NEIGHBOUR: 'it returns false'. Refute it at one input. -/
def requestFormsWrong : ChangeSpec := { name := "requestForms", fn := fun _ => fun
  | [d1, d2, d3] => { results := [.lit (.bool false)], args := [d1, d2, d3] }
  | _ => none }
def RequestFormsWrongFalsely : Prop := requestFormsRow.holds Tryd.pinned (OpenSpec.ofChange requestFormsWrong)

/-- 'warrenlaw35.RequestBack': WHATEVER THE INPUT: true; the input reads as it did. -/
def requestBackSpec : ChangeSpec := { name := "requestBack", fn := fun _ => fun
  | [d1, d2, d3] => { results := [.lit (.bool true)], args := [d1, d2, d3] }
  | _ => none }
def requestBackRow : OpenClaim := { program := "ytmnhfpcbfdgbcaadoor", sum := "53adbc8bee8a2fe7f96a96ae6f8f605dd88d7eab15957a9ffdb9dec7e0416d34", func := "warren/warrenlaw35.RequestBack", spec := "requestBack", inPlace := ["internal/reflectlite.ValueOf", "(internal/reflectlite.Value).Type", "(internal/reflectlite.Value).IsNil", "internal/reflectlite.TypeOf", "(internal/reflectlite.Value).Elem", "(internal/reflectlite.Value).Set"], unfollowed := true, recurses := true, named := ["errors.errorType"], plainKeys := false, apart := false, laid := [("errors.errorType", laid_errors_errorType)] }
def RequestBackSaid : Prop := requestBackRow.holds Tryd.pinned (OpenSpec.ofChange requestBackSpec)

/-- ITS FALSE NEIGHBOUR: 'it returns false'. Refute it at one input. -/
def requestBackWrong : ChangeSpec := { name := "requestBack", fn := fun _ => fun
  | [d1, d2, d3] => { results := [.lit (.bool false)], args := [d1, d2, d3] }
  | _ => none }
def RequestBackWrongFalsely : Prop := requestBackRow.holds Tryd.pinned (OpenSpec.ofChange requestBackWrong)

/-- 'warrenlaw35.RequestKinds': WHATEVER THE INPUT: true; the input reads as it did. -/
def requestKindsSpec : ChangeSpec := { name := "requestKinds", fn := fun _ => fun
  | [d1, d2] => { results := [.lit (.bool true)], args := [d1, d2] }
  | _ => none }
def requestKindsRow : OpenClaim := { program := "ytmnhfpcbfdgbcaadoor", sum := "53adbc8bee8a2fe7f96a96ae6f8f605dd88d7eab15957a9ffdb9dec7e0416d34", func := "warren/warrenlaw35.RequestKinds", spec := "requestKinds", inPlace := ["internal/reflectlite.ValueOf", "(internal/reflectlite.Value).Type", "(internal/reflectlite.Value).IsNil", "internal/reflectlite.TypeOf", "(internal/reflectlite.Value).Elem", "(internal/reflectlite.Value).Set"], unfollowed := true, recurses := true, named := ["errors.errorType"], plainKeys := false, apart := false, laid := [("errors.errorType", laid_errors_errorType)] }
def RequestKindsSaid : Prop := requestKindsRow.holds Tryd.pinned (OpenSpec.ofChange requestKindsSpec)

/-- ITS FALSE NEIGHBOUR: 'it returns false'. Refute it at one input. -/
def requestKindsWrong : ChangeSpec := { name := "requestKinds", fn := fun _ => fun
  | [d1, d2] => { results := [.lit (.bool false)], args := [d1, d2] }
  | _ => none }
def RequestKindsWrongFalsely : Prop := requestKindsRow.holds Tryd.pinned (OpenSpec.ofChange requestKindsWrong)

/-- 'warrenlaw34.HandleRuns': WHATEVER THE INPUT: true; the input reads as it did. -/
def handleRunsSpec : ChangeSpec := { name := "handleRuns", fn := fun _ => fun
  | [d] => { results := [.lit (.bool true)], args := [d] }
  | _ => none }
def handleRunsRow : OpenClaim := { program := "ytmnhfpcbfdgbcaadoor", sum := "53adbc8bee8a2fe7f96a96ae6f8f605dd88d7eab15957a9ffdb9dec7e0416d34", func := "warren/warrenlaw34.HandleRuns", spec := "handleRuns", inPlace := ["internal/reflectlite.ValueOf", "(internal/reflectlite.Value).Type", "(internal/reflectlite.Value).IsNil", "internal/reflectlite.TypeOf", "(internal/reflectlite.Value).Elem", "(internal/reflectlite.Value).Set"], unfollowed := true, recurses := true, named := ["errors.errorType"], plainKeys := false, apart := false, laid := [("errors.errorType", laid_errors_errorType)] }
def HandleRunsSaid : Prop := handleRunsRow.holds Tryd.pinned (OpenSpec.ofChange handleRunsSpec)

/-- ITS FALSE NEIGHBOUR: 'it returns false'. Refute it at one input. -/
def handleRunsWrong : ChangeSpec := { name := "handleRuns", fn := fun _ => fun
  | [d] => { results := [.lit (.bool false)], args := [d] }
  | _ => none }
def HandleRunsWrongFalsely : Prop := handleRunsRow.holds Tryd.pinned (OpenSpec.ofChange handleRunsWrong)

/-- 'warrenlaw34.HandleAlone': WHATEVER THE INPUT: true; the input reads as it did. -/
def handleAloneSpec : ChangeSpec := { name := "handleAlone", fn := fun _ => fun
  | [d] => { results := [.lit (.bool true)], args := [d] }
  | _ => none }
def handleAloneRow : OpenClaim := { program := "ytmnhfpcbfdgbcaadoor", sum := "53adbc8bee8a2fe7f96a96ae6f8f605dd88d7eab15957a9ffdb9dec7e0416d34", func := "warren/warrenlaw34.HandleAlone", spec := "handleAlone", inPlace := ["internal/reflectlite.ValueOf", "(internal/reflectlite.Value).Type", "(internal/reflectlite.Value).IsNil", "internal/reflectlite.TypeOf", "(internal/reflectlite.Value).Elem", "(internal/reflectlite.Value).Set"], unfollowed := true, recurses := true, named := ["errors.errorType"], plainKeys := false, apart := false, laid := [("errors.errorType", laid_errors_errorType)] }
def HandleAloneSaid : Prop := handleAloneRow.holds Tryd.pinned (OpenSpec.ofChange handleAloneSpec)

/-- ITS FALSE NEIGHBOUR: 'it returns false'. Refute it at one input. -/
def handleAloneWrong : ChangeSpec := { name := "handleAlone", fn := fun _ => fun
  | [d] => { results := [.lit (.bool false)], args := [d] }
  | _ => none }
def HandleAloneWrongFalsely : Prop := handleAloneRow.holds Tryd.pinned (OpenSpec.ofChange handleAloneWrong)

/-- 'warrenlaw34.HandleForgets': WHATEVER THE INPUT: true; the input reads as it did. -/
def handleForgetsSpec : ChangeSpec := { name := "handleForgets", fn := fun _ => fun
  | [d1, d2] => { results := [.lit (.bool true)], args := [d1, d2] }
  | _ => none }
def handleForgetsRow : OpenClaim := { program := "ytmnhfpcbfdgbcaadoor", sum := "53adbc8bee8a2fe7f96a96ae6f8f605dd88d7eab15957a9ffdb9dec7e0416d34", func := "warren/warrenlaw34.HandleForgets", spec := "handleForgets", inPlace := ["internal/reflectlite.ValueOf", "(internal/reflectlite.Value).Type", "(internal/reflectlite.Value).IsNil", "internal/reflectlite.TypeOf", "(internal/reflectlite.Value).Elem", "(internal/reflectlite.Value).Set"], unfollowed := true, recurses := true, named := ["errors.errorType"], plainKeys := false, apart := false, laid := [("errors.errorType", laid_errors_errorType)] }
def HandleForgetsSaid : Prop := handleForgetsRow.holds Tryd.pinned (OpenSpec.ofChange handleForgetsSpec)

/-- ITS FALSE NEIGHBOUR: 'it returns false'. Refute it at one input. -/
def handleForgetsWrong : ChangeSpec := { name := "handleForgets", fn := fun _ => fun
  | [d1, d2] => { results := [.lit (.bool false)], args := [d1, d2] }
  | _ => none }
def HandleForgetsWrongFalsely : Prop := handleForgetsRow.holds Tryd.pinned (OpenSpec.ofChange handleForgetsWrong)

/- THE SECOND FORM. 'bulk': how many values and letters a reading holds, each counted each time it is reached (what is shared counts as often as it is met; a slice's spare places count too). A statement '..UptoSaid' is the law's where the arguments, and the package variables that the reading takes, are together of bulk at most 1048576: NARROWER than '..Said'. Prove '..Said' where nothing that the law and all that it calls make is longer than what came in: it says more and counts as full. Else prove '..UptoSaid'. A law counts once. -/
mutual
def uptoBulk {H : Type} : DataW H → Nat
  | .lit (.string bytes) => bytes.length + 1
  | .lit _ => 1
  | .nil => 1
  | .ptr d => uptoBulk d + 1
  | .slice elems spare => uptoBulkAll elems + uptoBulkAll spare + 1
  | .agg parts => uptoBulkAll parts + 1
  | .iface _ d => uptoBulk d + 1
  | .map entries => uptoBulkEntries entries + 1
  | .held _ => 1
def uptoBulkAll {H : Type} : List (DataW H) → Nat
  | [] => 0
  | d :: r => uptoBulk d + uptoBulkAll r
def uptoBulkEntries {H : Type} : List (Lit × DataW H) → Nat
  | [] => 0
  | x :: r => uptoBulkEntry x + uptoBulkEntries r
def uptoBulkEntry {H : Type} : Lit × DataW H → Nat
  | (.string bytes, d) => bytes.length + uptoBulk d + 1
  | (_, d) => uptoBulk d + 1
 end
def uptoSmall : (H : Type) → List (DataW H) → Bool := fun _ ds => decide (uptoBulkAll ds ≤ 1048576)
def OpenSpec.upto (s : _root_.Go.ChangeSpec) : _root_.Go.OpenSpec := { _root_.Go.OpenSpec.ofChange s with cond := some uptoSmall }

/-- 'warrenlaw06.PackBack', WHERE WHAT IT READS IS OF BULK AT MOST 1048576: true; the input reads as it did. -/
def packBackUptoRow : OpenClaim := { program := "ytmnhfpcbfdgbcaadoor", sum := "53adbc8bee8a2fe7f96a96ae6f8f605dd88d7eab15957a9ffdb9dec7e0416d34", func := "warren/warrenlaw06.PackBack", spec := "packBack", inPlace := ["internal/reflectlite.ValueOf", "(internal/reflectlite.Value).Type", "(internal/reflectlite.Value).IsNil", "internal/reflectlite.TypeOf", "(internal/reflectlite.Value).Elem", "(internal/reflectlite.Value).Set"], unfollowed := true, recurses := true, named := ["errors.errorType"], plainKeys := false, apart := false, laid := [("errors.errorType", laid_errors_errorType)], narrowed := true }
def PackBackUptoSaid : Prop := packBackUptoRow.holds Tryd.pinned (OpenSpec.upto packBackSpec)

/-- 'warrenlaw06.PackTakes', WHERE WHAT IT READS IS OF BULK AT MOST 1048576: true; the input reads as it did. -/
def packTakesUptoRow : OpenClaim := { program := "ytmnhfpcbfdgbcaadoor", sum := "53adbc8bee8a2fe7f96a96ae6f8f605dd88d7eab15957a9ffdb9dec7e0416d34", func := "warren/warrenlaw06.PackTakes", spec := "packTakes", inPlace := ["internal/reflectlite.ValueOf", "(internal/reflectlite.Value).Type", "(internal/reflectlite.Value).IsNil", "internal/reflectlite.TypeOf", "(internal/reflectlite.Value).Elem", "(internal/reflectlite.Value).Set"], unfollowed := true, recurses := true, named := ["errors.errorType"], plainKeys := false, apart := false, laid := [("errors.errorType", laid_errors_errorType)], narrowed := true }
def PackTakesUptoSaid : Prop := packTakesUptoRow.holds Tryd.pinned (OpenSpec.upto packTakesSpec)

/-- 'warrenlaw06.PackMany', WHERE WHAT IT READS IS OF BULK AT MOST 1048576: true; the input reads as it did. -/
def packManyUptoRow : OpenClaim := { program := "ytmnhfpcbfdgbcaadoor", sum := "53adbc8bee8a2fe7f96a96ae6f8f605dd88d7eab15957a9ffdb9dec7e0416d34", func := "warren/warrenlaw06.PackMany", spec := "packMany", inPlace := ["internal/reflectlite.ValueOf", "(internal/reflectlite.Value).Type", "(internal/reflectlite.Value).IsNil", "internal/reflectlite.TypeOf", "(internal/reflectlite.Value).Elem", "(internal/reflectlite.Value).Set"], unfollowed := true, recurses := true, named := ["errors.errorType"], plainKeys := false, apart := false, laid := [("errors.errorType", laid_errors_errorType)], narrowed := true }
def PackManyUptoSaid : Prop := packManyUptoRow.holds Tryd.pinned (OpenSpec.upto packManySpec)

/-- 'warrenlaw30.LedgerKeeps', WHERE WHAT IT READS IS OF BULK AT MOST 1048576: true; the input reads as it did. -/
def ledgerKeepsUptoRow : OpenClaim := { program := "ytmnhfpcbfdgbcaadoor", sum := "53adbc8bee8a2fe7f96a96ae6f8f605dd88d7eab15957a9ffdb9dec7e0416d34", func := "warren/warrenlaw30.LedgerKeeps", spec := "ledgerKeeps", inPlace := ["internal/reflectlite.ValueOf", "(internal/reflectlite.Value).Type", "(internal/reflectlite.Value).IsNil", "internal/reflectlite.TypeOf", "(internal/reflectlite.Value).Elem", "(internal/reflectlite.Value).Set"], unfollowed := true, recurses := true, named := ["errors.errorType"], plainKeys := false, apart := false, laid := [("errors.errorType", laid_errors_errorType)], narrowed := true }
def LedgerKeepsUptoSaid : Prop := ledgerKeepsUptoRow.holds Tryd.pinned (OpenSpec.upto ledgerKeepsSpec)

/-- 'warrenlaw30.LedgerTells', WHERE WHAT IT READS IS OF BULK AT MOST 1048576: true; the input reads as it did. -/
def ledgerTellsUptoRow : OpenClaim := { program := "ytmnhfpcbfdgbcaadoor", sum := "53adbc8bee8a2fe7f96a96ae6f8f605dd88d7eab15957a9ffdb9dec7e0416d34", func := "warren/warrenlaw30.LedgerTells", spec := "ledgerTells", inPlace := ["internal/reflectlite.ValueOf", "(internal/reflectlite.Value).Type", "(internal/reflectlite.Value).IsNil", "internal/reflectlite.TypeOf", "(internal/reflectlite.Value).Elem", "(internal/reflectlite.Value).Set"], unfollowed := true, recurses := true, named := ["errors.errorType"], plainKeys := false, apart := false, laid := [("errors.errorType", laid_errors_errorType)], narrowed := true }
def LedgerTellsUptoSaid : Prop := ledgerTellsUptoRow.holds Tryd.pinned (OpenSpec.upto ledgerTellsSpec)

/-- 'warrenlaw30.LedgerSince', WHERE WHAT IT READS IS OF BULK AT MOST 1048576: true; the input reads as it did. -/
def ledgerSinceUptoRow : OpenClaim := { program := "ytmnhfpcbfdgbcaadoor", sum := "53adbc8bee8a2fe7f96a96ae6f8f605dd88d7eab15957a9ffdb9dec7e0416d34", func := "warren/warrenlaw30.LedgerSince", spec := "ledgerSince", inPlace := ["internal/reflectlite.ValueOf", "(internal/reflectlite.Value).Type", "(internal/reflectlite.Value).IsNil", "internal/reflectlite.TypeOf", "(internal/reflectlite.Value).Elem", "(internal/reflectlite.Value).Set"], unfollowed := true, recurses := true, named := ["errors.errorType"], plainKeys := false, apart := false, laid := [("errors.errorType", laid_errors_errorType)], narrowed := true }
def LedgerSinceUptoSaid : Prop := ledgerSinceUptoRow.holds Tryd.pinned (OpenSpec.upto ledgerSinceSpec)

/-- 'warrenlaw36.ReplyForms', WHERE WHAT IT READS IS OF BULK AT MOST 1048576: true; the input reads as it did. -/
def replyFormsUptoRow : OpenClaim := { program := "ytmnhfpcbfdgbcaadoor", sum := "53adbc8bee8a2fe7f96a96ae6f8f605dd88d7eab15957a9ffdb9dec7e0416d34", func := "warren/warrenlaw36.ReplyForms", spec := "replyForms", inPlace := ["internal/reflectlite.ValueOf", "(internal/reflectlite.Value).Type", "(internal/reflectlite.Value).IsNil", "internal/reflectlite.TypeOf", "(internal/reflectlite.Value).Elem", "(internal/reflectlite.Value).Set"], unfollowed := true, recurses := true, named := ["errors.errorType"], plainKeys := false, apart := false, laid := [("errors.errorType", laid_errors_errorType)], narrowed := true }
def ReplyFormsUptoSaid : Prop := replyFormsUptoRow.holds Tryd.pinned (OpenSpec.upto replyFormsSpec)

/-- 'warrenlaw36.ReplyBack', WHERE WHAT IT READS IS OF BULK AT MOST 1048576: true; the input reads as it did. -/
def replyBackUptoRow : OpenClaim := { program := "ytmnhfpcbfdgbcaadoor", sum := "53adbc8bee8a2fe7f96a96ae6f8f605dd88d7eab15957a9ffdb9dec7e0416d34", func := "warren/warrenlaw36.ReplyBack", spec := "replyBack", inPlace := ["internal/reflectlite.ValueOf", "(internal/reflectlite.Value).Type", "(internal/reflectlite.Value).IsNil", "internal/reflectlite.TypeOf", "(internal/reflectlite.Value).Elem", "(internal/reflectlite.Value).Set"], unfollowed := true, recurses := true, named := ["errors.errorType"], plainKeys := false, apart := false, laid := [("errors.errorType", laid_errors_errorType)], narrowed := true }
def ReplyBackUptoSaid : Prop := replyBackUptoRow.holds Tryd.pinned (OpenSpec.upto replyBackSpec)

/-- 'warrenlaw36.ReplyWrong', WHERE WHAT IT READS IS OF BULK AT MOST 1048576: true; the input reads as it did. -/
def replyWrongUptoRow : OpenClaim := { program := "ytmnhfpcbfdgbcaadoor", sum := "53adbc8bee8a2fe7f96a96ae6f8f605dd88d7eab15957a9ffdb9dec7e0416d34", func := "warren/warrenlaw36.ReplyWrong", spec := "replyWrong", inPlace := ["internal/reflectlite.ValueOf", "(internal/reflectlite.Value).Type", "(internal/reflectlite.Value).IsNil", "internal/reflectlite.TypeOf", "(internal/reflectlite.Value).Elem", "(internal/reflectlite.Value).Set"], unfollowed := true, recurses := true, named := ["errors.errorType"], plainKeys := false, apart := false, laid := [("errors.errorType", laid_errors_errorType)], narrowed := true }
def ReplyWrongUptoSaid : Prop := replyWrongUptoRow.holds Tryd.pinned (OpenSpec.upto replyWrongSpec)

/-- 'warrenlaw35.RequestForms', WHERE WHAT IT READS IS OF BULK AT MOST 1048576: true; the input reads as it did. -/
def requestFormsUptoRow : OpenClaim := { program := "ytmnhfpcbfdgbcaadoor", sum := "53adbc8bee8a2fe7f96a96ae6f8f605dd88d7eab15957a9ffdb9dec7e0416d34", func := "warren/warrenlaw35.RequestForms", spec := "requestForms", inPlace := ["internal/reflectlite.ValueOf", "(internal/reflectlite.Value).Type", "(internal/reflectlite.Value).IsNil", "internal/reflectlite.TypeOf", "(internal/reflectlite.Value).Elem", "(internal/reflectlite.Value).Set"], unfollowed := true, recurses := true, named := ["errors.errorType"], plainKeys := false, apart := false, laid := [("errors.errorType", laid_errors_errorType)], narrowed := true }
def RequestFormsUptoSaid : Prop := requestFormsUptoRow.holds Tryd.pinned (OpenSpec.upto requestFormsSpec)

/-- 'warrenlaw35.RequestBack', WHERE WHAT IT READS IS OF BULK AT MOST 1048576: true; the input reads as it did. -/
def requestBackUptoRow : OpenClaim := { program := "ytmnhfpcbfdgbcaadoor", sum := "53adbc8bee8a2fe7f96a96ae6f8f605dd88d7eab15957a9ffdb9dec7e0416d34", func := "warren/warrenlaw35.RequestBack", spec := "requestBack", inPlace := ["internal/reflectlite.ValueOf", "(internal/reflectlite.Value).Type", "(internal/reflectlite.Value).IsNil", "internal/reflectlite.TypeOf", "(internal/reflectlite.Value).Elem", "(internal/reflectlite.Value).Set"], unfollowed := true, recurses := true, named := ["errors.errorType"], plainKeys := false, apart := false, laid := [("errors.errorType", laid_errors_errorType)], narrowed := true }
def RequestBackUptoSaid : Prop := requestBackUptoRow.holds Tryd.pinned (OpenSpec.upto requestBackSpec)

/-- 'warrenlaw35.RequestKinds', WHERE WHAT IT READS IS OF BULK AT MOST 1048576: true; the input reads as it did. -/
def requestKindsUptoRow : OpenClaim := { program := "ytmnhfpcbfdgbcaadoor", sum := "53adbc8bee8a2fe7f96a96ae6f8f605dd88d7eab15957a9ffdb9dec7e0416d34", func := "warren/warrenlaw35.RequestKinds", spec := "requestKinds", inPlace := ["internal/reflectlite.ValueOf", "(internal/reflectlite.Value).Type", "(internal/reflectlite.Value).IsNil", "internal/reflectlite.TypeOf", "(internal/reflectlite.Value).Elem", "(internal/reflectlite.Value).Set"], unfollowed := true, recurses := true, named := ["errors.errorType"], plainKeys := false, apart := false, laid := [("errors.errorType", laid_errors_errorType)], narrowed := true }
def RequestKindsUptoSaid : Prop := requestKindsUptoRow.holds Tryd.pinned (OpenSpec.upto requestKindsSpec)

/-- 'warrenlaw34.HandleRuns', WHERE WHAT IT READS IS OF BULK AT MOST 1048576: true; the input reads as it did. -/
def handleRunsUptoRow : OpenClaim := { program := "ytmnhfpcbfdgbcaadoor", sum := "53adbc8bee8a2fe7f96a96ae6f8f605dd88d7eab15957a9ffdb9dec7e0416d34", func := "warren/warrenlaw34.HandleRuns", spec := "handleRuns", inPlace := ["internal/reflectlite.ValueOf", "(internal/reflectlite.Value).Type", "(internal/reflectlite.Value).IsNil", "internal/reflectlite.TypeOf", "(internal/reflectlite.Value).Elem", "(internal/reflectlite.Value).Set"], unfollowed := true, recurses := true, named := ["errors.errorType"], plainKeys := false, apart := false, laid := [("errors.errorType", laid_errors_errorType)], narrowed := true }
def HandleRunsUptoSaid : Prop := handleRunsUptoRow.holds Tryd.pinned (OpenSpec.upto handleRunsSpec)

/-- 'warrenlaw34.HandleAlone', WHERE WHAT IT READS IS OF BULK AT MOST 1048576: true; the input reads as it did. -/
def handleAloneUptoRow : OpenClaim := { program := "ytmnhfpcbfdgbcaadoor", sum := "53adbc8bee8a2fe7f96a96ae6f8f605dd88d7eab15957a9ffdb9dec7e0416d34", func := "warren/warrenlaw34.HandleAlone", spec := "handleAlone", inPlace := ["internal/reflectlite.ValueOf", "(internal/reflectlite.Value).Type", "(internal/reflectlite.Value).IsNil", "internal/reflectlite.TypeOf", "(internal/reflectlite.Value).Elem", "(internal/reflectlite.Value).Set"], unfollowed := true, recurses := true, named := ["errors.errorType"], plainKeys := false, apart := false, laid := [("errors.errorType", laid_errors_errorType)], narrowed := true }
def HandleAloneUptoSaid : Prop := handleAloneUptoRow.holds Tryd.pinned (OpenSpec.upto handleAloneSpec)

/-- 'warrenlaw34.HandleForgets', WHERE WHAT IT READS IS OF BULK AT MOST 1048576: true; the input reads as it did. -/
def handleForgetsUptoRow : OpenClaim := { program := "ytmnhfpcbfdgbcaadoor", sum := "53adbc8bee8a2fe7f96a96ae6f8f605dd88d7eab15957a9ffdb9dec7e0416d34", func := "warren/warrenlaw34.HandleForgets", spec := "handleForgets", inPlace := ["internal/reflectlite.ValueOf", "(internal/reflectlite.Value).Type", "(internal/reflectlite.Value).IsNil", "internal/reflectlite.TypeOf", "(internal/reflectlite.Value).Elem", "(internal/reflectlite.Value).Set"], unfollowed := true, recurses := true, named := ["errors.errorType"], plainKeys := false, apart := false, laid := [("errors.errorType", laid_errors_errorType)], narrowed := true }
def HandleForgetsUptoSaid : Prop := handleForgetsUptoRow.holds Tryd.pinned (OpenSpec.upto handleForgetsSpec)

end Rows
end Go.Proofs.YtmnhfpcbfdgbcaaDoor
