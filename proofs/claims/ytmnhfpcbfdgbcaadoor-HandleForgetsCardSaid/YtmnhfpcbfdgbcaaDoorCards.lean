/-
  DERIVED. GIVEN WITH THE SEED: THE CARDS: each row of YtmnhfpcbfdgbcaaDoorRows.lean that lists a variable, with what it lists TIED to the program's text (the seventh form; the later family's looks); each row that meets fmt, with fmt's text TOLD by the authors' own Lean function (tested against real Go, not proved from fmt's source: count such statements apart). THE CARD IS WHAT COUNTS. Prove the row's statement (the work); the ties are given (YtmnhfpcbfdgbcaaDoorTie.lean); close each card by the builder's one call (the guide's Derived/Test/ToyasCard.lean, 'card_holds'). Laid BY PROGRAM, IN A SANDBOX (cutbox-door.mjs). By AI agents, Wed Nov 11 2026. No macro, syntax, notation, axiom, sorry.
-/
import Derived.Test.YtmnhfpcbfdgbcaaDoorRows
import GoSem.ClaimSeven
namespace Go.Proofs.YtmnhfpcbfdgbcaaDoor
namespace Rows

/-- THE TIED CARD OF 'warrenlaw06.PackBack'. -/
def packBackCard : Claim7 := { stood := { row := packBackRow, standIns := [], harness := (true, "3ba86f969c9b16fc5cf9f07c996c60e9f5b124cd568e88d5b97ce4ef603bef5f"), looks := true }, kinds := [], alts := [], laidByText := true, laidKinds := [.handle], laidTests := true, laidLooks := .later }
def PackBackCardSaid : Prop := Claim7.holds Tryd.pinned (.plain (OpenSpec.ofChange packBackSpec)) packBackCard

/-- THE TIED CARD OF 'warrenlaw06.PackTakes'. -/
def packTakesCard : Claim7 := { stood := { row := packTakesRow, standIns := [], harness := (true, "3ba86f969c9b16fc5cf9f07c996c60e9f5b124cd568e88d5b97ce4ef603bef5f"), looks := true }, kinds := [], alts := [], laidByText := true, laidKinds := [.handle], laidTests := true, laidLooks := .later }
def PackTakesCardSaid : Prop := Claim7.holds Tryd.pinned (.plain (OpenSpec.ofChange packTakesSpec)) packTakesCard

/-- THE TIED CARD OF 'warrenlaw06.PackMany'. -/
def packManyCard : Claim7 := { stood := { row := packManyRow, standIns := [], harness := (true, "3ba86f969c9b16fc5cf9f07c996c60e9f5b124cd568e88d5b97ce4ef603bef5f"), looks := true }, kinds := [], alts := [], laidByText := true, laidKinds := [.handle], laidTests := true, laidLooks := .later }
def PackManyCardSaid : Prop := Claim7.holds Tryd.pinned (.plain (OpenSpec.ofChange packManySpec)) packManyCard

/-- THE TIED CARD OF 'warrenlaw30.LedgerKeeps'. -/
def ledgerKeepsCard : Claim7 := { stood := { row := ledgerKeepsRow, standIns := [], harness := (true, "3ba86f969c9b16fc5cf9f07c996c60e9f5b124cd568e88d5b97ce4ef603bef5f"), looks := true }, kinds := [], alts := [], laidByText := true, laidKinds := [.handle], laidTests := true, laidLooks := .later }
def LedgerKeepsCardSaid : Prop := Claim7.holds Tryd.pinned (.plain (OpenSpec.ofChange ledgerKeepsSpec)) ledgerKeepsCard

/-- THE TIED CARD OF 'warrenlaw30.LedgerTells'. -/
def ledgerTellsCard : Claim7 := { stood := { row := ledgerTellsRow, standIns := [], harness := (true, "3ba86f969c9b16fc5cf9f07c996c60e9f5b124cd568e88d5b97ce4ef603bef5f"), looks := true }, kinds := [], alts := [], laidByText := true, laidKinds := [.handle], laidTests := true, laidLooks := .later }
def LedgerTellsCardSaid : Prop := Claim7.holds Tryd.pinned (.plain (OpenSpec.ofChange ledgerTellsSpec)) ledgerTellsCard

/-- THE TIED CARD OF 'warrenlaw30.LedgerSince'. -/
def ledgerSinceCard : Claim7 := { stood := { row := ledgerSinceRow, standIns := [], harness := (true, "3ba86f969c9b16fc5cf9f07c996c60e9f5b124cd568e88d5b97ce4ef603bef5f"), looks := true }, kinds := [], alts := [], laidByText := true, laidKinds := [.handle], laidTests := true, laidLooks := .later }
def LedgerSinceCardSaid : Prop := Claim7.holds Tryd.pinned (.plain (OpenSpec.ofChange ledgerSinceSpec)) ledgerSinceCard

/-- THE TIED CARD OF 'warrenlaw36.ReplyForms'. -/
def replyFormsCard : Claim7 := { stood := { row := replyFormsRow, standIns := [], harness := (true, "3ba86f969c9b16fc5cf9f07c996c60e9f5b124cd568e88d5b97ce4ef603bef5f"), looks := true }, kinds := [], alts := [], laidByText := true, laidKinds := [.handle], laidTests := true, laidLooks := .later }
def ReplyFormsCardSaid : Prop := Claim7.holds Tryd.pinned (.plain (OpenSpec.ofChange replyFormsSpec)) replyFormsCard

/-- THE TIED CARD OF 'warrenlaw36.ReplyBack'. -/
def replyBackCard : Claim7 := { stood := { row := replyBackRow, standIns := [], harness := (true, "3ba86f969c9b16fc5cf9f07c996c60e9f5b124cd568e88d5b97ce4ef603bef5f"), looks := true }, kinds := [], alts := [], laidByText := true, laidKinds := [.handle], laidTests := true, laidLooks := .later }
def ReplyBackCardSaid : Prop := Claim7.holds Tryd.pinned (.plain (OpenSpec.ofChange replyBackSpec)) replyBackCard

/-- THE TIED CARD OF 'warrenlaw36.ReplyWrong'. -/
def replyWrongCard : Claim7 := { stood := { row := replyWrongRow, standIns := [], harness := (true, "3ba86f969c9b16fc5cf9f07c996c60e9f5b124cd568e88d5b97ce4ef603bef5f"), looks := true }, kinds := [], alts := [], laidByText := true, laidKinds := [.handle], laidTests := true, laidLooks := .later }
def ReplyWrongCardSaid : Prop := Claim7.holds Tryd.pinned (.plain (OpenSpec.ofChange replyWrongSpec)) replyWrongCard

/-- THE TIED CARD OF 'warrenlaw35.RequestForms'. -/
def requestFormsCard : Claim7 := { stood := { row := requestFormsRow, standIns := [], harness := (true, "3ba86f969c9b16fc5cf9f07c996c60e9f5b124cd568e88d5b97ce4ef603bef5f"), looks := true }, kinds := [], alts := [], laidByText := true, laidKinds := [.handle], laidTests := true, laidLooks := .later }
def RequestFormsCardSaid : Prop := Claim7.holds Tryd.pinned (.plain (OpenSpec.ofChange requestFormsSpec)) requestFormsCard

/-- THE TIED CARD OF 'warrenlaw35.RequestBack'. -/
def requestBackCard : Claim7 := { stood := { row := requestBackRow, standIns := [], harness := (true, "3ba86f969c9b16fc5cf9f07c996c60e9f5b124cd568e88d5b97ce4ef603bef5f"), looks := true }, kinds := [], alts := [], laidByText := true, laidKinds := [.handle], laidTests := true, laidLooks := .later }
def RequestBackCardSaid : Prop := Claim7.holds Tryd.pinned (.plain (OpenSpec.ofChange requestBackSpec)) requestBackCard

/-- THE TIED CARD OF 'warrenlaw35.RequestKinds'. -/
def requestKindsCard : Claim7 := { stood := { row := requestKindsRow, standIns := [], harness := (true, "3ba86f969c9b16fc5cf9f07c996c60e9f5b124cd568e88d5b97ce4ef603bef5f"), looks := true }, kinds := [], alts := [], laidByText := true, laidKinds := [.handle], laidTests := true, laidLooks := .later }
def RequestKindsCardSaid : Prop := Claim7.holds Tryd.pinned (.plain (OpenSpec.ofChange requestKindsSpec)) requestKindsCard

/-- THE TIED CARD OF 'warrenlaw34.HandleRuns'. -/
def handleRunsCard : Claim7 := { stood := { row := handleRunsRow, standIns := [], harness := (true, "3ba86f969c9b16fc5cf9f07c996c60e9f5b124cd568e88d5b97ce4ef603bef5f"), looks := true }, kinds := [], alts := [], laidByText := true, laidKinds := [.handle], laidTests := true, laidLooks := .later }
def HandleRunsCardSaid : Prop := Claim7.holds Tryd.pinned (.plain (OpenSpec.ofChange handleRunsSpec)) handleRunsCard

/-- THE TIED CARD OF 'warrenlaw34.HandleAlone'. -/
def handleAloneCard : Claim7 := { stood := { row := handleAloneRow, standIns := [], harness := (true, "3ba86f969c9b16fc5cf9f07c996c60e9f5b124cd568e88d5b97ce4ef603bef5f"), looks := true }, kinds := [], alts := [], laidByText := true, laidKinds := [.handle], laidTests := true, laidLooks := .later }
def HandleAloneCardSaid : Prop := Claim7.holds Tryd.pinned (.plain (OpenSpec.ofChange handleAloneSpec)) handleAloneCard

/-- THE TIED CARD OF 'warrenlaw34.HandleForgets'. -/
def handleForgetsCard : Claim7 := { stood := { row := handleForgetsRow, standIns := [], harness := (true, "3ba86f969c9b16fc5cf9f07c996c60e9f5b124cd568e88d5b97ce4ef603bef5f"), looks := true }, kinds := [], alts := [], laidByText := true, laidKinds := [.handle], laidTests := true, laidLooks := .later }
def HandleForgetsCardSaid : Prop := Claim7.holds Tryd.pinned (.plain (OpenSpec.ofChange handleForgetsSpec)) handleForgetsCard

/-- THE SECOND FORM's CARD OF 'warrenlaw06.PackBack'. -/
def packBackUptoCard : Claim7 := { stood := { row := packBackUptoRow, standIns := [], harness := (true, "3ba86f969c9b16fc5cf9f07c996c60e9f5b124cd568e88d5b97ce4ef603bef5f"), looks := true }, kinds := [], alts := [], laidByText := true, laidKinds := [.handle], laidTests := true, laidLooks := .later }
def PackBackUptoCardSaid : Prop := Claim7.holds Tryd.pinned (.plain (OpenSpec.upto packBackSpec)) packBackUptoCard

/-- THE SECOND FORM's CARD OF 'warrenlaw06.PackTakes'. -/
def packTakesUptoCard : Claim7 := { stood := { row := packTakesUptoRow, standIns := [], harness := (true, "3ba86f969c9b16fc5cf9f07c996c60e9f5b124cd568e88d5b97ce4ef603bef5f"), looks := true }, kinds := [], alts := [], laidByText := true, laidKinds := [.handle], laidTests := true, laidLooks := .later }
def PackTakesUptoCardSaid : Prop := Claim7.holds Tryd.pinned (.plain (OpenSpec.upto packTakesSpec)) packTakesUptoCard

/-- THE SECOND FORM's CARD OF 'warrenlaw06.PackMany'. -/
def packManyUptoCard : Claim7 := { stood := { row := packManyUptoRow, standIns := [], harness := (true, "3ba86f969c9b16fc5cf9f07c996c60e9f5b124cd568e88d5b97ce4ef603bef5f"), looks := true }, kinds := [], alts := [], laidByText := true, laidKinds := [.handle], laidTests := true, laidLooks := .later }
def PackManyUptoCardSaid : Prop := Claim7.holds Tryd.pinned (.plain (OpenSpec.upto packManySpec)) packManyUptoCard

/-- THE SECOND FORM's CARD OF 'warrenlaw30.LedgerKeeps'. -/
def ledgerKeepsUptoCard : Claim7 := { stood := { row := ledgerKeepsUptoRow, standIns := [], harness := (true, "3ba86f969c9b16fc5cf9f07c996c60e9f5b124cd568e88d5b97ce4ef603bef5f"), looks := true }, kinds := [], alts := [], laidByText := true, laidKinds := [.handle], laidTests := true, laidLooks := .later }
def LedgerKeepsUptoCardSaid : Prop := Claim7.holds Tryd.pinned (.plain (OpenSpec.upto ledgerKeepsSpec)) ledgerKeepsUptoCard

/-- THE SECOND FORM's CARD OF 'warrenlaw30.LedgerTells'. -/
def ledgerTellsUptoCard : Claim7 := { stood := { row := ledgerTellsUptoRow, standIns := [], harness := (true, "3ba86f969c9b16fc5cf9f07c996c60e9f5b124cd568e88d5b97ce4ef603bef5f"), looks := true }, kinds := [], alts := [], laidByText := true, laidKinds := [.handle], laidTests := true, laidLooks := .later }
def LedgerTellsUptoCardSaid : Prop := Claim7.holds Tryd.pinned (.plain (OpenSpec.upto ledgerTellsSpec)) ledgerTellsUptoCard

/-- THE SECOND FORM's CARD OF 'warrenlaw30.LedgerSince'. -/
def ledgerSinceUptoCard : Claim7 := { stood := { row := ledgerSinceUptoRow, standIns := [], harness := (true, "3ba86f969c9b16fc5cf9f07c996c60e9f5b124cd568e88d5b97ce4ef603bef5f"), looks := true }, kinds := [], alts := [], laidByText := true, laidKinds := [.handle], laidTests := true, laidLooks := .later }
def LedgerSinceUptoCardSaid : Prop := Claim7.holds Tryd.pinned (.plain (OpenSpec.upto ledgerSinceSpec)) ledgerSinceUptoCard

/-- THE SECOND FORM's CARD OF 'warrenlaw36.ReplyForms'. -/
def replyFormsUptoCard : Claim7 := { stood := { row := replyFormsUptoRow, standIns := [], harness := (true, "3ba86f969c9b16fc5cf9f07c996c60e9f5b124cd568e88d5b97ce4ef603bef5f"), looks := true }, kinds := [], alts := [], laidByText := true, laidKinds := [.handle], laidTests := true, laidLooks := .later }
def ReplyFormsUptoCardSaid : Prop := Claim7.holds Tryd.pinned (.plain (OpenSpec.upto replyFormsSpec)) replyFormsUptoCard

/-- THE SECOND FORM's CARD OF 'warrenlaw36.ReplyBack'. -/
def replyBackUptoCard : Claim7 := { stood := { row := replyBackUptoRow, standIns := [], harness := (true, "3ba86f969c9b16fc5cf9f07c996c60e9f5b124cd568e88d5b97ce4ef603bef5f"), looks := true }, kinds := [], alts := [], laidByText := true, laidKinds := [.handle], laidTests := true, laidLooks := .later }
def ReplyBackUptoCardSaid : Prop := Claim7.holds Tryd.pinned (.plain (OpenSpec.upto replyBackSpec)) replyBackUptoCard

/-- THE SECOND FORM's CARD OF 'warrenlaw36.ReplyWrong'. -/
def replyWrongUptoCard : Claim7 := { stood := { row := replyWrongUptoRow, standIns := [], harness := (true, "3ba86f969c9b16fc5cf9f07c996c60e9f5b124cd568e88d5b97ce4ef603bef5f"), looks := true }, kinds := [], alts := [], laidByText := true, laidKinds := [.handle], laidTests := true, laidLooks := .later }
def ReplyWrongUptoCardSaid : Prop := Claim7.holds Tryd.pinned (.plain (OpenSpec.upto replyWrongSpec)) replyWrongUptoCard

/-- THE SECOND FORM's CARD OF 'warrenlaw35.RequestForms'. -/
def requestFormsUptoCard : Claim7 := { stood := { row := requestFormsUptoRow, standIns := [], harness := (true, "3ba86f969c9b16fc5cf9f07c996c60e9f5b124cd568e88d5b97ce4ef603bef5f"), looks := true }, kinds := [], alts := [], laidByText := true, laidKinds := [.handle], laidTests := true, laidLooks := .later }
def RequestFormsUptoCardSaid : Prop := Claim7.holds Tryd.pinned (.plain (OpenSpec.upto requestFormsSpec)) requestFormsUptoCard

/-- THE SECOND FORM's CARD OF 'warrenlaw35.RequestBack'. -/
def requestBackUptoCard : Claim7 := { stood := { row := requestBackUptoRow, standIns := [], harness := (true, "3ba86f969c9b16fc5cf9f07c996c60e9f5b124cd568e88d5b97ce4ef603bef5f"), looks := true }, kinds := [], alts := [], laidByText := true, laidKinds := [.handle], laidTests := true, laidLooks := .later }
def RequestBackUptoCardSaid : Prop := Claim7.holds Tryd.pinned (.plain (OpenSpec.upto requestBackSpec)) requestBackUptoCard

/-- THE SECOND FORM's CARD OF 'warrenlaw35.RequestKinds'. -/
def requestKindsUptoCard : Claim7 := { stood := { row := requestKindsUptoRow, standIns := [], harness := (true, "3ba86f969c9b16fc5cf9f07c996c60e9f5b124cd568e88d5b97ce4ef603bef5f"), looks := true }, kinds := [], alts := [], laidByText := true, laidKinds := [.handle], laidTests := true, laidLooks := .later }
def RequestKindsUptoCardSaid : Prop := Claim7.holds Tryd.pinned (.plain (OpenSpec.upto requestKindsSpec)) requestKindsUptoCard

/-- THE SECOND FORM's CARD OF 'warrenlaw34.HandleRuns'. -/
def handleRunsUptoCard : Claim7 := { stood := { row := handleRunsUptoRow, standIns := [], harness := (true, "3ba86f969c9b16fc5cf9f07c996c60e9f5b124cd568e88d5b97ce4ef603bef5f"), looks := true }, kinds := [], alts := [], laidByText := true, laidKinds := [.handle], laidTests := true, laidLooks := .later }
def HandleRunsUptoCardSaid : Prop := Claim7.holds Tryd.pinned (.plain (OpenSpec.upto handleRunsSpec)) handleRunsUptoCard

/-- THE SECOND FORM's CARD OF 'warrenlaw34.HandleAlone'. -/
def handleAloneUptoCard : Claim7 := { stood := { row := handleAloneUptoRow, standIns := [], harness := (true, "3ba86f969c9b16fc5cf9f07c996c60e9f5b124cd568e88d5b97ce4ef603bef5f"), looks := true }, kinds := [], alts := [], laidByText := true, laidKinds := [.handle], laidTests := true, laidLooks := .later }
def HandleAloneUptoCardSaid : Prop := Claim7.holds Tryd.pinned (.plain (OpenSpec.upto handleAloneSpec)) handleAloneUptoCard

/-- THE SECOND FORM's CARD OF 'warrenlaw34.HandleForgets'. -/
def handleForgetsUptoCard : Claim7 := { stood := { row := handleForgetsUptoRow, standIns := [], harness := (true, "3ba86f969c9b16fc5cf9f07c996c60e9f5b124cd568e88d5b97ce4ef603bef5f"), looks := true }, kinds := [], alts := [], laidByText := true, laidKinds := [.handle], laidTests := true, laidLooks := .later }
def HandleForgetsUptoCardSaid : Prop := Claim7.holds Tryd.pinned (.plain (OpenSpec.upto handleForgetsSpec)) handleForgetsUptoCard
end Rows
end Go.Proofs.YtmnhfpcbfdgbcaaDoor
