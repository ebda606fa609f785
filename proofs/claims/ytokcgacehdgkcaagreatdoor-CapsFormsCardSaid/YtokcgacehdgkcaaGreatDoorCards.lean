/-
  DERIVED. GIVEN WITH THE SEED: THE CARDS: each row of YtokcgacehdgkcaaGreatDoorRows.lean that lists a variable, with what it lists TIED to the program's text (the seventh form; the later family's looks); each row that meets fmt, with fmt's text TOLD by the authors' own Lean function (tested against real Go, not proved from fmt's source: count such statements apart). THE CARD IS WHAT COUNTS. Prove the row's statement (the work); the ties are given (YtokcgacehdgkcaaGreatDoorTie.lean); close each card by the builder's one call (the guide's Derived/Test/ToyasCard.lean, 'card_holds'). Laid BY PROGRAM, IN A SANDBOX (cutbox-door.mjs). By AI agents, Wed Nov 11 2026. No macro, syntax, notation, axiom, sorry.
-/
import Derived.Test.YtokcgacehdgkcaaGreatDoorRows
import GoSem.ClaimSeven
namespace Go.Proofs.YtokcgacehdgkcaaGreatDoor
namespace Rows

/-- THE TIED CARD OF 'warrenlaw28.CapsForms'. -/
def capsFormsCard : Claim7 := { stood := { row := capsFormsRow, standIns := [], harness := (true, "01e1adbe876d40f1b1f6e6ead1f6ee99f6e3a3e9e32435b8e490bea0dec36878"), looks := true }, kinds := [], alts := [], laidByText := true, laidKinds := [.data, .data, .data, .handle, .sentinel, .sentinel], laidTests := true, laidLooks := .later }
def CapsFormsCardSaid : Prop := Claim7.holds Tryz.pinned (.plain (OpenSpec.ofChange capsFormsSpec)) capsFormsCard

/-- THE TIED CARD OF 'warrenlaw43.ModelRuns'. -/
def modelRunsCard : Claim7 := { stood := { row := modelRunsRow, standIns := [], harness := (true, "01e1adbe876d40f1b1f6e6ead1f6ee99f6e3a3e9e32435b8e490bea0dec36878"), looks := true }, kinds := [], alts := [], laidByText := true, laidKinds := [.handle], laidTests := true, laidLooks := .later }
def ModelRunsCardSaid : Prop := Claim7.holds Tryz.pinned (.plain (OpenSpec.ofChange modelRunsSpec)) modelRunsCard

/-- THE TIED CARD OF 'warrenlaw43.ModelStill'. -/
def modelStillCard : Claim7 := { stood := { row := modelStillRow, standIns := [], harness := (true, "01e1adbe876d40f1b1f6e6ead1f6ee99f6e3a3e9e32435b8e490bea0dec36878"), looks := true }, kinds := [], alts := [], laidByText := true, laidKinds := [.handle], laidTests := true, laidLooks := .later }
def ModelStillCardSaid : Prop := Claim7.holds Tryz.pinned (.plain (OpenSpec.ofChange modelStillSpec)) modelStillCard

/-- THE SECOND FORM's CARD OF 'warrenlaw28.CapsForms'. -/
def capsFormsUptoCard : Claim7 := { stood := { row := capsFormsUptoRow, standIns := [], harness := (true, "01e1adbe876d40f1b1f6e6ead1f6ee99f6e3a3e9e32435b8e490bea0dec36878"), looks := true }, kinds := [], alts := [], laidByText := true, laidKinds := [.data, .data, .data, .handle, .sentinel, .sentinel], laidTests := true, laidLooks := .later }
def CapsFormsUptoCardSaid : Prop := Claim7.holds Tryz.pinned (.plain (OpenSpec.upto capsFormsSpec)) capsFormsUptoCard

/-- THE SECOND FORM's CARD OF 'warrenlaw43.ModelRuns'. -/
def modelRunsUptoCard : Claim7 := { stood := { row := modelRunsUptoRow, standIns := [], harness := (true, "01e1adbe876d40f1b1f6e6ead1f6ee99f6e3a3e9e32435b8e490bea0dec36878"), looks := true }, kinds := [], alts := [], laidByText := true, laidKinds := [.handle], laidTests := true, laidLooks := .later }
def ModelRunsUptoCardSaid : Prop := Claim7.holds Tryz.pinned (.plain (OpenSpec.upto modelRunsSpec)) modelRunsUptoCard

/-- THE SECOND FORM's CARD OF 'warrenlaw43.ModelStill'. -/
def modelStillUptoCard : Claim7 := { stood := { row := modelStillUptoRow, standIns := [], harness := (true, "01e1adbe876d40f1b1f6e6ead1f6ee99f6e3a3e9e32435b8e490bea0dec36878"), looks := true }, kinds := [], alts := [], laidByText := true, laidKinds := [.handle], laidTests := true, laidLooks := .later }
def ModelStillUptoCardSaid : Prop := Claim7.holds Tryz.pinned (.plain (OpenSpec.upto modelStillSpec)) modelStillUptoCard
end Rows
end Go.Proofs.YtokcgacehdgkcaaGreatDoor
