/-
  DERIVED. GIVEN WITH THE SEED: THE CARDS: each row of YtjbgddpaclcjfaaDoorRows.lean that lists a variable, with what it lists TIED to the program's text (the seventh form; the later family's looks); each row that meets fmt, with fmt's text TOLD by the authors' own Lean function (tested against real Go, not proved from fmt's source: count such statements apart). THE CARD IS WHAT COUNTS. Prove the row's statement (the work); the ties are given (YtjbgddpaclcjfaaDoorTie.lean); close each card by the builder's one call (the guide's Derived/Test/ToyasCard.lean, 'card_holds'). Laid BY PROGRAM, IN A SANDBOX (cutbox-door.mjs). By AI agents, Wed Nov 11 2026. No macro, syntax, notation, axiom, sorry.
-/
import Derived.Test.YtjbgddpaclcjfaaDoorRows
import GoSem.ClaimSeven
namespace Go.Proofs.YtjbgddpaclcjfaaDoor
namespace Rows

/-- THE TIED CARD OF 'warrenlaw04.DeviceKeeps'. -/
def deviceKeepsCard : Claim7 := { stood := { row := deviceKeepsRow, standIns := [], harness := (true, "0a60538f89d14e1a203d2e30fd55833efd43b39e7f8763c86d0d07dc377cdfff"), looks := true }, kinds := [], alts := [], laidByText := true, laidKinds := [.handle], laidTests := true, laidLooks := .later }
def DeviceKeepsCardSaid : Prop := Claim7.holds Tryd.pinned (.plain (OpenSpec.ofChange deviceKeepsSpec)) deviceKeepsCard

/-- THE TIED CARD OF 'warrenlaw04.DeviceCopies'. -/
def deviceCopiesCard : Claim7 := { stood := { row := deviceCopiesRow, standIns := [], harness := (true, "0a60538f89d14e1a203d2e30fd55833efd43b39e7f8763c86d0d07dc377cdfff"), looks := true }, kinds := [], alts := [], laidByText := true, laidKinds := [.handle], laidTests := true, laidLooks := .later }
def DeviceCopiesCardSaid : Prop := Claim7.holds Tryd.pinned (.plain (OpenSpec.ofChange deviceCopiesSpec)) deviceCopiesCard

/-- THE TIED CARD OF 'warrenlaw16.ExtentTells'. -/
def extentTellsCard : Claim7 := { stood := { row := extentTellsRow, standIns := [], harness := (true, "0a60538f89d14e1a203d2e30fd55833efd43b39e7f8763c86d0d07dc377cdfff"), looks := true }, kinds := [], alts := [], laidByText := true, laidKinds := [.handle], laidTests := true, laidLooks := .later }
def ExtentTellsCardSaid : Prop := Claim7.holds Tryd.pinned (.plain (OpenSpec.ofChange extentTellsSpec)) extentTellsCard

/-- THE TIED CARD OF 'warrenlaw16.ExtentBack'. -/
def extentBackCard : Claim7 := { stood := { row := extentBackRow, standIns := [], harness := (true, "0a60538f89d14e1a203d2e30fd55833efd43b39e7f8763c86d0d07dc377cdfff"), looks := true }, kinds := [], alts := [], laidByText := true, laidKinds := [.handle], laidTests := true, laidLooks := .later }
def ExtentBackCardSaid : Prop := Claim7.holds Tryd.pinned (.plain (OpenSpec.ofChange extentBackSpec)) extentBackCard

/-- THE TIED CARD OF 'warrenlaw16.ExtentApart'. -/
def extentApartCard : Claim7 := { stood := { row := extentApartRow, standIns := [], harness := (true, "0a60538f89d14e1a203d2e30fd55833efd43b39e7f8763c86d0d07dc377cdfff"), looks := true }, kinds := [], alts := [], laidByText := true, laidKinds := [.handle], laidTests := true, laidLooks := .later }
def ExtentApartCardSaid : Prop := Claim7.holds Tryd.pinned (.plain (OpenSpec.ofChange extentApartSpec)) extentApartCard

/-- THE TIED CARD OF 'warrenlaw04.DeviceRuns'. -/
def deviceRunsCard : Claim7 := { stood := { row := deviceRunsRow, standIns := [], harness := (true, "0a60538f89d14e1a203d2e30fd55833efd43b39e7f8763c86d0d07dc377cdfff"), looks := true }, kinds := [], alts := [], laidByText := true, laidKinds := [.handle], laidTests := true, laidLooks := .later }
def DeviceRunsCardSaid : Prop := Claim7.holds Tryd.pinned (.plain (OpenSpec.ofChange deviceRunsSpec)) deviceRunsCard

/-- THE TIED CARD OF 'warrenlaw28.CapsBack'. -/
def capsBackCard : Claim7 := { stood := { row := capsBackRow, standIns := [], harness := (true, "0a60538f89d14e1a203d2e30fd55833efd43b39e7f8763c86d0d07dc377cdfff"), looks := true }, kinds := [], alts := [], laidByText := true, laidKinds := [.data, .data, .data, .handle, .sentinel, .sentinel], laidTests := true, laidLooks := .later }
def CapsBackCardSaid : Prop := Claim7.holds Tryd.pinned (.plain (OpenSpec.ofChange capsBackSpec)) capsBackCard

/-- THE TIED CARD OF 'warrenlaw32.DirApart'. -/
def dirApartCard : Claim7 := { stood := { row := dirApartRow, standIns := [], harness := (true, "0a60538f89d14e1a203d2e30fd55833efd43b39e7f8763c86d0d07dc377cdfff"), looks := true }, kinds := [], alts := [], laidByText := true, laidKinds := [.handle], laidTests := true, laidLooks := .later }
def DirApartCardSaid : Prop := Claim7.holds Tryd.pinned (.plain (OpenSpec.ofChange dirApartSpec)) dirApartCard

/-- THE TIED CARD OF 'warrenlaw32.DirBack'. -/
def dirBackCard : Claim7 := { stood := { row := dirBackRow, standIns := [], harness := (true, "0a60538f89d14e1a203d2e30fd55833efd43b39e7f8763c86d0d07dc377cdfff"), looks := true }, kinds := [], alts := [], laidByText := true, laidKinds := [.handle], laidTests := true, laidLooks := .later }
def DirBackCardSaid : Prop := Claim7.holds Tryd.pinned (.plain (OpenSpec.ofChange dirBackSpec)) dirBackCard

/-- THE TIED CARD OF 'warrenlaw43.ModelPuts'. -/
def modelPutsCard : Claim7 := { stood := { row := modelPutsRow, standIns := [], harness := (true, "0a60538f89d14e1a203d2e30fd55833efd43b39e7f8763c86d0d07dc377cdfff"), looks := true }, kinds := [], alts := [], laidByText := true, laidKinds := [.handle], laidTests := true, laidLooks := .later }
def ModelPutsCardSaid : Prop := Claim7.holds Tryd.pinned (.plain (OpenSpec.ofChange modelPutsSpec)) modelPutsCard

/-- THE SECOND FORM's CARD OF 'warrenlaw04.DeviceKeeps'. -/
def deviceKeepsUptoCard : Claim7 := { stood := { row := deviceKeepsUptoRow, standIns := [], harness := (true, "0a60538f89d14e1a203d2e30fd55833efd43b39e7f8763c86d0d07dc377cdfff"), looks := true }, kinds := [], alts := [], laidByText := true, laidKinds := [.handle], laidTests := true, laidLooks := .later }
def DeviceKeepsUptoCardSaid : Prop := Claim7.holds Tryd.pinned (.plain (OpenSpec.upto deviceKeepsSpec)) deviceKeepsUptoCard

/-- THE SECOND FORM's CARD OF 'warrenlaw04.DeviceCopies'. -/
def deviceCopiesUptoCard : Claim7 := { stood := { row := deviceCopiesUptoRow, standIns := [], harness := (true, "0a60538f89d14e1a203d2e30fd55833efd43b39e7f8763c86d0d07dc377cdfff"), looks := true }, kinds := [], alts := [], laidByText := true, laidKinds := [.handle], laidTests := true, laidLooks := .later }
def DeviceCopiesUptoCardSaid : Prop := Claim7.holds Tryd.pinned (.plain (OpenSpec.upto deviceCopiesSpec)) deviceCopiesUptoCard

/-- THE SECOND FORM's CARD OF 'warrenlaw16.ExtentTells'. -/
def extentTellsUptoCard : Claim7 := { stood := { row := extentTellsUptoRow, standIns := [], harness := (true, "0a60538f89d14e1a203d2e30fd55833efd43b39e7f8763c86d0d07dc377cdfff"), looks := true }, kinds := [], alts := [], laidByText := true, laidKinds := [.handle], laidTests := true, laidLooks := .later }
def ExtentTellsUptoCardSaid : Prop := Claim7.holds Tryd.pinned (.plain (OpenSpec.upto extentTellsSpec)) extentTellsUptoCard

/-- THE SECOND FORM's CARD OF 'warrenlaw16.ExtentBack'. -/
def extentBackUptoCard : Claim7 := { stood := { row := extentBackUptoRow, standIns := [], harness := (true, "0a60538f89d14e1a203d2e30fd55833efd43b39e7f8763c86d0d07dc377cdfff"), looks := true }, kinds := [], alts := [], laidByText := true, laidKinds := [.handle], laidTests := true, laidLooks := .later }
def ExtentBackUptoCardSaid : Prop := Claim7.holds Tryd.pinned (.plain (OpenSpec.upto extentBackSpec)) extentBackUptoCard

/-- THE SECOND FORM's CARD OF 'warrenlaw16.ExtentApart'. -/
def extentApartUptoCard : Claim7 := { stood := { row := extentApartUptoRow, standIns := [], harness := (true, "0a60538f89d14e1a203d2e30fd55833efd43b39e7f8763c86d0d07dc377cdfff"), looks := true }, kinds := [], alts := [], laidByText := true, laidKinds := [.handle], laidTests := true, laidLooks := .later }
def ExtentApartUptoCardSaid : Prop := Claim7.holds Tryd.pinned (.plain (OpenSpec.upto extentApartSpec)) extentApartUptoCard

/-- THE SECOND FORM's CARD OF 'warrenlaw04.DeviceRuns'. -/
def deviceRunsUptoCard : Claim7 := { stood := { row := deviceRunsUptoRow, standIns := [], harness := (true, "0a60538f89d14e1a203d2e30fd55833efd43b39e7f8763c86d0d07dc377cdfff"), looks := true }, kinds := [], alts := [], laidByText := true, laidKinds := [.handle], laidTests := true, laidLooks := .later }
def DeviceRunsUptoCardSaid : Prop := Claim7.holds Tryd.pinned (.plain (OpenSpec.upto deviceRunsSpec)) deviceRunsUptoCard

/-- THE SECOND FORM's CARD OF 'warrenlaw28.CapsBack'. -/
def capsBackUptoCard : Claim7 := { stood := { row := capsBackUptoRow, standIns := [], harness := (true, "0a60538f89d14e1a203d2e30fd55833efd43b39e7f8763c86d0d07dc377cdfff"), looks := true }, kinds := [], alts := [], laidByText := true, laidKinds := [.data, .data, .data, .handle, .sentinel, .sentinel], laidTests := true, laidLooks := .later }
def CapsBackUptoCardSaid : Prop := Claim7.holds Tryd.pinned (.plain (OpenSpec.upto capsBackSpec)) capsBackUptoCard

/-- THE SECOND FORM's CARD OF 'warrenlaw32.DirApart'. -/
def dirApartUptoCard : Claim7 := { stood := { row := dirApartUptoRow, standIns := [], harness := (true, "0a60538f89d14e1a203d2e30fd55833efd43b39e7f8763c86d0d07dc377cdfff"), looks := true }, kinds := [], alts := [], laidByText := true, laidKinds := [.handle], laidTests := true, laidLooks := .later }
def DirApartUptoCardSaid : Prop := Claim7.holds Tryd.pinned (.plain (OpenSpec.upto dirApartSpec)) dirApartUptoCard

/-- THE SECOND FORM's CARD OF 'warrenlaw32.DirBack'. -/
def dirBackUptoCard : Claim7 := { stood := { row := dirBackUptoRow, standIns := [], harness := (true, "0a60538f89d14e1a203d2e30fd55833efd43b39e7f8763c86d0d07dc377cdfff"), looks := true }, kinds := [], alts := [], laidByText := true, laidKinds := [.handle], laidTests := true, laidLooks := .later }
def DirBackUptoCardSaid : Prop := Claim7.holds Tryd.pinned (.plain (OpenSpec.upto dirBackSpec)) dirBackUptoCard

/-- THE SECOND FORM's CARD OF 'warrenlaw43.ModelPuts'. -/
def modelPutsUptoCard : Claim7 := { stood := { row := modelPutsUptoRow, standIns := [], harness := (true, "0a60538f89d14e1a203d2e30fd55833efd43b39e7f8763c86d0d07dc377cdfff"), looks := true }, kinds := [], alts := [], laidByText := true, laidKinds := [.handle], laidTests := true, laidLooks := .later }
def ModelPutsUptoCardSaid : Prop := Claim7.holds Tryd.pinned (.plain (OpenSpec.upto modelPutsSpec)) modelPutsUptoCard
end Rows
end Go.Proofs.YtjbgddpaclcjfaaDoor
