/-
  DERIVED. GIVEN WITH THE SEED: THE CARDS: each row of YtokcgacehdgkcaaDoorRows.lean that lists a variable, with what it lists TIED to the program's text (the seventh form; the later family's looks); each row that meets fmt, with fmt's text TOLD by the authors' own Lean function (tested against real Go, not proved from fmt's source: count such statements apart). THE CARD IS WHAT COUNTS. Prove the row's statement (the work); the ties are given (YtokcgacehdgkcaaDoorTie.lean); close each card by the builder's one call (the guide's Derived/Test/ToyasCard.lean, 'card_holds'). Laid BY PROGRAM, IN A SANDBOX (cutbox-door.mjs). By AI agents, Wed Nov 11 2026. No macro, syntax, notation, axiom, sorry.
-/
import Derived.Test.YtokcgacehdgkcaaDoorRows
import GoSem.ClaimSeven
namespace Go.Proofs.YtokcgacehdgkcaaDoor
namespace Rows

/-- THE TIED CARD OF 'warrenlaw04.DeviceRuns'. -/
def deviceRunsCard : Claim7 := { stood := { row := deviceRunsRow, standIns := [], harness := (true, "7ac18daf7a013f7c44dbe0ab7f9fe1dd2a2b92d9c40fc87d6ade38972e3dc10e"), looks := true }, kinds := [], alts := [], laidByText := true, laidKinds := [.handle], laidTests := true, laidLooks := .later }
def DeviceRunsCardSaid : Prop := Claim7.holds Tryd.pinned (.plain (OpenSpec.ofChange deviceRunsSpec)) deviceRunsCard

/-- THE TIED CARD OF 'warrenlaw28.CapsBack'. -/
def capsBackCard : Claim7 := { stood := { row := capsBackRow, standIns := [], harness := (true, "7ac18daf7a013f7c44dbe0ab7f9fe1dd2a2b92d9c40fc87d6ade38972e3dc10e"), looks := true }, kinds := [], alts := [], laidByText := true, laidKinds := [.data, .data, .data, .handle, .sentinel, .sentinel], laidTests := true, laidLooks := .later }
def CapsBackCardSaid : Prop := Claim7.holds Tryd.pinned (.plain (OpenSpec.ofChange capsBackSpec)) capsBackCard

/-- THE TIED CARD OF 'warrenlaw32.DirApart'. -/
def dirApartCard : Claim7 := { stood := { row := dirApartRow, standIns := [], harness := (true, "7ac18daf7a013f7c44dbe0ab7f9fe1dd2a2b92d9c40fc87d6ade38972e3dc10e"), looks := true }, kinds := [], alts := [], laidByText := true, laidKinds := [.handle], laidTests := true, laidLooks := .later }
def DirApartCardSaid : Prop := Claim7.holds Tryd.pinned (.plain (OpenSpec.ofChange dirApartSpec)) dirApartCard

/-- THE TIED CARD OF 'warrenlaw32.DirBack'. -/
def dirBackCard : Claim7 := { stood := { row := dirBackRow, standIns := [], harness := (true, "7ac18daf7a013f7c44dbe0ab7f9fe1dd2a2b92d9c40fc87d6ade38972e3dc10e"), looks := true }, kinds := [], alts := [], laidByText := true, laidKinds := [.handle], laidTests := true, laidLooks := .later }
def DirBackCardSaid : Prop := Claim7.holds Tryd.pinned (.plain (OpenSpec.ofChange dirBackSpec)) dirBackCard

/-- THE TIED CARD OF 'warrenlaw43.ModelPuts'. -/
def modelPutsCard : Claim7 := { stood := { row := modelPutsRow, standIns := [], harness := (true, "7ac18daf7a013f7c44dbe0ab7f9fe1dd2a2b92d9c40fc87d6ade38972e3dc10e"), looks := true }, kinds := [], alts := [], laidByText := true, laidKinds := [.handle], laidTests := true, laidLooks := .later }
def ModelPutsCardSaid : Prop := Claim7.holds Tryd.pinned (.plain (OpenSpec.ofChange modelPutsSpec)) modelPutsCard

/-- THE SECOND FORM's CARD OF 'warrenlaw04.DeviceRuns'. -/
def deviceRunsUptoCard : Claim7 := { stood := { row := deviceRunsUptoRow, standIns := [], harness := (true, "7ac18daf7a013f7c44dbe0ab7f9fe1dd2a2b92d9c40fc87d6ade38972e3dc10e"), looks := true }, kinds := [], alts := [], laidByText := true, laidKinds := [.handle], laidTests := true, laidLooks := .later }
def DeviceRunsUptoCardSaid : Prop := Claim7.holds Tryd.pinned (.plain (OpenSpec.upto deviceRunsSpec)) deviceRunsUptoCard

/-- THE SECOND FORM's CARD OF 'warrenlaw28.CapsBack'. -/
def capsBackUptoCard : Claim7 := { stood := { row := capsBackUptoRow, standIns := [], harness := (true, "7ac18daf7a013f7c44dbe0ab7f9fe1dd2a2b92d9c40fc87d6ade38972e3dc10e"), looks := true }, kinds := [], alts := [], laidByText := true, laidKinds := [.data, .data, .data, .handle, .sentinel, .sentinel], laidTests := true, laidLooks := .later }
def CapsBackUptoCardSaid : Prop := Claim7.holds Tryd.pinned (.plain (OpenSpec.upto capsBackSpec)) capsBackUptoCard

/-- THE SECOND FORM's CARD OF 'warrenlaw32.DirApart'. -/
def dirApartUptoCard : Claim7 := { stood := { row := dirApartUptoRow, standIns := [], harness := (true, "7ac18daf7a013f7c44dbe0ab7f9fe1dd2a2b92d9c40fc87d6ade38972e3dc10e"), looks := true }, kinds := [], alts := [], laidByText := true, laidKinds := [.handle], laidTests := true, laidLooks := .later }
def DirApartUptoCardSaid : Prop := Claim7.holds Tryd.pinned (.plain (OpenSpec.upto dirApartSpec)) dirApartUptoCard

/-- THE SECOND FORM's CARD OF 'warrenlaw32.DirBack'. -/
def dirBackUptoCard : Claim7 := { stood := { row := dirBackUptoRow, standIns := [], harness := (true, "7ac18daf7a013f7c44dbe0ab7f9fe1dd2a2b92d9c40fc87d6ade38972e3dc10e"), looks := true }, kinds := [], alts := [], laidByText := true, laidKinds := [.handle], laidTests := true, laidLooks := .later }
def DirBackUptoCardSaid : Prop := Claim7.holds Tryd.pinned (.plain (OpenSpec.upto dirBackSpec)) dirBackUptoCard

/-- THE SECOND FORM's CARD OF 'warrenlaw43.ModelPuts'. -/
def modelPutsUptoCard : Claim7 := { stood := { row := modelPutsUptoRow, standIns := [], harness := (true, "7ac18daf7a013f7c44dbe0ab7f9fe1dd2a2b92d9c40fc87d6ade38972e3dc10e"), looks := true }, kinds := [], alts := [], laidByText := true, laidKinds := [.handle], laidTests := true, laidLooks := .later }
def ModelPutsUptoCardSaid : Prop := Claim7.holds Tryd.pinned (.plain (OpenSpec.upto modelPutsSpec)) modelPutsUptoCard
end Rows
end Go.Proofs.YtokcgacehdgkcaaDoor
