/- EW3: what functions do, walked; used by the laws of this seat. -/
import Derived.Test.YtmnhfpcbfdgbcaaDoorEW2
namespace Go.Proofs.YtmnhfpcbfdgbcaaDoor.Eng.Su06
set_option linter.unusedVariables false
set_option linter.unusedSimpArgs false
open Go.RowKit Go.Proofs.YtmnhfpcbfdgbcaaDoor.Plain Go.Proofs.YtmnhfpcbfdgbcaaDoor.Eng

theorem sz5 : sizeT Go.Proofs.Tryd.prog 5 = some 1 := by kernel_rfl
theorem zt5 : zeroT Go.Proofs.Tryd.prog 5 = some [.int .u8 0] := by kernel_rfl
open Go.Proofs.YtmnhfpcbfdgbcaaDoor.Eng.Pk Go.Proofs.YtmnhfpcbfdgbcaaDoor.Eng.Rd Go.Proofs.YtmnhfpcbfdgbcaaDoor.Eng.Pb Go.Proofs.YtmnhfpcbfdgbcaaDoor.Eng.Er
end Go.Proofs.YtmnhfpcbfdgbcaaDoor.Eng.Su06


namespace Go.Proofs.YtmnhfpcbfdgbcaaDoor.Eng.Rf06
set_option linter.unusedVariables false
set_option linter.unusedSimpArgs false
open Go.RowKit Go.Proofs.YtmnhfpcbfdgbcaaDoor.Plain Go.Proofs.YtmnhfpcbfdgbcaaDoor.Eng

theorem el5 : elT Go.Proofs.Tryd.prog 5 = some (1, 1) := by kernel_rfl
theorem sz5 : sizeT Go.Proofs.Tryd.prog 5 = some 1 := by kernel_rfl
theorem zt5 : zeroT Go.Proofs.Tryd.prog 5 = some [.int .u8 0] := by kernel_rfl
theorem ag5 : aggT Go.Proofs.Tryd.prog 5 = some false := by kernel_rfl
theorem mixed : Go.Proofs.Tryd.prog.follows .mixedOrders = true := by kernel_rfl
open Go.Proofs.YtmnhfpcbfdgbcaaDoor.Eng.Pk Go.Proofs.YtmnhfpcbfdgbcaaDoor.Eng.Rd Go.Proofs.YtmnhfpcbfdgbcaaDoor.Eng.Pb Go.Proofs.YtmnhfpcbfdgbcaaDoor.Eng.Er

end Go.Proofs.YtmnhfpcbfdgbcaaDoor.Eng.Rf06

