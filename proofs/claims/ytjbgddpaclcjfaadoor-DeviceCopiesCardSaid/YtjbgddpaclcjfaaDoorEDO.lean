/- EDO: what functions do, walked; used by the laws of this seat. -/
import Derived.Test.YtjbgddpaclcjfaaDoorED5
import Derived.Test.YtjbgddpaclcjfaaDoorEngX3
namespace Go.Proofs.YtjbgddpaclcjfaaDoor.Eng.A
set_option linter.unusedVariables false
set_option linter.unusedSimpArgs false
open Go.RowKit Go.Proofs.YtjbgddpaclcjfaaDoor.Plain Go.Proofs.YtjbgddpaclcjfaaDoor.Eng Go.Proofs.YtjbgddpaclcjfaaDoor.Eng.Pk Go.Proofs.YtjbgddpaclcjfaaDoor.Eng.Rd



open Go.Proofs.YtjbgddpaclcjfaaDoor.Eng.Er
def W_Pu8 (x : (Int × Int)) : Prop := (Lit.int .u8 x.1).wf = true ∧ (Lit.int .u8 x.2).wf = true

def W_u8 (x : Int) : Prop := (Lit.int .u8 x).wf = true

theorem open_u8_5 : OpensK Go.Proofs.Tryd.prog 5 (kI .u8) W_u8 := openk_int Go.Proofs.Tryd.underlying5

theorem open_Pu8_31 : OpensK Go.Proofs.Tryd.prog 31 (kPair (kI .u8) (kI .u8)) W_Pu8 := openk_array2 Go.Proofs.Tryd.underlying31 (by kernel_rfl) (by kernel_rfl) open_u8_5

def W_SPu8 (x : (List (Int × Int))) : Prop := (∀ a ∈ x, W_Pu8 a) ∧ x.length ≤ maxLen ∧ x.length * Go.Proofs.Tryd.prog.bytesOf 31 ≤ reachBytes

theorem open_SPu8_22 : OpensK Go.Proofs.Tryd.prog 22 (kR (kPair (kI .u8) (kI .u8))) W_SPu8 := openk_slice Go.Proofs.Tryd.underlying22 (by kernel_rfl) (by decide) open_Pu8_31 default

def W_bool (x : Bool) : Prop := True

theorem open_bool_4 : OpensK Go.Proofs.Tryd.prog 4 (kB) W_bool := openk_bool Go.Proofs.Tryd.underlying4

def W_Sbool (x : (List Bool)) : Prop := (∀ a ∈ x, W_bool a) ∧ x.length ≤ maxLen ∧ x.length * Go.Proofs.Tryd.prog.bytesOf 4 ≤ reachBytes

theorem open_Sbool_23 : OpensK Go.Proofs.Tryd.prog 23 (kR kB) W_Sbool := openk_slice Go.Proofs.Tryd.underlying23 (by kernel_rfl) (by decide) open_bool_4 default


theorem lu8d {n : Int} (h : (Lit.int .u8 n).wf = true) : 0 ≤ n ∧ n < 256 := by simp [Lit.wf, IntKind.min, IntKind.max, IntKind.signed, IntKind.bits] at h; omega
theorem wppd {l : List (Int × Int)} (w : W_SPu8 l) : Wpp l := fun x hx => lu8d (w.1 x hx).1
theorem keeps04 {p0 p1 : List (Int × Int)} {p2 : List Bool} (w0 : W_SPu8 p0) (w1 : W_SPu8 p1) : F_lDeviceKeeps 101 p0 p1 p2 = some true := lKeeps_eq (wppd w0) (wppd w1) (by decide)
theorem copies04 {p0 p1 : List (Int × Int)} {p2 : Int} (w0 : W_SPu8 p0) (w1 : W_SPu8 p1) (w2 : (Lit.int .u8 p2).wf = true) : F_lDeviceCopies 101 p0 p1 p2 = some true := lCopies_eq (wppd w0) (wppd w1) (lu8d w2) (by decide)
end Go.Proofs.YtjbgddpaclcjfaaDoor.Eng.A
