/- EEO: what functions do, walked; used by the laws of this seat. -/
import Derived.Test.YtjbgddpaclcjfaaDoorEE5
import Derived.Test.YtjbgddpaclcjfaaDoorEngX3
namespace Go.Proofs.YtjbgddpaclcjfaaDoor.Eng.A
set_option linter.unusedVariables false
set_option linter.unusedSimpArgs false
open Go.RowKit Go.Proofs.YtjbgddpaclcjfaaDoor.Plain Go.Proofs.YtjbgddpaclcjfaaDoor.Eng Go.Proofs.YtjbgddpaclcjfaaDoor.Eng.Pk Go.Proofs.YtjbgddpaclcjfaaDoor.Eng.Rd



def W_i64 (x : Int) : Prop := (Lit.int .i64 x).wf = true

theorem open_i64_3 : OpensK Go.Proofs.Tryd.prog 3 (kI .i64) W_i64 := openk_int Go.Proofs.Tryd.underlying3

def W_Stx (x : Stx) : Prop := ((Lit.int .i64 x.From).wf = true) ∧ ((Lit.int .i64 x.Many).wf = true)

set_option maxRecDepth 100000 in
theorem open_Stx_71 : OpensK Go.Proofs.Tryd.prog 71 kStx W_Stx := openk_of (fun a => (⟨a.1, a.2⟩ : Stx)) (openk_struct Go.Proofs.Tryd.underlying71 (by kernel_rfl) (openf_cons (f := { name := "From", type := 3, offset := 0, embedded := false, tag := "", pkgPath := "", byteOffset := 0 }) (off := 0) rfl (by kernel_rfl) open_i64_3 (openf_last (f := { name := "Many", type := 3, offset := 1, embedded := false, tag := "", pkgPath := "", byteOffset := 8 }) (off := 1) rfl (by kernel_rfl) open_i64_3))) (fun _ _ => rfl) (fun a h => by exact h)

def W_SStx (x : (List Stx)) : Prop := (∀ a ∈ x, W_Stx a) ∧ x.length ≤ maxLen ∧ x.length * Go.Proofs.Tryd.prog.bytesOf 71 ≤ reachBytes

theorem open_SStx_47 : OpensK Go.Proofs.Tryd.prog 47 (kR kStx) W_SStx := openk_slice Go.Proofs.Tryd.underlying47 (by kernel_rfl) (by decide) open_Stx_71 default

theorem lu8x {n : Int} (h : (Lit.int .u8 n).wf = true) : 0 ≤ n ∧ n < 256 := by simp [Lit.wf, IntKind.min, IntKind.max, IntKind.signed, IntKind.bits] at h; omega
theorem lu16x {n : Int} (h : (Lit.int .u16 n).wf = true) : 0 ≤ n ∧ n < 65536 := by simp [Lit.wf, IntKind.min, IntKind.max, IntKind.signed, IntKind.bits] at h; omega
theorem li64x {n : Int} (h : (Lit.int .i64 n).wf = true) : n < 9223372036854775808 := by simp [Lit.wf, IntKind.min, IntKind.max, IntKind.signed, IntKind.bits] at h; omega
theorem slen {l : List Stx} (w : W_SStx l) : l.length * 16 ≤ 140737488355328 := by
  have := w.2.2
  rw [show Tryd.prog.bytesOf 71 = 16 by kernel_rfl] at this
  exact Nat.le_trans this (by decide)
theorem tells16 {p0 : List Stx} {p1 p2 : Int} (w2 : (Lit.int .i64 p2).wf = true) : F_lExtentTells 5001 p0 p1 p2 = some true := lTells_eq (li64x w2) (by decide)
theorem back16 {p0 : List Stx} {p1 p2 : Int} (w0 : W_SStx p0) (w1 : (Lit.int .u8 p1).wf = true) (w2 : (Lit.int .u16 p2).wf = true) : F_lExtentBack (p0.length + 5001) p0 p1 p2 = some true := lBack_eq (slen w0) (lu8x w1) (lu16x w2) (by omega) (by omega)
theorem apart16 {p0 : List Stx} {p1 p2 : Int} (w0 : W_SStx p0) (w1 : (Lit.int .u8 p1).wf = true) (w2 : (Lit.int .u8 p2).wf = true) : F_lExtentApart (p0.length + 5001) p0 p1 p2 = some true := lApart_eq (slen w0) (lu8x w1) (lu8x w2) (by omega) (by omega)
end Go.Proofs.YtjbgddpaclcjfaaDoor.Eng.A
