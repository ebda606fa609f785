/- EO10: what functions do, walked; used by the laws of this seat. -/
import Derived.Test.YtmnhfpcbfdgbcaaDoorEH6
import Derived.Test.YtmnhfpcbfdgbcaaDoorEngX3
namespace Go.Proofs.YtmnhfpcbfdgbcaaDoor.Eng.A
set_option linter.unusedVariables false
set_option linter.unusedSimpArgs false
open Go.RowKit Go.Proofs.YtmnhfpcbfdgbcaaDoor.Plain Go.Proofs.YtmnhfpcbfdgbcaaDoor.Eng Go.Proofs.YtmnhfpcbfdgbcaaDoor.Eng.Pk Go.Proofs.YtmnhfpcbfdgbcaaDoor.Eng.Rd



open Go.Proofs.YtmnhfpcbfdgbcaaDoor.Eng.Hb Go.Proofs.YtmnhfpcbfdgbcaaDoor.Eng.Hc

def W_u64 (x : Int) : Prop := (Lit.int .u64 x).wf = true

theorem open_u64_22 : OpensK Go.Proofs.Tryd.prog 22 (kI .u64) W_u64 := openk_int Go.Proofs.Tryd.underlying22

def W_Itm (x : Itm) : Prop := ((Lit.int .u64 x.Who).wf = true) ∧ ((Lit.int .u64 x.No).wf = true) ∧ ((Lit.int .u64 x.Space).wf = true) ∧ ((Lit.int .u64 x.Gen).wf = true) ∧ ((Lit.int .u64 x.Txn).wf = true)

set_option maxRecDepth 100000 in
theorem open_Itm_148 : OpensK Go.Proofs.Tryd.prog 148 kItm W_Itm := openk_of (fun a => (⟨a.1, a.2.1, a.2.2.1, a.2.2.2.1, a.2.2.2.2⟩ : Itm)) (openk_struct Go.Proofs.Tryd.underlying148 (by kernel_rfl) (openf_cons (f := { name := "Who", type := 22, offset := 0, embedded := false, tag := "", pkgPath := "", byteOffset := 0 }) (off := 0) rfl (by kernel_rfl) open_u64_22 (openf_cons (f := { name := "No", type := 22, offset := 1, embedded := false, tag := "", pkgPath := "", byteOffset := 8 }) (off := 1) rfl (by kernel_rfl) open_u64_22 (openf_cons (f := { name := "Space", type := 22, offset := 2, embedded := false, tag := "", pkgPath := "", byteOffset := 16 }) (off := 2) rfl (by kernel_rfl) open_u64_22 (openf_cons (f := { name := "Gen", type := 22, offset := 3, embedded := false, tag := "", pkgPath := "", byteOffset := 24 }) (off := 3) rfl (by kernel_rfl) open_u64_22 (openf_last (f := { name := "Txn", type := 22, offset := 4, embedded := false, tag := "", pkgPath := "", byteOffset := 32 }) (off := 4) rfl (by kernel_rfl) open_u64_22)))))) (fun _ _ => rfl) (fun a h => by exact h)

def W_i64 (x : Int) : Prop := (Lit.int .i64 x).wf = true

theorem open_i64_3 : OpensK Go.Proofs.Tryd.prog 3 (kI .i64) W_i64 := openk_int Go.Proofs.Tryd.underlying3

def W_HAct (x : HAct) : Prop := ((Lit.int .i64 x.Kind).wf = true) ∧ (W_Itm x.X)

set_option maxRecDepth 100000 in
theorem open_HAct_150 : OpensK Go.Proofs.Tryd.prog 150 kHAct W_HAct := openk_of (fun a => (⟨a.1, a.2⟩ : HAct)) (openk_struct Go.Proofs.Tryd.underlying150 (by kernel_rfl) (openf_cons (f := { name := "Kind", type := 3, offset := 0, embedded := false, tag := "", pkgPath := "", byteOffset := 0 }) (off := 0) rfl (by kernel_rfl) open_i64_3 (openf_last (f := { name := "X", type := 148, offset := 1, embedded := false, tag := "", pkgPath := "", byteOffset := 8 }) (off := 1) rfl (by kernel_rfl) open_Itm_148))) (fun _ _ => rfl) (fun a h => by exact h)

def W_SHAct (x : (List HAct)) : Prop := (∀ a ∈ x, W_HAct a) ∧ x.length ≤ maxLen ∧ x.length * Go.Proofs.Tryd.prog.bytesOf 150 ≤ reachBytes

theorem open_SHAct_131 : OpensK Go.Proofs.Tryd.prog 131 (kR kHAct) W_SHAct := openk_slice Go.Proofs.Tryd.underlying131 (by kernel_rfl) (by decide) open_HAct_150 default


theorem runs34 {p0 : List HAct} (w0 : W_SHAct p0) : F_hRuns 1001 p0 = some true := hRuns_eq (by decide)
theorem alone34 {p0 : List HAct} (w0 : W_SHAct p0) : F_hAlone 1001 p0 = some true := hAlone_eq (fun x hx => by
  have h := (w0.1 x hx).2.1
  have : (Lit.int .u64 x.X.Who).wf = true := h
  simp [Lit.wf, IntKind.min, IntKind.max, IntKind.signed, IntKind.bits] at this
  omega) (by decide)
theorem forgets34 {p0 : List HAct} {p1 : Int} (w0 : W_SHAct p0) (w1 : (Lit.int .u64 p1).wf = true) : F_hForgets 1001 p0 p1 = some true := hForgets_eq p0 p1 (by decide)
end Go.Proofs.YtmnhfpcbfdgbcaaDoor.Eng.A
