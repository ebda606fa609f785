/- EO9: what functions do, walked; used by the laws of this seat. -/
import Derived.Test.YtmnhfpcbfdgbcaaDoorEL5
import Derived.Test.YtmnhfpcbfdgbcaaDoorEngX3
namespace Go.Proofs.YtmnhfpcbfdgbcaaDoor.Eng.A
set_option linter.unusedVariables false
set_option linter.unusedSimpArgs false
open Go.RowKit Go.Proofs.YtmnhfpcbfdgbcaaDoor.Plain Go.Proofs.YtmnhfpcbfdgbcaaDoor.Eng Go.Proofs.YtmnhfpcbfdgbcaaDoor.Eng.Pk Go.Proofs.YtmnhfpcbfdgbcaaDoor.Eng.Rd



def W_u64 (x : Int) : Prop := (Lit.int .u64 x).wf = true

theorem open_u64_22 : OpensK Go.Proofs.Tryd.prog 22 (kI .u64) W_u64 := openk_int Go.Proofs.Tryd.underlying22

def W_u8 (x : Int) : Prop := (Lit.int .u8 x).wf = true

theorem open_u8_5 : OpensK Go.Proofs.Tryd.prog 5 (kI .u8) W_u8 := openk_int Go.Proofs.Tryd.underlying5

def W_u16 (x : Int) : Prop := (Lit.int .u16 x).wf = true

theorem open_u16_58 : OpensK Go.Proofs.Tryd.prog 58 (kI .u16) W_u16 := openk_int Go.Proofs.Tryd.underlying58

def W_string (x : ByteArray) : Prop := x.size ≤ maxLen

theorem open_string_9 : OpensK Go.Proofs.Tryd.prog 9 (kS) W_string := openk_string Go.Proofs.Tryd.underlying9

def W_Lin (x : Lin) : Prop := ((Lit.int .u64 x.Seq).wf = true) ∧ ((Lit.int .u64 x.Who).wf = true) ∧ ((Lit.int .u8 x.What).wf = true) ∧ ((Lit.int .u16 x.Code).wf = true) ∧ (x.Key.size ≤ maxLen)

set_option maxRecDepth 100000 in
theorem open_Lin_60 : OpensK Go.Proofs.Tryd.prog 60 kLin W_Lin := openk_of (fun a => (⟨a.1, a.2.1, a.2.2.1, a.2.2.2.1, a.2.2.2.2⟩ : Lin)) (openk_struct Go.Proofs.Tryd.underlying60 (by kernel_rfl) (openf_cons (f := { name := "Seq", type := 22, offset := 0, embedded := false, tag := "", pkgPath := "", byteOffset := 0 }) (off := 0) rfl (by kernel_rfl) open_u64_22 (openf_cons (f := { name := "Who", type := 22, offset := 1, embedded := false, tag := "", pkgPath := "", byteOffset := 8 }) (off := 1) rfl (by kernel_rfl) open_u64_22 (openf_cons (f := { name := "What", type := 5, offset := 2, embedded := false, tag := "", pkgPath := "", byteOffset := 16 }) (off := 2) rfl (by kernel_rfl) open_u8_5 (openf_cons (f := { name := "Code", type := 58, offset := 3, embedded := false, tag := "", pkgPath := "", byteOffset := 18 }) (off := 3) rfl (by kernel_rfl) open_u16_58 (openf_last (f := { name := "Key", type := 9, offset := 4, embedded := false, tag := "", pkgPath := "", byteOffset := 24 }) (off := 4) rfl (by kernel_rfl) open_string_9)))))) (fun _ _ => rfl) (fun a h => by exact h)

def W_SLin (x : (List Lin)) : Prop := (∀ a ∈ x, W_Lin a) ∧ x.length ≤ maxLen ∧ x.length * Go.Proofs.Tryd.prog.bytesOf 60 ≤ reachBytes

theorem open_SLin_54 : OpensK Go.Proofs.Tryd.prog 54 (kR kLin) W_SLin := openk_slice Go.Proofs.Tryd.underlying54 (by kernel_rfl) (by decide) open_Lin_60 default

def W_Lgr (x : Lgr) : Prop := ((Lit.int .u64 x.Dropped).wf = true) ∧ ((∀ a ∈ x.L, W_Lin a) ∧ x.L.length ≤ maxLen ∧ x.L.length * Go.Proofs.Tryd.prog.bytesOf 60 ≤ reachBytes)

set_option maxRecDepth 100000 in
theorem open_Lgr_70 : OpensK Go.Proofs.Tryd.prog 70 kLgr W_Lgr := openk_of (fun a => (⟨a.1, a.2⟩ : Lgr)) (openk_struct Go.Proofs.Tryd.underlying70 (by kernel_rfl) (openf_cons (f := { name := "Dropped", type := 22, offset := 0, embedded := false, tag := "", pkgPath := "", byteOffset := 0 }) (off := 0) rfl (by kernel_rfl) open_u64_22 (openf_last (f := { name := "L", type := 54, offset := 1, embedded := false, tag := "", pkgPath := "", byteOffset := 8 }) (off := 1) rfl (by kernel_rfl) open_SLin_54))) (fun _ _ => rfl) (fun a h => by exact h)

def W_Su8 (x : (List Int)) : Prop := (∀ a ∈ x, W_u8 a) ∧ x.length ≤ maxLen ∧ x.length * Go.Proofs.Tryd.prog.bytesOf 5 ≤ reachBytes

theorem open_Su8_23 : OpensK Go.Proofs.Tryd.prog 23 (kR (kI .u8)) W_Su8 := openk_slice Go.Proofs.Tryd.underlying23 (by kernel_rfl) (by decide) open_u8_5 default


theorem lu64 {n : Int} (h : (Lit.int .u64 n).wf = true) : U64 n := by simp [Lit.wf, IntKind.min, IntKind.max, IntKind.signed, IntKind.bits] at h; exact ⟨by omega, by omega⟩
theorem lu8 {n : Int} (h : (Lit.int .u8 n).wf = true) : 0 ≤ n ∧ n < 256 := by simp [Lit.wf, IntKind.min, IntKind.max, IntKind.signed, IntKind.bits] at h; omega
theorem lu16 {n : Int} (h : (Lit.int .u16 n).wf = true) : 0 ≤ n ∧ n < 65536 := by simp [Lit.wf, IntKind.min, IntKind.max, IntKind.signed, IntKind.bits] at h; omega
theorem bts_w {l : List Int} (h : ∀ a ∈ l, W_u8 a) : Bts l := fun x hx => lu8 (h x hx)
theorem lin_w {x : Lin} (h : W_Lin x) : LinOk x := by
  obtain ⟨k1, k2, k3, k4, _⟩ := h
  exact ⟨lu64 k1, lu64 k2, lu8 k3, lu16 k4⟩
theorem lgr_w {p : Lgr} (h : W_Lgr p) : LgrOk p := ⟨lu64 h.1, fun x hx => lin_w (h.2.1 x hx)⟩
theorem tells30 {p0 : Lgr} {p1 : Lin} {p2 : List Int} (w0 : W_Lgr p0) (w1 : W_Lin p1) (w2 : W_Su8 p2) : F_lTells (p0.L.length + 101) p0 p1 p2 = some true :=
  lTells_eq (lgr_w w0) (bts_w w2.1) (by omega) (by omega)
theorem keeps30 {p0 : List Lin} (w0 : W_SLin p0) : F_lKeeps 101 p0 = some true := lKeeps_eq (fun x hx => lin_w (w0.1 x hx)) (by decide)
end Go.Proofs.YtmnhfpcbfdgbcaaDoor.Eng.A
