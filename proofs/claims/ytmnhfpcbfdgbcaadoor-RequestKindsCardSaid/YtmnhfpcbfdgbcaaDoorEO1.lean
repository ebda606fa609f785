/- EO1: what functions do, walked; used by the laws of this seat. -/
import Derived.Test.YtmnhfpcbfdgbcaaDoorEV1
import Derived.Test.YtmnhfpcbfdgbcaaDoorEngX3
namespace Go.Proofs.YtmnhfpcbfdgbcaaDoor.Eng.A
set_option linter.unusedVariables false
set_option linter.unusedSimpArgs false
open Go.RowKit Go.Proofs.YtmnhfpcbfdgbcaaDoor.Plain Go.Proofs.YtmnhfpcbfdgbcaaDoor.Eng Go.Proofs.YtmnhfpcbfdgbcaaDoor.Eng.Pk Go.Proofs.YtmnhfpcbfdgbcaaDoor.Eng.Rd



def W_u8 (x : Int) : Prop := (Lit.int .u8 x).wf = true

theorem open_u8_5 : OpensK Go.Proofs.Tryd.prog 5 (kI .u8) W_u8 := openk_int Go.Proofs.Tryd.underlying5

def W_u64 (x : Int) : Prop := (Lit.int .u64 x).wf = true

theorem open_u64_22 : OpensK Go.Proofs.Tryd.prog 22 (kI .u64) W_u64 := openk_int Go.Proofs.Tryd.underlying22

def W_i64 (x : Int) : Prop := (Lit.int .i64 x).wf = true

theorem open_i64_3 : OpensK Go.Proofs.Tryd.prog 3 (kI .i64) W_i64 := openk_int Go.Proofs.Tryd.underlying3

def W_Rf (x : Rf) : Prop := ((Lit.int .i64 x.Slot).wf = true) ∧ ((Lit.int .u64 x.Gen).wf = true)

set_option maxRecDepth 100000 in
theorem open_Rf_112 : OpensK Go.Proofs.Tryd.prog 112 kRf W_Rf := openk_of (fun a => (⟨a.1, a.2⟩ : Rf)) (openk_struct Go.Proofs.Tryd.underlying112 (by kernel_rfl) (openf_cons (f := { name := "Slot", type := 3, offset := 0, embedded := false, tag := "", pkgPath := "", byteOffset := 0 }) (off := 0) rfl (by kernel_rfl) open_i64_3 (openf_last (f := { name := "Gen", type := 22, offset := 1, embedded := false, tag := "", pkgPath := "", byteOffset := 8 }) (off := 1) rfl (by kernel_rfl) open_u64_22))) (fun _ _ => rfl) (fun a h => by exact h)

def W_string (x : ByteArray) : Prop := x.size ≤ maxLen

theorem open_string_9 : OpensK Go.Proofs.Tryd.prog 9 (kS) W_string := openk_string Go.Proofs.Tryd.underlying9

def W_bool (x : Bool) : Prop := True

theorem open_bool_4 : OpensK Go.Proofs.Tryd.prog 4 (kB) W_bool := openk_bool Go.Proofs.Tryd.underlying4

def W_Rq (x : Rq) : Prop := ((Lit.int .u8 x.Kind).wf = true) ∧ ((Lit.int .u64 x.Space).wf = true) ∧ ((Lit.int .u64 x.Handle).wf = true) ∧ (W_Rf x.Ref) ∧ ((Lit.int .u64 x.To).wf = true) ∧ (x.Key.size ≤ maxLen) ∧ (x.Value.size ≤ maxLen) ∧ ((Lit.int .u8 x.Rights).wf = true) ∧ ((Lit.int .u64 x.Most).wf = true) ∧ (True)

set_option maxRecDepth 100000 in
theorem open_Rq_114 : OpensK Go.Proofs.Tryd.prog 114 kRq W_Rq := openk_of (fun a => (⟨a.1, a.2.1, a.2.2.1, a.2.2.2.1, a.2.2.2.2.1, a.2.2.2.2.2.1, a.2.2.2.2.2.2.1, a.2.2.2.2.2.2.2.1, a.2.2.2.2.2.2.2.2.1, a.2.2.2.2.2.2.2.2.2⟩ : Rq)) (openk_struct Go.Proofs.Tryd.underlying114 (by kernel_rfl) (openf_cons (f := { name := "Kind", type := 5, offset := 0, embedded := false, tag := "", pkgPath := "", byteOffset := 0 }) (off := 0) rfl (by kernel_rfl) open_u8_5 (openf_cons (f := { name := "Space", type := 22, offset := 1, embedded := false, tag := "", pkgPath := "", byteOffset := 8 }) (off := 1) rfl (by kernel_rfl) open_u64_22 (openf_cons (f := { name := "Handle", type := 22, offset := 2, embedded := false, tag := "", pkgPath := "", byteOffset := 16 }) (off := 2) rfl (by kernel_rfl) open_u64_22 (openf_cons (f := { name := "Ref", type := 112, offset := 3, embedded := false, tag := "", pkgPath := "", byteOffset := 24 }) (off := 3) rfl (by kernel_rfl) open_Rf_112 (openf_cons (f := { name := "To", type := 22, offset := 5, embedded := false, tag := "", pkgPath := "", byteOffset := 40 }) (off := 5) rfl (by kernel_rfl) open_u64_22 (openf_cons (f := { name := "Key", type := 9, offset := 6, embedded := false, tag := "", pkgPath := "", byteOffset := 48 }) (off := 6) rfl (by kernel_rfl) open_string_9 (openf_cons (f := { name := "Value", type := 9, offset := 7, embedded := false, tag := "", pkgPath := "", byteOffset := 64 }) (off := 7) rfl (by kernel_rfl) open_string_9 (openf_cons (f := { name := "Rights", type := 5, offset := 8, embedded := false, tag := "", pkgPath := "", byteOffset := 80 }) (off := 8) rfl (by kernel_rfl) open_u8_5 (openf_cons (f := { name := "Most", type := 22, offset := 9, embedded := false, tag := "", pkgPath := "", byteOffset := 88 }) (off := 9) rfl (by kernel_rfl) open_u64_22 (openf_last (f := { name := "Flag", type := 4, offset := 10, embedded := false, tag := "", pkgPath := "", byteOffset := 96 }) (off := 10) rfl (by kernel_rfl) open_bool_4))))))))))) (fun _ _ => rfl) (fun a h => by exact h)

def W_Su8 (x : (List Int)) : Prop := (∀ a ∈ x, W_u8 a) ∧ x.length ≤ maxLen ∧ x.length * Go.Proofs.Tryd.prog.bytesOf 5 ≤ reachBytes

theorem open_Su8_23 : OpensK Go.Proofs.Tryd.prog 23 (kR (kI .u8)) W_Su8 := openk_slice Go.Proofs.Tryd.underlying23 (by kernel_rfl) (by decide) open_u8_5 default


theorem lu64 {n : Int} (h : (Lit.int .u64 n).wf = true) : U64 n := by simp [Lit.wf, IntKind.min, IntKind.max, IntKind.signed, IntKind.bits] at h; exact ⟨by omega, by omega⟩
theorem lu8 {n : Int} (h : (Lit.int .u8 n).wf = true) : 0 ≤ n ∧ n < 256 := by simp [Lit.wf, IntKind.min, IntKind.max, IntKind.signed, IntKind.bits] at h; omega
theorem lu16 {n : Int} (h : (Lit.int .u16 n).wf = true) : 0 ≤ n ∧ n < 65536 := by simp [Lit.wf, IntKind.min, IntKind.max, IntKind.signed, IntKind.bits] at h; omega
theorem li64 {n : Int} (h : (Lit.int .i64 n).wf = true) : I64 n := by simp [Lit.wf, IntKind.min, IntKind.max, IntKind.signed, IntKind.bits] at h; exact ⟨by omega, by omega⟩
theorem rq_of_w {q : Rq} (h : W_Rq q) : RqOk { q with Key := ⟨#[]⟩, Value := ⟨#[]⟩ } := by
  obtain ⟨h1, h2, h3, ⟨h4, h5⟩, h6, _, _, h7, h8, _⟩ := h
  exact ⟨lu8 h1, lu64 h2, lu64 h3, li64 h4, lu64 h5, lu64 h6, by show ByteArray.size ⟨#[]⟩ ≤ _; decide, by show ByteArray.size ⟨#[]⟩ ≤ _; decide, lu8 h7, lu64 h8⟩
theorem bts_w {l : List Int} (h : ∀ a ∈ l, W_u8 a) : Bts l := fun x hx => lu8 (h x hx)
end Go.Proofs.YtmnhfpcbfdgbcaaDoor.Eng.A
