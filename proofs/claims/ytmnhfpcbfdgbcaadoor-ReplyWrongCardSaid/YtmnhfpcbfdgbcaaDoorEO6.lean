/- EO6: what functions do, walked; used by the laws of this seat. -/
import Derived.Test.YtmnhfpcbfdgbcaaDoorER5
import Derived.Test.YtmnhfpcbfdgbcaaDoorEngX3
namespace Go.Proofs.YtmnhfpcbfdgbcaaDoor.Eng.A
set_option linter.unusedVariables false
set_option linter.unusedSimpArgs false
open Go.RowKit Go.Proofs.YtmnhfpcbfdgbcaaDoor.Plain Go.Proofs.YtmnhfpcbfdgbcaaDoor.Eng Go.Proofs.YtmnhfpcbfdgbcaaDoor.Eng.Pk Go.Proofs.YtmnhfpcbfdgbcaaDoor.Eng.Rd



def W_string (x : ByteArray) : Prop := x.size ≤ maxLen

theorem open_string_9 : OpensK Tryd.prog 9 (kS) W_string := openk_string Tryd.underlying9

def W_Ent (x : Ent) : Prop := (x.Key.size ≤ maxLen) ∧ (x.Value.size ≤ maxLen)

set_option maxRecDepth 100000 in
theorem open_Ent_174 : OpensK Tryd.prog 174 kEnt W_Ent := openk_of (fun a => (⟨a.1, a.2⟩ : Ent)) (openk_struct Tryd.underlying174 (by kernel_rfl) (openf_cons (f := { name := "Key", type := 9, offset := 0, embedded := false, tag := "", pkgPath := "", byteOffset := 0 }) (off := 0) rfl (by kernel_rfl) open_string_9 (openf_last (f := { name := "Value", type := 9, offset := 1, embedded := false, tag := "", pkgPath := "", byteOffset := 16 }) (off := 1) rfl (by kernel_rfl) open_string_9))) (fun _ _ => rfl) (fun a h => by exact h)

def W_i64 (x : Int) : Prop := (Lit.int .i64 x).wf = true

theorem open_i64_3 : OpensK Tryd.prog 3 (kI .i64) W_i64 := openk_int Tryd.underlying3

def W_u64 (x : Int) : Prop := (Lit.int .u64 x).wf = true

theorem open_u64_22 : OpensK Tryd.prog 22 (kI .u64) W_u64 := openk_int Tryd.underlying22

def W_Rf (x : Rf) : Prop := ((Lit.int .i64 x.Slot).wf = true) ∧ ((Lit.int .u64 x.Gen).wf = true)

set_option maxRecDepth 100000 in
theorem open_Rf_112 : OpensK Tryd.prog 112 kRf W_Rf := openk_of (fun a => (⟨a.1, a.2⟩ : Rf)) (openk_struct Tryd.underlying112 (by kernel_rfl) (openf_cons (f := { name := "Slot", type := 3, offset := 0, embedded := false, tag := "", pkgPath := "", byteOffset := 0 }) (off := 0) rfl (by kernel_rfl) open_i64_3 (openf_last (f := { name := "Gen", type := 22, offset := 1, embedded := false, tag := "", pkgPath := "", byteOffset := 8 }) (off := 1) rfl (by kernel_rfl) open_u64_22))) (fun _ _ => rfl) (fun a h => by exact h)

def W_u8 (x : Int) : Prop := (Lit.int .u8 x).wf = true

theorem open_u8_5 : OpensK Tryd.prog 5 (kI .u8) W_u8 := openk_int Tryd.underlying5

def W_u16 (x : Int) : Prop := (Lit.int .u16 x).wf = true

theorem open_u16_58 : OpensK Tryd.prog 58 (kI .u16) W_u16 := openk_int Tryd.underlying58

def W_Lin (x : Lin) : Prop := ((Lit.int .u64 x.Seq).wf = true) ∧ ((Lit.int .u64 x.Who).wf = true) ∧ ((Lit.int .u8 x.What).wf = true) ∧ ((Lit.int .u16 x.Code).wf = true) ∧ (x.Key.size ≤ maxLen)

set_option maxRecDepth 100000 in
theorem open_Lin_60 : OpensK Tryd.prog 60 kLin W_Lin := openk_of (fun a => (⟨a.1, a.2.1, a.2.2.1, a.2.2.2.1, a.2.2.2.2⟩ : Lin)) (openk_struct Tryd.underlying60 (by kernel_rfl) (openf_cons (f := { name := "Seq", type := 22, offset := 0, embedded := false, tag := "", pkgPath := "", byteOffset := 0 }) (off := 0) rfl (by kernel_rfl) open_u64_22 (openf_cons (f := { name := "Who", type := 22, offset := 1, embedded := false, tag := "", pkgPath := "", byteOffset := 8 }) (off := 1) rfl (by kernel_rfl) open_u64_22 (openf_cons (f := { name := "What", type := 5, offset := 2, embedded := false, tag := "", pkgPath := "", byteOffset := 16 }) (off := 2) rfl (by kernel_rfl) open_u8_5 (openf_cons (f := { name := "Code", type := 58, offset := 3, embedded := false, tag := "", pkgPath := "", byteOffset := 18 }) (off := 3) rfl (by kernel_rfl) open_u16_58 (openf_last (f := { name := "Key", type := 9, offset := 4, embedded := false, tag := "", pkgPath := "", byteOffset := 24 }) (off := 4) rfl (by kernel_rfl) open_string_9)))))) (fun _ _ => rfl) (fun a h => by exact h)

def W_bool (x : Bool) : Prop := True

theorem open_bool_4 : OpensK Tryd.prog 4 (kB) W_bool := openk_bool Tryd.underlying4

def W_SEnt (x : (List Ent)) : Prop := (∀ a ∈ x, W_Ent a) ∧ x.length ≤ maxLen ∧ x.length * Tryd.prog.bytesOf 174 ≤ reachBytes

theorem open_SEnt_85 : OpensK Tryd.prog 85 (kR kEnt) W_SEnt := openk_slice Tryd.underlying85 (by kernel_rfl) (by decide) open_Ent_174 default

def W_SRf (x : (List Rf)) : Prop := (∀ a ∈ x, W_Rf a) ∧ x.length ≤ maxLen ∧ x.length * Tryd.prog.bytesOf 112 ≤ reachBytes

theorem open_SRf_86 : OpensK Tryd.prog 86 (kR kRf) W_SRf := openk_slice Tryd.underlying86 (by kernel_rfl) (by decide) open_Rf_112 default

def W_SLin (x : (List Lin)) : Prop := (∀ a ∈ x, W_Lin a) ∧ x.length ≤ maxLen ∧ x.length * Tryd.prog.bytesOf 60 ≤ reachBytes

theorem open_SLin_54 : OpensK Tryd.prog 54 (kR kLin) W_SLin := openk_slice Tryd.underlying54 (by kernel_rfl) (by decide) open_Lin_60 default

def W_Rpl (x : Rpl) : Prop := ((Lit.int .i64 x.Code).wf = true) ∧ ((Lit.int .u64 x.N).wf = true) ∧ (True) ∧ (x.Value.size ≤ maxLen) ∧ ((∀ a ∈ x.Rows, W_Ent a) ∧ x.Rows.length ≤ maxLen ∧ x.Rows.length * Tryd.prog.bytesOf 174 ≤ reachBytes) ∧ ((∀ a ∈ x.Refs, W_Rf a) ∧ x.Refs.length ≤ maxLen ∧ x.Refs.length * Tryd.prog.bytesOf 112 ≤ reachBytes) ∧ ((∀ a ∈ x.Lines, W_Lin a) ∧ x.Lines.length ≤ maxLen ∧ x.Lines.length * Tryd.prog.bytesOf 60 ≤ reachBytes)

set_option maxRecDepth 100000 in
theorem open_Rpl_88 : OpensK Tryd.prog 88 kRpl W_Rpl := openk_of (fun a => (⟨a.1, a.2.1, a.2.2.1, a.2.2.2.1, a.2.2.2.2.1, a.2.2.2.2.2.1, a.2.2.2.2.2.2⟩ : Rpl)) (openk_struct Tryd.underlying88 (by kernel_rfl) (openf_cons (f := { name := "Code", type := 3, offset := 0, embedded := false, tag := "", pkgPath := "", byteOffset := 0 }) (off := 0) rfl (by kernel_rfl) open_i64_3 (openf_cons (f := { name := "N", type := 22, offset := 1, embedded := false, tag := "", pkgPath := "", byteOffset := 8 }) (off := 1) rfl (by kernel_rfl) open_u64_22 (openf_cons (f := { name := "Found", type := 4, offset := 2, embedded := false, tag := "", pkgPath := "", byteOffset := 16 }) (off := 2) rfl (by kernel_rfl) open_bool_4 (openf_cons (f := { name := "Value", type := 9, offset := 3, embedded := false, tag := "", pkgPath := "", byteOffset := 24 }) (off := 3) rfl (by kernel_rfl) open_string_9 (openf_cons (f := { name := "Rows", type := 85, offset := 4, embedded := false, tag := "", pkgPath := "", byteOffset := 40 }) (off := 4) rfl (by kernel_rfl) open_SEnt_85 (openf_cons (f := { name := "Refs", type := 86, offset := 5, embedded := false, tag := "", pkgPath := "", byteOffset := 64 }) (off := 5) rfl (by kernel_rfl) open_SRf_86 (openf_last (f := { name := "Lines", type := 54, offset := 6, embedded := false, tag := "", pkgPath := "", byteOffset := 88 }) (off := 6) rfl (by kernel_rfl) open_SLin_54)))))))) (fun _ _ => rfl) (fun a h => by exact h)

def W_Su8 (x : (List Int)) : Prop := (∀ a ∈ x, W_u8 a) ∧ x.length ≤ maxLen ∧ x.length * Tryd.prog.bytesOf 5 ≤ reachBytes

theorem open_Su8_23 : OpensK Tryd.prog 23 (kR (kI .u8)) W_Su8 := openk_slice Tryd.underlying23 (by kernel_rfl) (by decide) open_u8_5 default


theorem lu64 {n : Int} (h : (Lit.int .u64 n).wf = true) : U64 n := by simp [Lit.wf, IntKind.min, IntKind.max, IntKind.signed, IntKind.bits] at h; exact ⟨by omega, by omega⟩
theorem lu8 {n : Int} (h : (Lit.int .u8 n).wf = true) : 0 ≤ n ∧ n < 256 := by simp [Lit.wf, IntKind.min, IntKind.max, IntKind.signed, IntKind.bits] at h; omega
theorem lu16 {n : Int} (h : (Lit.int .u16 n).wf = true) : 0 ≤ n ∧ n < 65536 := by simp [Lit.wf, IntKind.min, IntKind.max, IntKind.signed, IntKind.bits] at h; omega
theorem li64 {n : Int} (h : (Lit.int .i64 n).wf = true) : I64 n := by simp [Lit.wf, IntKind.min, IntKind.max, IntKind.signed, IntKind.bits] at h; exact ⟨by omega, by omega⟩
theorem bts_w {l : List Int} (h : ∀ a ∈ l, W_u8 a) : Bts l := fun x hx => lu8 (h x hx)


theorem bo174 : Tryd.prog.bytesOf 174 = 32 := by kernel_rfl
theorem bo112 : Tryd.prog.bytesOf 112 = 16 := by kernel_rfl
theorem bo60 : Tryd.prog.bytesOf 60 = 40 := by kernel_rfl
theorem rp_of_w {q : Rpl} (h : W_Rpl q) : RpOk q := by
  obtain ⟨h1, h2, _, _, _, ⟨h3, _, _⟩, ⟨h4, _, _⟩⟩ := h
  exact ⟨li64 h1, lu64 h2, fun f hf => ⟨li64 (h3 f hf).1, lu64 (h3 f hf).2⟩, fun x hx => by
    obtain ⟨k1, k2, k3, k4, _⟩ := h4 x hx
    exact ⟨lu64 k1, lu64 k2, lu8 k3, lu16 k4⟩⟩
theorem cap_of_w {q : Rpl} (h : W_Rpl q) {fl : Nat} (hf : q.Rows.length + q.Refs.length + q.Lines.length < fl) : Cap q fl := by
  obtain ⟨_, _, _, _, ⟨_, _, h1⟩, ⟨_, _, h2⟩, ⟨_, _, h3⟩⟩ := h
  rw [bo174] at h1; rw [bo112] at h2; rw [bo60] at h3
  unfold reachBytes at h1 h2 h3
  unfold Cap
  omega
def flR (p q : Rpl) : Nat := (p.Rows.length + p.Refs.length + p.Lines.length) + (q.Rows.length + q.Refs.length + q.Lines.length) + 100
theorem forms36 {p0 p1 : Rpl} {b : List Int} (w0 : W_Rpl p0) (w1 : W_Rpl p1) (w2 : W_Su8 b) : F_rForms (flR p0 p1) p0 p1 b = some true :=
  rForms_eq (by unfold flR; omega) (rp_of_w w0) (cap_of_w w0 (by unfold flR; omega)) (cap_of_w w1 (by unfold flR; omega)) (bts_w w2.1)
theorem back36 {p0 : Rpl} {p1 : Int} (w0 : W_Rpl p0) (w1 : W_u16 p1) : F_rBack (flR p0 p0) p0 p1 = some true :=
  rBack_eq (by unfold flR; omega) (rp_of_w w0) (cap_of_w w0 (by unfold flR; omega)) (lu16 w1)
theorem wrong36 {p0 : Int} {p1 : Rpl} (w0 : W_u16 p0) (w1 : W_Rpl p1) : F_rWrong (flR p1 p1) p0 p1 = some true :=
  rWrong_eq (by unfold flR; omega) (lu16 w0) (rp_of_w w1) (cap_of_w w1 (by unfold flR; omega))
end Go.Proofs.YtmnhfpcbfdgbcaaDoor.Eng.A
