/- ECO: what functions do, walked; used by the laws of this seat. -/
import Derived.Test.YtokcgacehdgkcaaGreatDoorEC6
import Derived.Test.YtokcgacehdgkcaaGreatDoorEngX3
import Derived.Test.YtokcgacehdgkcaaGreatDoorEXB
namespace Go.Proofs.YtokcgacehdgkcaaGreatDoor.Eng.A
set_option linter.unusedVariables false
set_option linter.unusedSimpArgs false
open Go.RowKit Go.Proofs.YtokcgacehdgkcaaGreatDoor.Plain Go.Proofs.YtokcgacehdgkcaaGreatDoor.Eng Go.Proofs.YtokcgacehdgkcaaGreatDoor.Eng.Pk Go.Proofs.YtokcgacehdgkcaaGreatDoor.Eng.Rd



open Go.Proofs.YtokcgacehdgkcaaGreatDoor.Eng.Er

def W_u64 (x : Int) : Prop := (Lit.int .u64 x).wf = true

theorem open_u64_22 : OpensK Go.Proofs.Tryz.prog 22 (kI .u64) W_u64 := openk_int Go.Proofs.Tryz.underlying22

def W_bool (x : Bool) : Prop := True

theorem open_bool_4 : OpensK Go.Proofs.Tryz.prog 4 (kB) W_bool := openk_bool Go.Proofs.Tryz.underlying4

def W_i64 (x : Int) : Prop := (Lit.int .i64 x).wf = true

theorem open_i64_3 : OpensK Go.Proofs.Tryz.prog 3 (kI .i64) W_i64 := openk_int Go.Proofs.Tryz.underlying3

def W_Rf (x : Rf) : Prop := ((Lit.int .i64 x.Slot).wf = true) ∧ ((Lit.int .u64 x.Gen).wf = true)

set_option maxRecDepth 100000 in
theorem open_Rf_24 : OpensK Go.Proofs.Tryz.prog 24 kRf W_Rf := openk_of (fun a => (⟨a.1, a.2⟩ : Rf)) (openk_struct Go.Proofs.Tryz.underlying24 (by kernel_rfl) (openf_cons (f := { name := "Slot", type := 3, offset := 0, embedded := false, tag := "", pkgPath := "", byteOffset := 0 }) (off := 0) rfl (by kernel_rfl) open_i64_3 (openf_last (f := { name := "Gen", type := 22, offset := 1, embedded := false, tag := "", pkgPath := "", byteOffset := 8 }) (off := 1) rfl (by kernel_rfl) open_u64_22))) (fun _ _ => rfl) (fun a h => by exact h)

def W_string (x : ByteArray) : Prop := x.size ≤ maxLen

theorem open_string_9 : OpensK Go.Proofs.Tryz.prog 9 (kS) W_string := openk_string Go.Proofs.Tryz.underlying9

def W_u8 (x : Int) : Prop := (Lit.int .u8 x).wf = true

theorem open_u8_5 : OpensK Go.Proofs.Tryz.prog 5 (kI .u8) W_u8 := openk_int Go.Proofs.Tryz.underlying5

def W_Scp (x : Scp) : Prop := (x.Prefix.size ≤ maxLen) ∧ ((Lit.int .u8 x.Rights).wf = true)

set_option maxRecDepth 100000 in
theorem open_Scp_26 : OpensK Go.Proofs.Tryz.prog 26 kScp W_Scp := openk_of (fun a => (⟨a.1, a.2⟩ : Scp)) (openk_struct Go.Proofs.Tryz.underlying26 (by kernel_rfl) (openf_cons (f := { name := "Prefix", type := 9, offset := 0, embedded := false, tag := "", pkgPath := "", byteOffset := 0 }) (off := 0) rfl (by kernel_rfl) open_string_9 (openf_last (f := { name := "Rights", type := 5, offset := 1, embedded := false, tag := "", pkgPath := "", byteOffset := 16 }) (off := 1) rfl (by kernel_rfl) open_u8_5))) (fun _ _ => rfl) (fun a h => by exact h)

def W_Cap (x : Cap) : Prop := ((Lit.int .u64 x.Gen).wf = true) ∧ (True) ∧ ((Lit.int .u64 x.Holder).wf = true) ∧ (W_Rf x.From) ∧ (W_Scp x.Scope)

set_option maxRecDepth 100000 in
theorem open_Cap_28 : OpensK Go.Proofs.Tryz.prog 28 kCap W_Cap := openk_of (fun a => (⟨a.1, a.2.1, a.2.2.1, a.2.2.2.1, a.2.2.2.2⟩ : Cap)) (openk_struct Go.Proofs.Tryz.underlying28 (by kernel_rfl) (openf_cons (f := { name := "Gen", type := 22, offset := 0, embedded := false, tag := "", pkgPath := "", byteOffset := 0 }) (off := 0) rfl (by kernel_rfl) open_u64_22 (openf_cons (f := { name := "Live", type := 4, offset := 1, embedded := false, tag := "", pkgPath := "", byteOffset := 8 }) (off := 1) rfl (by kernel_rfl) open_bool_4 (openf_cons (f := { name := "Holder", type := 22, offset := 2, embedded := false, tag := "", pkgPath := "", byteOffset := 16 }) (off := 2) rfl (by kernel_rfl) open_u64_22 (openf_cons (f := { name := "From", type := 24, offset := 3, embedded := false, tag := "", pkgPath := "", byteOffset := 24 }) (off := 3) rfl (by kernel_rfl) open_Rf_24 (openf_last (f := { name := "Scope", type := 26, offset := 5, embedded := false, tag := "", pkgPath := "", byteOffset := 40 }) (off := 5) rfl (by kernel_rfl) open_Scp_26)))))) (fun _ _ => rfl) (fun a h => by exact h)

def W_A2string (x : (List ByteArray)) : Prop := x.length = 2 ∧ ∀ a ∈ x, W_string a

theorem open_A2string_29 : OpensK Go.Proofs.Tryz.prog 29 (kArr 2 kS ((⟨#[]⟩ : ByteArray) : ByteArray)) W_A2string := openk_arrayN (k := kS) (d := ((⟨#[]⟩ : ByteArray) : ByteArray)) Go.Proofs.Tryz.underlying29 (by kernel_rfl) (by kernel_rfl) open_string_9


theorem okWide_array {P : Program} {w : World} {r : Reach} {base t n : Nat} {e : TypeId} {v : Value} (ht : P.underlying t = some (.array n e)) (h : Value.okWide P w r base t v) : ∃ cs, v = .agg cs ∧ cs.size = P.cellsOf t := by
  simp only [Value.okWide, ht] at h
  obtain ⟨cs, h1, h2, _⟩ := h
  exact ⟨cs, h1, h2⟩
theorem lu8c {n : Int} (h : (Lit.int .u8 n).wf = true) : 0 ≤ n ∧ n < 256 := by simp [Lit.wf, IntKind.min, IntKind.max, IntKind.signed, IntKind.bits] at h; omega
theorem lu64c {n : Int} (h : (Lit.int .u64 n).wf = true) : U64 n := by simp [Lit.wf, IntKind.min, IntKind.max, IntKind.signed, IntKind.bits] at h; exact ⟨by omega, by omega⟩
theorem li64c {n : Int} (h : (Lit.int .i64 n).wf = true) : I64 n := by simp [Lit.wf, IntKind.min, IntKind.max, IntKind.signed, IntKind.bits] at h; exact ⟨by omega, by omega⟩
theorem forms28 {p0 : Int} {p1 : Cap} {p2 : List ByteArray} (w1 : W_Cap p1) : F_l28CapsForms 400 p0 p1 p2 = some true := by
  obtain ⟨a1, a2, a3, ⟨b1, b2⟩, ⟨d1, d2⟩⟩ := w1
  exact capsForms_eq ⟨lu64c a1, lu64c a3, lu64c b2, li64c b1, lu8c d2⟩ (by decide)
end Go.Proofs.YtokcgacehdgkcaaGreatDoor.Eng.A
