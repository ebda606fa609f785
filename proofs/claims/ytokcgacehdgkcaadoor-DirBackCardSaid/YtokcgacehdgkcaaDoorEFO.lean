/- EFO: what functions do, walked; used by the laws of this seat. -/
import Derived.Test.YtokcgacehdgkcaaDoorEF5
import Derived.Test.YtokcgacehdgkcaaDoorEngX3
import Derived.Test.YtokcgacehdgkcaaDoorEXB
namespace Go.Proofs.YtokcgacehdgkcaaDoor.Eng.A
set_option linter.unusedVariables false
set_option linter.unusedSimpArgs false
open Go.RowKit Go.Proofs.YtokcgacehdgkcaaDoor.Plain Go.Proofs.YtokcgacehdgkcaaDoor.Eng Go.Proofs.YtokcgacehdgkcaaDoor.Eng.Pk Go.Proofs.YtokcgacehdgkcaaDoor.Eng.Rd



open Go.Proofs.YtokcgacehdgkcaaDoor.Eng.Er

def W_u16 (x : Int) : Prop := (Lit.int .u16 x).wf = true

theorem open_u16_77 : OpensK Go.Proofs.Tryd.prog 77 (kI .u16) W_u16 := openk_int Go.Proofs.Tryd.underlying77

def W_u8 (x : Int) : Prop := (Lit.int .u8 x).wf = true

theorem open_u8_5 : OpensK Go.Proofs.Tryd.prog 5 (kI .u8) W_u8 := openk_int Go.Proofs.Tryd.underlying5

def W_A4u8 (x : (List Int)) : Prop := x.length = 4 ∧ ∀ a ∈ x, W_u8 a

theorem open_A4u8_88 : OpensK Go.Proofs.Tryd.prog 88 (kArr 4 (kI .u8) (0 : Int)) W_A4u8 := openk_arrayN (k := kI .u8) (d := (0 : Int)) Go.Proofs.Tryd.underlying88 (by kernel_rfl) (by kernel_rfl) open_u8_5

def W_SA4u8 (x : (List (List Int))) : Prop := (∀ a ∈ x, W_A4u8 a) ∧ x.length ≤ maxLen ∧ x.length * Go.Proofs.Tryd.prog.bytesOf 88 ≤ reachBytes

theorem open_SA4u8_78 : OpensK Go.Proofs.Tryd.prog 78 (kR (kArr 4 (kI .u8) (0 : Int))) W_SA4u8 := openk_slice Go.Proofs.Tryd.underlying78 (by kernel_rfl) (by decide) open_A4u8_88 default

def W_u64 (x : Int) : Prop := (Lit.int .u64 x).wf = true

theorem open_u64_56 : OpensK Go.Proofs.Tryd.prog 56 (kI .u64) W_u64 := openk_int Go.Proofs.Tryd.underlying56

def W_i64 (x : Int) : Prop := (Lit.int .i64 x).wf = true

theorem open_i64_3 : OpensK Go.Proofs.Tryd.prog 3 (kI .i64) W_i64 := openk_int Go.Proofs.Tryd.underlying3

def W_Stx (x : Stx) : Prop := ((Lit.int .i64 x.From).wf = true) ∧ ((Lit.int .i64 x.Many).wf = true)

set_option maxRecDepth 100000 in
theorem open_Stx_232 : OpensK Go.Proofs.Tryd.prog 232 kStx W_Stx := openk_of (fun a => (⟨a.1, a.2⟩ : Stx)) (openk_struct Go.Proofs.Tryd.underlying232 (by kernel_rfl) (openf_cons (f := { name := "From", type := 3, offset := 0, embedded := false, tag := "", pkgPath := "", byteOffset := 0 }) (off := 0) rfl (by kernel_rfl) open_i64_3 (openf_last (f := { name := "Many", type := 3, offset := 1, embedded := false, tag := "", pkgPath := "", byteOffset := 8 }) (off := 1) rfl (by kernel_rfl) open_i64_3))) (fun _ _ => rfl) (fun a h => by exact h)

def W_SStx (x : (List Stx)) : Prop := (∀ a ∈ x, W_Stx a) ∧ x.length ≤ maxLen ∧ x.length * Go.Proofs.Tryd.prog.bytesOf 232 ≤ reachBytes

theorem open_SStx_101 : OpensK Go.Proofs.Tryd.prog 101 (kR kStx) W_SStx := openk_slice Go.Proofs.Tryd.underlying101 (by kernel_rfl) (by decide) open_Stx_232 default

def W_Tenant (x : Tenant) : Prop := ((Lit.int .u64 x.ID).wf = true) ∧ ((Lit.int .u64 x.Gen).wf = true) ∧ ((∀ a ∈ x.Ext, W_Stx a) ∧ x.Ext.length ≤ maxLen ∧ x.Ext.length * Go.Proofs.Tryd.prog.bytesOf 232 ≤ reachBytes)

set_option maxRecDepth 100000 in
theorem open_Tenant_103 : OpensK Go.Proofs.Tryd.prog 103 kTenant W_Tenant := openk_of (fun a => (⟨a.1, a.2.1, a.2.2⟩ : Tenant)) (openk_struct Go.Proofs.Tryd.underlying103 (by kernel_rfl) (openf_cons (f := { name := "ID", type := 56, offset := 0, embedded := false, tag := "", pkgPath := "", byteOffset := 0 }) (off := 0) rfl (by kernel_rfl) open_u64_56 (openf_cons (f := { name := "Gen", type := 56, offset := 1, embedded := false, tag := "", pkgPath := "", byteOffset := 8 }) (off := 1) rfl (by kernel_rfl) open_u64_56 (openf_last (f := { name := "Ext", type := 101, offset := 2, embedded := false, tag := "", pkgPath := "", byteOffset := 16 }) (off := 2) rfl (by kernel_rfl) open_SStx_101)))) (fun _ _ => rfl) (fun a h => by exact h)

def W_A16Tenant (x : (List Tenant)) : Prop := x.length = 16 ∧ ∀ a ∈ x, W_Tenant a

theorem open_A16Tenant_104 : OpensK Go.Proofs.Tryd.prog 104 (kArr 16 kTenant (default : Tenant)) W_A16Tenant := openk_arrayN (k := kTenant) (d := (default : Tenant)) Go.Proofs.Tryd.underlying104 (by kernel_rfl) (by kernel_rfl) open_Tenant_103

def W_A16u16 (x : (List Int)) : Prop := x.length = 16 ∧ ∀ a ∈ x, W_u16 a

theorem open_A16u16_83 : OpensK Go.Proofs.Tryd.prog 83 (kArr 16 (kI .u16) (0 : Int)) W_A16u16 := openk_arrayN (k := kI .u16) (d := (0 : Int)) Go.Proofs.Tryd.underlying83 (by kernel_rfl) (by kernel_rfl) open_u16_77

def W_Dirr (x : Dirr) : Prop := ((Lit.int .u64 x.Seq).wf = true) ∧ ((Lit.int .u64 x.Gen).wf = true) ∧ ((Lit.int .i64 x.Pages).wf = true) ∧ (x.L.length = 16 ∧ ∀ a ∈ x.L, W_Tenant a) ∧ (x.M.length = 16 ∧ ∀ a ∈ x.M, W_u16 a)

set_option maxRecDepth 100000 in
theorem open_Dirr_106 : OpensK Go.Proofs.Tryd.prog 106 kDirr W_Dirr := openk_of (fun a => (⟨a.1, a.2.1, a.2.2.1, a.2.2.2.1, a.2.2.2.2⟩ : Dirr)) (openk_struct Go.Proofs.Tryd.underlying106 (by kernel_rfl) (openf_cons (f := { name := "Seq", type := 56, offset := 0, embedded := false, tag := "", pkgPath := "", byteOffset := 0 }) (off := 0) rfl (by kernel_rfl) open_u64_56 (openf_cons (f := { name := "Gen", type := 56, offset := 1, embedded := false, tag := "", pkgPath := "", byteOffset := 8 }) (off := 1) rfl (by kernel_rfl) open_u64_56 (openf_cons (f := { name := "Pages", type := 3, offset := 2, embedded := false, tag := "", pkgPath := "", byteOffset := 16 }) (off := 2) rfl (by kernel_rfl) open_i64_3 (openf_cons (f := { name := "L", type := 104, offset := 3, embedded := false, tag := "", pkgPath := "", byteOffset := 24 }) (off := 3) rfl (by kernel_rfl) open_A16Tenant_104 (openf_last (f := { name := "M", type := 83, offset := 51, embedded := false, tag := "", pkgPath := "", byteOffset := 664 }) (off := 51) rfl (by kernel_rfl) open_A16u16_83)))))) (fun _ _ => by simp only [kPair, kDirr, kArr, kI, List.append_assoc, List.append_nil, List.cons_append, List.nil_append]) (fun a h => by exact h)

def W_bool (x : Bool) : Prop := True

theorem open_bool_4 : OpensK Go.Proofs.Tryd.prog 4 (kB) W_bool := openk_bool Go.Proofs.Tryd.underlying4

def W_Ask (x : Ask) : Prop := ((Lit.int .u64 x.A).wf = true) ∧ ((Lit.int .u64 x.B).wf = true) ∧ ((Lit.int .i64 x.Pages).wf = true) ∧ (True)

set_option maxRecDepth 100000 in
theorem open_Ask_108 : OpensK Go.Proofs.Tryd.prog 108 kAsk W_Ask := openk_of (fun a => (⟨a.1, a.2.1, a.2.2.1, a.2.2.2⟩ : Ask)) (openk_struct Go.Proofs.Tryd.underlying108 (by kernel_rfl) (openf_cons (f := { name := "A", type := 56, offset := 0, embedded := false, tag := "", pkgPath := "", byteOffset := 0 }) (off := 0) rfl (by kernel_rfl) open_u64_56 (openf_cons (f := { name := "B", type := 56, offset := 1, embedded := false, tag := "", pkgPath := "", byteOffset := 8 }) (off := 1) rfl (by kernel_rfl) open_u64_56 (openf_cons (f := { name := "Pages", type := 3, offset := 2, embedded := false, tag := "", pkgPath := "", byteOffset := 16 }) (off := 2) rfl (by kernel_rfl) open_i64_3 (openf_last (f := { name := "See", type := 4, offset := 3, embedded := false, tag := "", pkgPath := "", byteOffset := 24 }) (off := 3) rfl (by kernel_rfl) open_bool_4))))) (fun _ _ => rfl) (fun a h => by exact h)


theorem lu8z {n : Int} (h : (Lit.int .u8 n).wf = true) : 0 ≤ n ∧ n < 256 := by simp [Lit.wf, IntKind.min, IntKind.max, IntKind.signed, IntKind.bits] at h; omega
theorem lu16z {n : Int} (h : (Lit.int .u16 n).wf = true) : 0 ≤ n ∧ n < 65536 := by simp [Lit.wf, IntKind.min, IntKind.max, IntKind.signed, IntKind.bits] at h; omega
theorem lu64z {n : Int} (h : (Lit.int .u64 n).wf = true) : 0 ≤ n := by simp [Lit.wf, IntKind.min, IntKind.max, IntKind.signed, IntKind.bits] at h; omega
theorem li64z {n : Int} (h : (Lit.int .i64 n).wf = true) : n < 9223372036854775808 := by simp [Lit.wf, IntKind.min, IntKind.max, IntKind.signed, IntKind.bits] at h; omega
theorem apart32 {p0 : Int} {p1 : List (List Int)} (w0 : (Lit.int .u16 p0).wf = true) (w1 : W_SA4u8 p1) : F_l32DirApart 5001 p0 p1 = some true := dirApart_eq (lu16z w0) (fun x hx a ha => lu8z ((w1.1 x hx).2 a ha)) (by decide)
theorem flat_one {L : List Tenant} {t : Tenant} (h : t ∈ L) : t.Ext.length ≤ (L.flatMap (·.Ext)).length := by
  obtain ⟨i, hi⟩ := List.getElem?_of_mem h
  exact (sub_flat (·.Ext) L i t hi).length_le
theorem back32 {p0 : Dirr} {p1 : Ask} (w0 : W_Dirr p0) (w1 : W_Ask p1) : F_l32DirBack ((p0.L.flatMap (·.Ext)).length + 5001) p0 p1 = some true := by
  obtain ⟨a1, a2, a3, ⟨l1, l2⟩, ⟨m1, m2⟩⟩ := w0
  obtain ⟨b1, b2, b3, b4⟩ := w1
  refine dirBack_eq (fun i hi => ?_) ⟨m1, fun x hx => lu16z (m2 x hx)⟩ (lu64z a1) (lu64z a2) (lu64z b1) (li64z b3) (by omega)
  have hm : p0.L.getD i (default : Tenant) ∈ p0.L := List.mem_of_getElem? (at_len (by omega))
  obtain ⟨_, _, _, _, k⟩ := l2 _ hm
  have h1 := flat_one hm
  rw [show Tryd.prog.bytesOf 232 = 16 by kernel_rfl] at k
  exact ⟨Nat.le_trans k (by decide), by omega⟩
end Go.Proofs.YtokcgacehdgkcaaDoor.Eng.A
