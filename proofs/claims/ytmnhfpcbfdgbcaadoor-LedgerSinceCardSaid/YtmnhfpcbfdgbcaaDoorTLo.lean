/- TLo: what the functions of one package do, walked; used by the laws of this seat. -/
import Derived.Test.YtmnhfpcbfdgbcaaDoorTLv
namespace Go.Proofs.YtmnhfpcbfdgbcaaDoor.Eng.Lo
set_option linter.unusedVariables false
set_option linter.unusedSimpArgs false
open Go.RowKit Go.Proofs.YtmnhfpcbfdgbcaaDoor.Plain Go.Proofs.YtmnhfpcbfdgbcaaDoor.Eng



open Go.Proofs.YtmnhfpcbfdgbcaaDoor.Eng.Pk Go.Proofs.YtmnhfpcbfdgbcaaDoor.Eng.Lg Go.Proofs.YtmnhfpcbfdgbcaaDoor.Eng.Ls
theorem wf_n {k : IntKind} {n : Int} (h : (Lit.int k n).wf = true) (hk : k = .u64 ∨ k = .u16 ∨ k = .u8) : 0 ≤ n := by
  rcases hk with rfl | rfl | rfl <;> (simp [Lit.wf, IntKind.min, IntKind.max, IntKind.signed, IntKind.bits] at h; omega)
set_option maxRecDepth 100000 in
theorem open_line : OpensK Go.Proofs.Tryd.prog 60 kL LnOk := by
  refine openk_of (fun a => (⟨a.1.toNat, a.2.1.toNat, a.2.2.1, a.2.2.2.1.toNat, a.2.2.2.2⟩ : Ln)) (openk_struct Go.Proofs.Tryd.underlying60 (by kernel_rfl) (openf_cons (f := { name := "Seq", type := 22, offset := 0, embedded := false, tag := "", pkgPath := "", byteOffset := 0 }) (off := 0) rfl (by kernel_rfl) (openk_int Go.Proofs.Tryd.underlying22) (openf_cons (f := { name := "Who", type := 22, offset := 1, embedded := false, tag := "", pkgPath := "", byteOffset := 8 }) (off := 1) rfl (by kernel_rfl) (openk_int Go.Proofs.Tryd.underlying22) (openf_cons (f := { name := "What", type := 5, offset := 2, embedded := false, tag := "", pkgPath := "", byteOffset := 16 }) (off := 2) rfl (by kernel_rfl) (openk_int Go.Proofs.Tryd.underlying5) (openf_cons (f := { name := "Code", type := 58, offset := 3, embedded := false, tag := "", pkgPath := "", byteOffset := 18 }) (off := 3) rfl (by kernel_rfl) (openk_int Go.Proofs.Tryd.underlying58) (openf_last (f := { name := "Key", type := 9, offset := 4, embedded := false, tag := "", pkgPath := "", byteOffset := 24 }) (off := 4) rfl (by kernel_rfl) (openk_string Go.Proofs.Tryd.underlying9))))))) (fun a ha => ?_) (fun a ha => ?_)
  · obtain ⟨h1, h2, h3, h4, h5⟩ := ha
    have e1 : ((a.1.toNat : Nat) : Int) = a.1 := by have := wf_n h1 (.inl rfl); omega
    have e2 : ((a.2.1.toNat : Nat) : Int) = a.2.1 := by have := wf_n h2 (.inl rfl); omega
    have e4 : ((a.2.2.2.1.toNat : Nat) : Int) = a.2.2.2.1 := by have := wf_n h4 (.inr (.inl rfl)); omega
    show [pl (.int .u64 ((a.1.toNat : Nat) : Int)), pl (.int .u64 ((a.2.1.toNat : Nat) : Int)), pl (.int .u8 a.2.2.1), pl (.int .u16 ((a.2.2.2.1.toNat : Nat) : Int)), pl (.string a.2.2.2.2)] = _
    rw [e1, e2, e4]; rfl
  · obtain ⟨h1, h2, h3, h4, h5⟩ := ha
    simp [Lit.wf, IntKind.min, IntKind.max, IntKind.signed, IntKind.bits] at h1 h2 h3 h4
    refine ⟨?_, ?_, ?_, ?_, ?_⟩
    · show a.1.toNat < _; omega
    · show a.2.1.toNat < _; omega
    · show 0 ≤ a.2.2.1 ∧ a.2.2.1 < 256; omega
    · show a.2.2.2.1.toNat < _; omega
    · exact Nat.le_trans h5 (by decide)
def LgArg (x : Nat × List Ln) : Prop := x.1 < 18446744073709551616 ∧ (∀ y ∈ x.2, LnOk y) ∧ x.2.length * 40 ≤ 140737488355328
def kLg : Kn (Nat × List Ln) := ⟨2, fun x => [pl (.int .u64 (x.1 : Int)), sl kL none none x.2], fun _ => rfl, fun x p hp g w v h => by
  simp only [List.mem_cons, List.not_mem_nil, or_false] at hp
  rcases hp with rfl | rfl
  · rw [show v = _ from h]; rfl
  · exact one_sl _ _ _ _ g w v h⟩
set_option maxRecDepth 100000 in
theorem open_ledger : OpensK Go.Proofs.Tryd.prog 70 kLg LgArg := by
  refine openk_of (fun a => (a.1.toNat, a.2)) (openk_struct Go.Proofs.Tryd.underlying70 (by kernel_rfl) (openf_cons (f := { name := "Dropped", type := 22, offset := 0, embedded := false, tag := "", pkgPath := "", byteOffset := 0 }) (off := 0) rfl (by kernel_rfl) (openk_int Go.Proofs.Tryd.underlying22) (openf_last (f := { name := "L", type := 54, offset := 1, embedded := false, tag := "", pkgPath := "", byteOffset := 8 }) (off := 1) rfl (by kernel_rfl) (openk_slice Go.Proofs.Tryd.underlying54 (by kernel_rfl) (by decide) open_line ln0)))) (fun a ha => ?_) (fun a ha => ?_)
  · have e1 : ((a.1.toNat : Nat) : Int) = a.1 := by have := wf_n ha.1 (.inl rfl); omega
    show [pl (.int .u64 ((a.1.toNat : Nat) : Int)), sl kL none none a.2] = _
    rw [e1]; rfl
  · obtain ⟨h1, h2, h3, h4⟩ := ha
    simp [Lit.wf, IntKind.min, IntKind.max, IntKind.signed, IntKind.bits] at h1
    refine ⟨?_, h2, ?_⟩
    · show a.1.toNat < _; omega
    · rw [show Go.Proofs.Tryd.prog.bytesOf 60 = 40 from by kernel_rfl] at h4
      exact Nat.le_trans h4 (by decide)
theorem arg_lg {x : Nat × List Ln} {cs : Array Value} {g : G} {w : World} (h : Pds g w (kLg.cs x) cs.toList) : (lgP x.1 x.2).h g w (.agg cs) := ⟨cs, rfl, h⟩
end Go.Proofs.YtmnhfpcbfdgbcaaDoor.Eng.Lo

