/- EAO: what functions do, walked; used by the laws of this seat. -/
import Derived.Test.YtokcgacehdgkcaaEA6
import Derived.Test.YtokcgacehdgkcaaEngX3
import Derived.Test.YtokcgacehdgkcaaEX5
namespace Go.Proofs.Ytokcgacehdgkcaa.Eng.A
set_option linter.unusedVariables false
set_option linter.unusedSimpArgs false
open Go.RowKit Go.Proofs.Ytokcgacehdgkcaa.Plain Go.Proofs.Ytokcgacehdgkcaa.Eng Go.Proofs.Ytokcgacehdgkcaa.Eng.Pk Go.Proofs.Ytokcgacehdgkcaa.Eng.Rd




/-! ### No listed variable -/
def S00 : St := ⟨[], [], ⟨fun _ _ _ => True, fun _ _ => trivial⟩⟩
theorem srel00 (w : World) : SRel (G0 w) S00 w :=
  ⟨rfl, fun i j e1 e2 k h1 => by simp [G0] at h1, fun i B hB => by simp [S00] at hB, (fun b id c h => nomatch h), fun b hb => (by
    simp only [G0] at hb
    cases hh : w.heap[b]? with
    | none => rw [hh] at hb; exact absurd rfl hb
    | some o => exact (Array.getElem?_eq_some_iff.1 hh).1), trivial, fun _ _ _ _ _ _ _ _ => trivial, Nat.le_refl _⟩
theorem row_of_ac0 {P : Program} {f : FuncId} {ps : List Pd} {args : List Value} {w : World} {r : Value} (h : AC P f ps S00 (pl r) S00) (hA : Pds (G0 w) w ps args) :
    Calls P f args.toArray w fun e w' => e = .returned r ∧ Go.RowKit.Below w.heap.size w w' := by
  refine (h (G0 w) w args hA (srel00 w)).mono ?_
  rintro e w' ⟨v, g', rfl, hv, hx, _⟩
  rw [show v = r from hv]
  exact ⟨rfl, hx.os, hx.tape, hx.output, hx.size, fun k hk => hx.block k hk hk (fun ⟨i, e, h1, _⟩ => by simp [G0] at h1) rfl⟩
theorem okWide_array {P : Program} {w : World} {r : Reach} {base t n : Nat} {e : TypeId} {v : Value} (ht : P.underlying t = some (.array n e)) (h : Value.okWide P w r base t v) : ∃ cs, v = .agg cs ∧ cs.size = P.cellsOf t := by
  simp only [Value.okWide, ht] at h
  obtain ⟨cs, h1, h2, _⟩ := h
  exact ⟨cs, h1, h2⟩

def W_u8 (x : Int) : Prop := (Lit.int .u8 x).wf = true

theorem open_u8_5 : OpensK Go.Proofs.Try.prog 5 (kI .u8) W_u8 := openk_int Go.Proofs.Try.underlying5

def W_Su8 (x : (List Int)) : Prop := (∀ a ∈ x, W_u8 a) ∧ x.length ≤ maxLen ∧ x.length * Go.Proofs.Try.prog.bytesOf 5 ≤ reachBytes

theorem open_Su8_26 : OpensK Go.Proofs.Try.prog 26 (kR (kI .u8)) W_Su8 := openk_slice Go.Proofs.Try.underlying26 (by kernel_rfl) (by decide) open_u8_5 default

def W_SSu8 (x : (List (List Int))) : Prop := (∀ a ∈ x, W_Su8 a) ∧ x.length ≤ maxLen ∧ x.length * Go.Proofs.Try.prog.bytesOf 26 ≤ reachBytes

theorem open_SSu8_22 : OpensK Go.Proofs.Try.prog 22 (kR (kR (kI .u8))) W_SSu8 := openk_slice Go.Proofs.Try.underlying22 (by kernel_rfl) (by decide) open_Su8_26 default

def W_u64 (x : Int) : Prop := (Lit.int .u64 x).wf = true

theorem open_u64_23 : OpensK Go.Proofs.Try.prog 23 (kI .u64) W_u64 := openk_int Go.Proofs.Try.underlying23

theorem open_A16u64_24 : OpensK Go.Proofs.Try.prog 24 (kV 16 (kI .u64)) (fun x => ∀ a ∈ x.1, W_u64 a) := openk_array Go.Proofs.Try.underlying24 (by kernel_rfl) (by kernel_rfl) open_u64_23

theorem open_A2u8_25 : OpensK Go.Proofs.Try.prog 25 (kV 2 (kI .u8)) (fun x => ∀ a ∈ x.1, W_u8 a) := openk_array Go.Proofs.Try.underlying25 (by kernel_rfl) (by kernel_rfl) open_u8_5


theorem usedW {p1 : { l : List Int // l.length = 16 }} (w1 : ∀ a ∈ p1.1, W_u64 a) : Used p1.1 := ⟨p1.2, fun x hx => by have := w1 x hx; simp [W_u64, Lit.wf, IntKind.min, IntKind.max, IntKind.signed, IntKind.bits] at this; omega⟩
theorem btsW {p0 : List (List Int)} (w0 : W_SSu8 p0) : ∀ l ∈ p0, Bts l := fun l hl x hx => by have := (w0.1 l hl).1 x hx; simp [W_u8, Lit.wf, IntKind.min, IntKind.max, IntKind.signed, IntKind.bits] at this; omega
theorem bts2 {p2 : { l : List Int // l.length = 2 }} (w2 : ∀ a ∈ p2.1, W_u8 a) : Bts p2.1 := fun x hx => by have := w2 x hx; simp [W_u8, Lit.wf, IntKind.min, IntKind.max, IntKind.signed, IntKind.bits] at this; omega
theorem clean22 {p0 : List (List Int)} {p1 : { l : List Int // l.length = 16 }} {p2 : { l : List Int // l.length = 2 }} (w0 : W_SSu8 p0) (w1 : ∀ a ∈ p1.1, W_u64 a) (w2 : ∀ a ∈ p2.1, W_u8 a) : F_sCleanL (p0.length + 3000) p0 p1.1 p2.1 = some true := sCleanL_eq (usedW w1) (btsW w0) p2.2 (bts2 w2) (by omega)
theorem c_sCleanX {p0 : List (List Int)} {p1 : { l : List Int // l.length = 16 }} {p2 : { l : List Int // l.length = 2 }} (w0 : W_SSu8 p0) (w1 : ∀ a ∈ p1.1, W_u64 a) (w2 : ∀ a ∈ p2.1, W_u8 a) (h0 : F_sCleanL (p0.length + 3000) p0 p1.1 p2.1 = some true) : Pure Go.Proofs.Try.prog 3 [sl (kR (kI .u8)) none none p0, agg (flat (kI .u64) p1.1), agg (flat (kI .u8) p2.1)] (pl (.bool true)) := c_sCleanW (usedW w1) (btsW w0) p2.2 (bts2 w2) (by omega) h0
end Go.Proofs.Ytokcgacehdgkcaa.Eng.A
