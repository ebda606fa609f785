/- The engine: objects of several variables. -/
import Derived.Test.YtokcgacehdgkcaaEX7
import Derived.Test.YtokcgacehdgkcaaEX6
namespace Go.Proofs.Ytokcgacehdgkcaa.Eng
set_option linter.unusedVariables false
set_option linter.unusedSimpArgs false
open Go.RowKit
def NeA (g : Nat) : List Nat → Prop
  | [] => True
  | h :: t => g ≠ h ∧ NeA g t
/-- Names of variables: each another one. -/
def UD (n : Nat) : List Nat → Prop
  | [] => True
  | g :: t => g < n ∧ NeA g t ∧ UD n t
theorem NeA.of {g h : Nat} : ∀ {l : List Nat} {k : Nat}, NeA g l → l[k]? = some h → g ≠ h
  | [], k, _, hk => by simp at hk
  | a :: l, 0, hn, hk => by simp at hk; exact hk ▸ hn.1
  | a :: l, k + 1, hn, hk => NeA.of (l := l) (k := k) hn.2 (by simpa using hk)
theorem UD.lt {n g : Nat} : ∀ {l : List Nat} {k : Nat}, UD n l → l[k]? = some g → g < n
  | [], k, _, hk => by simp at hk
  | a :: l, 0, hn, hk => by simp at hk; exact hk ▸ hn.1
  | a :: l, k + 1, hn, hk => UD.lt (l := l) (k := k) hn.2.2 (by simpa using hk)
theorem UD.up {n m : Nat} (h : n ≤ m) : ∀ {l : List Nat}, UD n l → UD m l
  | [], _ => trivial
  | a :: l, hn => ⟨Nat.lt_of_lt_of_le hn.1 h, hn.2.1, UD.up h hn.2.2⟩
end Go.Proofs.Ytokcgacehdgkcaa.Eng
namespace Go.Proofs.Ytokcgacehdgkcaa.Eng
set_option linter.unusedVariables false
set_option linter.unusedSimpArgs false
end Go.Proofs.Ytokcgacehdgkcaa.Eng

/- The engine: maps, told by what each key has. -/
namespace Go.Proofs.Ytokcgacehdgkcaa.Eng
set_option linter.unusedVariables false
set_option linter.unusedSimpArgs false
open Go.RowKit
section
variable {κ ν : Type} [DecidableEq κ]
open Classical in
open Classical in
end
section
variable {P : Program} {e : Env} {s : St} {dst : Option Tmp} {ty : TypeId} {pos : String} {after : Array Edge} {guard : Option (Nat × Bool)} {κ ν : Type} [DecidableEq κ] {K : MK κ ν} {f : κ → Option ν} {bs bs' : List Bx} {fs : List Fr} {b : Nat}
end
end Go.Proofs.Ytokcgacehdgkcaa.Eng

/- The engine: keys of maps; encodings; pointers or none; variables forgotten. -/
namespace Go.Proofs.Ytokcgacehdgkcaa.Eng
set_option linter.unusedVariables false
set_option linter.unusedSimpArgs false
open Go.RowKit
/-! ### Encodings -/
/-! ### A pointer, or none -/
/-! ### Variables that are forgotten -/
def BxK : List Bx → List Bx → Prop
  | [], [] => True
  | B :: bs, C :: cs => B.t = C.t ∧ (C.cs = B.cs ∨ C.cs = []) ∧ BxK bs cs
  | _, _ => False
theorem BxK.length : ∀ {bs cs : List Bx}, BxK bs cs → bs.length = cs.length
  | [], [], _ => rfl
  | _ :: _, _ :: _, ⟨_, _, h⟩ => by simp [BxK.length h]
  | [], _ :: _, h => h.elim
  | _ :: _, [], h => h.elim
theorem BxK.get : ∀ {bs cs : List Bx}, BxK bs cs → ∀ (i : Nat) (C : Bx), cs[i]? = some C → ∃ B, bs[i]? = some B ∧ B.t = C.t ∧ (C.cs = B.cs ∨ C.cs = [])
  | [], [], _, i, C, hC => by simp at hC
  | B :: _, C :: _, ⟨h1, h2, h3⟩, i, D, hD => by
    cases i with
    | zero => simp at hD; subst hD; exact ⟨B, rfl, h1, h2⟩
    | succ i => simp at hD; simpa using BxK.get h3 i D hD
  | [], _ :: _, h, _, _, _ => h.elim
  | _ :: _, [], h, _, _, _ => h.elim
end Go.Proofs.Ytokcgacehdgkcaa.Eng

/- The engine: a row that was made, to be written in place. -/
namespace Go.Proofs.Ytokcgacehdgkcaa.Eng
set_option linter.unusedVariables false
set_option linter.unusedSimpArgs false
open Go.RowKit
section
variable {P : Program} {e : Env} {s : St} {dst : Option Tmp} {ty : TypeId} {pos : String} {after : Array Edge} {guard : Option (Nat × Bool)} {bs bs' : List Bx} {fs fs' : List Fr} {N : Nat}
theorem opD_makeH {α : Type} {k : Kn α} {x0 : α} {t te : TypeId} {x y : Operand} {k1 k2 : IntKind} {i1 i2 : Int} {n by_ : Nat} {z : Value} (ht : P.underlying t = some (.slice te)) (hel : elT P te = some (1, by_)) (hz : zeroT P te = some [z]) (hte : Nat.blt te HOT = true) (hk1 : k.sz = 1) (hk : k.cs x0 = [pl z])
    (hx : e.ev x = pl (.int k1 i1)) (hy : e.ev y = pl (.int k2 i2)) (h1 : i1 = (n : Int)) (h2 : i2 = (n : Int)) (hb : n * by_ ≤ 140737488355328) (hb2 : n ≤ 140737488355328) :
    OpD P ⟨dst, .makeSlice t x y, ty, pos, after, guard⟩ e s (hsl s.boxes.length 2 0 (List.replicate n x0).length k.sz) ⟨s.boxes ++ [⟨hot te 2, flat k (List.replicate n x0)⟩], s.fr, s.stat⟩ :=
  opD_value fun g a w ha hs => by
    subst h1; subst h2
    have e1 : a.eval x = .int k1 n := by have := ha x (by simp [Op.operands]); rw [hx] at this; exact this
    have e2 : a.eval y = .int k2 n := by have := ha y (by simp [Op.operands]); rw [hy] at this; exact this
    obtain ⟨i, z', hi, hzz, hzs, hsz, hby⟩ := elT_spec hel
    have hzc : z'.cells = #[z] := by
      unfold zeroT at hz
      rw [hi] at hz
      simp only [Option.bind_some, hzz, Option.map_some, Option.some.injEq] at hz
      exact Array.toList_inj.1 hz
    have hbig : (i.bytes : Int) * (n : Int) ≤ 281474976710656 := by
      have h3 : (by_ : Int) * (n : Int) = ((n * by_ : Nat) : Int) := by rw [Int.natCast_mul, Int.mul_comm]
      rw [hby, h3]; omega
    have hrun := run_make (P := P) w t te i z' ht hi hzz k1 k2 (n : Int) (n : Int) (by omega) (Int.le_refl _) hbig (by omega)
    simp only [Int.toNat_natCast] at hrun
    have hcells : (madeCells z'.cells (n * i.size)).toList = List.replicate n z := by rw [hzc, hsz, Nat.mul_one]; exact toList_madeCells_one z n
    have hcsz : (madeCells z'.cells (n * i.size)).size = n := by rw [← Array.length_toList, hcells, List.length_replicate]
    generalize madeCells z'.cells (n * i.size) = cs at hrun hcells hcsz
    have hv : (⟨hot te 2, flat k (List.replicate n x0)⟩ : Bx).ver = 2 := hot_ver hte
    have hp : PdsP g w (flat k (List.replicate n x0)) cs.toList := by
      rw [flat_rep hk, hcells]
      have h0 := pds_pl g w (List.replicate n z)
      rw [List.map_replicate] at h0
      exact h0.pre
    have hS : SRel (g.addBE ⟨some w.heap.size, 2, n⟩) ⟨s.boxes ++ [⟨hot te 2, flat k (List.replicate n x0)⟩], s.fr, s.stat⟩ (w.alloc (.cells cs te)) := by
      have h0 := srel_addBE hs (B := ⟨hot te 2, flat k (List.replicate n x0)⟩) (cs := cs) (e := ⟨some w.heap.size, 2, n⟩) rfl hv.symm (fun _ => hcsz) hp (by
        show ∀ p ∈ flat k (List.replicate n x0), _
        rw [flat_rep hk]
        intro p hp
        rw [(List.mem_replicate.1 hp).2]; exact pl_bnd _ _ _)
      rw [hot_obj hte (Nat.le_refl 2)] at h0
      exact h0
    have hP : (hsl s.boxes.length 2 0 (List.replicate n x0).length k.sz).h (g.addBE ⟨some w.heap.size, 2, n⟩) (w.alloc (.cells cs te)) (.slice (some ⟨w.heap.size, 0, none⟩) n n) := by
      have hget : (g.addBE ⟨some w.heap.size, 2, n⟩).box[s.boxes.length]? = some ⟨some w.heap.size, 2, n⟩ := by
        show (g.box ++ [_])[s.boxes.length]? = _
        rw [← hs.len]; simp
      refine ⟨_, some ⟨w.heap.size, 0, none⟩, n, hget, Nat.le_refl 2, by rw [List.length_replicate], by simp, (fun h => by cases h), fun _ => Or.inr ⟨w.heap.size, rfl, rfl, ?_⟩⟩
      rw [hk1]; simp
    refine ⟨_, _, _, ?_, hP, ext_addBE hs _ _ rfl, hS⟩
    show (Sem.bind (Instr.makeSlice t (a.eval x) (a.eval y)) fun v => Sem.pure (Next.value v)).run P w = _
    rw [e1, e2]
    exact run_v hrun
theorem makeHN (hN : s.boxes.length = N) {α : Type} {k : Kn α} {x0 : α} {t te : TypeId} {x y : Operand} {k1 k2 : IntKind} {i1 i2 : Int} {n m by_ : Nat} {z : Value} (ht : P.underlying t = some (.slice te)) (hel : elT P te = some (1, by_)) (hz : zeroT P te = some [z]) (hte : Nat.blt te HOT = true) (hk1 : k.sz = 1) (hk : k.cs x0 = [pl z])
    (hx : e.ev x = pl (.int k1 i1)) (hy : e.ev y = pl (.int k2 i2)) (h1 : i1 = (n : Int)) (h2 : i2 = (n : Int)) (hb : n * by_ ≤ 140737488355328) (hb2 : n ≤ 140737488355328) (hn : bs.length = m) (h' : bs ++ [⟨hot te 2, flat k (List.replicate n x0)⟩] = bs') :
    OpD P ⟨dst, .makeSlice t x y, ty, pos, after, guard⟩ e (s.ext bs fs) (hsl (N + m) 2 0 (List.replicate n x0).length k.sz) (s.ext bs' fs) := by
  subst hN; subst hn; subst h'
  have := opD_makeH (P := P) (e := e) (s := s.ext bs fs) (k := k) (dst := dst) (ty := ty) (pos := pos) (after := after) (guard := guard) ht hel hz hte hk1 hk hx hy h1 h2 hb hb2
  rw [ext_boxes_length] at this
  simpa [St.ext] using this
end
end Go.Proofs.Ytokcgacehdgkcaa.Eng
