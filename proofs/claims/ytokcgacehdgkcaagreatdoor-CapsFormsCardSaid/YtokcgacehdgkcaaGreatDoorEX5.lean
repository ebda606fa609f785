/- The engine: the orders of a drawn region, told apart. -/
import Derived.Test.YtokcgacehdgkcaaGreatDoorEngX4
namespace Go.Proofs.YtokcgacehdgkcaaGreatDoor.Eng
open Go Go.RowKit
set_option linter.unusedVariables false
set_option linter.unusedSimpArgs false

/-! ### Two regions alike but for their edges and the order in which they are written -/
/-! ### One more edge -/
/-! ### Two neighbours in the other order -/
/-! ### At the level of a walk -/
end Go.Proofs.YtokcgacehdgkcaaGreatDoor.Eng

/- The engine: rows that are written in place. They lie in a box that has a version. -/
namespace Go.Proofs.YtokcgacehdgkcaaGreatDoor.Eng
open Go.RowKit

/-- A slice of the cells of a box: the box's version, where it begins, how many, and how many cells an element has. -/
def hsl (b r off n sz : Nat) : Pd := ⟨fun g _ v => ∃ e A c, g.box[b]? = some e ∧ r ≤ e.ver ∧ v = .slice A n c ∧ n ≤ c ∧ (A = none → c = 0) ∧ (e.ver = r → (e.blk = none ∧ c = 0) ∨ ∃ k, e.blk = some k ∧ A = some ⟨k, off, none⟩ ∧ off + c * sz = e.cnt), by
  rintro g w g' w' v hx ⟨e, A, c, h1, h2, h3, h4, h5, h6⟩
  obtain ⟨e', q1, q2, q3⟩ := hx.box b e h1
  refine ⟨e', A, c, q1, Nat.le_trans h2 q2, h3, h4, h5, fun h => ?_⟩
  have : e.ver = e'.ver := by omega
  have q4 := q3 this
  subst q4
  exact h6 h⟩
section
variable {P : Program} {e : Env} {s : St} {dst : Option Tmp} {ty : TypeId} {pos : String} {after : Array Edge} {guard : Option (Nat × Bool)} {bs bs' : List Bx} {fs fs' : List Fr}

end

section
variable {P : Program} {e : Env} {s : St} {dst : Option Tmp} {ty : TypeId} {pos : String} {after : Array Edge} {guard : Option (Nat × Bool)} {bs bs' : List Bx} {fs fs' : List Fr}
theorem flatKB {α : Type} {k : Kn α} {l : List α} {n m : Nat} (hkb : ∀ x n m, ∀ p ∈ k.cs x, p.Bnd n m) : ∀ p ∈ flat k l, p.Bnd n m := fun p hp => by
  simp only [flat, List.mem_flatMap] at hp
  obtain ⟨x, _, hx⟩ := hp
  exact hkb x n m p hx
end

/-! ### Sealed: from here on nobody writes it -/
def SealOk {α : Type} (k : Kn α) (l : List α) (b r : Nat) (p q : Pd) : Prop :=
  ∀ g w v, (∃ e, g.box[b]? = some e ∧ e.ver = r ∧ (∀ kk, e.blk = some kk → SlCells k l g w kk 0) ∧ (l ≠ [] → e.blk ≠ none)) → p.h g w v → q.h g w v
theorem seal_same {α : Type} {k : Kn α} {l : List α} {b r : Nat} (p : Pd) : SealOk k l b r p p := fun _ _ _ _ h => h
def SealL {α : Type} (k : Kn α) (l : List α) (b r : Nat) : List Pd → List Pd → Prop
  | [], [] => True
  | p :: ps, q :: qs => SealOk k l b r p q ∧ SealL k l b r ps qs
  | _, _ => False
theorem SealL.refl {α : Type} {k : Kn α} {l : List α} {b r : Nat} : ∀ ps : List Pd, SealL k l b r ps ps
  | [] => trivial
  | p :: ps => ⟨seal_same p, SealL.refl ps⟩
theorem SealL.len {α : Type} {k : Kn α} {l : List α} {b r : Nat} : ∀ {ps qs : List Pd}, SealL k l b r ps qs → ps.length = qs.length
  | [], [], _ => rfl
  | _ :: _, _ :: _, h => by simp [SealL.len h.2]
  | [], _ :: _, h => h.elim
  | _ :: _, [], h => h.elim
theorem SealL.pds {α : Type} {k : Kn α} {l : List α} {b r : Nat} {g : G} {w : World} (hs : ∃ e, g.box[b]? = some e ∧ e.ver = r ∧ (∀ kk, e.blk = some kk → SlCells k l g w kk 0) ∧ (l ≠ [] → e.blk ≠ none)) : ∀ {ps qs : List Pd} {vs : List Value}, SealL k l b r ps qs → Pds g w ps vs → Pds g w qs vs
  | [], [], [], _, h => h
  | _ :: _, _ :: _, _ :: _, ⟨h1, h2⟩, ⟨h3, h4⟩ => ⟨h1 _ _ _ hs h3, SealL.pds hs h2 h4⟩
  | [], [], _ :: _, _, h => h.elim
  | _ :: _, _ :: _, [], _, h => h.elim
  | [], _ :: _, _, h, _ => h.elim
  | _ :: _, [], _, h, _ => h.elim
def SealBs {α : Type} (k : Kn α) (l : List α) (b r : Nat) : Nat → List Bx → List Bx → Prop
  | _, [], [] => True
  | 0, B :: bs, C :: cs => C = ⟨B.t + HOT, []⟩ ∧ B.cs = flat k l ∧ SealBs k l b r (bs.length + 1) bs cs
  | n + 1, B :: bs, C :: cs => B.t = C.t ∧ SealL k l b r B.cs C.cs ∧ SealBs k l b r n bs cs
  | _, _, _ => False
theorem SealBs.len {α : Type} {k : Kn α} {l : List α} {b r : Nat} : ∀ {n : Nat} {bs cs : List Bx}, SealBs k l b r n bs cs → bs.length = cs.length
  | _, [], [], _ => rfl
  | 0, _ :: _, _ :: _, h => by simp [SealBs.len h.2.2]
  | _ + 1, _ :: _, _ :: _, h => by simp [SealBs.len h.2.2]
  | _, [], _ :: _, h => by cases ‹Nat› <;> exact h.elim
  | 0, _ :: _, [], h => h.elim
  | _ + 1, _ :: _, [], h => h.elim
theorem SealBs.get {α : Type} {k : Kn α} {l : List α} {b r : Nat} : ∀ {n : Nat} {bs cs : List Bx}, SealBs k l b r n bs cs → ∀ (j : Nat) (C : Bx), cs[j]? = some C → ∃ B, bs[j]? = some B ∧ (j = n ∧ C = ⟨B.t + HOT, []⟩ ∧ B.cs = flat k l ∨ j ≠ n ∧ B.t = C.t ∧ SealL k l b r B.cs C.cs)
  | _, [], [], _, j, C, hC => by simp at hC
  | 0, B :: bs, D :: cs, h, 0, C, hC => by simp at hC; subst hC; exact ⟨B, rfl, .inl ⟨rfl, h.1, h.2.1⟩⟩
  | 0, B :: bs, D :: cs, h, j + 1, C, hC => by
    simp at hC
    obtain ⟨B', h1, h2 | h2⟩ := SealBs.get h.2.2 j C hC
    · have := (List.getElem?_eq_some_iff.1 h1).1; omega
    · exact ⟨B', by simpa using h1, .inr ⟨by omega, h2.2⟩⟩
  | n + 1, B :: bs, D :: cs, h, 0, C, hC => by simp at hC; subst hC; exact ⟨B, rfl, .inr ⟨by omega, h.1, h.2.1⟩⟩
  | n + 1, B :: bs, D :: cs, h, j + 1, C, hC => by
    simp at hC
    obtain ⟨B', h1, h2 | h2⟩ := SealBs.get h.2.2 j C hC
    · exact ⟨B', by simpa using h1, .inl ⟨by omega, h2.2⟩⟩
    · exact ⟨B', by simpa using h1, .inr ⟨by omega, h2.2⟩⟩
  | n, [], _ :: _, h, _, _, _ => by cases n <;> exact h.elim
  | 0, _ :: _, [], h, _, _, _ => h.elim
  | _ + 1, _ :: _, [], h, _, _, _ => h.elim
def SealE {α : Type} (k : Kn α) (l : List α) (b r : Nat) (e : Env) : List (Nat × Pd) → Prop
  | [] => True
  | (t, q) :: r' => SealOk k l b r (e t) q ∧ SealE k l b r e r'
theorem SealE.of {α : Type} {k : Kn α} {l : List α} {b r : Nat} {e : Env} {g : G} {w : World} {tm : Nat → Value} (hs : ∃ e, g.box[b]? = some e ∧ e.ver = r ∧ (∀ kk, e.blk = some kk → SlCells k l g w kk 0) ∧ (l ≠ [] → e.blk ≠ none)) (he : ∀ t, (e t).h g w (tm t)) : ∀ {L : List (Nat × Pd)}, SealE k l b r e L → ∀ t, (Env.of L t).h g w (tm t)
  | [], _, t => by rw [of_nil]; trivial
  | (u, q) :: L, h, t => by
    by_cases htu : t = u
    · subst htu; rw [of_same]; exact h.1 g w _ hs (he t)
    · rw [of_ne _ _ _ _ htu]; exact SealE.of hs he h.2 t

end Go.Proofs.YtokcgacehdgkcaaGreatDoor.Eng

/- The engine: rows in place: more operations. -/
namespace Go.Proofs.YtokcgacehdgkcaaGreatDoor.Eng
open Go.RowKit

section
variable {P : Program} {e : Env} {s : St} {N : Nat} {dst : Option Tmp} {ty : TypeId} {pos : String} {after : Array Edge} {guard : Option (Nat × Bool)} {bs bs' : List Bx} {fs fs' : List Fr}

theorem ones_flat {α : Type} {k : Kn α} {l : List α} : ∀ p ∈ flat k l, p.One := fun p hp => by
  simp only [flat, List.mem_flatMap] at hp
  obtain ⟨x, _, hx⟩ := hp
  exact k.one x p hx
/-! ### Slices of a row in place -/
/-! ### A row of the caller's -/
end
end Go.Proofs.YtokcgacehdgkcaaGreatDoor.Eng

/- The engine: arrays. -/
namespace Go.Proofs.YtokcgacehdgkcaaGreatDoor.Eng
open Go.RowKit Go.ChangeShapes Go.WideShapes

theorem flat_at {α : Type} {k : Kn α} (h : k.sz = 1) {l : List α} {i : Nat} {x : α} {p : Pd} (hx : l[i]? = some x) (hp : k.cs x = [p]) : (flat k l)[i * 1]? = some p := by
  have := flat_get k l i 0 (by omega)
  rw [h, Nat.add_zero, hx] at this
  rw [this]
  simp [hp]
theorem flat_at0 {α : Type} {k : Kn α} (h : k.sz = 1) {l : List α} {i : Nat} {x : α} {p : Pd} (hx : l[i]? = some x) (hp : k.cs x = [p]) : (flat k l)[0 + i * 1]? = some p := by
  rw [Nat.zero_add]; exact flat_at h hx hp
section
variable {P : Program} {e : Env} {s : St} {N : Nat} {dst : Option Tmp} {ty : TypeId} {pos : String} {after : Array Edge} {guard : Option (Nat × Bool)} {bs bs' : List Bx} {fs fs' : List Fr}
theorem boxFN (hN : s.boxes.length = N) {α : Type} {k : Kn α} {l : List α} {t : TypeId} {x : Operand} {ps : List Pd} {n : Nat} (hx : e.ev x = agg ps) (hps : ps = flat k l) (hkb : KB k) (hn : bs.length = n) (h' : bs ++ [⟨t, flat k l⟩] = bs') (hT : Nat.blt t HOT = true := by rfl) :
    OpD P ⟨dst, .box t x, ty, pos, after, guard⟩ e (s.ext bs fs) (ptr (N + n) 0) (s.ext bs' fs) := by
  subst hps
  exact boxAN (hT := hT) hN hx (flatKB hkb) hn h'
theorem nat_ix {α : Type} {l : List α} {n : Nat} {x : α} (h : l[((n : Nat) : Int).toNat]? = some x) : l[n]? = some x := by simpa using h
end

/-! ### An array as an argument -/
end Go.Proofs.YtokcgacehdgkcaaGreatDoor.Eng
