/- The engine: objects of several variables. -/
import Derived.Test.YtokcgacehdgkcaaGreatDoorEX7
import Derived.Test.YtokcgacehdgkcaaGreatDoorEX6
namespace Go.Proofs.YtokcgacehdgkcaaGreatDoor.Eng
set_option linter.unusedVariables false
set_option linter.unusedSimpArgs false
open Go.RowKit
def NeA (g : Nat) : List Nat → Prop
  | [] => True
  | h :: t => g ≠ h ∧ NeA g t
/-- Names of variables: each another one. -/
def UD (n : Nat) : List Nat → Prop
  | [] => True
  | g :: t => g < n ∧ NeA g t ∧ UD n t
theorem NeA.of {g h : Nat} : ∀ {l : List Nat} {k : Nat}, NeA g l → l[k]? = some h → g ≠ h
  | [], k, _, hk => by simp at hk
  | a :: l, 0, hn, hk => by simp at hk; exact hk ▸ hn.1
  | a :: l, k + 1, hn, hk => NeA.of (l := l) (k := k) hn.2 (by simpa using hk)
theorem UD.lt {n g : Nat} : ∀ {l : List Nat} {k : Nat}, UD n l → l[k]? = some g → g < n
  | [], k, _, hk => by simp at hk
  | a :: l, 0, hn, hk => by simp at hk; exact hk ▸ hn.1
  | a :: l, k + 1, hn, hk => UD.lt (l := l) (k := k) hn.2.2 (by simpa using hk)
theorem UD.up {n m : Nat} (h : n ≤ m) : ∀ {l : List Nat}, UD n l → UD m l
  | [], _ => trivial
  | a :: l, hn => ⟨Nat.lt_of_lt_of_le hn.1 h, hn.2.1, UD.up h hn.2.2⟩
end Go.Proofs.YtokcgacehdgkcaaGreatDoor.Eng
namespace Go.Proofs.YtokcgacehdgkcaaGreatDoor.Eng
set_option linter.unusedVariables false
set_option linter.unusedSimpArgs false
end Go.Proofs.YtokcgacehdgkcaaGreatDoor.Eng

/- The engine: maps, told by what each key has. -/
namespace Go.Proofs.YtokcgacehdgkcaaGreatDoor.Eng
set_option linter.unusedVariables false
set_option linter.unusedSimpArgs false
open Go.RowKit
section
variable {κ ν : Type} [DecidableEq κ]
open Classical in
open Classical in
end
section
variable {P : Program} {e : Env} {s : St} {dst : Option Tmp} {ty : TypeId} {pos : String} {after : Array Edge} {guard : Option (Nat × Bool)} {κ ν : Type} [DecidableEq κ] {K : MK κ ν} {f : κ → Option ν} {bs bs' : List Bx} {fs : List Fr} {b : Nat}
end
end Go.Proofs.YtokcgacehdgkcaaGreatDoor.Eng

/- The engine: keys of maps; encodings; pointers or none; variables forgotten. -/
namespace Go.Proofs.YtokcgacehdgkcaaGreatDoor.Eng
set_option linter.unusedVariables false
set_option linter.unusedSimpArgs false
open Go.RowKit
/-! ### Encodings -/
/-! ### A pointer, or none -/
/-! ### Variables that are forgotten -/
def BxK : List Bx → List Bx → Prop
  | [], [] => True
  | B :: bs, C :: cs => B.t = C.t ∧ (C.cs = B.cs ∨ C.cs = []) ∧ BxK bs cs
  | _, _ => False
theorem BxK.length : ∀ {bs cs : List Bx}, BxK bs cs → bs.length = cs.length
  | [], [], _ => rfl
  | _ :: _, _ :: _, ⟨_, _, h⟩ => by simp [BxK.length h]
  | [], _ :: _, h => h.elim
  | _ :: _, [], h => h.elim
theorem BxK.get : ∀ {bs cs : List Bx}, BxK bs cs → ∀ (i : Nat) (C : Bx), cs[i]? = some C → ∃ B, bs[i]? = some B ∧ B.t = C.t ∧ (C.cs = B.cs ∨ C.cs = [])
  | [], [], _, i, C, hC => by simp at hC
  | B :: _, C :: _, ⟨h1, h2, h3⟩, i, D, hD => by
    cases i with
    | zero => simp at hD; subst hD; exact ⟨B, rfl, h1, h2⟩
    | succ i => simp at hD; simpa using BxK.get h3 i D hD
  | [], _ :: _, h, _, _, _ => h.elim
  | _ :: _, [], h, _, _, _ => h.elim
end Go.Proofs.YtokcgacehdgkcaaGreatDoor.Eng

/- The engine: a row that was made, to be written in place. -/
namespace Go.Proofs.YtokcgacehdgkcaaGreatDoor.Eng
set_option linter.unusedVariables false
set_option linter.unusedSimpArgs false
open Go.RowKit
end Go.Proofs.YtokcgacehdgkcaaGreatDoor.Eng
