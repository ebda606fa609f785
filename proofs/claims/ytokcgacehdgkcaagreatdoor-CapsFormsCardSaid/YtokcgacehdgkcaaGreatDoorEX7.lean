/- The engine: objects of several variables. -/
import Derived.Test.YtokcgacehdgkcaaGreatDoorEX6
import Derived.Test.YtokcgacehdgkcaaGreatDoorEX5
namespace Go.Proofs.YtokcgacehdgkcaaGreatDoor.Eng
set_option linter.unusedVariables false
set_option linter.unusedSimpArgs false
open Go.RowKit

structure UpOk (s s2 : St) : Prop where
  len : s2.boxes.length = s.boxes.length
  fr : s2.fr = s.fr
  stat : s2.stat = s.stat
  bd : ∀ (i : Nat) (B : Bx), s2.boxes[i]? = some B → s.boxes[i]? = some B ∨ ∀ q ∈ B.cs, q.Bnd s.boxes.length s.fr.length
theorem UpOk.refl (s : St) : UpOk s s := ⟨rfl, rfl, rfl, fun _ _ h => .inl h⟩
theorem UpOk.upd {s s2 : St} {g : Nat} {B : Bx} (h : UpOk s s2) (hB : ∀ q ∈ B.cs, q.Bnd s.boxes.length s.fr.length) : UpOk s (s2.upd g B) := by
  refine ⟨by rw [upd_boxes_length]; exact h.len, h.fr, h.stat, fun i C hC => ?_⟩
  by_cases hig : i = g
  · subst hig
    have hi : i < (s2.boxes.set i B).length := (List.getElem?_eq_some_iff.1 hC).1
    rw [List.length_set] at hi
    have h3 : (s2.boxes.set i B)[i]? = some C := hC
    rw [List.getElem?_set_self hi] at h3
    cases h3
    exact .inr hB
  · have h3 : (s2.boxes.set g B)[i]? = some C := hC
    rw [List.getElem?_set_ne (Ne.symm hig)] at h3
    exact h.bd i C h3
end Go.Proofs.YtokcgacehdgkcaaGreatDoor.Eng

/- The engine: rows in place, as the printer words it. -/
namespace Go.Proofs.YtokcgacehdgkcaaGreatDoor.Eng
set_option linter.unusedVariables false
set_option linter.unusedSimpArgs false
open Go.RowKit

end Go.Proofs.YtokcgacehdgkcaaGreatDoor.Eng

/- The engine: one goes through a map: what is left, and whole functions over a map's entries. -/
namespace Go.Proofs.YtokcgacehdgkcaaGreatDoor.Eng
set_option linter.unusedVariables false
set_option linter.unusedSimpArgs false
open Go.RowKit

section
variable {P : Program} {e : Env} {s : St} {dst : Option Tmp} {ty : TypeId} {pos : String} {after : Array Edge} {guard : Option (Nat × Bool)} {κ ν : Type} {K : MK κ ν} {bs bs' : List Bx} {fs : List Fr}
end
end Go.Proofs.YtokcgacehdgkcaaGreatDoor.Eng

/- The engine: entries deleted while one goes through a map; functions with captured variables. -/
namespace Go.Proofs.YtokcgacehdgkcaaGreatDoor.Eng
set_option linter.unusedVariables false
set_option linter.unusedSimpArgs false
open Go.RowKit

section
variable {P : Program} {e : Env} {s : St} {dst : Option Tmp} {ty : TypeId} {pos : String} {after : Array Edge} {guard : Option (Nat × Bool)} {κ ν : Type} {K : MK κ ν} {bs bs' : List Bx} {fs : List Fr}
end
end Go.Proofs.YtokcgacehdgkcaaGreatDoor.Eng
namespace Go.Proofs.YtokcgacehdgkcaaGreatDoor.Eng
set_option linter.unusedVariables false
set_option linter.unusedSimpArgs false
open Go.RowKit
end Go.Proofs.YtokcgacehdgkcaaGreatDoor.Eng
namespace Go.Proofs.YtokcgacehdgkcaaGreatDoor.Eng
set_option linter.unusedVariables false
set_option linter.unusedSimpArgs false
open Go.RowKit
end Go.Proofs.YtokcgacehdgkcaaGreatDoor.Eng
namespace Go.Proofs.YtokcgacehdgkcaaGreatDoor.Eng
set_option linter.unusedVariables false
set_option linter.unusedSimpArgs false
open Go.RowKit
theorem UpOk.upd_upd {s : St} {g : Nat} {A B : Bx} (h : UpOk (s.upd g A) (s.upd g A)) (hB : ∀ q ∈ B.cs, q.Bnd s.boxes.length s.fr.length) : UpOk (s.upd g A) (s.upd g B) := by
  have := (UpOk.refl (s.upd g A)).upd (g := g) (B := B) (by rw [upd_boxes_length]; exact hB)
  rwa [Go.Proofs.YtokcgacehdgkcaaGreatDoor.Eng.upd_upd] at this
end Go.Proofs.YtokcgacehdgkcaaGreatDoor.Eng
namespace Go.Proofs.YtokcgacehdgkcaaGreatDoor.Eng
set_option linter.unusedVariables false
set_option linter.unusedSimpArgs false
open Go.RowKit
end Go.Proofs.YtokcgacehdgkcaaGreatDoor.Eng

/- The engine: tests that are known. -/
namespace Go.Proofs.YtokcgacehdgkcaaGreatDoor.Eng
set_option linter.unusedVariables false
set_option linter.unusedSimpArgs false
open Go.RowKit
end Go.Proofs.YtokcgacehdgkcaaGreatDoor.Eng
