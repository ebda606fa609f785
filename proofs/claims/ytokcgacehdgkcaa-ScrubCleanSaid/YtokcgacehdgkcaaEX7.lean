/- The engine: objects of several variables. -/
import Derived.Test.YtokcgacehdgkcaaEX6
import Derived.Test.YtokcgacehdgkcaaEX5
namespace Go.Proofs.Ytokcgacehdgkcaa.Eng
set_option linter.unusedVariables false
set_option linter.unusedSimpArgs false
open Go.RowKit

structure UpOk (s s2 : St) : Prop where
  len : s2.boxes.length = s.boxes.length
  fr : s2.fr = s.fr
  stat : s2.stat = s.stat
  bd : ∀ (i : Nat) (B : Bx), s2.boxes[i]? = some B → s.boxes[i]? = some B ∨ ∀ q ∈ B.cs, q.Bnd s.boxes.length s.fr.length
theorem UpOk.refl (s : St) : UpOk s s := ⟨rfl, rfl, rfl, fun _ _ h => .inl h⟩
theorem UpOk.upd {s s2 : St} {g : Nat} {B : Bx} (h : UpOk s s2) (hB : ∀ q ∈ B.cs, q.Bnd s.boxes.length s.fr.length) : UpOk s (s2.upd g B) := by
  refine ⟨by rw [upd_boxes_length]; exact h.len, h.fr, h.stat, fun i C hC => ?_⟩
  by_cases hig : i = g
  · subst hig
    have hi : i < (s2.boxes.set i B).length := (List.getElem?_eq_some_iff.1 hC).1
    rw [List.length_set] at hi
    have h3 : (s2.boxes.set i B)[i]? = some C := hC
    rw [List.getElem?_set_self hi] at h3
    cases h3
    exact .inr hB
  · have h3 : (s2.boxes.set g B)[i]? = some C := hC
    rw [List.getElem?_set_ne (Ne.symm hig)] at h3
    exact h.bd i C h3
end Go.Proofs.Ytokcgacehdgkcaa.Eng

/- The engine: rows in place, as the printer words it. -/
namespace Go.Proofs.Ytokcgacehdgkcaa.Eng
set_option linter.unusedVariables false
set_option linter.unusedSimpArgs false
open Go.RowKit

theorem flat_set1 {α : Type} {k : Kn α} {l : List α} {i : Nat} {x : α} {p : Pd} (h : k.sz = 1) (hp : k.cs x = [p]) : (flat k l).set (i * k.sz) p = flat k (l.set i x) := by rw [h, Nat.mul_one]; exact flat_set h hp l i
section
variable {P : Program} {e : Env} {s : St} {dst : Option Tmp} {ty : TypeId} {pos : String} {after : Array Edge} {guard : Option (Nat × Bool)} {bs bs' : List Bx} {fs : List Fr} {N : Nat}
theorem opD_indexAddr_hx {b r n sz i : Nat} {x ix : Operand} {t te : TypeId} {kk : IntKind} {m : Int} (ht : P.underlying t = some (.slice te)) (hsz : sizeT P te = some sz) (hte : Nat.blt te HOT = true) (hB : ∃ cs, s.boxes[b]? = some ⟨hot te r, cs⟩)
    (hx : e.ev x = hsl b r 0 n sz) (hi : e.ev ix = pl (.int kk m)) (hm : m = (i : Int)) (hl : i < n) : OpD P ⟨dst, .indexAddr t x ix, ty, pos, after, guard⟩ e s (ptv b r (i * sz)) s := by
  obtain ⟨cs, hB⟩ := hB
  exact opD_indexAddr_h ht hsz hte hB hx hi hm hl
theorem storeE1 {α : Type} {k : Kn α} {l : List α} {t : TypeId} {b r i : Nat} {x u : Operand} {y : α} {p : Pd} (hn : sizeT P t = some k.sz) (hte : Nat.blt t HOT = true) (hr : 2 ≤ r) (h1 : k.sz = 1) (hx : e.ev x = ptv b r (i * k.sz)) (hu : e.ev u = p) (hB : s.boxes[b]? = some ⟨hot t r, flat k l⟩) (hi : i < l.length) (hkb : ∀ x n m, ∀ p ∈ k.cs x, p.Bnd n m) (hk : k.cs y = [p]) :
    OpD P ⟨dst, .store t x u, ty, pos, after, guard⟩ e s any (s.upd b ⟨hot t r, flat k (l.set i y)⟩) := by
  have := opD_store1_h (P := P) (dst := dst) (ty := ty) (pos := pos) (after := after) (guard := guard) (t := t) (p := p) (by rw [hn, h1]) hte hr hx (le_of_eq hu) (k.one y p (by rw [hk]; simp)) hB (by have := elem_lt (k := k) hi; omega) (hkb y _ _ p (by rw [hk]; simp))
  rwa [flat_set1 h1 hk] at this
theorem storeE1N (hN : s.boxes.length = N) {α : Type} {k : Kn α} {l : List α} {t : TypeId} {b r i : Nat} {x u : Operand} {y : α} {p : Pd} (hn : sizeT P t = some k.sz) (hte : Nat.blt t HOT = true) (hr : 2 ≤ r) (h1 : k.sz = 1) (hx : e.ev x = ptv (N + b) r (i * k.sz)) (hu : e.ev u = p) (hB : bs[b]? = some ⟨hot t r, flat k l⟩) (hi : i < l.length) (hkb : ∀ x n m, ∀ p ∈ k.cs x, p.Bnd n m) (h' : bs.set b ⟨hot t r, flat k (l.set i y)⟩ = bs') (hk : k.cs y = [p] := by rfl) :
    OpD P ⟨dst, .store t x u, ty, pos, after, guard⟩ e (s.ext bs fs) any (s.ext bs' fs) := by
  subst h'; subst hN
  have := storeE1 (P := P) (dst := dst) (ty := ty) (pos := pos) (after := after) (guard := guard) hn hte hr h1 hx hu (loc_get (fs := fs) hB) hi hkb hk
  rwa [ext_upd_loc] at this
end
end Go.Proofs.Ytokcgacehdgkcaa.Eng

/- The engine: one goes through a map: what is left, and whole functions over a map's entries. -/
namespace Go.Proofs.Ytokcgacehdgkcaa.Eng
set_option linter.unusedVariables false
set_option linter.unusedSimpArgs false
open Go.RowKit

section
variable {P : Program} {e : Env} {s : St} {dst : Option Tmp} {ty : TypeId} {pos : String} {after : Array Edge} {guard : Option (Nat × Bool)} {κ ν : Type} {K : MK κ ν} {bs bs' : List Bx} {fs : List Fr}
end
end Go.Proofs.Ytokcgacehdgkcaa.Eng

/- The engine: entries deleted while one goes through a map; functions with captured variables. -/
namespace Go.Proofs.Ytokcgacehdgkcaa.Eng
set_option linter.unusedVariables false
set_option linter.unusedSimpArgs false
open Go.RowKit

section
variable {P : Program} {e : Env} {s : St} {dst : Option Tmp} {ty : TypeId} {pos : String} {after : Array Edge} {guard : Option (Nat × Bool)} {κ ν : Type} {K : MK κ ν} {bs bs' : List Bx} {fs : List Fr}
end
end Go.Proofs.Ytokcgacehdgkcaa.Eng
namespace Go.Proofs.Ytokcgacehdgkcaa.Eng
set_option linter.unusedVariables false
set_option linter.unusedSimpArgs false
open Go.RowKit
end Go.Proofs.Ytokcgacehdgkcaa.Eng
namespace Go.Proofs.Ytokcgacehdgkcaa.Eng
set_option linter.unusedVariables false
set_option linter.unusedSimpArgs false
open Go.RowKit
end Go.Proofs.Ytokcgacehdgkcaa.Eng
namespace Go.Proofs.Ytokcgacehdgkcaa.Eng
set_option linter.unusedVariables false
set_option linter.unusedSimpArgs false
open Go.RowKit
end Go.Proofs.Ytokcgacehdgkcaa.Eng
namespace Go.Proofs.Ytokcgacehdgkcaa.Eng
set_option linter.unusedVariables false
set_option linter.unusedSimpArgs false
open Go.RowKit
end Go.Proofs.Ytokcgacehdgkcaa.Eng

/- The engine: tests that are known. -/
namespace Go.Proofs.Ytokcgacehdgkcaa.Eng
set_option linter.unusedVariables false
set_option linter.unusedSimpArgs false
open Go.RowKit
end Go.Proofs.Ytokcgacehdgkcaa.Eng
