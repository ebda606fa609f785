/- The engine: structs read and compared. -/
import Derived.Test.YtmnhfpcbfdgbcaaDoorEngR
import Derived.Laws.StructEq
namespace Go.Proofs.YtmnhfpcbfdgbcaaDoor.Eng
set_option linter.unusedVariables false
set_option linter.unusedSimpArgs false
open Go.RowKit
section
variable {P : Program} {e : Env} {s : St} {dst : Option Tmp} {ty : TypeId} {pos : String} {after : Array Edge} {guard : Option (Nat × Bool)}
theorem opD_load_el_aggX {α : Type} {K : Kn α} {l : List α} {i : Nat} {z : α} {t : TypeId} {n : Nat} {x : Operand} {off : Nat} {qs : List Pd} (ht : aggT P t = some true) (hn : sizeT P t = some n) (hx : e.ev x = el K l i off) (hi : l[i]? = some z) (hl : off + n ≤ K.sz) (hq : ((K.cs z).drop off).take n = qs) :
    OpD P ⟨dst, .load t x, ty, pos, after, guard⟩ e s (agg qs) s := by subst hq; exact opD_load_el_agg ht hn hx hi hl
theorem opD_load_aggX {t : TypeId} {n : Nat} {x : Operand} {b off : Nat} {B : Bx} {qs : List Pd} (ht : aggT P t = some true) (hn : sizeT P t = some n) (hx : e.ev x = ptr b off) (hB : s.boxes[b]? = some B) (hl : off + n ≤ B.cs.length) (hq : (B.cs.drop off).take n = qs) :
    OpD P ⟨dst, .load t x, ty, pos, after, guard⟩ e s (agg qs) s := by subst hq; exact opD_load_agg ht hn hx hB hl
theorem agg_plain {us : List Value} {g : G} {w : World} {v : Value} (h : (agg (us.map pl)).h g w v) : v = .agg us.toArray := by
  obtain ⟨cs, hv, hp⟩ := h
  have : ∀ {us vs : List Value}, Pds g w (us.map pl) vs → vs = us := by
    intro us
    induction us with
    | nil => intro vs h; cases vs with
      | nil => rfl
      | cons _ _ => exact h.elim
    | cons u us ih => intro vs h; cases vs with
      | nil => exact h.elim
      | cons v vs => rw [show v = u from h.1, ih h.2]
  rw [hv, ← this hp]
/-- Two structs of plain cells, compared. -/
theorem opD_binA {op : BinOp} {xt yt : TypeId} {x y : Operand} {r : Value} (us vs : List Value) (hx : e.ev x = agg (us.map pl)) (hy : e.ev y = agg (vs.map pl)) (hg : ∀ w, (eqGuard op xt x y (.agg us.toArray) (.agg vs.toArray)).run P w = .ok () w) (hr : ∀ w, (binOp op xt (.agg us.toArray) (.agg vs.toArray)).run P w = .ok r w) :
    OpD P ⟨dst, .binOp op xt x y yt, ty, pos, after, guard⟩ e s (pl r) s :=
  opD_look fun g a w ha _ => by
    have h1 := ha x (by simp [Op.operands])
    have h2 := ha y (by simp [Op.operands])
    rw [hx] at h1
    rw [hy] at h2
    have e1 := agg_plain h1
    have e2 := agg_plain h2
    exact ⟨r, by generalize a.eval = ρ at e1 e2 ⊢; simp [execOp, e1, e2, go_sem, hg, hr], rfl⟩
theorem agg_le' {ps qs : List Pd} (h : LeL ps qs) : (agg ps).le (agg qs) := agg_le h
end

theorem eqf_nil {P : Program} {d : Nat} {xs ys : Array Value} {w : World} : (Op.eqFields d xs ys []).run P w = .ok true w := by simp [Op.eqFields]
theorem eqf_cons {P : Program} {d : Nat} {xs ys : Array Value} {w : World} {f : Field} {fs : List Field} {a b : Value} {r1 r2 : Bool} (hn : (f.name == "_") = false) (ha : (part f.type xs f.offset).run P w = .ok a w) (hb : (part f.type ys f.offset).run P w = .ok b w) (he : (Op.equalIn d f.type a b).run P w = .ok r1 w)
    (hr : (Op.eqFields d xs ys fs).run P w = .ok r2 w) : (Op.eqFields d xs ys (f :: fs)).run P w = .ok (r1 && r2) w := by
  have hn' : f.name ≠ "_" := by simpa using hn
  rw [Op.eqFields, if_pos hn']
  cases r1 <;> simp [Sem.run_bind, ha, hb, he, hr]
theorem eqS {P : Program} {t : TypeId} {fs : Array Field} {xs ys : Array Value} {w : World} {r : Bool} (hu : P.underlying t = some (.struct fs)) (hp : P.stoodInHeld t = false) (h : (Op.eqFields 9999 xs ys fs.toList).run P w = .ok r w) :
    (binOp .eql t (.agg xs) (.agg ys)).run P w = .ok (.bool r) w ∧ (binOp .neq t (.agg xs) (.agg ys)).run P w = .ok (.bool (!r)) w := by
  have hf : P.fieldsOf t = fs := by simp [Program.fieldsOf, hu]
  have h1 := run_equalIn_struct w 9999 t xs ys (by rw [hf]; exact hu) hp
  rw [hf, h] at h1
  refine ⟨?_, ?_⟩
  · rw [run_eql_struct, h1]; rfl
  · rw [run_neq_struct, h1]; rfl
end Go.Proofs.YtmnhfpcbfdgbcaaDoor.Eng
