/- The engine: maps that are read, ranges over them; arrays as slices, slices as arrays; arrays compared. -/
import Derived.Test.YtokcgacehdgkcaaDoorEX8
import Derived.Test.YtokcgacehdgkcaaDoorEX9
import Derived.ChangeKeysEq
import Derived.Sort.Row
import Derived.Test.YtokcgacehdgkcaaDoorEngX3
import Derived.Below
namespace Go.Proofs.YtokcgacehdgkcaaDoor.Eng
set_option linter.unusedVariables false
set_option linter.unusedSimpArgs false
open Go.RowKit
/-! ### Maps that are read -/
def Pd.and (p q : Pd) : Pd := ⟨fun g w v => p.h g w v ∧ q.h g w v, fun hx ⟨a, b⟩ => ⟨p.mono0 hx a, q.mono0 hx b⟩⟩
section
variable {P : Program} {e : Env} {s : St} {dst : Option Tmp} {ty : TypeId} {pos : String} {after : Array Edge} {guard : Option (Nat × Bool)} {κ ν : Type} [DecidableEq κ] {K : MK κ ν} {f : κ → Option ν} {bs bs' : List Bx} {fs : List Fr} {b : Nat} {M : Pd}
/-! ### Ranges -/
end
/-! ### Loops over entries -/
section
variable {κ ν : Type} {ls : List ((κ × ν) × Nat)} {sn : List Nat} {c : Nat}
/-- The entries that have not come. -/
def rest (ls : List ((κ × ν) × Nat)) (sn : List Nat) : List (κ × ν) := (ls.filter fun y => decide (y.2 ∉ sn)).map (·.1)
variable {T O : Type} {body : Option (κ × ν) → T → Option (T ⊕ O)} {t : T} {o : O}
variable {Rr : Type} {k : O → Option Rr} {R : Rr}
end
/-! ### An array's variable as a slice: it is sealed -/
/-! ### Arrays compared -/
/-! ### The end of a piece that changes objects -/
end Go.Proofs.YtokcgacehdgkcaaDoor.Eng

/- The engine: slices.Sort on a row in place; a map's clone. -/
namespace Go.Proofs.YtokcgacehdgkcaaDoor.Eng
set_option linter.unusedVariables false
set_option linter.unusedSimpArgs false
open Go.RowKit Go.Sort
end Go.Proofs.YtokcgacehdgkcaaDoor.Eng

/- The engine: calls that leave all that there was as it was (off the kit's shelf); errors that are none of the program's; several listed variables. -/
namespace Go.Proofs.YtokcgacehdgkcaaDoor.Eng
set_option linter.unusedVariables false
set_option linter.unusedSimpArgs false
open Go.RowKit Go.Sort

theorem ext_below {g : G} {s : St} {w w' : World} (hs : SRel g s w) (hb : Go.RowKit.Below w.heap.size w w') : Ext g w g w' :=
  ⟨hb.os, hb.tape, hb.output, hb.size, fun _ => Nat.le_refl _, fun b o ho => World.cell?_of_block (w := w) (hb.block b (hs.sl b (by omega))), fun _ e h => ⟨e, h, Nat.le_refl _, fun _ => rfl⟩, fun _ h => .inl h, fun _ _ h => h, fun _ _ h => .inl h, fun b _ hb2 _ _ => hb.block b hb2, rfl, fun b o h _ _ => (hb.block b (Array.getElem?_eq_some_iff.1 h).1).trans h⟩
theorem srel_below {g : G} {s : St} {w w' : World} (hs : SRel g s w) (hb : Go.RowKit.Below w.heap.size w w') : SRel g s w' :=
  have hx := ext_below hs hb
  ⟨hs.len, hs.nd, fun i B hB => by
    obtain ⟨e, vs, h1, h2, h3, h4, h5⟩ := hs.bx i B hB
    exact ⟨e, vs, h1, h2, h3.to fun k _ hl => hb.block k hl, h4.mono hx, h5⟩, fun b id c ho => by
    obtain ⟨f, cs, h1, h2, h3⟩ := hs.ow b id c ho
    exact ⟨f, cs, h1, (hb.block b (Array.getElem?_eq_some_iff.1 h2).1).trans h2, h3⟩, fun b hn => Nat.lt_of_lt_of_le (hs.sl b hn) hx.size, s.stat.mono hx hs.st, hs.sb, Nat.le_trans hs.bz hx.size⟩

/-- A call that leaves all that there was as it was. -/
theorem ac_below {P : Program} {f : FuncId} {ps : List Pd} {s : St} {p : Pd}
    (h : ∀ (g : G) (w : World) (vs : List Value), Pds g w ps vs → SRel g s w → Calls P f vs.toArray w fun e w' => ∃ v, e = .returned v ∧ p.h g w' v ∧ Go.RowKit.Below w.heap.size w w') : AC P f ps s p s := by
  intro g w vs hp hs
  refine (h g w vs hp hs).mono ?_
  rintro e w' ⟨v, rfl, hv, hb⟩
  exact ⟨v, g, rfl, hv, ext_below hs hb, srel_below hs hb⟩
theorem below_drewN (w : World) : ∀ n, Go.RowKit.Below w.heap.size w (w.drewN n) := fun n => ⟨rfl, rfl, rfl, Nat.le_refl _, fun _ _ => rfl⟩
theorem below_grow (w : World) (n : Nat) (os : Array Obj) : Go.RowKit.Below w.heap.size w (grow (w.drewN n) os) :=
  ⟨rfl, rfl, rfl, by simp [grow], fun b hb => by
    show (w.heap ++ os)[b]? = _
    rw [Array.getElem?_append_left hb]⟩

/-- An error of whatever kind, or none. -/
def errA (b : Bool) : Pd := ⟨fun _ _ v => (b = false → v = .nilIface) ∧ (b = true → ∃ t p, v = .iface t p), fun _ h => h⟩
theorem opD_errA_neq {P : Program} {e : Env} {s : St} {dst pos after guard} {xt yt ty : TypeId} {x y : Operand} {b : Bool} {ms : Array (String × TypeId)} (hu : P.underlying xt = some (.interface ms)) (hx : e.ev x = errA b) (hy : e.ev y = pl .nilIface)
    (hg : ∀ (t : TypeId) (p : Value) w, (eqGuard .neq xt x y (.iface t p) .nilIface).run P w = .ok () w) (hg0 : ∀ w, (eqGuard .neq xt x y .nilIface .nilIface).run P w = .ok () w)
    (hr : ∀ (t : TypeId) (p : Value) w, (binOp .neq xt (.iface t p) .nilIface).run P w = .ok (.bool true) w) (hr0 : ∀ w, (binOp .neq xt .nilIface .nilIface).run P w = .ok (.bool false) w) :
    OpD P ⟨dst, .binOp .neq xt x y yt, ty, pos, after, guard⟩ e s (pl (.bool b)) s :=
  opD_look fun g a w ha _ => by
    have h1 := ha x (by simp [Op.operands]); rw [hx] at h1
    have h2 : a.eval y = .nilIface := by have := ha y (by simp [Op.operands]); rw [hy] at this; exact this
    obtain ⟨h3, h4⟩ := h1
    cases b with
    | false =>
      have h5 := h3 rfl
      exact ⟨.bool false, by generalize a.eval = ρ at h2 h5 ⊢; simp [execOp, h2, h5, go_sem, hg0, hr0], rfl⟩
    | true =>
      obtain ⟨t, p, h5⟩ := h4 rfl
      exact ⟨.bool true, by generalize a.eval = ρ at h2 h5 ⊢; simp [execOp, h2, h5, go_sem, hg, hr], rfl⟩

/-- Cells of listed variables. -/
def statL (L : List (Nat × Nat × Value)) : Pd := ⟨fun g w _ => ∀ x ∈ L, x.2.1 < g.sld x.1 ∧ w.cell? ⟨x.1, x.2.1, none⟩ = some x.2.2, fun hx h x hm => ⟨Nat.lt_of_lt_of_le (h x hm).1 (hx.sld x.1), by rw [hx.cell x.1 x.2.1 (h x hm).1]; exact (h x hm).2⟩⟩
theorem statL_bnd (L : List (Nat × Nat × Value)) (n m : Nat) : (statL L).Bnd n m := fun _ _ _ _ h _ _ h1 x hm => ⟨by rw [h.1]; exact (h1 x hm).1, (h1 x hm).2⟩
def S0L (L : List (Nat × Nat × Value)) : St := ⟨[], [], statL L⟩
theorem srel0L {w : World} {L : List (Nat × Nat × Value)} (h : ∀ x ∈ L, w.cell? ⟨x.1, x.2.1, none⟩ = some x.2.2) : SRel (G0 w) (S0L L) w :=
  ⟨rfl, fun i j e1 e2 k h1 => by simp [G0] at h1, fun i B hB => by simp [S0L] at hB, (fun b id c h => nomatch h), fun b hb => (by
    simp only [G0] at hb
    cases hh : w.heap[b]? with
    | none => rw [hh] at hb; exact absurd rfl hb
    | some o => exact (Array.getElem?_eq_some_iff.1 hh).1), fun x hx => ⟨(cell_at (h x hx)).2, h x hx⟩, statL_bnd L 0 0, Nat.le_refl _⟩
theorem row_of_acL {P : Program} {f : FuncId} {ps : List Pd} {args : List Value} {w : World} {L : List (Nat × Nat × Value)} {r : Value} (h : AC P f ps (S0L L) (pl r) (S0L L)) (hV : ∀ x ∈ L, w.cell? ⟨x.1, x.2.1, none⟩ = some x.2.2) (hA : Pds (G0 w) w ps args) :
    Calls P f args.toArray w fun e w' => e = .returned r ∧ Go.RowKit.Below w.heap.size w w' := by
  refine (h (G0 w) w args hA (srel0L hV)).mono ?_
  rintro e w' ⟨v, g', rfl, hv, hx, _⟩
  rw [show v = r from hv]
  exact ⟨rfl, hx.os, hx.tape, hx.output, hx.size, fun k hk => hx.block k hk hk (fun ⟨i, e, h1, _⟩ => by simp [G0] at h1) rfl⟩
end Go.Proofs.YtokcgacehdgkcaaDoor.Eng
