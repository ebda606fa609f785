/- The engine: ranges over functions. An iterator's walk ('AL'), what a call of yield does ('YS'), the statement's rule ('aw_rangeFunc'). -/
import Derived.Test.YtokcgacehdgkcaaGreatDoorEX8
import Derived.RangeFuncSeq
import Derived.Shelf.GgSortFunc.InsertionK
namespace Go.Proofs.YtokcgacehdgkcaaGreatDoor.Eng
set_option linter.unusedVariables false
set_option linter.unusedSimpArgs false
open Go.RowKit

theorem Ext0.trans {g g1 g2 : G} {w w1 w2 : World} (h : Ext0 g w g1 w1) (k : Ext0 g1 w1 g2 w2) : Ext0 g w g2 w2 := by
  refine ⟨k.os.trans h.os, k.tape.trans h.tape, k.output.trans h.output, Nat.le_trans h.size k.size, fun b => Nat.le_trans (h.sld b) (k.sld b), fun b o ho => ?_, fun i e he => ?_, fun b hb => ?_, fun b i hi => k.own b i (h.own b i hi), fun b i hi => ?_, fun b hbb hb hn ho => ?_, k.base.trans h.base⟩
  · rw [k.cell b o (Nat.lt_of_lt_of_le ho (h.sld b)), h.cell b o ho]
  · obtain ⟨e1, h1, h2, h3⟩ := h.box i e he
    obtain ⟨e2, h4, h5, h6⟩ := k.box i e1 h1
    exact ⟨e2, h4, Nat.le_trans h2 h5, fun hv => by
      have : e.ver = e1.ver := by omega
      have h7 := h3 this
      subst h7
      exact h6 hv⟩
  · rcases k.boxf b hb with h1 | h1
    · exact h.boxf b h1
    · exact .inr (Nat.le_trans h.size h1)
  · rcases k.fresh b i hi with h1 | h1
    · exact h.fresh b i h1
    · exact .inr (Nat.le_trans h.size h1)
  · rw [k.block b (by rw [h.base]; exact hbb) (Nat.lt_of_lt_of_le hb h.size) ?_ ?_, h.block b hbb hb hn ho]
    · intro hm
      rcases h.boxf b hm with hm | hm
      · exact hn hm
      · omega
    · cases hg : g1.own b with
      | none => rfl
      | some i =>
        rcases h.fresh b i hg with h1 | h1
        · rw [ho] at h1; cases h1
        · omega
theorem lt_of_some {w : World} {b : Nat} {o : Obj} (h : w.heap[b]? = some o) : b < w.heap.size := (Array.getElem?_eq_some_iff.1 h).1
theorem Ext0.nb {g g' : G} {w w' : World} (x : Ext0 g w g' w') {l : Nat} {o : Obj} (h : w.heap[l]? = some o) (hn : ¬ g.isB l) : ¬ g'.isB l := fun hb => (x.boxf l hb).elim hn fun hk => by
  have := lt_of_some h
  omega

/-- As 'Ext', but for one object. -/
structure ExtX (l : Nat) (g : G) (w : World) (g' : G) (w' : World) : Prop where
  to0 : Ext0 g w g' w'
  oth : ∀ b o, b ≠ l → w.heap[b]? = some o → o.isCells = false → ¬ g.isB b → w'.heap[b]? = some o
theorem Ext.toX {g g' : G} {w w' : World} (x : Ext g w g' w') (l : Nat) : ExtX l g w g' w' := ⟨x.to0, fun b o _ => x.oth b o⟩
theorem ExtX.trans {l : Nat} {g g1 g2 : G} {w w1 w2 : World} (h : ExtX l g w g1 w1) (k : ExtX l g1 w1 g2 w2) : ExtX l g w g2 w2 :=
  ⟨h.to0.trans k.to0, fun b o hb h1 h2 h3 => k.oth b o hb (h.oth b o hb h1 h2 h3) h2 (h.to0.nb h1 h3)⟩
/-- A loop's record, when it may be entered: it lies there; all else goes on from (g0, w0). -/
structure Lv (l : Nat) (rec : Loop) (g0 : G) (w0 : World) (g : G) (w : World) : Prop where
  lies : w.heap[l]? = some (.loop rec)
  nb : ¬ g.isB l
  ext : Ext0 g0 w0 g w
theorem Lv.mono {l : Nat} {rec : Loop} {g0 : G} {w0 : World} {g g' : G} {w w' : World} (h : Lv l rec g0 w0 g w) (x : Ext g w g' w') : Lv l rec g0 w0 g' w' :=
  ⟨x.oth l _ h.lies rfl h.nb, x.to0.nb h.lies h.nb, h.ext.trans x.to0⟩
def dn (rec : Loop) (c : Code) : Loop := { rec with state := .done, pending := some c }

/-! ### Walks of iterators -/
def PostL (nt m l : Nat) (rec : Loop) (Q : Exit → Env → St → Prop) (D : Code → Exit → Env → St → Prop) (g : G) (w : World) (x : Exit) (a' : Act) (w' : World) : Prop :=
  Post nt (m, none) Q g w x a' w' ∨ ∃ c e' s' g', D c x e' s' ∧ ExtX l g w g' w' ∧ w'.heap[l]? = some (.loop (dn rec c)) ∧ ¬ g'.isB l ∧ ERel nt (m, none) e' g' a' w' ∧ SRel g' s' w'
section
variable {P : Program} {nt l : Nat} {rec : Loop} {g0 : G} {w0 : World} {Q Q' : Exit → Env → St → Prop} {D D' : Code → Exit → Env → St → Prop} {e : Env} {s : St}

theorem PostL.trans {m : Nat} {g g1 : G} {w w1 : World} {x : Exit} {a : Act} {w2 : World} (hx : Ext g w g1 w1) (h : PostL nt m l rec Q D g1 w1 x a w2) : PostL nt m l rec Q D g w x a w2 := by
  rcases h with ⟨e', s', g', q, hx', r⟩ | ⟨c, e', s', g', q, hx', r⟩
  · exact .inl ⟨e', s', g', q, hx.trans hx', r⟩
  · exact .inr ⟨c, e', s', g', q, (hx.toX l).trans hx', r⟩
end
end Go.Proofs.YtokcgacehdgkcaaGreatDoor.Eng

/- The engine: ranges over functions, second part: calls of yield, an iterator's text, the statement. -/
namespace Go.Proofs.YtokcgacehdgkcaaGreatDoor.Eng
set_option linter.unusedVariables false
set_option linter.unusedSimpArgs false
open Go.RowKit

section
variable {P : Program} {nt l : Nat} {rec : Loop} {g0 : G} {w0 : World} {Q : Exit → Env → St → Prop} {D : Code → Exit → Env → St → Prop}

end

/-! ### An iterator's text -/
end Go.Proofs.YtokcgacehdgkcaaGreatDoor.Eng

/- The engine: ranges over functions, third part: the statement. -/
namespace Go.Proofs.YtokcgacehdgkcaaGreatDoor.Eng
set_option linter.unusedVariables false
set_option linter.unusedSimpArgs false
open Go.RowKit

section
variable {P : Program} {nt : Nat} {e : Env} {s : St}

end
end Go.Proofs.YtokcgacehdgkcaaGreatDoor.Eng

/- The engine: a row in place that a sort of the kit's shelf turns. -/
namespace Go.Proofs.YtokcgacehdgkcaaGreatDoor.Eng
set_option linter.unusedVariables false
set_option linter.unusedSimpArgs false
open Go.RowKit Go.Sort

end Go.Proofs.YtokcgacehdgkcaaGreatDoor.Eng

/- The engine: what lies in place, lent to a call that only reads; rows in place, from a place on; parts of elements. -/
namespace Go.Proofs.YtokcgacehdgkcaaGreatDoor.Eng
set_option linter.unusedVariables false
set_option linter.unusedSimpArgs false
open Go.RowKit

/-! ### Lent -/
/-- All that lies there, as it is. -/
def GF (w : World) : G := ⟨fun b => match w.heap[b]? with | some (.cells cs _ _) => cs.size | _ => 0, [], fun _ => none, w.heap.size⟩
structure Same (w w' : World) : Prop where
  os : w'.os = w.os
  tape : w'.tape = w.tape
  output : w'.output = w.output
  size : w.heap.size ≤ w'.heap.size
  heap : ∀ b, b < w.heap.size → w'.heap[b]? = w.heap[b]?
theorem Same.ext {g : G} {s : St} {w w' : World} (h : Same w w') (hs : SRel g s w) : Ext g w g w' :=
  ⟨h.os, h.tape, h.output, h.size, fun _ => Nat.le_refl _, fun b o ho => World.cell?_of_block (w := w) (h.heap b (hs.sl b (by omega))), fun _ e h => ⟨e, h, Nat.le_refl _, fun _ => rfl⟩, fun _ h => .inl h, fun _ _ h => h, fun _ _ h => .inl h, fun b _ hb _ _ => h.heap b hb, rfl, fun b o hb _ _ => (h.heap b (lt_of_some hb)).trans hb⟩
theorem Same.srel {g : G} {s : St} {w w' : World} (h : Same w w') (hs : SRel g s w) : SRel g s w' :=
  have hx := h.ext hs
  ⟨hs.len, hs.nd, fun i B hB => by
    obtain ⟨e, vs, h1, h2, h3, h4, h5⟩ := hs.bx i B hB
    exact ⟨e, vs, h1, h2, h3.to fun k _ hl => h.heap k hl, h4.mono hx, h5⟩, fun b id c ho => by
    obtain ⟨f, cs, h1, h2, h3⟩ := hs.ow b id c ho
    exact ⟨f, cs, h1, (h.heap b (lt_of_some h2)).trans h2, h3⟩, fun b hn => Nat.lt_of_lt_of_le (hs.sl b hn) hx.size, s.stat.mono hx hs.st, hs.sb, Nat.le_trans hs.bz hx.size⟩
/-- It speaks of no ghost. -/
def Pd.Pn (p : Pd) : Prop := ∀ g w g' v, p.h g w v → p.h g' w v
def PnL : List Pd → Prop
  | [] => True
  | p :: ps => p.Pn ∧ PnL ps
theorem PnL.pds {g g' : G} {w : World} : ∀ {ps : List Pd} {vs : List Value}, PnL ps → Pds g w ps vs → Pds g' w ps vs
  | [], [], _, _ => trivial
  | _ :: _, _ :: _, h, h2 => ⟨h.1 _ _ _ _ h2.1, PnL.pds h.2 h2.2⟩
  | [], _ :: _, _, h => h.elim
  | _ :: _, [], _, h => h.elim
def FzL : List Pd → Prop
  | [] => True
  | p :: ps => (∀ g s w v, SRel g s w → p.h g w v → p.h (GF w) w v) ∧ FzL ps
theorem FzL.pds {g : G} {s : St} {w : World} (hs : SRel g s w) : ∀ {ps : List Pd} {vs : List Value}, FzL ps → Pds g w ps vs → Pds (GF w) w ps vs
  | [], [], _, _ => trivial
  | _ :: _, _ :: _, h, h2 => ⟨h.1 _ _ _ _ hs h2.1, FzL.pds hs h.2 h2.2⟩
  | [], _ :: _, _, h => h.elim
  | _ :: _, [], _, h => h.elim
/-- An argument, as it is lent. -/
def Lent (s : St) (p q : Pd) : Prop := ∀ g w v, SRel g s w → p.h g w v → q.h (GF w) w v
def LentL (s : St) : List Pd → List Pd → Prop
  | [], [] => True
  | p :: ps, q :: qs => Lent s p q ∧ LentL s ps qs
  | _, _ => False
theorem LentL.pds {g : G} {s : St} {w : World} (hs : SRel g s w) : ∀ {ps qs : List Pd} {vs : List Value}, LentL s ps qs → Pds g w ps vs → Pds (GF w) w qs vs
  | [], [], [], _, _ => trivial
  | _ :: _, _ :: _, _ :: _, h, h2 => ⟨h.1 _ _ _ hs h2.1, LentL.pds hs h.2 h2.2⟩
  | [], [], _ :: _, _, h => h.elim
  | _ :: _, _ :: _, [], _, h => h.elim
  | [], _ :: _, _, h, _ => h.elim
  | _ :: _, [], _, h, _ => h.elim
section
variable {P : Program} {e : Env} {s : St} {dst : Option Tmp} {ty : TypeId} {pos : String} {after : Array Edge} {guard : Option (Nat × Bool)} {bs bs' : List Bx} {fs : List Fr} {N : Nat}
/-! ### From a place on -/
/-! ### Parts of elements -/
end
end Go.Proofs.YtokcgacehdgkcaaGreatDoor.Eng

/- The engine: iterators that hand out a list, and ranges over them. -/
namespace Go.Proofs.YtokcgacehdgkcaaGreatDoor.Eng
set_option linter.unusedVariables false
set_option linter.unusedSimpArgs false
open Go.RowKit

end Go.Proofs.YtokcgacehdgkcaaGreatDoor.Eng
