/- The engine: ranges over functions. An iterator's walk ('AL'), what a call of yield does ('YS'), the statement's rule ('aw_rangeFunc'). -/
import Derived.Test.YtokcgacehdgkcaaEX8
import Derived.RangeFuncSeq
import Derived.Shelf.GgSortFunc.InsertionK
namespace Go.Proofs.Ytokcgacehdgkcaa.Eng
set_option linter.unusedVariables false
set_option linter.unusedSimpArgs false
open Go.RowKit

theorem Ext0.trans {g g1 g2 : G} {w w1 w2 : World} (h : Ext0 g w g1 w1) (k : Ext0 g1 w1 g2 w2) : Ext0 g w g2 w2 := by
  refine ⟨k.os.trans h.os, k.tape.trans h.tape, k.output.trans h.output, Nat.le_trans h.size k.size, fun b => Nat.le_trans (h.sld b) (k.sld b), fun b o ho => ?_, fun i e he => ?_, fun b hb => ?_, fun b i hi => k.own b i (h.own b i hi), fun b i hi => ?_, fun b hbb hb hn ho => ?_, k.base.trans h.base⟩
  · rw [k.cell b o (Nat.lt_of_lt_of_le ho (h.sld b)), h.cell b o ho]
  · obtain ⟨e1, h1, h2, h3⟩ := h.box i e he
    obtain ⟨e2, h4, h5, h6⟩ := k.box i e1 h1
    exact ⟨e2, h4, Nat.le_trans h2 h5, fun hv => by
      have : e.ver = e1.ver := by omega
      have h7 := h3 this
      subst h7
      exact h6 hv⟩
  · rcases k.boxf b hb with h1 | h1
    · exact h.boxf b h1
    · exact .inr (Nat.le_trans h.size h1)
  · rcases k.fresh b i hi with h1 | h1
    · exact h.fresh b i h1
    · exact .inr (Nat.le_trans h.size h1)
  · rw [k.block b (by rw [h.base]; exact hbb) (Nat.lt_of_lt_of_le hb h.size) ?_ ?_, h.block b hbb hb hn ho]
    · intro hm
      rcases h.boxf b hm with hm | hm
      · exact hn hm
      · omega
    · cases hg : g1.own b with
      | none => rfl
      | some i =>
        rcases h.fresh b i hg with h1 | h1
        · rw [ho] at h1; cases h1
        · omega
theorem lt_of_some {w : World} {b : Nat} {o : Obj} (h : w.heap[b]? = some o) : b < w.heap.size := (Array.getElem?_eq_some_iff.1 h).1
theorem Ext0.nb {g g' : G} {w w' : World} (x : Ext0 g w g' w') {l : Nat} {o : Obj} (h : w.heap[l]? = some o) (hn : ¬ g.isB l) : ¬ g'.isB l := fun hb => (x.boxf l hb).elim hn fun hk => by
  have := lt_of_some h
  omega

/-- As 'Ext', but for one object. -/
structure ExtX (l : Nat) (g : G) (w : World) (g' : G) (w' : World) : Prop where
  to0 : Ext0 g w g' w'
  oth : ∀ b o, b ≠ l → w.heap[b]? = some o → o.isCells = false → ¬ g.isB b → w'.heap[b]? = some o
theorem Ext.toX {g g' : G} {w w' : World} (x : Ext g w g' w') (l : Nat) : ExtX l g w g' w' := ⟨x.to0, fun b o _ => x.oth b o⟩
theorem ExtX.trans {l : Nat} {g g1 g2 : G} {w w1 w2 : World} (h : ExtX l g w g1 w1) (k : ExtX l g1 w1 g2 w2) : ExtX l g w g2 w2 :=
  ⟨h.to0.trans k.to0, fun b o hb h1 h2 h3 => k.oth b o hb (h.oth b o hb h1 h2 h3) h2 (h.to0.nb h1 h3)⟩
/-- A loop's record, when it may be entered: it lies there; all else goes on from (g0, w0). -/
structure Lv (l : Nat) (rec : Loop) (g0 : G) (w0 : World) (g : G) (w : World) : Prop where
  lies : w.heap[l]? = some (.loop rec)
  nb : ¬ g.isB l
  ext : Ext0 g0 w0 g w
theorem Lv.mono {l : Nat} {rec : Loop} {g0 : G} {w0 : World} {g g' : G} {w w' : World} (h : Lv l rec g0 w0 g w) (x : Ext g w g' w') : Lv l rec g0 w0 g' w' :=
  ⟨x.oth l _ h.lies rfl h.nb, x.to0.nb h.lies h.nb, h.ext.trans x.to0⟩
def dn (rec : Loop) (c : Code) : Loop := { rec with state := .done, pending := some c }

/-! ### Walks of iterators -/
def PostL (nt m l : Nat) (rec : Loop) (Q : Exit → Env → St → Prop) (D : Code → Exit → Env → St → Prop) (g : G) (w : World) (x : Exit) (a' : Act) (w' : World) : Prop :=
  Post nt (m, none) Q g w x a' w' ∨ ∃ c e' s' g', D c x e' s' ∧ ExtX l g w g' w' ∧ w'.heap[l]? = some (.loop (dn rec c)) ∧ ¬ g'.isB l ∧ ERel nt (m, none) e' g' a' w' ∧ SRel g' s' w'
section
variable {P : Program} {nt l : Nat} {rec : Loop} {g0 : G} {w0 : World} {Q Q' : Exit → Env → St → Prop} {D D' : Code → Exit → Env → St → Prop} {e : Env} {s : St}

theorem PostL.trans {m : Nat} {g g1 : G} {w w1 : World} {x : Exit} {a : Act} {w2 : World} (hx : Ext g w g1 w1) (h : PostL nt m l rec Q D g1 w1 x a w2) : PostL nt m l rec Q D g w x a w2 := by
  rcases h with ⟨e', s', g', q, hx', r⟩ | ⟨c, e', s', g', q, hx', r⟩
  · exact .inl ⟨e', s', g', q, hx.trans hx', r⟩
  · exact .inr ⟨c, e', s', g', q, (hx.toX l).trans hx', r⟩
end
end Go.Proofs.Ytokcgacehdgkcaa.Eng

/- The engine: ranges over functions, second part: calls of yield, an iterator's text, the statement. -/
namespace Go.Proofs.Ytokcgacehdgkcaa.Eng
set_option linter.unusedVariables false
set_option linter.unusedSimpArgs false
open Go.RowKit

section
variable {P : Program} {nt l : Nat} {rec : Loop} {g0 : G} {w0 : World} {Q : Exit → Env → St → Prop} {D : Code → Exit → Env → St → Prop}

end

/-! ### An iterator's text -/
end Go.Proofs.Ytokcgacehdgkcaa.Eng

/- The engine: ranges over functions, third part: the statement. -/
namespace Go.Proofs.Ytokcgacehdgkcaa.Eng
set_option linter.unusedVariables false
set_option linter.unusedSimpArgs false
open Go.RowKit

section
variable {P : Program} {nt : Nat} {e : Env} {s : St}

end
end Go.Proofs.Ytokcgacehdgkcaa.Eng

/- The engine: a row in place that a sort of the kit's shelf turns. -/
namespace Go.Proofs.Ytokcgacehdgkcaa.Eng
set_option linter.unusedVariables false
set_option linter.unusedSimpArgs false
open Go.RowKit Go.Sort

end Go.Proofs.Ytokcgacehdgkcaa.Eng

/- The engine: what lies in place, lent to a call that only reads; rows in place, from a place on; parts of elements. -/
namespace Go.Proofs.Ytokcgacehdgkcaa.Eng
set_option linter.unusedVariables false
set_option linter.unusedSimpArgs false
open Go.RowKit

/-! ### Lent -/
/-- All that lies there, as it is. -/
def GF (w : World) : G := ⟨fun b => match w.heap[b]? with | some (.cells cs _ _) => cs.size | _ => 0, [], fun _ => none, w.heap.size⟩
def SF : St := ⟨[], [], ⟨fun _ _ _ => True, fun _ _ => trivial⟩⟩
theorem srelF (w : World) : SRel (GF w) SF w :=
  ⟨rfl, fun i j e1 e2 k h1 => by simp [GF] at h1, fun i B hB => by simp [SF] at hB, (fun b id c h => nomatch h), fun b hb => (by
    simp only [GF] at hb
    cases hh : w.heap[b]? with
    | none => rw [hh] at hb; exact absurd rfl hb
    | some o => exact (Array.getElem?_eq_some_iff.1 hh).1), trivial, fun _ _ _ _ _ _ _ _ => trivial, Nat.le_refl _⟩
structure Same (w w' : World) : Prop where
  os : w'.os = w.os
  tape : w'.tape = w.tape
  output : w'.output = w.output
  size : w.heap.size ≤ w'.heap.size
  heap : ∀ b, b < w.heap.size → w'.heap[b]? = w.heap[b]?
theorem same_of_GF {w w' : World} {g' : G} (hx : Ext (GF w) w g' w') : Same w w' :=
  ⟨hx.os, hx.tape, hx.output, hx.size, fun b hb => hx.block b hb hb (fun ⟨i, e, h1, _⟩ => by simp [GF] at h1) rfl⟩
theorem Same.ext {g : G} {s : St} {w w' : World} (h : Same w w') (hs : SRel g s w) : Ext g w g w' :=
  ⟨h.os, h.tape, h.output, h.size, fun _ => Nat.le_refl _, fun b o ho => World.cell?_of_block (w := w) (h.heap b (hs.sl b (by omega))), fun _ e h => ⟨e, h, Nat.le_refl _, fun _ => rfl⟩, fun _ h => .inl h, fun _ _ h => h, fun _ _ h => .inl h, fun b _ hb _ _ => h.heap b hb, rfl, fun b o hb _ _ => (h.heap b (lt_of_some hb)).trans hb⟩
theorem Same.srel {g : G} {s : St} {w w' : World} (h : Same w w') (hs : SRel g s w) : SRel g s w' :=
  have hx := h.ext hs
  ⟨hs.len, hs.nd, fun i B hB => by
    obtain ⟨e, vs, h1, h2, h3, h4, h5⟩ := hs.bx i B hB
    exact ⟨e, vs, h1, h2, h3.to fun k _ hl => h.heap k hl, h4.mono hx, h5⟩, fun b id c ho => by
    obtain ⟨f, cs, h1, h2, h3⟩ := hs.ow b id c ho
    exact ⟨f, cs, h1, (h.heap b (lt_of_some h2)).trans h2, h3⟩, fun b hn => Nat.lt_of_lt_of_le (hs.sl b hn) hx.size, s.stat.mono hx hs.st, hs.sb, Nat.le_trans hs.bz hx.size⟩
/-- It speaks of no ghost. -/
def Pd.Pn (p : Pd) : Prop := ∀ g w g' v, p.h g w v → p.h g' w v
theorem pn_pl (x : Value) : (pl x).Pn := fun _ _ _ _ h => h
def PnL : List Pd → Prop
  | [] => True
  | p :: ps => p.Pn ∧ PnL ps
theorem PnL.pds {g g' : G} {w : World} : ∀ {ps : List Pd} {vs : List Value}, PnL ps → Pds g w ps vs → Pds g' w ps vs
  | [], [], _, _ => trivial
  | _ :: _, _ :: _, h, h2 => ⟨h.1 _ _ _ _ h2.1, PnL.pds h.2 h2.2⟩
  | [], _ :: _, _, h => h.elim
  | _ :: _, [], _, h => h.elim
def FzL : List Pd → Prop
  | [] => True
  | p :: ps => (∀ g s w v, SRel g s w → p.h g w v → p.h (GF w) w v) ∧ FzL ps
theorem FzL.pds {g : G} {s : St} {w : World} (hs : SRel g s w) : ∀ {ps : List Pd} {vs : List Value}, FzL ps → Pds g w ps vs → Pds (GF w) w ps vs
  | [], [], _, _ => trivial
  | _ :: _, _ :: _, h, h2 => ⟨h.1 _ _ _ _ hs h2.1, FzL.pds hs h.2 h2.2⟩
  | [], _ :: _, _, h => h.elim
  | _ :: _, [], _, h => h.elim
theorem pn_tup {ps : List Pd} (h : PnL ps) : (tup ps).Pn := fun _ _ _ _ ⟨cs, hv, hp⟩ => ⟨cs, hv, h.pds hp⟩
/-- What is known of it stays known of all that lies there. -/
def Pd.Fz (p : Pd) : Prop := ∀ g s w v, SRel g s w → p.h g w v → p.h (GF w) w v
theorem Pd.Pn.fz {p : Pd} (h : p.Pn) : p.Fz := fun _ _ _ _ _ hp => h _ _ _ _ hp
theorem gf_lt {w : World} {b o : Nat} {c : Value} (h : w.cell? ⟨b, o, none⟩ = some c) : o < (GF w).sld b := (cell_at h).2
theorem slc_fz {α : Type} {k : Kn α} {l : List α} {g : G} {s : St} {w : World} {b o : Nat} (hk : ∀ x, ∀ p ∈ k.cs x, p.Fz) (hs : SRel g s w) (h : SlCells k l g w b o) : SlCells k l (GF w) w b o := fun i x hi j p hp => by
  obtain ⟨_, c, h2, h3⟩ := h i x hi j p hp
  exact ⟨gf_lt h2, c, h2, hk x p (List.mem_of_getElem? hp) g s w c hs h3⟩
theorem sl_fz {α : Type} {k : Kn α} {o : Option Nat} {nl : Option Bool} {l : List α} (hk : ∀ x, ∀ p ∈ k.cs x, p.Fz) {g : G} {s : St} {w : World} {v : Value} (hs : SRel g s w) (h : (sl k o nl l).h g w v) : (sl k none nl l).h (GF w) w v := by
  obtain ⟨a, c, hv, h1, h2, h3, h4, _⟩ := h
  refine ⟨a, c, hv, h1, h2, h3, fun hn => ?_, fun _ h => by cases h⟩
  obtain ⟨b, off, ha, hc⟩ := h4 hn
  exact ⟨b, off, ha, slc_fz hk hs hc⟩
theorem fz_agg {ps : List Pd} (h : FzL ps) : (agg ps).Fz := fun _ _ _ _ hs ⟨cs, hv, hp⟩ => ⟨cs, hv, h.pds hs hp⟩
def Kn.Fz {α : Type} (k : Kn α) : Prop := ∀ x, ∀ p ∈ k.cs x, p.Fz
theorem fz_I (i : IntKind) : (kI i).Fz := fun x p hp => by simp [kI] at hp; subst hp; exact (pn_pl _).fz
/-- An argument, as it is lent. -/
def Lent (s : St) (p q : Pd) : Prop := ∀ g w v, SRel g s w → p.h g w v → q.h (GF w) w v
def LentL (s : St) : List Pd → List Pd → Prop
  | [], [] => True
  | p :: ps, q :: qs => Lent s p q ∧ LentL s ps qs
  | _, _ => False
theorem LentL.pds {g : G} {s : St} {w : World} (hs : SRel g s w) : ∀ {ps qs : List Pd} {vs : List Value}, LentL s ps qs → Pds g w ps vs → Pds (GF w) w qs vs
  | [], [], [], _, _ => trivial
  | _ :: _, _ :: _, _ :: _, h, h2 => ⟨h.1 _ _ _ hs h2.1, LentL.pds hs h.2 h2.2⟩
  | [], [], _ :: _, _, h => h.elim
  | _ :: _, _ :: _, [], _, h => h.elim
  | [], _ :: _, _, h, _ => h.elim
  | _ :: _, [], _, h, _ => h.elim
theorem lent_fz {s : St} {p : Pd} (h : p.Fz) : Lent s p p := fun g w v hs hp => h g s w v hs hp
/-- A slice of a row in place, from a place on; of none nothing is known of where it lies. -/
def hso (b r off n sz : Nat) : Pd := ⟨fun g _ v => ∃ e A c, g.box[b]? = some e ∧ r ≤ e.ver ∧ v = .slice A n c ∧ n ≤ c ∧ (A = none → c = 0) ∧ (e.ver = r → 0 < n → ∃ k, e.blk = some k ∧ A = some ⟨k, off, none⟩ ∧ off + c * sz = e.cnt), by
  rintro g w g' w' v hx ⟨e, A, c, h1, h2, h3, h4, h5, h6⟩
  obtain ⟨e', k1, k2, k3⟩ := hx.box b e h1
  refine ⟨e', A, c, k1, Nat.le_trans h2 k2, h3, h4, h5, fun hv hn => ?_⟩
  have : e.ver = e'.ver := by omega
  have h7 := k3 this
  subst h7
  exact h6 hv hn⟩
theorem hso_of {b r off n sz : Nat} : (hsl b r off n sz).le (hso b r off n sz) := fun g w v ⟨e, A, c, h1, h2, h3, h4, h5, h6⟩ => ⟨e, A, c, h1, h2, h3, h4, h5, fun hv hn => by
  rcases h6 hv with ⟨_, h7⟩ | h7
  · omega
  · exact h7⟩
theorem hso_of0 {b r n sz : Nat} : (hsl b r 0 n sz).le (hso b r (0 * sz) (n - 0) sz) := by
  rw [Nat.zero_mul, Nat.sub_zero]
  exact hso_of
section
variable {P : Program} {e : Env} {s : St} {dst : Option Tmp} {ty : TypeId} {pos : String} {after : Array Edge} {guard : Option (Nat × Bool)} {bs bs' : List Bx} {fs : List Fr} {N : Nat}
theorem lent_hso {α : Type} {k : Kn α} {b r o te n : Nat} {l : List α} (hk : k.Fz) (hte : Nat.blt te HOT = true) (hr : 2 ≤ r) (hB : s.boxes[b]? = some ⟨hot te r, flat k l⟩) (hn : n = l.length) : Lent s (hso b r (o * k.sz) (n - o) k.sz) (sl k none none (l.drop o)) := fun g w v hs h => by
  subst hn
  obtain ⟨e0, A, c, q1, q2, rfl, h4, h5, h6⟩ := h
  obtain ⟨ee', vs, r1, r2, r3, r4, r5, r6⟩ := hs.bx b _ hB
  rw [q1] at r1; cases r1
  refine ⟨A, c, by rw [List.length_drop], by rw [List.length_drop]; exact h4, (fun _ h => by cases h), h5, fun hne => ?_, fun _ h => by cases h⟩
  have hn : 0 < l.length - o := by
    have := List.length_pos_iff.2 hne
    rwa [List.length_drop] at this
  obtain ⟨kk, hk1, rfl, hcnt⟩ := h6 (by rw [r2]; exact hot_ver hte) hn
  unfold Cont at r3
  rw [hk1] at r3
  have hh := r3.1
  rw [hot_obj hte hr] at hh
  refine ⟨kk, o * k.sz, rfl, fun i x hi j p hp => ?_⟩
  have hjs : j < k.sz := by rw [← k.len x]; exact (List.getElem?_eq_some_iff.1 hp).1
  have hf := flat_get k l (o + i) j hjs
  rw [List.getElem?_drop] at hi
  rw [hi, Option.bind_some, hp] at hf
  obtain ⟨cv, hc1, hc2⟩ := r4.get _ _ hf
  have hcell : w.cell? ⟨kk, o * k.sz + i * k.sz + j, none⟩ = some cv := by
    rw [box_cell (g := g) hh]
    rw [← Nat.add_mul]
    simpa using hc1
  exact ⟨gf_lt hcell, cv, hcell, hk x p (List.mem_of_getElem? hp) g s w cv hs hc2⟩
theorem lent_hsl {α : Type} {k : Kn α} {b r te n : Nat} {l : List α} (hk : k.Fz) (hte : Nat.blt te HOT = true) (hr : 2 ≤ r) (hB : s.boxes[b]? = some ⟨hot te r, flat k l⟩) (hn : n = l.length) : Lent s (hsl b r 0 n k.sz) (sl k none none l) := fun g w v hs h => by
  have := lent_hso (o := 0) hk hte hr hB hn g w v hs (hso_of0 g w v h)
  rwa [List.drop_zero] at this
theorem ac_lend {f : FuncId} {ps qs : List Pd} {p : Pd} (hc : AC P f qs SF p SF) (hl : LentL s ps qs) (hp : p.Pn) : AC P f ps s p s := by
  intro g w vs hps hs
  refine (hc (GF w) w vs (hl.pds hs hps) (srelF w)).mono ?_
  rintro e w' ⟨v, g', rfl, hv, hx, _⟩
  have hS := same_of_GF hx
  exact ⟨v, g, rfl, hp _ _ _ _ hv, hS.ext hs, hS.srel hs⟩
theorem opD_lend {f : FuncId} {xs : List Operand} {ats : Array TypeId} {ps qs : List Pd} {p : Pd} (hf : hasText P f = true) (hc : AC P f qs SF p SF) (hp : p.Pn) (hl : LentL s ps qs) (hx : Args e xs ps) :
    OpD P ⟨dst, .call { callee := .value (.func f), args := xs.toArray, argTypes := ats }, ty, pos, after, guard⟩ e s p s := opD_call hf (ac_lend hc hl hp) hx

/-! ### From a place on -/
/-! ### Parts of elements -/
end
end Go.Proofs.Ytokcgacehdgkcaa.Eng

/- The engine: iterators that hand out a list, and ranges over them. -/
namespace Go.Proofs.Ytokcgacehdgkcaa.Eng
set_option linter.unusedVariables false
set_option linter.unusedSimpArgs false
open Go.RowKit

end Go.Proofs.Ytokcgacehdgkcaa.Eng
