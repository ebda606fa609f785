/- The engine, fourth part: forms of values, and the operations that only look. -/
import Derived.Test.YtmnhfpcbfdgbcaaDoorEngC
import Derived.WalkKit
import Derived.WalkSpells
namespace Go.Proofs.YtmnhfpcbfdgbcaaDoor.Eng
set_option linter.unusedVariables false
set_option linter.unusedSimpArgs false
open Go.RowKit

/-! ### Forms -/
theorem pl_bnd (x : Value) (n m : Nat) : (pl x).Bnd n m := fun _ _ _ _ _ _ _ h => h
theorem any_bnd (n m : Nat) : any.Bnd n m := fun _ _ _ _ _ _ _ h => h

/-- A pointer to a cell of a variable. -/
def ptr (b off : Nat) : Pd := ⟨fun g _ v => ∃ k, g.box[b]? = some k ∧ v = .pointer (some ⟨k, off, none⟩), by
  rintro g w g' w' v hx ⟨k, hk, hv⟩
  obtain ⟨t, ht, _⟩ := hx.box
  refine ⟨k, ?_, hv⟩
  rw [ht, List.getElem?_append_left]
  · exact hk
  · exact (List.getElem?_eq_some_iff.1 hk).1⟩
theorem ptr_bnd {b off n : Nat} (m : Nat) (h : b < n) : (ptr b off).Bnd n m := fun _ _ _ _ _ hb _ ⟨k, hk, hv⟩ => ⟨k, hb b k h hk, hv⟩

/-- A struct or an array, by its cells. -/
def agg (ps : List Pd) : Pd := ⟨fun g w v => ∃ cs : Array Value, v = .agg cs ∧ Pds g w ps cs.toList, fun hx ⟨cs, hv, h⟩ => ⟨cs, hv, h.mono hx⟩⟩
theorem agg_bnd {ps : List Pd} {n m : Nat} (h : ∀ p ∈ ps, p.Bnd n m) : (agg ps).Bnd n m := fun _ _ _ _ h1 h2 h3 ⟨cs, hv, hp⟩ => ⟨cs, hv, Pds.bnd h1 h2 h3 h hp⟩
def tup (ps : List Pd) : Pd := ⟨fun g w v => ∃ cs : Array Value, v = .tuple cs ∧ Pds g w ps cs.toList, fun hx ⟨cs, hv, h⟩ => ⟨cs, hv, h.mono hx⟩⟩
theorem tup_bnd {ps : List Pd} {n m : Nat} (h : ∀ p ∈ ps, p.Bnd n m) : (tup ps).Bnd n m := fun _ _ _ _ h1 h2 h3 ⟨cs, hv, hp⟩ => ⟨cs, hv, Pds.bnd h1 h2 h3 h hp⟩
/-- An interface value. -/
def ifc (t : TypeId) (p : Pd) : Pd := ⟨fun g w v => ∃ x, v = .iface t x ∧ p.h g w x, fun hx ⟨x, hv, h⟩ => ⟨x, hv, p.mono hx h⟩⟩
theorem ifc_bnd {t : TypeId} {p : Pd} {n m : Nat} (h : p.Bnd n m) : (ifc t p).Bnd n m := fun g g' w v h1 h2 h3 ⟨x, hv, hp⟩ => ⟨x, hv, h g g' w x h1 h2 h3 hp⟩

/-- A kind of elements: of how many cells, and what these stand for. -/
structure Kn (α : Type) where
  sz : Nat
  cs : α → List Pd
  len : ∀ x, (cs x).length = sz
  one : ∀ x, ∀ p ∈ cs x, ∀ g w v, p.h g w v → v.oneCell' = true

def SlCells {α : Type} (k : Kn α) (l : List α) (g : G) (w : World) (b o : Nat) : Prop :=
  ∀ (i : Nat) (x : α), l[i]? = some x → ∀ (j : Nat) (p : Pd), (k.cs x)[j]? = some p → o + i * k.sz + j < g.sld b ∧ ∃ c, w.cell? ⟨b, o + i * k.sz + j, none⟩ = some c ∧ p.h g w c

theorem SlCells.mono {α : Type} {k : Kn α} {l : List α} {g g' : G} {w w' : World} {b o : Nat} (h : SlCells k l g w b o) (hx : Ext g w g' w') : SlCells k l g' w' b o := by
  intro i x hi j p hp
  obtain ⟨h1, c, h2, h3⟩ := h i x hi j p hp
  exact ⟨Nat.lt_of_lt_of_le h1 (hx.sld b), c, by rw [hx.cell b _ h1]; exact h2, p.mono hx h3⟩

/-- A slice, by its elements; 'o': whose row it is; 'nl': is it nil, if that is known? -/
def sl {α : Type} (k : Kn α) (o : Option Nat) (nl : Option Bool) (l : List α) : Pd :=
  ⟨fun g w v => ∃ (a : Option Addr) (c : Nat), v = .slice a l.length c ∧ l.length ≤ c ∧ (∀ b, nl = some b → a.isNone = b) ∧ (a = none → c = 0) ∧ (l ≠ [] → ∃ b off, a = some ⟨b, off, none⟩ ∧ SlCells k l g w b off) ∧
    (∀ id, o = some id → c = l.length ∨ ∃ b, a = some ⟨b, 0, none⟩ ∧ g.own b = some (id, c)), by
  rintro g w g' w' v hx ⟨a, c, hv, h1, h2, h3, h4, h5⟩
  refine ⟨a, c, hv, h1, h2, h3, fun hn => ?_, fun id hi => ?_⟩
  · obtain ⟨b, off, ha, hc⟩ := h4 hn
    exact ⟨b, off, ha, hc.mono hx⟩
  · rcases h5 id hi with h | ⟨b, ha, ho⟩
    · exact .inl h
    · exact .inr ⟨b, ha, hx.own b _ ho⟩⟩

theorem sl_bnd {α : Type} {k : Kn α} {nl : Option Bool} {l : List α} {n m : Nat} (h : ∀ x ∈ l, ∀ p ∈ k.cs x, p.Bnd n m) : (sl k none nl l).Bnd n m := by
  rintro g g' w v h1 h2 h3 ⟨a, c, hv, h4, h5, h6, h7, h8⟩
  refine ⟨a, c, hv, h4, h5, h6, fun hn => ?_, fun id hi => by cases hi⟩
  obtain ⟨b, off, ha, hc⟩ := h7 hn
  refine ⟨b, off, ha, fun i x hi j p hp => ?_⟩
  obtain ⟨h9, c2, h10, h11⟩ := hc i x hi j p hp
  exact ⟨by rw [h1.1]; exact h9, c2, h10, h x (List.mem_of_getElem? hi) p (List.mem_of_getElem? hp) g g' w c2 h1 h2 h3 h11⟩
theorem sl_own_bnd {α : Type} {k : Kn α} {id : Nat} {nl : Option Bool} {l : List α} {n m : Nat} (h : ∀ x ∈ l, ∀ p ∈ k.cs x, p.Bnd n m) (hid : id < m) : (sl k (some id) nl l).Bnd n m := by
  rintro g g' w v h1 h2 h3 ⟨a, c, hv, h4, h5, h6, h7, h8⟩
  refine ⟨a, c, hv, h4, h5, h6, fun hn => ?_, fun id' hi => ?_⟩
  · obtain ⟨b, off, ha, hc⟩ := h7 hn
    refine ⟨b, off, ha, fun i x hi j p hp => ?_⟩
    obtain ⟨h9, c2, h10, h11⟩ := hc i x hi j p hp
    exact ⟨by rw [h1.1]; exact h9, c2, h10, h x (List.mem_of_getElem? hi) p (List.mem_of_getElem? hp) g g' w c2 h1 h2 h3 h11⟩
  · rcases h8 id' hi with h | ⟨b, ha, ho⟩
    · exact .inl h
    · cases hi; exact .inr ⟨b, ha, h3 b id c hid ho⟩

/-- A pointer to a cell of an element of a slice. -/
def el {α : Type} (k : Kn α) (l : List α) (i off : Nat) : Pd :=
  ⟨fun g w v => ∃ b o, v = .pointer (some ⟨b, o + i * k.sz + off, none⟩) ∧ SlCells k l g w b o, fun hx ⟨b, o, hv, h⟩ => ⟨b, o, hv, h.mono hx⟩⟩

theorem sl_nil {α : Type} (k : Kn α) (o : Option Nat) (g : G) (w : World) : (sl k o (some true) ([] : List α)).h g w (.slice none 0 0) :=
  ⟨none, 0, rfl, Nat.le_refl _, fun b hb => by cases hb; rfl, fun _ => rfl, fun h => absurd rfl h, fun _ _ => .inl rfl⟩

/-- One's own is a slice like any other. -/
def Pd.le (p q : Pd) : Prop := ∀ g w v, p.h g w v → q.h g w v
theorem Pd.le_refl (p : Pd) : p.le p := fun _ _ _ h => h
theorem le_any (p : Pd) : p.le any := fun _ _ _ _ => trivial
theorem sl_le {α : Type} (k : Kn α) (o : Option Nat) (nl : Option Bool) (l : List α) : (sl k o nl l).le (sl k none nl l) :=
  fun _ _ _ ⟨a, c, h1, h2, h3, h4, h5, _⟩ => ⟨a, c, h1, h2, h3, h4, h5, fun _ h => by cases h⟩
theorem sl_nl {α : Type} (k : Kn α) (o : Option Nat) (nl : Option Bool) (l : List α) : (sl k o nl l).le (sl k o none l) :=
  fun _ _ _ ⟨a, c, h1, h2, h3, h4, h5, h6⟩ => ⟨a, c, h1, h2, fun _ h => (by cases h), h4, h5, h6⟩
theorem Pd.le.trans {p q r : Pd} (h : p.le q) (h2 : q.le r) : p.le r := fun g w v hp => h2 g w v (h g w v hp)
theorem sl_any {α : Type} (k : Kn α) (o : Option Nat) (nl : Option Bool) (l : List α) : (sl k o nl l).le (sl k none none l) := (sl_le k o nl l).trans (sl_nl k none nl l)

/-! ### Looking a temporary up -/
theorem ev_tmp (e : Env) (t : Tmp) : Env.ev e (.tmp t) = e t := rfl
theorem ev_const (e : Env) (v : Value) : Env.ev e (.const v) = pl v := rfl
theorem ev_func (e : Env) (f : FuncId) : Env.ev e (.func f) = pl (.func (.func f) #[] #[]) := rfl
theorem ev_global (e : Env) (g : Nat) : Env.ev e (.global g) = pl (.pointer (some ⟨g, 0, none⟩)) := rfl
theorem put_same (e : Env) (t : Tmp) (p : Pd) : Env.put e (some t) p t = p := by simp [Env.put]
theorem put_ne (e : Env) (t u : Tmp) (p : Pd) (h : t ≠ u) : Env.put e (some u) p t = e t := by simp [Env.put, h]
theorem put_none (e : Env) (p : Pd) : Env.put e none p = e := rfl

/-! ### Operations: a value -/
section
variable {P : Program} {e : Env} {s : St} {dst : Option Tmp} {ty : TypeId} {pos : String} {after : Array Edge} {guard : Option (Nat × Bool)}

theorem opD_value {o : Oper} {p : Pd} {s' : St} (h : ∀ (g : G) (a : Act) (w : World), (∀ x ∈ o.op.operands, (e.ev x).h g w (a.eval x)) → SRel g s w →
    ∃ v g' w', (execOp a.eval o).run P w = .ok (.value v) w' ∧ p.h g' w' v ∧ Ext g w g' w' ∧ SRel g' s' w') : OpD P o e s p s' := by
  intro g a w next Q ha hs hn
  obtain ⟨v, g', w', h1, h2, h3, h4⟩ := h g a w ha hs
  unfold Oper.wp
  rw [h1]
  exact hn v g' w' h2 h3 h4

theorem opD_look {o : Oper} {p : Pd} (h : ∀ (g : G) (a : Act) (w : World), (∀ x ∈ o.op.operands, (e.ev x).h g w (a.eval x)) → SRel g s w →
    ∃ v, (execOp a.eval o).run P w = .ok (.value v) w ∧ p.h g w v) : OpD P o e s p s :=
  opD_value fun g a w ha hs => let ⟨v, h1, h2⟩ := h g a w ha hs; ⟨v, g, w, h1, h2, Ext.refl _ _, hs⟩

theorem opD_le {o : Oper} {p q : Pd} {s' : St} (h : OpD P o e s p s') (hl : p.le q) : OpD P o e s q s' :=
  fun g a w next Q ha hs hn => h g a w next Q ha hs fun v g' w' hp hx hs' => hn v g' w' (hl _ _ _ hp) hx hs'

/-- Operands that are known whole. -/
theorem opD_plain {o : Oper} (ρ : Operand → Value) (y : Value) (hsel : ∀ cs b, o.op ≠ .select cs b) (hρ : ∀ x ∈ o.op.operands, e.ev x = pl (ρ x)) (hr : ∀ w, (execOp ρ o).run P w = .ok (.value y) w) : OpD P o e s (pl y) s :=
  opD_look fun g a w ha hs => ⟨y, by
    rw [execOp_congr (ρ' := ρ) o hsel fun x hx => ?_]
    · exact hr w
    · have := ha x hx
      rw [hρ x hx] at this
      exact this, rfl⟩

theorem opD_move {x : Operand} {p : Pd} (hx : e.ev x = p) : OpD P ⟨dst, .move x, ty, pos, after, guard⟩ e s p s :=
  opD_look fun g a w ha _ => ⟨a.eval x, rfl, by rw [← hx]; exact ha x (by simp [Op.operands])⟩
theorem opD_assign {x : Operand} {p : Pd} (hx : e.ev x = p) : OpD P ⟨dst, .assign x, ty, pos, after, guard⟩ e s p s :=
  opD_look fun g a w ha _ => ⟨a.eval x, rfl, by rw [← hx]; exact ha x (by simp [Op.operands])⟩

theorem opD_pick {c x y : Operand} {b : Bool} {p : Pd} (hc : e.ev c = pl (.bool b)) (hx : b = true → e.ev x = p) (hy : b = false → e.ev y = p) : OpD P ⟨dst, .pick c x y, ty, pos, after, guard⟩ e s p s :=
  opD_look fun g a w ha _ => by
    have h1 : a.eval c = .bool b := by have := ha c (by simp [Op.operands]); rw [hc] at this; exact this
    cases b with
    | true => exact ⟨a.eval x, by generalize a.eval = ρ at h1 ⊢; simp [execOp, h1, asBool, go_sem], by rw [← hx rfl]; exact ha x (by simp [Op.operands])⟩
    | false => exact ⟨a.eval y, by generalize a.eval = ρ at h1 ⊢; simp [execOp, h1, asBool, go_sem], by rw [← hy rfl]; exact ha y (by simp [Op.operands])⟩

theorem opD_nilCheck_ptr {x : Operand} {b off : Nat} (hx : e.ev x = ptr b off) : OpD P ⟨dst, .nilCheck x, ty, pos, after, guard⟩ e s (ptr b off) s :=
  opD_look fun g a w ha _ => by
    have h1 := ha x (by simp [Op.operands])
    rw [hx] at h1
    obtain ⟨k, hk, hv⟩ := h1
    exact ⟨a.eval x, by generalize a.eval = ρ at hv ⊢; simp [execOp, hv, go_sem], k, hk, hv⟩
theorem opD_nilCheck_el {α : Type} {k : Kn α} {l : List α} {i off : Nat} {x : Operand} (hx : e.ev x = el k l i off) : OpD P ⟨dst, .nilCheck x, ty, pos, after, guard⟩ e s (el k l i off) s :=
  opD_look fun g a w ha _ => by
    have h1 := ha x (by simp [Op.operands])
    rw [hx] at h1
    obtain ⟨b, o, hv, hc⟩ := h1
    exact ⟨a.eval x, by generalize a.eval = ρ at hv ⊢; simp [execOp, hv, go_sem], b, o, hv, hc⟩

theorem opD_bin {op : BinOp} {xt yt : TypeId} {x y : Operand} {u v r : Value} (hx : e.ev x = pl u) (hy : e.ev y = pl v) (hg : ∀ w, (eqGuard op xt x y u v).run P w = .ok () w) (hr : ∀ w, (binOp op xt u v).run P w = .ok r w) :
    OpD P ⟨dst, .binOp op xt x y yt, ty, pos, after, guard⟩ e s (pl r) s :=
  opD_look fun g a w ha _ => by
    have h1 : a.eval x = u := by have := ha x (by simp [Op.operands]); rw [hx] at this; exact this
    have h2 : a.eval y = v := by have := ha y (by simp [Op.operands]); rw [hy] at this; exact this
    exact ⟨r, by generalize a.eval = ρ at h1 h2 ⊢; simp [execOp, h1, h2, go_sem, hg, hr], rfl⟩

theorem opD_un {op : UnOp} {xt : TypeId} {x : Operand} {u r : Value} (hx : e.ev x = pl u) (hr : ∀ w, (Op.unary op u).run P w = .ok r w) : OpD P ⟨dst, .unOp op xt x, ty, pos, after, guard⟩ e s (pl r) s :=
  opD_look fun g a w ha _ => by
    have h1 : a.eval x = u := by have := ha x (by simp [Op.operands]); rw [hx] at this; exact this
    exact ⟨r, by generalize a.eval = ρ at h1 ⊢; simp [execOp, h1, go_sem, hr], rfl⟩

theorem opD_convert {src dt : TypeId} {x : Operand} {u r : Value} (hx : e.ev x = pl u) (hr : ∀ w, (convert src dt u).run P w = .ok r w) : OpD P ⟨dst, .convert src dt x, ty, pos, after, guard⟩ e s (pl r) s :=
  opD_look fun g a w ha _ => by
    have h1 : a.eval x = u := by have := ha x (by simp [Op.operands]); rw [hx] at this; exact this
    exact ⟨r, by generalize a.eval = ρ at h1 ⊢; simp [execOp, h1, go_sem, hr], rfl⟩

theorem opD_builtin {b : Builtin} {xs : Array Operand} {ats : Array TypeId} {r : Value} (us : Array Value) (hx : ∀ (g : G) (a : Act) (w : World), (∀ x ∈ xs, (e.ev x).h g w (a.eval x)) → xs.map a.eval = us)
    (hr : ∀ w cs, (builtin b ats ty cs us).run P w = .ok (.value r) w) : OpD P ⟨dst, .call { callee := .builtin b, args := xs, argTypes := ats }, ty, pos, after, guard⟩ e s (pl r) s :=
  opD_look fun g a w ha _ => by
    have h1 := hx g a w fun x hx => ha x (by simpa [Op.operands, Call.operands] using hx)
    exact ⟨r, by show (builtin b ats ty _ (xs.map a.eval)).run P w = _; rw [h1]; exact hr w _, rfl⟩
end
end Go.Proofs.YtmnhfpcbfdgbcaaDoor.Eng
