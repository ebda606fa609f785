/- Plain mathematics of numbers as few bytes: no program in sight. -/
import Derived.WalkKit
import Derived.Orders
import Derived.Below
import Derived.Tactics
import Derived.TacticsIn
import Derived.OrdersIn
import Derived.RangeFuncOwn
import Derived.WalkSpells
import Derived.Laws.Rows
import Derived.Laws.Tables
import Derived.RangeFuncLeaves
import Derived.RangeFuncRecord
import Derived.Lib.ConvBytes
import Derived.Laws.BytesString
import Derived.Laws.Append
import Derived.Laws.AppendOwn
namespace Go.Proofs.YtokcgacehdgkcaaGreatDoor.Plain
set_option linter.unusedVariables false
set_option linter.unusedSimpArgs false

/-- The bytes of a number, seven bits each. -/
def vb (n : Nat) : List Int := if n < 128 then [(n : Int)] else ((n % 128 + 128 : Nat) : Int) :: vb (n / 128)
termination_by n
decreasing_by omega

theorem vb_small {n : Nat} (h : n < 128) : vb n = [(n : Int)] := by rw [vb, if_pos h]
theorem vb_big {n : Nat} (h : ¬ n < 128) : vb n = ((n % 128 + 128 : Nat) : Int) :: vb (n / 128) := by rw [vb, if_neg h]

theorem vb_len (d : Nat) : ∀ n, n < 128 ^ (d + 1) → 1 ≤ (vb n).length ∧ (vb n).length ≤ d + 1 := by
  induction d with
  | zero => intro n h; rw [vb_small (by simpa using h)]; simp
  | succ d ih =>
    intro n h
    by_cases hn : n < 128
    · rw [vb_small hn]; simp
    · rw [vb_big hn]
      have := ih (n / 128) (by rw [Nat.pow_succ] at h; omega)
      simp only [List.length_cons]; omega

theorem vb_len10 {n : Nat} (h : n < 18446744073709551616) : 1 ≤ (vb n).length ∧ (vb n).length ≤ 10 := vb_len 9 n (by omega)

/-- Bytes, as whole numbers. -/
def Bts (l : List Int) : Prop := ∀ x, x ∈ l → 0 ≤ x ∧ x < 256
theorem Bts.nil : Bts [] := fun _ h => by simp at h
theorem Bts.app {a b : List Int} (ha : Bts a) (hb : Bts b) : Bts (a ++ b) := fun x h => (List.mem_append.1 h).elim (ha x) (hb x)
theorem Bts.left {a b : List Int} (h : Bts (a ++ b)) : Bts a := fun x hx => h x (List.mem_append_left _ hx)
theorem Bts.right {a b : List Int} (h : Bts (a ++ b)) : Bts b := fun x hx => h x (List.mem_append_right _ hx)
theorem Bts.drop {a : List Int} (h : Bts a) (n : Nat) : Bts (a.drop n) := fun x hx => h x (List.mem_of_mem_drop hx)
theorem Bts.take {a : List Int} (h : Bts a) (n : Nat) : Bts (a.take n) := fun x hx => h x (List.mem_of_mem_take hx)
theorem Bts.one {c : Int} (h0 : 0 ≤ c) (h1 : c < 256) : Bts [c] := fun x hx => by simp at hx; subst hx; exact ⟨h0, h1⟩
theorem Bts.cons {c : Int} {l : List Int} (h0 : 0 ≤ c) (h1 : c < 256) (h : Bts l) : Bts (c :: l) := fun x hx => by
  rcases List.mem_cons.1 hx with rfl | hx
  · exact ⟨h0, h1⟩
  · exact h x hx

theorem vb_bts (n : Nat) : Bts (vb n) := by
  induction n using Nat.strongRecOn with
  | ind n ih =>
    by_cases h : n < 128
    · rw [vb_small h]; exact Bts.one (by omega) (by omega)
    · rw [vb_big h]; exact Bts.cons (by omega) (by omega) (ih _ (by omega))

/-- The number at the beginning of bytes: behind i bytes that came to v: the value, how many bytes, the error. -/
def vgl : List Int → Nat → Nat → Nat × Nat × Option Int
  | [], _, _ => (0, 0, some 6)
  | c :: t, i, v => if i = 9 ∧ 1 < c then (0, 0, some 2) else if c = 0 ∧ 0 < i then (0, 0, some 3) else
      if c < 128 then (v + c.toNat * 128 ^ i, i + 1, none) else vgl t (i + 1) (v + (c.toNat - 128) * 128 ^ i)
def vget (l : List Int) : Nat × Nat × Option Int := vgl l 0 0

theorem vgl_ok : ∀ (l : List Int) (i v : Nat) {x n : Nat}, vgl l i v = (x, n, none) → i < n ∧ n ≤ i + l.length
  | [], i, v, x, n, h => by simp [vgl] at h
  | c :: t, i, v, x, n, h => by
    rw [vgl] at h
    by_cases h1 : i = 9 ∧ 1 < c
    · rw [if_pos h1] at h; simp at h
    · rw [if_neg h1] at h
      by_cases h2 : c = 0 ∧ 0 < i
      · rw [if_pos h2] at h; simp at h
      · rw [if_neg h2] at h
        by_cases h3 : c < 128
        · rw [if_pos h3] at h; simp at h; simp; omega
        · rw [if_neg h3] at h
          have := vgl_ok t (i + 1) _ h
          simp; omega
theorem vget_ok {l : List Int} {x n : Nat} (h : vget l = (x, n, none)) : 1 ≤ n ∧ n ≤ l.length := by
  have := vgl_ok l 0 0 h
  omega
theorem vgl_vb (n : Nat) : ∀ (t : List Int) (i v : Nat), n * 128 ^ i < 18446744073709551616 → (0 < i → 0 < n) → i ≤ 9 → vgl (vb n ++ t) i v = (v + n * 128 ^ i, i + (vb n).length, none) := by
  induction n using Nat.strongRecOn with
  | ind n ih =>
    intro t i v hn hi h9
    by_cases h : n < 128
    · rw [vb_small h, List.cons_append, List.nil_append, vgl]
      have h1 : ¬ (i = 9 ∧ (1 : Int) < (n : Int)) := by
        rintro ⟨rfl, h1⟩
        have : 2 * 128 ^ 9 ≤ n * 128 ^ 9 := Nat.mul_le_mul_right _ (by omega)
        omega
      rw [if_neg h1, if_neg (by omega), if_pos (by omega)]
      simp
    · rw [vb_big h, List.cons_append, vgl]
      have h2 : i ≠ 9 := by
        rintro rfl
        have : 128 * 128 ^ 9 ≤ n * 128 ^ 9 := Nat.mul_le_mul_right _ (by omega)
        omega
      rw [if_neg (by omega), if_neg (by omega), if_neg (by omega)]
      have hp : 0 < 128 ^ i := Nat.pow_pos (by omega)
      have hd : (n / 128) * 128 ^ (i + 1) ≤ n * 128 ^ i := by
        rw [Nat.pow_succ, ← Nat.mul_assoc, Nat.mul_right_comm]
        exact Nat.mul_le_mul_right _ (Nat.div_mul_le_self n 128)
      rw [ih (n / 128) (by omega) t (i + 1) _ (by omega) (by omega) (by omega)]
      have e1 : ((n % 128 + 128 : Nat) : Int).toNat - 128 = n % 128 := by omega
      rw [e1]
      have e2 : n % 128 * 128 ^ i + n / 128 * 128 ^ (i + 1) = n * 128 ^ i := by
        have e3 : n % 128 + n / 128 * 128 = n := by omega
        rw [Nat.pow_succ, ← Nat.mul_assoc, Nat.mul_right_comm, ← Nat.add_mul, e3]
      simp only [List.length_cons]
      refine Prod.ext ?_ (Prod.ext ?_ rfl)
      · show v + n % 128 * 128 ^ i + n / 128 * 128 ^ (i + 1) = v + n * 128 ^ i
        omega
      · show i + 1 + (vb (n / 128)).length = i + ((vb (n / 128)).length + 1)
        omega
/-- A number comes back from its bytes, whatever stands behind. -/
theorem vget_vb {n : Nat} (hn : n < 18446744073709551616) (t : List Int) : vget (vb n ++ t) = (n, (vb n).length, none) := by
  have := vgl_vb n t 0 0 (by simpa using hn) (by omega) (by omega)
  simpa [vget] using this

/-- A reader's bytes, and whether something was wrong: one number taken. -/
def rdNum (most : Nat) (l : List Int) (b : Bool) : Nat × List Int × Bool :=
  if (vget l).2.2 = none ∧ (vget l).1 ≤ most then ((vget l).1, l.drop (vget l).2.1, b) else (0, [], true)
/-- One field of bytes taken. -/
def rdBytes (most : Nat) (l : List Int) (b : Bool) : List Int × List Int × Bool :=
  if (rdNum most l b).1 ≤ (rdNum most l b).2.1.length then ((rdNum most l b).2.1.take (rdNum most l b).1, (rdNum most l b).2.1.drop (rdNum most l b).1, (rdNum most l b).2.2) else ([], [], true)
/-- One byte taken. -/
def rdByte (l : List Int) (b : Bool) : Int × List Int × Bool := (l.headD 0, l.tail, b || l.isEmpty)

theorem rdNum_le (most : Nat) (l : List Int) (b : Bool) : (rdNum most l b).1 ≤ most ∧ (rdNum most l b).2.1.length ≤ l.length := by
  unfold rdNum
  by_cases h : (vget l).2.2 = none ∧ (vget l).1 ≤ most
  · rw [if_pos h]; exact ⟨h.2, by simp⟩
  · rw [if_neg h]; simp
theorem rdNum_vb {n most : Nat} (hn : n < 18446744073709551616) (hm : n ≤ most) (t : List Int) (b : Bool) : rdNum most (vb n ++ t) b = (n, t, b) := by
  unfold rdNum
  rw [vget_vb hn]
  simp [hm]
theorem rdBytes_vb {most : Nat} {m t : List Int} (hm : m.length ≤ most) (h : m.length < 18446744073709551616) (b : Bool) : rdBytes most (vb m.length ++ (m ++ t)) b = (m, t, b) := by
  unfold rdBytes
  rw [rdNum_vb h hm]
  simp
end Go.Proofs.YtokcgacehdgkcaaGreatDoor.Plain

/- The engine, first part: values by what they stand for, states, and the rules of code. -/
namespace Go.Proofs.YtokcgacehdgkcaaGreatDoor.Eng
open Go.RowKit

/-- What is known beside the world: how many cells of a block stay as they are; which blocks are variables; which rows are one's own. -/
structure BE where
  blk : Option Nat
  ver : Nat
  cnt : Nat

structure G where
  sld : Nat → Nat
  box : List BE
  own : Nat → Option (Nat × Nat)
  base : Nat

theorem take_get {α : Type} {l : List α} {n i : Nat} {x : α} (h : (l.take n)[i]? = some x) : i < n ∧ l[i]? = some x := by
  have hi := (List.getElem?_eq_some_iff.1 h).1
  rw [List.length_take] at hi
  rw [List.getElem?_take_of_lt (by omega)] at h
  exact ⟨by omega, h⟩
/-- Is a block a variable's? -/
def G.isB (g : G) (k : Nat) : Prop := ∃ (i : Nat) (e : BE), g.box[i]? = some e ∧ e.blk = some k

structure Ext (g : G) (w : World) (g' : G) (w' : World) : Prop where
  os : w'.os = w.os
  tape : w'.tape = w.tape
  output : w'.output = w.output
  size : w.heap.size ≤ w'.heap.size
  sld : ∀ b, g.sld b ≤ g'.sld b
  cell : ∀ b o, o < g.sld b → w'.cell? ⟨b, o, none⟩ = w.cell? ⟨b, o, none⟩
  box : ∀ (i : Nat) (e : BE), g.box[i]? = some e → ∃ e', g'.box[i]? = some e' ∧ e.ver ≤ e'.ver ∧ (e.ver = e'.ver → e' = e)
  boxf : ∀ k, g'.isB k → g.isB k ∨ w.heap.size ≤ k
  own : ∀ b i, g.own b = some i → g'.own b = some i
  fresh : ∀ b i, g'.own b = some i → g.own b = some i ∨ w.heap.size ≤ b
  block : ∀ b, b < g.base → b < w.heap.size → ¬ g.isB b → g.own b = none → w'.heap[b]? = w.heap[b]?
  base : g'.base = g.base
  oth : ∀ b o, w.heap[b]? = some o → o.isCells = false → ¬ g.isB b → w'.heap[b]? = some o

/-- The same, without the objects that are no cells. -/
structure Ext0 (g : G) (w : World) (g' : G) (w' : World) : Prop where
  os : w'.os = w.os
  tape : w'.tape = w.tape
  output : w'.output = w.output
  size : w.heap.size ≤ w'.heap.size
  sld : ∀ b, g.sld b ≤ g'.sld b
  cell : ∀ b o, o < g.sld b → w'.cell? ⟨b, o, none⟩ = w.cell? ⟨b, o, none⟩
  box : ∀ (i : Nat) (e : BE), g.box[i]? = some e → ∃ e', g'.box[i]? = some e' ∧ e.ver ≤ e'.ver ∧ (e.ver = e'.ver → e' = e)
  boxf : ∀ k, g'.isB k → g.isB k ∨ w.heap.size ≤ k
  own : ∀ b i, g.own b = some i → g'.own b = some i
  fresh : ∀ b i, g'.own b = some i → g.own b = some i ∨ w.heap.size ≤ b
  block : ∀ b, b < g.base → b < w.heap.size → ¬ g.isB b → g.own b = none → w'.heap[b]? = w.heap[b]?
  base : g'.base = g.base
theorem Ext.to0 {g g' : G} {w w' : World} (h : Ext g w g' w') : Ext0 g w g' w' :=
  ⟨h.os, h.tape, h.output, h.size, h.sld, h.cell, h.box, h.boxf, h.own, h.fresh, h.block, h.base⟩

theorem Ext.refl (g : G) (w : World) : Ext g w g w :=
  ⟨rfl, rfl, rfl, Nat.le_refl _, fun _ => Nat.le_refl _, fun _ _ _ => rfl, fun _ e h => ⟨e, h, Nat.le_refl _, fun _ => rfl⟩, fun _ h => .inl h, fun _ _ h => h, fun _ _ h => .inl h, fun _ _ _ _ _ => rfl, rfl, fun _ _ h _ _ => h⟩

theorem Ext.trans {g g1 g2 : G} {w w1 w2 : World} (h : Ext g w g1 w1) (k : Ext g1 w1 g2 w2) : Ext g w g2 w2 := by
  refine ⟨k.os.trans h.os, k.tape.trans h.tape, k.output.trans h.output, Nat.le_trans h.size k.size, fun b => Nat.le_trans (h.sld b) (k.sld b), fun b o ho => ?_, fun i e he => ?_, fun b hb => ?_, fun b i hi => k.own b i (h.own b i hi), fun b i hi => ?_, fun b hbb hb hn ho => ?_, k.base.trans h.base, fun b o hb ho hn => k.oth b o (h.oth b o hb ho hn) ho fun hm => ?_⟩
  · rw [k.cell b o (Nat.lt_of_lt_of_le ho (h.sld b)), h.cell b o ho]
  · obtain ⟨e1, h1, h2, h3⟩ := h.box i e he
    obtain ⟨e2, h4, h5, h6⟩ := k.box i e1 h1
    exact ⟨e2, h4, Nat.le_trans h2 h5, fun hv => by
      have : e.ver = e1.ver := by omega
      have h7 := h3 this
      subst h7
      exact h6 hv⟩
  · rcases k.boxf b hb with h1 | h1
    · exact h.boxf b h1
    · exact .inr (Nat.le_trans h.size h1)
  · rcases k.fresh b i hi with h1 | h1
    · exact h.fresh b i h1
    · exact .inr (Nat.le_trans h.size h1)
  · rw [k.block b (by rw [h.base]; exact hbb) (Nat.lt_of_lt_of_le hb h.size) ?_ ?_, h.block b hbb hb hn ho]
    · intro hm
      rcases h.boxf b hm with hm | hm
      · exact hn hm
      · omega
    · cases hg : g1.own b with
      | none => rfl
      | some i =>
        rcases h.fresh b i hg with h1 | h1
        · rw [ho] at h1; cases h1
        · omega
  · rcases h.boxf b hm with hm | hm
    · exact hn hm
    · have := (Array.getElem?_eq_some_iff.1 hb).1
      omega

theorem Ext.drew (g : G) (w : World) : Ext g w g { w with drawn := w.drawn + 1 } :=
  ⟨rfl, rfl, rfl, Nat.le_refl _, fun _ => Nat.le_refl _, fun _ _ _ => rfl, fun _ e h => ⟨e, h, Nat.le_refl _, fun _ => rfl⟩, fun _ h => .inl h, fun _ _ h => h, fun _ _ h => .inl h, fun _ _ _ _ _ => rfl, rfl, fun _ _ h _ _ => h⟩

/-- What a value stands for. -/
structure Pd where
  h : G → World → Value → Prop
  mono0 : ∀ {g w g' w' v}, Ext0 g w g' w' → h g w v → h g' w' v
theorem Pd.mono (p : Pd) {g w g' w' v} (x : Ext g w g' w') (h : p.h g w v) : p.h g' w' v := p.mono0 x.to0 h

/-- It speaks of no variable from n on, and of no row of one's own from m on. -/
def Pd.Bnd (p : Pd) (n m : Nat) : Prop :=
  ∀ (g g' : G) (w : World) (v : Value), (g'.sld = g.sld ∧ g'.base = g.base) → (∀ i k, i < n → g.box[i]? = some k → g'.box[i]? = some k) → (∀ b id c, id < m → g.own b = some (id, c) → g'.own b = some (id, c)) → p.h g w v → p.h g' w v

theorem Pd.Bnd.up {p : Pd} {n m n' m' : Nat} (h : p.Bnd n m) (hn : n ≤ n') (hm : m ≤ m') : p.Bnd n' m' :=
  fun g g' w v h1 h2 h3 hp => h g g' w v h1 (fun i k hi => h2 i k (Nat.lt_of_lt_of_le hi hn)) (fun b id c hi => h3 b id c (Nat.lt_of_lt_of_le hi hm)) hp

def Pds (g : G) (w : World) : List Pd → List Value → Prop
  | [], [] => True
  | p :: ps, v :: vs => p.h g w v ∧ Pds g w ps vs
  | _, _ => False

theorem Pds.mono {g g' : G} {w w' : World} (h : Ext g w g' w') : ∀ {ps : List Pd} {vs : List Value}, Pds g w ps vs → Pds g' w' ps vs
  | [], [], _ => trivial
  | p :: _, _ :: _, ⟨h1, h2⟩ => ⟨p.mono h h1, Pds.mono h h2⟩
  | [], _ :: _, h => h.elim
  | _ :: _, [], h => h.elim

theorem Pds.mono0 {g g' : G} {w w' : World} (h : Ext0 g w g' w') : ∀ {ps : List Pd} {vs : List Value}, Pds g w ps vs → Pds g' w' ps vs
  | [], [], _ => trivial
  | p :: _, _ :: _, ⟨h1, h2⟩ => ⟨p.mono0 h h1, Pds.mono0 h h2⟩
  | [], _ :: _, h => h.elim
  | _ :: _, [], h => h.elim

theorem Pds.length {g : G} {w : World} : ∀ {ps : List Pd} {vs : List Value}, Pds g w ps vs → vs.length = ps.length
  | [], [], _ => rfl
  | _ :: _, _ :: _, ⟨_, h2⟩ => by simp [Pds.length h2]
  | [], _ :: _, h => h.elim
  | _ :: _, [], h => h.elim

theorem Pds.get {g : G} {w : World} : ∀ {ps : List Pd} {vs : List Value}, Pds g w ps vs → ∀ (i : Nat) (p : Pd), ps[i]? = some p → ∃ v, vs[i]? = some v ∧ p.h g w v
  | [], [], _, i, p, h => by simp at h
  | q :: _, v :: _, ⟨h1, h2⟩, i, p, h => by
    cases i with
    | zero => simp at h; subst h; exact ⟨v, rfl, h1⟩
    | succ i => simp at h; simpa using Pds.get h2 i p h
  | [], _ :: _, h, _, _, _ => h.elim
  | _ :: _, [], h, _, _, _ => h.elim

theorem Pds.bnd {g g' : G} {w : World} {n m : Nat} (hs : g'.sld = g.sld ∧ g'.base = g.base) (hb : ∀ i k, i < n → g.box[i]? = some k → g'.box[i]? = some k) (ho : ∀ b id c, id < m → g.own b = some (id, c) → g'.own b = some (id, c)) :
    ∀ {ps : List Pd} {vs : List Value}, (∀ p ∈ ps, p.Bnd n m) → Pds g w ps vs → Pds g' w ps vs
  | [], [], _, _ => trivial
  | p :: _, _ :: _, hp, ⟨h1, h2⟩ => ⟨hp p (by simp) g g' w _ hs hb ho h1, Pds.bnd hs hb ho (fun q hq => hp q (by simp [hq])) h2⟩
  | [], _ :: _, _, h => h.elim
  | _ :: _, [], _, h => h.elim

theorem Pds.append {g : G} {w : World} : ∀ {ps qs : List Pd} {vs us : List Value}, Pds g w ps vs → Pds g w qs us → Pds g w (ps ++ qs) (vs ++ us)
  | [], _, [], _, _, h => h
  | _ :: _, _, _ :: _, _, ⟨h1, h2⟩, h => ⟨h1, Pds.append h2 h⟩
  | [], _, _ :: _, _, h, _ => h.elim
  | _ :: _, _, [], _, h, _ => h.elim

theorem Pds.set {g : G} {w : World} : ∀ {ps : List Pd} {vs : List Value} (i : Nat) {p : Pd} {v : Value}, Pds g w ps vs → p.h g w v → Pds g w (ps.set i p) (vs.set i v)
  | [], [], _, _, _, _, _ => trivial
  | _ :: _, _ :: _, 0, _, _, ⟨_, h2⟩, h => ⟨h, h2⟩
  | _ :: _, _ :: _, i + 1, _, _, ⟨h1, h2⟩, h => ⟨h1, Pds.set i h2 h⟩
  | [], _ :: _, _, _, _, h, _ => h.elim
  | _ :: _, [], _, _, _, h, _ => h.elim

theorem Pds.take {g : G} {w : World} : ∀ {ps : List Pd} {vs : List Value} (i : Nat), Pds g w ps vs → Pds g w (ps.take i) (vs.take i)
  | [], [], i, _ => by simp [Pds]
  | _ :: _, _ :: _, 0, _ => trivial
  | _ :: _, _ :: _, i + 1, ⟨h1, h2⟩ => ⟨h1, Pds.take i h2⟩
  | [], _ :: _, _, h => h.elim
  | _ :: _, [], _, h => h.elim

theorem Pds.drop {g : G} {w : World} : ∀ {ps : List Pd} {vs : List Value} (i : Nat), Pds g w ps vs → Pds g w (ps.drop i) (vs.drop i)
  | [], [], i, _ => by simp [Pds]
  | _ :: _, _ :: _, 0, h => h
  | _ :: _, _ :: _, i + 1, ⟨_, h2⟩ => Pds.drop i h2
  | [], _ :: _, _, h => h.elim
  | _ :: _, [], _, h => h.elim

/-- A variable: its type, and what its cells stand for. -/
structure Bx where
  t : TypeId
  cs : List Pd

/-- A row of one's own: its elements' type, their size, and how many have been handed out. -/
structure Fr where
  t : TypeId
  sz : Nat
  n : Nat

structure St where
  boxes : List Bx
  fr : List Fr
  stat : Pd

/-- The first of these values; there may be more. -/
def PdsP (g : G) (w : World) (ps : List Pd) (vs : List Value) : Prop := Pds g w ps (vs.take ps.length)
theorem PdsP.mono {g g' : G} {w w' : World} (h : Ext g w g' w') {ps : List Pd} {vs : List Value} (hp : PdsP g w ps vs) : PdsP g' w' ps vs := Pds.mono h hp
theorem PdsP.mono0 {g g' : G} {w w' : World} (h : Ext0 g w g' w') {ps : List Pd} {vs : List Value} (hp : PdsP g w ps vs) : PdsP g' w' ps vs := Pds.mono0 h hp
theorem PdsP.len {g : G} {w : World} {ps : List Pd} {vs : List Value} (hp : PdsP g w ps vs) : ps.length ≤ vs.length := by
  have := Pds.length hp
  rw [List.length_take] at this; omega
theorem Pds.pre {g : G} {w : World} {ps : List Pd} {vs : List Value} (hp : Pds g w ps vs) : PdsP g w ps vs := by
  unfold PdsP
  rw [List.take_of_length_le (by rw [hp.length]; exact Nat.le_refl _)]; exact hp
theorem PdsP.get {g : G} {w : World} {ps : List Pd} {vs : List Value} (hp : PdsP g w ps vs) (i : Nat) (p : Pd) (hi : ps[i]? = some p) : ∃ v, vs[i]? = some v ∧ p.h g w v := by
  obtain ⟨v, h1, h2⟩ := Pds.get hp i p hi
  rw [List.getElem?_take_of_lt (List.getElem?_eq_some_iff.1 hi).1] at h1
  exact ⟨v, h1, h2⟩
theorem PdsP.bnd {g g' : G} {w : World} {n m : Nat} (hs : g'.sld = g.sld ∧ g'.base = g.base) (hb : ∀ i k, i < n → g.box[i]? = some k → g'.box[i]? = some k) (ho : ∀ b id c, id < m → g.own b = some (id, c) → g'.own b = some (id, c)) {ps : List Pd} {vs : List Value} (hq : ∀ p ∈ ps, p.Bnd n m) (hp : PdsP g w ps vs) : PdsP g' w ps vs := Pds.bnd hs hb ho hq hp
theorem PdsP.append {g : G} {w : World} {ps qs : List Pd} {vs us : List Value} (h : Pds g w ps vs) (h2 : PdsP g w qs us) : PdsP g w (ps ++ qs) (vs ++ us) := by
  unfold PdsP
  rw [List.length_append, ← h.length, List.take_length_add_append]
  exact Pds.append h h2
theorem PdsP.drop {g : G} {w : World} {ps : List Pd} {vs : List Value} (h : PdsP g w ps vs) (i : Nat) : PdsP g w (ps.drop i) (vs.drop i) := by
  have := Pds.drop i h
  unfold PdsP
  rw [List.length_drop]
  rwa [List.drop_take] at this
theorem PdsP.part {g : G} {w : World} {ps : List Pd} {vs : List Value} (h : PdsP g w ps vs) {n : Nat} (hn : n ≤ ps.length) : Pds g w (ps.take n) (vs.take n) := by
  have := Pds.take n h
  rwa [List.take_take, Nat.min_eq_left hn] at this
theorem PdsP.set {g : G} {w : World} {ps : List Pd} {vs : List Value} (h : PdsP g w ps vs) (i : Nat) {p : Pd} {v : Value} (hp : p.h g w v) : PdsP g w (ps.set i p) (vs.set i v) := by
  have := Pds.set i h hp
  unfold PdsP
  rw [List.length_set, List.take_set]
  exact this

/-- From here on a box's type tells more: how often its block was another one; a map, or one who goes through a map. -/
def HOT : Nat := 1099511627776
def entsOf : Nat → List Value → List MapEntry
  | n + 1, k :: v :: .int _ b :: r => ⟨k, v, b.toNat⟩ :: entsOf n r
  | _, _ => []
def natV : Value → Nat
  | .int _ n => n.toNat
  | _ => 0
def rawObj : List Value → Obj
  | .agg cs :: _ =>
    match cs.toList with
    | .int _ c :: .int _ n :: r => .map (entsOf n.toNat r).toArray c.toNat
    | .map m :: .int _ s :: .int _ l :: r => .mapIter m s.toNat (r.map natV).toArray l.toNat
    | _ => .number ⟨0, 0, none⟩ false
  | _ => .number ⟨0, 0, none⟩ false
/-- The version: 0 a plain variable, 1 a map, from 2 on a row. -/
def Bx.ver (B : Bx) : Nat := B.t / HOT
def Bx.obj (B : Bx) (vs : Array Value) : Obj := if Nat.beq (B.t / HOT) 1 then rawObj vs.toList else .cells vs (B.t % HOT) (0, 0)
/-- Is it a variable that may be written? -/
def Bx.live (B : Bx) : Prop := B.cs ≠ [] ∨ 2 ≤ B.ver ∧ B.ver % 2 = 0
theorem ver_plain {B : Bx} (h : Nat.blt B.t HOT = true) : B.ver = 0 := Nat.div_eq_of_lt (Eq.mp Nat.blt_eq h)
theorem obj_cells {B : Bx} (h : Nat.blt B.t HOT = true) (vs : Array Value) : B.obj vs = .cells vs B.t (0, 0) := by
  have h0 : B.t / HOT = 0 := ver_plain h
  have h1 : B.t % HOT = B.t := Nat.mod_eq_of_lt (Eq.mp Nat.blt_eq h)
  unfold Bx.obj; rw [h0, h1]; rfl
theorem obj_same {B C : Bx} (h : B.t = C.t) (vs : Array Value) : B.obj vs = C.obj vs := by unfold Bx.obj; rw [h]
theorem ver_same {B C : Bx} (h : B.t = C.t) : B.ver = C.ver := by unfold Bx.ver; rw [h]
/-- What lies where a box lies. -/
def Cont (w : World) (e : BE) (B : Bx) (vs : Array Value) : Prop :=
  match e.blk with
  | some k => w.heap[k]? = some (B.obj vs) ∧ (2 ≤ B.ver → vs.size = e.cnt)
  | none => vs = #[] ∧ e.cnt = 0
theorem Cont.to {w w' : World} {e : BE} {B : Bx} {vs : Array Value} (h : Cont w e B vs) (hh : ∀ k, e.blk = some k → k < w.heap.size → w'.heap[k]? = w.heap[k]?) : Cont w' e B vs := by
  unfold Cont at h ⊢
  cases hk : e.blk with
  | none => rw [hk] at h; exact h
  | some k =>
    rw [hk] at h
    exact ⟨by rw [hh k hk (Array.getElem?_eq_some_iff.1 h.1).1]; exact h.1, h.2⟩
theorem Cont.same {w : World} {e : BE} {B C : Bx} {vs : Array Value} (h : Cont w e B vs) (ht : B.t = C.t) : Cont w e C vs := by
  unfold Cont at h ⊢
  rw [← ver_same ht]
  cases hk : e.blk with
  | none => rw [hk] at h; exact h
  | some k => rw [hk] at h; rw [← obj_same ht]; exact h
theorem Cont.lt {w : World} {e : BE} {B : Bx} {vs : Array Value} (h : Cont w e B vs) {k : Nat} (hk : e.blk = some k) : k < w.heap.size := by
  unfold Cont at h
  rw [hk] at h
  exact (Array.getElem?_eq_some_iff.1 h.1).1

structure SRel (g : G) (s : St) (w : World) : Prop where
  len : g.box.length = s.boxes.length
  nd : ∀ (i j : Nat) (e f : BE) (k : Nat), g.box[i]? = some e → g.box[j]? = some f → e.blk = some k → f.blk = some k → i = j
  bx : ∀ (i : Nat) (B : Bx), s.boxes[i]? = some B → ∃ e vs, g.box[i]? = some e ∧ e.ver = B.ver ∧ Cont w e B vs ∧ PdsP g w B.cs vs.toList ∧ (∀ k, e.blk = some k → (B.live → g.sld k = 0) ∧ g.own k = none ∧ g.base ≤ k) ∧ (∀ p ∈ B.cs, p.Bnd s.boxes.length s.fr.length)
  ow : ∀ b id c, g.own b = some (id, c) → ∃ f cs, s.fr[id]? = some f ∧ w.heap[b]? = some (.cells cs f.t (0, 0)) ∧ cs.size = c * f.sz ∧ g.sld b ≤ f.n * f.sz
  sl : ∀ b, g.sld b ≠ 0 → b < w.heap.size
  st : s.stat.h g w .nilFunc
  sb : s.stat.Bnd 0 0
  bz : g.base ≤ w.heap.size

theorem SRel.drew {g : G} {s : St} {w : World} (h : SRel g s w) : SRel g s { w with drawn := w.drawn + 1 } :=
  ⟨h.len, h.nd, fun i B hB => by
    obtain ⟨k, vs, h1, h2, h3, h4, h5⟩ := h.bx i B hB
    exact ⟨k, vs, h1, h2, h3.to fun _ _ _ => rfl, h4.mono (Ext.drew g w), h5⟩, h.ow, h.sl, s.stat.mono (Ext.drew g w) h.st, h.sb, h.bz⟩

/-- A plain variable that is not dead. -/
theorem SRel.at {g : G} {s : St} {w : World} (hs : SRel g s w) {i : Nat} {B : Bx} (hB : s.boxes[i]? = some B) (hne : B.cs ≠ []) : ∃ e k vs, g.box[i]? = some e ∧ e.blk = some k ∧ e.ver = B.ver ∧ w.heap[k]? = some (B.obj vs) ∧ (2 ≤ B.ver → vs.size = e.cnt) ∧ PdsP g w B.cs vs.toList ∧ g.sld k = 0 ∧ g.own k = none ∧ g.base ≤ k ∧ (∀ p ∈ B.cs, p.Bnd s.boxes.length s.fr.length) := by
  obtain ⟨e, vs, h1, h2, h3, h4, h5, h6⟩ := hs.bx i B hB
  unfold Cont at h3
  cases hk : e.blk with
  | none =>
    rw [hk] at h3
    have := h4.len
    rw [h3.1] at this
    exact absurd (List.length_eq_zero_iff.1 (Nat.le_zero.1 this)) hne
  | some k =>
    rw [hk] at h3
    obtain ⟨q1, q2, q3⟩ := h5 k hk
    exact ⟨e, k, vs, h1, hk, h2, h3.1, h3.2, h4, q1 (.inl hne), q2, q3, h6⟩

abbrev Env := Nat → Pd

/-- Nothing is known. -/
def any : Pd := ⟨fun _ _ _ => True, fun _ _ => trivial⟩
/-- This very value. -/
def pl (x : Value) : Pd := ⟨fun _ _ v => v = x, fun _ h => h⟩

def Env.put (e : Env) (d : Option Tmp) (p : Pd) : Env :=
  match d with
  | none => e
  | some d => fun t => if t = d then p else e t

def Env.ev (e : Env) : Operand → Pd
  | .tmp t => e t
  | .const v => pl v
  | .global g => pl (.pointer (some ⟨g, 0, none⟩))
  | .func f => pl (.func (.func f) #[] #[])

/-- The deferred calls are marks of ranges over functions, laid from block m on. -/
def Marks (m : Nat × Option Nat) (g : G) (w : World) : List Deferred → Prop
  | [] => m.1 ≤ w.heap.size ∧ ∀ l, m.2 = some l → ∃ rec, w.heap[l]? = some (.loop rec) ∧ ¬ g.isB l
  | d :: ds => (∃ r, d.target = .collected r ∧ m.1 ≤ r ∧ w.heap[r]? = some (.deferred (some [])) ∧ ¬ g.isB r ∧ ∀ d' ∈ ds, d'.target ≠ .collected r) ∧ Marks m g w ds
theorem Marks.mono {m : Nat × Option Nat} {g g' : G} {w w' : World} (x : Ext g w g' w') : ∀ {ds : List Deferred}, Marks m g w ds → Marks m g' w' ds
  | [], h => ⟨Nat.le_trans h.1 x.size, fun l hl => by
    obtain ⟨rec, h1, h2⟩ := h.2 l hl
    refine ⟨rec, x.oth l _ h1 rfl h2, fun hb => (x.boxf l hb).elim h2 fun hk => ?_⟩
    have := (Array.getElem?_eq_some_iff.1 h1).1
    omega⟩
  | _ :: _, ⟨⟨r, h1, h2, h3, h4, h5⟩, h6⟩ => ⟨⟨r, h1, h2, x.oth r _ h3 rfl h4, fun hb => (x.boxf r hb).elim h4 fun hk => by
      have := (Array.getElem?_eq_some_iff.1 h3).1
      omega, h5⟩, h6.mono x⟩
theorem Marks.sub {m : Nat × Option Nat} {g g' : G} {w : World} (x : ∀ k, g'.isB k → g.isB k) : ∀ {ds : List Deferred}, Marks m g w ds → Marks m g' w ds
  | [], h => ⟨h.1, fun l hl => let ⟨rec, h1, h2⟩ := h.2 l hl; ⟨rec, h1, fun hb => h2 (x l hb)⟩⟩
  | _ :: _, ⟨⟨r, h1, h2, h3, h4, h5⟩, h6⟩ => ⟨⟨r, h1, h2, h3, fun hb => h4 (x r hb), h5⟩, h6.sub x⟩
structure ERel (nt : Nat) (m : Nat × Option Nat) (e : Env) (g : G) (a : Act) (w : World) : Prop where
  size : a.tmps.size = nt
  defers : Marks m g w a.defers
  tmp : ∀ t, (e t).h g w (a.tmps.getD t undef)

theorem ERel.mono {nt : Nat} {m : Nat × Option Nat} {e : Env} {g g' : G} {a : Act} {w w' : World} (h : ERel nt m e g a w) (x : Ext g w g' w') : ERel nt m e g' a w' :=
  ⟨h.size, h.defers.mono x, fun t => (e t).mono x (h.tmp t)⟩

theorem ERel.ev {nt : Nat} {m : Nat × Option Nat} {e : Env} {g : G} {a : Act} {w : World} (h : ERel nt m e g a w) (x : Operand) : (e.ev x).h g w (a.eval x) := by
  cases x with
  | tmp t => exact h.tmp t
  | const v => rfl
  | global g => rfl
  | func f => rfl

theorem ERel.put {nt : Nat} {m : Nat × Option Nat} {e : Env} {g : G} {a : Act} {w : World} (h : ERel nt m e g a w) {d : Option Tmp} (hd : ∀ t, d = some t → t < nt) {p : Pd} {v : Value} (hp : p.h g w v) : ERel nt m (e.put d p) g (a.put d v) w := by
  cases d with
  | none => exact h
  | some d =>
    refine ⟨by simp [Act.put, h.size], h.defers, fun t => ?_⟩
    simp only [Env.put, Act.put]
    by_cases ht : t = d
    · subst ht
      rw [if_pos rfl]
      have : t < a.tmps.size := by rw [h.size]; exact hd t rfl
      rw [Array.getD_eq_getD_getElem?, Array.getElem?_setIfInBounds_self_of_lt this]
      exact hp
    · rw [if_neg ht]
      have hh := h.tmp t
      rw [Array.getD_eq_getD_getElem?] at hh ⊢
      rwa [Array.getElem?_setIfInBounds_ne (Ne.symm ht)]

/-- What is promised of a piece of code: behind it. -/
def Post (nt : Nat) (m : Nat × Option Nat) (Q : Exit → Env → St → Prop) (g : G) (w : World) (x : Exit) (a' : Act) (w' : World) : Prop :=
  ∃ e' s' g', Q x e' s' ∧ Ext g w g' w' ∧ ERel nt m e' g' a' w' ∧ SRel g' s' w'

/-- Any frame: a function's own, or that of a round. -/
def rnd (r : Option Nat) : Fence := { Fence.wide with round := r }
def AW (P : Program) (nt : Nat) (c : Code) (Q : Exit → Env → St → Prop) (e : Env) (s : St) : Prop :=
  ∀ m r g a w, ERel nt (m, r) e g a w → SRel g s w → c.wpIn (rnd r) 0 P (Post nt (m, r) Q g w) a w
/-- Behind operations alone nothing but the end is reached. -/
def only (Q : Exit → Env → St → Prop) : Exit → Env → St → Prop
  | .normal, e, s => Q .normal e s
  | _, _, _ => False
theorem post_only {nt : Nat} {m : Nat × Option Nat} {Q : Exit → Env → St → Prop} {g : G} {w : World} (x : Exit) (a' : Act) (w' : World) : Post nt m (only Q) g w x a' w' → Post nt m Q g w x a' w' := fun ⟨e', s', g', q, r⟩ => by
  cases x with
  | normal => exact ⟨e', s', g', q, r⟩
  | exit i => exact q.elim
  | goto l => exact q.elim
  | ret => exact q.elim
  | panic c => exact q.elim
  | outgrown => exact q.elim
theorem no_let {nt : Nat} {m : Nat × Option Nat} {Q : Exit → Env → St → Prop} {g : G} {w : World} : ¬ LetsOut (Post nt m (only Q) g w) := fun ⟨_, _, _, _, _, q, _⟩ => q
/-! ### Regions, in any frame -/
def Oper.ndf (o : Oper) : Bool := match o.op with | .defer _ => false | _ => true
theorem rowsIn_of {r : Option Nat} {n : Nat} {P : Program} {row : String} {args : Array Value} {w : World} {R : Value → World → Prop} (h : Rows P row args w R) : RowsIn (rnd r) n P row args w R :=
  fun c cs _ => let ⟨v, w', h1, h2⟩ := h c cs; ⟨v, w', h1, stepsIn_wide.2 h2⟩
theorem callsIn_of {r : Option Nat} {n : Nat} {P : Program} {f : FuncId} {args : Array Value} {w : World} {R : Ending → World → Prop} (h : Calls P f args w R) : CallsIn (rnd r) n P f args w R :=
  (callsIn_wide (n := n)).2 h
theorem operIn_of {r : Option Nat} {n : Nat} {P : Program} {o : Oper} {a : Act} {w : World} {next : Act → World → Prop} {Q : Exit → Act → World → Prop} (hd : Oper.ndf o = true) (h : o.wp P a w next Q) : o.wpIn (rnd r) n P a w next Q := by
  refine ⟨fun _ _ => trivial, ?_⟩
  rw [Oper.semAt_eq _ _ _ fun c hc => by simp [Oper.ndf, hc] at hd]
  unfold Oper.wp at h
  generalize (execOp a.eval o).run P w = z at *
  cases z with
  | ok x w' =>
    cases x <;> simp only [Oper.upon] at h <;> simp only [Oper.uponIn]
    all_goals first
      | exact h
      | exact ⟨fun q => by simp [rnd, Fence.wide] at q, callsIn_of h⟩
      | exact ⟨fun q => by simp [rnd, Fence.wide] at q, rowsIn_of h⟩
  | halt x w' => cases x <;> simp only [Oper.upon] at h <;> simp only [Oper.uponIn] <;> exact h
theorem wpOps_in {r : Option Nat} {n : Nat} {P : Program} {ops : Array Oper} {Q : Exit → Act → World → Prop} (hd : ∀ (i : Nat) (o : Oper), ops[i]? = some o → Oper.ndf o = true) (hl : ¬ LetsOut Q) : ∀ (σ : List Nat) (a : Act) (w : World), wpOps P ops Q σ a w → wpOpsIn (rnd r) n P ops Q σ a w
  | [], a, w, h => h
  | i :: σ, a, w, h => by
    simp only [wpOps] at h
    simp only [wpOpsIn]
    cases ho : ops[i]? with
    | none => rw [ho] at h; exact wpOps_in hd hl σ a w h
    | some o =>
      rw [ho] at h
      simp only at h ⊢
      split
      · rename_i hw
        rw [if_pos hw] at h
        exact Oper.wpIn_mono (fun a w => wpOps_in hd hl σ a w) (operIn_of (hd i o ho) (h.resolve_right fun q => hl q.2))
      · rename_i hw
        rw [if_neg hw] at h
        exact ⟨fun _ _ => trivial, wpOps_in hd hl σ _ w h⟩
theorem region_list_in {r : Option Nat} {n : Nat} {P : Program} {Q : Exit → Act → World → Prop} {id : Nat} {l : List Oper} {a : Act} {w : World} (hd : l.all Oper.ndf = true) (hl : ¬ LetsOut Q) (h : wpList P l.toArray Q l a w) : (Code.region id l.toArray false).wpIn (rnd r) n P Q a w := by
  refine wpIn_region (wpOps_in (fun i o ho => List.all_eq_true.1 hd o (List.mem_of_getElem? (by simpa using ho))) hl _ a w ?_)
  have := wpOps_eq_wpList (P := P) (ops := l.toArray) (Q := Q) l 0 (by simp)
  rw [← this] at h
  simpa [List.range_eq_range'] using h
theorem region_any_in {r : Option Nat} {n : Nat} {P : Program} {Q : Exit → Act → World → Prop} {id : Nat} {l : List Oper} {a : Act} {w : World} (hm : P.follows .mixedOrders = true) (hd : l.all Oper.ndf = true) (hl : ¬ LetsOut Q) (h : wpAny P .any l.toArray Q l.toArray.size (Array.replicate l.toArray.size false) a { w with drawn := w.drawn + 1 }) : (Code.region id l.toArray true).wpIn (rnd r) n P Q a w := by
  refine wpIn_region_draw fun t => wpOps_in (fun i o ho => List.all_eq_true.1 hd o (List.mem_of_getElem? (by simpa using ho))) hl _ a _ ?_
  simp only [Region.schedule, hm, Bool.true_or, if_true]
  exact wpAny_sound _ t _ a _ h

theorem AW.mono {P : Program} {nt : Nat} {c : Code} {Q Q' : Exit → Env → St → Prop} {e : Env} {s : St} (h : AW P nt c Q e s) (hq : ∀ x e s, Q x e s → Q' x e s) : AW P nt c Q' e s :=
  fun m r g a w he hs => wpIn_mono (h m r g a w he hs) fun _ _ _ ⟨e', s', g', q, r⟩ => ⟨e', s', g', hq _ _ _ q, r⟩

def Then (K : Env → St → Prop) (Q : Exit → Env → St → Prop) : Exit → Env → St → Prop
  | .normal, e, s => K e s
  | x, e, s => Q x e s

theorem aw_seq {P : Program} {nt : Nat} {c d : Code} {Q : Exit → Env → St → Prop} {e : Env} {s : St} (h : AW P nt c (Then (AW P nt d Q) Q) e s) : AW P nt (.seq c d) Q e s := by
  intro m r g a w he hs
  refine wpIn_seq (wpIn_mono (h m r g a w he hs) ?_)
  rintro x a1 w1 ⟨e1, s1, g1, hq, hx, he1, hs1⟩
  cases x with
  | normal =>
    refine wpIn_mono (hq m r g1 a1 w1 he1 hs1) ?_
    rintro x a2 w2 ⟨e2, s2, g2, hq2, hx2, r⟩
    exact ⟨e2, s2, g2, hq2, hx.trans hx2, r⟩
  | exit i => exact ⟨e1, s1, g1, hq, hx, he1, hs1⟩
  | goto l => exact ⟨e1, s1, g1, hq, hx, he1, hs1⟩
  | ret => exact ⟨e1, s1, g1, hq, hx, he1, hs1⟩
  | panic c => exact ⟨e1, s1, g1, hq, hx, he1, hs1⟩
  | outgrown => exact ⟨e1, s1, g1, hq, hx, he1, hs1⟩

theorem aw_skip {P : Program} {nt : Nat} {Q : Exit → Env → St → Prop} {e : Env} {s : St} (h : Q .normal e s) : AW P nt .skip Q e s :=
  fun _ _ g a w he hs => wpIn_skip ⟨e, s, g, h, Ext.refl _ _, he, hs⟩
theorem aw_ret {P : Program} {nt : Nat} {Q : Exit → Env → St → Prop} {e : Env} {s : St} (h : Q .ret e s) : AW P nt .ret Q e s :=
  fun _ _ g a w he hs => wpIn_ret ⟨e, s, g, h, Ext.refl _ _, he, hs⟩
theorem aw_exit {P : Program} {nt i : Nat} {Q : Exit → Env → St → Prop} {e : Env} {s : St} (h : Q (.exit i) e s) : AW P nt (.exit i) Q e s :=
  fun _ _ g a w he hs => wpIn_exit ⟨e, s, g, h, Ext.refl _ _, he, hs⟩

def InBlock (i : Nat) (Q : Exit → Env → St → Prop) : Exit → Env → St → Prop
  | .exit j, e, s => if j = i then Q .normal e s else Q (.exit j) e s
  | x, e, s => Q x e s

theorem aw_block {P : Program} {nt i : Nat} {c : Code} {Q : Exit → Env → St → Prop} {e : Env} {s : St} (h : AW P nt c (InBlock i Q) e s) : AW P nt (.block i c) Q e s := by
  intro m r g a w he hs
  refine wpIn_block (wpIn_mono (h m r g a w he hs) ?_)
  rintro x a1 w1 ⟨e1, s1, g1, hq, r⟩
  cases x with
  | exit j =>
    simp only [InBlock] at hq
    simp only [Exit.inBlock]
    split
    · rename_i hj; rw [if_pos hj] at hq; exact ⟨e1, s1, g1, hq, r⟩
    · rename_i hj; rw [if_neg hj] at hq; exact ⟨e1, s1, g1, hq, r⟩
  | normal => exact ⟨e1, s1, g1, hq, r⟩
  | goto l => exact ⟨e1, s1, g1, hq, r⟩
  | ret => exact ⟨e1, s1, g1, hq, r⟩
  | panic c => exact ⟨e1, s1, g1, hq, r⟩
  | outgrown => exact ⟨e1, s1, g1, hq, r⟩

theorem aw_cond {P : Program} {nt : Nat} {c : Operand} {x y : Code} {Q : Exit → Env → St → Prop} {e : Env} {s : St} (b : Bool) (hc : e.ev c = pl (.bool b))
    (ht : b = true → AW P nt x Q e s) (hf : b = false → AW P nt y Q e s) : AW P nt (.cond c x y) Q e s := by
  intro m r g a w he hs
  have h1 : a.eval c = .bool b := by
    have := he.ev c
    rw [hc] at this
    exact this
  exact wpIn_cond_split h1 (fun h => ht h m r g a w he hs) (fun h => hf h m r g a w he hs)

/-- A loop: what holds at each round's head, by a number that gets less. -/
theorem aw_loop {P : Program} {nt : Nat} {c : Code} {Q : Exit → Env → St → Prop} {e : Env} {s : St} (I : Nat → Env → St → Prop) (n : Nat) (h0 : I n e s)
    (round : ∀ n e s, I n e s → AW P nt c (Then (fun e' s' => ∃ m, m < n ∧ I m e' s') Q) e s) : AW P nt (.loop c) Q e s := by
  intro m r g a w he hs
  refine wpIn_mono (Q := Post nt (m, r) Q g w) ?_ (fun _ _ _ h => h)
  -- the relation of the concrete loop: some abstract state fits
  have key : ∀ n : Nat, ∀ e s g1 a1 w1, I n e s → Ext g w g1 w1 → ERel nt (m, r) e g1 a1 w1 → SRel g1 s w1 →
      ∀ (b : Frame) (k : List Item) (cs : List Frame), b.roundOf = (rnd r).round → (rnd r).fn b.fn → (rnd r).room (cs.length + 1 + 0) → ∃ x a' w', Post nt (m, r) Q g w x a' w' ∧ ArrivesIn (Machine.fenced P (rnd r)) P (lone (b.atR a1 (.code c :: .inLoop c :: k)) cs w1) b k cs x a' w' := by
    intro n
    induction n using Nat.strongRecOn with
    | _ n ih =>
      intro e s g1 a1 w1 hI hx he hs b k cs hro hb hr
      obtain ⟨x, a2, w2, hq, harr⟩ := round n e s hI m r g1 a1 w1 he hs b (.inLoop c :: k) cs hro hb hr
      obtain ⟨e2, s2, g2, hq, hx2, he2, hs2⟩ := hq
      cases x with
      | normal =>
        obtain ⟨m2, hm, hI2⟩ := hq
        obtain ⟨x3, a3, w3, hq3, harr3⟩ := ih m2 hm e2 s2 g2 a2 w2 hI2 (hx.trans hx2) he2 hs2 b k cs hro hb hr
        exact ⟨x3, a3, w3, hq3, .of_steps (StepsIn.trans harr (.one (fenced_calm hb hr rfl) stepR_inLoop)) harr3⟩
      | exit id => exact ⟨_, a2, w2, ⟨e2, s2, g2, hq, hx.trans hx2, he2, hs2⟩, .pass (x := .inLoop c) rfl (fun _ _ => .inl (by simp)) harr⟩
      | goto l => exact ⟨_, a2, w2, ⟨e2, s2, g2, hq, hx.trans hx2, he2, hs2⟩, .pass (x := .inLoop c) rfl (fun _ _ => .inl (by simp)) harr⟩
      | ret => exact ⟨_, a2, w2, ⟨e2, s2, g2, hq, hx.trans hx2, he2, hs2⟩, .pass (x := .inLoop c) rfl (fun _ _ => .inl (by simp)) harr⟩
      | panic ch => exact ⟨_, a2, w2, ⟨e2, s2, g2, hq, hx.trans hx2, he2, hs2⟩, .pass (x := .inLoop c) rfl (fun _ _ => .inl (by simp)) harr⟩
      | outgrown => exact ⟨_, a2, w2, ⟨e2, s2, g2, hq, hx.trans hx2, he2, hs2⟩, .pass (x := .inLoop c) rfl (fun _ _ => .inl (by simp)) harr⟩
  intro b k cs hro hb hr
  obtain ⟨x, a', w', hq, harr⟩ := key n e s g a w h0 (Ext.refl _ _) he hs b k cs hro hb hr
  exact ⟨x, a', w', hq, .of_steps (.one (fenced_calm hb hr rfl) stepR_loop) harr⟩

end Go.Proofs.YtokcgacehdgkcaaGreatDoor.Eng

/- The engine, second part: regions, in order and drawn. -/
namespace Go.Proofs.YtokcgacehdgkcaaGreatDoor.Eng
open Go.RowKit

/-- One operation, and what it leaves. -/
def OpD (P : Program) (o : Oper) (e : Env) (s : St) (p : Pd) (s' : St) : Prop :=
  ∀ (g : G) (a : Act) (w : World) (next : Act → World → Prop) (Q : Exit → Act → World → Prop), (∀ x ∈ o.op.operands, (e.ev x).h g w (a.eval x)) → SRel g s w →
    (∀ v g' w', p.h g' w' v → Ext g w g' w' → SRel g' s' w' → next (a.put o.dst v) w') → o.wp P a w next Q

def Wants (ops : Array Oper) (o : Oper) (e : Env) (b : Bool) : Prop :=
  match o.guard with
  | none => b = true
  | some (j, want) => ∃ t, (ops[j]?).bind (·.dst) = some t ∧ ((∃ c, e t = pl (.bool c) ∧ (c == want) = b) ∨ (e t = pl undef ∧ b = false))

theorem getD_bool {tmps : Array Value} {t : Nat} {c : Bool} (h : tmps.getD t undef = .bool c) : tmps[t]? = some (.bool c) := by
  rw [Array.getD_eq_getD_getElem?] at h
  cases hh : tmps[t]? with
  | none => rw [hh] at h; cases h
  | some v => rw [hh] at h; simp at h; rw [h]

theorem Wants.wanted {ops : Array Oper} {o : Oper} {e : Env} {b : Bool} (h : Wants ops o e b) {tmps : Array Value} {g : G} {w : World} (ht : ∀ j want t, o.guard = some (j, want) → (ops[j]?).bind (·.dst) = some t → (e t).h g w (tmps.getD t undef)) :
    Region.wanted o (yielded ops tmps) = b := by
  unfold Wants at h
  unfold Region.wanted
  cases hg : o.guard with
  | none => rw [hg] at h; simp only at h; simp [h]
  | some jw =>
    obtain ⟨j, want⟩ := jw
    rw [hg] at h
    obtain ⟨t, h1, ⟨c, h2, h3⟩ | ⟨h2, h3⟩⟩ := h
    · have h4 := ht j want t hg h1
      rw [h2] at h4
      have h5 : yielded ops tmps j = some c := by
        unfold yielded
        rw [h1]
        simp only [Option.bind_some]
        rw [getD_bool h4]
      simp only [h5]
      rw [← h3]
      cases c <;> cases want <;> rfl
    · have h4 := ht j want t hg h1
      rw [h2] at h4
      have h4' : tmps.getD t undef = undef := h4
      have h5 : yielded ops tmps j = none := by
        unfold yielded
        rw [h1]
        simp only [Option.bind_some]
        rw [Array.getD_eq_getD_getElem?] at h4'
        cases hh : tmps[t]? with
        | none => rfl
        | some v => rw [hh] at h4'; simp at h4'; rw [h4']; rfl
      simp only [h5]
      rw [h3]
      cases want <;> rfl

/-- A run of operations in the order of the text. -/
inductive RT (P : Program) (ops : Array Oper) (K : Env → St → Prop) : List Oper → Env → St → Prop
  | nil {e : Env} {s : St} : K e s → RT P ops K [] e s
  | step {o : Oper} {l : List Oper} {e : Env} {s s1 : St} (p : Pd) : Wants ops o e true → OpD P o e s p s1 → RT P ops K l (e.put o.dst p) s1 → RT P ops K (o :: l) e s
  | skip {o : Oper} {l : List Oper} {e : Env} {s : St} : Wants ops o e false → RT P ops K l (e.put o.dst (pl undef)) s → RT P ops K (o :: l) e s

def dstsOk (nt : Nat) (ops : List Oper) : Bool := ops.all fun o => (match o.dst with | none => true | some d => d < nt) && Oper.ndf o
theorem dstsOk_nd {nt : Nat} {l : List Oper} (h : dstsOk nt l = true) : l.all Oper.ndf = true := List.all_eq_true.2 fun o ho => by
  have := List.all_eq_true.1 h o ho
  rw [Bool.and_eq_true] at this
  exact this.2

theorem dstsOk_at {nt : Nat} {l : List Oper} (h : dstsOk nt l = true) {o : Oper} (ho : o ∈ l) (t : Nat) (ht : o.dst = some t) : t < nt := by
  have := List.all_eq_true.1 h o ho
  rw [ht] at this
  simp at this
  exact this.1

theorem wpList_of_RT {P : Program} {ops : Array Oper} {nt : Nat} {m : Nat × Option Nat} {Q : Exit → Env → St → Prop} {g0 : G} {w0 : World} {l : List Oper} {e : Env} {s : St}
    (h : RT P ops (Q .normal) l e s) : dstsOk nt l = true → ∀ g a w, Ext g0 w0 g w → ERel nt m e g a w → SRel g s w → wpList P ops (Post nt m Q g0 w0) l a w := by
  induction h with
  | nil hk =>
    intro _ g a w hx he hs
    exact wpList_nil ⟨_, _, g, hk, hx, he, hs⟩
  | @step o l e s s1 p hw ho hr ih =>
    intro hd g a w hx he hs
    have hd1 : dstsOk nt l = true := by simp only [dstsOk, List.all_cons, Bool.and_eq_true] at hd; exact hd.2
    refine wpList_step fun K hK => ?_
    rw [hw.wanted (fun j want t _ _ => he.tmp t), if_pos rfl]
    exact ho g a w K _ (fun x _ => he.ev x) hs fun v g' w' hp hx' hs' => hK _ _ (ih hd1 g' _ w' (hx.trans hx') ((he.mono hx').put (fun t ht => dstsOk_at hd (by simp) t ht) hp) hs')
  | @skip o l e s hw hr ih =>
    intro hd g a w hx he hs
    have hd1 : dstsOk nt l = true := by simp only [dstsOk, List.all_cons, Bool.and_eq_true] at hd; exact hd.2
    refine wpList_step fun K hK => ?_
    rw [hw.wanted (fun j want t _ _ => he.tmp t), if_neg (by simp)]
    exact hK _ _ (ih hd1 g _ w hx (he.put (fun t ht => dstsOk_at hd (by simp) t ht) (p := pl undef) rfl) hs)

theorem aw_region {P : Program} {nt id : Nat} {ops : List Oper} {Q : Exit → Env → St → Prop} {e : Env} {s : St} (hd : dstsOk nt ops = true) (h : RT P ops.toArray (Q .normal) ops e s) : AW P nt (.region id ops.toArray false) Q e s :=
  fun m r g a w he hs => wpIn_mono (region_list_in (dstsOk_nd hd) no_let (wpList_of_RT (Q := only Q) h hd g a w (Ext.refl g w) he hs)) post_only

/-! ### A region whose order is drawn -/
inductive Cl | pure | load | act
  deriving DecidableEq

structure Tr where
  cl : Cl
  p : Pd
  s1 : St
  L : St → Prop

/-- A trace in the order of the text: each operation, of which class, and what it leaves. -/
inductive TR (P : Program) (ops : Array Oper) : List Oper → Env → St → List Tr → Env → St → Prop
  | nil {e : Env} {s : St} : TR P ops [] e s [] e s
  | pure {o : Oper} {l : List Oper} {e e' : Env} {s s' : St} {tr : List Tr} (p : Pd) : Wants ops o e true → (∀ s, OpD P o e s p s) → TR P ops l (e.put o.dst p) s tr e' s' → TR P ops (o :: l) e s (⟨.pure, p, s, fun _ => True⟩ :: tr) e' s'
  | skip {o : Oper} {l : List Oper} {e e' : Env} {s s' : St} {tr : List Tr} : Wants ops o e false → TR P ops l (e.put o.dst (pl undef)) s tr e' s' → TR P ops (o :: l) e s (⟨.pure, pl undef, s, fun _ => True⟩ :: tr) e' s'
  | load {o : Oper} {l : List Oper} {e e' : Env} {s s' : St} {tr : List Tr} (p : Pd) (L : St → Prop) : Wants ops o e true → (∀ s, L s → OpD P o e s p s) → TR P ops l (e.put o.dst p) s tr e' s' → TR P ops (o :: l) e s (⟨.load, p, s, L⟩ :: tr) e' s'
  | act {o : Oper} {l : List Oper} {e e' : Env} {s s1 s' : St} {tr : List Tr} (p : Pd) : Wants ops o e true → OpD P o e s p s1 → TR P ops l (e.put o.dst p) s1 tr e' s' → TR P ops (o :: l) e s (⟨.act, p, s1, fun _ => True⟩ :: tr) e' s'

def isAct (t : Tr) : Bool := t.cl == .act

def envAt : Env → List Oper → List Tr → Nat → Env
  | e, _, _, 0 => e
  | e, o :: l, t :: tr, j + 1 => envAt (e.put o.dst t.p) l tr j
  | e, _, _, _ => e

def stAt : St → List Tr → Nat → St
  | s, _, 0 => s
  | s, t :: tr, k + 1 => if isAct t then stAt t.s1 tr k else stAt s tr (k + 1)
  | s, [], _ => s

def cntAt (tr : List Tr) (j : Nat) : Nat := (tr.take j).countP isAct

def StepOk (P : Program) (ops : Array Oper) (o : Oper) (e : Env) (s s1 : St) (t : Tr) : Prop :=
  match t.cl with
  | .pure => (Wants ops o e true ∧ ∀ s, OpD P o e s t.p s) ∨ (Wants ops o e false ∧ t.p = pl undef)
  | .load => Wants ops o e true ∧ ∀ s, t.L s → OpD P o e s t.p s
  | .act => Wants ops o e true ∧ OpD P o e s t.p s1

theorem TR.spec {P : Program} {ops : Array Oper} {l : List Oper} {e e' : Env} {s s' : St} {tr : List Tr} (h : TR P ops l e s tr e' s') :
    l.length = tr.length ∧ e' = envAt e l tr l.length ∧ s' = stAt s tr (tr.countP isAct) ∧
      ∀ (j : Nat) (o : Oper) (t : Tr), l[j]? = some o → tr[j]? = some t → StepOk P ops o (envAt e l tr j) (stAt s tr (cntAt tr j)) (stAt s tr (cntAt tr j + 1)) t := by
  induction h with
  | nil => exact ⟨rfl, rfl, rfl, fun j o t h => by simp at h⟩
  | @pure o l e e' s s' tr p hw ho hr ih =>
    obtain ⟨h1, h2, h3, h4⟩ := ih
    refine ⟨by simp [h1], by simpa [envAt] using h2, ?_, fun j o' t hj ht => ?_⟩
    · rw [List.countP_cons_of_neg (by simp [isAct]), h3]
      cases tr.countP isAct with
      | zero => simp [stAt]
      | succ k => simp [stAt, isAct]
    · cases j with
      | zero => simp at hj ht; subst hj; subst ht; exact .inl ⟨hw, ho⟩
      | succ j =>
        have h5 := h4 j o' t (by simpa using hj) (by simpa using ht)
        have e1 : ∀ k, stAt s (⟨.pure, p, s, fun _ => True⟩ :: tr) k = stAt s tr k := by
          intro k; cases k with
          | zero => simp [stAt]
          | succ k => simp [stAt, isAct]
        have e2 : cntAt (⟨.pure, p, s, fun _ => True⟩ :: tr) (j + 1) = cntAt tr j := by
          simp [cntAt, isAct]
        rw [e2, e1, e1]; exact h5
  | @skip o l e e' s s' tr hw hr ih =>
    obtain ⟨h1, h2, h3, h4⟩ := ih
    refine ⟨by simp [h1], by simpa [envAt] using h2, ?_, fun j o' t hj ht => ?_⟩
    · rw [List.countP_cons_of_neg (by simp [isAct]), h3]
      cases tr.countP isAct with
      | zero => simp [stAt]
      | succ k => simp [stAt, isAct]
    · cases j with
      | zero => simp at hj ht; subst hj; subst ht; exact .inr ⟨hw, rfl⟩
      | succ j =>
        have h5 := h4 j o' t (by simpa using hj) (by simpa using ht)
        have e1 : ∀ k, stAt s (⟨.pure, pl undef, s, fun _ => True⟩ :: tr) k = stAt s tr k := by
          intro k; cases k with
          | zero => simp [stAt]
          | succ k => simp [stAt, isAct]
        have e2 : cntAt (⟨.pure, pl undef, s, fun _ => True⟩ :: tr) (j + 1) = cntAt tr j := by
          simp [cntAt, isAct]
        rw [e2, e1, e1]; exact h5
  | @load o l e e' s s' tr p L hw ho hr ih =>
    obtain ⟨h1, h2, h3, h4⟩ := ih
    refine ⟨by simp [h1], by simpa [envAt] using h2, ?_, fun j o' t hj ht => ?_⟩
    · rw [List.countP_cons_of_neg (by simp [isAct]), h3]
      cases tr.countP isAct with
      | zero => simp [stAt]
      | succ k => simp [stAt, isAct]
    · cases j with
      | zero => simp at hj ht; subst hj; subst ht; exact ⟨hw, ho⟩
      | succ j =>
        have h5 := h4 j o' t (by simpa using hj) (by simpa using ht)
        have e1 : ∀ k, stAt s (⟨.load, p, s, L⟩ :: tr) k = stAt s tr k := by
          intro k; cases k with
          | zero => simp [stAt]
          | succ k => simp [stAt, isAct]
        have e2 : cntAt (⟨.load, p, s, L⟩ :: tr) (j + 1) = cntAt tr j := by
          simp [cntAt, isAct]
        rw [e2, e1, e1]; exact h5
  | @act o l e e' s s1 s' tr p hw ho hr ih =>
    obtain ⟨h1, h2, h3, h4⟩ := ih
    refine ⟨by simp [h1], by simpa [envAt] using h2, ?_, fun j o' t hj ht => ?_⟩
    · rw [List.countP_cons_of_pos (by simp [isAct]), h3]
      simp [stAt, isAct]
    · cases j with
      | zero =>
        simp at hj ht; subst hj; subst ht
        exact ⟨hw, by simpa [cntAt, stAt, isAct, envAt] using ho⟩
      | succ j =>
        have h5 := h4 j o' t (by simpa using hj) (by simpa using ht)
        have e1 : ∀ k, stAt s (⟨.act, p, s1, fun _ => True⟩ :: tr) (k + 1) = stAt s1 tr k := by
          intro k; simp [stAt, isAct]
        have e2 : cntAt (⟨.act, p, s1, fun _ => True⟩ :: tr) (j + 1) = cntAt tr j + 1 := by
          simp [cntAt, isAct]
        rw [e2, e1, e1]; exact h5

/-! What comes ahead of what. -/
inductive Anc (ops : List Oper) : Nat → Nat → Prop
  | edge {j : Nat} {o : Oper} {ed : Edge} : ops[j]? = some o → ed ∈ o.after → Region.binds .any ed = true → Anc ops ed.on j
  | step {i j : Nat} {o : Oper} {ed : Edge} : ops[j]? = some o → ed ∈ o.after → Region.binds .any ed = true → Anc ops i ed.on → Anc ops i j

def ancRow (acc : List Nat) (o : Oper) : Nat :=
  o.after.toList.foldl (fun s ed => if Region.binds .any ed then s ||| 2 ^ ed.on ||| acc.getD ed.on 0 else s) 0

def ancGo : List Oper → List Nat → List Nat
  | [], acc => acc
  | o :: l, acc => ancGo l (acc ++ [ancRow acc o])

theorem ancRow_spec {ops : List Oper} {acc : List Nat} {j : Nat} {o : Oper} (ho : ops[j]? = some o) (hacc : ∀ k i, (acc.getD k 0).testBit i = true → Anc ops i k) (i : Nat) (h : (ancRow acc o).testBit i = true) : Anc ops i j := by
  have key : ∀ (l : List Edge) (s : Nat), (∀ ed ∈ l, ed ∈ o.after.toList) → (∀ i, s.testBit i = true → Anc ops i j) → ∀ i, (l.foldl (fun s ed => if Region.binds .any ed then s ||| 2 ^ ed.on ||| acc.getD ed.on 0 else s) s).testBit i = true → Anc ops i j := by
    intro l
    induction l with
    | nil => intro s _ hs i hi; exact hs i hi
    | cons ed l ih =>
      intro s hl hs i hi
      simp only [List.foldl_cons] at hi
      refine ih _ (fun x hx => hl x (by simp [hx])) ?_ i hi
      intro i hi
      by_cases hb : Region.binds .any ed = true
      · rw [if_pos hb] at hi
        simp only [Nat.testBit_or, Bool.or_eq_true, Nat.testBit_two_pow, decide_eq_true_eq] at hi
        have hm : ed ∈ o.after := by simpa using hl ed (by simp)
        rcases hi with (hi | hi) | hi
        · exact hs i hi
        · subst hi; exact .edge ho hm hb
        · exact .step ho hm hb (hacc _ _ hi)
      · rw [if_neg hb] at hi; exact hs i hi
  exact key _ 0 (fun _ h => h) (fun i hi => by simp at hi) i h

theorem ancGo_spec {ops : List Oper} : ∀ (l : List Oper) (acc : List Nat) , (∀ m, l[m]? = ops[acc.length + m]?) → (∀ k i, (acc.getD k 0).testBit i = true → Anc ops i k) → ∀ k i, ((ancGo l acc).getD k 0).testBit i = true → Anc ops i k
  | [], acc, _, h => h
  | o :: l, acc, hl, h => by
    refine ancGo_spec l (acc ++ [ancRow acc o]) (fun m => ?_) ?_
    · have := hl (m + 1)
      simp only [List.getElem?_cons_succ] at this
      rw [this]; congr 1; simp; omega
    · intro k i hk
      by_cases hk1 : k < acc.length
      · refine h k i ?_
        rwa [List.getD_eq_getElem?_getD, List.getElem?_append_left hk1, ← List.getD_eq_getElem?_getD] at hk
      · by_cases hk2 : k = acc.length
        · subst hk2
          have h0 := hl 0
          simp only [List.getElem?_cons_zero, Nat.add_zero] at h0
          refine ancRow_spec h0.symm h i ?_
          simpa [List.getD_eq_getElem?_getD] using hk
        · rw [List.getD_eq_getElem?_getD, List.getElem?_eq_none (by simp; omega)] at hk
          simp at hk

def ancT (ops : List Oper) : List Nat := ancGo ops []
theorem ancT_spec {ops : List Oper} {i k : Nat} (h : ((ancT ops).getD k 0).testBit i = true) : Anc ops i k :=
  ancGo_spec ops [] (fun m => by simp) (fun k i h => by simp at h) k i h

/-- Two operations of the region, the former ahead: must they keep this order? -/
def clash (ops : Array Oper) (ai aj : Bool) (x y : Oper) : Bool :=
  (ai && aj) ||
  (match x.dst with
    | some d => (y.looksAt ops).contains d || y.dst == some d
    | none => false) ||
  (match y.dst with
    | some d => (x.looksAt ops).contains d
    | none => false)

def orderOk (ops : List Oper) (acts : List Bool) : Bool :=
  let t := ancT ops
  (List.range ops.length).all fun j => (List.range j).all fun i =>
    !clash ops.toArray (acts.getD i false) (acts.getD j false) (ops.getD i default) (ops.getD j default) || (t.getD j 0).testBit i

def lo (ops : List Oper) (acts : List Bool) (i : Nat) : Nat := (List.range ops.length).countP fun j => acts.getD j false && ((ancT ops).getD i 0).testBit j
def hi (ops : List Oper) (acts : List Bool) (i : Nat) : Nat := (List.range ops.length).countP fun j => acts.getD j false && !((ancT ops).getD j 0).testBit i

end Go.Proofs.YtokcgacehdgkcaaGreatDoor.Eng

/- The engine, third part: a region whose order is drawn comes to what the order of the text comes to. -/
namespace Go.Proofs.YtokcgacehdgkcaaGreatDoor.Eng
open Go.RowKit

def last (e : Env) (ops : List Oper) (tr : List Tr) (f : Nat → Bool) (t : Tmp) : Nat → Pd
  | 0 => e t
  | m + 1 => if f m = true ∧ (ops[m]?).bind (·.dst) = some t then (match tr[m]? with | some x => x.p | none => any) else last e ops tr f t m

theorem last_agree {e : Env} {ops : List Oper} {tr : List Tr} {f h : Nat → Bool} {t : Tmp} : ∀ (m : Nat), (∀ i, i < m → (ops[i]?).bind (·.dst) = some t → f i = h i) → last e ops tr f t m = last e ops tr h t m
  | 0, _ => rfl
  | m + 1, ha => by
    simp only [last]
    rw [last_agree m fun i hi => ha i (by omega)]
    by_cases hd : (ops[m]?).bind (·.dst) = some t
    · rw [ha m (by omega) hd]
    · simp [hd]

theorem last_below {e : Env} {ops : List Oper} {tr : List Tr} {t : Tmp} (j : Nat) : ∀ (n : Nat), j ≤ n → last e ops tr (fun i => decide (i < j)) t n = last e ops tr (fun _ => true) t j
  | 0, h => by have : j = 0 := by omega
               subst this; rfl
  | n + 1, h => by
    by_cases hj : j = n + 1
    · subst hj
      exact last_agree _ fun i hi _ => by simp [hi]
    · simp only [last]
      rw [if_neg (by simp; omega), last_below j n (by omega)]

theorem envAt_succ : ∀ (ops : List Oper) (tr : List Tr) (e : Env) (j : Nat) (o : Oper) (x : Tr), ops[j]? = some o → tr[j]? = some x → envAt e ops tr (j + 1) = (envAt e ops tr j).put o.dst x.p
  | [], _, _, _, _, _, h, _ => by simp at h
  | _ :: _, [], _, _, _, _, _, h => by simp at h
  | o' :: l, t :: tr, e, 0, o, x, h1, h2 => by
    simp at h1 h2; subst h1; subst h2; simp [envAt]
  | o' :: l, t :: tr, e, j + 1, o, x, h1, h2 => by
    simp only [List.getElem?_cons_succ] at h1 h2
    have := envAt_succ l tr (e.put o'.dst t.p) j o x h1 h2
    simpa [envAt] using this

theorem last_env {e : Env} {ops : List Oper} {tr : List Tr} {t : Tmp} (hl : ops.length = tr.length) : ∀ (j : Nat), j ≤ ops.length → last e ops tr (fun _ => true) t j = envAt e ops tr j t
  | 0, _ => by simp [last, envAt]
  | j + 1, h => by
    have h1 : j < ops.length := by omega
    have h2 : j < tr.length := by omega
    simp only [last]
    rw [envAt_succ ops tr e j ops[j] tr[j] (List.getElem?_eq_getElem h1) (List.getElem?_eq_getElem h2), last_env hl j (by omega), List.getElem?_eq_getElem h1, List.getElem?_eq_getElem h2]
    simp only [Option.bind_some, true_and]
    cases hd : ops[j].dst with
    | none => simp [Env.put]
    | some d =>
      by_cases hdt : d = t
      · subst hdt; simp [Env.put]
      · simp [Env.put, hdt, Ne.symm hdt]

theorem countP_range_take (tr : List Tr) : ∀ (m : Nat), m ≤ tr.length → (List.range m).countP (fun j => (tr.map isAct).getD j false) = (tr.take m).countP isAct
  | 0, _ => by simp
  | m + 1, h => by
    have hm : m < tr.length := by omega
    rw [List.range_succ, List.countP_append, countP_range_take tr m (by omega), List.take_succ_eq_append_getElem hm, List.countP_append]
    congr 1
    simp [List.getD_eq_getElem?_getD, hm]

theorem countP_range_below (f : Nat → Bool) (i : Nat) : ∀ (n : Nat), i ≤ n → (List.range n).countP (fun j => f j && decide (j < i)) = (List.range i).countP f
  | 0, h => by have : i = 0 := by omega
               subst this; rfl
  | n + 1, h => by
    by_cases hi : i = n + 1
    · subst hi
      refine List.countP_congr fun j hj => ?_
      have := List.mem_range.1 hj
      simp [this]
    · rw [List.range_succ, List.countP_append, countP_range_below f i n (by omega)]
      simp; omega

def edgesBack (ops : List Oper) : Bool := (List.range ops.length).all fun j => (ops.getD j default).after.toList.all fun ed => !Region.binds .any ed || ed.on < j

theorem Anc.listed {ops : List Oper} {f : Nat → Bool} (hf : ∀ (j : Nat) (o : Oper) (ed : Edge), ops[j]? = some o → f j = true → ed ∈ o.after → Region.binds .any ed = true → f ed.on = true) {i j : Nat} (h : Anc ops i j) : f j = true → f i = true := by
  induction h with
  | edge ho he hb => exact fun hj => hf _ _ _ ho hj he hb
  | step ho he hb _ ih => exact fun hj => ih (hf _ _ _ ho hj he hb)

theorem Anc.ready {ops : List Oper} {f : Nat → Bool} (hf : ∀ (j : Nat) (o : Oper) (ed : Edge), ops[j]? = some o → f j = true → ed ∈ o.after → Region.binds .any ed = true → f ed.on = true) {i j : Nat} (h : Anc ops i j)
    (hr : ∀ o ed, ops[j]? = some o → ed ∈ o.after → Region.binds .any ed = true → f ed.on = true) : f i = true := by
  cases h with
  | edge ho he hb => exact hr _ _ ho he hb
  | step ho he hb h2 => exact h2.listed hf (hr _ _ ho he hb)

structure JJ (ops : List Oper) (nt : Nat) (m : Nat × Option Nat) (e : Env) (s : St) (tr : List Tr) (g0 : G) (w0 : World) (listed : Array Bool) (g : G) (a : Act) (w : World) : Prop where
  ext : Ext g0 w0 g w
  srel : SRel g (stAt s tr ((List.range ops.length).countP fun j => (tr.map isAct).getD j false && listed.getD j false)) w
  size : a.tmps.size = nt
  defers : Marks m g w a.defers
  tmps : ∀ t, (last e ops tr (fun i => listed.getD i false) t ops.length).h g w (a.tmps.getD t undef)
  lsz : listed.size = ops.length
  closed : ∀ (j : Nat) (o : Oper) (ed : Edge), ops[j]? = some o → listed.getD j false = true → ed ∈ o.after → Region.binds .any ed = true → listed.getD ed.on false = true

theorem getD_set (listed : Array Bool) (i j : Nat) (hi : i < listed.size) : (listed.setIfInBounds i true).getD j false = (decide (j = i) || listed.getD j false) := by
  by_cases h : j = i
  · subst h; simp [hi]
  · rw [getD_set_ne false (Ne.symm h)]; simp [h]

section
variable {P : Program} {ops : List Oper} {nt : Nat} {m : Nat × Option Nat} {e e' : Env} {s s' : St} {tr : List Tr} {g0 : G} {w0 : World} {Q : Exit → Env → St → Prop}

theorem drawn_any (hd : dstsOk nt ops = true) (hb : edgesBack ops = true) (hsel : Region.noSelect ops.toArray = true) (hchk : orderOk ops (tr.map isAct) = true) (htr : TR P ops.toArray ops e s tr e' s')
    (hL : ∀ (i : Nat) (t : Tr), tr[i]? = some t → t.cl = .load → ∀ k, lo ops (tr.map isAct) i ≤ k → k ≤ hi ops (tr.map isAct) i → t.L (stAt s tr k)) (hQ : Q .normal e' s') :
    ∀ (fuel : Nat) (listed : Array Bool) (g : G) (a : Act) (w : World), JJ ops nt m e s tr g0 w0 listed g a w → ((List.range ops.length).countP fun j => !listed.getD j false) ≤ fuel →
      wpAny P .any ops.toArray (Post nt m Q g0 w0) fuel listed a w := by
  obtain ⟨hlen, he', hs', hstep⟩ := htr.spec
  -- the end: all are listed
  have fin : ∀ (listed : Array Bool) (g : G) (a : Act) (w : World), JJ ops nt m e s tr g0 w0 listed g a w → Region.ready .any ops.toArray listed = [] → (∀ j, j < ops.length → listed.getD j false = true) ∧ Post nt m Q g0 w0 .normal a w := by
    intro listed g a w J hr
    have hall : ∀ j, j < ops.length → listed.getD j false = true := by
      intro j
      induction j using Nat.strongRecOn with
      | _ j ih =>
        intro hj
        cases hlj : listed.getD j false with
        | true => rfl
        | false =>
          exfalso
          have hmem : j ∈ Region.ready .any ops.toArray listed := by
            rw [mem_ready]
            refine ⟨?_, ops[j], by simp [hj], fun ed hed hbd => ?_⟩
            · have : j < listed.size := by rw [J.lsz]; exact hj
              rw [Array.getD_eq_getD_getElem?] at hlj ⊢
              simpa [this] using hlj
            · have h1 := List.all_eq_true.1 hb j (List.mem_range.2 hj)
              have h2 := List.all_eq_true.1 h1 ed (by simp [List.getD_eq_getElem?_getD, hj, hed])
              simp [hbd] at h2
              exact ih ed.on h2 (by omega)
          rw [hr] at hmem
          cases hmem
    refine ⟨hall, e', s', g, hQ, J.ext, ⟨J.size, J.defers, fun t => ?_⟩, ?_⟩
    · have h1 := J.tmps t
      rw [last_agree (h := fun _ => true) ops.length fun i hi _ => hall i hi, last_env hlen _ (Nat.le_refl _), ← he'] at h1
      exact h1
    · have h1 := J.srel
      have h2 : ((List.range ops.length).countP fun j => (tr.map isAct).getD j false && listed.getD j false) = tr.countP isAct := by
        rw [show tr.countP isAct = (tr.take ops.length).countP isAct from by rw [hlen, List.take_length], ← countP_range_take tr ops.length (by omega)]
        refine List.countP_congr fun j hj => ?_
        rw [hall j (List.mem_range.1 hj)]
        simp
      rw [h2, ← hs'] at h1
      exact h1
  intro fuel
  induction fuel with
  | zero =>
    intro listed g a w J hc
    have hall : ∀ j, j < ops.length → listed.getD j false = true := by
      intro j hj
      have := List.countP_eq_zero.1 (Nat.le_zero.1 hc) j (List.mem_range.2 hj)
      simpa using this
    have hr : Region.ready .any ops.toArray listed = [] := by
      rw [List.eq_nil_iff_forall_not_mem]
      intro j hj
      obtain ⟨h1, o, ho, _⟩ := mem_ready.1 hj
      have hj' : j < ops.length := by
        rcases Nat.lt_or_ge j ops.length with h | h
        · exact h
        · simp [List.getElem?_eq_none h] at ho
      have h2 := hall j hj'
      have : j < listed.size := by rw [J.lsz]; exact hj'
      rw [Array.getD_eq_getD_getElem?] at h1 h2
      simp [this] at h1 h2
      rw [h1] at h2
      cases h2
    exact ⟨hr, (fin listed g a w J hr).2⟩
  | succ fuel ih =>
    intro listed g a w J hc
    refine ⟨fun hr => (fin listed g a w J hr).2, fun i hi => ?_⟩
    obtain ⟨hun0, o, ho, hedges⟩ := mem_ready.1 hi
    have hin : i < ops.length := by
      rcases Nat.lt_or_ge i ops.length with h | h
      · exact h
      · simp [List.getElem?_eq_none h] at ho
    have hil : i < listed.size := by rw [J.lsz]; exact hin
    have hun : listed.getD i false = false := by
      rw [Array.getD_eq_getD_getElem?] at hun0 ⊢
      simpa [hil] using hun0
    have ho' : ops[i]? = some o := by simpa using ho
    obtain ⟨t, ht⟩ : ∃ t, tr[i]? = some t := ⟨tr[i]'(by omega), List.getElem?_eq_getElem (by omega)⟩
    -- what is ahead of i is listed; what is listed has not i ahead
    have hanc : ∀ j, Anc ops j i → listed.getD j false = true := fun j hj =>
      hj.ready (f := fun i => listed.getD i false) J.closed (fun o2 ed ho2 hed hbd => by rw [ho'] at ho2; cases ho2; exact hedges ed hed hbd)
    have hnot : ∀ j, Anc ops i j → listed.getD j false = false := fun j hj => by
      cases hlj : listed.getD j false with
      | false => rfl
      | true =>
        have := hj.listed (f := fun i => listed.getD i false) J.closed hlj
        simp only [hun] at this
        cases this
    have hord : ∀ i j oi oj, i < j → j < ops.length → ops[i]? = some oi → ops[j]? = some oj → clash ops.toArray ((tr.map isAct).getD i false) ((tr.map isAct).getD j false) oi oj = true → Anc ops i j := by
      intro i j oi oj hij hj hoi hoj hcl
      have h1 := List.all_eq_true.1 (List.all_eq_true.1 hchk j (List.mem_range.2 hj)) i (List.mem_range.2 hij)
      simp only [List.getD_eq_getElem?_getD, hoi, hoj, Option.getD_some] at h1 hcl
      rw [hcl] at h1
      simp only [Bool.not_true, Bool.false_or] at h1
      exact ancT_spec (by simpa [List.getD_eq_getElem?_getD] using h1)
    -- temporaries that o looks at
    have hlook : ∀ x ∈ o.looksAt ops.toArray, (envAt e ops tr i x).h g w (a.tmps.getD x undef) := by
      intro x hx
      have h1 := J.tmps x
      rw [last_agree (h := fun j => decide (j < i)) ops.length ?_, last_below i _ (by omega), last_env hlen _ (by omega)] at h1
      · exact h1
      · intro m hm hdm
        obtain ⟨om, hom⟩ : ∃ om, ops[m]? = some om := ⟨ops[m], List.getElem?_eq_getElem hm⟩
        rw [hom] at hdm
        simp only [Option.bind_some] at hdm
        rcases Nat.lt_trichotomy m i with h2 | h2 | h2
        · rw [hanc m (hord m i om o h2 hin hom ho' (by simp [clash, hdm, hx]))]
          simp [h2]
        · subst h2; rw [hun]; simp
        · rw [hnot m (hord i m o om h2 hm ho' hom (by simp [clash, hdm, hx]))]
          simp; omega
    have hops : ∀ x ∈ o.op.operands, ((envAt e ops tr i).ev x).h g w (a.eval x) := by
      intro x hx
      cases x with
      | tmp y =>
        exact hlook y (List.mem_append_left _ (List.mem_filterMap.2 ⟨.tmp y, by simpa using hx, rfl⟩))
      | const v => rfl
      | global g => rfl
      | func f => rfl
    have hwant : ∀ b, Wants ops.toArray o (envAt e ops tr i) b → Region.wanted o (yielded ops.toArray a.tmps) = b := fun b hb =>
      hb.wanted (g := g) (w := w) fun j want y hg hy => hlook y (by
        refine List.mem_append_right _ ?_
        rw [hg]
        show y ∈ ((ops.toArray[j]?).bind (·.dst)).toList
        rw [hy]
        simp)
    have hnext : ∀ (v : Value) (g1 : G) (w1 : World), t.p.h g1 w1 v → Ext g w g1 w1 → SRel g1 (stAt s tr ((List.range ops.length).countP fun j => (tr.map isAct).getD j false && (listed.setIfInBounds i true).getD j false)) w1 →
        wpAny P .any ops.toArray (Post nt m Q g0 w0) fuel (listed.setIfInBounds i true) (a.put o.dst v) w1 := by
      intro v g1 w1 hp hx hs
      refine ih (listed.setIfInBounds i true) g1 _ w1 ⟨J.ext.trans hx, hs, ?_, ?_, fun x => ?_, by simp [J.lsz], ?_⟩ ?_
      · cases o.dst <;> simp [Act.put, J.size]
      · cases o.dst <;> exact J.defers.mono hx
      · by_cases hdx : o.dst = some x
        · have hlast : last e ops tr (fun j => (listed.setIfInBounds i true).getD j false) x ops.length = t.p := by
            rw [last_agree (h := fun j => decide (j < i + 1)) ops.length ?_, last_below (i + 1) _ (by omega)]
            · simp [last, ho', hdx, ht]
            · intro m hm hdm
              obtain ⟨om, hom⟩ : ∃ om, ops[m]? = some om := ⟨ops[m], List.getElem?_eq_getElem hm⟩
              rw [hom] at hdm
              simp only [Option.bind_some] at hdm
              rw [getD_set _ _ _ hil]
              rcases Nat.lt_trichotomy m i with h2 | h2 | h2
              · rw [hanc m (hord m i om o h2 hin hom ho' (by simp [clash, hdm, hdx]))]
                simp; omega
              · subst h2; simp
              · rw [hnot m (hord i m o om h2 hm ho' hom (by simp [clash, hdm, hdx]))]
                simp; omega
          rw [hlast]
          have hdn : x < nt := dstsOk_at hd (List.mem_of_getElem? ho') x hdx
          simp only [hdx, Act.put]
          rw [Array.getD_eq_getD_getElem?, Array.getElem?_setIfInBounds_self_of_lt (by rw [J.size]; exact hdn)]
          exact hp
        · have hlast : last e ops tr (fun j => (listed.setIfInBounds i true).getD j false) x ops.length = last e ops tr (fun j => listed.getD j false) x ops.length := by
            refine last_agree _ fun m hm hdm => ?_
            rw [getD_set _ _ _ hil]
            by_cases hmi : m = i
            · subst hmi; rw [ho'] at hdm; exact absurd hdm hdx
            · simp [hmi]
          rw [hlast]
          have h1 := (last e ops tr (fun j => listed.getD j false) x ops.length).mono hx (J.tmps x)
          cases hdo : o.dst with
          | none => simpa [Act.put] using h1
          | some d =>
            have hne : d ≠ x := fun h => hdx (by rw [hdo, h])
            simp only [Act.put]
            rw [Array.getD_eq_getD_getElem?] at h1 ⊢
            rwa [Array.getElem?_setIfInBounds_ne hne]
      · intro j oj ed hoj hlj hed hbd
        rw [getD_set _ _ _ hil] at hlj ⊢
        rw [Bool.or_eq_true] at hlj ⊢
        refine .inr ?_
        rcases hlj with hlj | hlj
        · have : j = i := by simpa using hlj
          subst this
          rw [ho'] at hoj; cases hoj
          exact hedges ed hed hbd
        · exact J.closed j oj ed hoj hlj hed hbd
      · have h1 : ((List.range ops.length).countP fun j => !(listed.setIfInBounds i true).getD j false) < ((List.range ops.length).countP fun j => !listed.getD j false) := by
          have hmem : i ∈ List.range ops.length := List.mem_range.2 hin
          obtain ⟨l1, l2, hl⟩ := List.append_of_mem hmem
          have hnd : (List.range ops.length).Nodup := List.nodup_range
          rw [hl] at hnd ⊢
          have hsame : ∀ j ∈ l1 ++ l2, (!(listed.setIfInBounds i true).getD j false) = !listed.getD j false := by
            intro j hj
            have hji : j ≠ i := by
              intro h; subst h
              rw [List.nodup_append] at hnd
              rcases List.mem_append.1 hj with h | h
              · exact hnd.2.2 j h j (by simp) rfl
              · exact (List.nodup_cons.1 hnd.2.1).1 h
            rw [getD_set _ _ _ hil]; simp [hji]
          rw [List.countP_append, List.countP_append, List.countP_cons, List.countP_cons]
          rw [List.countP_congr (l := l1) (fun j hj => by rw [hsame j (by simp [hj])]), List.countP_congr (l := l2) (fun j hj => by rw [hsame j (by simp [hj])])]
          rw [getD_set _ _ _ hil, hun]
          simp
        omega
    have hact : (tr.map isAct).getD i false = isAct t := by simp [List.getD_eq_getElem?_getD, ht]
    have hcnt : isAct t = false → ((List.range ops.length).countP fun j => (tr.map isAct).getD j false && (listed.setIfInBounds i true).getD j false) = ((List.range ops.length).countP fun j => (tr.map isAct).getD j false && listed.getD j false) := by
      intro ha
      refine List.countP_congr fun j hj => ?_
      rw [getD_set _ _ _ hil]
      by_cases hji : j = i
      · subst hji; rw [hact, ha]; simp
      · simp [hji]
    have hst := hstep i o t ho' ht
    unfold wpOp
    simp only [ho]
    cases hcl : t.cl with
    | pure =>
      have ha : isAct t = false := by simp [isAct, hcl]
      simp only [StepOk, hcl] at hst
      rcases hst with ⟨hw, hop⟩ | ⟨hw, hany⟩
      · rw [hwant _ hw, if_pos rfl]
        refine .inl (hop _ g a w _ _ hops J.srel fun v g1 w1 hp hx hs => hnext v g1 w1 hp hx ?_)
        rw [hcnt ha]; exact hs
      · rw [hwant _ hw, if_neg (by simp)]
        refine hnext _ g w (by rw [hany]; rfl) (Ext.refl _ _) ?_
        rw [hcnt ha]; exact J.srel
    | load =>
      have ha : isAct t = false := by simp [isAct, hcl]
      simp only [StepOk, hcl] at hst
      rw [hwant _ hst.1, if_pos rfl]
      refine .inl (hst.2 _ (hL i t ht hcl _ ?_ ?_) g a w _ _ hops J.srel fun v g1 w1 hp hx hs => hnext v g1 w1 hp hx ?_)
      · refine List.countP_mono_left fun j hj h => ?_
        rw [Bool.and_eq_true] at h ⊢
        exact ⟨h.1, hanc j (ancT_spec h.2)⟩
      · refine List.countP_mono_left fun j hj h => ?_
        rw [Bool.and_eq_true] at h ⊢
        refine ⟨h.1, ?_⟩
        cases htb : ((ancT ops).getD j 0).testBit i with
        | false => rfl
        | true => rw [hnot j (ancT_spec htb)] at h; simp at h
      · rw [hcnt ha]; exact hs
    | act =>
      have ha : isAct t = true := by simp [isAct, hcl]
      simp only [StepOk, hcl] at hst
      rw [hwant _ hst.1, if_pos rfl]
      have hag : ∀ j, j < ops.length → (tr.map isAct).getD j false = true → listed.getD j false = decide (j < i) := by
        intro j hj haj
        obtain ⟨oj, hoj⟩ : ∃ oj, ops[j]? = some oj := ⟨ops[j], List.getElem?_eq_getElem hj⟩
        rcases Nat.lt_trichotomy j i with h2 | h2 | h2
        · rw [hanc j (hord j i oj o h2 hin hoj ho' (by simp only [clash]; rw [haj, hact, ha]; rfl))]
          simp [h2]
        · subst h2; rw [hun]; simp
        · rw [hnot j (hord i j o oj h2 hj ho' hoj (by simp only [clash]; rw [haj, hact, ha]; rfl))]
          simp; omega
      have hk : ((List.range ops.length).countP fun j => (tr.map isAct).getD j false && listed.getD j false) = cntAt tr i := by
        rw [cntAt, ← countP_range_take tr i (by omega), ← countP_range_below _ i ops.length (by omega)]
        refine List.countP_congr fun j hj => ?_
        by_cases haj : (tr.map isAct).getD j false = true
        · rw [haj, hag j (List.mem_range.1 hj) haj]
        · rw [Bool.not_eq_true] at haj
          rw [haj, Bool.false_and, Bool.false_and]
      have hk1 : ((List.range ops.length).countP fun j => (tr.map isAct).getD j false && (listed.setIfInBounds i true).getD j false) = cntAt tr i + 1 := by
        have : cntAt tr i + 1 = cntAt tr (i + 1) := by
          simp only [cntAt]
          rw [List.take_succ_eq_append_getElem (by omega), List.countP_append]
          have : tr[i]'(by omega) = t := by
            rw [List.getElem?_eq_getElem (by omega)] at ht; simpa using ht
          simp [this, ha]
        rw [this, cntAt, ← countP_range_take tr (i + 1) (by omega), ← countP_range_below _ (i + 1) ops.length (by omega)]
        refine List.countP_congr fun j hj => ?_
        rw [getD_set _ _ _ hil]
        by_cases haj : (tr.map isAct).getD j false = true
        · rw [haj, hag j (List.mem_range.1 hj) haj]
          simp; omega
        · rw [Bool.not_eq_true] at haj
          rw [haj, Bool.false_and, Bool.false_and]
      have hs0 := J.srel
      rw [hk] at hs0
      refine .inl (hst.2 g a w _ _ hops hs0 fun v g1 w1 hp hx hs => hnext v g1 w1 hp hx ?_)
      rw [hk1]; exact hs

theorem getD_rep (n j : Nat) : (Array.replicate n false).getD j false = false := by
  rw [Array.getD_eq_getD_getElem?, Array.getElem?_replicate]
  split <;> rfl

theorem aw_region_drawn {id : Nat} (hm : P.follows .mixedOrders = true) (hd : dstsOk nt ops = true) (hb : edgesBack ops = true) (hsel : Region.noSelect ops.toArray = true) (htr : TR P ops.toArray ops e s tr e' s') (hchk : orderOk ops (tr.map isAct) = true)
    (hL : ∀ (i : Nat) (t : Tr), tr[i]? = some t → t.cl = .load → ∀ k, lo ops (tr.map isAct) i ≤ k → k ≤ hi ops (tr.map isAct) i → t.L (stAt s tr k)) (hQ : Q .normal e' s') :
    AW P nt (.region id ops.toArray true) Q e s := by
  intro m r g a w he hs
  refine wpIn_mono (region_any_in hm (dstsOk_nd hd) no_let ?_) post_only
  have J : JJ ops nt (m, r) e s tr g w (Array.replicate ops.toArray.size false) g a { w with drawn := w.drawn + 1 } := by
    refine ⟨Ext.drew g w, ?_, he.size, he.defers.mono (Ext.drew g w), fun t => ?_, by simp, ?_⟩
    · have : ((List.range ops.length).countP fun j => (tr.map isAct).getD j false && (Array.replicate ops.toArray.size false).getD j false) = 0 := by
        rw [List.countP_eq_zero]
        intro j hj
        rw [getD_rep]; simp
      rw [this]
      simpa [stAt] using hs.drew
    · rw [last_agree (h := fun j => decide (j < 0)) ops.length (fun i hi _ => by rw [getD_rep]; simp), last_below 0 _ (by omega)]
      exact (e t).mono (Ext.drew g w) (he.tmp t)
    · intro j o ed _ hl
      rw [getD_rep] at hl; cases hl
  refine drawn_any (Q := only Q) hd hb hsel hchk htr hL hQ ops.toArray.size _ g a _ J ?_
  have := List.countP_le_length (p := fun j => !(Array.replicate ops.toArray.size false).getD j false) (l := List.range ops.length)
  simpa using this
end
end Go.Proofs.YtokcgacehdgkcaaGreatDoor.Eng

/- The engine, fourth part: forms of values, and the operations that only look. -/
namespace Go.Proofs.YtokcgacehdgkcaaGreatDoor.Eng
open Go.RowKit

/-! ### Forms -/
theorem pl_bnd (x : Value) (n m : Nat) : (pl x).Bnd n m := fun _ _ _ _ _ _ _ h => h
theorem any_bnd (n m : Nat) : any.Bnd n m := fun _ _ _ _ _ _ _ h => h

/-- A pointer to a cell of a variable, of a version. -/
def ptv (b r off : Nat) : Pd := ⟨fun g _ v => ∃ e k, g.box[b]? = some e ∧ r ≤ e.ver ∧ v = .pointer (some ⟨k, off, none⟩) ∧ (e.ver = r → e.blk = some k), by
  rintro g w g' w' v hx ⟨e, k, hk, hr, hv, hb⟩
  obtain ⟨e', h1, h2, h3⟩ := hx.box b e hk
  refine ⟨e', k, h1, Nat.le_trans hr h2, hv, fun h => ?_⟩
  have : e.ver = e'.ver := by omega
  have h4 := h3 this
  subst h4
  exact hb h⟩
theorem ptv_bnd {b r off n : Nat} (m : Nat) (h : b < n) : (ptv b r off).Bnd n m := fun _ _ _ _ _ hb _ ⟨e, k, hk, hv⟩ => ⟨e, k, hb b e h hk, hv⟩
@[reducible] def ptr (b off : Nat) : Pd := ptv b 0 off
theorem ptr_bnd {b off n : Nat} (m : Nat) (h : b < n) : (ptr b off).Bnd n m := ptv_bnd m h
/-- Where it points. -/
theorem ptv_at {g : G} {s : St} {w : World} (hs : SRel g s w) {b r off : Nat} {B : Bx} {v : Value} (h : (ptv b r off).h g w v) (hB : s.boxes[b]? = some B) (hr : B.ver = r) (hne : B.cs ≠ []) :
    ∃ e k vs, v = .pointer (some ⟨k, off, none⟩) ∧ g.box[b]? = some e ∧ e.blk = some k ∧ w.heap[k]? = some (B.obj vs) ∧ (2 ≤ B.ver → vs.size = e.cnt) ∧ PdsP g w B.cs vs.toList ∧ g.sld k = 0 ∧ g.own k = none ∧ g.base ≤ k ∧ (∀ p ∈ B.cs, p.Bnd s.boxes.length s.fr.length) := by
  obtain ⟨e, k, h1, h2, h3, h4⟩ := h
  obtain ⟨e', k', vs, q1, q2, q3, q4, q5, q6, q7, q8, q9, q10⟩ := hs.at hB hne
  rw [h1] at q1; cases q1
  rw [h4 (q3.trans hr)] at q2; cases q2
  exact ⟨e, k, vs, h3, h1, h4 (q3.trans hr), q4, q5, q6, q7, q8, q9, q10⟩

/-- A struct or an array, by its cells. -/
def agg (ps : List Pd) : Pd := ⟨fun g w v => ∃ cs : Array Value, v = .agg cs ∧ Pds g w ps cs.toList, fun hx ⟨cs, hv, h⟩ => ⟨cs, hv, h.mono0 hx⟩⟩
theorem agg_bnd {ps : List Pd} {n m : Nat} (h : ∀ p ∈ ps, p.Bnd n m) : (agg ps).Bnd n m := fun _ _ _ _ h1 h2 h3 ⟨cs, hv, hp⟩ => ⟨cs, hv, Pds.bnd h1 h2 h3 h hp⟩
def tup (ps : List Pd) : Pd := ⟨fun g w v => ∃ cs : Array Value, v = .tuple cs ∧ Pds g w ps cs.toList, fun hx ⟨cs, hv, h⟩ => ⟨cs, hv, h.mono0 hx⟩⟩
theorem tup_bnd {ps : List Pd} {n m : Nat} (h : ∀ p ∈ ps, p.Bnd n m) : (tup ps).Bnd n m := fun _ _ _ _ h1 h2 h3 ⟨cs, hv, hp⟩ => ⟨cs, hv, Pds.bnd h1 h2 h3 h hp⟩
/-- An interface value. -/
def ifc (t : TypeId) (p : Pd) : Pd := ⟨fun g w v => ∃ x, v = .iface t x ∧ p.h g w x, fun hx ⟨x, hv, h⟩ => ⟨x, hv, p.mono0 hx h⟩⟩
/-- A kind of elements: of how many cells, and what these stand for. -/
structure Kn (α : Type) where
  sz : Nat
  cs : α → List Pd
  len : ∀ x, (cs x).length = sz
  one : ∀ x, ∀ p ∈ cs x, ∀ g w v, p.h g w v → v.oneCell' = true

def SlCells {α : Type} (k : Kn α) (l : List α) (g : G) (w : World) (b o : Nat) : Prop :=
  ∀ (i : Nat) (x : α), l[i]? = some x → ∀ (j : Nat) (p : Pd), (k.cs x)[j]? = some p → o + i * k.sz + j < g.sld b ∧ ∃ c, w.cell? ⟨b, o + i * k.sz + j, none⟩ = some c ∧ p.h g w c

theorem SlCells.mono0 {α : Type} {k : Kn α} {l : List α} {g g' : G} {w w' : World} {b o : Nat} (h : SlCells k l g w b o) (hx : Ext0 g w g' w') : SlCells k l g' w' b o := by
  intro i x hi j p hp
  obtain ⟨h1, c, h2, h3⟩ := h i x hi j p hp
  exact ⟨Nat.lt_of_lt_of_le h1 (hx.sld b), c, by rw [hx.cell b _ h1]; exact h2, p.mono0 hx h3⟩
theorem SlCells.mono {α : Type} {k : Kn α} {l : List α} {g g' : G} {w w' : World} {b o : Nat} (h : SlCells k l g w b o) (hx : Ext g w g' w') : SlCells k l g' w' b o := h.mono0 hx.to0

/-- A slice, by its elements; 'o': whose row it is; 'nl': is it nil, if that is known? -/
def sl {α : Type} (k : Kn α) (o : Option Nat) (nl : Option Bool) (l : List α) : Pd :=
  ⟨fun g w v => ∃ (a : Option Addr) (c : Nat), v = .slice a l.length c ∧ l.length ≤ c ∧ (∀ b, nl = some b → a.isNone = b) ∧ (a = none → c = 0) ∧ (l ≠ [] → ∃ b off, a = some ⟨b, off, none⟩ ∧ SlCells k l g w b off) ∧
    (∀ id, o = some id → c = l.length ∨ ∃ b, a = some ⟨b, 0, none⟩ ∧ g.own b = some (id, c)), by
  rintro g w g' w' v hx ⟨a, c, hv, h1, h2, h3, h4, h5⟩
  refine ⟨a, c, hv, h1, h2, h3, fun hn => ?_, fun id hi => ?_⟩
  · obtain ⟨b, off, ha, hc⟩ := h4 hn
    exact ⟨b, off, ha, hc.mono0 hx⟩
  · rcases h5 id hi with h | ⟨b, ha, ho⟩
    · exact .inl h
    · exact .inr ⟨b, ha, hx.own b _ ho⟩⟩

theorem sl_bnd {α : Type} {k : Kn α} {nl : Option Bool} {l : List α} {n m : Nat} (h : ∀ x ∈ l, ∀ p ∈ k.cs x, p.Bnd n m) : (sl k none nl l).Bnd n m := by
  rintro g g' w v h1 h2 h3 ⟨a, c, hv, h4, h5, h6, h7, h8⟩
  refine ⟨a, c, hv, h4, h5, h6, fun hn => ?_, fun id hi => by cases hi⟩
  obtain ⟨b, off, ha, hc⟩ := h7 hn
  refine ⟨b, off, ha, fun i x hi j p hp => ?_⟩
  obtain ⟨h9, c2, h10, h11⟩ := hc i x hi j p hp
  exact ⟨by rw [h1.1]; exact h9, c2, h10, h x (List.mem_of_getElem? hi) p (List.mem_of_getElem? hp) g g' w c2 h1 h2 h3 h11⟩
theorem sl_own_bnd {α : Type} {k : Kn α} {id : Nat} {nl : Option Bool} {l : List α} {n m : Nat} (h : ∀ x ∈ l, ∀ p ∈ k.cs x, p.Bnd n m) (hid : id < m) : (sl k (some id) nl l).Bnd n m := by
  rintro g g' w v h1 h2 h3 ⟨a, c, hv, h4, h5, h6, h7, h8⟩
  refine ⟨a, c, hv, h4, h5, h6, fun hn => ?_, fun id' hi => ?_⟩
  · obtain ⟨b, off, ha, hc⟩ := h7 hn
    refine ⟨b, off, ha, fun i x hi j p hp => ?_⟩
    obtain ⟨h9, c2, h10, h11⟩ := hc i x hi j p hp
    exact ⟨by rw [h1.1]; exact h9, c2, h10, h x (List.mem_of_getElem? hi) p (List.mem_of_getElem? hp) g g' w c2 h1 h2 h3 h11⟩
  · rcases h8 id' hi with h | ⟨b, ha, ho⟩
    · exact .inl h
    · cases hi; exact .inr ⟨b, ha, h3 b id c hid ho⟩

/-- A pointer to a cell of an element of a slice. -/
def el {α : Type} (k : Kn α) (l : List α) (i off : Nat) : Pd :=
  ⟨fun g w v => ∃ b o, v = .pointer (some ⟨b, o + i * k.sz + off, none⟩) ∧ SlCells k l g w b o, fun hx ⟨b, o, hv, h⟩ => ⟨b, o, hv, SlCells.mono0 h hx⟩⟩

theorem sl_nil {α : Type} (k : Kn α) (o : Option Nat) (g : G) (w : World) : (sl k o (some true) ([] : List α)).h g w (.slice none 0 0) :=
  ⟨none, 0, rfl, Nat.le_refl _, fun b hb => by cases hb; rfl, fun _ => rfl, fun h => absurd rfl h, fun _ _ => .inl rfl⟩

/-- One's own is a slice like any other. -/
def Pd.le (p q : Pd) : Prop := ∀ g w v, p.h g w v → q.h g w v
theorem Pd.le_refl (p : Pd) : p.le p := fun _ _ _ h => h
theorem sl_le {α : Type} (k : Kn α) (o : Option Nat) (nl : Option Bool) (l : List α) : (sl k o nl l).le (sl k none nl l) :=
  fun _ _ _ ⟨a, c, h1, h2, h3, h4, h5, _⟩ => ⟨a, c, h1, h2, h3, h4, h5, fun _ h => by cases h⟩
theorem sl_nl {α : Type} (k : Kn α) (o : Option Nat) (nl : Option Bool) (l : List α) : (sl k o nl l).le (sl k o none l) :=
  fun _ _ _ ⟨a, c, h1, h2, h3, h4, h5, h6⟩ => ⟨a, c, h1, h2, fun _ h => (by cases h), h4, h5, h6⟩
theorem Pd.le.trans {p q r : Pd} (h : p.le q) (h2 : q.le r) : p.le r := fun g w v hp => h2 g w v (h g w v hp)
theorem sl_any {α : Type} (k : Kn α) (o : Option Nat) (nl : Option Bool) (l : List α) : (sl k o nl l).le (sl k none none l) := (sl_le k o nl l).trans (sl_nl k none nl l)

/-! ### Looking a temporary up -/
theorem ev_const (e : Env) (v : Value) : Env.ev e (.const v) = pl v := rfl
theorem put_same (e : Env) (t : Tmp) (p : Pd) : Env.put e (some t) p t = p := by simp [Env.put]
theorem put_ne (e : Env) (t u : Tmp) (p : Pd) (h : t ≠ u) : Env.put e (some u) p t = e t := by simp [Env.put, h]
/-! ### Operations: a value -/
section
variable {P : Program} {e : Env} {s : St} {dst : Option Tmp} {ty : TypeId} {pos : String} {after : Array Edge} {guard : Option (Nat × Bool)}

theorem opD_value {o : Oper} {p : Pd} {s' : St} (h : ∀ (g : G) (a : Act) (w : World), (∀ x ∈ o.op.operands, (e.ev x).h g w (a.eval x)) → SRel g s w →
    ∃ v g' w', (execOp a.eval o).run P w = .ok (.value v) w' ∧ p.h g' w' v ∧ Ext g w g' w' ∧ SRel g' s' w') : OpD P o e s p s' := by
  intro g a w next Q ha hs hn
  obtain ⟨v, g', w', h1, h2, h3, h4⟩ := h g a w ha hs
  unfold Oper.wp
  rw [h1]
  exact hn v g' w' h2 h3 h4

theorem opD_look {o : Oper} {p : Pd} (h : ∀ (g : G) (a : Act) (w : World), (∀ x ∈ o.op.operands, (e.ev x).h g w (a.eval x)) → SRel g s w →
    ∃ v, (execOp a.eval o).run P w = .ok (.value v) w ∧ p.h g w v) : OpD P o e s p s :=
  opD_value fun g a w ha hs => let ⟨v, h1, h2⟩ := h g a w ha hs; ⟨v, g, w, h1, h2, Ext.refl _ _, hs⟩

theorem opD_le {o : Oper} {p q : Pd} {s' : St} (h : OpD P o e s p s') (hl : p.le q) : OpD P o e s q s' :=
  fun g a w next Q ha hs hn => h g a w next Q ha hs fun v g' w' hp hx hs' => hn v g' w' (hl _ _ _ hp) hx hs'

theorem opD_move {x : Operand} {p : Pd} (hx : e.ev x = p) : OpD P ⟨dst, .move x, ty, pos, after, guard⟩ e s p s :=
  opD_look fun g a w ha _ => ⟨a.eval x, rfl, by rw [← hx]; exact ha x (by simp [Op.operands])⟩
theorem opD_assign {x : Operand} {p : Pd} (hx : e.ev x = p) : OpD P ⟨dst, .assign x, ty, pos, after, guard⟩ e s p s :=
  opD_look fun g a w ha _ => ⟨a.eval x, rfl, by rw [← hx]; exact ha x (by simp [Op.operands])⟩

theorem opD_pick {c x y : Operand} {b : Bool} {p : Pd} (hc : e.ev c = pl (.bool b)) (hx : b = true → e.ev x = p) (hy : b = false → e.ev y = p) : OpD P ⟨dst, .pick c x y, ty, pos, after, guard⟩ e s p s :=
  opD_look fun g a w ha _ => by
    have h1 : a.eval c = .bool b := by have := ha c (by simp [Op.operands]); rw [hc] at this; exact this
    cases b with
    | true => exact ⟨a.eval x, by generalize a.eval = ρ at h1 ⊢; simp [execOp, h1, asBool, go_sem], by rw [← hx rfl]; exact ha x (by simp [Op.operands])⟩
    | false => exact ⟨a.eval y, by generalize a.eval = ρ at h1 ⊢; simp [execOp, h1, asBool, go_sem], by rw [← hy rfl]; exact ha y (by simp [Op.operands])⟩

theorem opD_nilCheck_ptr {x : Operand} {b r off : Nat} (hx : e.ev x = ptv b r off) : OpD P ⟨dst, .nilCheck x, ty, pos, after, guard⟩ e s (ptv b r off) s :=
  opD_look fun g a w ha _ => by
    have h1 := ha x (by simp [Op.operands])
    rw [hx] at h1
    obtain ⟨e0, k, hk, hr, hv, hb⟩ := h1
    exact ⟨a.eval x, by generalize a.eval = ρ at hv ⊢; simp [execOp, hv, go_sem], e0, k, hk, hr, hv, hb⟩
theorem opD_nilCheck_el {α : Type} {k : Kn α} {l : List α} {i off : Nat} {x : Operand} (hx : e.ev x = el k l i off) : OpD P ⟨dst, .nilCheck x, ty, pos, after, guard⟩ e s (el k l i off) s :=
  opD_look fun g a w ha _ => by
    have h1 := ha x (by simp [Op.operands])
    rw [hx] at h1
    obtain ⟨b, o, hv, hc⟩ := h1
    exact ⟨a.eval x, by generalize a.eval = ρ at hv ⊢; simp [execOp, hv, go_sem], b, o, hv, hc⟩

theorem opD_bin {op : BinOp} {xt yt : TypeId} {x y : Operand} {u v r : Value} (hx : e.ev x = pl u) (hy : e.ev y = pl v) (hg : ∀ w, (eqGuard op xt x y u v).run P w = .ok () w) (hr : ∀ w, (binOp op xt u v).run P w = .ok r w) :
    OpD P ⟨dst, .binOp op xt x y yt, ty, pos, after, guard⟩ e s (pl r) s :=
  opD_look fun g a w ha _ => by
    have h1 : a.eval x = u := by have := ha x (by simp [Op.operands]); rw [hx] at this; exact this
    have h2 : a.eval y = v := by have := ha y (by simp [Op.operands]); rw [hy] at this; exact this
    exact ⟨r, by generalize a.eval = ρ at h1 h2 ⊢; simp [execOp, h1, h2, go_sem, hg, hr], rfl⟩

theorem opD_un {op : UnOp} {xt : TypeId} {x : Operand} {u r : Value} (hx : e.ev x = pl u) (hr : ∀ w, (Op.unary op u).run P w = .ok r w) : OpD P ⟨dst, .unOp op xt x, ty, pos, after, guard⟩ e s (pl r) s :=
  opD_look fun g a w ha _ => by
    have h1 : a.eval x = u := by have := ha x (by simp [Op.operands]); rw [hx] at this; exact this
    exact ⟨r, by generalize a.eval = ρ at h1 ⊢; simp [execOp, h1, go_sem, hr], rfl⟩

theorem opD_convert {src dt : TypeId} {x : Operand} {u r : Value} (hx : e.ev x = pl u) (hr : ∀ w, (convert src dt u).run P w = .ok r w) : OpD P ⟨dst, .convert src dt x, ty, pos, after, guard⟩ e s (pl r) s :=
  opD_look fun g a w ha _ => by
    have h1 : a.eval x = u := by have := ha x (by simp [Op.operands]); rw [hx] at this; exact this
    exact ⟨r, by generalize a.eval = ρ at h1 ⊢; simp [execOp, h1, go_sem, hr], rfl⟩

theorem opD_builtin {b : Builtin} {xs : Array Operand} {ats : Array TypeId} {r : Value} (us : Array Value) (hx : ∀ (g : G) (a : Act) (w : World), (∀ x ∈ xs, (e.ev x).h g w (a.eval x)) → xs.map a.eval = us)
    (hr : ∀ w cs, (builtin b ats ty cs us).run P w = .ok (.value r) w) : OpD P ⟨dst, .call { callee := .builtin b, args := xs, argTypes := ats }, ty, pos, after, guard⟩ e s (pl r) s :=
  opD_look fun g a w ha _ => by
    have h1 := hx g a w fun x hx => ha x (by simpa [Op.operands, Call.operands] using hx)
    exact ⟨r, by show (builtin b ats ty _ (xs.map a.eval)).run P w = _; rw [h1]; exact hr w _, rfl⟩
end
end Go.Proofs.YtokcgacehdgkcaaGreatDoor.Eng

/- The engine, fifth part: variables, calls and functions. -/
namespace Go.Proofs.YtokcgacehdgkcaaGreatDoor.Eng
open Go.RowKit

/-- One cell. -/
def Pd.One (p : Pd) : Prop := ∀ g w v, p.h g w v → v.oneCell' = true
theorem one_pl {x : Value} (h : x.oneCell' = true) : (pl x).One := fun _ _ _ hv => by rw [show _ = x from hv]; exact h
theorem one_ptv (b r off : Nat) : (ptv b r off).One := fun _ _ _ ⟨_, _, _, _, hv, _⟩ => by rw [hv]; rfl
theorem one_ptr (b off : Nat) : (ptr b off).One := one_ptv b 0 off
theorem one_ifc (t : TypeId) (p : Pd) : (ifc t p).One := fun _ _ _ ⟨_, hv, _⟩ => by rw [hv]; rfl
theorem one_sl {α : Type} (k : Kn α) (o : Option Nat) (nl : Option Bool) (l : List α) : (sl k o nl l).One := fun _ _ _ ⟨_, _, hv, _⟩ => by rw [hv]; rfl
theorem cells_of_one {v : Value} (h : v.oneCell' = true) : v.cells = #[v] := by
  cases v <;> first | rfl | cases h
theorem one_agg_mem {ps : List Pd} (h : ∀ p ∈ ps, p.One) {g : G} {w : World} {vs : List Value} (hv : Pds g w ps vs) : ∀ v ∈ vs, v.oneCell' = true := by
  induction ps generalizing vs with
  | nil => cases vs with
    | nil => intro v hv; cases hv
    | cons => exact hv.elim
  | cons p ps ih => cases vs with
    | nil => exact hv.elim
    | cons u vs =>
      intro v hm
      rcases List.mem_cons.1 hm with rfl | hm
      · exact h p (by simp) _ _ _ hv.1
      · exact ih (fun q hq => h q (by simp [hq])) hv.2 v hm

/-! ### Making a variable -/
theorem alloc_heap_new (w : World) (o : Obj) : (w.alloc o).heap[w.heap.size]? = some o := by
  show (w.heap.push o)[w.heap.size]? = _
  simp
theorem alloc_heap_old (w : World) (o : Obj) {k : Nat} (h : k < w.heap.size) : (w.alloc o).heap[k]? = w.heap[k]? := Below.heap_alloc w o k h
theorem cell_alloc_old (w : World) (o : Obj) {b off : Nat} (h : b < w.heap.size) : (w.alloc o).cell? ⟨b, off, none⟩ = w.cell? ⟨b, off, none⟩ :=
  World.cell?_of_block (w := w) (alloc_heap_old w o h)

def G.addBE (g : G) (e : BE) : G := ⟨g.sld, g.box ++ [e], g.own, g.base⟩
def G.addBox (g : G) (k : Nat) : G := g.addBE ⟨some k, 0, 0⟩

theorem SRel.ltBox {g : G} {s : St} {w : World} (h : SRel g s w) {k : Nat} (hk : g.isB k) : k < w.heap.size := by
  obtain ⟨i, e, hi, he⟩ := hk
  have hi2 : i < s.boxes.length := by rw [← h.len]; exact (List.getElem?_eq_some_iff.1 hi).1
  obtain ⟨e', vs, h1, h2, h3, _⟩ := h.bx i s.boxes[i] (List.getElem?_eq_getElem hi2)
  rw [hi] at h1
  cases h1
  exact h3.lt he
theorem addBE_old {g : G} {e e0 : BE} {i : Nat} (h : g.box[i]? = some e) : (g.addBE e0).box[i]? = some e := by
  show (g.box ++ [e0])[i]? = _
  rw [List.getElem?_append_left (List.getElem?_eq_some_iff.1 h).1]; exact h
theorem addBE_get {g : G} {e e0 : BE} {i : Nat} (h : (g.addBE e0).box[i]? = some e) : g.box[i]? = some e ∨ i = g.box.length ∧ e = e0 := by
  replace h : (g.box ++ [e0])[i]? = some e := h
  by_cases hi : i < g.box.length
  · rw [List.getElem?_append_left hi] at h; exact .inl h
  · have := (List.getElem?_eq_some_iff.1 h).1
    simp at this
    have hie : i = g.box.length := by omega
    subst hie
    simp at h
    exact .inr ⟨rfl, h.symm⟩
theorem addBE_isB {g : G} {e0 : BE} {k : Nat} (h : (g.addBE e0).isB k) : g.isB k ∨ e0.blk = some k := by
  obtain ⟨i, e, h1, h2⟩ := h
  rcases addBE_get h1 with h3 | ⟨_, rfl⟩
  · exact .inl ⟨i, e, h3, h2⟩
  · exact .inr h2
theorem SRel.ltOwn {g : G} {s : St} {w : World} (h : SRel g s w) {b : Nat} {i : Nat × Nat} (hb : g.own b = some i) : b < w.heap.size := by
  obtain ⟨id, c⟩ := i
  obtain ⟨f, cs, _, h2, _⟩ := h.ow b id c hb
  exact (Array.getElem?_eq_some_iff.1 h2).1
theorem SRel.sld0 {g : G} {s : St} {w : World} (h : SRel g s w) : g.sld w.heap.size = 0 := by
  cases hn : g.sld w.heap.size with
  | zero => rfl
  | succ n => exact absurd (h.sl w.heap.size (by omega)) (by omega)
theorem SRel.own0 {g : G} {s : St} {w : World} (h : SRel g s w) : g.own w.heap.size = none := by
  cases hn : g.own w.heap.size with
  | none => rfl
  | some i => exact absurd (h.ltOwn hn) (by omega)

theorem ext_addBE {g : G} {s : St} {w : World} (h : SRel g s w) (o : Obj) (e : BE) (he : e.blk = some w.heap.size) : Ext g w (g.addBE e) (w.alloc o) := by
  refine ⟨rfl, rfl, rfl, by simp, fun _ => Nat.le_refl _, fun b off ho => ?_, fun i e1 h1 => ⟨e1, addBE_old h1, Nat.le_refl _, fun _ => rfl⟩, fun k hk => ?_, fun _ _ h => h, fun _ _ h => .inl h, fun b _ hb _ _ => alloc_heap_old w o hb, rfl, fun b _ h _ _ => (alloc_heap_old w o (Array.getElem?_eq_some_iff.1 h).1).trans h⟩
  · exact cell_alloc_old w o (h.sl b (by omega))
  · rcases addBE_isB hk with h1 | h1
    · exact .inl h1
    · rw [he] at h1; cases h1; exact .inr (Nat.le_refl _)

theorem srel_addBE {g : G} {s : St} {w : World} (h : SRel g s w) {B : Bx} {cs : Array Value} {e : BE} (hk : e.blk = some w.heap.size) (hv : e.ver = B.ver) (hc : 2 ≤ B.ver → cs.size = e.cnt) (hp : PdsP g w B.cs cs.toList) (hb : ∀ p ∈ B.cs, p.Bnd s.boxes.length s.fr.length) :
    SRel (g.addBE e) ⟨s.boxes ++ [B], s.fr, s.stat⟩ (w.alloc (B.obj cs)) := by
  have hx := ext_addBE h (B.obj cs) e hk
  refine ⟨by simp [G.addBE, h.len], ?_, fun i C hC => ?_, fun b id c ho => ?_, fun b hn => ?_, s.stat.mono hx h.st, h.sb, Nat.le_trans h.bz hx.size⟩
  · intro i j e1 e2 k h1 h2 h3 h4
    rcases addBE_get h1 with q1 | ⟨q1, rfl⟩ <;> rcases addBE_get h2 with q2 | ⟨q2, rfl⟩
    · exact h.nd i j e1 e2 k q1 q2 h3 h4
    · rw [hk] at h4; cases h4
      exact absurd (h.ltBox ⟨i, e1, q1, h3⟩) (by omega)
    · rw [hk] at h3; cases h3
      exact absurd (h.ltBox ⟨j, e2, q2, h4⟩) (by omega)
    · rw [q1, q2]
  · by_cases hi : i < s.boxes.length
    · rw [List.getElem?_append_left hi] at hC
      obtain ⟨e1, vs, h1, h2, h3, h4, h5, h6⟩ := h.bx i C hC
      exact ⟨e1, vs, addBE_old h1, h2, h3.to fun k _ hl => alloc_heap_old w _ hl, h4.mono hx, h5, fun p hp => (h6 p hp).up (by simp) (Nat.le_refl _)⟩
    · have hi2 : i = s.boxes.length := by
        have := (List.getElem?_eq_some_iff.1 hC).1
        simp at this; omega
      subst hi2
      simp at hC
      subst hC
      refine ⟨e, cs, ?_, hv, ?_, hp.mono hx, fun k hk2 => ?_, fun p hp => (hb p hp).up (by simp) (Nat.le_refl _)⟩
      · show (g.box ++ [e])[s.boxes.length]? = _
        rw [← h.len]; simp
      · unfold Cont; rw [hk]; exact ⟨alloc_heap_new w _, hc⟩
      · rw [hk] at hk2; cases hk2
        exact ⟨fun _ => h.sld0, h.own0, h.bz⟩
  · obtain ⟨f, cs2, h1, h2, h3⟩ := h.ow b id c ho
    exact ⟨f, cs2, h1, by rw [alloc_heap_old w _ (Array.getElem?_eq_some_iff.1 h2).1]; exact h2, h3⟩
  · have := h.sl b hn
    simp; omega
theorem ext_addBox {g : G} {s : St} {w : World} (h : SRel g s w) (o : Obj) : Ext g w (g.addBox w.heap.size) (w.alloc o) := ext_addBE h o _ rfl
theorem srel_addBox {g : G} {s : St} {w : World} (h : SRel g s w) {t : TypeId} {cs : Array Value} {ps : List Pd} (hp : Pds g w ps cs.toList) (hb : ∀ p ∈ ps, p.Bnd s.boxes.length s.fr.length) (hT : Nat.blt t HOT = true := by rfl) :
    SRel (g.addBox w.heap.size) ⟨s.boxes ++ [⟨t, ps⟩], s.fr, s.stat⟩ (w.alloc (.cells cs t)) := by
  have h0 : (⟨t, ps⟩ : Bx).ver = 0 := ver_plain hT
  have := srel_addBE h (B := ⟨t, ps⟩) (cs := cs) (e := ⟨some w.heap.size, 0, 0⟩) rfl h0.symm (fun h2 => by rw [h0] at h2; omega) hp.pre hb
  rwa [obj_cells (B := ⟨t, ps⟩) hT] at this
theorem ptr_new {g : G} {s : St} {w : World} {o : Obj} (hs : SRel g s w) : (ptr s.boxes.length 0).h (g.addBox w.heap.size) (w.alloc o) (.pointer (some ⟨w.heap.size, 0, none⟩)) :=
  ⟨⟨some w.heap.size, 0, 0⟩, w.heap.size, by
    show (g.box ++ [_])[s.boxes.length]? = _
    rw [← hs.len]; simp, Nat.le_refl _, rfl, fun _ => rfl⟩

section
variable {P : Program} {e : Env} {s : St} {dst : Option Tmp} {ty : TypeId} {pos : String} {after : Array Edge} {guard : Option (Nat × Bool)}

theorem opD_box_agg {t : TypeId} {x : Operand} {ps : List Pd} (hx : e.ev x = agg ps) (hb : ∀ p ∈ ps, p.Bnd s.boxes.length s.fr.length) (hT : Nat.blt t HOT = true := by rfl) :
    OpD P ⟨dst, .box t x, ty, pos, after, guard⟩ e s (ptr s.boxes.length 0) ⟨s.boxes ++ [⟨t, ps⟩], s.fr, s.stat⟩ :=
  opD_value fun g a w ha hs => by
    have h1 := ha x (by simp [Op.operands])
    rw [hx] at h1
    obtain ⟨cs, hv, hp⟩ := h1
    refine ⟨.pointer (some ⟨w.heap.size, 0, none⟩), g.addBox w.heap.size, w.alloc (.cells cs t), ?_, ptr_new hs, ext_addBox hs _, srel_addBox hs hp hb hT⟩
    · generalize a.eval = ρ at hv ⊢
      simp [execOp, Instr.box, newVar, newRow, hv, go_sem, Value.cells]

theorem pds_pl (g : G) (w : World) : ∀ vs : List Value, Pds g w (vs.map pl) vs
  | [] => trivial
  | _ :: vs => ⟨rfl, pds_pl g w vs⟩

theorem opD_alloc {t : TypeId} {z : Value} (hz : ((P.info? t).bind (·.zero)) = some z) (hT : Nat.blt t HOT = true := by rfl) :
    OpD P ⟨dst, .alloc t, ty, pos, after, guard⟩ e s (ptr s.boxes.length 0) ⟨s.boxes ++ [⟨t, z.cells.toList.map pl⟩], s.fr, s.stat⟩ :=
  opD_value fun g a w ha hs => by
    refine ⟨.pointer (some ⟨w.heap.size, 0, none⟩), g.addBox w.heap.size, w.alloc (.cells z.cells t), ?_, ptr_new hs, ext_addBox hs _, srel_addBox hs (pds_pl _ _ _) (fun p hp => ?_) hT⟩
    · obtain ⟨i, hi, hz2⟩ := Option.bind_eq_some_iff.1 hz
      generalize a.eval = ρ
      simp [execOp, Instr.alloc, newVar, newRow, zeroValue, typeInfo, hi, hz2, go_sem]
    · obtain ⟨v, _, rfl⟩ := List.mem_map.1 hp
      exact pl_bnd _ _ _

/-! ### A variable's cells -/
def aggT (P : Program) (t : TypeId) : Option Bool := (P.underlying t).map fun | .struct _ | .array _ _ => true | _ => false
def sizeT (P : Program) (t : TypeId) : Option Nat := (P.info? t).map (·.size)

theorem run_isAgg {t : TypeId} {b : Bool} (h : aggT P t = some b) (w : World) : (isAgg t).run P w = .ok b w := by
  unfold aggT at h
  cases hu : P.underlying t with
  | none => rw [hu] at h; cases h
  | some d =>
    rw [hu] at h
    simp only [Option.map_some, Option.some.injEq] at h
    subst h
    simp only [isAgg]
    cases d <;> simp [run_underlying hu]

theorem run_sizeOf {t : TypeId} {n : Nat} (h : sizeT P t = some n) (w : World) : (sizeOf t).run P w = .ok n w := by
  obtain ⟨i, hi, hn⟩ := Option.map_eq_some_iff.1 h
  simp [sizeOf, typeInfo, hi, hn]

theorem run_loadVar_one {t : TypeId} (h : aggT P t = some false) {a : Addr} {w : World} {v : Value} (hc : w.cell? a = some v) : (loadVar t a).run P w = .ok v w := by
  simp [loadVar, run_isAgg h, load, Sem.run, hc]

theorem run_loadVar_agg {t : TypeId} {n : Nat} (h : aggT P t = some true) (hn : sizeT P t = some n) {a : Addr} {w : World} {cs : List Value} (hl : cs.length = n) (hc : ∀ j v, cs[j]? = some v → w.cell? (a.add j) = some v) :
    (loadVar t a).run P w = .ok (.agg cs.toArray) w := by
  have := run_loadCells_list (P := P) (w := w) a cs hc
  rw [hl] at this
  simp [loadVar, run_isAgg h, run_sizeOf hn, this]

theorem box_cell {g : G} {w : World} {k : Nat} {vs : Array Value} {t : TypeId} {fr : Nat × Nat} (h : w.heap[k]? = some (.cells vs t fr)) (off : Nat) : w.cell? ⟨k, off, none⟩ = vs[off]? := by
  simp [World.cell?, h]

theorem run_v {S : Sem Value} {w w' : World} {v : Value} (h : S.run P w = .ok v w') : (Sem.bind S fun v => Sem.pure (Next.value v)).run P w = .ok (.value v) w' := by
  rw [Sem.run_bind' P, h]
  rfl

theorem run_load {ρ : Operand → Value} {t : TypeId} {x : Operand} {a : Addr} {w : World} {v : Value} (hv : ρ x = .pointer (some a)) (h : (loadVar t a).run P w = .ok v w) : (execOp ρ ⟨dst, .load t x, ty, pos, after, guard⟩).run P w = .ok (.value v) w := by
  show (Sem.bind (Instr.loadAt t (ρ x)) fun v => Sem.pure (Next.value v)).run P w = _
  rw [hv]
  exact run_v h

theorem opD_load_one {t : TypeId} {x : Operand} {b off : Nat} {B : Bx} {p : Pd} (ht : aggT P t = some false) (hx : e.ev x = ptr b off) (hB : s.boxes[b]? = some B) (hp : B.cs[off]? = some p) (hT : Nat.blt B.t HOT = true := by rfl) :
    OpD P ⟨dst, .load t x, ty, pos, after, guard⟩ e s p s :=
  opD_look fun g a w ha hs => by
    have h1 := ha x (by simp [Op.operands])
    rw [hx] at h1
    obtain ⟨e0, k, vs, hv, hk, hb, h3, _, h4, _⟩ := ptv_at hs h1 hB (ver_plain hT) (by intro h; rw [h] at hp; cases hp)
    rw [obj_cells hT] at h3
    obtain ⟨v, hv2, hp2⟩ := h4.get off p hp
    refine ⟨v, ?_, hp2⟩
    have hc : w.cell? ⟨k, off, none⟩ = some v := by rw [box_cell (g := g) h3]; simpa using hv2
    exact run_load hv (run_loadVar_one ht hc)

theorem opD_load_agg {t : TypeId} {n : Nat} {x : Operand} {b off : Nat} {B : Bx} (ht : aggT P t = some true) (hn : sizeT P t = some n) (hx : e.ev x = ptr b off) (hB : s.boxes[b]? = some B) (hl : off + n ≤ B.cs.length) (hT : Nat.blt B.t HOT = true := by rfl) :
    OpD P ⟨dst, .load t x, ty, pos, after, guard⟩ e s (agg ((B.cs.drop off).take n)) s :=
  opD_look fun g a w ha hs => by
    have h1 := ha x (by simp [Op.operands])
    rw [hx] at h1
    by_cases hne : B.cs = []
    · rw [hne] at hl ⊢
      simp only [List.length_nil] at hl
      have h0 : off = 0 := by omega
      have h00 : n = 0 := by omega
      subst h0; subst h00
      obtain ⟨e0, k, hk, hr, hv, hb⟩ := h1
      refine ⟨.agg #[], run_load hv ?_, #[], rfl, trivial⟩
      exact run_loadVar_agg ht hn (cs := []) rfl (fun j v hj => by simp at hj)
    obtain ⟨e0, k, vs, hv, hk, hb, h3, _, h4, _⟩ := ptv_at hs h1 hB (ver_plain hT) hne
    rw [obj_cells hT] at h3
    have hvl := h4.len
    refine ⟨.agg ((vs.toList.drop off).take n).toArray, ?_, _, rfl, by simpa using (h4.drop off).part (n := n) (by rw [List.length_drop]; omega)⟩
    have hc : ∀ j v, ((vs.toList.drop off).take n)[j]? = some v → w.cell? ((⟨k, off, none⟩ : Addr).add j) = some v := by
      intro j v hj
      rw [Addr.add_lit, box_cell (g := g) h3]
      have hjl := (List.getElem?_eq_some_iff.1 hj).1
      simp only [List.length_take, List.length_drop] at hjl
      rw [List.getElem?_take_of_lt (by omega), List.getElem?_drop] at hj
      simpa using hj
    have := run_loadVar_agg ht hn (cs := (vs.toList.drop off).take n) (by simp only [List.length_take, List.length_drop]; omega) hc
    exact run_load hv this

def fieldOff (P : Program) (t : TypeId) (f : Nat) : Option Nat :=
  match P.underlying t with
  | some (.struct fs) => match fs[f]? with
    | some fd => match sizeT P fd.type with
      | some 0 => none
      | some _ => some fd.offset
      | none => none
    | none => none
  | _ => none

theorem run_fieldAt {t : TypeId} {f n : Nat} (h : fieldOff P t f = some n) (k off : Nat) (w : World) : (Instr.fieldAt t (.pointer (some ⟨k, off, none⟩)) f).run P w = .ok (.pointer (some ⟨k, off + n, none⟩)) w := by
  unfold fieldOff at h
  split at h
  · rename_i fs hu
    split at h
    · rename_i fd hf
      cases hz : sizeT P fd.type with
      | none => rw [hz] at h; cases h
      | some m =>
        rw [hz] at h
        cases m with
        | zero => cases h
        | succ m =>
          simp only [Option.some.injEq] at h
          simp [Instr.fieldAt, run_underlying hu, hf, Instr.sureAddr, fieldPlace, run_sizeOf hz, Addr.add_lit, h]
    · cases h
  · cases h

theorem opD_fieldAddr {t : TypeId} {x : Operand} {f n b r off : Nat} (hf : fieldOff P t f = some n) (hx : e.ev x = ptv b r off) :
    OpD P ⟨dst, .fieldAddr t x f, ty, pos, after, guard⟩ e s (ptv b r (off + n)) s :=
  opD_look fun g a w ha _ => by
    have h1 := ha x (by simp [Op.operands])
    rw [hx] at h1
    obtain ⟨e0, k, hk, hr, hv, hb⟩ := h1
    refine ⟨_, ?_, e0, k, hk, hr, rfl, hb⟩
    show (Sem.bind (Instr.fieldAt t (a.eval x) f) fun v => Sem.pure (Next.value v)).run P w = _
    rw [hv]
    exact run_v (run_fieldAt hf _ _ _)

theorem opD_fieldAddr_el {α : Type} {K : Kn α} {l : List α} {i : Nat} {t : TypeId} {x : Operand} {f n off : Nat} (hf : fieldOff P t f = some n) (hx : e.ev x = el K l i off) :
    OpD P ⟨dst, .fieldAddr t x f, ty, pos, after, guard⟩ e s (el K l i (off + n)) s :=
  opD_look fun g a w ha _ => by
    have h1 := ha x (by simp [Op.operands])
    rw [hx] at h1
    obtain ⟨b, o, hv, hc⟩ := h1
    refine ⟨.pointer (some ⟨b, o + i * K.sz + (off + n), none⟩), ?_, b, o, rfl, hc⟩
    show (Sem.bind (Instr.fieldAt t (a.eval x) f) fun v => Sem.pure (Next.value v)).run P w = _
    rw [hv, ← Nat.add_assoc]
    exact run_v (run_fieldAt hf _ _ _)

theorem opD_load_el_one {α : Type} {K : Kn α} {l : List α} {i : Nat} {z : α} {t : TypeId} {x : Operand} {off : Nat} {p : Pd} (ht : aggT P t = some false) (hx : e.ev x = el K l i off) (hi : l[i]? = some z) (hp : (K.cs z)[off]? = some p) :
    OpD P ⟨dst, .load t x, ty, pos, after, guard⟩ e s p s :=
  opD_look fun g a w ha hs => by
    have h1 := ha x (by simp [Op.operands])
    rw [hx] at h1
    obtain ⟨b, o, hv, hc⟩ := h1
    obtain ⟨_, c, h2, h3⟩ := hc i z hi off p hp
    refine ⟨c, ?_, h3⟩
    exact run_load hv (run_loadVar_one ht h2)

theorem opD_load_el_agg {α : Type} {K : Kn α} {l : List α} {i : Nat} {z : α} {t : TypeId} {n : Nat} {x : Operand} {off : Nat} (ht : aggT P t = some true) (hn : sizeT P t = some n) (hx : e.ev x = el K l i off) (hi : l[i]? = some z) (hl : off + n ≤ K.sz) :
    OpD P ⟨dst, .load t x, ty, pos, after, guard⟩ e s (agg (((K.cs z).drop off).take n)) s :=
  opD_look fun g a w ha hs => by
    have h1 := ha x (by simp [Op.operands])
    rw [hx] at h1
    obtain ⟨b, o, hv, hc⟩ := h1
    have hz := K.len z
    have hex : ∀ (m off : Nat), off + m ≤ K.sz → ∃ vs : List Value, vs.length = m ∧ Pds g w (((K.cs z).drop off).take m) vs ∧ ∀ j v, vs[j]? = some v → w.cell? ((⟨b, o + i * K.sz + off, none⟩ : Addr).add j) = some v := by
      intro m
      induction m with
      | zero => intro off _; exact ⟨[], rfl, by simp [Pds], fun j v h => by simp at h⟩
      | succ m ih =>
        intro off hm
        obtain ⟨vs, h1, h2, h3⟩ := ih (off + 1) (by omega)
        have hlt : off < (K.cs z).length := by omega
        obtain ⟨_, c, h4, h5⟩ := hc i z hi off _ (List.getElem?_eq_getElem hlt)
        refine ⟨c :: vs, by simp [h1], ?_, fun j v hj => ?_⟩
        · rw [List.drop_eq_getElem_cons hlt, List.take_succ_cons]
          exact ⟨h5, h2⟩
        · cases j with
          | zero => simp at hj; subst hj; rw [Addr.add_lit]; exact h4
          | succ j =>
            simp at hj
            have := h3 j v hj
            rw [Addr.add_lit] at this ⊢
            rw [← this]; congr 2; omega
    obtain ⟨vs, h1, h2, h3⟩ := hex n off hl
    refine ⟨.agg vs.toArray, ?_, _, rfl, by simpa using h2⟩
    have := run_loadVar_agg ht hn h1 h3
    exact run_load hv this
end
end Go.Proofs.YtokcgacehdgkcaaGreatDoor.Eng

/- The engine, sixth part: stores, calls, functions. -/
namespace Go.Proofs.YtokcgacehdgkcaaGreatDoor.Eng
open Go.RowKit

/-- The cells of one variable written anew. -/
theorem setRow_other (w : World) (cs : Array Value) {k b : Nat} (h : b ≠ k) : (w.setRow k cs).heap[b]? = w.heap[b]? := by
  simp only [World.setRow, Array.getElem?_modify]
  rw [if_neg (Ne.symm h)]
theorem ext_setRow {g : G} {s : St} {w : World} (h : SRel g s w) {k : Nat} (hk : g.isB k) (h0 : g.sld k = 0) (cs : Array Value) : Ext g w g (w.setRow k cs) := by
  refine ⟨rfl, rfl, rfl, by simp [World.setRow], fun _ => Nat.le_refl _, fun b o ho => ?_, fun _ e h => ⟨e, h, Nat.le_refl _, fun _ => rfl⟩, fun _ h => .inl h, fun _ _ h => h, fun _ _ h => .inl h, fun b _ hb hn _ => setRow_other w cs fun h => hn (h ▸ hk), rfl, fun b _ h _ hn => (setRow_other (b := b) w cs fun e => hn (e.symm ▸ hk)).trans h⟩
  have hbk : b ≠ k := fun h => by subst h; omega
  exact World.cell?_of_block (w := w) (setRow_other w cs hbk)

/-- A box has other cells, maybe another version. -/
theorem srel_put {g g' : G} {s : St} {w w' : World} (h : SRel g s w) {i k' : Nat} {e e' : BE} {B B' : Bx} {cs : Array Value} (hB : s.boxes[i]? = some B) (he : g.box[i]? = some e) (hx : Ext g w g' w')
    (hg : g'.sld = g.sld ∧ g'.own = g.own ∧ g'.base = g.base) (hbx : g'.box = g.box.set i e') (hk' : e'.blk = some k') (hv : e'.ver = B'.ver) (hc : 2 ≤ B'.ver → cs.size = e'.cnt) (hkk : e.blk = some k' ∨ w.heap.size ≤ k')
    (hsame : ∀ b, b < w.heap.size → b ≠ k' → w'.heap[b]? = w.heap[b]?) (hh : w'.heap[k']? = some (B'.obj cs)) (h0 : g.sld k' = 0) (hp : PdsP g' w' B'.cs cs.toList) (hb : ∀ p ∈ B'.cs, p.Bnd s.boxes.length s.fr.length) : SRel g' ⟨s.boxes.set i B', s.fr, s.stat⟩ w' := by
  obtain ⟨e0, vs', h1, h2, h3, h4, h5, h6⟩ := h.bx i B hB
  rw [he] at h1; cases h1
  have hi : i < g.box.length := (List.getElem?_eq_some_iff.1 he).1
  have hgs : ∀ j f, g'.box[j]? = some f → (j = i ∧ f = e') ∨ (j ≠ i ∧ g.box[j]? = some f) := fun j f hf => by
    rw [hbx] at hf
    by_cases hj : j = i
    · subst hj; rw [List.getElem?_set_self hi] at hf; cases hf; exact .inl ⟨rfl, rfl⟩
    · rw [List.getElem?_set_ne (Ne.symm hj)] at hf; exact .inr ⟨hj, hf⟩
  have hother : ∀ j f, j ≠ i → g.box[j]? = some f → f.blk ≠ some k' := fun j f hj hf hfk => by
    rcases hkk with hk | hlt
    · exact hj (h.nd j i f e _ hf he hfk hk)
    · exact absurd (h.ltBox ⟨j, f, hf, hfk⟩) (by omega)
  refine ⟨by rw [hbx]; simp [h.len], ?_, fun j C hC => ?_, fun b id c ho => ?_, fun b hn => ?_, s.stat.mono hx h.st, h.sb, by rw [hg.2.2]; exact Nat.le_trans h.bz hx.size⟩
  · intro a b e1 e2 q r1 r2 r3 r4
    rcases hgs a e1 r1 with ⟨r5, rfl⟩ | ⟨r5, r6⟩ <;> rcases hgs b e2 r2 with ⟨r7, rfl⟩ | ⟨r7, r8⟩
    · rw [r5, r7]
    · rw [hk'] at r3; cases r3; exact absurd r4 (hother b e2 r7 r8)
    · rw [hk'] at r4; cases r4; exact absurd r3 (hother a e1 r5 r6)
    · exact h.nd a b e1 e2 q r6 r8 r3 r4
  · by_cases hij : j = i
    · subst hij
      have hlt : j < s.boxes.length := (List.getElem?_eq_some_iff.1 hB).1
      simp [hlt] at hC
      subst hC
      refine ⟨e', cs, by rw [hbx, List.getElem?_set_self hi], hv, by unfold Cont; rw [hk']; exact ⟨hh, hc⟩, hp, fun q hq => ?_, by simpa using hb⟩
      rw [hk'] at hq; cases hq
      refine ⟨fun _ => by rw [hg.1]; exact h0, ?_, ?_⟩
      · rw [hg.2.1]
        rcases hkk with hk | hlt
        · exact (h5 _ hk).2.1
        · cases ho : g.own k' with
          | none => rfl
          | some x => exact absurd (h.ltOwn ho) (by omega)
      · rw [hg.2.2]
        rcases hkk with hk | hlt
        · exact (h5 _ hk).2.2
        · exact Nat.le_trans h.bz hlt
    · have hC' : s.boxes[j]? = some C := by
        have := hC
        simp only [] at this
        rwa [List.getElem?_set_ne (Ne.symm hij)] at this
      obtain ⟨e2, vs2, r1, r2, r3, r4, r5, r6⟩ := h.bx j C hC'
      refine ⟨e2, vs2, by rw [hbx, List.getElem?_set_ne (Ne.symm hij)]; exact r1, r2, r3.to fun q hq hl => hsame q hl fun hqk => hother j e2 hij r1 (hqk ▸ hq), r4.mono hx, ?_, by simpa using r6⟩
      rw [hg.1, hg.2.1, hg.2.2]; exact r5
  · rw [hg.2.1] at ho
    obtain ⟨f, cs2, r1, r2, r3, r4⟩ := h.ow b id c ho
    have hne : b ≠ k' := fun hbk => by
      subst hbk
      rcases hkk with hk | hlt
      · rw [(h5 _ hk).2.1] at ho; cases ho
      · exact absurd (h.ltOwn ho) (by omega)
    exact ⟨f, cs2, r1, by rw [hsame b (h.ltOwn ho) hne]; exact r2, r3, by rw [hg.1]; exact r4⟩
  · rw [hg.1] at hn
    exact Nat.lt_of_lt_of_le (h.sl b hn) hx.size
theorem set_self {α : Type} {l : List α} {i : Nat} {x : α} (h : l[i]? = some x) : l.set i x = l := List.ext_getElem? fun j => by
  by_cases hj : j = i
  · subst hj; rw [List.getElem?_set_self (List.getElem?_eq_some_iff.1 h).1, h]
  · rw [List.getElem?_set_ne (Ne.symm hj)]
/-- Only the cells are others. -/
theorem srel_setCells {g : G} {s : St} {w : World} (h : SRel g s w) {i k : Nat} {e : BE} {B : Bx} {vs : Array Value} (hB : s.boxes[i]? = some B) (he : g.box[i]? = some e) (hk : e.blk = some k) (hh : w.heap[k]? = some (.cells vs (B.t % HOT) (0, 0))) (hR : Nat.beq B.ver 1 = false) (h0 : g.sld k = 0)
    {cs : Array Value} {ps : List Pd} (hc : 2 ≤ B.ver → cs.size = e.cnt) (hp : PdsP g w ps cs.toList) (hb : ∀ p ∈ ps, p.Bnd s.boxes.length s.fr.length) : SRel g ⟨s.boxes.set i ⟨B.t, ps⟩, s.fr, s.stat⟩ (w.setRow k cs) := by
  have hx := ext_setRow h ⟨i, e, he, hk⟩ h0 cs
  obtain ⟨e0, _, r1, r2, _⟩ := h.bx i B hB
  rw [he] at r1; cases r1
  refine srel_put (B' := ⟨B.t, ps⟩) (e' := e) h hB he hx ⟨rfl, rfl, rfl⟩ (set_self he).symm hk r2 hc (.inl hk) (fun b _ hb => setRow_other w cs hb) ?_ h0 (hp.mono hx) hb
  have : (⟨B.t, ps⟩ : Bx).obj cs = .cells cs (B.t % HOT) (0, 0) := by
    unfold Bx.obj
    have h2 : Nat.beq (B.t / HOT) 1 = false := hR
    simp only [h2]; rfl
  rw [this]
  exact setRow_heap w k vs cs _ (0, 0) hh

section
variable {P : Program} {e : Env} {s : St} {dst : Option Tmp} {ty : TypeId} {pos : String} {after : Array Edge} {guard : Option (Nat × Bool)}

theorem run_u {S : Sem Unit} {w w' : World} (h : S.run P w = .ok () w') : (Sem.bind S fun _ => Sem.pure Next.skip).run P w = .ok .skip w' := by
  rw [Sem.run_bind' P, h]
  rfl

theorem opD_skip {o : Oper} {s' : St} (h : ∀ (g : G) (a : Act) (w : World), (∀ x ∈ o.op.operands, (e.ev x).h g w (a.eval x)) → SRel g s w →
    ∃ g' w', (execOp a.eval o).run P w = .ok .skip w' ∧ Ext g w g' w' ∧ SRel g' s' w') : OpD P o e s any s' := by
  intro g a w next Q ha hs hn
  obtain ⟨g', w', h1, h3, h4⟩ := h g a w ha hs
  unfold Oper.wp
  rw [h1]
  exact hn undef g' w' trivial h3 h4

theorem run_storeVar {t : TypeId} {v : Value} {n k off : Nat} {cur : Array Value} {bt : TypeId} {w : World} (hn : sizeT P t = some n) (hv : v.cells.size = n) (h1 : ∀ u ∈ v.cells, u.oneCell' = true) (hh : w.heap[k]? = some (.cells cur bt (0, 0))) (hl : off + n ≤ cur.size) :
    (storeVar t ⟨k, off, none⟩ v).run P w = .ok () (w.setRow k (cur.toList.take off ++ v.cells.toList ++ cur.toList.drop (off + n)).toArray) := by
  have := run_storeCells_at P k off bt v.cells.toList 0 cur w hh (by simpa [hv] using hl) (fun u hu => h1 u (by simpa using hu))
  simp only [Nat.add_zero] at this
  simp [storeVar, run_sizeOf hn, hv, this]

theorem opD_store_one {t : TypeId} {x y : Operand} {b off : Nat} {B : Bx} {p : Pd} (hn : sizeT P t = some 1) (hx : e.ev x = ptr b off) (hy : (e.ev y).le p) (h1 : p.One) (hB : s.boxes[b]? = some B) (hl : off < B.cs.length) (hb : p.Bnd s.boxes.length s.fr.length) (hT : Nat.blt B.t HOT = true := by rfl) :
    OpD P ⟨dst, .store t x y, ty, pos, after, guard⟩ e s any ⟨s.boxes.set b ⟨B.t, B.cs.set off p⟩, s.fr, s.stat⟩ :=
  opD_skip fun g a w ha hs => by
    have e1 := ha x (by simp [Op.operands])
    have e2 := ha y (by simp [Op.operands])
    rw [hx] at e1
    replace e2 := hy _ _ _ e2
    have hne : B.cs ≠ [] := fun h => by rw [h] at hl; simp at hl; try omega
    have hv0 := ver_plain hT
    obtain ⟨e0, k, vs, hv, hk, hkb, h3, hcn, h4, h5, h6, _, h7⟩ := ptv_at hs e1 hB hv0 hne
    rw [obj_cells hT] at h3
    have hvl := h4.len
    have hvs : B.cs.length ≤ vs.size := by simpa using hvl
    have hone := h1 _ _ _ e2
    have hc := cells_of_one hone
    have hrun := run_storeVar (P := P) (v := a.eval y) hn (by rw [hc]; rfl) (by rw [hc]; simpa using hone) h3 (off := off) (by omega)
    refine ⟨g, w.setRow k (vs.toList.take off ++ (a.eval y).cells.toList ++ vs.toList.drop (off + 1)).toArray, ?_, ext_setRow hs ⟨b, e0, hk, hkb⟩ h5 _, srel_setCells hs hB hk hkb (by rw [Nat.mod_eq_of_lt (Eq.mp Nat.blt_eq hT)]; exact h3) (by rw [hv0]; rfl) h5 (fun h => by rw [hv0] at h; omega) ?_ ?_⟩
    · show (Sem.bind (Instr.storeAt t (a.eval x) (a.eval y)) fun _ => Sem.pure Next.skip).run P w = _
      rw [hv]
      exact run_u hrun
    · have hset : vs.toList.take off ++ [a.eval y] ++ vs.toList.drop (off + 1) = vs.toList.set off (a.eval y) := by
        have : off < vs.toList.length := by omega
        rw [List.set_eq_take_append_cons_drop, if_pos this]
        simp
      show PdsP g w _ (vs.toList.take off ++ (a.eval y).cells.toList ++ vs.toList.drop (off + 1))
      rw [hc, show (vs.toList.take off ++ #[a.eval y].toList ++ vs.toList.drop (off + 1)) = vs.toList.set off (a.eval y) from hset]
      exact h4.set off e2
    · intro q hq
      rcases List.mem_or_eq_of_mem_set hq with hq | rfl
      · exact h7 q hq
      · exact hb

theorem opD_store_agg {t : TypeId} {n : Nat} {x y : Operand} {b off : Nat} {B : Bx} {ps : List Pd} (hn : sizeT P t = some n) (hx : e.ev x = ptr b off) (hy : e.ev y = agg ps) (h1 : ∀ p ∈ ps, p.One) (hB : s.boxes[b]? = some B) (hps : ps.length = n) (hl : off + n ≤ B.cs.length) (hne : B.cs ≠ [])
    (hb : ∀ p ∈ ps, p.Bnd s.boxes.length s.fr.length) (hT : Nat.blt B.t HOT = true := by rfl) :
    OpD P ⟨dst, .store t x y, ty, pos, after, guard⟩ e s any ⟨s.boxes.set b ⟨B.t, B.cs.take off ++ ps ++ B.cs.drop (off + n)⟩, s.fr, s.stat⟩ :=
  opD_skip fun g a w ha hs => by
    have e1 := ha x (by simp [Op.operands])
    have e2 := ha y (by simp [Op.operands])
    rw [hx] at e1
    rw [hy] at e2
    have hv0 := ver_plain hT
    obtain ⟨e0, k, vs, hv, hk, hkb, h3, hcn, h4, h5, h6, _, h7⟩ := ptv_at hs e1 hB hv0 hne
    rw [obj_cells hT] at h3
    obtain ⟨cs, hv2, hp⟩ := e2
    have hvl := h4.len
    have hvs : B.cs.length ≤ vs.size := by simpa using hvl
    have hpl := hp.length
    have hc : (a.eval y).cells = cs := by rw [hv2]; rfl
    have hrun := run_storeVar (P := P) (v := a.eval y) hn (by rw [hc, ← hps, ← hpl]; simp) (by rw [hc]; intro u hu; exact one_agg_mem h1 hp u (by simpa using hu)) h3 (off := off) (by omega)
    refine ⟨g, w.setRow k (vs.toList.take off ++ (a.eval y).cells.toList ++ vs.toList.drop (off + n)).toArray, ?_, ext_setRow hs ⟨b, e0, hk, hkb⟩ h5 _, srel_setCells hs hB hk hkb (by rw [Nat.mod_eq_of_lt (Eq.mp Nat.blt_eq hT)]; exact h3) (by rw [hv0]; rfl) h5 (fun h => by rw [hv0] at h; omega) ?_ ?_⟩
    · show (Sem.bind (Instr.storeAt t (a.eval x) (a.eval y)) fun _ => Sem.pure Next.skip).run P w = _
      rw [hv]
      exact run_u hrun
    · rw [hc]
      exact PdsP.append ((h4.part (by omega)).append hp) (h4.drop (off + n))
    · intro q hq
      rcases List.mem_append.1 hq with hq | hq
      · rcases List.mem_append.1 hq with hq | hq
        · exact h7 q (List.mem_of_mem_take hq)
        · exact hb q hq
      · exact h7 q (List.mem_of_mem_drop hq)

/-! ### Calls -/
/-- What a function does with arguments of which this is known. -/
def AC (P : Program) (f : FuncId) (ps : List Pd) (s : St) (p : Pd) (s' : St) : Prop :=
  ∀ (g : G) (w : World) (vs : List Value), Pds g w ps vs → SRel g s w → Calls P f vs.toArray w fun e w' => ∃ v g', e = .returned v ∧ p.h g' w' v ∧ Ext g w g' w' ∧ SRel g' s' w'

def Args (e : Env) : List Operand → List Pd → Prop
  | [], [] => True
  | x :: xs, p :: ps => (e.ev x).le p ∧ Args e xs ps
  | _, _ => False

theorem Args.pds {e : Env} {g : G} {w : World} {a : Act} : ∀ {xs : List Operand} {ps : List Pd}, Args e xs ps → (∀ x ∈ xs, (e.ev x).h g w (a.eval x)) → Pds g w ps (xs.map a.eval)
  | [], [], _, _ => trivial
  | x :: _, _ :: _, ⟨h1, h2⟩, h => ⟨h1 _ _ _ (h x (by simp)), Args.pds h2 fun y hy => h y (by simp [hy])⟩
  | [], _ :: _, h, _ => h.elim
  | _ :: _, [], h, _ => h.elim

theorem le_of_eq {p q : Pd} (h : p = q) : p.le q := h ▸ Pd.le_refl p

/-- A function that is there, and has a text. -/
def hasText (P : Program) (f : FuncId) : Bool :=
  match P.funcs[f]? with
  | some fn => !(fn.name == "runtime.NumGoroutine") && fn.body.isSome
  | none => false

theorem run_callFunc {f : FuncId} (h : hasText P f = true) (args : Array Value) (w : World) : (callFunc f args).run P w = .ok (.enter f args) w := by
  unfold hasText at h
  cases hf : P.funcs[f]? with
  | none => rw [hf] at h; cases h
  | some fn =>
    rw [hf] at h
    simp only [Bool.and_eq_true, Bool.not_eq_true'] at h
    obtain ⟨h1, h2⟩ := h
    obtain ⟨c, hc⟩ := Option.isSome_iff_exists.1 h2
    have h1' : ¬ fn.name = "runtime.NumGoroutine" := by simpa using h1
    simp [callFunc, go_sem, hf, h1', hc]

theorem opD_call {f : FuncId} {xs : List Operand} {ats : Array TypeId} {ps : List Pd} {p : Pd} {s' : St} (hf : hasText P f = true) (hc : AC P f ps s p s') (hx : Args e xs ps) :
    OpD P ⟨dst, .call { callee := .value (.func f), args := xs.toArray, argTypes := ats }, ty, pos, after, guard⟩ e s p s' := by
  intro g a w next Q ha hs hn
  have h1 := hx.pds (a := a) (g := g) (w := w) fun x hx => ha x (by simp [Op.operands, Call.operands, hx])
  unfold Oper.wp
  have h2 : (execOp a.eval ⟨dst, .call { callee := .value (.func f), args := xs.toArray, argTypes := ats }, ty, pos, after, guard⟩).run P w = .ok (.enter f (xs.map a.eval).toArray) w := by
    show (callFunc f (#[] ++ xs.toArray.map a.eval ++ #[])).run P w = _
    rw [run_callFunc hf]
    simp
  rw [h2]
  show Calls P f (xs.map a.eval).toArray w _
  refine (hc g w _ h1 hs).mono ?_
  rintro en w' ⟨v, g', rfl, hp, hx', hs'⟩
  exact hn v g' w' hp hx' hs'

/-! ### Functions -/
def Res (P : Program) (fn : Func) (e : Env) (s : St) (p : Pd) : Prop :=
  ∀ (g : G) (a : Act) (w : World), (∀ t, (e t).h g w (a.tmps.getD t undef)) → SRel g s w → ∃ v, (results fn a.tmps).run P w = .ok v w ∧ p.h g w v

theorem res_0 {fn : Func} (h : fn.results = #[]) : Res P fn e s (pl (.tuple #[])) := fun _ _ w _ _ => ⟨_, results_none h _ P w, rfl⟩
theorem res_1 {fn : Func} {t : Tmp} {p : Pd} (h : fn.results = #[.tmp t]) (hp : e t = p) : Res P fn e s p := fun _ a w ha _ => ⟨_, results_tmp h _ P w, by rw [← hp]; exact ha t⟩
theorem res_3 {fn : Func} {t u r : Tmp} {p q z : Pd} (h : fn.results = #[.tmp t, .tmp u, .tmp r]) (hp : e t = p) (hq : e u = q) (hz : e r = z) : Res P fn e s (tup [p, q, z]) :=
  fun _ a w ha _ => ⟨.tuple #[a.tmps.getD t undef, a.tmps.getD u undef, a.tmps.getD r undef], by simp [results, h], _, rfl, by rw [← hp]; exact ha t, by rw [← hq]; exact ha u, by rw [← hz]; exact ha r, trivial⟩

theorem Res.le {fn : Func} {p q : Pd} (h : Res P fn e s p) (hl : p.le q) : Res P fn e s q := fun g a w ha hs => let ⟨v, h1, h2⟩ := h g a w ha hs; ⟨v, h1, hl _ _ _ h2⟩

/-- What is promised behind a function's text. -/
def Done (P : Program) (fn : Func) (s0 : St) (n m : Nat) (p : Pd) (s2 : St) (x : Exit) (e : Env) (s : St) : Prop :=
  (x = .normal ∨ x = .ret) ∧ Res P fn e s p ∧ s2 = ⟨s.boxes.take n, s.fr.take m, s.stat⟩ ∧ s0.boxes.length ≤ n ∧ s0.fr.length ≤ m ∧ n ≤ s.boxes.length ∧ m ≤ s.fr.length ∧ s.stat = s0.stat ∧ p.Bnd n m ∧
    (∀ (i : Nat) (B : Bx), i < n → s.boxes[i]? = some B → s0.boxes[i]? = some B ∨ ∀ q ∈ B.cs, q.Bnd n m)

def envOf (ps : List Pd) : Env := fun t => (ps[t]?).getD any

/-- Objects that are no cells, and no variables, are others. -/
structure Tk (m : Nat) (g : G) (w w' : World) : Prop where
  os : w'.os = w.os
  tape : w'.tape = w.tape
  output : w'.output = w.output
  size : w'.heap.size = w.heap.size
  same : ∀ b, w'.heap[b]? = w.heap[b]? ∨ (m ≤ b ∧ ¬ g.isB b ∧ (∃ x, w.heap[b]? = some x ∧ x.isCells = false) ∧ ∃ x, w'.heap[b]? = some x ∧ x.isCells = false)
theorem Tk.refl (m : Nat) (g : G) (w : World) : Tk m g w w := ⟨rfl, rfl, rfl, rfl, fun _ => .inl rfl⟩
theorem Tk.trans {m : Nat} {g : G} {w w1 w2 : World} (h : Tk m g w w1) (k : Tk m g w1 w2) : Tk m g w w2 :=
  ⟨k.os.trans h.os, k.tape.trans h.tape, k.output.trans h.output, k.size.trans h.size, fun b => by
    rcases h.same b with h1 | ⟨h1, h2, h3, h4⟩ <;> rcases k.same b with k1 | ⟨k1, k2, k3, k4⟩
    · exact .inl (k1.trans h1)
    · exact .inr ⟨k1, k2, h1 ▸ k3, k4⟩
    · exact .inr ⟨h1, h2, h3, k1.symm ▸ h4⟩
    · exact .inr ⟨h1, h2, h3, k4⟩⟩
theorem cell_none {w : World} {b o : Nat} {x : Obj} (h : w.heap[b]? = some x) (hc : x.isCells = false) : w.cell? ⟨b, o, none⟩ = none := by
  simp only [World.cell?, h]
  cases x <;> first | rfl | cases hc
theorem Tk.cell {m : Nat} {g : G} {w w' : World} (h : Tk m g w w') (b o : Nat) : w'.cell? ⟨b, o, none⟩ = w.cell? ⟨b, o, none⟩ := by
  rcases h.same b with h1 | ⟨_, _, ⟨x, h3, h5⟩, y, h4, h6⟩
  · exact World.cell?_of_block (w := w) h1
  · rw [cell_none h3 h5, cell_none h4 h6]
theorem Tk.ext0 {m : Nat} {g : G} {w w' : World} (h : Tk m g w w') (hb : g.base ≤ m) : Ext0 g w g w' :=
  ⟨h.os, h.tape, h.output, by rw [h.size]; exact Nat.le_refl _, fun _ => Nat.le_refl _, fun b o _ => h.cell b o, fun _ e h => ⟨e, h, Nat.le_refl _, fun _ => rfl⟩, fun _ h => .inl h, fun _ _ h => h, fun _ _ h => .inl h, fun b h1 _ _ _ => (h.same b).resolve_right fun h2 => by omega, rfl⟩
theorem Tk.ext {g0 g : G} {w0 w w' : World} (h : Tk w0.heap.size g w w') (x : Ext g0 w0 g w) : Ext g0 w0 g w' :=
  ⟨h.os.trans x.os, h.tape.trans x.tape, h.output.trans x.output, by rw [h.size]; exact x.size, x.sld, fun b o ho => (h.cell b o).trans (x.cell b o ho), x.box, x.boxf, x.own, x.fresh, fun b h1 h2 h3 h4 => ((h.same b).resolve_right fun h5 => by omega).trans (x.block b h1 h2 h3 h4), x.base, fun b o h1 h2 h3 => ((h.same b).resolve_right fun h5 => by
    have := (Array.getElem?_eq_some_iff.1 h1).1
    omega).trans (x.oth b o h1 h2 h3)⟩
theorem Tk.srel {m : Nat} {g : G} {s : St} {w w' : World} (h : Tk m g w w') (hs : SRel g s w) (hb : g.base ≤ m) : SRel g s w' :=
  ⟨hs.len, hs.nd, fun i B hB => by
    obtain ⟨e, vs, h1, h2, h3, h4, h5⟩ := hs.bx i B hB
    exact ⟨e, vs, h1, h2, h3.to fun k hk _ => (h.same k).resolve_right fun h6 => h6.2.1 ⟨i, e, h1, hk⟩, h4.mono0 (h.ext0 hb), h5⟩, fun b id c ho => by
    obtain ⟨f, cs, h1, h2, h3⟩ := hs.ow b id c ho
    exact ⟨f, cs, h1, ((h.same b).resolve_right fun h6 => by
      obtain ⟨x, hx, hy⟩ := h6.2.2.1
      rw [h2] at hx; cases hx; cases hy).trans h2, h3⟩, fun b hn => by rw [h.size]; exact hs.sl b hn, s.stat.mono0 (h.ext0 hb) hs.st, hs.sb, by rw [h.size]; exact hs.bz⟩
theorem tk_one {m : Nat} {g : G} {w : World} {r : Nat} {o o' : Obj} (hr : m ≤ r) (h : w.heap[r]? = some o) (ho : o.isCells = false) (ho' : o'.isCells = false) (hb : ¬ g.isB r) : Tk m g w (w.putObj r o') :=
  ⟨rfl, rfl, rfl, by simp, fun b => by
    by_cases hbr : b = r
    · subst hbr
      exact .inr ⟨hr, hb, ⟨_, h, ho⟩, _, World.putObj_heap_same (Array.getElem?_eq_some_iff.1 h).1, ho'⟩
    · exact .inl (World.putObj_heap_other hbr)⟩
theorem marks_put {m : Nat} {g : G} {w : World} {r : Nat} : ∀ {ds : List Deferred}, (∀ d' ∈ ds, d'.target ≠ .collected r) → Marks (m, none) g w ds → Marks (m, none) g (w.putObj r (.deferred none)) ds
  | [], _, h => ⟨by simpa using h.1, fun _ hl => nomatch hl⟩
  | d :: _, hn, ⟨⟨r2, h1, h2, h3, h4, h5⟩, h6⟩ => ⟨⟨r2, h1, h2, (World.putObj_heap_other (k := r2) fun h => hn d (by simp) (by rw [h1, h])).trans h3, h4, h5⟩, marks_put (fun d' hd => hn d' (by simp [hd])) h6⟩
theorem leaves_marks {F : Fence} {n m : Nat} {fn : Func} {tmps : Array Value} {R : Ending → World → Prop} {g : G} : ∀ (ds : List Deferred) (w : World), Marks (m, none) g w ds →
    (∀ w', Tk m g w w' → ∃ v, (results fn tmps).run P w' = .ok v w' ∧ R (.returned v) w') → LeavesInM F n P fn tmps R ds .returning w
  | [], w, _, h => h w (Tk.refl m g w)
  | _ :: ds, w, ⟨⟨r, h1, h2, h3, h4, h5⟩, h6⟩, h => ⟨by simp, .inl ⟨r, _, h1, run_takeDeferred h3, leaves_marks ds _ (marks_put h5 h6) fun w' hw => h w' ((tk_one h2 h3 rfl rfl h4).trans hw)⟩⟩

theorem ac_of_aw {f : FuncId} {fn : Func} {c : Code} {ps : List Pd} {p : Pd} {s2 : St} (n m : Nat) (hf : P.funcs[f]? = some fn) (hb : fn.body = some c) (hn : ps.length ≤ fn.ntmps) (h : AW P fn.ntmps c (Done P fn s n m p s2) (envOf ps) s) : AC P f ps s p s2 := by
  intro g w vs hps hs
  have hvl := hps.length
  refine (callsIn_wide (n := 0)).1 (callsIn_of_wp_marks hf hb trivial (wpIn_mono (h w.heap.size none g _ w ⟨?_, ⟨Nat.le_refl _, fun _ hl => nomatch hl⟩, fun t => ?_⟩ hs) ?_))
  · simp [hvl]; omega
  · by_cases ht : t < ps.length
    · obtain ⟨v, hv, hp⟩ := hps.get t ps[t] (List.getElem?_eq_getElem ht)
      rw [Array.getD_eq_getD_getElem?, Array.getElem?_append_left (by simp [hvl]; exact ht)]
      simp only [List.getElem?_toArray, hv, Option.getD_some, envOf, List.getElem?_eq_getElem ht]
      exact hp
    · simp only [envOf, List.getElem?_eq_none (Nat.le_of_not_lt ht), Option.getD_none]
      trivial
  · rintro x a1 w0 ⟨e1, s1, g1, ⟨hx, hres, h2, hn1, hm1, hn2, hm2, hst, hbp, hbb⟩, hxt0, he1, hs0⟩
    suffices hfin : ∀ w1, Tk w.heap.size g1 w0 w1 → ∃ v, (results fn a1.tmps).run P w1 = .ok v w1 ∧ ∃ v' g', (Ending.returned v : Ending) = .returned v' ∧ p.h g' w1 v' ∧ Ext g w g' w1 ∧ SRel g' s2 w1 by
      rcases hx with rfl | rfl
      · exact leaves_marks _ _ he1.defers hfin
      · exact leaves_marks _ _ he1.defers hfin
    intro w1 htk
    have hbm : g1.base ≤ w.heap.size := by rw [hxt0.base]; exact hs.bz
    have hxt := htk.ext hxt0
    have hs1 := htk.srel hs0 hbm
    obtain ⟨v, hv1, hv2⟩ := hres g1 a1 w1 (fun t => (e1 t).mono0 (htk.ext0 hbm) (he1.tmp t)) hs1
    let g2 : G := ⟨g1.sld, g1.box.take n, fun b => match g1.own b with | some (i, c) => if i < m then some (i, c) else none | none => none, g1.base⟩
    have hbx : ∀ i k, i < n → g1.box[i]? = some k → g2.box[i]? = some k := fun i k hi hk => by
      show (g1.box.take n)[i]? = some k
      rw [List.getElem?_take_of_lt hi]; exact hk
    have how : ∀ b id c, id < m → g1.own b = some (id, c) → g2.own b = some (id, c) := fun b id c hi ho => by
      show (match g1.own b with | some (i, c) => if i < m then some (i, c) else none | none => none) = _
      rw [ho]; simp [hi]
    have how2 : ∀ b i, g2.own b = some i → g1.own b = some i ∧ i.1 < m := fun b i hi => by
      have hi' : (match g1.own b with | some (i, c) => if i < m then some (i, c) else none | none => none) = some i := hi
      cases ho : g1.own b with
      | none => rw [ho] at hi'; cases hi'
      | some ic =>
        obtain ⟨id, c⟩ := ic
        rw [ho] at hi'
        simp only at hi'
        split at hi'
        · rename_i hlt; cases hi'; exact ⟨rfl, hlt⟩
        · cases hi'
    have hgl : g.box.length ≤ n := by rw [hs.len]; exact hn1
    have hExt : Ext g w g2 w1 := by
      refine ⟨hxt.os, hxt.tape, hxt.output, hxt.size, hxt.sld, hxt.cell, fun i e he => ?_, fun k hk => ?_, fun b i hi => ?_, fun b i hi => hxt.fresh b i (how2 b i hi).1, hxt.block, hxt.base, hxt.oth⟩
      · obtain ⟨e', h1, h2⟩ := hxt.box i e he
        exact ⟨e', hbx i e' (Nat.lt_of_lt_of_le (List.getElem?_eq_some_iff.1 he).1 hgl) h1, h2⟩
      · obtain ⟨i, e, h1, h2⟩ := hk
        exact hxt.boxf k ⟨i, e, (take_get h1).2, h2⟩
      · obtain ⟨id, c⟩ := i
        obtain ⟨f, cs, hf, _⟩ := hs.ow b id c hi
        exact how b id c (Nat.lt_of_lt_of_le (List.getElem?_eq_some_iff.1 hf).1 hm1) (hxt.own b _ hi)
    have hS : SRel g2 s2 w1 := by
      subst h2
      refine ⟨?_, ?_, fun i B hB => ?_, fun b id c ho => ?_, hs1.sl, ?_, hs1.sb, hs1.bz⟩
      · show (g1.box.take n).length = (s1.boxes.take n).length
        rw [List.length_take, List.length_take, hs1.len]
      · exact fun i j e1 e2 k h1 h2 h3 h4 => hs1.nd i j e1 e2 k (take_get h1).2 (take_get h2).2 h3 h4
      · have hi : i < n := by
          have := (List.getElem?_eq_some_iff.1 hB).1
          simp only [List.length_take] at this
          omega
        rw [List.getElem?_take_of_lt hi] at hB
        obtain ⟨k, cs, e1, e2, e2c, e3, e4, e6⟩ := hs1.bx i B hB
        have hlen1 : (s1.boxes.take n).length = n := by rw [List.length_take]; omega
        have hlen2 : (s1.fr.take m).length = m := by rw [List.length_take]; omega
        have hBn : ∀ q ∈ B.cs, q.Bnd n m := by
          rcases hbb i B hi hB with h0 | h0
          · obtain ⟨_, _, _, _, _, _, _, e7⟩ := hs.bx i B h0
            exact fun q hq => (e7 q hq).up hn1 hm1
          · exact h0
        refine ⟨k, cs, hbx i k hi e1, e2, e2c, PdsP.bnd (g := g1) (g' := g2) ⟨rfl, rfl⟩ hbx how hBn e3, fun q hq => ⟨(e4 q hq).1, ?_, (e4 q hq).2.2⟩, ?_⟩
        · show (match g1.own q with | some (i, c) => if i < m then some (i, c) else none | none => none) = none
          rw [(e4 q hq).2.1]
        · simp only [hlen1, hlen2]; exact hBn
      · obtain ⟨ho1, hlt⟩ := how2 b (id, c) ho
        obtain ⟨f, cs, e1, e2⟩ := hs1.ow b id c ho1
        exact ⟨f, cs, by rw [List.getElem?_take_of_lt hlt]; exact e1, e2⟩
      · show s1.stat.h g2 w1 .nilFunc
        exact hs1.sb g1 g2 w1 _ ⟨rfl, rfl⟩ (fun i k hi => by omega) (fun b id c hi => by omega) hs1.st
    exact ⟨v, hv1, v, g2, rfl, hbp g1 g2 w1 v ⟨rfl, rfl⟩ hbx how hv2, hExt, hS⟩

/-- The most frequent end: nothing is left behind. -/
theorem done_pure {fn : Func} {s0 : St} {p : Pd} {x : Exit} (hx : x = .normal ∨ x = .ret) (hr : Res P fn e s p) (hb : s.boxes.take s0.boxes.length = s0.boxes) (hf : s.fr.take s0.fr.length = s0.fr) (hst : s.stat = s0.stat) (hbn : p.Bnd s0.boxes.length s0.fr.length) :
    Done P fn s0 s0.boxes.length s0.fr.length p s0 x e s := by
  have h1 : s0.boxes.length ≤ s.boxes.length := by
    have := congrArg List.length hb
    rw [List.length_take] at this; omega
  have h2 : s0.fr.length ≤ s.fr.length := by
    have := congrArg List.length hf
    rw [List.length_take] at this; omega
  refine ⟨hx, hr, ?_, Nat.le_refl _, Nat.le_refl _, h1, h2, hst, hbn, fun i B hi hB => .inl ?_⟩
  · rw [hb, hf, hst]
  · rw [← hb, List.getElem?_take_of_lt hi]; exact hB
end
end Go.Proofs.YtokcgacehdgkcaaGreatDoor.Eng

/- The engine, seventh part: slices. -/
namespace Go.Proofs.YtokcgacehdgkcaaGreatDoor.Eng
open Go.RowKit

/-- Whole numbers as elements. -/
def kI (k : IntKind) : Kn Int := ⟨1, fun n => [pl (.int k n)], fun _ => rfl, fun _ p hp g w v h => by simp at hp; subst hp; rw [show v = _ from h]; rfl⟩
def kS : Kn ByteArray := ⟨1, fun s => [pl (.string s)], fun _ => rfl, fun _ p hp g w v h => by simp at hp; subst hp; rw [show v = _ from h]; rfl⟩
def kB : Kn Bool := ⟨1, fun s => [pl (.bool s)], fun _ => rfl, fun _ p hp g w v h => by simp at hp; subst hp; rw [show v = _ from h]; rfl⟩
theorem kI_bnd (k : IntKind) (l : List Int) (n m : Nat) : ∀ x ∈ l, ∀ p ∈ (kI k).cs x, p.Bnd n m := fun x _ p hp => by simp [kI] at hp; subst hp; exact pl_bnd _ _ _
def bytesOf (s : ByteArray) : List Int := s.data.toList.map fun b => (b.toNat : Int)
def strOf (l : List Int) : ByteArray := ⟨(l.map fun n => UInt8.ofNat n.toNat).toArray⟩
theorem bytesOf_length (s : ByteArray) : (bytesOf s).length = s.size := by simp [bytesOf]
theorem strOf_bytesOf (s : ByteArray) : strOf (bytesOf s) = s := by
  cases s with
  | mk d =>
    unfold strOf bytesOf
    congr 1
    apply Array.toList_inj.1
    simp only [List.map_map]
    conv => rhs; rw [← List.map_id d.toList]
    exact List.map_congr_left fun x _ => by simp
section
variable {P : Program} {e : Env} {s : St} {dst : Option Tmp} {ty : TypeId} {pos : String} {after : Array Edge} {guard : Option (Nat × Bool)}

theorem exec_builtin {ρ : Operand → Value} {b : Builtin} {xs : Array Operand} {ats : Array TypeId} : execOp ρ ⟨dst, .call { callee := .builtin b, args := xs, argTypes := ats }, ty, pos, after, guard⟩ = builtin b ats ty (xs.map fun | .const _ => true | _ => false) (xs.map ρ) := rfl

theorem opD_len_sl {α : Type} {k : Kn α} {o : Option Nat} {nl : Option Bool} {l : List α} {x : Operand} {t te : TypeId} (ht : P.underlying t = some (.slice te)) (hx : e.ev x = sl k o nl l) :
    OpD P ⟨dst, .call { callee := .builtin .len, args := #[x], argTypes := #[t] }, ty, pos, after, guard⟩ e s (pl (.int .i64 l.length)) s :=
  opD_look fun g a w ha _ => by
    have h1 := ha x (by simp [Op.operands, Call.operands])
    rw [hx] at h1
    obtain ⟨A, c, hv, _⟩ := h1
    refine ⟨_, ?_, rfl⟩
    rw [exec_builtin, show #[x].map a.eval = #[a.eval x] from by simp, hv]
    have : (Builtin.len_ #[t] ty #[.slice A l.length c]).run P w = .ok (.int .i64 l.length) w := by
      simp [Builtin.len_, run_underlying ht, goInt]
    exact run_v this

theorem opD_eqnil {α : Type} {k : Kn α} {o : Option Nat} {nl : Bool} {l : List α} {x : Operand} {t te yt : TypeId} (ht : P.underlying t = some (.slice te)) (hx : e.ev x = sl k o (some nl) l) :
    OpD P ⟨dst, .binOp .eql t x (.const (.slice none 0 0)) yt, ty, pos, after, guard⟩ e s (pl (.bool nl)) s :=
  opD_look fun g a w ha _ => by
    have h1 := ha x (by simp [Op.operands])
    rw [hx] at h1
    obtain ⟨A, c, hv, _, hA, _⟩ := h1
    refine ⟨.bool A.isNone, ?_, by rw [hA nl rfl]; rfl⟩
    show (Sem.bind (do eqGuard .eql t x (.const (.slice none 0 0)) (a.eval x) (.slice none 0 0); binOp .eql t (a.eval x) (.slice none 0 0)) fun v => Sem.pure (Next.value v)).run P w = _
    rw [hv]
    refine run_v ?_
    rw [show eqGuard .eql t x (.const (.slice none 0 0)) (.slice A l.length c) (.slice none 0 0) = pure () from rfl]
    simp [Lib.run_eql_slice_nil w _ _ A l.length c 0 0 ht]

theorem opD_indexAddr_sl {α : Type} {k : Kn α} {o : Option Nat} {nl : Option Bool} {l : List α} {x ix : Operand} {t te : TypeId} {kk : IntKind} {n : Int} {i : Nat} (ht : P.underlying t = some (.slice te)) (hsz : sizeT P te = some k.sz)
    (hx : e.ev x = sl k o nl l) (hi : e.ev ix = pl (.int kk n)) (hn : n = (i : Int)) (hl : i < l.length) :
    OpD P ⟨dst, .indexAddr t x ix, ty, pos, after, guard⟩ e s (el k l i 0) s :=
  opD_look fun g a w ha _ => by
    have h1 := ha x (by simp [Op.operands])
    have h2 := ha ix (by simp [Op.operands])
    rw [hx] at h1
    rw [hi] at h2
    obtain ⟨A, c, hv, _, _, _, hc, _⟩ := h1
    obtain ⟨b, off, rfl, hcells⟩ := hc (by intro h; rw [h] at hl; simp at hl)
    have h2' : a.eval ix = .int kk n := h2
    subst hn
    refine ⟨.pointer (some ⟨b, off + i * k.sz + 0, none⟩), ?_, b, off, rfl, hcells⟩
    show (Sem.bind (Instr.indexAt t (a.eval x) (a.eval ix)) fun v => Sem.pure (Next.value v)).run P w = _
    rw [hv, h2']
    refine run_v ?_
    have hl' : (i : Int) < (l.length : Int) := by omega
    simp [Instr.indexAt, asIntOf, run_underlying ht, hl, run_sizeOf hsz, Addr.add_lit]

theorem SlCells.part {α : Type} {k : Kn α} {l : List α} {g : G} {w : World} {b o : Nat} (h : SlCells k l g w b o) (i j : Nat) : SlCells k ((l.take j).drop i) g w b (o + i * k.sz) := by
  intro m x hm q p hp
  have hm2 : l[i + m]? = some x := by
    rw [List.getElem?_drop] at hm
    have hlt := (List.getElem?_eq_some_iff.1 hm).1
    simp only [List.length_take] at hlt
    rw [List.getElem?_take_of_lt (by omega)] at hm
    exact hm
  have h1 := h (i + m) x hm2 q p hp
  have e1 : o + (i + m) * k.sz + q = o + i * k.sz + m * k.sz + q := by rw [Nat.add_mul]; omega
  rw [e1] at h1
  exact h1

def BdOk (e : Env) (x : Option Operand) (d n : Nat) : Prop :=
  match x with
  | none => n = d
  | some x => ∃ k, e.ev x = pl (.int k (n : Int))

theorem run_sliceAt_sl {t te : TypeId} {z : Nat} (ht : P.underlying t = some (.slice te)) (hsz : sizeT P te = some z) (A : Option Addr) {len c i j : Nat} (hij : i ≤ j) (hjc : j ≤ c) {lo hi : Option Value}
    (hlo : lo = none ∧ i = 0 ∨ ∃ k, lo = some (.int k (i : Int))) (hhi : hi = none ∧ j = len ∨ ∃ k, hi = some (.int k (j : Int))) (w : World) :
    (Instr.sliceAt t (.slice A len c) lo hi none).run P w = .ok (.slice (if c = i then A else A.map (·.add (i * z))) (j - i) (c - i)) w := by
  have hs : (Instr.slice t (.slice A len c) lo hi none).run P w = .ok (.slice (if c = i then A else A.map (·.add (i * z))) (j - i) (c - i)) w := by
    rcases hlo with ⟨rfl, rfl⟩ | ⟨k1, rfl⟩ <;> rcases hhi with ⟨rfl, rfl⟩ | ⟨k2, rfl⟩ <;>
      simp [Instr.slice, Instr.sliceBounds, Instr.sliceBound, asIntOf, run_underlying ht, run_sizeOf hsz, hij, hjc]
  unfold Instr.sliceAt
  rw [Sem.run_bind P, run_underlying ht]
  exact hs

theorem opD_slice {α : Type} {k : Kn α} {o : Option Nat} {nl : Option Bool} {l : List α} {x : Operand} {lo hi : Option Operand} {t te : TypeId} (i j : Nat) (ht : P.underlying t = some (.slice te)) (hsz : sizeT P te = some k.sz)
    (hx : e.ev x = sl k o nl l) (hlo : BdOk e lo 0 i) (hhi : BdOk e hi l.length j) (hij : i ≤ j) (hjl : j ≤ l.length) :
    OpD P ⟨dst, .slice t x lo hi none, ty, pos, after, guard⟩ e s (sl k none nl ((l.take j).drop i)) s :=
  opD_look fun g a w ha _ => by
    have h1 := ha x (by simp [Op.operands])
    rw [hx] at h1
    obtain ⟨A, c, hv, hlc, hA, hnl, hc, _⟩ := h1
    have hlen : ((l.take j).drop i).length = j - i := by simp only [List.length_drop, List.length_take]; omega
    refine ⟨.slice (if c = i then A else A.map (·.add (i * k.sz))) (j - i) (c - i), ?_, _, c - i, by rw [hlen], by omega, ?_, ?_, fun hne => ?_, fun _ h => by cases h⟩
    · show (Sem.bind (Instr.sliceAt t (a.eval x) (lo.map a.eval) (hi.map a.eval) none) fun v => Sem.pure (Next.value v)).run P w = _
      rw [hv]
      refine run_v (run_sliceAt_sl ht hsz A hij (by omega) ?_ ?_ w)
      · cases lo with
        | none => exact .inl ⟨rfl, hlo⟩
        | some y =>
          obtain ⟨k1, h1⟩ := hlo
          have h2 := ha y (by simp [Op.operands])
          rw [h1] at h2
          exact .inr ⟨k1, by rw [Option.map_some, show a.eval y = _ from h2]⟩
      · cases hi with
        | none => exact .inl ⟨rfl, hhi⟩
        | some y =>
          obtain ⟨k1, h1⟩ := hhi
          have h2 := ha y (by simp [Op.operands])
          rw [h1] at h2
          exact .inr ⟨k1, by rw [Option.map_some, show a.eval y = _ from h2]⟩
    · intro b hb
      split
      · exact hA b hb
      · rw [← hA b hb]; cases A <;> rfl
    · intro h
      have : A = none := by
        split at h
        · exact h
        · cases A <;> simp at h ⊢
      rw [hnl this]; omega
    · have hne2 : l ≠ [] := by intro h; subst h; simp at hne
      obtain ⟨b, off, rfl, hcells⟩ := hc hne2
      have hpos : 0 < ((l.take j).drop i).length := List.length_pos_iff.2 hne
      have hci : c ≠ i := by omega
      rw [if_neg hci]
      exact ⟨b, off + i * k.sz, by simp [Addr.add_lit], hcells.part i j⟩

theorem SlCells.list {k : IntKind} {l : List Int} {g : G} {w : World} {b o : Nat} (h : SlCells (kI k) l g w b o) : ∀ j v, (l.map (Value.int k))[j]? = some v → w.cell? ((⟨b, o, none⟩ : Addr).add j) = some v := by
  intro j v hj
  rw [List.getElem?_map] at hj
  obtain ⟨x, hx, rfl⟩ := Option.map_eq_some_iff.1 hj
  obtain ⟨_, c, h2, h3⟩ := h j x hx 0 _ rfl
  rw [Addr.add_lit]
  have : (kI k).sz = 1 := rfl
  rw [this] at h2
  rw [show o + j = o + j * 1 + 0 by omega, h2]
  rw [show c = _ from h3]

theorem opD_bytes_str {o : Option Nat} {nl : Option Bool} {l : List Int} {x : Operand} {src dt te : TypeId} (hs : P.underlying src = some (.slice te)) (he : P.underlying te = some (.int .u8)) (hd : P.underlying dt = some .string) (hx : e.ev x = sl (kI .u8) o nl l) :
    OpD P ⟨dst, .convert src dt x, ty, pos, after, guard⟩ e s (pl (.string (strOf l))) s :=
  opD_look fun g a w ha _ => by
    have h1 := ha x (by simp [Op.operands])
    rw [hx] at h1
    obtain ⟨A, c, hv, hlc, hA, hnl, hc, _⟩ := h1
    refine ⟨_, ?_, rfl⟩
    show (Sem.bind (convert src dt (a.eval x)) fun v => Sem.pure (Next.value v)).run P w = _
    rw [hv]
    refine run_v ?_
    rw [run_convert_bytes_string w src dt te A l.length c hs he hd]
    cases l with
    | nil =>
      cases A with
      | none => simp [Conv.bytesToString]; rfl
      | some ad => simp [Conv.bytesToString, run_loadCells_list (P := P) (w := w) ad [] (fun j v h => by simp at h)]; rfl
    | cons z l =>
      obtain ⟨b, off, rfl, hcells⟩ := hc (by simp)
      have hl2 := run_loadCells_list (P := P) (w := w) ⟨b, off, none⟩ ((z :: l).map (Value.int .u8)) hcells.list
      rw [List.length_map] at hl2
      rw [run_bytesToString w _ _ c _ hl2]
      have hfold : ∀ (l : List Int) (s : ByteArray), l.foldl (fun r n => r.push (UInt8.ofNat n.toNat)) s = ⟨s.data ++ (l.map fun n => UInt8.ofNat n.toNat).toArray⟩ := by
        intro l
        induction l with
        | nil => intro s; simp
        | cons y l ih =>
          intro s
          rw [List.foldl_cons, ih]
          congr 1
          apply Array.toList_inj.1
          simp [ByteArray.push]
      rw [hfold]
      simp [strOf, ByteArray.empty, ByteArray.emptyWithCapacity]
      rfl
end
end Go.Proofs.YtokcgacehdgkcaaGreatDoor.Eng

/- The engine, eighth part: new rows, and what is appended. -/
namespace Go.Proofs.YtokcgacehdgkcaaGreatDoor.Eng
open Go.RowKit

theorem Pds.of_get {g : G} {w : World} : ∀ {ps : List Pd} {vs : List Value}, vs.length = ps.length → (∀ (i : Nat) (p : Pd) (v : Value), ps[i]? = some p → vs[i]? = some v → p.h g w v) → Pds g w ps vs
  | [], [], _, _ => trivial
  | q :: ps, u :: vs, hl, h => ⟨h 0 q u rfl rfl, Pds.of_get (by simpa using hl) fun i p v hp hv => h (i + 1) p v (by rw [List.getElem?_cons_succ]; exact hp) (by rw [List.getElem?_cons_succ]; exact hv)⟩
  | [], _ :: _, hl, _ => by simp at hl
  | _ :: _, [], hl, _ => by simp at hl

def flat {α : Type} (k : Kn α) (l : List α) : List Pd := l.flatMap k.cs
theorem flat_length {α : Type} (k : Kn α) (l : List α) : (flat k l).length = l.length * k.sz := by
  induction l with
  | nil => simp [flat]
  | cons x l ih =>
    simp only [flat, List.flatMap_cons, List.length_append, k.len, List.length_cons] at ih ⊢
    rw [ih, Nat.add_mul]; omega
theorem flat_append {α : Type} (k : Kn α) (l l2 : List α) : flat k (l ++ l2) = flat k l ++ flat k l2 := by simp [flat]
theorem flat_get {α : Type} (k : Kn α) : ∀ (l : List α) (i j : Nat), j < k.sz → (flat k l)[i * k.sz + j]? = (l[i]?).bind fun x => (k.cs x)[j]?
  | [], i, j, _ => by simp [flat]
  | x :: l, 0, j, hj => by
    simp only [flat, List.flatMap_cons, Nat.zero_mul, Nat.zero_add, List.getElem?_cons_zero, Option.bind_some]
    rw [List.getElem?_append_left (by rw [k.len]; exact hj)]
  | x :: l, i + 1, j, hj => by
    have ih := flat_get k l i j hj
    simp only [flat, List.flatMap_cons, List.getElem?_cons_succ] at ih ⊢
    rw [List.getElem?_append_right (by rw [k.len, Nat.add_mul]; omega), k.len, ← ih]
    congr 1
    rw [Nat.add_mul]; omega

theorem slCells_of_flat {α : Type} {k : Kn α} {l : List α} {g : G} {w : World} {b o : Nat} (h : ∀ (q : Nat) (p : Pd), (flat k l)[q]? = some p → o + q < g.sld b ∧ ∃ c, w.cell? ⟨b, o + q, none⟩ = some c ∧ p.h g w c) : SlCells k l g w b o := by
  intro i x hi j p hp
  have hj : j < k.sz := by rw [← k.len x]; exact (List.getElem?_eq_some_iff.1 hp).1
  have := h (i * k.sz + j) p (by rw [flat_get k l i j hj, hi]; exact hp)
  rw [← Nat.add_assoc] at this
  exact this

theorem SlCells.flat {α : Type} {k : Kn α} {l : List α} {g : G} {w : World} {b o : Nat} (h : SlCells k l g w b o) (q : Nat) (p : Pd) (hq : (flat k l)[q]? = some p) : o + q < g.sld b ∧ ∃ c, w.cell? ⟨b, o + q, none⟩ = some c ∧ p.h g w c := by
  have hlt := (List.getElem?_eq_some_iff.1 hq).1
  rw [flat_length] at hlt
  have hz : 0 < k.sz := by
    rcases Nat.eq_zero_or_pos k.sz with h0 | h0
    · rw [h0] at hlt; omega
    · exact h0
  have e1 : q = q / k.sz * k.sz + q % k.sz := by rw [Nat.mul_comm]; exact (Nat.div_add_mod q k.sz).symm
  have hm := Nat.mod_lt q hz
  rw [e1, flat_get k l _ _ hm] at hq
  obtain ⟨x, hx, hp⟩ := Option.bind_eq_some_iff.1 hq
  have := h _ x hx _ p hp
  rw [Nat.add_assoc, ← e1] at this
  exact this

/-- The cells of a slice as a list. -/
theorem SlCells.vals {α : Type} {k : Kn α} {l : List α} {g : G} {w : World} {b o : Nat} (h : SlCells k l g w b o) :
    ∃ vs : List Value, vs.length = l.length * k.sz ∧ (∀ j v, vs[j]? = some v → w.cell? ((⟨b, o, none⟩ : Addr).add j) = some v) ∧ Pds g w (Eng.flat k l) vs ∧ ∀ v ∈ vs, v.oneCell' = true := by
  have hget : ∀ q, q < (Eng.flat k l).length → ∃ c, w.cell? ⟨b, o + q, none⟩ = some c := fun q hq => by
    obtain ⟨_, c, hc, _⟩ := h.flat q _ (List.getElem?_eq_getElem hq)
    exact ⟨c, hc⟩
  refine ⟨(List.range (Eng.flat k l).length).map fun q => (w.cell? ⟨b, o + q, none⟩).getD undef, by simp [flat_length], fun j v hj => ?_, Pds.of_get (by simp) fun i p v hp hv => ?_, fun v hv => ?_⟩
  · rw [List.getElem?_map] at hj
    obtain ⟨q, hq, rfl⟩ := Option.map_eq_some_iff.1 hj
    have hlt := (List.getElem?_eq_some_iff.1 hq).1
    simp only [List.length_range] at hlt
    rw [List.getElem?_range hlt] at hq
    cases hq
    obtain ⟨c, hc⟩ := hget j hlt
    rw [Addr.add_lit, hc]; rfl
  · rw [List.getElem?_map] at hv
    obtain ⟨q, hq, rfl⟩ := Option.map_eq_some_iff.1 hv
    have hlt := (List.getElem?_eq_some_iff.1 hp).1
    rw [List.getElem?_range hlt] at hq
    cases hq
    obtain ⟨_, c, hc, hpc⟩ := h.flat i p hp
    rw [hc]; exact hpc
  · obtain ⟨q, hq, rfl⟩ := List.mem_map.1 hv
    have hlt := List.mem_range.1 hq
    obtain ⟨_, c, hc, hpc⟩ := h.flat q _ (List.getElem?_eq_getElem hlt)
    rw [hc]
    have hmem : (Eng.flat k l)[q] ∈ Eng.flat k l := List.getElem_mem hlt
    simp only [Eng.flat, List.mem_flatMap] at hmem
    obtain ⟨x, _, hx⟩ := hmem
    exact k.one x _ hx _ _ _ hpc

/-- One new block, and nothing else. -/
structure New (w w1 : World) : Prop where
  os : w1.os = w.os
  tape : w1.tape = w.tape
  output : w1.output = w.output
  size : w1.heap.size = w.heap.size + 1
  old : ∀ k, k < w.heap.size → w1.heap[k]? = w.heap[k]?

theorem new_alloc (w : World) (o : Obj) : New w (w.alloc o) := ⟨rfl, rfl, rfl, by simp, fun _ h => alloc_heap_old w o h⟩
theorem new_drew_alloc (w : World) (o : Obj) : New w (w.drew.alloc o) := ⟨rfl, rfl, rfl, by simp, fun _ h => alloc_heap_old w.drew o h⟩

def G.addRow (g : G) (b n : Nat) (ow : Option (Nat × Nat)) : G := ⟨fun k => if k = b then n else g.sld k, g.box, fun k => if k = b then ow else g.own k, g.base⟩

theorem ext_new {g : G} {s : St} {w w1 : World} (h : SRel g s w) (hN : New w w1) (n : Nat) (ow : Option (Nat × Nat)) : Ext g w (g.addRow w.heap.size n ow) w1 := by
  refine ⟨hN.os, hN.tape, hN.output, by rw [hN.size]; omega, fun b => ?_, fun b o ho => ?_, fun _ e h => ⟨e, h, Nat.le_refl _, fun _ => rfl⟩, fun _ h => .inl h, fun b i hi => ?_, fun b i hi => ?_, fun b _ hb _ _ => hN.old b hb, rfl, fun b _ h _ _ => (hN.old b (Array.getElem?_eq_some_iff.1 h).1).trans h⟩
  · simp only [G.addRow]
    split
    · rename_i hb; subst hb; rw [h.sld0]; omega
    · exact Nat.le_refl _
  · exact World.cell?_of_block (w := w) (hN.old b (h.sl b (by omega)))
  · simp only [G.addRow]
    rw [if_neg (by have := h.ltOwn hi; omega)]
    exact hi
  · simp only [G.addRow] at hi
    split at hi
    · rename_i hb; exact .inr (by omega)
    · exact .inl hi

def FrLe (fr fr' : List Fr) : Prop := fr.length ≤ fr'.length ∧ ∀ (id : Nat) (f : Fr), fr[id]? = some f → ∃ f', fr'[id]? = some f' ∧ f'.t = f.t ∧ f'.sz = f.sz ∧ f.n ≤ f'.n
theorem FrLe.refl (fr : List Fr) : FrLe fr fr := ⟨Nat.le_refl _, fun _ f h => ⟨f, h, rfl, rfl, Nat.le_refl _⟩⟩
theorem FrLe.app (fr : List Fr) (f : Fr) : FrLe fr (fr ++ [f]) := ⟨by simp, fun id f h => ⟨f, by rw [List.getElem?_append_left (List.getElem?_eq_some_iff.1 h).1]; exact h, rfl, rfl, Nat.le_refl _⟩⟩
theorem FrLe.set {fr : List Fr} {id : Nat} {f : Fr} (h : fr[id]? = some f) {n : Nat} (hn : f.n ≤ n) : FrLe fr (fr.set id ⟨f.t, f.sz, n⟩) := by
  refine ⟨by simp, fun j f2 h2 => ?_⟩
  by_cases hj : j = id
  · subst hj
    rw [h] at h2; cases h2
    exact ⟨⟨f.t, f.sz, n⟩, by simp [(List.getElem?_eq_some_iff.1 h).1], rfl, rfl, hn⟩
  · exact ⟨f2, by rw [List.getElem?_set_ne (Ne.symm hj)]; exact h2, rfl, rfl, Nat.le_refl _⟩

theorem srel_new {g : G} {s : St} {w w1 : World} (h : SRel g s w) (hN : New w w1) {n : Nat} {ow : Option (Nat × Nat)} {fr' : List Fr} (hfr : FrLe s.fr fr')
    (ho : ∀ id c, ow = some (id, c) → ∃ f cs, fr'[id]? = some f ∧ w1.heap[w.heap.size]? = some (.cells cs f.t (0, 0)) ∧ cs.size = c * f.sz ∧ n ≤ f.n * f.sz) : SRel (g.addRow w.heap.size n ow) ⟨s.boxes, fr', s.stat⟩ w1 := by
  have hx := ext_new h hN n ow
  refine ⟨h.len, h.nd, fun i B hB => ?_, fun b id c hb => ?_, fun b hn => ?_, s.stat.mono hx h.st, h.sb, Nat.le_trans h.bz hx.size⟩
  · obtain ⟨e, vs, h1, h2, h3, h4, h5, h6⟩ := h.bx i B hB
    refine ⟨e, vs, h1, h2, h3.to fun k _ hl => hN.old k hl, h4.mono hx, fun k hk => ?_, fun p hp => (h6 p hp).up (Nat.le_refl _) hfr.1⟩
    have hl := h3.lt hk
    obtain ⟨q1, q2, q3⟩ := h5 k hk
    refine ⟨?_, ?_, q3⟩
    · intro hn; simp only [G.addRow]; rw [if_neg (by omega)]; exact q1 hn
    · simp only [G.addRow]; rw [if_neg (by omega)]; exact q2
  · simp only [G.addRow] at hb
    split at hb
    · rename_i hbs
      subst hbs
      obtain ⟨f, cs, e1, e2, e3, e4⟩ := ho id c hb
      exact ⟨f, cs, e1, e2, e3, by simpa [G.addRow] using e4⟩
    · rename_i hbs
      obtain ⟨f, cs, e1, e2, e3, e4⟩ := h.ow b id c hb
      obtain ⟨f', h1, h2, h3, h4⟩ := hfr.2 id f e1
      refine ⟨f', cs, h1, by rw [hN.old b (h.ltOwn hb), h2]; exact e2, by rw [h3]; exact e3, ?_⟩
      simp only [G.addRow]; rw [if_neg hbs, h3]
      exact Nat.le_trans e4 (Nat.mul_le_mul_right _ h4)
  · simp only [G.addRow] at hn
    rw [hN.size]
    split at hn
    · omega
    · have := h.sl b hn; omega

/-- The cells of a new row, from its beginning on. -/
theorem slCells_new {α : Type} {k : Kn α} {l : List α} {g g' : G} {w w1 : World} {vs : List Value} {cs : Array Value} {t : TypeId} {fr : Nat × Nat} {b : Nat} (hx : Ext g w g' w1) (hp : Pds g w (flat k l) vs) (hb : w1.heap[b]? = some (.cells cs t fr))
    (hc : ∀ (j : Nat) (v : Value), vs[j]? = some v → cs[j]? = some v) (hs : (flat k l).length ≤ g'.sld b) : SlCells k l g' w1 b 0 := by
  refine slCells_of_flat fun q p hq => ?_
  obtain ⟨v, hv, hpv⟩ := hp.get q p hq
  have hlt := (List.getElem?_eq_some_iff.1 hq).1
  refine ⟨by omega, v, ?_, p.mono hx hpv⟩
  rw [Nat.zero_add, box_cell (g := g) hb]
  exact hc q v hv

def elT (P : Program) (t : TypeId) : Option (Nat × Nat) :=
  match P.info? t with
  | some i => match i.zero with
    | some z => if z.cells.size = i.size then some (i.size, i.bytes) else none
    | none => none
  | none => none
theorem elT_spec {P : Program} {t : TypeId} {sz by_ : Nat} (h : elT P t = some (sz, by_)) : ∃ i z, P.info? t = some i ∧ i.zero = some z ∧ z.cells.size = i.size ∧ i.size = sz ∧ i.bytes = by_ := by
  unfold elT at h
  cases hi : P.info? t with
  | none => rw [hi] at h; cases h
  | some i =>
    rw [hi] at h
    simp only at h
    cases hz : i.zero with
    | none => rw [hz] at h; cases h
    | some z =>
      rw [hz] at h
      simp only at h
      split at h
      · rename_i he; cases h; exact ⟨i, z, rfl, hz, he, rfl, rfl⟩
      · cases h

section
variable {P : Program} {e : Env} {s : St} {dst : Option Tmp} {ty : TypeId} {pos : String} {after : Array Edge} {guard : Option (Nat × Bool)}

theorem opD_str_bytes {x : Operand} {str : ByteArray} {src dt te : TypeId} (hs : P.underlying src = some .string) (hd : P.underlying dt = some (.slice te)) (he : P.underlying te = some (.int .u8)) (hx : e.ev x = pl (.string str)) :
    OpD P ⟨dst, .convert src dt x, ty, pos, after, guard⟩ e s (sl (kI .u8) none (some false) (bytesOf str)) s :=
  opD_value fun g a w ha hsr => by
    have h1 : a.eval x = .string str := by have := ha x (by simp [Op.operands]); rw [hx] at this; exact this
    have hN : New w (Lib.bytesWorld w te str) := ⟨rfl, rfl, rfl, Lib.bytesWorld_size w te str, fun k hk => Lib.bytesWorld_at_old w te str k hk⟩
    refine ⟨.slice (some ⟨w.heap.size, 0, none⟩) str.size (grownCap w str.size 0 te), g.addRow w.heap.size str.size none, Lib.bytesWorld w te str, ?_, ?_, ext_new hsr hN _ _, ?_⟩
    · show (Sem.bind (convert src dt (a.eval x)) fun v => Sem.pure (Next.value v)).run P w = _
      rw [h1]
      exact run_v (Lib.run_convert_string_bytes w src dt te str hs hd he)
    · refine ⟨some ⟨w.heap.size, 0, none⟩, grownCap w str.size 0 te, by rw [bytesOf_length], ?_, (fun b hb => by cases hb; rfl), (fun h => by cases h), fun _ => ⟨w.heap.size, 0, rfl, slCells_of_flat fun q p hq => ?_⟩, fun _ h => by cases h⟩
      · rw [bytesOf_length]; simp [grownCap, Question.cut]
      · have hq1 := (List.getElem?_eq_some_iff.1 hq).1
        rw [flat_length, bytesOf_length] at hq1
        have hz : (kI .u8).sz = 1 := rfl
        rw [hz, Nat.mul_one] at hq1
        have hfl := flat_get (kI .u8) (bytesOf str) q 0 (by rw [hz]; omega)
        rw [hz, Nat.mul_one, Nat.add_zero, hq] at hfl
        have hb : (bytesOf str)[q]? = some ((str.data.toList.getD q 0).toNat : Int) := by
          have hql : q < str.data.toList.length := by simpa using hq1
          simp only [bytesOf, List.getElem?_map, List.getElem?_eq_getElem hql, List.getD_eq_getElem?_getD, Option.map_some, Option.getD_some]
        rw [hb] at hfl
        simp [kI] at hfl
        subst hfl
        refine ⟨by simp only [G.addRow, if_pos]; omega, _, ?_, rfl⟩
        rw [Nat.zero_add]
        simpa using Lib.bytesWorld_cell w te str q hq1
    · exact srel_new hsr hN (FrLe.refl _) (fun _ _ h => by cases h)

theorem run_buildSlice {t te : TypeId} {n sz : Nat} {parts : Array (Nat × Value)} {z : Value} {cells : Array Value} (ht : P.underlying t = some (.slice te)) (hsz : sizeT P te = some sz) (hn : n * sz ≤ 16777216)
    (hz : (P.info? te).bind (·.zero) = some z) (hf : Instr.fill (fun i => some (i * sz, sz)) ((Array.range (n * sz)).map (z.cells[· % z.cells.size]!)) parts.toList = some cells) (w : World) :
    (Instr.buildSlice t n parts).run P w = .ok (.slice (some ⟨w.heap.size, 0, none⟩) n n) (w.alloc (.cells cells te)) := by
  obtain ⟨i, hi, hz2⟩ := Option.bind_eq_some_iff.1 hz
  have hbig : ¬ (2 ^ 24 < n * sz) := by omega
  by_cases h0 : n * sz = 0
  · have hf' : Instr.fill (fun i => some (i * sz, sz)) #[] parts.toList = some cells := by
      rw [h0, show Array.range 0 = #[] from rfl] at hf
      simpa using hf
    simp [Instr.buildSlice, run_underlying ht, run_sizeOf hsz, h0, show Array.range 0 = #[] from rfl, hf', newRow, newObj, Sem.run]
  · simp [Instr.buildSlice, run_underlying ht, run_sizeOf hsz, h0, hbig, zeroValue, typeInfo, hi, hz2, newRow, hf, newObj, Sem.run]
end
end Go.Proofs.YtokcgacehdgkcaaGreatDoor.Eng
