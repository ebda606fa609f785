/- The engine, first part: values by what they stand for, states, and the rules of code. -/
import Derived.Orders
import Derived.Below
import Derived.Tactics
namespace Go.Proofs.YtmnhfpcbfdgbcaaDoor.Eng
set_option linter.unusedVariables false
set_option linter.unusedSimpArgs false
open Go.RowKit

/-- What is known beside the world: how many cells of a block stay as they are; which blocks are variables; which rows are one's own. -/
structure G where
  sld : Nat → Nat
  box : List Nat
  own : Nat → Option (Nat × Nat)
  base : Nat

structure Ext (g : G) (w : World) (g' : G) (w' : World) : Prop where
  os : w'.os = w.os
  tape : w'.tape = w.tape
  output : w'.output = w.output
  size : w.heap.size ≤ w'.heap.size
  sld : ∀ b, g.sld b ≤ g'.sld b
  cell : ∀ b o, o < g.sld b → w'.cell? ⟨b, o, none⟩ = w.cell? ⟨b, o, none⟩
  box : ∃ t, g'.box = g.box ++ t ∧ ∀ b ∈ t, w.heap.size ≤ b
  own : ∀ b i, g.own b = some i → g'.own b = some i
  fresh : ∀ b i, g'.own b = some i → g.own b = some i ∨ w.heap.size ≤ b
  block : ∀ b, b < g.base → b < w.heap.size → b ∉ g.box → g.own b = none → w'.heap[b]? = w.heap[b]?
  base : g'.base = g.base

theorem Ext.refl (g : G) (w : World) : Ext g w g w :=
  ⟨rfl, rfl, rfl, Nat.le_refl _, fun _ => Nat.le_refl _, fun _ _ _ => rfl, ⟨[], by simp⟩, fun _ _ h => h, fun _ _ h => .inl h, fun _ _ _ _ _ => rfl, rfl⟩

theorem Ext.trans {g g1 g2 : G} {w w1 w2 : World} (h : Ext g w g1 w1) (k : Ext g1 w1 g2 w2) : Ext g w g2 w2 := by
  obtain ⟨t, ht, htb⟩ := h.box
  obtain ⟨u, hu, hub⟩ := k.box
  refine ⟨k.os.trans h.os, k.tape.trans h.tape, k.output.trans h.output, Nat.le_trans h.size k.size, fun b => Nat.le_trans (h.sld b) (k.sld b), fun b o ho => ?_, ⟨t ++ u, by rw [hu, ht, List.append_assoc], ?_⟩, fun b i hi => k.own b i (h.own b i hi), fun b i hi => ?_, fun b hbb hb hn ho => ?_, k.base.trans h.base⟩
  · rw [k.cell b o (Nat.lt_of_lt_of_le ho (h.sld b)), h.cell b o ho]
  · intro b hb
    rcases List.mem_append.1 hb with hb | hb
    · exact htb b hb
    · exact Nat.le_trans h.size (hub b hb)
  · rcases k.fresh b i hi with h1 | h1
    · exact h.fresh b i h1
    · exact .inr (Nat.le_trans h.size h1)
  · rw [k.block b (by rw [h.base]; exact hbb) (Nat.lt_of_lt_of_le hb h.size) ?_ ?_, h.block b hbb hb hn ho]
    · rw [ht]; intro hm
      rcases List.mem_append.1 hm with hm | hm
      · exact hn hm
      · exact absurd (htb b hm) (by omega)
    · cases hg : g1.own b with
      | none => rfl
      | some i =>
        rcases h.fresh b i hg with h1 | h1
        · rw [ho] at h1; cases h1
        · omega

theorem Ext.drew (g : G) (w : World) : Ext g w g { w with drawn := w.drawn + 1 } :=
  ⟨rfl, rfl, rfl, Nat.le_refl _, fun _ => Nat.le_refl _, fun _ _ _ => rfl, ⟨[], by simp⟩, fun _ _ h => h, fun _ _ h => .inl h, fun _ _ _ _ _ => rfl, rfl⟩

/-- What a value stands for. -/
structure Pd where
  h : G → World → Value → Prop
  mono : ∀ {g w g' w' v}, Ext g w g' w' → h g w v → h g' w' v

/-- It speaks of no variable from n on, and of no row of one's own from m on. -/
def Pd.Bnd (p : Pd) (n m : Nat) : Prop :=
  ∀ (g g' : G) (w : World) (v : Value), (g'.sld = g.sld ∧ g'.base = g.base) → (∀ i k, i < n → g.box[i]? = some k → g'.box[i]? = some k) → (∀ b id c, id < m → g.own b = some (id, c) → g'.own b = some (id, c)) → p.h g w v → p.h g' w v

theorem Pd.Bnd.up {p : Pd} {n m n' m' : Nat} (h : p.Bnd n m) (hn : n ≤ n') (hm : m ≤ m') : p.Bnd n' m' :=
  fun g g' w v h1 h2 h3 hp => h g g' w v h1 (fun i k hi => h2 i k (Nat.lt_of_lt_of_le hi hn)) (fun b id c hi => h3 b id c (Nat.lt_of_lt_of_le hi hm)) hp

def Pds (g : G) (w : World) : List Pd → List Value → Prop
  | [], [] => True
  | p :: ps, v :: vs => p.h g w v ∧ Pds g w ps vs
  | _, _ => False

theorem Pds.mono {g g' : G} {w w' : World} (h : Ext g w g' w') : ∀ {ps : List Pd} {vs : List Value}, Pds g w ps vs → Pds g' w' ps vs
  | [], [], _ => trivial
  | p :: _, _ :: _, ⟨h1, h2⟩ => ⟨p.mono h h1, Pds.mono h h2⟩
  | [], _ :: _, h => h.elim
  | _ :: _, [], h => h.elim

theorem Pds.length {g : G} {w : World} : ∀ {ps : List Pd} {vs : List Value}, Pds g w ps vs → vs.length = ps.length
  | [], [], _ => rfl
  | _ :: _, _ :: _, ⟨_, h2⟩ => by simp [Pds.length h2]
  | [], _ :: _, h => h.elim
  | _ :: _, [], h => h.elim

theorem Pds.get {g : G} {w : World} : ∀ {ps : List Pd} {vs : List Value}, Pds g w ps vs → ∀ (i : Nat) (p : Pd), ps[i]? = some p → ∃ v, vs[i]? = some v ∧ p.h g w v
  | [], [], _, i, p, h => by simp at h
  | q :: _, v :: _, ⟨h1, h2⟩, i, p, h => by
    cases i with
    | zero => simp at h; subst h; exact ⟨v, rfl, h1⟩
    | succ i => simp at h; simpa using Pds.get h2 i p h
  | [], _ :: _, h, _, _, _ => h.elim
  | _ :: _, [], h, _, _, _ => h.elim

theorem Pds.bnd {g g' : G} {w : World} {n m : Nat} (hs : g'.sld = g.sld ∧ g'.base = g.base) (hb : ∀ i k, i < n → g.box[i]? = some k → g'.box[i]? = some k) (ho : ∀ b id c, id < m → g.own b = some (id, c) → g'.own b = some (id, c)) :
    ∀ {ps : List Pd} {vs : List Value}, (∀ p ∈ ps, p.Bnd n m) → Pds g w ps vs → Pds g' w ps vs
  | [], [], _, _ => trivial
  | p :: _, _ :: _, hp, ⟨h1, h2⟩ => ⟨hp p (by simp) g g' w _ hs hb ho h1, Pds.bnd hs hb ho (fun q hq => hp q (by simp [hq])) h2⟩
  | [], _ :: _, _, h => h.elim
  | _ :: _, [], _, h => h.elim

theorem Pds.append {g : G} {w : World} : ∀ {ps qs : List Pd} {vs us : List Value}, Pds g w ps vs → Pds g w qs us → Pds g w (ps ++ qs) (vs ++ us)
  | [], _, [], _, _, h => h
  | _ :: _, _, _ :: _, _, ⟨h1, h2⟩, h => ⟨h1, Pds.append h2 h⟩
  | [], _, _ :: _, _, h, _ => h.elim
  | _ :: _, _, [], _, h, _ => h.elim

theorem Pds.set {g : G} {w : World} : ∀ {ps : List Pd} {vs : List Value} (i : Nat) {p : Pd} {v : Value}, Pds g w ps vs → p.h g w v → Pds g w (ps.set i p) (vs.set i v)
  | [], [], _, _, _, _, _ => trivial
  | _ :: _, _ :: _, 0, _, _, ⟨_, h2⟩, h => ⟨h, h2⟩
  | _ :: _, _ :: _, i + 1, _, _, ⟨h1, h2⟩, h => ⟨h1, Pds.set i h2 h⟩
  | [], _ :: _, _, _, _, h, _ => h.elim
  | _ :: _, [], _, _, _, h, _ => h.elim

theorem Pds.take {g : G} {w : World} : ∀ {ps : List Pd} {vs : List Value} (i : Nat), Pds g w ps vs → Pds g w (ps.take i) (vs.take i)
  | [], [], i, _ => by simp [Pds]
  | _ :: _, _ :: _, 0, _ => trivial
  | _ :: _, _ :: _, i + 1, ⟨h1, h2⟩ => ⟨h1, Pds.take i h2⟩
  | [], _ :: _, _, h => h.elim
  | _ :: _, [], _, h => h.elim

theorem Pds.drop {g : G} {w : World} : ∀ {ps : List Pd} {vs : List Value} (i : Nat), Pds g w ps vs → Pds g w (ps.drop i) (vs.drop i)
  | [], [], i, _ => by simp [Pds]
  | _ :: _, _ :: _, 0, h => h
  | _ :: _, _ :: _, i + 1, ⟨_, h2⟩ => Pds.drop i h2
  | [], _ :: _, _, h => h.elim
  | _ :: _, [], _, h => h.elim

/-- A variable: its type, and what its cells stand for. -/
structure Bx where
  t : TypeId
  cs : List Pd

/-- A row of one's own: its elements' type, their size, and how many have been handed out. -/
structure Fr where
  t : TypeId
  sz : Nat
  n : Nat

structure St where
  boxes : List Bx
  fr : List Fr
  stat : Pd

/-- The first of these values; there may be more. -/
def PdsP (g : G) (w : World) (ps : List Pd) (vs : List Value) : Prop := Pds g w ps (vs.take ps.length)
theorem PdsP.mono {g g' : G} {w w' : World} (h : Ext g w g' w') {ps : List Pd} {vs : List Value} (hp : PdsP g w ps vs) : PdsP g' w' ps vs := Pds.mono h hp
theorem PdsP.len {g : G} {w : World} {ps : List Pd} {vs : List Value} (hp : PdsP g w ps vs) : ps.length ≤ vs.length := by
  have := Pds.length hp
  rw [List.length_take] at this; omega
theorem Pds.pre {g : G} {w : World} {ps : List Pd} {vs : List Value} (hp : Pds g w ps vs) : PdsP g w ps vs := by
  unfold PdsP
  rw [List.take_of_length_le (by rw [hp.length]; exact Nat.le_refl _)]; exact hp
theorem PdsP.get {g : G} {w : World} {ps : List Pd} {vs : List Value} (hp : PdsP g w ps vs) (i : Nat) (p : Pd) (hi : ps[i]? = some p) : ∃ v, vs[i]? = some v ∧ p.h g w v := by
  obtain ⟨v, h1, h2⟩ := Pds.get hp i p hi
  rw [List.getElem?_take_of_lt (List.getElem?_eq_some_iff.1 hi).1] at h1
  exact ⟨v, h1, h2⟩
theorem PdsP.bnd {g g' : G} {w : World} {n m : Nat} (hs : g'.sld = g.sld ∧ g'.base = g.base) (hb : ∀ i k, i < n → g.box[i]? = some k → g'.box[i]? = some k) (ho : ∀ b id c, id < m → g.own b = some (id, c) → g'.own b = some (id, c)) {ps : List Pd} {vs : List Value} (hq : ∀ p ∈ ps, p.Bnd n m) (hp : PdsP g w ps vs) : PdsP g' w ps vs := Pds.bnd hs hb ho hq hp
theorem PdsP.append {g : G} {w : World} {ps qs : List Pd} {vs us : List Value} (h : Pds g w ps vs) (h2 : PdsP g w qs us) : PdsP g w (ps ++ qs) (vs ++ us) := by
  unfold PdsP
  rw [List.length_append, ← h.length, List.take_length_add_append]
  exact Pds.append h h2
theorem PdsP.drop {g : G} {w : World} {ps : List Pd} {vs : List Value} (h : PdsP g w ps vs) (i : Nat) : PdsP g w (ps.drop i) (vs.drop i) := by
  have := Pds.drop i h
  unfold PdsP
  rw [List.length_drop]
  rwa [List.drop_take] at this
theorem PdsP.part {g : G} {w : World} {ps : List Pd} {vs : List Value} (h : PdsP g w ps vs) {n : Nat} (hn : n ≤ ps.length) : Pds g w (ps.take n) (vs.take n) := by
  have := Pds.take n h
  rwa [List.take_take, Nat.min_eq_left hn] at this
theorem PdsP.set {g : G} {w : World} {ps : List Pd} {vs : List Value} (h : PdsP g w ps vs) (i : Nat) {p : Pd} {v : Value} (hp : p.h g w v) : PdsP g w (ps.set i p) (vs.set i v) := by
  have := Pds.set i h hp
  unfold PdsP
  rw [List.length_set, List.take_set]
  exact this

structure SRel (g : G) (s : St) (w : World) : Prop where
  len : g.box.length = s.boxes.length
  nd : g.box.Nodup
  bx : ∀ (i : Nat) (B : Bx), s.boxes[i]? = some B → ∃ k vs, g.box[i]? = some k ∧ w.heap[k]? = some (.cells vs B.t (0, 0)) ∧ PdsP g w B.cs vs.toList ∧ (B.cs ≠ [] → g.sld k = 0) ∧ g.own k = none ∧ (∀ p ∈ B.cs, p.Bnd s.boxes.length s.fr.length)
  ow : ∀ b id c, g.own b = some (id, c) → ∃ f cs, s.fr[id]? = some f ∧ w.heap[b]? = some (.cells cs f.t (0, 0)) ∧ cs.size = c * f.sz ∧ g.sld b ≤ f.n * f.sz
  sl : ∀ b, g.sld b ≠ 0 → b < w.heap.size
  st : s.stat.h g w .nilFunc
  sb : s.stat.Bnd 0 0
  bz : g.base ≤ w.heap.size

theorem SRel.drew {g : G} {s : St} {w : World} (h : SRel g s w) : SRel g s { w with drawn := w.drawn + 1 } :=
  ⟨h.len, h.nd, fun i B hB => by
    obtain ⟨k, vs, h1, h2, h3, h4⟩ := h.bx i B hB
    exact ⟨k, vs, h1, h2, h3.mono (Ext.drew g w), h4⟩, h.ow, h.sl, s.stat.mono (Ext.drew g w) h.st, h.sb, h.bz⟩

abbrev Env := Nat → Pd

/-- Nothing is known. -/
def any : Pd := ⟨fun _ _ _ => True, fun _ _ => trivial⟩
/-- This very value. -/
def pl (x : Value) : Pd := ⟨fun _ _ v => v = x, fun _ h => h⟩

def Env.put (e : Env) (d : Option Tmp) (p : Pd) : Env :=
  match d with
  | none => e
  | some d => fun t => if t = d then p else e t

def Env.ev (e : Env) : Operand → Pd
  | .tmp t => e t
  | .const v => pl v
  | .global g => pl (.pointer (some ⟨g, 0, none⟩))
  | .func f => pl (.func (.func f) #[] #[])

structure ERel (nt : Nat) (e : Env) (g : G) (a : Act) (w : World) : Prop where
  size : a.tmps.size = nt
  defers : a.defers = []
  tmp : ∀ t, (e t).h g w (a.tmps.getD t undef)

theorem ERel.mono {nt : Nat} {e : Env} {g g' : G} {a : Act} {w w' : World} (h : ERel nt e g a w) (x : Ext g w g' w') : ERel nt e g' a w' :=
  ⟨h.size, h.defers, fun t => (e t).mono x (h.tmp t)⟩

theorem ERel.ev {nt : Nat} {e : Env} {g : G} {a : Act} {w : World} (h : ERel nt e g a w) (x : Operand) : (e.ev x).h g w (a.eval x) := by
  cases x with
  | tmp t => exact h.tmp t
  | const v => rfl
  | global g => rfl
  | func f => rfl

theorem ERel.put {nt : Nat} {e : Env} {g : G} {a : Act} {w : World} (h : ERel nt e g a w) {d : Option Tmp} (hd : ∀ t, d = some t → t < nt) {p : Pd} {v : Value} (hp : p.h g w v) : ERel nt (e.put d p) g (a.put d v) w := by
  cases d with
  | none => exact h
  | some d =>
    refine ⟨by simp [Act.put, h.size], h.defers, fun t => ?_⟩
    simp only [Env.put, Act.put]
    by_cases ht : t = d
    · subst ht
      rw [if_pos rfl]
      have : t < a.tmps.size := by rw [h.size]; exact hd t rfl
      rw [Array.getD_eq_getD_getElem?, Array.getElem?_setIfInBounds_self_of_lt this]
      exact hp
    · rw [if_neg ht]
      have hh := h.tmp t
      rw [Array.getD_eq_getD_getElem?] at hh ⊢
      rwa [Array.getElem?_setIfInBounds_ne (Ne.symm ht)]

/-- What is promised of a piece of code: behind it. -/
def Post (nt : Nat) (Q : Exit → Env → St → Prop) (g : G) (w : World) (x : Exit) (a' : Act) (w' : World) : Prop :=
  ∃ e' s' g', Q x e' s' ∧ Ext g w g' w' ∧ ERel nt e' g' a' w' ∧ SRel g' s' w'

def AW (P : Program) (nt : Nat) (c : Code) (Q : Exit → Env → St → Prop) (e : Env) (s : St) : Prop :=
  ∀ g a w, ERel nt e g a w → SRel g s w → c.wp P (Post nt Q g w) a w

theorem AW.mono {P : Program} {nt : Nat} {c : Code} {Q Q' : Exit → Env → St → Prop} {e : Env} {s : St} (h : AW P nt c Q e s) (hq : ∀ x e s, Q x e s → Q' x e s) : AW P nt c Q' e s :=
  fun g a w he hs => wp_mono (h g a w he hs) fun _ _ _ ⟨e', s', g', q, r⟩ => ⟨e', s', g', hq _ _ _ q, r⟩

def Then (K : Env → St → Prop) (Q : Exit → Env → St → Prop) : Exit → Env → St → Prop
  | .normal, e, s => K e s
  | x, e, s => Q x e s

theorem aw_seq {P : Program} {nt : Nat} {c d : Code} {Q : Exit → Env → St → Prop} {e : Env} {s : St} (h : AW P nt c (Then (AW P nt d Q) Q) e s) : AW P nt (.seq c d) Q e s := by
  intro g a w he hs
  refine wp_seq (wp_mono (h g a w he hs) ?_)
  rintro x a1 w1 ⟨e1, s1, g1, hq, hx, he1, hs1⟩
  cases x with
  | normal =>
    refine wp_mono (hq g1 a1 w1 he1 hs1) ?_
    rintro x a2 w2 ⟨e2, s2, g2, hq2, hx2, r⟩
    exact ⟨e2, s2, g2, hq2, hx.trans hx2, r⟩
  | exit i => exact ⟨e1, s1, g1, hq, hx, he1, hs1⟩
  | goto l => exact ⟨e1, s1, g1, hq, hx, he1, hs1⟩
  | ret => exact ⟨e1, s1, g1, hq, hx, he1, hs1⟩
  | panic c => exact ⟨e1, s1, g1, hq, hx, he1, hs1⟩
  | outgrown => exact ⟨e1, s1, g1, hq, hx, he1, hs1⟩

theorem aw_skip {P : Program} {nt : Nat} {Q : Exit → Env → St → Prop} {e : Env} {s : St} (h : Q .normal e s) : AW P nt .skip Q e s :=
  fun g a w he hs => wp_skip ⟨e, s, g, h, Ext.refl _ _, he, hs⟩
theorem aw_label {P : Program} {nt l : Nat} {Q : Exit → Env → St → Prop} {e : Env} {s : St} (h : Q .normal e s) : AW P nt (.label l) Q e s :=
  fun g a w he hs => wp_label ⟨e, s, g, h, Ext.refl _ _, he, hs⟩
theorem aw_ret {P : Program} {nt : Nat} {Q : Exit → Env → St → Prop} {e : Env} {s : St} (h : Q .ret e s) : AW P nt .ret Q e s :=
  fun g a w he hs => wp_ret ⟨e, s, g, h, Ext.refl _ _, he, hs⟩
theorem aw_exit {P : Program} {nt i : Nat} {Q : Exit → Env → St → Prop} {e : Env} {s : St} (h : Q (.exit i) e s) : AW P nt (.exit i) Q e s :=
  fun g a w he hs => wp_exit ⟨e, s, g, h, Ext.refl _ _, he, hs⟩

def InBlock (i : Nat) (Q : Exit → Env → St → Prop) : Exit → Env → St → Prop
  | .exit j, e, s => if j = i then Q .normal e s else Q (.exit j) e s
  | x, e, s => Q x e s

theorem aw_block {P : Program} {nt i : Nat} {c : Code} {Q : Exit → Env → St → Prop} {e : Env} {s : St} (h : AW P nt c (InBlock i Q) e s) : AW P nt (.block i c) Q e s := by
  intro g a w he hs
  refine wp_block (wp_mono (h g a w he hs) ?_)
  rintro x a1 w1 ⟨e1, s1, g1, hq, r⟩
  cases x with
  | exit j =>
    simp only [InBlock] at hq
    simp only [Exit.inBlock]
    split
    · rename_i hj; rw [if_pos hj] at hq; exact ⟨e1, s1, g1, hq, r⟩
    · rename_i hj; rw [if_neg hj] at hq; exact ⟨e1, s1, g1, hq, r⟩
  | normal => exact ⟨e1, s1, g1, hq, r⟩
  | goto l => exact ⟨e1, s1, g1, hq, r⟩
  | ret => exact ⟨e1, s1, g1, hq, r⟩
  | panic c => exact ⟨e1, s1, g1, hq, r⟩
  | outgrown => exact ⟨e1, s1, g1, hq, r⟩

theorem aw_cond {P : Program} {nt : Nat} {c : Operand} {x y : Code} {Q : Exit → Env → St → Prop} {e : Env} {s : St} (b : Bool) (hc : e.ev c = pl (.bool b))
    (ht : b = true → AW P nt x Q e s) (hf : b = false → AW P nt y Q e s) : AW P nt (.cond c x y) Q e s := by
  intro g a w he hs
  have h1 : a.eval c = .bool b := by
    have := he.ev c
    rw [hc] at this
    exact this
  exact wp_cond_split h1 (fun h => ht h g a w he hs) (fun h => hf h g a w he hs)

/-- A loop: what holds at each round's head, by a number that gets less. -/
theorem aw_loop {P : Program} {nt : Nat} {c : Code} {Q : Exit → Env → St → Prop} {e : Env} {s : St} (I : Nat → Env → St → Prop) (n : Nat) (h0 : I n e s)
    (round : ∀ n e s, I n e s → AW P nt c (Then (fun e' s' => ∃ m, m < n ∧ I m e' s') Q) e s) : AW P nt (.loop c) Q e s := by
  intro g a w he hs
  refine wp_mono (Q := Post nt Q g w) ?_ (fun _ _ _ h => h)
  -- the relation of the concrete loop: some abstract state fits
  have key : ∀ n : Nat, ∀ e s g1 a1 w1, I n e s → Ext g w g1 w1 → ERel nt e g1 a1 w1 → SRel g1 s w1 →
      ∀ (b : Frame) (k : List Item) (cs : List Frame), ∃ x a' w', Post nt Q g w x a' w' ∧ Arrives P (lone (b.at a1 (.code c :: .inLoop c :: k)) cs w1) b k cs x a' w' := by
    intro n
    induction n using Nat.strongRecOn with
    | _ n ih =>
      intro e s g1 a1 w1 hI hx he hs b k cs
      obtain ⟨x, a2, w2, hq, harr⟩ := round n e s hI g1 a1 w1 he hs b (.inLoop c :: k) cs
      obtain ⟨e2, s2, g2, hq, hx2, he2, hs2⟩ := hq
      cases x with
      | normal =>
        obtain ⟨m, hm, hI2⟩ := hq
        obtain ⟨x3, a3, w3, hq3, harr3⟩ := ih m hm e2 s2 g2 a2 w2 hI2 (hx.trans hx2) he2 hs2 b k cs
        exact ⟨x3, a3, w3, hq3, .of_steps (Steps.trans harr (.one step_inLoop)) harr3⟩
      | exit id => exact ⟨_, a2, w2, ⟨e2, s2, g2, hq, hx.trans hx2, he2, hs2⟩, .pass (x := .inLoop c) rfl (fun _ _ => .inl (by simp)) harr⟩
      | goto l => exact ⟨_, a2, w2, ⟨e2, s2, g2, hq, hx.trans hx2, he2, hs2⟩, .pass (x := .inLoop c) rfl (fun _ _ => .inl (by simp)) harr⟩
      | ret => exact ⟨_, a2, w2, ⟨e2, s2, g2, hq, hx.trans hx2, he2, hs2⟩, .pass (x := .inLoop c) rfl (fun _ _ => .inl (by simp)) harr⟩
      | panic ch => exact ⟨_, a2, w2, ⟨e2, s2, g2, hq, hx.trans hx2, he2, hs2⟩, .pass (x := .inLoop c) rfl (fun _ _ => .inl (by simp)) harr⟩
      | outgrown => exact ⟨_, a2, w2, ⟨e2, s2, g2, hq, hx.trans hx2, he2, hs2⟩, .pass (x := .inLoop c) rfl (fun _ _ => .inl (by simp)) harr⟩
  intro b k cs
  obtain ⟨x, a', w', hq, harr⟩ := key n e s g a w h0 (Ext.refl _ _) he hs b k cs
  exact ⟨x, a', w', hq, .of_steps (.one step_loop) harr⟩

end Go.Proofs.YtmnhfpcbfdgbcaaDoor.Eng
