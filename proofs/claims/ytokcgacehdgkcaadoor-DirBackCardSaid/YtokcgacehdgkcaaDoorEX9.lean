/- The engine: ranges over functions. An iterator's walk ('AL'), what a call of yield does ('YS'), the statement's rule ('aw_rangeFunc'). -/
import Derived.Test.YtokcgacehdgkcaaDoorEX8
import Derived.RangeFuncSeq
import Derived.Shelf.GgSortFunc.InsertionK
namespace Go.Proofs.YtokcgacehdgkcaaDoor.Eng
set_option linter.unusedVariables false
set_option linter.unusedSimpArgs false
open Go.RowKit

theorem Ext0.trans {g g1 g2 : G} {w w1 w2 : World} (h : Ext0 g w g1 w1) (k : Ext0 g1 w1 g2 w2) : Ext0 g w g2 w2 := by
  refine ⟨k.os.trans h.os, k.tape.trans h.tape, k.output.trans h.output, Nat.le_trans h.size k.size, fun b => Nat.le_trans (h.sld b) (k.sld b), fun b o ho => ?_, fun i e he => ?_, fun b hb => ?_, fun b i hi => k.own b i (h.own b i hi), fun b i hi => ?_, fun b hbb hb hn ho => ?_, k.base.trans h.base⟩
  · rw [k.cell b o (Nat.lt_of_lt_of_le ho (h.sld b)), h.cell b o ho]
  · obtain ⟨e1, h1, h2, h3⟩ := h.box i e he
    obtain ⟨e2, h4, h5, h6⟩ := k.box i e1 h1
    exact ⟨e2, h4, Nat.le_trans h2 h5, fun hv => by
      have : e.ver = e1.ver := by omega
      have h7 := h3 this
      subst h7
      exact h6 hv⟩
  · rcases k.boxf b hb with h1 | h1
    · exact h.boxf b h1
    · exact .inr (Nat.le_trans h.size h1)
  · rcases k.fresh b i hi with h1 | h1
    · exact h.fresh b i h1
    · exact .inr (Nat.le_trans h.size h1)
  · rw [k.block b (by rw [h.base]; exact hbb) (Nat.lt_of_lt_of_le hb h.size) ?_ ?_, h.block b hbb hb hn ho]
    · intro hm
      rcases h.boxf b hm with hm | hm
      · exact hn hm
      · omega
    · cases hg : g1.own b with
      | none => rfl
      | some i =>
        rcases h.fresh b i hg with h1 | h1
        · rw [ho] at h1; cases h1
        · omega
theorem lt_of_some {w : World} {b : Nat} {o : Obj} (h : w.heap[b]? = some o) : b < w.heap.size := (Array.getElem?_eq_some_iff.1 h).1
theorem Ext0.nb {g g' : G} {w w' : World} (x : Ext0 g w g' w') {l : Nat} {o : Obj} (h : w.heap[l]? = some o) (hn : ¬ g.isB l) : ¬ g'.isB l := fun hb => (x.boxf l hb).elim hn fun hk => by
  have := lt_of_some h
  omega

/-- As 'Ext', but for one object. -/
structure ExtX (l : Nat) (g : G) (w : World) (g' : G) (w' : World) : Prop where
  to0 : Ext0 g w g' w'
  oth : ∀ b o, b ≠ l → w.heap[b]? = some o → o.isCells = false → ¬ g.isB b → w'.heap[b]? = some o
theorem Ext.toX {g g' : G} {w w' : World} (x : Ext g w g' w') (l : Nat) : ExtX l g w g' w' := ⟨x.to0, fun b o _ => x.oth b o⟩
theorem ExtX.trans {l : Nat} {g g1 g2 : G} {w w1 w2 : World} (h : ExtX l g w g1 w1) (k : ExtX l g1 w1 g2 w2) : ExtX l g w g2 w2 :=
  ⟨h.to0.trans k.to0, fun b o hb h1 h2 h3 => k.oth b o hb (h.oth b o hb h1 h2 h3) h2 (h.to0.nb h1 h3)⟩
theorem ExtX.of_eq {l : Nat} {g g' : G} {w w' : World} (h : ExtX l g w g' w') (hl : w'.heap[l]? = w.heap[l]?) : Ext g w g' w' :=
  ⟨h.to0.os, h.to0.tape, h.to0.output, h.to0.size, h.to0.sld, h.to0.cell, h.to0.box, h.to0.boxf, h.to0.own, h.to0.fresh, h.to0.block, h.to0.base, fun b o h1 h2 h3 => by
    by_cases hb : b = l
    · subst hb; rw [hl]; exact h1
    · exact h.oth b o hb h1 h2 h3⟩
theorem ExtX.of_new {l : Nat} {g g' : G} {w w' : World} (h : ExtX l g w g' w') (hl : w.heap.size ≤ l) : Ext g w g' w' :=
  ⟨h.to0.os, h.to0.tape, h.to0.output, h.to0.size, h.to0.sld, h.to0.cell, h.to0.box, h.to0.boxf, h.to0.own, h.to0.fresh, h.to0.block, h.to0.base, fun b o h1 h2 h3 => h.oth b o (fun hb => by
    have := lt_of_some h1
    omega) h1 h2 h3⟩
theorem extX_put {g : G} {w : World} {l : Nat} {o o' : Obj} (h : w.heap[l]? = some o) (ho : o.isCells = false) (ho' : o'.isCells = false) (hn : ¬ g.isB l) (hb : g.base ≤ l) : ExtX l g w g (w.putObj l o') :=
  ⟨(tk_one (Nat.le_refl l) h ho ho' hn).ext0 hb, fun b o hb h1 _ _ => (World.putObj_heap_other hb).trans h1⟩
theorem srel_put1 {g : G} {s : St} {w : World} {l : Nat} {o o' : Obj} (hs : SRel g s w) (h : w.heap[l]? = some o) (ho : o.isCells = false) (ho' : o'.isCells = false) (hn : ¬ g.isB l) (hb : g.base ≤ l) : SRel g s (w.putObj l o') :=
  (tk_one (Nat.le_refl l) h ho ho' hn).srel hs hb
theorem Marks.monoX {m : Nat × Option Nat} {g g' : G} {w w' : World} {l : Nat} {rec : Loop} (x : ExtX l g w g' w') (hl : w.heap[l]? = some (.loop rec)) (hl' : ∃ rec', w'.heap[l]? = some (.loop rec')) : ∀ {ds : List Deferred}, Marks m g w ds → Marks m g' w' ds
  | [], h => ⟨Nat.le_trans h.1 x.to0.size, fun l0 h0 => by
    obtain ⟨r0, h1, h2⟩ := h.2 l0 h0
    by_cases hb : l0 = l
    · subst hb
      obtain ⟨rec', hl'⟩ := hl'
      exact ⟨rec', hl', x.to0.nb h1 h2⟩
    · exact ⟨r0, x.oth l0 _ hb h1 rfl h2, x.to0.nb h1 h2⟩⟩
  | _ :: _, ⟨⟨r, h1, h2, h3, h4, h5⟩, h6⟩ => ⟨⟨r, h1, h2, x.oth r _ (fun hb => by subst hb; rw [hl] at h3; cases h3) h3 rfl h4, x.to0.nb h3 h4, h5⟩, h6.monoX x hl hl'⟩

/-- A loop's record, when it may be entered: it lies there; all else goes on from (g0, w0). -/
structure Lv (l : Nat) (rec : Loop) (g0 : G) (w0 : World) (g : G) (w : World) : Prop where
  lies : w.heap[l]? = some (.loop rec)
  nb : ¬ g.isB l
  ext : Ext0 g0 w0 g w
theorem Lv.mono {l : Nat} {rec : Loop} {g0 : G} {w0 : World} {g g' : G} {w w' : World} (h : Lv l rec g0 w0 g w) (x : Ext g w g' w') : Lv l rec g0 w0 g' w' :=
  ⟨x.oth l _ h.lies rfl h.nb, x.to0.nb h.lies h.nb, h.ext.trans x.to0⟩
def dn (rec : Loop) (c : Code) : Loop := { rec with state := .done, pending := some c }

/-- What a call of yield does, in this state: the round goes on, or leaves by a jump. -/
def YS (P : Program) (l : Nat) (rec : Loop) (g0 : G) (w0 : World) (ps : List Pd) (N : St → Prop) (X : Code → St → Prop) (s : St) : Prop :=
  ∀ g w vs, Pds g w ps vs → SRel g s w → Lv l rec g0 w0 g w → YieldAt (rnd none) 0 P l vs.toArray w fun e w' =>
    ∃ s' g', SRel g' s' w' ∧ ((e = .returned (.bool true) ∧ N s' ∧ Ext g w g' w') ∨ ∃ c, e = .returned (.bool false) ∧ X c s' ∧ ExtX l g w g' w' ∧ w'.heap[l]? = some (.loop (dn rec c)))

/-- What an iterator does. -/
def ItC (P : Program) (f : FuncId) (l : Nat) (rec : Loop) (g0 : G) (w0 : World) (ps : List Pd) (s : St) (RT : St → Prop) (RF : Code → St → Prop) : Prop :=
  ∀ g w vs, Pds g w ps vs → SRel g s w → Lv l rec g0 w0 g w → Calls P f (.func (.yield l) #[] #[] :: vs).toArray w fun e w' =>
    ∃ v s' g', e = .returned v ∧ SRel g' s' w' ∧ ((RT s' ∧ Ext g w g' w') ∨ ∃ c, RF c s' ∧ ExtX l g w g' w' ∧ w'.heap[l]? = some (.loop (dn rec c)))

/-! ### Walks of iterators -/
def PostL (nt m l : Nat) (rec : Loop) (Q : Exit → Env → St → Prop) (D : Code → Exit → Env → St → Prop) (g : G) (w : World) (x : Exit) (a' : Act) (w' : World) : Prop :=
  Post nt (m, none) Q g w x a' w' ∨ ∃ c e' s' g', D c x e' s' ∧ ExtX l g w g' w' ∧ w'.heap[l]? = some (.loop (dn rec c)) ∧ ¬ g'.isB l ∧ ERel nt (m, none) e' g' a' w' ∧ SRel g' s' w'
def AL (P : Program) (nt l : Nat) (rec : Loop) (g0 : G) (w0 : World) (c : Code) (Q : Exit → Env → St → Prop) (D : Code → Exit → Env → St → Prop) (e : Env) (s : St) : Prop :=
  ∀ m g a w, ERel nt (m, none) e g a w → SRel g s w → Lv l rec g0 w0 g w → c.wpIn (rnd none) 0 P (PostL nt m l rec Q D g w) a w

section
variable {P : Program} {nt l : Nat} {rec : Loop} {g0 : G} {w0 : World} {Q Q' : Exit → Env → St → Prop} {D D' : Code → Exit → Env → St → Prop} {e : Env} {s : St}

theorem PostL.trans {m : Nat} {g g1 : G} {w w1 : World} {x : Exit} {a : Act} {w2 : World} (hx : Ext g w g1 w1) (h : PostL nt m l rec Q D g1 w1 x a w2) : PostL nt m l rec Q D g w x a w2 := by
  rcases h with ⟨e', s', g', q, hx', r⟩ | ⟨c, e', s', g', q, hx', r⟩
  · exact .inl ⟨e', s', g', q, hx.trans hx', r⟩
  · exact .inr ⟨c, e', s', g', q, (hx.toX l).trans hx', r⟩
/-- Behind a round that left: as elsewhere. -/
theorem post_done {m : Nat} {c : Code} {g g1 : G} {w w1 : World} (hx : ExtX l g w g1 w1) (hl : w1.heap[l]? = some (.loop (dn rec c))) (hn : ¬ g1.isB l) {x : Exit} {a : Act} {w2 : World} (h : Post nt (m, none) (D c) g1 w1 x a w2) : PostL nt m l rec Q D g w x a w2 := by
  obtain ⟨e', s', g', q, hx', he, hs⟩ := h
  exact .inr ⟨c, e', s', g', q, hx.trans (hx'.toX l), hx'.oth l _ hl rfl hn, hx'.to0.nb hl hn, he, hs⟩

theorem al_of_aw {c : Code} (h : AW P nt c Q e s) : AL P nt l rec g0 w0 c Q D e s := fun m g a w he hs _ => wpIn_mono (h m none g a w he hs) fun _ _ _ h => .inl h
theorem al_seq {c d : Code} (h : AL P nt l rec g0 w0 c (Then (AL P nt l rec g0 w0 d Q D) Q) (fun k => Then (AW P nt d (D k)) (D k)) e s) : AL P nt l rec g0 w0 (.seq c d) Q D e s := by
  intro m g a w he hs hv
  refine wpIn_seq (wpIn_mono (h m g a w he hs hv) ?_)
  rintro x a1 w1 (⟨e1, s1, g1, hq, hx, he1, hs1⟩ | ⟨k, e1, s1, g1, hq, hx, hl, hn, he1, hs1⟩)
  · cases x with
    | normal => exact wpIn_mono (hq m g1 a1 w1 he1 hs1 (hv.mono hx)) fun _ _ _ h => h.trans hx
    | exit i => exact .inl ⟨e1, s1, g1, hq, hx, he1, hs1⟩
    | goto l => exact .inl ⟨e1, s1, g1, hq, hx, he1, hs1⟩
    | ret => exact .inl ⟨e1, s1, g1, hq, hx, he1, hs1⟩
    | panic c => exact .inl ⟨e1, s1, g1, hq, hx, he1, hs1⟩
    | outgrown => exact .inl ⟨e1, s1, g1, hq, hx, he1, hs1⟩
  · cases x with
    | normal => exact wpIn_mono (hq m none g1 a1 w1 he1 hs1) fun _ _ _ h => post_done hx hl hn h
    | exit i => exact .inr ⟨k, e1, s1, g1, hq, hx, hl, hn, he1, hs1⟩
    | goto l => exact .inr ⟨k, e1, s1, g1, hq, hx, hl, hn, he1, hs1⟩
    | ret => exact .inr ⟨k, e1, s1, g1, hq, hx, hl, hn, he1, hs1⟩
    | panic c => exact .inr ⟨k, e1, s1, g1, hq, hx, hl, hn, he1, hs1⟩
    | outgrown => exact .inr ⟨k, e1, s1, g1, hq, hx, hl, hn, he1, hs1⟩
theorem al_block {i : Nat} {c : Code} (h : AL P nt l rec g0 w0 c (InBlock i Q) (fun k => InBlock i (D k)) e s) : AL P nt l rec g0 w0 (.block i c) Q D e s := by
  intro m g a w he hs hv
  refine wpIn_block (wpIn_mono (h m g a w he hs hv) ?_)
  rintro x a1 w1 (⟨e1, s1, g1, hq, r⟩ | ⟨k, e1, s1, g1, hq, r⟩)
  · cases x with
    | exit j =>
      simp only [InBlock] at hq
      simp only [Exit.inBlock]
      split
      · rename_i hj; rw [if_pos hj] at hq; exact .inl ⟨e1, s1, g1, hq, r⟩
      · rename_i hj; rw [if_neg hj] at hq; exact .inl ⟨e1, s1, g1, hq, r⟩
    | normal => exact .inl ⟨e1, s1, g1, hq, r⟩
    | goto l => exact .inl ⟨e1, s1, g1, hq, r⟩
    | ret => exact .inl ⟨e1, s1, g1, hq, r⟩
    | panic c => exact .inl ⟨e1, s1, g1, hq, r⟩
    | outgrown => exact .inl ⟨e1, s1, g1, hq, r⟩
  · cases x with
    | exit j =>
      simp only [InBlock] at hq
      simp only [Exit.inBlock]
      split
      · rename_i hj; rw [if_pos hj] at hq; exact .inr ⟨k, e1, s1, g1, hq, r⟩
      · rename_i hj; rw [if_neg hj] at hq; exact .inr ⟨k, e1, s1, g1, hq, r⟩
    | normal => exact .inr ⟨k, e1, s1, g1, hq, r⟩
    | goto l => exact .inr ⟨k, e1, s1, g1, hq, r⟩
    | ret => exact .inr ⟨k, e1, s1, g1, hq, r⟩
    | panic c => exact .inr ⟨k, e1, s1, g1, hq, r⟩
    | outgrown => exact .inr ⟨k, e1, s1, g1, hq, r⟩
theorem al_cond {c : Operand} {x y : Code} (b : Bool) (hc : e.ev c = pl (.bool b)) (ht : b = true → AL P nt l rec g0 w0 x Q D e s) (hf : b = false → AL P nt l rec g0 w0 y Q D e s) : AL P nt l rec g0 w0 (.cond c x y) Q D e s := by
  intro m g a w he hs hv
  have h1 : a.eval c = .bool b := by
    have := he.ev c
    rw [hc] at this
    exact this
  exact wpIn_cond_split h1 (fun h => ht h m g a w he hs hv) (fun h => hf h m g a w he hs hv)
theorem al_keep {c : Code} (L : List (Nat × Pd)) (hl : Holds e L) (h : AL P nt l rec g0 w0 c Q D (Env.of L) s) : AL P nt l rec g0 w0 c Q D e s :=
  fun m g a w he hs hv => h m g a w (hl.of he) hs hv
theorem al_loop {c : Code} (I : Nat → Env → St → Prop) (n : Nat) (h0 : I n e s)
    (round : ∀ n e s, I n e s → AL P nt l rec g0 w0 c (Then (fun e' s' => ∃ m, m < n ∧ I m e' s') Q) (fun k => Then (fun _ _ => False) (D k)) e s) : AL P nt l rec g0 w0 (.loop c) Q D e s := by
  intro m g a w he hs hv
  have key : ∀ n : Nat, ∀ e s g1 a1 w1, I n e s → Ext g w g1 w1 → ERel nt (m, none) e g1 a1 w1 → SRel g1 s w1 →
      ∀ (b : Frame) (k : List Item) (cs : List Frame), b.roundOf = (rnd none).round → (rnd none).fn b.fn → (rnd none).room (cs.length + 1 + 0) → ∃ x a' w', PostL nt m l rec Q D g w x a' w' ∧ ArrivesIn (Machine.fenced P (rnd none)) P (lone (b.atR a1 (.code c :: .inLoop c :: k)) cs w1) b k cs x a' w' := by
    intro n
    induction n using Nat.strongRecOn with
    | _ n ih =>
      intro e s g1 a1 w1 hI hx he hs b k cs hro hb hr
      obtain ⟨x, a2, w2, hq, harr⟩ := round n e s hI m g1 a1 w1 he hs (hv.mono hx) b (.inLoop c :: k) cs hro hb hr
      have hpass : (x ≠ .normal → PostL nt m l rec Q D g w x a2 w2) := fun hne => by
        refine PostL.trans hx ?_
        rcases hq with ⟨e2, s2, g2, hq, r⟩ | ⟨kk, e2, s2, g2, hq, r⟩
        · cases x <;> first | exact absurd rfl hne | exact .inl ⟨e2, s2, g2, hq, r⟩
        · cases x <;> first | exact absurd rfl hne | exact .inr ⟨kk, e2, s2, g2, hq, r⟩
      cases x with
      | normal =>
        rcases hq with ⟨e2, s2, g2, ⟨m2, hm, hI2⟩, hx2, he2, hs2⟩ | ⟨kk, e2, s2, g2, hq, _⟩
        · obtain ⟨x3, a3, w3, hq3, harr3⟩ := ih m2 hm e2 s2 g2 a2 w2 hI2 (hx.trans hx2) he2 hs2 b k cs hro hb hr
          exact ⟨x3, a3, w3, hq3, .of_steps (StepsIn.trans harr (.one (fenced_calm hb hr rfl) stepR_inLoop)) harr3⟩
        · exact hq.elim
      | exit id => exact ⟨_, a2, w2, hpass (by simp), .pass (x := .inLoop c) rfl (fun _ _ => .inl (by simp)) harr⟩
      | goto l => exact ⟨_, a2, w2, hpass (by simp), .pass (x := .inLoop c) rfl (fun _ _ => .inl (by simp)) harr⟩
      | ret => exact ⟨_, a2, w2, hpass (by simp), .pass (x := .inLoop c) rfl (fun _ _ => .inl (by simp)) harr⟩
      | panic ch => exact ⟨_, a2, w2, hpass (by simp), .pass (x := .inLoop c) rfl (fun _ _ => .inl (by simp)) harr⟩
      | outgrown => exact ⟨_, a2, w2, hpass (by simp), .pass (x := .inLoop c) rfl (fun _ _ => .inl (by simp)) harr⟩
  intro b k cs hro hb hr
  obtain ⟨x, a', w', hq, harr⟩ := key n e s g a w h0 (Ext.refl _ _) he hs b k cs hro hb hr
  exact ⟨x, a', w', hq, .of_steps (.one (fenced_calm hb hr rfl) stepR_loop) harr⟩
end
end Go.Proofs.YtokcgacehdgkcaaDoor.Eng

/- The engine: ranges over functions, second part: calls of yield, an iterator's text, the statement. -/
namespace Go.Proofs.YtokcgacehdgkcaaDoor.Eng
set_option linter.unusedVariables false
set_option linter.unusedSimpArgs false
open Go.RowKit

section
variable {P : Program} {nt l : Nat} {rec : Loop} {g0 : G} {w0 : World} {Q : Exit → Env → St → Prop} {D : Code → Exit → Env → St → Prop}

/-- A run of operations in the order of the text, calls of yield among them. -/
inductive RY (P : Program) (ops : Array Oper) (l : Nat) (rec : Loop) (g0 : G) (w0 : World) (K : Env → St → Prop) (D : Code → Env → St → Prop) : List Oper → Env → St → Prop
  | nil {e : Env} {s : St} : K e s → RY P ops l rec g0 w0 K D [] e s
  | step {o : Oper} {r : List Oper} {e : Env} {s s1 : St} (p : Pd) : Wants ops o e true → OpD P o e s p s1 → RY P ops l rec g0 w0 K D r (e.put o.dst p) s1 → RY P ops l rec g0 w0 K D (o :: r) e s
  | skip {o : Oper} {r : List Oper} {e : Env} {s : St} : Wants ops o e false → RY P ops l rec g0 w0 K D r (e.put o.dst (pl undef)) s → RY P ops l rec g0 w0 K D (o :: r) e s
  | yld {dst : Option Tmp} {y : Operand} {xs : List Operand} {ats : Array TypeId} {ty : TypeId} {pos : String} {after : Array Edge} {guard : Option (Nat × Bool)} {r : List Oper} {e : Env} {s : St} {ps : List Pd} {N : St → Prop} {X : Code → St → Prop} :
      Wants ops ⟨dst, .call { callee := .value y, args := xs.toArray, argTypes := ats }, ty, pos, after, guard⟩ e true → e.ev y = pl (.func (.yield l) #[] #[]) → Args e xs ps → YS P l rec g0 w0 ps N X s →
      (∀ s', N s' → RY P ops l rec g0 w0 K D r (e.put dst (pl (.bool true))) s') → (∀ c s', X c s' → RT P ops (D c) r (e.put dst (pl (.bool false))) s') →
      RY P ops l rec g0 w0 K D (⟨dst, .call { callee := .value y, args := xs.toArray, argTypes := ats }, ty, pos, after, guard⟩ :: r) e s

theorem wpListIn_of_RT {P : Program} {ops : Array Oper} {nt : Nat} {m : Nat × Option Nat} {Q : Exit → Env → St → Prop} {g0 : G} {w0 : World} {r : List Oper} {e : Env} {s : St} {QQ : Exit → Act → World → Prop}
    (h : RT P ops (Q .normal) r e s) : dstsOk nt r = true → ∀ g a w, (∀ e' s' g' a' w', Q .normal e' s' → Ext g0 w0 g' w' → ERel nt m e' g' a' w' → SRel g' s' w' → QQ .normal a' w') → Ext g0 w0 g w → ERel nt m e g a w → SRel g s w → wpListIn (rnd none) 0 P ops QQ r a w := by
  induction h with
  | nil hk =>
    intro _ g a w hQ hx he hs
    exact wpListIn_nil (hQ _ _ g a w hk hx he hs)
  | @step o r e s s1 p hw ho hr ih =>
    intro hd g a w hQ hx he hs
    have hd1 : dstsOk nt r = true := by simp only [dstsOk, List.all_cons, Bool.and_eq_true] at hd; exact hd.2
    have hnd : Oper.ndf o = true := List.all_eq_true.1 (dstsOk_nd hd) o (by simp)
    refine wpListIn_step fun K hK => ?_
    rw [hw.wanted (fun j want t _ _ => he.tmp t), if_pos rfl]
    exact operIn_of hnd (ho g a w K _ (fun x _ => he.ev x) hs fun v g' w' hp hx' hs' => hK _ _ (ih hd1 g' _ w' hQ (hx.trans hx') ((he.mono hx').put (fun t ht => dstsOk_at hd (by simp) t ht) hp) hs'))
  | @skip o r e s hw hr ih =>
    intro hd g a w hQ hx he hs
    have hd1 : dstsOk nt r = true := by simp only [dstsOk, List.all_cons, Bool.and_eq_true] at hd; exact hd.2
    refine wpListIn_step fun K hK => ?_
    rw [hw.wanted (fun j want t _ _ => he.tmp t), if_neg (by simp)]
    exact ⟨fun _ _ => trivial, hK _ _ (ih hd1 g _ w hQ hx (he.put (fun t ht => dstsOk_at hd (by simp) t ht) (p := pl undef) rfl) hs)⟩

theorem run_callYield {dst : Option Tmp} {y : Operand} {xs : List Operand} {ats : Array TypeId} {ty : TypeId} {pos : String} {after : Array Edge} {guard : Option (Nat × Bool)} {a : Act} {w : World} (hy : a.eval y = .func (.yield l) #[] #[]) {z : Result Next} (hz : (Instr.yield l (xs.map a.eval).toArray).run P w = z) :
    (execOp a.eval ⟨dst, .call { callee := .value y, args := xs.toArray, argTypes := ats }, ty, pos, after, guard⟩).run P w = z := by
  rw [← hz]
  simp only [execOp, resolve, hy, Deferred.ofValue]
  simp [invoke]

theorem wpListIn_of_RY {ops : Array Oper} {m : Nat} {gs : G} {ws : World} {r : List Oper} {e : Env} {s : St}
    (h : RY P ops l rec g0 w0 (Q .normal) (fun c => D c .normal) r e s) : dstsOk nt r = true → ∀ g a w, Ext gs ws g w → ERel nt (m, none) e g a w → SRel g s w → Lv l rec g0 w0 g w → wpListIn (rnd none) 0 P ops (PostL nt m l rec Q D gs ws) r a w := by
  induction h with
  | nil hk =>
    intro _ g a w hx he hs _
    exact wpListIn_nil (.inl ⟨_, _, g, hk, hx, he, hs⟩)
  | @step o r e s s1 p hw ho hr ih =>
    intro hd g a w hx he hs hv
    have hd1 : dstsOk nt r = true := by simp only [dstsOk, List.all_cons, Bool.and_eq_true] at hd; exact hd.2
    have hnd : Oper.ndf o = true := List.all_eq_true.1 (dstsOk_nd hd) o (by simp)
    refine wpListIn_step fun K hK => ?_
    rw [hw.wanted (fun j want t _ _ => he.tmp t), if_pos rfl]
    exact operIn_of hnd (ho g a w K _ (fun x _ => he.ev x) hs fun v g' w' hp hx' hs' => hK _ _ (ih hd1 g' _ w' (hx.trans hx') ((he.mono hx').put (fun t ht => dstsOk_at hd (by simp) t ht) hp) hs' (hv.mono hx')))
  | @skip o r e s hw hr ih =>
    intro hd g a w hx he hs hv
    have hd1 : dstsOk nt r = true := by simp only [dstsOk, List.all_cons, Bool.and_eq_true] at hd; exact hd.2
    refine wpListIn_step fun K hK => ?_
    rw [hw.wanted (fun j want t _ _ => he.tmp t), if_neg (by simp)]
    exact ⟨fun _ _ => trivial, hK _ _ (ih hd1 g _ w hx (he.put (fun t ht => dstsOk_at hd (by simp) t ht) (p := pl undef) rfl) hs hv)⟩
  | @yld dst y xs ats ty pos after guard r e s ps N X hw hy hxs hys hN hX ih =>
    intro hd g a w hx he hs hv
    have hd1 : dstsOk nt r = true := by simp only [dstsOk, List.all_cons, Bool.and_eq_true] at hd; exact hd.2
    have hnd := List.all_eq_true.1 (dstsOk_nd hd) _ (List.mem_cons_self)
    have hdt := dstsOk_at hd (List.mem_cons_self)
    refine wpListIn_step fun K hK => ?_
    rw [hw.wanted (fun j want t _ _ => he.tmp t), if_pos rfl]
    refine ⟨fun _ _ => trivial, ?_⟩
    rw [Oper.semAt_eq _ _ _ fun c hc => by simp at hc]
    have hy1 : a.eval y = .func (.yield l) #[] #[] := by
      have := he.ev y
      rw [hy] at this
      exact this
    obtain ⟨fn, tmps, assign, body, hrun, hround⟩ := hys g w _ (hxs.pds (a := a) (g := g) (w := w) fun x _ => he.ev x) hs hv
    rw [run_callYield hy1 hrun]
    refine ⟨fun q => by simp [rnd, Fence.wide] at q, hround.mono ?_⟩
    rintro en w' ⟨s', g', hs', ⟨rfl, hn, hx'⟩ | ⟨c, rfl, hxc, hx', hl'⟩⟩
    · exact hK _ _ (ih s' hn hd1 g' _ w' (hx.trans hx') ((he.mono hx').put hdt rfl) hs' (hv.mono hx'))
    · have hnb := hx'.to0.nb hv.lies hv.nb
      have he' : ERel nt (m, none) (e.put dst (pl (.bool false))) g' (a.put dst (.bool false)) w' := ERel.put ⟨he.size, he.defers.monoX hx' hv.lies ⟨_, hl'⟩, fun t => (e t).mono0 hx'.to0 (he.tmp t)⟩ hdt rfl
      refine hK _ _ (wpListIn_of_RT (Q := D c) (m := (m, none)) (g0 := g') (w0 := w') (hX c s' hxc) hd1 g' _ w' ?_ (Ext.refl _ _) he' hs')
      intro e2 s2 g2 a2 w2 hq hx2 he2 hs2
      exact post_done ((hx.toX l).trans hx') hl' hnb ⟨e2, s2, g2, hq, hx2, he2, hs2⟩

theorem al_region {id : Nat} {ops : List Oper} {e : Env} {s : St} (hd : dstsOk nt ops = true) (h : RY P ops.toArray l rec g0 w0 (Q .normal) (fun c => D c .normal) ops e s) : AL P nt l rec g0 w0 (.region id ops.toArray false) Q D e s :=
  fun m g a w he hs hv => wpIn_region_lit (wpListIn_of_RY (nt := nt) h hd g a w (Ext.refl _ _) he hs hv)
end

/-! ### An iterator's text -/
theorem tk_marks {F : Fence} {n m : Nat} {P : Program} {fn : Func} {tmps : Array Value} {R : Ending → World → Prop} {g : G} (hr : fn.results = #[]) (ds : List Deferred) (w : World) (h : Marks (m, none) g w ds)
    (hR : ∀ w', Tk m g w w' → R (.returned (.tuple #[])) w') : LeavesInM F n P fn tmps R ds .returning w :=
  leaves_marks ds w h fun w' hw => ⟨_, results_none hr _ P w', hR w' hw⟩
theorem it_of_al {P : Program} {f : FuncId} {fn : Func} {c : Code} {l : Nat} {rec : Loop} {g0 : G} {w0 : World} {ps : List Pd} {s : St} {RT : St → Prop} {RF : Code → St → Prop} (hf : P.funcs[f]? = some fn) (hb : fn.body = some c) (hn : ps.length + 1 ≤ fn.ntmps) (hr : fn.results = #[])
    (h : AL P fn.ntmps l rec g0 w0 c (fun x _ s' => (x = .normal ∨ x = .ret) ∧ RT s') (fun cc x _ s' => (x = .normal ∨ x = .ret) ∧ RF cc s') (envOf (pl (.func (.yield l) #[] #[]) :: ps)) s) : ItC P f l rec g0 w0 ps s RT RF := by
  intro g w vs hps0 hs hv
  have hps : Pds g w (pl (.func (.yield l) #[] #[]) :: ps) (.func (.yield l) #[] #[] :: vs) := ⟨rfl, hps0⟩
  revert hps
  generalize hqs : pl (.func (.yield l) #[] #[]) :: ps = qs at h ⊢
  generalize hus : Value.func (.yield l) #[] #[] :: vs = us
  intro hps
  have hql : qs.length ≤ fn.ntmps := by rw [← hqs]; simpa using hn
  have hvl := hps.length
  refine (callsIn_wide (n := 0)).1 (callsIn_of_wp_marks hf hb trivial (wpIn_mono (h w.heap.size g _ w ⟨?_, ⟨Nat.le_refl _, fun _ hl => nomatch hl⟩, fun t => ?_⟩ hs hv) ?_))
  · simp [hvl]; omega
  · by_cases ht : t < qs.length
    · obtain ⟨v, hv, hp⟩ := hps.get t qs[t] (List.getElem?_eq_getElem ht)
      rw [Array.getD_eq_getD_getElem?, Array.getElem?_append_left (by simp [hvl]; exact ht)]
      simp only [List.getElem?_toArray, hv, Option.getD_some, envOf, List.getElem?_eq_getElem ht]
      exact hp
    · simp only [envOf, List.getElem?_eq_none (Nat.le_of_not_lt ht), Option.getD_none]
      trivial
  · have hlw := lt_of_some hv.lies
    rintro x a1 w1 (⟨e1, s1, g1, ⟨hx, hq⟩, hxt, he1, hs1⟩ | ⟨cc, e1, s1, g1, ⟨hx, hq⟩, hxt, hl1, hn1, he1, hs1⟩)
    · have hbm : g1.base ≤ w.heap.size := by rw [hxt.base]; exact hs.bz
      have fin := tk_marks (P := P) (F := Fence.wide) (n := 0) (fn := fn) (tmps := a1.tmps) (R := fun e w' => ∃ v s' g', e = .returned v ∧ SRel g' s' w' ∧ ((RT s' ∧ Ext g w g' w') ∨ ∃ c, RF c s' ∧ ExtX l g w g' w' ∧ w'.heap[l]? = some (.loop (dn rec c)))) hr _ w1 he1.defers fun w2 htk => ⟨_, s1, g1, rfl, htk.srel hs1 hbm, .inl ⟨hq, htk.ext hxt⟩⟩
      rcases hx with rfl | rfl <;> exact fin
    · have hbm : g1.base ≤ w.heap.size := by rw [hxt.to0.base]; exact hs.bz
      have fin := tk_marks (P := P) (F := Fence.wide) (n := 0) (fn := fn) (tmps := a1.tmps) (R := fun e w' => ∃ v s' g', e = .returned v ∧ SRel g' s' w' ∧ ((RT s' ∧ Ext g w g' w') ∨ ∃ c, RF c s' ∧ ExtX l g w g' w' ∧ w'.heap[l]? = some (.loop (dn rec c)))) hr _ w1 he1.defers fun w2 htk => by
        refine ⟨_, s1, g1, rfl, htk.srel hs1 hbm, .inr ⟨cc, hq, ⟨hxt.to0.trans (htk.ext0 hbm), fun b o hb h1 h2 h3 => ?_⟩, ?_⟩⟩
        · exact ((htk.same b).resolve_right fun h5 => by
            have := lt_of_some h1
            omega).trans (hxt.oth b o hb h1 h2 h3)
        · exact ((htk.same l).resolve_right fun h5 => by omega).trans hl1
      rcases hx with rfl | rfl <;> exact fin
end Go.Proofs.YtokcgacehdgkcaaDoor.Eng

/- The engine: ranges over functions, third part: the statement. -/
namespace Go.Proofs.YtokcgacehdgkcaaDoor.Eng
set_option linter.unusedVariables false
set_option linter.unusedSimpArgs false
open Go.RowKit

/-- A round's first temporaries. -/
def Env.putL (e : Env) : List Tmp → List Pd → Env
  | t :: ts, p :: ps => (e.put (some t) p).putL ts ps
  | _, _ => e
theorem putL_rel {nt : Nat} {g : G} {w : World} : ∀ (ts : List Tmp) (ps : List Pd) (vs : List Value) (e : Env) (tmps : Array Value), (∀ t ∈ ts, t < nt) → Pds g w ps vs → tmps.size = nt → (∀ t, (e t).h g w (tmps.getD t undef)) →
    ((ts.zip vs).foldl (fun (a : Array Value) (x : Tmp × Value) => a.setIfInBounds x.1 x.2) tmps).size = nt ∧ (ts.length = ps.length → ∀ t, ((e.putL ts ps) t).h g w (((ts.zip vs).foldl (fun (a : Array Value) (x : Tmp × Value) => a.setIfInBounds x.1 x.2) tmps).getD t undef))
  | [], _, _, _, _, _, _, hs, he => ⟨by simpa using hs, fun h t => by
      rename_i ps _ _ _ _ _
      cases ps with
      | nil => simpa [Env.putL] using he t
      | cons => cases h⟩
  | t0 :: ts, [], [], _, _, _, _, hs, _ => ⟨by simpa using hs, fun h => by cases h⟩
  | t0 :: ts, p :: ps, v :: vs, e, tmps, ht, hp, hs, he => by
    have h1 := putL_rel ts ps vs (e.put (some t0) p) (tmps.setIfInBounds t0 v) (fun t h => ht t (by simp [h])) hp.2 (by simp [hs]) (fun t => by
      simp only [Env.put]
      by_cases h : t = t0
      · subst h
        have : t < tmps.size := by rw [hs]; exact ht t (by simp)
        rw [if_pos rfl, Array.getD_eq_getD_getElem?, Array.getElem?_setIfInBounds_self_of_lt this]
        exact hp.1
      · rw [if_neg h]
        have hh := he t
        rw [Array.getD_eq_getD_getElem?] at hh ⊢
        rwa [Array.getElem?_setIfInBounds_ne (Ne.symm h)])
    exact ⟨h1.1, fun h => h1.2 (by simpa using h)⟩
  | _ :: _, [], _ :: _, _, _, _, h, _, _ => h.elim
  | _ :: _, _ :: _, [], _, _, _, h, _, _ => h.elim

/-- How a round's body may be left. -/
def BQ (N : St → Prop) (X : Code → St → Prop) : Exit → Env → St → Prop
  | .normal, _, s => N s
  | .ret, _, s => X .ret s
  | .exit i, _, s => X (.exit i) s
  | .goto t, _, s => X (.goto t) s
  | _, _, _ => False

section
variable {P : Program} {nt : Nat} {e : Env} {s : St}

/-- One round, out of its body's walk. -/
theorem ys_of_aw {l : Nat} {rec : Loop} {g0 : G} {w0 : World} {qs : List Pd} {N : St → Prop} {X : Code → St → Prop} (hst : rec.state = .ready) (hpe : rec.pending = none) (hb : g0.base ≤ l) (hsz : rec.tmps.size = nt) (htm : ∀ t, (e t).h g0 w0 (rec.tmps.getD t undef)) (hps : ∀ t ∈ rec.params.toList, t < nt) (hq : qs.length = rec.params.size)
    (h : AW P nt rec.assign (Then (fun e2 s2 => AW P nt rec.body (BQ N X) e2 s2) (fun _ _ _ => False)) (e.putL rec.params.toList qs) s) : YS P l rec g0 w0 qs N X s := by
  intro g w vs hp hs hv
  have hvl := hp.length
  have hlw := lt_of_some hv.lies
  have hbg : g.base ≤ l := by rw [hv.ext.base]; exact hb
  refine ⟨_, _, _, _, run_yield (P := P) hv.lies (by simp [hvl, hq]), roundIn_of_wpIn (F := rnd none) trivial ?_⟩
  have hfold : ((rec.params.zip vs.toArray).foldl (fun (a : Array Value) (x : Tmp × Value) => a.setIfInBounds x.1 x.2) rec.tmps) = ((rec.params.toList.zip vs).foldl (fun (a : Array Value) (x : Tmp × Value) => a.setIfInBounds x.1 x.2) rec.tmps) := by
    rw [← Array.foldl_toList]; simp
  obtain ⟨h1, h2⟩ := putL_rel (nt := nt) rec.params.toList qs vs e rec.tmps hps hp hsz (fun t => (e t).mono0 hv.ext (htm t))
  have he : ERel nt (l, some l) (e.putL rec.params.toList qs) g { tmps := (rec.params.zip vs.toArray).foldl (fun (a : Array Value) (x : Tmp × Value) => a.setIfInBounds x.1 x.2) rec.tmps, defers := [] } w :=
    ⟨by rw [hfold]; exact h1, ⟨Nat.le_of_lt hlw, fun l' hl' => by cases hl'; exact ⟨_, hv.lies, hv.nb⟩⟩, fun t => by rw [hfold]; exact h2 (by simp [hq]) t⟩
  refine wpIn_mono (h l (some l) g _ w he hs) ?_
  rintro x a2 w2 ⟨e2, s2, g2, hq2, hx2, he2, hs2⟩
  cases x with
  | exit i => exact hq2.elim
  | goto t => exact hq2.elim
  | ret => exact hq2.elim
  | panic c => exact hq2.elim
  | outgrown => exact hq2.elim
  | normal =>
    have hv2 := hv.mono hx2
    have hb2 : g2.base ≤ l := by rw [hx2.base]; exact hbg
    refine ⟨_, run_beginRound hv2.lies hst, ?_⟩
    have hl2 := lt_of_some hv2.lies
    generalize hbz : Obj.loop { rec with state := .busy } = bz
    have hcb : bz.isCells = false := by rw [← hbz]; rfl
    have hx3 := extX_put (g := g2) hv2.lies rfl hcb hv2.nb hb2
    have hl3 : (w2.putObj l bz).heap[l]? = some bz := World.putObj_heap_same hl2
    have hs3 := srel_put1 (o' := bz) hs2 hv2.lies rfl hcb hv2.nb hb2
    have he3 : ERel nt (l, some l) e2 g2 a2 (w2.putObj l bz) := ⟨he2.size, he2.defers.monoX hx3 hv2.lies ⟨_, by rw [hl3, ← hbz]⟩, fun t => (e2 t).mono0 hx3.to0 (he2.tmp t)⟩
    refine wpIn_mono (hq2 l (some l) g2 a2 _ he3 hs3) ?_
    rintro x a4 w4 ⟨e4, s4, g4, hq4, hx4, he4, hs4⟩
    have hl4 : w4.heap[l]? = some bz := hx4.oth l _ hl3 hcb hv2.nb
    have hn4 := hx4.to0.nb hl3 hv2.nb
    have hb4 : g4.base ≤ l := by rw [hx4.base]; exact hb2
    have hxx : ExtX l g w g4 w4 := ((hx2.toX l).trans hx3).trans (hx4.toX l)
    rw [← hbz] at hl4
    have hlt4 := lt_of_some hl4
    have jump : ∀ c, X c s4 → ∃ v w5, (Instr.endRound l (some c)).run P w4 = .ok v w5 ∧ ∃ s' g', SRel g' s' w5 ∧ ((Ending.returned v = .returned (.bool true) ∧ N s' ∧ Ext g w g' w5) ∨ ∃ c, Ending.returned v = .returned (.bool false) ∧ X c s' ∧ ExtX l g w g' w5 ∧ w5.heap[l]? = some (.loop (dn rec c))) := fun c hc =>
      ⟨_, _, run_endRound (P := P) (some c) hl4, s4, g4, srel_put1 hs4 hl4 rfl rfl hn4 hb4, .inr ⟨c, rfl, hc, hxx.trans (extX_put hl4 rfl rfl hn4 hb4), World.putObj_heap_same hlt4⟩⟩
    cases x with
    | normal =>
      refine ⟨_, _, run_endRound (P := P) none hl4, s4, g4, srel_put1 hs4 hl4 rfl rfl hn4 hb4, .inl ⟨rfl, hq4, ExtX.of_eq (hxx.trans (extX_put hl4 rfl rfl hn4 hb4)) ?_⟩⟩
      rw [World.putObj_heap_same hlt4, hv.lies]
      cases rec
      simp only at hst hpe
      subst hst; subst hpe
      rfl
    | ret => exact jump _ hq4
    | exit i => exact jump _ hq4
    | goto t => exact jump _ hq4
    | panic c => exact hq4.elim
    | outgrown => exact hq4.elim

theorem ext_allocO {g : G} {s : St} {w : World} (hs : SRel g s w) (o : Obj) : Ext g w g (w.alloc o) :=
  ⟨rfl, rfl, rfl, by simp, fun _ => Nat.le_refl _, fun b off ho => cell_alloc_old w o (hs.sl b (by omega)), fun _ e h => ⟨e, h, Nat.le_refl _, fun _ => rfl⟩, fun _ h => .inl h, fun _ _ h => h, fun _ _ h => .inl h, fun b _ hb _ _ => alloc_heap_old w o hb, rfl, fun b _ h _ _ => (alloc_heap_old w o (lt_of_some h)).trans h⟩
theorem srel_allocO {g : G} {s : St} {w : World} (hs : SRel g s w) (o : Obj) : SRel g s (w.alloc o) :=
  have hx := ext_allocO hs o
  ⟨hs.len, hs.nd, fun i B hB => by
    obtain ⟨e, vs, h1, h2, h3, h4, h5⟩ := hs.bx i B hB
    exact ⟨e, vs, h1, h2, h3.to fun k _ hl => alloc_heap_old w o hl, h4.mono hx, h5⟩, fun b id c ho => by
    obtain ⟨f, cs, h1, h2, h3⟩ := hs.ow b id c ho
    exact ⟨f, cs, h1, (alloc_heap_old w o (lt_of_some h2)).trans h2, h3⟩, fun b hn => Nat.lt_of_lt_of_le (hs.sl b hn) hx.size, s.stat.mono hx hs.st, hs.sb, Nat.le_trans hs.bz hx.size⟩

theorem run_enterLoop_inner {w : World} {l0 : Nat} {r0 : Loop} (h : w.heap[l0]? = some (.loop r0)) (fn : FuncId) (tmps : Array Value) (ps : Array Tmp) (assign body : Code) :
    (Instr.enterLoop fn tmps ps assign body (some l0)).run P w = .ok (w.heap.size, []) (w.alloc (.loop { state := .ready, pending := none, fn, tmps, params := ps, assign, body, defers := r0.defers })) := by
  unfold Instr.enterLoop
  simp only [Sem.run_bind, run_getLoop h, run_newObj_alloc, Result.andThen, Sem.run_pure]

/-- A function's value, with captured variables. -/
def fncs (f : FuncId) (qs : List Pd) : Pd := ⟨fun g w v => ∃ cs : List Value, v = .func (.func f) #[] cs.toArray ∧ Pds g w qs cs, fun hx ⟨c, h1, h2⟩ => ⟨c, h1, Pds.mono0 hx h2⟩⟩
theorem fncs_bnd {f : FuncId} {qs : List Pd} {n m : Nat} (h : ∀ q ∈ qs, q.Bnd n m) : (fncs f qs).Bnd n m := fun g g' w v h1 h2 h3 ⟨c, hc, hq⟩ => ⟨c, hc, Pds.bnd h1 h2 h3 h hq⟩
theorem opD_makeFuncs {dst : Option Tmp} {ty : TypeId} {pos : String} {after : Array Edge} {guard : Option (Nat × Bool)} {f : FuncId} {xs : List Operand} {qs : List Pd} (hx : Args e xs qs) : OpD P ⟨dst, .makeFunc (.func f) #[] xs.toArray, ty, pos, after, guard⟩ e s (fncs f qs) s :=
  opD_look fun g a w ha hs => by
    have h1 := hx.pds (a := a) (g := g) (w := w) fun x hx => ha x (by simp [Op.operands, hx])
    refine ⟨.func (.func f) #[] (xs.map a.eval).toArray, ?_, xs.map a.eval, rfl, h1⟩
    show (Sem.bind (Instr.makeFunc _ _ _) fun v => Sem.pure (Next.value v)).run P w = _
    exact run_v (by simp [Instr.makeFunc])

/-- **The statement 'for .. := range g { .. }'**, g a function's value with captured variables. 'Y': the rounds that may come; 'N': what a round that goes on leaves; 'X': what one leaves that goes by a jump. -/
theorem aw_rangeFunc {gop : Operand} {ps : Array Tmp} {assign body : Code} {Q : Exit → Env → St → Prop} {f : FuncId} {qc : List Pd} {ι : Type} {Y : ι → St → List Pd → Prop} {N : ι → St → List Pd → St → Prop} {X : ι → St → List Pd → Code → St → Prop} {RT : St → Prop} {RF : Code → St → Prop}
    (hg : (e.ev gop).le (fncs f qc)) (hf : hasText P f = true) (hps : ps.toList.all (· < nt) = true)
    (hround : ∀ j s1 qs, Y j s1 qs → qs.length = ps.size ∧ AW P nt assign (Then (fun e2 s2 => AW P nt body (BQ (N j s1 qs) (X j s1 qs)) e2 s2) (fun _ _ _ => False)) (e.putL ps.toList qs) s1)
    (hit : ∀ l rec g0 w0, (∀ j s1 qs, Y j s1 qs → YS P l rec g0 w0 qs (N j s1 qs) (X j s1 qs) s1) → ItC P f l rec g0 w0 qc s RT RF)
    (hT : ∀ s', RT s' → Q .normal e s') (hX : ∀ c s', RF c s' → AW P nt c Q e s') : AW P nt (.rangeFunc gop ps assign body) Q e s := by
  intro m r g a w he hs
  refine wpIn_rangeFunc fun fn _ => ?_
  obtain ⟨cv, hcv, hq⟩ := hg _ _ _ (he.ev gop)
  have core : ∀ (l : Nat) (mark : List Deferred) (w1 : World) (rec : Loop), (Instr.enterLoop fn a.tmps ps assign body r).run P w = .ok (l, mark) w1 → rec.state = .ready → rec.pending = none → rec.tmps = a.tmps → rec.params = ps → rec.assign = assign → rec.body = body →
      w.heap.size ≤ l → Ext g w g w1 → SRel g s w1 → w1.heap[l]? = some (.loop rec) → Marks (m, r) g w1 (mark ++ a.defers) →
      ∃ (l : Nat) (mark : List Deferred) (w₁ : World) (d : Deferred) (w₁' : World) (f : FuncId) (args : Array Value) (w₂ : World),
        (Instr.enterLoop fn a.tmps ps assign body (rnd r).round).run P w = .ok (l, mark) w₁ ∧ (resolve a.eval (rangeCall gop l) 0).run P w₁ = .ok d w₁' ∧ (∀ f', Target.leads P w₁' d.target d.args = some f' → (rnd r).fn f') ∧
        (invoke d.target d.args).run P w₁' = .ok (.enter f args) w₂ ∧ ((rnd r).depth.isSome = true → 1 ≤ 0) ∧ CallsIn (rnd r) (0 - 1) P f args w₂ (rangePost (rnd r) 0 P l (Post nt (m, r) Q g w) { a with defers := mark ++ a.defers }) := by
    intro l mark w1 rec hrun h1 h2 h3 h4 h5 h6 hlw hx1 hs1 hl1 hmk
    have hnb : ¬ g.isB l := fun hb => by
      have := hs.ltBox hb
      omega
    have hbl : g.base ≤ l := Nat.le_trans hs.bz hlw
    have hv : Lv l rec g w g w1 := ⟨hl1, hnb, hx1.to0⟩
    refine ⟨l, mark, w1, { target := .fn (.func f) cv.toArray, args := #[.func (.yield l) #[] #[]] }, w1, f, (.func (.yield l) #[] #[] :: cv).toArray, w1, hrun, ?_, fun _ _ => trivial, ?_, fun q => by simp [rnd, Fence.wide] at q, callsIn_of ((hit l rec g w (fun j s1 qs hY => ?_) g w1 cv (Pds.mono hx1 hq) hs1 hv).mono ?_)⟩
    · simp only [resolve, hcv]
      simp [go_sem]
    · have h3 := run_callFunc hf (#[] ++ #[.func (.yield l) #[] #[]] ++ cv.toArray) w1
      simpa [invoke] using h3
    · obtain ⟨k1, k2⟩ := hround j s1 qs hY
      exact ys_of_aw (e := e) (nt := nt) h1 h2 hbl (by rw [h3]; exact he.size) (by rw [h3]; exact he.tmp) (by rw [h4]; exact fun t ht => by simpa using List.all_eq_true.1 hps t ht) (by rw [h4]; exact k1) (by rw [h4, h5, h6]; exact k2)
    · rintro en w2 ⟨v, s', g', rfl, hs2, ⟨hR, hx2⟩ | ⟨c, hR, hx2, hl2⟩⟩
      · have hv2 := hv.mono hx2
        have hb2 : g'.base ≤ l := by rw [hx2.base]; exact hbl
        have hxp := extX_put (g := g') (o' := .loop { rec with state := .exhausted }) hv2.lies rfl rfl hv2.nb hb2
        have hsp := srel_put1 (o' := .loop { rec with state := .exhausted }) hs2 hv2.lies rfl rfl hv2.nb hb2
        have hlp : ∃ rec', (w2.putObj l (.loop { rec with state := .exhausted })).heap[l]? = some (.loop rec') := ⟨_, World.putObj_heap_same (lt_of_some hv2.lies)⟩
        have hend := run_endLoop (P := P) hv2.lies (by rw [h1]; simp)
        revert hxp hsp hlp hend
        generalize w2.putObj l (.loop { rec with state := .exhausted }) = w3
        intro hxp hsp hlp hend
        rw [h2] at hend
        refine ⟨none, _, hend, ?_⟩
        have hxa := (((hx1.trans hx2).toX l).trans hxp).of_new hlw
        exact ⟨e, s', g', hT s' hR, hxa, ⟨he.size, (hmk.mono hx2).monoX hxp hv2.lies hlp, fun t => (e t).mono hxa (he.tmp t)⟩, hsp⟩
      · have hn2 := hx2.to0.nb hl1 hnb
        have hb2 : g'.base ≤ l := by rw [hx2.to0.base]; exact hbl
        refine ⟨some c, _, run_endLoop (P := P) hl2 (by simp [dn]), ?_⟩
        have hxp := extX_put (g := g') (o' := .loop { dn rec c with state := .exhausted }) hl2 rfl rfl hn2 hb2
        have hxa := (((hx1.toX l).trans hx2).trans hxp).of_new hlw
        have he2 : ERel nt (m, r) e g' { a with defers := mark ++ a.defers } (w2.putObj l (.loop { dn rec c with state := .exhausted })) :=
          ⟨he.size, (hmk.monoX hx2 hl1 ⟨_, hl2⟩).monoX hxp hl2 ⟨_, World.putObj_heap_same (lt_of_some hl2)⟩, fun t => (e t).mono hxa (he.tmp t)⟩
        refine wpIn_mono (hX c s' hR m r g' _ _ he2 (srel_put1 hs2 hl2 rfl rfl hn2 hb2)) ?_
        rintro x a3 w3 ⟨e3, s3, g3, q3, x3, r3⟩
        exact ⟨e3, s3, g3, q3, hxa.trans x3, r3⟩
  cases r with
  | none =>
    have hx1 := ext_allocO hs (.deferred (some []))
    have hs1 := srel_allocO hs (.deferred (some []))
    have hx2 := ext_allocO hs1 (.loop { state := .ready, pending := none, fn, tmps := a.tmps, params := ps, assign, body, defers := w.heap.size })
    have hl2 := World.alloc_heap_new (w.alloc (.deferred (some []))) (.loop { state := .ready, pending := none, fn, tmps := a.tmps, params := ps, assign, body, defers := w.heap.size })
    rw [World.size_alloc] at hl2
    have hd1 := World.alloc_heap_new w (.deferred (some []))
    have hnb : ¬ g.isB w.heap.size := fun hb => by
      have := hs.ltBox hb
      omega
    refine core (w.heap.size + 1) _ _ _ (run_enterLoop_outer _ _ _ _ _) rfl rfl rfl rfl rfl rfl (by omega) (hx1.trans hx2) (srel_allocO hs1 _) hl2 ⟨⟨w.heap.size, rfl, ?_, hx2.oth _ _ hd1 rfl hnb, hnb, fun d' hd' ht => ?_⟩, he.defers.mono (hx1.trans hx2)⟩
    · have : ∀ ds, Marks (m, none) g w ds → m ≤ w.heap.size := fun ds => by
        induction ds with
        | nil => exact fun h => h.1
        | cons d ds ih => exact fun h => ih h.2
      exact this _ he.defers
    · have : ∀ ds, Marks (m, none) g w ds → ∀ d' ∈ ds, ∀ r, d'.target = .collected r → r < w.heap.size := fun ds => by
        induction ds with
        | nil => exact fun _ d h => by cases h
        | cons d ds ih =>
          rintro ⟨⟨r, k1, _, k3, _⟩, k⟩ d' hd' r' hr'
          rcases List.mem_cons.1 hd' with rfl | hd'
          · rw [k1] at hr'; cases hr'; exact lt_of_some k3
          · exact ih k d' hd' r' hr'
      have := this _ he.defers d' hd' _ ht
      omega
  | some l0 =>
    have hm0 : ∀ ds, Marks (m, some l0) g w ds → ∃ rec, w.heap[l0]? = some (.loop rec) := fun ds => by
      induction ds with
      | nil => exact fun h => let ⟨rec, h1, _⟩ := h.2 l0 rfl; ⟨rec, h1⟩
      | cons d ds ih => exact fun h => ih h.2
    obtain ⟨r0, hr0⟩ := hm0 _ he.defers
    exact core w.heap.size [] _ _ (run_enterLoop_inner hr0 _ _ _ _ _) rfl rfl rfl rfl rfl rfl (Nat.le_refl _) (ext_allocO hs _) (srel_allocO hs _) (World.alloc_heap_new _ _) (he.defers.mono (ext_allocO hs _))
end
end Go.Proofs.YtokcgacehdgkcaaDoor.Eng

/- The engine: a row in place that a sort of the kit's shelf turns. -/
namespace Go.Proofs.YtokcgacehdgkcaaDoor.Eng
set_option linter.unusedVariables false
set_option linter.unusedSimpArgs false
open Go.RowKit Go.Sort

theorem sortWorldK_facts {α : Type} [Inhabited α] {enc : α → List Value} {k n blk te : Nat} {w : World} {vs : Array Value} {d : Array α} {os : Array Obj} (hb : w.heap[blk]? = some (.cells vs te (0, 0))) :
    (sortWorldK enc k w blk 0 n d os).os = w.os ∧ (sortWorldK enc k w blk 0 n d os).tape = w.tape ∧ (sortWorldK enc k w blk 0 n d os).output = w.output ∧ w.heap.size ≤ (sortWorldK enc k w blk 0 n d os).heap.size ∧
      (∀ b, b < w.heap.size → b ≠ blk → (sortWorldK enc k w blk 0 n d os).heap[b]? = w.heap[b]?) ∧ (sortWorldK enc k w blk 0 n d os).heap[blk]? = some (.cells (putCells id 0 (flatK enc k d) vs) te (0, 0)) := by
  have hlt : blk < w.heap.size := (Array.getElem?_eq_some_iff.1 hb).1
  refine ⟨rfl, rfl, rfl, ?_, fun b h1 h2 => ?_, ?_⟩
  · simp [sortWorldK, grow, putRowK, putRow, mapBlock, ahead]
  · show ((w.heap.modify blk _) ++ os)[b]? = _
    rw [Array.getElem?_append_left (by simpa using h1), Array.getElem?_modify, if_neg (Ne.symm h2)]
  · show ((w.heap.modify blk _) ++ os)[blk]? = _
    rw [Array.getElem?_append_left (by simpa using hlt), Array.getElem?_modify, if_pos rfl, hb]
    rfl

/-- The cells of a row, as values. -/
def flatV {α : Type} (enc : α → List Value) (l : List α) : List Value := l.flatMap enc
theorem flatV_length {α : Type} {enc : α → List Value} {sz : Nat} (h : ∀ x, (enc x).length = sz) (l : List α) : (flatV enc l).length = l.length * sz := by
  induction l with
  | nil => simp [flatV]
  | cons x l ih =>
    simp only [flatV, List.flatMap_cons, List.length_append, h, List.length_cons] at ih ⊢
    rw [ih, Nat.add_mul]; omega
theorem flatV_get {α : Type} {enc : α → List Value} {sz : Nat} (h : ∀ x, (enc x).length = sz) : ∀ (l : List α) (i j : Nat), j < sz → (flatV enc l)[i * sz + j]? = (l[i]?).bind fun x => (enc x)[j]?
  | [], i, j, _ => by simp [flatV]
  | x :: l, 0, j, hj => by
    simp only [flatV, List.flatMap_cons, Nat.zero_mul, Nat.zero_add, List.getElem?_cons_zero, Option.bind_some]
    rw [List.getElem?_append_left (by rw [h]; exact hj)]
  | x :: l, i + 1, j, hj => by
    have ih := flatV_get h l i j hj
    simp only [flatV, List.flatMap_cons, List.getElem?_cons_succ] at ih ⊢
    rw [List.getElem?_append_right (by rw [h, Nat.add_mul]; omega), h, ← ih]
    congr 1
    rw [Nat.add_mul]; omega
theorem flat_flatV {α : Type} {k : Kn α} {enc : α → List Value} (henc : ∀ x, k.cs x = (enc x).map pl) (l : List α) : flat k l = (flatV enc l).map pl := by
  simp only [flat, flatV, List.map_flatMap]
  congr 1
  funext x
  exact henc x
theorem flatK_flatV {α : Type} [Inhabited α] {enc : α → List Value} {sz : Nat} (h : ∀ x, (enc x).length = sz) (d : Array α) : (flatK enc sz d).toList = flatV enc d.toList := by
  apply List.ext_getElem?
  intro q
  by_cases hq : q < d.size * sz
  · have hz : 0 < sz := by
      rcases Nat.eq_zero_or_pos sz with h0 | h0
      · rw [h0] at hq; omega
      · exact h0
    have h1 := get_flatK enc sz d q hq
    have hl : q < (flatK enc sz d).size := by rw [size_flatK]; exact hq
    rw [getElem!_pos _ q hl] at h1
    rw [Array.getElem?_toList, Array.getElem?_eq_getElem hl, h1]
    have hd : q / sz < d.size := (Nat.div_lt_iff_lt_mul hz).2 hq
    have hm : q % sz < sz := Nat.mod_lt _ hz
    have h2 := flatV_get h d.toList (q / sz) (q % sz) hm
    rw [Nat.div_add_mod' q sz] at h2
    rw [h2]
    have hl2 : q % sz < (enc d[q / sz]).length := by rw [h]; exact hm
    simp [hd, getElem!_pos, hl2]
  · rw [List.getElem?_eq_none (by simp; omega), List.getElem?_eq_none (by rw [flatV_length h]; simp; omega)]

/-- What a sort needs of a row in place, and what it leaves of it. -/
theorem hot_sort {α : Type} [Inhabited α] {k : Kn α} {enc : α → List Value} (henc : ∀ x, k.cs x = (enc x).map pl) (hkb : ∀ x n m, ∀ p ∈ k.cs x, p.Bnd n m) {i r te : Nat} {l : List α} {g : G} {s : St} {w : World} {v : Value} (hte : Nat.blt te HOT = true) (hr : 2 ≤ r) (hev : r % 2 = 0) (hz : 0 < k.sz) (hs : SRel g s w)
    (hB : s.boxes[i]? = some ⟨hot te r, flat k l⟩) (hv : (hsl i r 0 l.length k.sz).h g w v) :
    (∃ A, v = .slice A 0 0 ∧ l = []) ∨ ∃ blk cap, v = .slice (some ⟨blk, 0, none⟩) l.length cap ∧ blk < w.heap.size ∧ HoldsK enc k.sz w blk 0 l.toArray ∧ ∀ n d os, d.size = l.length → Ext g w g (sortWorldK enc k.sz w blk 0 n d os) ∧ SRel g ⟨s.boxes.set i ⟨hot te r, flat k d.toList⟩, s.fr, s.stat⟩ (sortWorldK enc k.sz w blk 0 n d os) := by
  have hlen : ∀ x, (enc x).length = k.sz := fun x => by rw [← k.len x, henc x, List.length_map]
  obtain ⟨e, A, c, q1, q2, rfl, hlc, hAn, hblk⟩ := hv
  obtain ⟨e', vs, r1, r2, r3, r4, r5, r6⟩ := hs.bx i _ hB
  rw [q1] at r1; cases r1
  have hver : (⟨hot te r, flat k l⟩ : Bx).ver = r := hot_ver hte
  have hevr : e.ver = r := by rw [r2]; exact hver
  have hfl : l.length * k.sz ≤ vs.size := by
    have h := r4.len
    rw [show (⟨hot te r, flat k l⟩ : Bx).cs = flat k l from rfl, flat_length, Array.length_toList] at h
    exact h
  rcases hblk hevr with ⟨hn, hc0⟩ | ⟨blk, hk, rfl, hcnt⟩
  · subst hc0
    have h0 : l = [] := List.length_eq_zero_iff.1 (by omega)
    subst h0
    exact .inl ⟨A, rfl, rfl⟩
  · unfold Cont at r3
    rw [hk] at r3
    obtain ⟨hh, hsz⟩ := r3
    rw [hot_obj hte hr] at hh
    have hlt : blk < w.heap.size := (Array.getElem?_eq_some_iff.1 hh).1
    have hvals : vs.toList.take (l.length * k.sz) = flatV enc l := by
      have h1 : Pds g w (flat k l) (vs.toList.take (flat k l).length) := r4
      rw [flat_length, flat_flatV henc] at h1
      exact pdsl h1
    have hlive : (⟨hot te r, flat k l⟩ : Bx).live := .inr ⟨by rw [hver]; exact hr, by rw [hver]; exact hev⟩
    have h0 : g.sld blk = 0 := (r5 blk hk).1 hlive
    refine .inr ⟨blk, c, rfl, hlt, fun j hj => ?_, fun n d os hd => ?_⟩
    · rw [size_flatK, List.size_toArray] at hj
      have hjv : j < vs.size := by omega
      refine ⟨?_, by simp [World.frozen?, hh]⟩
      rw [Nat.zero_add, box_cell (g := g) hh]
      have h2 : (flatV enc l)[j]? = some vs[j] := by rw [← hvals, List.getElem?_take_of_lt hj]; simp [hjv]
      have h3 : (flatK enc k.sz l.toArray)[j]? = some vs[j] := by
        rw [← Array.getElem?_toList, flatK_flatV hlen, List.toList_toArray]; exact h2
      have h4 : j < (flatK enc k.sz l.toArray).size := (Array.getElem?_eq_some_iff.1 h3).1
      rw [getElem!_pos _ j h4]
      have := (Array.getElem?_eq_some_iff.1 h3).2
      show vs[j]? = some ((flatK enc k.sz l.toArray)[j])
      rw [this]; simp [hjv]
    · obtain ⟨f1, f2, f3, f4, f5, f6⟩ := sortWorldK_facts (enc := enc) (k := k.sz) (n := n) (d := d) (os := os) hh
      have hps : (putCells id 0 (flatK enc k.sz d) vs).size = vs.size := by simp [putCells]
      have hx : Ext g w g (sortWorldK enc k.sz w blk 0 n d os) := by
        refine ⟨f1, f2, f3, f4, fun _ => Nat.le_refl _, fun b o ho => ?_, fun _ e h => ⟨e, h, Nat.le_refl _, fun _ => rfl⟩, fun _ h => .inl h, fun _ _ h => h, fun _ _ h => .inl h, fun b hb hb2 hn _ => f5 b hb2 fun h => by subst h; exact hn ⟨i, e, q1, hk⟩, rfl, fun b o hb ho _ => ?_⟩
        · exact World.cell?_of_block (w := w) (f5 b (hs.sl b (by omega)) fun h => by subst h; omega)
        · exact (f5 b (Array.getElem?_eq_some_iff.1 hb).1 fun h => by subst h; rw [hh] at hb; cases hb; cases ho).trans hb
      refine ⟨hx, srel_put (e' := e) (B' := ⟨hot te r, flat k d.toList⟩) (cs := putCells id 0 (flatK enc k.sz d) vs) hs hB q1 hx ⟨rfl, rfl, rfl⟩ (set_self q1).symm hk (by rw [hevr]; exact (hot_ver hte).symm) (fun _ => ?_) (.inl hk) f5 (by rw [hot_obj hte hr]; exact f6) h0 ?_ (flatKB hkb)⟩
      · rw [hps]; exact hsz (by rw [hver]; exact hr)
      · show Pds _ _ _ _
        rw [flat_length, flat_flatV henc]
        have : (putCells id 0 (flatK enc k.sz d) vs).toList.take (d.toList.length * k.sz) = flatV enc d.toList := by
          rw [← flatK_flatV hlen]
          apply List.ext_getElem?
          intro q
          rw [Array.length_toList, hd]
          by_cases hq : q < l.length * k.sz
          · rw [List.getElem?_take_of_lt hq, Array.getElem?_toList, Array.getElem?_toList]
            have h5 : q < (flatK enc k.sz d).size := by rw [size_flatK, hd]; exact hq
            have h6 : q < vs.size := by omega
            rw [Array.getElem?_eq_getElem h5]
            simp [putCells, h6, h5, hd, hq, getElem!_pos]
          · rw [List.getElem?_take_eq_none (by omega), List.getElem?_eq_none (by simp [hd]; omega)]
        rw [this]; exact pds_pl _ _ _

theorem ext_grow {g : G} {s : St} {w : World} (hs : SRel g s w) (n : Nat) (os : Array Obj) : Ext g w g (grow (Sort.ahead w n) os) := by
  have hh : ∀ b, b < w.heap.size → (grow (Sort.ahead w n) os).heap[b]? = w.heap[b]? := fun b hb => by
    show (w.heap ++ os)[b]? = _
    rw [Array.getElem?_append_left hb]
  refine ⟨rfl, rfl, rfl, by simp [grow, Sort.ahead], fun _ => Nat.le_refl _, fun b o ho => ?_, fun _ e h => ⟨e, h, Nat.le_refl _, fun _ => rfl⟩, fun _ h => .inl h, fun _ _ h => h, fun _ _ h => .inl h, fun b _ hb2 _ _ => hh b hb2, rfl, fun b o hb _ _ => (hh b (Array.getElem?_eq_some_iff.1 hb).1).trans hb⟩
  exact World.cell?_of_block (w := w) (hh b (hs.sl b (by omega)))
theorem srel_grow {g : G} {s : St} {w : World} (hs : SRel g s w) (n : Nat) (os : Array Obj) : SRel g s (grow (Sort.ahead w n) os) :=
  have hx := ext_grow hs n os
  have hh : ∀ b, b < w.heap.size → (grow (Sort.ahead w n) os).heap[b]? = w.heap[b]? := fun b hb => by
    show (w.heap ++ os)[b]? = _
    rw [Array.getElem?_append_left hb]
  ⟨hs.len, hs.nd, fun i B hB => by
    obtain ⟨e, vs, h1, h2, h3, h4, h5⟩ := hs.bx i B hB
    exact ⟨e, vs, h1, h2, h3.to fun k _ hl => hh k hl, h4.mono hx, h5⟩, fun b id c ho => by
    obtain ⟨f, cs, h1, h2, h3⟩ := hs.ow b id c ho
    exact ⟨f, cs, h1, (hh b (Array.getElem?_eq_some_iff.1 h2).1).trans h2, h3⟩, fun b hn => Nat.lt_of_lt_of_le (hs.sl b hn) hx.size, s.stat.mono hx hs.st, hs.sb, Nat.le_trans hs.bz hx.size⟩

/-- A sort of the kit's shelf, as a call on a row in place. -/
theorem ac_sort {P : Program} {f gf : FuncId} {α : Type} [Inhabited α] {k : Kn α} {enc : α → List Value} {F : Array α → Array α} (henc : ∀ x, k.cs x = (enc x).map pl) (hkb : ∀ x n m, ∀ p ∈ k.cs x, p.Bnd n m) (hF : ∀ d, (F d).size = d.size)
    (hC : ∀ (blk cap : Nat) (d : Array α) (w : World), HoldsK enc k.sz w blk 0 d → blk < w.heap.size → d.size < 4611686018427387904 → Calls P f #[.slice (some ⟨blk, 0, none⟩) d.size cap, .func (.func gf) #[] #[]] w fun e w' => e = .returned (.tuple #[]) ∧ ∃ n os, w' = sortWorldK enc k.sz w blk 0 n (F d) os)
    (hN : ∀ (A : Option Addr) (w : World), Calls P f #[.slice A 0 0, .func (.func gf) #[] #[]] w fun e w' => e = .returned (.tuple #[]) ∧ ∃ n os, w' = grow (Sort.ahead w n) os)
    {i r te : Nat} {l : List α} {s : St} (hte : Nat.blt te HOT = true) (hr : 2 ≤ r) (hev : r % 2 = 0) (hz : 0 < k.sz) (hB : s.boxes[i]? = some ⟨hot te r, flat k l⟩) (hl : l.length < 4611686018427387904) :
    AC P f [hsl i r 0 l.length k.sz, pl (.func (.func gf) #[] #[])] s (pl (.tuple #[])) ⟨s.boxes.set i ⟨hot te r, flat k (F l.toArray).toList⟩, s.fr, s.stat⟩ := by
  intro g w vs hps hs
  obtain ⟨v1, v2, rfl⟩ : ∃ v1 v2, vs = [v1, v2] := by
    match vs, hps with
    | [a, b], _ => exact ⟨a, b, rfl⟩
    | [], h => exact h.elim
    | [_], h => exact h.2.elim
    | _ :: _ :: _ :: _, h => exact h.2.2.elim
  obtain ⟨h1, h2, _⟩ := hps
  rw [show v2 = _ from h2]
  rcases hot_sort henc hkb hte hr hev hz hs hB h1 with ⟨A, rfl, rfl⟩ | ⟨blk, cap, rfl, hlt, hH, hfin⟩
  · refine (hN A w).mono ?_
    rintro e w' ⟨rfl, n, os, rfl⟩
    have h0 : F (#[] : Array α) = #[] := Array.eq_empty_of_size_eq_zero (hF #[])
    refine ⟨_, g, rfl, rfl, ext_grow hs n os, ?_⟩
    have h3 : s.boxes.set i ⟨hot te r, flat k (F ([] : List α).toArray).toList⟩ = s.boxes := by
      rw [show ([] : List α).toArray = #[] from rfl, h0]
      exact set_self hB
    rw [h3]
    exact srel_grow hs n os
  · refine (hC blk cap l.toArray w hH hlt (by simpa using hl)).mono ?_
    rintro e w' ⟨rfl, n, os, rfl⟩
    obtain ⟨x1, x2⟩ := hfin n (F l.toArray) os (by rw [hF]; simp)
    exact ⟨_, g, rfl, rfl, x1, x2⟩
end Go.Proofs.YtokcgacehdgkcaaDoor.Eng

/- The engine: what lies in place, lent to a call that only reads; rows in place, from a place on; parts of elements. -/
namespace Go.Proofs.YtokcgacehdgkcaaDoor.Eng
set_option linter.unusedVariables false
set_option linter.unusedSimpArgs false
open Go.RowKit

/-! ### Lent -/
/-- All that lies there, as it is. -/
def GF (w : World) : G := ⟨fun b => match w.heap[b]? with | some (.cells cs _ _) => cs.size | _ => 0, [], fun _ => none, w.heap.size⟩
def SF : St := ⟨[], [], ⟨fun _ _ _ => True, fun _ _ => trivial⟩⟩
theorem srelF (w : World) : SRel (GF w) SF w :=
  ⟨rfl, fun i j e1 e2 k h1 => by simp [GF] at h1, fun i B hB => by simp [SF] at hB, (fun b id c h => nomatch h), fun b hb => (by
    simp only [GF] at hb
    cases hh : w.heap[b]? with
    | none => rw [hh] at hb; exact absurd rfl hb
    | some o => exact (Array.getElem?_eq_some_iff.1 hh).1), trivial, fun _ _ _ _ _ _ _ _ => trivial, Nat.le_refl _⟩
structure Same (w w' : World) : Prop where
  os : w'.os = w.os
  tape : w'.tape = w.tape
  output : w'.output = w.output
  size : w.heap.size ≤ w'.heap.size
  heap : ∀ b, b < w.heap.size → w'.heap[b]? = w.heap[b]?
theorem same_of_GF {w w' : World} {g' : G} (hx : Ext (GF w) w g' w') : Same w w' :=
  ⟨hx.os, hx.tape, hx.output, hx.size, fun b hb => hx.block b hb hb (fun ⟨i, e, h1, _⟩ => by simp [GF] at h1) rfl⟩
theorem Same.ext {g : G} {s : St} {w w' : World} (h : Same w w') (hs : SRel g s w) : Ext g w g w' :=
  ⟨h.os, h.tape, h.output, h.size, fun _ => Nat.le_refl _, fun b o ho => World.cell?_of_block (w := w) (h.heap b (hs.sl b (by omega))), fun _ e h => ⟨e, h, Nat.le_refl _, fun _ => rfl⟩, fun _ h => .inl h, fun _ _ h => h, fun _ _ h => .inl h, fun b _ hb _ _ => h.heap b hb, rfl, fun b o hb _ _ => (h.heap b (lt_of_some hb)).trans hb⟩
theorem Same.srel {g : G} {s : St} {w w' : World} (h : Same w w') (hs : SRel g s w) : SRel g s w' :=
  have hx := h.ext hs
  ⟨hs.len, hs.nd, fun i B hB => by
    obtain ⟨e, vs, h1, h2, h3, h4, h5⟩ := hs.bx i B hB
    exact ⟨e, vs, h1, h2, h3.to fun k _ hl => h.heap k hl, h4.mono hx, h5⟩, fun b id c ho => by
    obtain ⟨f, cs, h1, h2, h3⟩ := hs.ow b id c ho
    exact ⟨f, cs, h1, (h.heap b (lt_of_some h2)).trans h2, h3⟩, fun b hn => Nat.lt_of_lt_of_le (hs.sl b hn) hx.size, s.stat.mono hx hs.st, hs.sb, Nat.le_trans hs.bz hx.size⟩
/-- It speaks of no ghost. -/
def Pd.Pn (p : Pd) : Prop := ∀ g w g' v, p.h g w v → p.h g' w v
theorem pn_pl (x : Value) : (pl x).Pn := fun _ _ _ _ h => h
def PnL : List Pd → Prop
  | [] => True
  | p :: ps => p.Pn ∧ PnL ps
theorem PnL.pds {g g' : G} {w : World} : ∀ {ps : List Pd} {vs : List Value}, PnL ps → Pds g w ps vs → Pds g' w ps vs
  | [], [], _, _ => trivial
  | _ :: _, _ :: _, h, h2 => ⟨h.1 _ _ _ _ h2.1, PnL.pds h.2 h2.2⟩
  | [], _ :: _, _, h => h.elim
  | _ :: _, [], _, h => h.elim
def FzL : List Pd → Prop
  | [] => True
  | p :: ps => (∀ g s w v, SRel g s w → p.h g w v → p.h (GF w) w v) ∧ FzL ps
theorem FzL.pds {g : G} {s : St} {w : World} (hs : SRel g s w) : ∀ {ps : List Pd} {vs : List Value}, FzL ps → Pds g w ps vs → Pds (GF w) w ps vs
  | [], [], _, _ => trivial
  | _ :: _, _ :: _, h, h2 => ⟨h.1 _ _ _ _ hs h2.1, FzL.pds hs h.2 h2.2⟩
  | [], _ :: _, _, h => h.elim
  | _ :: _, [], _, h => h.elim
theorem FzL.mem : ∀ {ps : List Pd}, FzL ps → ∀ p ∈ ps, ∀ g s w v, SRel g s w → p.h g w v → p.h (GF w) w v
  | [], _ => by simp
  | a :: l, h => fun p hp => by
    rcases List.mem_cons.1 hp with rfl | hp
    · exact h.1
    · exact FzL.mem h.2 p hp
/-- What is known of it stays known of all that lies there. -/
def Pd.Fz (p : Pd) : Prop := ∀ g s w v, SRel g s w → p.h g w v → p.h (GF w) w v
theorem Pd.Pn.fz {p : Pd} (h : p.Pn) : p.Fz := fun _ _ _ _ _ hp => h _ _ _ _ hp
theorem gf_lt {w : World} {b o : Nat} {c : Value} (h : w.cell? ⟨b, o, none⟩ = some c) : o < (GF w).sld b := (cell_at h).2
theorem slc_fz {α : Type} {k : Kn α} {l : List α} {g : G} {s : St} {w : World} {b o : Nat} (hk : ∀ x, ∀ p ∈ k.cs x, p.Fz) (hs : SRel g s w) (h : SlCells k l g w b o) : SlCells k l (GF w) w b o := fun i x hi j p hp => by
  obtain ⟨_, c, h2, h3⟩ := h i x hi j p hp
  exact ⟨gf_lt h2, c, h2, hk x p (List.mem_of_getElem? hp) g s w c hs h3⟩
theorem sl_fz {α : Type} {k : Kn α} {o : Option Nat} {nl : Option Bool} {l : List α} (hk : ∀ x, ∀ p ∈ k.cs x, p.Fz) {g : G} {s : St} {w : World} {v : Value} (hs : SRel g s w) (h : (sl k o nl l).h g w v) : (sl k none nl l).h (GF w) w v := by
  obtain ⟨a, c, hv, h1, h2, h3, h4, _⟩ := h
  refine ⟨a, c, hv, h1, h2, h3, fun hn => ?_, fun _ h => by cases h⟩
  obtain ⟨b, off, ha, hc⟩ := h4 hn
  exact ⟨b, off, ha, slc_fz hk hs hc⟩
theorem fz_sl {α : Type} {k : Kn α} {nl : Option Bool} {l : List α} (hk : ∀ x, ∀ p ∈ k.cs x, p.Fz) : (sl k none nl l).Fz := fun _ _ _ _ hs h => sl_fz hk hs h
def Kn.Fz {α : Type} (k : Kn α) : Prop := ∀ x, ∀ p ∈ k.cs x, p.Fz
theorem fz_I (i : IntKind) : (kI i).Fz := fun x p hp => by simp [kI] at hp; subst hp; exact (pn_pl _).fz
/-- An argument, as it is lent. -/
def Lent (s : St) (p q : Pd) : Prop := ∀ g w v, SRel g s w → p.h g w v → q.h (GF w) w v
def LentL (s : St) : List Pd → List Pd → Prop
  | [], [] => True
  | p :: ps, q :: qs => Lent s p q ∧ LentL s ps qs
  | _, _ => False
theorem LentL.pds {g : G} {s : St} {w : World} (hs : SRel g s w) : ∀ {ps qs : List Pd} {vs : List Value}, LentL s ps qs → Pds g w ps vs → Pds (GF w) w qs vs
  | [], [], [], _, _ => trivial
  | _ :: _, _ :: _, _ :: _, h, h2 => ⟨h.1 _ _ _ hs h2.1, LentL.pds hs h.2 h2.2⟩
  | [], [], _ :: _, _, h => h.elim
  | _ :: _, _ :: _, [], _, h => h.elim
  | [], _ :: _, _, h, _ => h.elim
  | _ :: _, [], _, h, _ => h.elim
theorem lent_fz {s : St} {p : Pd} (h : p.Fz) : Lent s p p := fun g w v hs hp => h g s w v hs hp
theorem lent_sl {s : St} {α : Type} {k : Kn α} {o : Option Nat} {nl : Option Bool} {l : List α} (hk : k.Fz) : Lent s (sl k o nl l) (sl k none none l) := fun g w v hs hp => sl_nl _ _ _ _ _ _ _ (sl_fz hk hs hp)

/-- A slice of a row in place, from a place on; of none nothing is known of where it lies. -/
def hso (b r off n sz : Nat) : Pd := ⟨fun g _ v => ∃ e A c, g.box[b]? = some e ∧ r ≤ e.ver ∧ v = .slice A n c ∧ n ≤ c ∧ (A = none → c = 0) ∧ (e.ver = r → 0 < n → ∃ k, e.blk = some k ∧ A = some ⟨k, off, none⟩ ∧ off + c * sz = e.cnt), by
  rintro g w g' w' v hx ⟨e, A, c, h1, h2, h3, h4, h5, h6⟩
  obtain ⟨e', k1, k2, k3⟩ := hx.box b e h1
  refine ⟨e', A, c, k1, Nat.le_trans h2 k2, h3, h4, h5, fun hv hn => ?_⟩
  have : e.ver = e'.ver := by omega
  have h7 := k3 this
  subst h7
  exact h6 hv hn⟩
theorem hso_bnd {b r off n sz N : Nat} (m : Nat) (h : b < N) : (hso b r off n sz).Bnd N m := fun _ _ _ _ _ hb _ ⟨e, A, c, h1, h2⟩ => ⟨e, A, c, hb b e h h1, h2⟩
theorem hso_of {b r off n sz : Nat} : (hsl b r off n sz).le (hso b r off n sz) := fun g w v ⟨e, A, c, h1, h2, h3, h4, h5, h6⟩ => ⟨e, A, c, h1, h2, h3, h4, h5, fun hv hn => by
  rcases h6 hv with ⟨_, h7⟩ | h7
  · omega
  · exact h7⟩
theorem hso_of0 {b r n sz : Nat} : (hsl b r 0 n sz).le (hso b r (0 * sz) (n - 0) sz) := by
  rw [Nat.zero_mul, Nat.sub_zero]
  exact hso_of
section
variable {P : Program} {e : Env} {s : St} {dst : Option Tmp} {ty : TypeId} {pos : String} {after : Array Edge} {guard : Option (Nat × Bool)} {bs bs' : List Bx} {fs : List Fr} {N : Nat}
theorem lent_hso {α : Type} {k : Kn α} {b r o te n : Nat} {l : List α} (hk : k.Fz) (hte : Nat.blt te HOT = true) (hr : 2 ≤ r) (hB : s.boxes[b]? = some ⟨hot te r, flat k l⟩) (hn : n = l.length) : Lent s (hso b r (o * k.sz) (n - o) k.sz) (sl k none none (l.drop o)) := fun g w v hs h => by
  subst hn
  obtain ⟨e0, A, c, q1, q2, rfl, h4, h5, h6⟩ := h
  obtain ⟨ee', vs, r1, r2, r3, r4, r5, r6⟩ := hs.bx b _ hB
  rw [q1] at r1; cases r1
  refine ⟨A, c, by rw [List.length_drop], by rw [List.length_drop]; exact h4, (fun _ h => by cases h), h5, fun hne => ?_, fun _ h => by cases h⟩
  have hn : 0 < l.length - o := by
    have := List.length_pos_iff.2 hne
    rwa [List.length_drop] at this
  obtain ⟨kk, hk1, rfl, hcnt⟩ := h6 (by rw [r2]; exact hot_ver hte) hn
  unfold Cont at r3
  rw [hk1] at r3
  have hh := r3.1
  rw [hot_obj hte hr] at hh
  refine ⟨kk, o * k.sz, rfl, fun i x hi j p hp => ?_⟩
  have hjs : j < k.sz := by rw [← k.len x]; exact (List.getElem?_eq_some_iff.1 hp).1
  have hf := flat_get k l (o + i) j hjs
  rw [List.getElem?_drop] at hi
  rw [hi, Option.bind_some, hp] at hf
  obtain ⟨cv, hc1, hc2⟩ := r4.get _ _ hf
  have hcell : w.cell? ⟨kk, o * k.sz + i * k.sz + j, none⟩ = some cv := by
    rw [box_cell (g := g) hh]
    rw [← Nat.add_mul]
    simpa using hc1
  exact ⟨gf_lt hcell, cv, hcell, hk x p (List.mem_of_getElem? hp) g s w cv hs hc2⟩
theorem lent_hsl {α : Type} {k : Kn α} {b r te n : Nat} {l : List α} (hk : k.Fz) (hte : Nat.blt te HOT = true) (hr : 2 ≤ r) (hB : s.boxes[b]? = some ⟨hot te r, flat k l⟩) (hn : n = l.length) : Lent s (hsl b r 0 n k.sz) (sl k none none l) := fun g w v hs h => by
  have := lent_hso (o := 0) hk hte hr hB hn g w v hs (hso_of0 g w v h)
  rwa [List.drop_zero] at this
theorem ac_lend {f : FuncId} {ps qs : List Pd} {p : Pd} (hc : AC P f qs SF p SF) (hl : LentL s ps qs) (hp : p.Pn) : AC P f ps s p s := by
  intro g w vs hps hs
  refine (hc (GF w) w vs (hl.pds hs hps) (srelF w)).mono ?_
  rintro e w' ⟨v, g', rfl, hv, hx, _⟩
  have hS := same_of_GF hx
  exact ⟨v, g, rfl, hp _ _ _ _ hv, hS.ext hs, hS.srel hs⟩
theorem opD_lend {f : FuncId} {xs : List Operand} {ats : Array TypeId} {ps qs : List Pd} {p : Pd} (hf : hasText P f = true) (hc : AC P f qs SF p SF) (hp : p.Pn) (hl : LentL s ps qs) (hx : Args e xs ps) :
    OpD P ⟨dst, .call { callee := .value (.func f), args := xs.toArray, argTypes := ats }, ty, pos, after, guard⟩ e s p s := opD_call hf (ac_lend hc hl hp) hx

/-! ### From a place on -/
theorem opD_len_ho {b r off n sz : Nat} {x : Operand} {t te : TypeId} (ht : P.underlying t = some (.slice te)) (hx : (e.ev x).le (hso b r off n sz)) :
    OpD P ⟨dst, .call { callee := .builtin .len, args := #[x], argTypes := #[t] }, ty, pos, after, guard⟩ e s (pl (.int .i64 (n : Nat))) s :=
  opD_look fun g a w ha _ => by
    have h1 := hx _ _ _ (ha x (by simp [Op.operands, Call.operands]))
    obtain ⟨e0, A, c, _, _, hv, _⟩ := h1
    refine ⟨_, ?_, rfl⟩
    rw [exec_builtin, show #[x].map a.eval = #[a.eval x] from by simp, hv]
    show (Sem.bind (Builtin.len_ #[t] ty #[.slice A n c]) fun v => Sem.pure (Next.value v)).run P w = _
    exact run_v (by simp [Builtin.len_, run_underlying ht]; rfl)
theorem opD_indexAddr_ho {b r n sz i o : Nat} {x ix : Operand} {t te : TypeId} {kk : IntKind} {m : Int} (ht : P.underlying t = some (.slice te)) (hsz : sizeT P te = some sz) (hte : Nat.blt te HOT = true) (hB : ∃ cs, s.boxes[b]? = some ⟨hot te r, cs⟩)
    (hx : (e.ev x).le (hso b r (o * sz) n sz)) (hi : e.ev ix = pl (.int kk m)) (hm : m = (i : Int)) (hl : i < n) : OpD P ⟨dst, .indexAddr t x ix, ty, pos, after, guard⟩ e s (ptv b r ((o + i) * sz)) s :=
  opD_look fun g a w ha hs => by
    obtain ⟨cs, hB⟩ := hB
    have h1 := hx _ _ _ (ha x (by simp [Op.operands]))
    have h2 := ha ix (by simp [Op.operands])
    rw [hi] at h2
    obtain ⟨e0, A, c, q1, q2, hv, hnc, hA, hb⟩ := h1
    obtain ⟨ee', vs, r1, r2, _⟩ := hs.bx b _ hB
    rw [q1] at r1; cases r1
    obtain ⟨k, hk, rfl, _⟩ := hb (by rw [r2]; exact hot_ver hte) (by omega)
    have h2' : a.eval ix = .int kk m := h2
    subst hm
    refine ⟨.pointer (some ⟨k, (o + i) * sz, none⟩), ?_, e0, k, q1, q2, rfl, fun _ => hk⟩
    show (Sem.bind (Instr.indexAt t (a.eval x) (a.eval ix)) fun v => Sem.pure (Next.value v)).run P w = _
    rw [hv, h2']
    refine run_v ?_
    have hl' : (i : Int) < (n : Int) := by omega
    simp [Instr.indexAt, asIntOf, run_underlying ht, hl, run_sizeOf hsz, Addr.add_lit, Nat.add_mul]
theorem opD_slice_ho {b r M sz o : Nat} {x lo : Operand} {k1 : IntKind} {t te : TypeId} {m : Int} (i : Nat) (ht : P.underlying t = some (.slice te)) (hsz : sizeT P te = some sz) (hx : (e.ev x).le (hso b r (o * sz) (M - o) sz)) (hlo : e.ev lo = pl (.int k1 m)) (hm : m = (i : Int)) (hin : i ≤ M - o) :
    OpD P ⟨dst, .slice t x (some lo) none none, ty, pos, after, guard⟩ e s (hso b r ((o + i) * sz) (M - (o + i)) sz) s := by
 rw [← Nat.sub_sub]
 revert hin hx
 generalize M - o = n
 intro hx hin
 exact opD_look fun g a w ha hs => by
    subst hm
    have h1 := hx _ _ _ (ha x (by simp [Op.operands]))
    obtain ⟨e0, A, c, q1, q2, hv, hnc, hA, hb⟩ := h1
    have h2 : a.eval lo = .int k1 i := by have := ha lo (by simp [Op.operands]); rw [hlo] at this; exact this
    refine ⟨.slice (if c = i then A else A.map (·.add (i * sz))) (n - i) (c - i), ?_, e0, _, c - i, q1, q2, rfl, by omega, fun h => ?_, fun hvr hpos => ?_⟩
    · show (Sem.bind (Instr.sliceAt t (a.eval x) ((some lo).map a.eval) none none) fun v => Sem.pure (Next.value v)).run P w = _
      rw [hv]
      refine run_v ?_
      exact run_sliceAt_sl ht hsz A (len := n) (c := c) (i := i) (j := n) hin hnc (lo := some (a.eval lo)) (hi := none) (.inr ⟨k1, by rw [h2]⟩) (.inl ⟨rfl, rfl⟩) w
    · split at h
      · omega
      · cases A with
        | none => have := hA rfl; omega
        | some A => cases h
    · obtain ⟨k, hk, rfl, hcnt⟩ := hb hvr (by omega)
      refine ⟨k, hk, ?_, ?_⟩
      · rw [if_neg (by omega)]
        simp [Addr.add_lit, Nat.add_mul]
      · rw [Nat.add_mul, Nat.sub_mul]
        have : i * sz ≤ c * sz := Nat.mul_le_mul_right _ (by omega)
        omega
theorem seal_so {α : Type} {k : Kn α} {l : List α} {b r o n : Nat} (hn : n = l.length) : SealOk k l b r (hso b r (o * k.sz) (n - o) k.sz) (sl k none none (l.drop o)) := by
  subst hn
  rintro g w v ⟨e, h1, h2, h3, h4⟩ ⟨e', A, c, q1, q2, q3, q4, q5, q6⟩
  rw [h1] at q1; cases q1
  refine ⟨A, c, by rw [List.length_drop]; exact q3, by rw [List.length_drop]; exact q4, (fun _ h => by cases h), q5, fun hne => ?_, fun _ h => by cases h⟩
  have hn : 0 < l.length - o := by
    have := List.length_pos_iff.2 hne
    rwa [List.length_drop] at this
  obtain ⟨kk, h5, h6, _⟩ := q6 h2 hn
  refine ⟨kk, o * k.sz, h6, fun i x hi j p hp => ?_⟩
  rw [List.getElem?_drop] at hi
  obtain ⟨a1, cv, a2, a3⟩ := h3 kk h5 (o + i) x hi j p hp
  rw [Nat.zero_add, Nat.add_mul] at a1 a2
  exact ⟨a1, cv, a2, a3⟩

/-! ### Parts of elements -/
end
end Go.Proofs.YtokcgacehdgkcaaDoor.Eng

/- The engine: iterators that hand out a list, and ranges over them. -/
namespace Go.Proofs.YtokcgacehdgkcaaDoor.Eng
set_option linter.unusedVariables false
set_option linter.unusedSimpArgs false
open Go.RowKit

/-- The same; it leaves variables of its own behind. -/
def ItSeqE (P : Program) (f : FuncId) (qc : List Pd) (C : St → Prop) (ys : List (List Pd)) : Prop :=
  ∀ (l : Nat) (rec : Loop) (g0 : G) (w0 : World) (S : Nat → St → Prop) (X : Code → St → Prop) (s : St), (∀ j s1, S j s1 → C s1) → (∀ j s1 B, S j s1 → S j (s1.ext [B] [])) →
    (∀ j qs s1, ys[j]? = some qs → S j s1 → YS P l rec g0 w0 qs (S (j + 1)) X s1) → S 0 s → ItC P f l rec g0 w0 qc s (S ys.length) X
section
variable {P : Program} {nt : Nat} {e : Env} {s : St}
theorem aw_rangeSeqE {gop : Operand} {ps : Array Tmp} {assign body : Code} {Q : Exit → Env → St → Prop} {f : FuncId} {qc : List Pd} {C : St → Prop} {ys : List (List Pd)} (S : Nat → St → Prop) (X : Code → St → Prop)
    (hg : (e.ev gop).le (fncs f qc)) (hf : hasText P f = true) (hps : ps.toList.all (· < nt) = true) (hI : ItSeqE P f qc C ys) (hC : ∀ j s1, S j s1 → C s1) (hE : ∀ j s1 B, S j s1 → S j (s1.ext [B] []))
    (hround : ∀ j qs s1, ys[j]? = some qs → S j s1 → qs.length = ps.size ∧ AW P nt assign (Then (fun e2 s2 => AW P nt body (BQ (S (j + 1)) X) e2 s2) (fun _ _ _ => False)) (e.putL ps.toList qs) s1)
    (h0 : S 0 s) (hT : ∀ s', S ys.length s' → Q .normal e s') (hX : ∀ c s', X c s' → AW P nt c Q e s') : AW P nt (.rangeFunc gop ps assign body) Q e s :=
  aw_rangeFunc (ι := Nat) (Y := fun j s1 qs => ys[j]? = some qs ∧ S j s1) (N := fun j _ _ => S (j + 1)) (X := fun _ _ _ => X) (RT := S ys.length) (RF := X) hg hf hps
    (fun j s1 qs h => hround j qs s1 h.1 h.2) (fun l rec g0 w0 hY => hI l rec g0 w0 S X s hC hE (fun j qs s1 h1 h2 => hY j s1 qs ⟨h1, h2⟩) h0) hT hX

theorem rys {l : Nat} {rec : Loop} {g0 : G} {w0 : World} {ops : Array Oper} {K : Env → St → Prop} {D : Code → Env → St → Prop} {dst : Option Tmp} {op : Op} {ty : TypeId} {pos : String} {after : Array Edge} {guard : Option (Nat × Bool)} {r : List Oper} {s1 : St} (p : Pd)
    (hw : Wants ops ⟨dst, op, ty, pos, after, guard⟩ e true) (ho : OpD P ⟨dst, op, ty, pos, after, guard⟩ e s p s1) (h : RY P ops l rec g0 w0 K D r (e.put dst p) s1) : RY P ops l rec g0 w0 K D (⟨dst, op, ty, pos, after, guard⟩ :: r) e s := .step p hw ho h
/-- A new row in place, of none yet. -/
theorem aw_hotnil {α : Type} (k : Kn α) {c : Code} {Q : Exit → Env → St → Prop} {te r : Nat} (hte : Nat.blt te HOT = true) (x : Tmp) (hx : e.ev (.tmp x) = pl (.slice none 0 0))
    (h : AW P nt c Q (e.put (some x) (hsl s.boxes.length r 0 ([] : List α).length k.sz)) (s.ext [⟨hot te r, flat k []⟩] [])) : AW P nt c Q e s := by
  rw [show s.ext [⟨hot te r, flat k []⟩] [] = ⟨s.boxes ++ [⟨hot te r, flat k []⟩], s.fr, s.stat⟩ by simp [St.ext]] at h
  intro m ro g a w he hs
  obtain ⟨g', h1, h2, h3⟩ := hotnil k (r := r) (te := te) hte hs
  have he2 := he.mono h2
  refine wpIn_mono (h m ro g' a w ⟨he2.size, he2.defers, fun t => ?_⟩ h3) ?_
  · simp only [Env.put]
    by_cases ht : t = x
    · subst ht
      rw [if_pos rfl]
      have := he.tmp t
      rw [show e t = pl (.slice none 0 0) from hx] at this
      exact h1 _ this
    · rw [if_neg ht]; exact he2.tmp t
  · rintro x a2 w2 ⟨e2, s2, g2, q, x2, r2⟩
    exact ⟨e2, s2, g2, q, h2.trans x2, r2⟩
end
end Go.Proofs.YtokcgacehdgkcaaDoor.Eng
