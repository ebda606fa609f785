/- The engine, second part: regions, in order and drawn. -/
import Derived.Test.YtmnhfpcbfdgbcaaDoorEngA
namespace Go.Proofs.YtmnhfpcbfdgbcaaDoor.Eng
set_option linter.unusedVariables false
set_option linter.unusedSimpArgs false
open Go.RowKit

/-- One operation, and what it leaves. -/
def OpD (P : Program) (o : Oper) (e : Env) (s : St) (p : Pd) (s' : St) : Prop :=
  ∀ (g : G) (a : Act) (w : World) (next : Act → World → Prop) (Q : Exit → Act → World → Prop), (∀ x ∈ o.op.operands, (e.ev x).h g w (a.eval x)) → SRel g s w →
    (∀ v g' w', p.h g' w' v → Ext g w g' w' → SRel g' s' w' → next (a.put o.dst v) w') → o.wp P a w next Q

def Wants (ops : Array Oper) (o : Oper) (e : Env) (b : Bool) : Prop :=
  match o.guard with
  | none => b = true
  | some (j, want) => ∃ t, (ops[j]?).bind (·.dst) = some t ∧ ((∃ c, e t = pl (.bool c) ∧ (c == want) = b) ∨ (e t = pl undef ∧ b = false))

theorem getD_bool {tmps : Array Value} {t : Nat} {c : Bool} (h : tmps.getD t undef = .bool c) : tmps[t]? = some (.bool c) := by
  rw [Array.getD_eq_getD_getElem?] at h
  cases hh : tmps[t]? with
  | none => rw [hh] at h; cases h
  | some v => rw [hh] at h; simp at h; rw [h]

theorem Wants.wanted {ops : Array Oper} {o : Oper} {e : Env} {b : Bool} (h : Wants ops o e b) {tmps : Array Value} {g : G} {w : World} (ht : ∀ j want t, o.guard = some (j, want) → (ops[j]?).bind (·.dst) = some t → (e t).h g w (tmps.getD t undef)) :
    Region.wanted o (yielded ops tmps) = b := by
  unfold Wants at h
  unfold Region.wanted
  cases hg : o.guard with
  | none => rw [hg] at h; simp only at h; simp [h]
  | some jw =>
    obtain ⟨j, want⟩ := jw
    rw [hg] at h
    obtain ⟨t, h1, ⟨c, h2, h3⟩ | ⟨h2, h3⟩⟩ := h
    · have h4 := ht j want t hg h1
      rw [h2] at h4
      have h5 : yielded ops tmps j = some c := by
        unfold yielded
        rw [h1]
        simp only [Option.bind_some]
        rw [getD_bool h4]
      simp only [h5]
      rw [← h3]
      cases c <;> cases want <;> rfl
    · have h4 := ht j want t hg h1
      rw [h2] at h4
      have h4' : tmps.getD t undef = undef := h4
      have h5 : yielded ops tmps j = none := by
        unfold yielded
        rw [h1]
        simp only [Option.bind_some]
        rw [Array.getD_eq_getD_getElem?] at h4'
        cases hh : tmps[t]? with
        | none => rfl
        | some v => rw [hh] at h4'; simp at h4'; rw [h4']; rfl
      simp only [h5]
      rw [h3]
      cases want <;> rfl

/-- A run of operations in the order of the text. -/
inductive RT (P : Program) (ops : Array Oper) (K : Env → St → Prop) : List Oper → Env → St → Prop
  | nil {e : Env} {s : St} : K e s → RT P ops K [] e s
  | step {o : Oper} {l : List Oper} {e : Env} {s s1 : St} (p : Pd) : Wants ops o e true → OpD P o e s p s1 → RT P ops K l (e.put o.dst p) s1 → RT P ops K (o :: l) e s
  | skip {o : Oper} {l : List Oper} {e : Env} {s : St} : Wants ops o e false → RT P ops K l (e.put o.dst (pl undef)) s → RT P ops K (o :: l) e s

def dstsOk (nt : Nat) (ops : List Oper) : Bool := ops.all fun o => match o.dst with | none => true | some d => d < nt

theorem dstsOk_at {nt : Nat} {l : List Oper} (h : dstsOk nt l = true) {o : Oper} (ho : o ∈ l) (t : Nat) (ht : o.dst = some t) : t < nt := by
  have := List.all_eq_true.1 h o ho
  rw [ht] at this
  simpa using this

theorem wpList_of_RT {P : Program} {ops : Array Oper} {nt : Nat} {Q : Exit → Env → St → Prop} {g0 : G} {w0 : World} {l : List Oper} {e : Env} {s : St}
    (h : RT P ops (Q .normal) l e s) : dstsOk nt l = true → ∀ g a w, Ext g0 w0 g w → ERel nt e g a w → SRel g s w → wpList P ops (Post nt Q g0 w0) l a w := by
  induction h with
  | nil hk =>
    intro _ g a w hx he hs
    exact wpList_nil ⟨_, _, g, hk, hx, he, hs⟩
  | @step o l e s s1 p hw ho hr ih =>
    intro hd g a w hx he hs
    have hd1 : dstsOk nt l = true := by simp only [dstsOk, List.all_cons, Bool.and_eq_true] at hd; exact hd.2
    refine wpList_step fun K hK => ?_
    rw [hw.wanted (fun j want t _ _ => he.tmp t), if_pos rfl]
    exact ho g a w K _ (fun x _ => he.ev x) hs fun v g' w' hp hx' hs' => hK _ _ (ih hd1 g' _ w' (hx.trans hx') ((he.mono hx').put (fun t ht => dstsOk_at hd (by simp) t ht) hp) hs')
  | @skip o l e s hw hr ih =>
    intro hd g a w hx he hs
    have hd1 : dstsOk nt l = true := by simp only [dstsOk, List.all_cons, Bool.and_eq_true] at hd; exact hd.2
    refine wpList_step fun K hK => ?_
    rw [hw.wanted (fun j want t _ _ => he.tmp t), if_neg (by simp)]
    exact hK _ _ (ih hd1 g _ w hx (he.put (fun t ht => dstsOk_at hd (by simp) t ht) (p := pl undef) rfl) hs)

theorem aw_region {P : Program} {nt id : Nat} {ops : List Oper} {Q : Exit → Env → St → Prop} {e : Env} {s : St} (hd : dstsOk nt ops = true) (h : RT P ops.toArray (Q .normal) ops e s) : AW P nt (.region id ops.toArray false) Q e s :=
  fun g a w he hs => wp_region_lit (wpList_of_RT h hd g a w (Ext.refl g w) he hs)

/-! ### A region whose order is drawn -/
inductive Cl | pure | load | act
  deriving DecidableEq

structure Tr where
  cl : Cl
  p : Pd
  s1 : St
  L : St → Prop

/-- A trace in the order of the text: each operation, of which class, and what it leaves. -/
inductive TR (P : Program) (ops : Array Oper) : List Oper → Env → St → List Tr → Env → St → Prop
  | nil {e : Env} {s : St} : TR P ops [] e s [] e s
  | pure {o : Oper} {l : List Oper} {e e' : Env} {s s' : St} {tr : List Tr} (p : Pd) : Wants ops o e true → (∀ s, OpD P o e s p s) → TR P ops l (e.put o.dst p) s tr e' s' → TR P ops (o :: l) e s (⟨.pure, p, s, fun _ => True⟩ :: tr) e' s'
  | skip {o : Oper} {l : List Oper} {e e' : Env} {s s' : St} {tr : List Tr} : Wants ops o e false → TR P ops l (e.put o.dst (pl undef)) s tr e' s' → TR P ops (o :: l) e s (⟨.pure, pl undef, s, fun _ => True⟩ :: tr) e' s'
  | load {o : Oper} {l : List Oper} {e e' : Env} {s s' : St} {tr : List Tr} (p : Pd) (L : St → Prop) : Wants ops o e true → (∀ s, L s → OpD P o e s p s) → TR P ops l (e.put o.dst p) s tr e' s' → TR P ops (o :: l) e s (⟨.load, p, s, L⟩ :: tr) e' s'
  | act {o : Oper} {l : List Oper} {e e' : Env} {s s1 s' : St} {tr : List Tr} (p : Pd) : Wants ops o e true → OpD P o e s p s1 → TR P ops l (e.put o.dst p) s1 tr e' s' → TR P ops (o :: l) e s (⟨.act, p, s1, fun _ => True⟩ :: tr) e' s'

def isAct (t : Tr) : Bool := t.cl == .act

def envAt : Env → List Oper → List Tr → Nat → Env
  | e, _, _, 0 => e
  | e, o :: l, t :: tr, j + 1 => envAt (e.put o.dst t.p) l tr j
  | e, _, _, _ => e

def stAt : St → List Tr → Nat → St
  | s, _, 0 => s
  | s, t :: tr, k + 1 => if isAct t then stAt t.s1 tr k else stAt s tr (k + 1)
  | s, [], _ => s

def cntAt (tr : List Tr) (j : Nat) : Nat := (tr.take j).countP isAct

def StepOk (P : Program) (ops : Array Oper) (o : Oper) (e : Env) (s s1 : St) (t : Tr) : Prop :=
  match t.cl with
  | .pure => (Wants ops o e true ∧ ∀ s, OpD P o e s t.p s) ∨ (Wants ops o e false ∧ t.p = pl undef)
  | .load => Wants ops o e true ∧ ∀ s, t.L s → OpD P o e s t.p s
  | .act => Wants ops o e true ∧ OpD P o e s t.p s1

theorem TR.spec {P : Program} {ops : Array Oper} {l : List Oper} {e e' : Env} {s s' : St} {tr : List Tr} (h : TR P ops l e s tr e' s') :
    l.length = tr.length ∧ e' = envAt e l tr l.length ∧ s' = stAt s tr (tr.countP isAct) ∧
      ∀ (j : Nat) (o : Oper) (t : Tr), l[j]? = some o → tr[j]? = some t → StepOk P ops o (envAt e l tr j) (stAt s tr (cntAt tr j)) (stAt s tr (cntAt tr j + 1)) t := by
  induction h with
  | nil => exact ⟨rfl, rfl, rfl, fun j o t h => by simp at h⟩
  | @pure o l e e' s s' tr p hw ho hr ih =>
    obtain ⟨h1, h2, h3, h4⟩ := ih
    refine ⟨by simp [h1], by simpa [envAt] using h2, ?_, fun j o' t hj ht => ?_⟩
    · rw [List.countP_cons_of_neg (by simp [isAct]), h3]
      cases tr.countP isAct with
      | zero => simp [stAt]
      | succ k => simp [stAt, isAct]
    · cases j with
      | zero => simp at hj ht; subst hj; subst ht; exact .inl ⟨hw, ho⟩
      | succ j =>
        have h5 := h4 j o' t (by simpa using hj) (by simpa using ht)
        have e1 : ∀ k, stAt s (⟨.pure, p, s, fun _ => True⟩ :: tr) k = stAt s tr k := by
          intro k; cases k with
          | zero => simp [stAt]
          | succ k => simp [stAt, isAct]
        have e2 : cntAt (⟨.pure, p, s, fun _ => True⟩ :: tr) (j + 1) = cntAt tr j := by
          simp [cntAt, isAct]
        rw [e2, e1, e1]; exact h5
  | @skip o l e e' s s' tr hw hr ih =>
    obtain ⟨h1, h2, h3, h4⟩ := ih
    refine ⟨by simp [h1], by simpa [envAt] using h2, ?_, fun j o' t hj ht => ?_⟩
    · rw [List.countP_cons_of_neg (by simp [isAct]), h3]
      cases tr.countP isAct with
      | zero => simp [stAt]
      | succ k => simp [stAt, isAct]
    · cases j with
      | zero => simp at hj ht; subst hj; subst ht; exact .inr ⟨hw, rfl⟩
      | succ j =>
        have h5 := h4 j o' t (by simpa using hj) (by simpa using ht)
        have e1 : ∀ k, stAt s (⟨.pure, pl undef, s, fun _ => True⟩ :: tr) k = stAt s tr k := by
          intro k; cases k with
          | zero => simp [stAt]
          | succ k => simp [stAt, isAct]
        have e2 : cntAt (⟨.pure, pl undef, s, fun _ => True⟩ :: tr) (j + 1) = cntAt tr j := by
          simp [cntAt, isAct]
        rw [e2, e1, e1]; exact h5
  | @load o l e e' s s' tr p L hw ho hr ih =>
    obtain ⟨h1, h2, h3, h4⟩ := ih
    refine ⟨by simp [h1], by simpa [envAt] using h2, ?_, fun j o' t hj ht => ?_⟩
    · rw [List.countP_cons_of_neg (by simp [isAct]), h3]
      cases tr.countP isAct with
      | zero => simp [stAt]
      | succ k => simp [stAt, isAct]
    · cases j with
      | zero => simp at hj ht; subst hj; subst ht; exact ⟨hw, ho⟩
      | succ j =>
        have h5 := h4 j o' t (by simpa using hj) (by simpa using ht)
        have e1 : ∀ k, stAt s (⟨.load, p, s, L⟩ :: tr) k = stAt s tr k := by
          intro k; cases k with
          | zero => simp [stAt]
          | succ k => simp [stAt, isAct]
        have e2 : cntAt (⟨.load, p, s, L⟩ :: tr) (j + 1) = cntAt tr j := by
          simp [cntAt, isAct]
        rw [e2, e1, e1]; exact h5
  | @act o l e e' s s1 s' tr p hw ho hr ih =>
    obtain ⟨h1, h2, h3, h4⟩ := ih
    refine ⟨by simp [h1], by simpa [envAt] using h2, ?_, fun j o' t hj ht => ?_⟩
    · rw [List.countP_cons_of_pos (by simp [isAct]), h3]
      simp [stAt, isAct]
    · cases j with
      | zero =>
        simp at hj ht; subst hj; subst ht
        exact ⟨hw, by simpa [cntAt, stAt, isAct, envAt] using ho⟩
      | succ j =>
        have h5 := h4 j o' t (by simpa using hj) (by simpa using ht)
        have e1 : ∀ k, stAt s (⟨.act, p, s1, fun _ => True⟩ :: tr) (k + 1) = stAt s1 tr k := by
          intro k; simp [stAt, isAct]
        have e2 : cntAt (⟨.act, p, s1, fun _ => True⟩ :: tr) (j + 1) = cntAt tr j + 1 := by
          simp [cntAt, isAct]
        rw [e2, e1, e1]; exact h5

/-! What comes ahead of what. -/
inductive Anc (ops : List Oper) : Nat → Nat → Prop
  | edge {j : Nat} {o : Oper} {ed : Edge} : ops[j]? = some o → ed ∈ o.after → Region.binds .any ed = true → Anc ops ed.on j
  | step {i j : Nat} {o : Oper} {ed : Edge} : ops[j]? = some o → ed ∈ o.after → Region.binds .any ed = true → Anc ops i ed.on → Anc ops i j

def ancRow (acc : List Nat) (o : Oper) : Nat :=
  o.after.toList.foldl (fun s ed => if Region.binds .any ed then s ||| 2 ^ ed.on ||| acc.getD ed.on 0 else s) 0

def ancGo : List Oper → List Nat → List Nat
  | [], acc => acc
  | o :: l, acc => ancGo l (acc ++ [ancRow acc o])

theorem ancRow_spec {ops : List Oper} {acc : List Nat} {j : Nat} {o : Oper} (ho : ops[j]? = some o) (hacc : ∀ k i, (acc.getD k 0).testBit i = true → Anc ops i k) (i : Nat) (h : (ancRow acc o).testBit i = true) : Anc ops i j := by
  have key : ∀ (l : List Edge) (s : Nat), (∀ ed ∈ l, ed ∈ o.after.toList) → (∀ i, s.testBit i = true → Anc ops i j) → ∀ i, (l.foldl (fun s ed => if Region.binds .any ed then s ||| 2 ^ ed.on ||| acc.getD ed.on 0 else s) s).testBit i = true → Anc ops i j := by
    intro l
    induction l with
    | nil => intro s _ hs i hi; exact hs i hi
    | cons ed l ih =>
      intro s hl hs i hi
      simp only [List.foldl_cons] at hi
      refine ih _ (fun x hx => hl x (by simp [hx])) ?_ i hi
      intro i hi
      by_cases hb : Region.binds .any ed = true
      · rw [if_pos hb] at hi
        simp only [Nat.testBit_or, Bool.or_eq_true, Nat.testBit_two_pow, decide_eq_true_eq] at hi
        have hm : ed ∈ o.after := by simpa using hl ed (by simp)
        rcases hi with (hi | hi) | hi
        · exact hs i hi
        · subst hi; exact .edge ho hm hb
        · exact .step ho hm hb (hacc _ _ hi)
      · rw [if_neg hb] at hi; exact hs i hi
  exact key _ 0 (fun _ h => h) (fun i hi => by simp at hi) i h

theorem ancGo_spec {ops : List Oper} : ∀ (l : List Oper) (acc : List Nat) , (∀ m, l[m]? = ops[acc.length + m]?) → (∀ k i, (acc.getD k 0).testBit i = true → Anc ops i k) → ∀ k i, ((ancGo l acc).getD k 0).testBit i = true → Anc ops i k
  | [], acc, _, h => h
  | o :: l, acc, hl, h => by
    refine ancGo_spec l (acc ++ [ancRow acc o]) (fun m => ?_) ?_
    · have := hl (m + 1)
      simp only [List.getElem?_cons_succ] at this
      rw [this]; congr 1; simp; omega
    · intro k i hk
      by_cases hk1 : k < acc.length
      · refine h k i ?_
        rwa [List.getD_eq_getElem?_getD, List.getElem?_append_left hk1, ← List.getD_eq_getElem?_getD] at hk
      · by_cases hk2 : k = acc.length
        · subst hk2
          have h0 := hl 0
          simp only [List.getElem?_cons_zero, Nat.add_zero] at h0
          refine ancRow_spec h0.symm h i ?_
          simpa [List.getD_eq_getElem?_getD] using hk
        · rw [List.getD_eq_getElem?_getD, List.getElem?_eq_none (by simp; omega)] at hk
          simp at hk

def ancT (ops : List Oper) : List Nat := ancGo ops []
theorem ancT_spec {ops : List Oper} {i k : Nat} (h : ((ancT ops).getD k 0).testBit i = true) : Anc ops i k :=
  ancGo_spec ops [] (fun m => by simp) (fun k i h => by simp at h) k i h

/-- Two operations of the region, the former ahead: must they keep this order? -/
def clash (ops : Array Oper) (ai aj : Bool) (x y : Oper) : Bool :=
  (ai && aj) ||
  (match x.dst with
    | some d => (y.looksAt ops).contains d || y.dst == some d
    | none => false) ||
  (match y.dst with
    | some d => (x.looksAt ops).contains d
    | none => false)

def orderOk (ops : List Oper) (acts : List Bool) : Bool :=
  let t := ancT ops
  (List.range ops.length).all fun j => (List.range j).all fun i =>
    !clash ops.toArray (acts.getD i false) (acts.getD j false) (ops.getD i default) (ops.getD j default) || (t.getD j 0).testBit i

def lo (ops : List Oper) (acts : List Bool) (i : Nat) : Nat := (List.range ops.length).countP fun j => acts.getD j false && ((ancT ops).getD i 0).testBit j
def hi (ops : List Oper) (acts : List Bool) (i : Nat) : Nat := (List.range ops.length).countP fun j => acts.getD j false && !((ancT ops).getD j 0).testBit i

end Go.Proofs.YtmnhfpcbfdgbcaaDoor.Eng
