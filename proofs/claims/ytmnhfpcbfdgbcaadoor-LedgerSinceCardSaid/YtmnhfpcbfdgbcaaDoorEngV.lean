/- The engine: the rules for such a region. -/
import Derived.Test.YtmnhfpcbfdgbcaaDoorEngU
namespace Go.Proofs.YtmnhfpcbfdgbcaaDoor.Eng
set_option linter.unusedVariables false
set_option linter.unusedSimpArgs false
open Go.RowKit

section
variable {P : Program} {ops : List Oper} {nt : Nat} {e e' : Env} {s s' z : St} {tr tr2 : List Tr} {a : Nat} {Q : Exit → Env → St → Prop}
theorem aw_region_drawn2 {id : Nat} (hm : P.follows .mixedOrders = true) (hd : dstsOk nt ops = true) (hb : edgesBack ops = true) (hsel : Region.noSelect ops.toArray = true) (hchk : orderOk ops (tr.map isAct) = true)
    (hlen : ops.length = tr.length) (hlen2 : tr2.length = tr.length) (he' : e' = envAt e ops tr ops.length) (hs' : s' = stAt z tr2 (tr.countP isAct)) (hsame : tr2.map isAct = tr.map isAct) (haL : a < ops.length) (hna : (tr.map isAct).getD a false = false)
    (hstep : ∀ (j : Nat) (o : Oper) (t : Tr), ops[j]? = some o → tr[j]? = some t → if j = a then FltOk P ops s z tr tr2 o t.p a else StepOk2 P ops.toArray (n0 ops a j) (n1 ops a j) o (envAt e ops tr j) (stAt s tr (cntAt tr j)) (stAt s tr (cntAt tr j + 1)) (stAt z tr2 (cntAt tr j)) (stAt z tr2 (cntAt tr j + 1)) t)
    (hL : ∀ (i : Nat) (t : Tr), tr[i]? = some t → t.cl = .load → ∀ k, lo ops (tr.map isAct) i ≤ k → k ≤ hi ops (tr.map isAct) i → t.L (stAt s tr k) ∧ t.L (stAt z tr2 k)) (hQ : Q .normal e' s') :
    AW P nt (.region id ops.toArray true) Q e s := by
  intro g ac w he hs
  refine wp_region_any hm ?_
  have h0 : ((List.range ops.length).countP fun j => (tr.map isAct).getD j false && (Array.replicate ops.toArray.size false).getD j false) = 0 := by
    rw [List.countP_eq_zero]
    intro j hj
    rw [getD_rep]; simp
  have J : JJ2 ops nt e s z tr tr2 a g w (Array.replicate ops.toArray.size false) g ac { w with drawn := w.drawn + 1 } := by
    refine ⟨Ext.drew g w, ?_, he.size, he.defers, fun t => ?_, by simp, ?_⟩
    · rw [getD_rep, if_neg (by simp), h0]
      have : stAt s tr 0 = s := by cases tr <;> rfl
      rw [this]; exact hs.drew
    · rw [last_agree (h := fun j => decide (j < 0)) ops.length (fun i hi _ => by rw [getD_rep]; simp), last_below 0 _ (by omega)]
      exact (e t).mono (Ext.drew g w) (he.tmp t)
    · intro j o ed _ hl
      rw [getD_rep] at hl; cases hl
  refine drawn_any2 hd hb hsel hchk hlen hlen2 he' hs' hsame haL hna hstep hL hQ ops.toArray.size _ g ac _ J ?_
  have := List.countP_le_length (p := fun j => !(Array.replicate ops.toArray.size false).getD j false) (l := List.range ops.length)
  simpa using this
end

theorem stAt_skip {s : St} {t : Tr} {tr : List Tr} (h : isAct t = false) (k : Nat) : stAt s (t :: tr) k = stAt s tr k := by
  cases k with
  | zero => cases tr <;> rfl
  | succ k => simp [stAt, h]
theorem stAt_act {s : St} {t : Tr} {tr : List Tr} (h : isAct t = true) (k : Nat) : stAt s (t :: tr) (k + 1) = stAt t.s1 tr k := by simp [stAt, h]
theorem cnt_skip {t : Tr} {tr : List Tr} (h : isAct t = false) (j : Nat) : cntAt (t :: tr) (j + 1) = cntAt tr j := by simp [cntAt, h]
theorem cnt_act {t : Tr} {tr : List Tr} (h : isAct t = true) (j : Nat) : cntAt (t :: tr) (j + 1) = cntAt tr j + 1 := by simp [cntAt, h]
theorem stAt_zero {s : St} {tr : List Tr} : stAt s tr 0 = s := by cases tr <;> rfl

inductive DT2 (P : Program) (ops : Array Oper) (bs : List (Bool × Bool)) (a : Nat) (K : List Tr → List Tr → Env → St → St → Prop) : Nat → List Oper → Env → St → St → List Tr → List Tr → Prop
  | nil {i : Nat} {e : Env} {s z : St} {acc acc2 : List Tr} : K acc acc2 e s z → DT2 P ops bs a K i [] e s z acc acc2
  | pure {i : Nat} {o : Oper} {l : List Oper} {e : Env} {s z : St} {acc acc2 : List Tr} (p : Pd) : i ≠ a → Wants ops o e true → (∀ s, OpD P o e s p s) → DT2 P ops bs a K (i + 1) l (e.put o.dst p) s z (acc ++ [⟨.pure, p, s, fun _ => True⟩]) (acc2 ++ [⟨.pure, p, z, fun _ => True⟩]) → DT2 P ops bs a K i (o :: l) e s z acc acc2
  | skip {i : Nat} {o : Oper} {l : List Oper} {e : Env} {s z : St} {acc acc2 : List Tr} : i ≠ a → Wants ops o e false → DT2 P ops bs a K (i + 1) l (e.put o.dst (pl undef)) s z (acc ++ [⟨.pure, pl undef, s, fun _ => True⟩]) (acc2 ++ [⟨.pure, pl undef, z, fun _ => True⟩]) → DT2 P ops bs a K i (o :: l) e s z acc acc2
  | load {i : Nat} {o : Oper} {l : List Oper} {e : Env} {s z : St} {acc acc2 : List Tr} (p : Pd) (L : St → Prop) : i ≠ a → Wants ops o e true → (∀ s, L s → OpD P o e s p s) → DT2 P ops bs a K (i + 1) l (e.put o.dst p) s z (acc ++ [⟨.load, p, s, L⟩]) (acc2 ++ [⟨.load, p, z, L⟩]) → DT2 P ops bs a K i (o :: l) e s z acc acc2
  | act {i : Nat} {o : Oper} {l : List Oper} {e : Env} {s z s1 z1 : St} {acc acc2 : List Tr} (p : Pd) (b0 b1 : Bool) : i ≠ a → bs[i]? = some (b0, b1) → Wants ops o e true → (b0 = true → OpD P o e s p s1) → (b1 = true → OpD P o e z p z1) → DT2 P ops bs a K (i + 1) l (e.put o.dst p) s1 z1 (acc ++ [⟨.act, p, s1, fun _ => True⟩]) (acc2 ++ [⟨.act, p, z1, fun _ => True⟩]) → DT2 P ops bs a K i (o :: l) e s z acc acc2
  | flt {i : Nat} {o : Oper} {l : List Oper} {e : Env} {s z : St} {acc acc2 : List Tr} (p : Pd) : i = a → o.guard = none → DT2 P ops bs a K (i + 1) l (e.put o.dst p) s z (acc ++ [⟨.pure, p, s, fun _ => True⟩]) (acc2 ++ [⟨.pure, p, z, fun _ => True⟩]) → DT2 P ops bs a K i (o :: l) e s z acc acc2

def Spec2 (P : Program) (ops : Array Oper) (bs : List (Bool × Bool)) (a i : Nat) (l : List Oper) (e : Env) (s z : St) (tr tr2 : List Tr) : Prop :=
  ∀ (j : Nat) (o : Oper) (t : Tr), l[j]? = some o → tr[j]? = some t → (i + j = a → o.guard = none ∧ isAct t = false) ∧ (i + j ≠ a → ∀ b0 b1, bs[i + j]? = some (b0, b1) → StepOk2 P ops b0 b1 o (envAt e l tr j) (stAt s tr (cntAt tr j)) (stAt s tr (cntAt tr j + 1)) (stAt z tr2 (cntAt tr j)) (stAt z tr2 (cntAt tr j + 1)) t)

theorem spec2_skip {P : Program} {ops : Array Oper} {bs : List (Bool × Bool)} {a i : Nat} {o : Oper} {l : List Oper} {e : Env} {s z : St} {t t2 : Tr} {tr tr2 : List Tr} (ht : isAct t = false) (ht2 : isAct t2 = false) (h0 : (i = a → o.guard = none ∧ isAct t = false) ∧ (i ≠ a → ∀ b0 b1, StepOk2 P ops b0 b1 o e s s z z t)) (hc : t.cl ≠ .act)
    (h : Spec2 P ops bs a (i + 1) l (e.put o.dst t.p) s z tr tr2) : Spec2 P ops bs a i (o :: l) e s z (t :: tr) (t2 :: tr2) := by
  intro j o' t' hj htj
  cases j with
  | zero =>
    simp at hj htj; subst hj; subst htj
    refine ⟨fun hi => h0.1 (by omega), fun hi b0 b1 _ => ?_⟩
    have := h0.2 (by omega) b0 b1
    unfold StepOk2 at this ⊢
    cases hcl : t.cl with
    | pure => rw [hcl] at this; exact this
    | load => rw [hcl] at this; exact this
    | act => exact absurd hcl hc
  | succ j =>
    have h5 := h j o' t' (by simpa using hj) (by simpa using htj)
    rw [cnt_skip ht, stAt_skip ht, stAt_skip ht, stAt_skip ht2, stAt_skip ht2]
    rw [show i + 1 + j = i + (j + 1) by omega] at h5
    exact h5

theorem DT2.spec {P : Program} {ops : Array Oper} {bs : List (Bool × Bool)} {a : Nat} {K : List Tr → List Tr → Env → St → St → Prop} {i : Nat} {l : List Oper} {e : Env} {s z : St} {acc acc2 : List Tr} (h : DT2 P ops bs a K i l e s z acc acc2) :
    ∃ tr tr2 e' s' z', K (acc ++ tr) (acc2 ++ tr2) e' s' z' ∧ l.length = tr.length ∧ tr2.length = tr.length ∧ tr2.map isAct = tr.map isAct ∧ e' = envAt e l tr l.length ∧ z' = stAt z tr2 (tr.countP isAct) ∧ Spec2 P ops bs a i l e s z tr tr2 := by
  induction h with
  | @nil i e s z acc acc2 hk => exact ⟨[], [], e, s, z, by simpa using hk, rfl, rfl, rfl, rfl, by simp [stAt_zero], fun j o t hj => by simp at hj⟩
  | @pure i o l e s z acc acc2 p hia hw ho _ ih =>
    obtain ⟨tr, tr2, e', s', z', h1, h2, h3, h4, h5, h6, h7⟩ := ih
    refine ⟨⟨.pure, p, s, fun _ => True⟩ :: tr, ⟨.pure, p, z, fun _ => True⟩ :: tr2, e', s', z', by simpa using h1, by simp [h2], by simp [h3], by simp only [List.map_cons, h4]; rfl, by simpa [envAt] using h5, ?_, spec2_skip rfl rfl ⟨fun h => absurd h hia, fun _ b0 b1 => .inl ⟨hw, ho⟩⟩ (by simp) h7⟩
    rw [stAt_skip rfl, List.countP_cons_of_neg (by simp [isAct])]; exact h6
  | @skip i o l e s z acc acc2 hia hw _ ih =>
    obtain ⟨tr, tr2, e', s', z', h1, h2, h3, h4, h5, h6, h7⟩ := ih
    refine ⟨⟨.pure, pl undef, s, fun _ => True⟩ :: tr, ⟨.pure, pl undef, z, fun _ => True⟩ :: tr2, e', s', z', by simpa using h1, by simp [h2], by simp [h3], by simp only [List.map_cons, h4]; rfl, by simpa [envAt] using h5, ?_, spec2_skip rfl rfl ⟨fun h => absurd h hia, fun _ b0 b1 => .inr ⟨hw, rfl⟩⟩ (by simp) h7⟩
    rw [stAt_skip rfl, List.countP_cons_of_neg (by simp [isAct])]; exact h6
  | @load i o l e s z acc acc2 p L hia hw ho _ ih =>
    obtain ⟨tr, tr2, e', s', z', h1, h2, h3, h4, h5, h6, h7⟩ := ih
    refine ⟨⟨.load, p, s, L⟩ :: tr, ⟨.load, p, z, L⟩ :: tr2, e', s', z', by simpa using h1, by simp [h2], by simp [h3], by simp only [List.map_cons, h4]; rfl, by simpa [envAt] using h5, ?_, spec2_skip rfl rfl ⟨fun h => absurd h hia, fun _ b0 b1 => ⟨hw, ho⟩⟩ (by simp) h7⟩
    rw [stAt_skip rfl, List.countP_cons_of_neg (by simp [isAct])]; exact h6
  | @flt i o l e s z acc acc2 p hia hg _ ih =>
    obtain ⟨tr, tr2, e', s', z', h1, h2, h3, h4, h5, h6, h7⟩ := ih
    refine ⟨⟨.pure, p, s, fun _ => True⟩ :: tr, ⟨.pure, p, z, fun _ => True⟩ :: tr2, e', s', z', by simpa using h1, by simp [h2], by simp [h3], by simp only [List.map_cons, h4]; rfl, by simpa [envAt] using h5, ?_, spec2_skip rfl rfl ⟨fun _ => ⟨hg, rfl⟩, fun h => absurd hia h⟩ (by simp) h7⟩
    rw [stAt_skip rfl, List.countP_cons_of_neg (by simp [isAct])]; exact h6
  | @act i o l e s z s1 z1 acc acc2 p b0 b1 hia hbs hw ho0 ho1 _ ih =>
    obtain ⟨tr, tr2, e', s', z', h1, h2, h3, h4, h5, h6, h7⟩ := ih
    refine ⟨⟨.act, p, s1, fun _ => True⟩ :: tr, ⟨.act, p, z1, fun _ => True⟩ :: tr2, e', s', z', by simpa using h1, by simp [h2], by simp [h3], by simp only [List.map_cons, h4]; rfl, by simpa [envAt] using h5, ?_, fun j o' t' hj htj => ?_⟩
    · rw [List.countP_cons_of_pos (by simp [isAct]), stAt_act rfl]; exact h6
    · cases j with
      | zero =>
        simp at hj htj; subst hj; subst htj
        refine ⟨fun hi => absurd (by omega) hia, fun hi c0 c1 hc => ?_⟩
        rw [Nat.add_zero, hbs] at hc; cases hc
        refine ⟨hw, fun hb => ?_, fun hb => ?_⟩
        · simpa [cntAt, stAt, isAct, envAt, stAt_zero] using ho0 hb
        · simpa [cntAt, stAt, isAct, envAt, stAt_zero] using ho1 hb
      | succ j =>
        have h8 := h7 j o' t' (by simpa using hj) (by simpa using htj)
        rw [cnt_act rfl, stAt_act rfl, stAt_act rfl, stAt_act rfl, stAt_act rfl]
        rw [show i + 1 + j = i + (j + 1) by omega] at h8
        exact h8

def AllF (P : Program) (o : Oper) (p : Pd) (s : St) (tr : List Tr) (z : St) (tr2 : List Tr) : List Nat → Prop
  | [] => True
  | k :: ks => (∀ e, OpD P o e (stAt s tr k) p (stAt z tr2 k)) ∧ AllF P o p s tr z tr2 ks
theorem AllF.at {P : Program} {o : Oper} {p : Pd} {s z : St} {tr tr2 : List Tr} : ∀ {ks : List Nat}, AllF P o p s tr z tr2 ks → ∀ k ∈ ks, ∀ e, OpD P o e (stAt s tr k) p (stAt z tr2 k)
  | [], _, _, h => by cases h
  | _ :: _, ⟨h1, h2⟩, k, h => by
    rcases List.mem_cons.1 h with rfl | h
    · exact h1
    · exact AllF.at h2 k h

def pairs2 (ops : List Oper) (a : Nat) : List (Bool × Bool) := (List.range ops.length).map fun i => (n0 ops a i, n1 ops a i)
def DOk2 (nt : Nat) (ops : List Oper) (acts : List Bool) (ws : List (List Nat)) (bs : List (Bool × Bool)) (a : Nat) (wa : List Nat) : Bool :=
  DOk nt ops acts ws && decide (pairs2 ops a = bs) && decide (a < ops.length) && decide (ws[a]? = some wa)

theorem aw_drawn2 {P : Program} {nt id : Nat} {ops : List Oper} {Q : Exit → Env → St → Prop} {e : Env} {s z : St} (acts : List Bool) (ws : List (List Nat)) (bs : List (Bool × Bool)) (a : Nat) (wa : List Nat) (pa : Pd) (oa : Oper) (hoa : ops[a]? = some oa) (hm : P.follows .mixedOrders = true) (hd : DOk2 nt ops acts ws bs a wa = true)
    (h : DT2 P ops.toArray bs a (fun tr tr2 e' s' z' => tr.map isAct = acts ∧ LoadsOk s tr tr ws ∧ LoadsOk z tr2 tr ws ∧ (tr[a]?.map (·.p) = some pa ∧ AllF P oa pa s tr z tr2 wa) ∧ Q .normal e' z') 0 ops e s z [] []) : AW P nt (.region id ops.toArray true) Q e s := by
  obtain ⟨tr, tr2, e', s', z', hk, h2, h3, h4, h5, h6, h7⟩ := h.spec
  rw [List.nil_append, List.nil_append] at hk
  obtain ⟨hacts, hl, hl2, ⟨hpa, hf⟩, hq⟩ := hk
  simp only [DOk2, Bool.and_eq_true, decide_eq_true_eq] at hd
  obtain ⟨⟨⟨hd, hbs⟩, haL⟩, hwa⟩ := hd
  simp only [DOk, Bool.and_eq_true, decide_eq_true_eq] at hd
  obtain ⟨⟨⟨⟨d1, d2⟩, d3⟩, d4⟩, d5⟩ := hd
  have hwin : ∀ (i : Nat) (w : List Nat), i < ops.length → ws[i]? = some w → ∀ k, lo ops (tr.map isAct) i ≤ k → k ≤ hi ops (tr.map isAct) i → k ∈ w := fun i w hi hw k hlo hhi => by
    rw [← d5, wins, List.getElem?_map, List.getElem?_range hi] at hw
    simp only [Option.map_some, Option.some.injEq] at hw
    rw [← hw, List.mem_range'_1]
    rw [hacts] at hlo hhi
    omega
  have hta : ∃ ta, tr[a]? = some ta := ⟨tr[a]'(by omega), List.getElem?_eq_getElem (by omega)⟩
  obtain ⟨ta, hta⟩ := hta
  have hsa := h7 a oa ta hoa hta
  rw [Nat.zero_add] at hsa
  have hga := hsa.1 rfl
  rw [hta] at hpa
  simp only [Option.map_some, Option.some.injEq] at hpa
  refine aw_region_drawn2 (z := z) (tr := tr) (tr2 := tr2) (a := a) hm d1 d2 d3 (by rw [hacts]; exact d4) h2 h3 h5 h6 h4 haL ?_ (fun j o t ho ht => ?_) (fun i t ht hc k hlo hhi => ?_) hq
  · rw [List.getD_eq_getElem?_getD, List.getElem?_map, hta]; exact hga.2
  · by_cases hja : j = a
    · rw [if_pos hja]
      subst hja
      rw [hoa] at ho; cases ho
      rw [hta] at ht; cases ht
      refine ⟨hga.1, fun k hlo hhi e => ?_⟩
      rw [hpa]
      exact hf.at k (hwin _ _ haL hwa k hlo hhi) e
    · rw [if_neg hja]
      have h8 := (h7 j o t ho ht).2 (by rw [Nat.zero_add]; exact hja)
      rw [Nat.zero_add] at h8
      refine h8 _ _ ?_
      have hj : j < ops.length := (List.getElem?_eq_some_iff.1 ho).1
      rw [← hbs, pairs2, List.getElem?_map, List.getElem?_range hj]
      rfl
  · have hi : i < ops.length := by
      have := (List.getElem?_eq_some_iff.1 ht).1
      omega
    obtain ⟨w, hw, ha⟩ := hl.at i t ht hc
    obtain ⟨w2, hw2, ha2⟩ := hl2.at i t ht hc
    rw [hw] at hw2; cases hw2
    exact ⟨ha.at k (hwin i w hi hw k hlo hhi), ha2.at k (hwin i w hi hw k hlo hhi)⟩

theorem aw_drawn2X {P : Program} {nt id : Nat} {ops : List Oper} {Q : Exit → Env → St → Prop} {e : Env} {s : St} {bs bs' : List Bx} {fs : List Fr} (Z : Bx) (acts : List Bool) (ws : List (List Nat)) (bs2 : List (Bool × Bool)) (a : Nat) (wa : List Nat) (pa : Pd) (oa : Oper) (hoa : ops[a]? = some oa) (hm : P.follows .mixedOrders = true) (hd : DOk2 nt ops acts ws bs2 a wa = true) (hz : bs ++ [Z] = bs')
    (h : DT2 P ops.toArray bs2 a (fun tr tr2 e' s' z' => tr.map isAct = acts ∧ LoadsOk (s.ext bs fs) tr tr ws ∧ LoadsOk (s.ext bs' fs) tr2 tr ws ∧ (tr[a]?.map (·.p) = some pa ∧ AllF P oa pa (s.ext bs fs) tr (s.ext bs' fs) tr2 wa) ∧ Q .normal e' z') 0 ops e (s.ext bs fs) (s.ext bs' fs) [] []) : AW P nt (.region id ops.toArray true) Q e (s.ext bs fs) :=
  aw_drawn2 acts ws bs2 a wa pa oa hoa hm hd h
section
variable {P : Program} {ops : Array Oper} {bs2 : List (Bool × Bool)} {a i : Nat} {K : List Tr → List Tr → Env → St → St → Prop} {l : List Oper} {e : Env} {s s1 z z1 : St} {acc acc2 : List Tr} {dst : Option Tmp} {op : Op} {ty : TypeId} {pos : String} {after : Array Edge} {guard : Option (Nat × Bool)}
theorem d2p (p : Pd) (hi : Nat.beq i a = false) (hw : Wants ops ⟨dst, op, ty, pos, after, guard⟩ e true) (ho : ∀ s, OpD P ⟨dst, op, ty, pos, after, guard⟩ e s p s) (h : DT2 P ops bs2 a K (i + 1) l (e.put dst p) s z (acc ++ [⟨.pure, p, s, fun _ => True⟩]) (acc2 ++ [⟨.pure, p, z, fun _ => True⟩])) : DT2 P ops bs2 a K i (⟨dst, op, ty, pos, after, guard⟩ :: l) e s z acc acc2 := .pure p (Nat.ne_of_beq_eq_false hi) hw ho h
theorem d2l (p : Pd) (L : St → Prop) (hi : Nat.beq i a = false) (hw : Wants ops ⟨dst, op, ty, pos, after, guard⟩ e true) (ho : ∀ s, L s → OpD P ⟨dst, op, ty, pos, after, guard⟩ e s p s) (h : DT2 P ops bs2 a K (i + 1) l (e.put dst p) s z (acc ++ [⟨.load, p, s, L⟩]) (acc2 ++ [⟨.load, p, z, L⟩])) : DT2 P ops bs2 a K i (⟨dst, op, ty, pos, after, guard⟩ :: l) e s z acc acc2 := .load p L (Nat.ne_of_beq_eq_false hi) hw ho h
theorem d2b (p : Pd) (hi : Nat.beq i a = false) (hb : bs2[i]? = some (true, true)) (hw : Wants ops ⟨dst, op, ty, pos, after, guard⟩ e true) (h0 : OpD P ⟨dst, op, ty, pos, after, guard⟩ e s p s1) (h1 : OpD P ⟨dst, op, ty, pos, after, guard⟩ e z p z1) (h : DT2 P ops bs2 a K (i + 1) l (e.put dst p) s1 z1 (acc ++ [⟨.act, p, s1, fun _ => True⟩]) (acc2 ++ [⟨.act, p, z1, fun _ => True⟩])) : DT2 P ops bs2 a K i (⟨dst, op, ty, pos, after, guard⟩ :: l) e s z acc acc2 := .act p true true (Nat.ne_of_beq_eq_false hi) hb hw (fun _ => h0) (fun _ => h1) h
theorem d2x (p : Pd) (hi : Nat.beq i a = false) (hb : bs2[i]? = some (true, false)) (hw : Wants ops ⟨dst, op, ty, pos, after, guard⟩ e true) (h0 : OpD P ⟨dst, op, ty, pos, after, guard⟩ e s p s1) (h : DT2 P ops bs2 a K (i + 1) l (e.put dst p) s1 z (acc ++ [⟨.act, p, s1, fun _ => True⟩]) (acc2 ++ [⟨.act, p, z, fun _ => True⟩])) : DT2 P ops bs2 a K i (⟨dst, op, ty, pos, after, guard⟩ :: l) e s z acc acc2 := .act p true false (Nat.ne_of_beq_eq_false hi) hb hw (fun _ => h0) (fun h => nomatch h) h
theorem d2y (p : Pd) (hi : Nat.beq i a = false) (hb : bs2[i]? = some (false, true)) (hw : Wants ops ⟨dst, op, ty, pos, after, guard⟩ e true) (h1 : OpD P ⟨dst, op, ty, pos, after, guard⟩ e z p z1) (h : DT2 P ops bs2 a K (i + 1) l (e.put dst p) s z1 (acc ++ [⟨.act, p, s, fun _ => True⟩]) (acc2 ++ [⟨.act, p, z1, fun _ => True⟩])) : DT2 P ops bs2 a K i (⟨dst, op, ty, pos, after, guard⟩ :: l) e s z acc acc2 := .act p false true (Nat.ne_of_beq_eq_false hi) hb hw (fun h => nomatch h) (fun _ => h1) h
theorem d2f (p : Pd) (hi : i = a) (h : DT2 P ops bs2 a K (i + 1) l (e.put dst p) s z (acc ++ [⟨.pure, p, s, fun _ => True⟩]) (acc2 ++ [⟨.pure, p, z, fun _ => True⟩])) : DT2 P ops bs2 a K i (⟨dst, op, ty, pos, after, none⟩ :: l) e s z acc acc2 := .flt p hi rfl h
end
section
variable {P : Program} {ops : Array Oper} {bs2 : List (Bool × Bool)} {a i : Nat} {K : List Tr → List Tr → Env → St → St → Prop} {l : List Oper} {e : Env} {s z : St} {acc acc2 : List Tr} {dst : Option Tmp} {op : Op} {ty : TypeId} {pos : String} {after : Array Edge}
theorem d2g (p : Pd) {j t : Nat} {want b : Bool} (hi : Nat.beq i a = false) (ht : (ops[j]?).bind (·.dst) = some t) (he : Env.ev e (.tmp t) = pl (.bool b)) (ho : (b == want) = true → ∀ s, OpD P ⟨dst, op, ty, pos, after, some (j, want)⟩ e s p s) (h : DT2 P ops bs2 a K (i + 1) l (e.put dst (pif (b == want) p)) s z (acc ++ [⟨.pure, pif (b == want) p, s, fun _ => True⟩]) (acc2 ++ [⟨.pure, pif (b == want) p, z, fun _ => True⟩])) : DT2 P ops bs2 a K i (⟨dst, op, ty, pos, after, some (j, want)⟩ :: l) e s z acc acc2 := by
  cases hb : (b == want) with
  | true => rw [pif_pos hb] at h; exact .pure p (Nat.ne_of_beq_eq_false hi) ⟨t, ht, .inl ⟨b, he, hb⟩⟩ (ho hb) h
  | false => rw [pif_neg hb] at h; exact .skip (Nat.ne_of_beq_eq_false hi) ⟨t, ht, .inl ⟨b, he, hb⟩⟩ h
theorem d2l1 {t : TypeId} {x : Operand} {m off : Nat} {B : Bx} {p : Pd} (hi : Nat.beq i a = false) (ht : aggT P t = some false) (hx : e.ev x = ptr m off) (hB : z.boxes[m]? = some B) (hp : B.cs[off]? = some p) (hw : Wants ops ⟨dst, .load t x, ty, pos, after, none⟩ e true)
    (h : DT2 P ops bs2 a K (i + 1) l (e.put dst p) s z (acc ++ [⟨.load, p, s, fun s' => s'.boxes[m]? = some B⟩]) (acc2 ++ [⟨.load, p, z, fun s' => s'.boxes[m]? = some B⟩])) : DT2 P ops bs2 a K i (⟨dst, .load t x, ty, pos, after, none⟩ :: l) e s z acc acc2 :=
  d2l p _ hi hw (fun s' hB => opD_load_one ht hx hB hp) h
theorem d2lA {t : TypeId} {x : Operand} {m off n : Nat} {B : Bx} {qs : List Pd} (hi : Nat.beq i a = false) (ht : aggT P t = some true) (hn : sizeT P t = some n) (hx : e.ev x = ptr m off) (hB : z.boxes[m]? = some B) (hl : off + n ≤ B.cs.length) (hq : (B.cs.drop off).take n = qs) (hw : Wants ops ⟨dst, .load t x, ty, pos, after, none⟩ e true)
    (h : DT2 P ops bs2 a K (i + 1) l (e.put dst (agg qs)) s z (acc ++ [⟨.load, agg qs, s, fun s' => s'.boxes[m]? = some B⟩]) (acc2 ++ [⟨.load, agg qs, z, fun s' => s'.boxes[m]? = some B⟩])) : DT2 P ops bs2 a K i (⟨dst, .load t x, ty, pos, after, none⟩ :: l) e s z acc acc2 :=
  d2l (agg qs) _ hi hw (fun s' hB => opD_load_aggX ht hn hx hB hl hq) h
end
end Go.Proofs.YtmnhfpcbfdgbcaaDoor.Eng
