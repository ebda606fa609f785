/- The engine, third part: a region whose order is drawn comes to what the order of the text comes to. -/
import Derived.Test.YtmnhfpcbfdgbcaaDoorEngB
namespace Go.Proofs.YtmnhfpcbfdgbcaaDoor.Eng
set_option linter.unusedVariables false
set_option linter.unusedSimpArgs false
open Go.RowKit

def last (e : Env) (ops : List Oper) (tr : List Tr) (f : Nat → Bool) (t : Tmp) : Nat → Pd
  | 0 => e t
  | m + 1 => if f m = true ∧ (ops[m]?).bind (·.dst) = some t then (match tr[m]? with | some x => x.p | none => any) else last e ops tr f t m

theorem last_agree {e : Env} {ops : List Oper} {tr : List Tr} {f h : Nat → Bool} {t : Tmp} : ∀ (m : Nat), (∀ i, i < m → (ops[i]?).bind (·.dst) = some t → f i = h i) → last e ops tr f t m = last e ops tr h t m
  | 0, _ => rfl
  | m + 1, ha => by
    simp only [last]
    rw [last_agree m fun i hi => ha i (by omega)]
    by_cases hd : (ops[m]?).bind (·.dst) = some t
    · rw [ha m (by omega) hd]
    · simp [hd]

theorem last_below {e : Env} {ops : List Oper} {tr : List Tr} {t : Tmp} (j : Nat) : ∀ (n : Nat), j ≤ n → last e ops tr (fun i => decide (i < j)) t n = last e ops tr (fun _ => true) t j
  | 0, h => by have : j = 0 := by omega
               subst this; rfl
  | n + 1, h => by
    by_cases hj : j = n + 1
    · subst hj
      exact last_agree _ fun i hi _ => by simp [hi]
    · simp only [last]
      rw [if_neg (by simp; omega), last_below j n (by omega)]

theorem envAt_succ : ∀ (ops : List Oper) (tr : List Tr) (e : Env) (j : Nat) (o : Oper) (x : Tr), ops[j]? = some o → tr[j]? = some x → envAt e ops tr (j + 1) = (envAt e ops tr j).put o.dst x.p
  | [], _, _, _, _, _, h, _ => by simp at h
  | _ :: _, [], _, _, _, _, _, h => by simp at h
  | o' :: l, t :: tr, e, 0, o, x, h1, h2 => by
    simp at h1 h2; subst h1; subst h2; simp [envAt]
  | o' :: l, t :: tr, e, j + 1, o, x, h1, h2 => by
    simp only [List.getElem?_cons_succ] at h1 h2
    have := envAt_succ l tr (e.put o'.dst t.p) j o x h1 h2
    simpa [envAt] using this

theorem last_env {e : Env} {ops : List Oper} {tr : List Tr} {t : Tmp} (hl : ops.length = tr.length) : ∀ (j : Nat), j ≤ ops.length → last e ops tr (fun _ => true) t j = envAt e ops tr j t
  | 0, _ => by simp [last, envAt]
  | j + 1, h => by
    have h1 : j < ops.length := by omega
    have h2 : j < tr.length := by omega
    simp only [last]
    rw [envAt_succ ops tr e j ops[j] tr[j] (List.getElem?_eq_getElem h1) (List.getElem?_eq_getElem h2), last_env hl j (by omega), List.getElem?_eq_getElem h1, List.getElem?_eq_getElem h2]
    simp only [Option.bind_some, true_and]
    cases hd : ops[j].dst with
    | none => simp [Env.put]
    | some d =>
      by_cases hdt : d = t
      · subst hdt; simp [Env.put]
      · simp [Env.put, hdt, Ne.symm hdt]

theorem countP_range_take (tr : List Tr) : ∀ (m : Nat), m ≤ tr.length → (List.range m).countP (fun j => (tr.map isAct).getD j false) = (tr.take m).countP isAct
  | 0, _ => by simp
  | m + 1, h => by
    have hm : m < tr.length := by omega
    rw [List.range_succ, List.countP_append, countP_range_take tr m (by omega), List.take_succ_eq_append_getElem hm, List.countP_append]
    congr 1
    simp [List.getD_eq_getElem?_getD, hm]

theorem countP_range_below (f : Nat → Bool) (i : Nat) : ∀ (n : Nat), i ≤ n → (List.range n).countP (fun j => f j && decide (j < i)) = (List.range i).countP f
  | 0, h => by have : i = 0 := by omega
               subst this; rfl
  | n + 1, h => by
    by_cases hi : i = n + 1
    · subst hi
      refine List.countP_congr fun j hj => ?_
      have := List.mem_range.1 hj
      simp [this]
    · rw [List.range_succ, List.countP_append, countP_range_below f i n (by omega)]
      simp; omega

def edgesBack (ops : List Oper) : Bool := (List.range ops.length).all fun j => (ops.getD j default).after.toList.all fun ed => !Region.binds .any ed || ed.on < j

theorem Anc.listed {ops : List Oper} {f : Nat → Bool} (hf : ∀ (j : Nat) (o : Oper) (ed : Edge), ops[j]? = some o → f j = true → ed ∈ o.after → Region.binds .any ed = true → f ed.on = true) {i j : Nat} (h : Anc ops i j) : f j = true → f i = true := by
  induction h with
  | edge ho he hb => exact fun hj => hf _ _ _ ho hj he hb
  | step ho he hb _ ih => exact fun hj => ih (hf _ _ _ ho hj he hb)

theorem Anc.ready {ops : List Oper} {f : Nat → Bool} (hf : ∀ (j : Nat) (o : Oper) (ed : Edge), ops[j]? = some o → f j = true → ed ∈ o.after → Region.binds .any ed = true → f ed.on = true) {i j : Nat} (h : Anc ops i j)
    (hr : ∀ o ed, ops[j]? = some o → ed ∈ o.after → Region.binds .any ed = true → f ed.on = true) : f i = true := by
  cases h with
  | edge ho he hb => exact hr _ _ ho he hb
  | step ho he hb h2 => exact h2.listed hf (hr _ _ ho he hb)

structure JJ (ops : List Oper) (nt : Nat) (e : Env) (s : St) (tr : List Tr) (g0 : G) (w0 : World) (listed : Array Bool) (g : G) (a : Act) (w : World) : Prop where
  ext : Ext g0 w0 g w
  srel : SRel g (stAt s tr ((List.range ops.length).countP fun j => (tr.map isAct).getD j false && listed.getD j false)) w
  size : a.tmps.size = nt
  defers : a.defers = []
  tmps : ∀ t, (last e ops tr (fun i => listed.getD i false) t ops.length).h g w (a.tmps.getD t undef)
  lsz : listed.size = ops.length
  closed : ∀ (j : Nat) (o : Oper) (ed : Edge), ops[j]? = some o → listed.getD j false = true → ed ∈ o.after → Region.binds .any ed = true → listed.getD ed.on false = true

theorem getD_set (listed : Array Bool) (i j : Nat) (hi : i < listed.size) : (listed.setIfInBounds i true).getD j false = (decide (j = i) || listed.getD j false) := by
  by_cases h : j = i
  · subst h; simp [hi]
  · rw [getD_set_ne false (Ne.symm h)]; simp [h]

section
variable {P : Program} {ops : List Oper} {nt : Nat} {e e' : Env} {s s' : St} {tr : List Tr} {g0 : G} {w0 : World} {Q : Exit → Env → St → Prop}

theorem drawn_any (hd : dstsOk nt ops = true) (hb : edgesBack ops = true) (hsel : Region.noSelect ops.toArray = true) (hchk : orderOk ops (tr.map isAct) = true) (htr : TR P ops.toArray ops e s tr e' s')
    (hL : ∀ (i : Nat) (t : Tr), tr[i]? = some t → t.cl = .load → ∀ k, lo ops (tr.map isAct) i ≤ k → k ≤ hi ops (tr.map isAct) i → t.L (stAt s tr k)) (hQ : Q .normal e' s') :
    ∀ (fuel : Nat) (listed : Array Bool) (g : G) (a : Act) (w : World), JJ ops nt e s tr g0 w0 listed g a w → ((List.range ops.length).countP fun j => !listed.getD j false) ≤ fuel →
      wpAny P .any ops.toArray (Post nt Q g0 w0) fuel listed a w := by
  obtain ⟨hlen, he', hs', hstep⟩ := htr.spec
  -- the end: all are listed
  have fin : ∀ (listed : Array Bool) (g : G) (a : Act) (w : World), JJ ops nt e s tr g0 w0 listed g a w → Region.ready .any ops.toArray listed = [] → (∀ j, j < ops.length → listed.getD j false = true) ∧ Post nt Q g0 w0 .normal a w := by
    intro listed g a w J hr
    have hall : ∀ j, j < ops.length → listed.getD j false = true := by
      intro j
      induction j using Nat.strongRecOn with
      | _ j ih =>
        intro hj
        cases hlj : listed.getD j false with
        | true => rfl
        | false =>
          exfalso
          have hmem : j ∈ Region.ready .any ops.toArray listed := by
            rw [mem_ready]
            refine ⟨?_, ops[j], by simp [hj], fun ed hed hbd => ?_⟩
            · have : j < listed.size := by rw [J.lsz]; exact hj
              rw [Array.getD_eq_getD_getElem?] at hlj ⊢
              simpa [this] using hlj
            · have h1 := List.all_eq_true.1 hb j (List.mem_range.2 hj)
              have h2 := List.all_eq_true.1 h1 ed (by simp [List.getD_eq_getElem?_getD, hj, hed])
              simp [hbd] at h2
              exact ih ed.on h2 (by omega)
          rw [hr] at hmem
          cases hmem
    refine ⟨hall, e', s', g, hQ, J.ext, ⟨J.size, J.defers, fun t => ?_⟩, ?_⟩
    · have h1 := J.tmps t
      rw [last_agree (h := fun _ => true) ops.length fun i hi _ => hall i hi, last_env hlen _ (Nat.le_refl _), ← he'] at h1
      exact h1
    · have h1 := J.srel
      have h2 : ((List.range ops.length).countP fun j => (tr.map isAct).getD j false && listed.getD j false) = tr.countP isAct := by
        rw [show tr.countP isAct = (tr.take ops.length).countP isAct from by rw [hlen, List.take_length], ← countP_range_take tr ops.length (by omega)]
        refine List.countP_congr fun j hj => ?_
        rw [hall j (List.mem_range.1 hj)]
        simp
      rw [h2, ← hs'] at h1
      exact h1
  intro fuel
  induction fuel with
  | zero =>
    intro listed g a w J hc
    have hall : ∀ j, j < ops.length → listed.getD j false = true := by
      intro j hj
      have := List.countP_eq_zero.1 (Nat.le_zero.1 hc) j (List.mem_range.2 hj)
      simpa using this
    have hr : Region.ready .any ops.toArray listed = [] := by
      rw [List.eq_nil_iff_forall_not_mem]
      intro j hj
      obtain ⟨h1, o, ho, _⟩ := mem_ready.1 hj
      have hj' : j < ops.length := by
        rcases Nat.lt_or_ge j ops.length with h | h
        · exact h
        · simp [List.getElem?_eq_none h] at ho
      have h2 := hall j hj'
      have : j < listed.size := by rw [J.lsz]; exact hj'
      rw [Array.getD_eq_getD_getElem?] at h1 h2
      simp [this] at h1 h2
      rw [h1] at h2
      cases h2
    exact ⟨hr, (fin listed g a w J hr).2⟩
  | succ fuel ih =>
    intro listed g a w J hc
    refine ⟨fun hr => (fin listed g a w J hr).2, fun i hi => ?_⟩
    obtain ⟨hun0, o, ho, hedges⟩ := mem_ready.1 hi
    have hin : i < ops.length := by
      rcases Nat.lt_or_ge i ops.length with h | h
      · exact h
      · simp [List.getElem?_eq_none h] at ho
    have hil : i < listed.size := by rw [J.lsz]; exact hin
    have hun : listed.getD i false = false := by
      rw [Array.getD_eq_getD_getElem?] at hun0 ⊢
      simpa [hil] using hun0
    have ho' : ops[i]? = some o := by simpa using ho
    obtain ⟨t, ht⟩ : ∃ t, tr[i]? = some t := ⟨tr[i]'(by omega), List.getElem?_eq_getElem (by omega)⟩
    -- what is ahead of i is listed; what is listed has not i ahead
    have hanc : ∀ j, Anc ops j i → listed.getD j false = true := fun j hj =>
      hj.ready (f := fun i => listed.getD i false) J.closed (fun o2 ed ho2 hed hbd => by rw [ho'] at ho2; cases ho2; exact hedges ed hed hbd)
    have hnot : ∀ j, Anc ops i j → listed.getD j false = false := fun j hj => by
      cases hlj : listed.getD j false with
      | false => rfl
      | true =>
        have := hj.listed (f := fun i => listed.getD i false) J.closed hlj
        simp only [hun] at this
        cases this
    have hord : ∀ i j oi oj, i < j → j < ops.length → ops[i]? = some oi → ops[j]? = some oj → clash ops.toArray ((tr.map isAct).getD i false) ((tr.map isAct).getD j false) oi oj = true → Anc ops i j := by
      intro i j oi oj hij hj hoi hoj hcl
      have h1 := List.all_eq_true.1 (List.all_eq_true.1 hchk j (List.mem_range.2 hj)) i (List.mem_range.2 hij)
      simp only [List.getD_eq_getElem?_getD, hoi, hoj, Option.getD_some] at h1 hcl
      rw [hcl] at h1
      simp only [Bool.not_true, Bool.false_or] at h1
      exact ancT_spec (by simpa [List.getD_eq_getElem?_getD] using h1)
    -- temporaries that o looks at
    have hlook : ∀ x ∈ o.looksAt ops.toArray, (envAt e ops tr i x).h g w (a.tmps.getD x undef) := by
      intro x hx
      have h1 := J.tmps x
      rw [last_agree (h := fun j => decide (j < i)) ops.length ?_, last_below i _ (by omega), last_env hlen _ (by omega)] at h1
      · exact h1
      · intro m hm hdm
        obtain ⟨om, hom⟩ : ∃ om, ops[m]? = some om := ⟨ops[m], List.getElem?_eq_getElem hm⟩
        rw [hom] at hdm
        simp only [Option.bind_some] at hdm
        rcases Nat.lt_trichotomy m i with h2 | h2 | h2
        · rw [hanc m (hord m i om o h2 hin hom ho' (by simp [clash, hdm, hx]))]
          simp [h2]
        · subst h2; rw [hun]; simp
        · rw [hnot m (hord i m o om h2 hm ho' hom (by simp [clash, hdm, hx]))]
          simp; omega
    have hops : ∀ x ∈ o.op.operands, ((envAt e ops tr i).ev x).h g w (a.eval x) := by
      intro x hx
      cases x with
      | tmp y =>
        exact hlook y (List.mem_append_left _ (List.mem_filterMap.2 ⟨.tmp y, by simpa using hx, rfl⟩))
      | const v => rfl
      | global g => rfl
      | func f => rfl
    have hwant : ∀ b, Wants ops.toArray o (envAt e ops tr i) b → Region.wanted o (yielded ops.toArray a.tmps) = b := fun b hb =>
      hb.wanted (g := g) (w := w) fun j want y hg hy => hlook y (by
        refine List.mem_append_right _ ?_
        rw [hg]
        show y ∈ ((ops.toArray[j]?).bind (·.dst)).toList
        rw [hy]
        simp)
    have hnext : ∀ (v : Value) (g1 : G) (w1 : World), t.p.h g1 w1 v → Ext g w g1 w1 → SRel g1 (stAt s tr ((List.range ops.length).countP fun j => (tr.map isAct).getD j false && (listed.setIfInBounds i true).getD j false)) w1 →
        wpAny P .any ops.toArray (Post nt Q g0 w0) fuel (listed.setIfInBounds i true) (a.put o.dst v) w1 := by
      intro v g1 w1 hp hx hs
      refine ih (listed.setIfInBounds i true) g1 _ w1 ⟨J.ext.trans hx, hs, ?_, ?_, fun x => ?_, by simp [J.lsz], ?_⟩ ?_
      · cases o.dst <;> simp [Act.put, J.size]
      · cases o.dst <;> exact J.defers
      · by_cases hdx : o.dst = some x
        · have hlast : last e ops tr (fun j => (listed.setIfInBounds i true).getD j false) x ops.length = t.p := by
            rw [last_agree (h := fun j => decide (j < i + 1)) ops.length ?_, last_below (i + 1) _ (by omega)]
            · simp [last, ho', hdx, ht]
            · intro m hm hdm
              obtain ⟨om, hom⟩ : ∃ om, ops[m]? = some om := ⟨ops[m], List.getElem?_eq_getElem hm⟩
              rw [hom] at hdm
              simp only [Option.bind_some] at hdm
              rw [getD_set _ _ _ hil]
              rcases Nat.lt_trichotomy m i with h2 | h2 | h2
              · rw [hanc m (hord m i om o h2 hin hom ho' (by simp [clash, hdm, hdx]))]
                simp; omega
              · subst h2; simp
              · rw [hnot m (hord i m o om h2 hm ho' hom (by simp [clash, hdm, hdx]))]
                simp; omega
          rw [hlast]
          have hdn : x < nt := dstsOk_at hd (List.mem_of_getElem? ho') x hdx
          simp only [hdx, Act.put]
          rw [Array.getD_eq_getD_getElem?, Array.getElem?_setIfInBounds_self_of_lt (by rw [J.size]; exact hdn)]
          exact hp
        · have hlast : last e ops tr (fun j => (listed.setIfInBounds i true).getD j false) x ops.length = last e ops tr (fun j => listed.getD j false) x ops.length := by
            refine last_agree _ fun m hm hdm => ?_
            rw [getD_set _ _ _ hil]
            by_cases hmi : m = i
            · subst hmi; rw [ho'] at hdm; exact absurd hdm hdx
            · simp [hmi]
          rw [hlast]
          have h1 := (last e ops tr (fun j => listed.getD j false) x ops.length).mono hx (J.tmps x)
          cases hdo : o.dst with
          | none => simpa [Act.put] using h1
          | some d =>
            have hne : d ≠ x := fun h => hdx (by rw [hdo, h])
            simp only [Act.put]
            rw [Array.getD_eq_getD_getElem?] at h1 ⊢
            rwa [Array.getElem?_setIfInBounds_ne hne]
      · intro j oj ed hoj hlj hed hbd
        rw [getD_set _ _ _ hil] at hlj ⊢
        rw [Bool.or_eq_true] at hlj ⊢
        refine .inr ?_
        rcases hlj with hlj | hlj
        · have : j = i := by simpa using hlj
          subst this
          rw [ho'] at hoj; cases hoj
          exact hedges ed hed hbd
        · exact J.closed j oj ed hoj hlj hed hbd
      · have h1 : ((List.range ops.length).countP fun j => !(listed.setIfInBounds i true).getD j false) < ((List.range ops.length).countP fun j => !listed.getD j false) := by
          have hmem : i ∈ List.range ops.length := List.mem_range.2 hin
          obtain ⟨l1, l2, hl⟩ := List.append_of_mem hmem
          have hnd : (List.range ops.length).Nodup := List.nodup_range
          rw [hl] at hnd ⊢
          have hsame : ∀ j ∈ l1 ++ l2, (!(listed.setIfInBounds i true).getD j false) = !listed.getD j false := by
            intro j hj
            have hji : j ≠ i := by
              intro h; subst h
              rw [List.nodup_append] at hnd
              rcases List.mem_append.1 hj with h | h
              · exact hnd.2.2 j h j (by simp) rfl
              · exact (List.nodup_cons.1 hnd.2.1).1 h
            rw [getD_set _ _ _ hil]; simp [hji]
          rw [List.countP_append, List.countP_append, List.countP_cons, List.countP_cons]
          rw [List.countP_congr (l := l1) (fun j hj => by rw [hsame j (by simp [hj])]), List.countP_congr (l := l2) (fun j hj => by rw [hsame j (by simp [hj])])]
          rw [getD_set _ _ _ hil, hun]
          simp
        omega
    have hact : (tr.map isAct).getD i false = isAct t := by simp [List.getD_eq_getElem?_getD, ht]
    have hcnt : isAct t = false → ((List.range ops.length).countP fun j => (tr.map isAct).getD j false && (listed.setIfInBounds i true).getD j false) = ((List.range ops.length).countP fun j => (tr.map isAct).getD j false && listed.getD j false) := by
      intro ha
      refine List.countP_congr fun j hj => ?_
      rw [getD_set _ _ _ hil]
      by_cases hji : j = i
      · subst hji; rw [hact, ha]; simp
      · simp [hji]
    have hst := hstep i o t ho' ht
    unfold wpOp
    simp only [ho]
    cases hcl : t.cl with
    | pure =>
      have ha : isAct t = false := by simp [isAct, hcl]
      simp only [StepOk, hcl] at hst
      rcases hst with ⟨hw, hop⟩ | ⟨hw, hany⟩
      · rw [hwant _ hw, if_pos rfl]
        refine .inl (hop _ g a w _ _ hops J.srel fun v g1 w1 hp hx hs => hnext v g1 w1 hp hx ?_)
        rw [hcnt ha]; exact hs
      · rw [hwant _ hw, if_neg (by simp)]
        refine hnext _ g w (by rw [hany]; rfl) (Ext.refl _ _) ?_
        rw [hcnt ha]; exact J.srel
    | load =>
      have ha : isAct t = false := by simp [isAct, hcl]
      simp only [StepOk, hcl] at hst
      rw [hwant _ hst.1, if_pos rfl]
      refine .inl (hst.2 _ (hL i t ht hcl _ ?_ ?_) g a w _ _ hops J.srel fun v g1 w1 hp hx hs => hnext v g1 w1 hp hx ?_)
      · refine List.countP_mono_left fun j hj h => ?_
        rw [Bool.and_eq_true] at h ⊢
        exact ⟨h.1, hanc j (ancT_spec h.2)⟩
      · refine List.countP_mono_left fun j hj h => ?_
        rw [Bool.and_eq_true] at h ⊢
        refine ⟨h.1, ?_⟩
        cases htb : ((ancT ops).getD j 0).testBit i with
        | false => rfl
        | true => rw [hnot j (ancT_spec htb)] at h; simp at h
      · rw [hcnt ha]; exact hs
    | act =>
      have ha : isAct t = true := by simp [isAct, hcl]
      simp only [StepOk, hcl] at hst
      rw [hwant _ hst.1, if_pos rfl]
      have hag : ∀ j, j < ops.length → (tr.map isAct).getD j false = true → listed.getD j false = decide (j < i) := by
        intro j hj haj
        obtain ⟨oj, hoj⟩ : ∃ oj, ops[j]? = some oj := ⟨ops[j], List.getElem?_eq_getElem hj⟩
        rcases Nat.lt_trichotomy j i with h2 | h2 | h2
        · rw [hanc j (hord j i oj o h2 hin hoj ho' (by simp only [clash]; rw [haj, hact, ha]; rfl))]
          simp [h2]
        · subst h2; rw [hun]; simp
        · rw [hnot j (hord i j o oj h2 hj ho' hoj (by simp only [clash]; rw [haj, hact, ha]; rfl))]
          simp; omega
      have hk : ((List.range ops.length).countP fun j => (tr.map isAct).getD j false && listed.getD j false) = cntAt tr i := by
        rw [cntAt, ← countP_range_take tr i (by omega), ← countP_range_below _ i ops.length (by omega)]
        refine List.countP_congr fun j hj => ?_
        by_cases haj : (tr.map isAct).getD j false = true
        · rw [haj, hag j (List.mem_range.1 hj) haj]
        · rw [Bool.not_eq_true] at haj
          rw [haj, Bool.false_and, Bool.false_and]
      have hk1 : ((List.range ops.length).countP fun j => (tr.map isAct).getD j false && (listed.setIfInBounds i true).getD j false) = cntAt tr i + 1 := by
        have : cntAt tr i + 1 = cntAt tr (i + 1) := by
          simp only [cntAt]
          rw [List.take_succ_eq_append_getElem (by omega), List.countP_append]
          have : tr[i]'(by omega) = t := by
            rw [List.getElem?_eq_getElem (by omega)] at ht; simpa using ht
          simp [this, ha]
        rw [this, cntAt, ← countP_range_take tr (i + 1) (by omega), ← countP_range_below _ (i + 1) ops.length (by omega)]
        refine List.countP_congr fun j hj => ?_
        rw [getD_set _ _ _ hil]
        by_cases haj : (tr.map isAct).getD j false = true
        · rw [haj, hag j (List.mem_range.1 hj) haj]
          simp; omega
        · rw [Bool.not_eq_true] at haj
          rw [haj, Bool.false_and, Bool.false_and]
      have hs0 := J.srel
      rw [hk] at hs0
      refine .inl (hst.2 g a w _ _ hops hs0 fun v g1 w1 hp hx hs => hnext v g1 w1 hp hx ?_)
      rw [hk1]; exact hs

theorem getD_rep (n j : Nat) : (Array.replicate n false).getD j false = false := by
  rw [Array.getD_eq_getD_getElem?, Array.getElem?_replicate]
  split <;> rfl

theorem aw_region_drawn {id : Nat} (hm : P.follows .mixedOrders = true) (hd : dstsOk nt ops = true) (hb : edgesBack ops = true) (hsel : Region.noSelect ops.toArray = true) (htr : TR P ops.toArray ops e s tr e' s') (hchk : orderOk ops (tr.map isAct) = true)
    (hL : ∀ (i : Nat) (t : Tr), tr[i]? = some t → t.cl = .load → ∀ k, lo ops (tr.map isAct) i ≤ k → k ≤ hi ops (tr.map isAct) i → t.L (stAt s tr k)) (hQ : Q .normal e' s') :
    AW P nt (.region id ops.toArray true) Q e s := by
  intro g a w he hs
  refine wp_region_any hm ?_
  have J : JJ ops nt e s tr g w (Array.replicate ops.toArray.size false) g a { w with drawn := w.drawn + 1 } := by
    refine ⟨Ext.drew g w, ?_, he.size, he.defers, fun t => ?_, by simp, ?_⟩
    · have : ((List.range ops.length).countP fun j => (tr.map isAct).getD j false && (Array.replicate ops.toArray.size false).getD j false) = 0 := by
        rw [List.countP_eq_zero]
        intro j hj
        rw [getD_rep]; simp
      rw [this]
      simpa [stAt] using hs.drew
    · rw [last_agree (h := fun j => decide (j < 0)) ops.length (fun i hi _ => by rw [getD_rep]; simp), last_below 0 _ (by omega)]
      exact (e t).mono (Ext.drew g w) (he.tmp t)
    · intro j o ed _ hl
      rw [getD_rep] at hl; cases hl
  refine drawn_any hd hb hsel hchk htr hL hQ ops.toArray.size _ g a _ J ?_
  have := List.countP_le_length (p := fun j => !(Array.replicate ops.toArray.size false).getD j false) (l := List.range ops.length)
  simpa using this
end
end Go.Proofs.YtmnhfpcbfdgbcaaDoor.Eng
