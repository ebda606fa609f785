/- The engine, twelfth part: what a printed walk uses. -/
import Derived.Test.YtmnhfpcbfdgbcaaDoorEngK
namespace Go.Proofs.YtmnhfpcbfdgbcaaDoor.Eng
set_option linter.unusedVariables false
set_option linter.unusedSimpArgs false
open Go.RowKit

theorem lz {e : Env} {t : Tmp} {p : Pd} : Env.ev (Env.put e (some t) p) (.tmp t) = p := put_same e t p
theorem ls {e : Env} {t u : Tmp} {p q : Pd} (h : Nat.beq t u = false) (h2 : Env.ev e (.tmp t) = q) : Env.ev (Env.put e (some u) p) (.tmp t) = q :=
  (put_ne _ _ _ _ (Nat.ne_of_beq_eq_false h)).trans h2
theorem lx {e : Env} {t : Tmp} {p q : Pd} (h2 : Env.ev e (.tmp t) = q) : Env.ev (Env.put e none p) (.tmp t) = q := h2
theorem oz {t : Tmp} {p : Pd} {l : List (Nat × Pd)} : Env.ev (Env.of ((t, p) :: l)) (.tmp t) = p := of_same t p l
theorem os {t u : Tmp} {p q : Pd} {l : List (Nat × Pd)} (h : Nat.beq t u = false) (h2 : Env.ev (Env.of l) (.tmp t) = q) : Env.ev (Env.of ((u, p) :: l)) (.tmp t) = q := ls h h2
theorem ez {p : Pd} {l : List Pd} : Env.ev (envOf (p :: l)) (.tmp 0) = p := rfl
theorem es {p q : Pd} {l : List Pd} {t : Tmp} (h : Env.ev (envOf l) (.tmp t) = q) : Env.ev (envOf (p :: l)) (.tmp (t + 1)) = q := h
theorem eg {e : Env} {t : Tmp} {p : Pd} (h : Env.ev e (.tmp t) = p) : e t = p := h
theorem lg {e : Env} {t : Tmp} {p : Pd} (h : Env.ev e (.tmp t) = p) : (e t).le p := le_of_eq h

section
variable {P : Program} {ops : Array Oper} {K : Env → St → Prop} {KD : List Tr → Env → St → Prop} {l : List Oper} {e : Env} {s s1 : St} {acc : List Tr} {dst : Option Tmp} {op : Op} {ty : TypeId} {pos : String} {after : Array Edge} {guard : Option (Nat × Bool)}
theorem rts (p : Pd) (hw : Wants ops ⟨dst, op, ty, pos, after, guard⟩ e true) (ho : OpD P ⟨dst, op, ty, pos, after, guard⟩ e s p s1) (h : RT P ops K l (e.put dst p) s1) : RT P ops K (⟨dst, op, ty, pos, after, guard⟩ :: l) e s := .step p hw ho h
theorem rtk (hw : Wants ops ⟨dst, op, ty, pos, after, guard⟩ e false) (h : RT P ops K l (e.put dst (pl undef)) s) : RT P ops K (⟨dst, op, ty, pos, after, guard⟩ :: l) e s := .skip hw h
end

/-- What it is if a test was met; else nothing. -/
def pif (c : Bool) (p : Pd) : Pd := if c then p else pl undef
theorem pif_pos {c : Bool} {p : Pd} (h : c = true) : pif c p = p := by rw [h]; rfl
theorem pif_neg {c : Bool} {p : Pd} (h : c = false) : pif c p = pl undef := by rw [h]; rfl
theorem pif_and {c d : Bool} {p : Pd} (h : c = true) : pif (c && d) p = pif d p := by rw [h]; rfl
theorem and_l {c d : Bool} (h : (c && d) = true) : c = true := by cases c <;> first | rfl | cases h
theorem pif_bnd {c : Bool} {p : Pd} {n m : Nat} (h : p.Bnd n m) : (pif c p).Bnd n m := by cases c <;> first | exact h | exact pl_bnd _ _ _
section
variable {P : Program} {ops : Array Oper} {K : Env → St → Prop} {l : List Oper} {e : Env} {s : St} {dst : Option Tmp} {op : Op} {ty : TypeId} {pos : String} {after : Array Edge} {j t : Nat} {want b : Bool}
/-- An operation behind a test: run, or left out. -/
theorem rtg (p : Pd) (ht : (ops[j]?).bind (·.dst) = some t) (he : Env.ev e (.tmp t) = pl (.bool b)) (ho : (b == want) = true → OpD P ⟨dst, op, ty, pos, after, some (j, want)⟩ e s p s) (h : RT P ops K l (e.put dst (pif (b == want) p)) s) : RT P ops K (⟨dst, op, ty, pos, after, some (j, want)⟩ :: l) e s := by
  cases hb : (b == want) with
  | true => rw [pif_pos hb] at h; exact .step p ⟨t, ht, .inl ⟨b, he, hb⟩⟩ (ho hb) h
  | false => rw [pif_neg hb] at h; exact .skip ⟨t, ht, .inl ⟨b, he, hb⟩⟩ h
/-- A test within a test. -/
theorem rtg2 (p : Pd) {c0 : Bool} (ht : (ops[j]?).bind (·.dst) = some t) (he : Env.ev e (.tmp t) = pif c0 (pl (.bool b))) (ho : (c0 && (b == want)) = true → OpD P ⟨dst, op, ty, pos, after, some (j, want)⟩ e s p s) (h : RT P ops K l (e.put dst (pif (c0 && (b == want)) p)) s) : RT P ops K (⟨dst, op, ty, pos, after, some (j, want)⟩ :: l) e s := by
  cases c0 with
  | true =>
    cases hb : (b == want) with
    | true => rw [pif_pos (by rw [hb]; rfl)] at h; exact .step p ⟨t, ht, .inl ⟨b, he, hb⟩⟩ (ho (by rw [hb]; rfl)) h
    | false => rw [pif_neg (by rw [hb]; rfl)] at h; exact .skip ⟨t, ht, .inl ⟨b, he, hb⟩⟩ h
  | false => exact .skip ⟨t, ht, .inr ⟨he, rfl⟩⟩ h
theorem opD_and {c x : Operand} {d : Bool} (hc : e.ev c = pl (.bool b)) (hx : e.ev x = pif (b == true) (pl (.bool d))) {guard : Option (Nat × Bool)} : OpD P ⟨dst, .pick c x (.const (.bool false)), ty, pos, after, guard⟩ e s (pl (.bool (b && d))) s :=
  opD_pick hc (fun h => by subst h; rw [hx]; exact pif_pos rfl) (fun h => by subst h; rfl)
theorem opD_or {c y : Operand} {d : Bool} (hc : e.ev c = pl (.bool b)) (hy : e.ev y = pif (b == false) (pl (.bool d))) {guard : Option (Nat × Bool)} : OpD P ⟨dst, .pick c (.const (.bool true)) y, ty, pos, after, guard⟩ e s (pl (.bool (b || d))) s :=
  opD_pick hc (fun h => by subst h; rfl) (fun h => by subst h; rw [hy]; exact pif_pos rfl)
end

theorem aw_seq_cut {P : Program} {nt : Nat} {c d : Code} {Q : Exit → Env → St → Prop} {e : Env} {s : St} (J : Env → St → Prop) (h : AW P nt c (Then J Q) e s) (h2 : ∀ e s, J e s → AW P nt d Q e s) : AW P nt (.seq c d) Q e s :=
  aw_seq (h.mono fun x e s hq => by cases x <;> first | exact h2 e s hq | exact hq)

theorem rt_cases {P : Program} {ops : Array Oper} {K : Env → St → Prop} {l : List Oper} {e : Env} {s : St} (t : Tmp) {b : Bool} (h : e t = pl (.bool b)) (h1 : b = true → RT P ops K l (e.put (some t) (pl (.bool true))) s) (h0 : b = false → RT P ops K l (e.put (some t) (pl (.bool false))) s) : RT P ops K l e s := by
  have he : ∀ c, b = c → e.put (some t) (pl (.bool c)) = e := fun c hc => by
    funext u
    by_cases hu : u = t
    · subst hu; rw [put_same, h, hc]
    · rw [put_ne _ _ _ _ hu]
  cases b with
  | true => have := h1 rfl; rwa [he true rfl] at this
  | false => have := h0 rfl; rwa [he false rfl] at this

/-- A drawn region's run, in the order of the text, with what is to be shown of the whole. -/
inductive DT (P : Program) (ops : Array Oper) (K : List Tr → Env → St → Prop) : List Oper → Env → St → List Tr → Prop
  | nil {e : Env} {s : St} {acc : List Tr} : K acc e s → DT P ops K [] e s acc
  | pure {o : Oper} {l : List Oper} {e : Env} {s : St} {acc : List Tr} (p : Pd) : Wants ops o e true → (∀ s, OpD P o e s p s) → DT P ops K l (e.put o.dst p) s (acc ++ [⟨.pure, p, s, fun _ => True⟩]) → DT P ops K (o :: l) e s acc
  | skip {o : Oper} {l : List Oper} {e : Env} {s : St} {acc : List Tr} : Wants ops o e false → DT P ops K l (e.put o.dst (pl undef)) s (acc ++ [⟨.pure, pl undef, s, fun _ => True⟩]) → DT P ops K (o :: l) e s acc
  | load {o : Oper} {l : List Oper} {e : Env} {s : St} {acc : List Tr} (p : Pd) (L : St → Prop) : Wants ops o e true → (∀ s, L s → OpD P o e s p s) → DT P ops K l (e.put o.dst p) s (acc ++ [⟨.load, p, s, L⟩]) → DT P ops K (o :: l) e s acc
  | act {o : Oper} {l : List Oper} {e : Env} {s s1 : St} {acc : List Tr} (p : Pd) : Wants ops o e true → OpD P o e s p s1 → DT P ops K l (e.put o.dst p) s1 (acc ++ [⟨.act, p, s1, fun _ => True⟩]) → DT P ops K (o :: l) e s acc

theorem DT.tr {P : Program} {ops : Array Oper} {K : List Tr → Env → St → Prop} {l : List Oper} {e : Env} {s : St} {acc : List Tr} (h : DT P ops K l e s acc) : ∃ tr e' s', TR P ops l e s tr e' s' ∧ K (acc ++ tr) e' s' := by
  induction h with
  | nil hk => exact ⟨[], _, _, .nil, by simpa using hk⟩
  | pure p hw ho _ ih => obtain ⟨tr, e', s', h1, h2⟩ := ih; exact ⟨_, e', s', .pure p hw ho h1, by simpa using h2⟩
  | skip hw _ ih => obtain ⟨tr, e', s', h1, h2⟩ := ih; exact ⟨_, e', s', .skip hw h1, by simpa using h2⟩
  | load p L hw ho _ ih => obtain ⟨tr, e', s', h1, h2⟩ := ih; exact ⟨_, e', s', .load p L hw ho h1, by simpa using h2⟩
  | act p hw ho _ ih => obtain ⟨tr, e', s', h1, h2⟩ := ih; exact ⟨_, e', s', .act p hw ho h1, by simpa using h2⟩

theorem dt_cases {P : Program} {ops : Array Oper} {K : List Tr → Env → St → Prop} {l : List Oper} {e : Env} {s : St} {acc : List Tr} (t : Tmp) {b : Bool} (h : e t = pl (.bool b)) (h1 : b = true → DT P ops K l (e.put (some t) (pl (.bool true))) s acc) (h0 : b = false → DT P ops K l (e.put (some t) (pl (.bool false))) s acc) : DT P ops K l e s acc := by
  have he : ∀ c, b = c → e.put (some t) (pl (.bool c)) = e := fun c hc => by
    funext u
    by_cases hu : u = t
    · subst hu; rw [put_same, h, hc]
    · rw [put_ne _ _ _ _ hu]
  cases b with
  | true => have := h1 rfl; rwa [he true rfl] at this
  | false => have := h0 rfl; rwa [he false rfl] at this

section
variable {P : Program} {ops : Array Oper} {KD : List Tr → Env → St → Prop} {l : List Oper} {e : Env} {s s1 : St} {acc : List Tr} {dst : Option Tmp} {op : Op} {ty : TypeId} {pos : String} {after : Array Edge} {guard : Option (Nat × Bool)}
theorem dtp (p : Pd) (hw : Wants ops ⟨dst, op, ty, pos, after, guard⟩ e true) (ho : ∀ s, OpD P ⟨dst, op, ty, pos, after, guard⟩ e s p s) (h : DT P ops KD l (e.put dst p) s (acc ++ [⟨.pure, p, s, fun _ => True⟩])) : DT P ops KD (⟨dst, op, ty, pos, after, guard⟩ :: l) e s acc := .pure p hw ho h
theorem dtk (hw : Wants ops ⟨dst, op, ty, pos, after, guard⟩ e false) (h : DT P ops KD l (e.put dst (pl undef)) s (acc ++ [⟨.pure, pl undef, s, fun _ => True⟩])) : DT P ops KD (⟨dst, op, ty, pos, after, guard⟩ :: l) e s acc := .skip hw h
theorem dtg (p : Pd) {j t : Nat} {want b : Bool} (ht : (ops[j]?).bind (·.dst) = some t) (he : Env.ev e (.tmp t) = pl (.bool b)) (ho : (b == want) = true → ∀ s, OpD P ⟨dst, op, ty, pos, after, some (j, want)⟩ e s p s) (h : DT P ops KD l (e.put dst (pif (b == want) p)) s (acc ++ [⟨.pure, pif (b == want) p, s, fun _ => True⟩])) : DT P ops KD (⟨dst, op, ty, pos, after, some (j, want)⟩ :: l) e s acc := by
  cases hb : (b == want) with
  | true => rw [pif_pos hb] at h; exact .pure p ⟨t, ht, .inl ⟨b, he, hb⟩⟩ (ho hb) h
  | false => rw [pif_neg hb] at h; exact .skip ⟨t, ht, .inl ⟨b, he, hb⟩⟩ h
theorem dtg2 (p : Pd) {j t : Nat} {want b c0 : Bool} (ht : (ops[j]?).bind (·.dst) = some t) (he : Env.ev e (.tmp t) = pif c0 (pl (.bool b))) (ho : (c0 && (b == want)) = true → ∀ s, OpD P ⟨dst, op, ty, pos, after, some (j, want)⟩ e s p s) (h : DT P ops KD l (e.put dst (pif (c0 && (b == want)) p)) s (acc ++ [⟨.pure, pif (c0 && (b == want)) p, s, fun _ => True⟩])) : DT P ops KD (⟨dst, op, ty, pos, after, some (j, want)⟩ :: l) e s acc := by
  cases c0 with
  | true =>
    cases hb : (b == want) with
    | true => rw [pif_pos (by rw [hb]; rfl)] at h; exact .pure p ⟨t, ht, .inl ⟨b, he, hb⟩⟩ (ho (by rw [hb]; rfl)) h
    | false => rw [pif_neg (by rw [hb]; rfl)] at h; exact .skip ⟨t, ht, .inl ⟨b, he, hb⟩⟩ h
  | false => exact .skip ⟨t, ht, .inr ⟨he, rfl⟩⟩ h
theorem dtl (p : Pd) (L : St → Prop) (hw : Wants ops ⟨dst, op, ty, pos, after, guard⟩ e true) (ho : ∀ s, L s → OpD P ⟨dst, op, ty, pos, after, guard⟩ e s p s) (h : DT P ops KD l (e.put dst p) s (acc ++ [⟨.load, p, s, L⟩])) : DT P ops KD (⟨dst, op, ty, pos, after, guard⟩ :: l) e s acc := .load p L hw ho h
theorem dta (p : Pd) (hw : Wants ops ⟨dst, op, ty, pos, after, guard⟩ e true) (ho : OpD P ⟨dst, op, ty, pos, after, guard⟩ e s p s1) (h : DT P ops KD l (e.put dst p) s1 (acc ++ [⟨.act, p, s1, fun _ => True⟩])) : DT P ops KD (⟨dst, op, ty, pos, after, guard⟩ :: l) e s acc := .act p hw ho h
end

def AllL (L : St → Prop) (s : St) (tr : List Tr) : List Nat → Prop
  | [] => True
  | k :: ks => L (stAt s tr k) ∧ AllL L s tr ks
theorem AllL.at {L : St → Prop} {s : St} {tr : List Tr} : ∀ {ks : List Nat}, AllL L s tr ks → ∀ k ∈ ks, L (stAt s tr k)
  | [], _, _, h => by cases h
  | _ :: _, ⟨h1, h2⟩, k, h => by
    rcases List.mem_cons.1 h with rfl | h
    · exact h1
    · exact AllL.at h2 k h

/-- Each load, in each state in which it may come up. -/
def LoadsOk (s : St) (tr0 : List Tr) : List Tr → List (List Nat) → Prop
  | [], _ => True
  | t :: tr, w :: ws => (match t.cl with | .load => AllL t.L s tr0 w | _ => True) ∧ LoadsOk s tr0 tr ws
  | _ :: _, [] => False

theorem LoadsOk.at {s : St} {tr0 : List Tr} : ∀ {tr : List Tr} {ws : List (List Nat)}, LoadsOk s tr0 tr ws → ∀ (i : Nat) (t : Tr), tr[i]? = some t → t.cl = .load → ∃ w, ws[i]? = some w ∧ AllL t.L s tr0 w
  | [], _, _, i, t, h, _ => by simp at h
  | t' :: tr, w :: ws, ⟨h1, h2⟩, 0, t, h, hc => by
    simp at h; subst h
    rw [hc] at h1
    exact ⟨w, rfl, h1⟩
  | t' :: tr, w :: ws, ⟨h1, h2⟩, i + 1, t, h, hc => by
    simp only [List.getElem?_cons_succ] at h ⊢
    exact LoadsOk.at h2 i t h hc
  | _ :: _, [], h, _, _, _, _ => h.elim

def wins (ops : List Oper) (acts : List Bool) : List (List Nat) := (List.range ops.length).map fun i => List.range' (lo ops acts i) (hi ops acts i + 1 - lo ops acts i)

/-- What is to be shown of the whole. -/
def DOk (nt : Nat) (ops : List Oper) (acts : List Bool) (ws : List (List Nat)) : Bool :=
  dstsOk nt ops && edgesBack ops && Region.noSelect ops.toArray && orderOk ops acts && decide (wins ops acts = ws)

theorem aw_drawn {P : Program} {nt id : Nat} {ops : List Oper} {Q : Exit → Env → St → Prop} {e : Env} {s : St} (acts : List Bool) (ws : List (List Nat)) (hm : P.follows .mixedOrders = true) (hd : DOk nt ops acts ws = true)
    (h : DT P ops.toArray (fun tr e' s' => tr.map isAct = acts ∧ LoadsOk s tr tr ws ∧ Q .normal e' s') ops e s []) : AW P nt (.region id ops.toArray true) Q e s := by
  obtain ⟨tr, e', s', htr, hk⟩ := h.tr
  rw [List.nil_append] at hk
  obtain ⟨hacts, hl, hq⟩ := hk
  simp only [DOk, Bool.and_eq_true, decide_eq_true_eq] at hd
  obtain ⟨⟨⟨⟨h1, h2⟩, h3⟩, h4⟩, h5⟩ := hd
  refine aw_region_drawn hm h1 h2 h3 htr (by rw [hacts]; exact h4) (fun i t ht hc k hlo hhi => ?_) hq
  obtain ⟨w, hw, ha⟩ := hl.at i t ht hc
  refine ha.at k ?_
  have hi : i < ops.length := by
    have := (List.getElem?_eq_some_iff.1 ht).1
    have h6 := htr.spec.1
    omega
  rw [← h5, wins, List.getElem?_map, List.getElem?_range hi] at hw
  simp only [Option.map_some, Option.some.injEq] at hw
  rw [← hw, List.mem_range'_1]
  rw [hacts] at hlo hhi
  omega

/-- A function that leaves nothing behind, whatever the state is. -/
def Pure (P : Program) (f : FuncId) (ps : List Pd) (p : Pd) : Prop := ∀ s, AC P f ps s p s
theorem opD_pure {P : Program} {e : Env} {s : St} {dst : Option Tmp} {ty : TypeId} {pos : String} {after : Array Edge} {guard : Option (Nat × Bool)} {f : FuncId} {xs : List Operand} {ats : Array TypeId} {ps : List Pd} {p : Pd} (hf : hasText P f = true) (hc : Pure P f ps p) (hx : Args e xs ps) :
    OpD P ⟨dst, .call { callee := .value (.func f), args := xs.toArray, argTypes := ats }, ty, pos, after, guard⟩ e s p s := opD_call hf (hc s) hx
end Go.Proofs.YtmnhfpcbfdgbcaaDoor.Eng
