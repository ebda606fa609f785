/- The engine, sixth part: stores, calls, functions. -/
import Derived.Test.YtmnhfpcbfdgbcaaDoorEngE
namespace Go.Proofs.YtmnhfpcbfdgbcaaDoor.Eng
set_option linter.unusedVariables false
set_option linter.unusedSimpArgs false
open Go.RowKit

/-- The cells of one variable written anew. -/
theorem ext_setRow {g : G} {s : St} {w : World} (h : SRel g s w) {k : Nat} (hk : k ∈ g.box) (h0 : g.sld k = 0) (cs : Array Value) : Ext g w g (w.setRow k cs) := by
  have hsame : ∀ b, b ≠ k → (w.setRow k cs).heap[b]? = w.heap[b]? := by
    intro b hb
    simp only [World.setRow, Array.getElem?_modify]
    rw [if_neg (Ne.symm hb)]
  refine ⟨rfl, rfl, rfl, by simp [World.setRow], fun _ => Nat.le_refl _, fun b o ho => ?_, ⟨[], by simp⟩, fun _ _ h => h, fun _ _ h => .inl h, fun b _ hb hn _ => hsame b fun h => hn (h ▸ hk), rfl⟩
  have hbk : b ≠ k := fun h => by subst h; omega
  exact World.cell?_of_block (w := w) (hsame b hbk)

theorem srel_setRow {g : G} {s : St} {w : World} (h : SRel g s w) {i k : Nat} {B : Bx} {vs : Array Value} (hB : s.boxes[i]? = some B) (hk : g.box[i]? = some k) (hh : w.heap[k]? = some (.cells vs B.t (0, 0)))
    {cs : Array Value} {ps : List Pd} (hne : B.cs ≠ []) (hp : PdsP g w ps cs.toList) (hb : ∀ p ∈ ps, p.Bnd s.boxes.length s.fr.length) : SRel g ⟨s.boxes.set i ⟨B.t, ps⟩, s.fr, s.stat⟩ (w.setRow k cs) := by
  obtain ⟨k', vs', h1, h2, h3, h4, h5, h6⟩ := h.bx i B hB
  rw [hk] at h1; cases h1
  have hmem : k ∈ g.box := List.mem_of_getElem? hk
  have hx := ext_setRow h hmem (h4 hne) cs
  have hsame : ∀ b, b ≠ k → (w.setRow k cs).heap[b]? = w.heap[b]? := by
    intro b hb
    simp only [World.setRow, Array.getElem?_modify]
    rw [if_neg (Ne.symm hb)]
  refine ⟨by simp [h.len], h.nd, fun j C hC => ?_, fun b id c ho => ?_, fun b hn => ?_, s.stat.mono hx h.st, h.sb, Nat.le_trans h.bz hx.size⟩
  · by_cases hij : j = i
    · subst hij
      have hlt : j < s.boxes.length := (List.getElem?_eq_some_iff.1 hB).1
      simp [hlt] at hC
      subst hC
      exact ⟨k, cs, hk, setRow_heap w k vs cs B.t (0, 0) hh, hp.mono hx, fun _ => h4 hne, h5, by simpa using hb⟩
    · have hC' : s.boxes[j]? = some C := by
        have := hC
        simp only [] at this
        rwa [List.getElem?_set_ne (Ne.symm hij)] at this
      obtain ⟨k2, vs2, e1, e2, e3, e4, e5, e6⟩ := h.bx j C hC'
      have hne : k2 ≠ k := by
        intro he; subst he
        have hj := (List.getElem?_eq_some_iff.1 e1)
        have hi := (List.getElem?_eq_some_iff.1 hk)
        obtain ⟨hj1, hj2⟩ := hj
        obtain ⟨hi1, hi2⟩ := hi
        exact hij ((List.getElem_inj h.nd).1 (hj2.trans hi2.symm))
      exact ⟨k2, vs2, e1, by rw [hsame k2 hne]; exact e2, e3.mono hx, e4, e5, by simpa using e6⟩
  · obtain ⟨f, cs2, e1, e2, e3⟩ := h.ow b id c ho
    have hne : b ≠ k := fun he => by subst he; rw [h5] at ho; cases ho
    exact ⟨f, cs2, e1, by rw [hsame b hne]; exact e2, e3⟩
  · have := h.sl b hn
    simpa [World.setRow] using this

section
variable {P : Program} {e : Env} {s : St} {dst : Option Tmp} {ty : TypeId} {pos : String} {after : Array Edge} {guard : Option (Nat × Bool)}

theorem run_u {S : Sem Unit} {w w' : World} (h : S.run P w = .ok () w') : (Sem.bind S fun _ => Sem.pure Next.skip).run P w = .ok .skip w' := by
  rw [Sem.run_bind' P, h]
  rfl

theorem opD_skip {o : Oper} {s' : St} (h : ∀ (g : G) (a : Act) (w : World), (∀ x ∈ o.op.operands, (e.ev x).h g w (a.eval x)) → SRel g s w →
    ∃ g' w', (execOp a.eval o).run P w = .ok .skip w' ∧ Ext g w g' w' ∧ SRel g' s' w') : OpD P o e s any s' := by
  intro g a w next Q ha hs hn
  obtain ⟨g', w', h1, h3, h4⟩ := h g a w ha hs
  unfold Oper.wp
  rw [h1]
  exact hn undef g' w' trivial h3 h4

theorem run_storeVar {t : TypeId} {v : Value} {n k off : Nat} {cur : Array Value} {bt : TypeId} {w : World} (hn : sizeT P t = some n) (hv : v.cells.size = n) (h1 : ∀ u ∈ v.cells, u.oneCell' = true) (hh : w.heap[k]? = some (.cells cur bt (0, 0))) (hl : off + n ≤ cur.size) :
    (storeVar t ⟨k, off, none⟩ v).run P w = .ok () (w.setRow k (cur.toList.take off ++ v.cells.toList ++ cur.toList.drop (off + n)).toArray) := by
  have := run_storeCells_at P k off bt v.cells.toList 0 cur w hh (by simpa [hv] using hl) (fun u hu => h1 u (by simpa using hu))
  simp only [Nat.add_zero] at this
  simp [storeVar, run_sizeOf hn, hv, this]

theorem opD_store_one {t : TypeId} {x y : Operand} {b off : Nat} {B : Bx} {p : Pd} (hn : sizeT P t = some 1) (hx : e.ev x = ptr b off) (hy : (e.ev y).le p) (h1 : p.One) (hB : s.boxes[b]? = some B) (hl : off < B.cs.length) (hb : p.Bnd s.boxes.length s.fr.length) :
    OpD P ⟨dst, .store t x y, ty, pos, after, guard⟩ e s any ⟨s.boxes.set b ⟨B.t, B.cs.set off p⟩, s.fr, s.stat⟩ :=
  opD_skip fun g a w ha hs => by
    have e1 := ha x (by simp [Op.operands])
    have e2 := ha y (by simp [Op.operands])
    rw [hx] at e1
    replace e2 := hy _ _ _ e2
    obtain ⟨k, hk, hv⟩ := e1
    obtain ⟨k', vs, h2, h3, h4, h5, h6, h7⟩ := hs.bx b B hB
    rw [hk] at h2; cases h2
    have hvl := h4.len
    have hvs : B.cs.length ≤ vs.size := by simpa using hvl
    have hne : B.cs ≠ [] := fun h => by rw [h] at hl; simp at hl; try omega
    have hone := h1 _ _ _ e2
    have hc := cells_of_one hone
    have hrun := run_storeVar (P := P) (v := a.eval y) hn (by rw [hc]; rfl) (by rw [hc]; simpa using hone) h3 (off := off) (by omega)
    refine ⟨g, w.setRow k (vs.toList.take off ++ (a.eval y).cells.toList ++ vs.toList.drop (off + 1)).toArray, ?_, ext_setRow hs (List.mem_of_getElem? hk) (h5 hne) _, srel_setRow hs hB hk h3 hne ?_ ?_⟩
    · show (Sem.bind (Instr.storeAt t (a.eval x) (a.eval y)) fun _ => Sem.pure Next.skip).run P w = _
      rw [hv]
      exact run_u hrun
    · have hset : vs.toList.take off ++ [a.eval y] ++ vs.toList.drop (off + 1) = vs.toList.set off (a.eval y) := by
        have : off < vs.toList.length := by omega
        rw [List.set_eq_take_append_cons_drop, if_pos this]
        simp
      show PdsP g w _ (vs.toList.take off ++ (a.eval y).cells.toList ++ vs.toList.drop (off + 1))
      rw [hc, show (vs.toList.take off ++ #[a.eval y].toList ++ vs.toList.drop (off + 1)) = vs.toList.set off (a.eval y) from hset]
      exact h4.set off e2
    · intro q hq
      rcases List.mem_or_eq_of_mem_set hq with hq | rfl
      · exact h7 q hq
      · exact hb

theorem opD_store_agg {t : TypeId} {n : Nat} {x y : Operand} {b off : Nat} {B : Bx} {ps : List Pd} (hn : sizeT P t = some n) (hx : e.ev x = ptr b off) (hy : e.ev y = agg ps) (h1 : ∀ p ∈ ps, p.One) (hB : s.boxes[b]? = some B) (hps : ps.length = n) (hl : off + n ≤ B.cs.length) (hne : B.cs ≠ [])
    (hb : ∀ p ∈ ps, p.Bnd s.boxes.length s.fr.length) :
    OpD P ⟨dst, .store t x y, ty, pos, after, guard⟩ e s any ⟨s.boxes.set b ⟨B.t, B.cs.take off ++ ps ++ B.cs.drop (off + n)⟩, s.fr, s.stat⟩ :=
  opD_skip fun g a w ha hs => by
    have e1 := ha x (by simp [Op.operands])
    have e2 := ha y (by simp [Op.operands])
    rw [hx] at e1
    rw [hy] at e2
    obtain ⟨k, hk, hv⟩ := e1
    obtain ⟨cs, hv2, hp⟩ := e2
    obtain ⟨k', vs, h2, h3, h4, h5, h6, h7⟩ := hs.bx b B hB
    rw [hk] at h2; cases h2
    have hvl := h4.len
    have hvs : B.cs.length ≤ vs.size := by simpa using hvl
    have hpl := hp.length
    have hc : (a.eval y).cells = cs := by rw [hv2]; rfl
    have hrun := run_storeVar (P := P) (v := a.eval y) hn (by rw [hc, ← hps, ← hpl]; simp) (by rw [hc]; intro u hu; exact one_agg_mem h1 hp u (by simpa using hu)) h3 (off := off) (by omega)
    refine ⟨g, w.setRow k (vs.toList.take off ++ (a.eval y).cells.toList ++ vs.toList.drop (off + n)).toArray, ?_, ext_setRow hs (List.mem_of_getElem? hk) (h5 hne) _, srel_setRow hs hB hk h3 hne ?_ ?_⟩
    · show (Sem.bind (Instr.storeAt t (a.eval x) (a.eval y)) fun _ => Sem.pure Next.skip).run P w = _
      rw [hv]
      exact run_u hrun
    · rw [hc]
      exact PdsP.append ((h4.part (by omega)).append hp) (h4.drop (off + n))
    · intro q hq
      rcases List.mem_append.1 hq with hq | hq
      · rcases List.mem_append.1 hq with hq | hq
        · exact h7 q (List.mem_of_mem_take hq)
        · exact hb q hq
      · exact h7 q (List.mem_of_mem_drop hq)

/-! ### Calls -/
/-- What a function does with arguments of which this is known. -/
def AC (P : Program) (f : FuncId) (ps : List Pd) (s : St) (p : Pd) (s' : St) : Prop :=
  ∀ (g : G) (w : World) (vs : List Value), Pds g w ps vs → SRel g s w → Calls P f vs.toArray w fun e w' => ∃ v g', e = .returned v ∧ p.h g' w' v ∧ Ext g w g' w' ∧ SRel g' s' w'

def Args (e : Env) : List Operand → List Pd → Prop
  | [], [] => True
  | x :: xs, p :: ps => (e.ev x).le p ∧ Args e xs ps
  | _, _ => False

theorem Args.pds {e : Env} {g : G} {w : World} {a : Act} : ∀ {xs : List Operand} {ps : List Pd}, Args e xs ps → (∀ x ∈ xs, (e.ev x).h g w (a.eval x)) → Pds g w ps (xs.map a.eval)
  | [], [], _, _ => trivial
  | x :: _, _ :: _, ⟨h1, h2⟩, h => ⟨h1 _ _ _ (h x (by simp)), Args.pds h2 fun y hy => h y (by simp [hy])⟩
  | [], _ :: _, h, _ => h.elim
  | _ :: _, [], h, _ => h.elim

theorem le_of_eq {p q : Pd} (h : p = q) : p.le q := h ▸ Pd.le_refl p

/-- A function that is there, and has a text. -/
def hasText (P : Program) (f : FuncId) : Bool :=
  match P.funcs[f]? with
  | some fn => !(fn.name == "runtime.NumGoroutine") && fn.body.isSome
  | none => false

theorem run_callFunc {f : FuncId} (h : hasText P f = true) (args : Array Value) (w : World) : (callFunc f args).run P w = .ok (.enter f args) w := by
  unfold hasText at h
  cases hf : P.funcs[f]? with
  | none => rw [hf] at h; cases h
  | some fn =>
    rw [hf] at h
    simp only [Bool.and_eq_true, Bool.not_eq_true'] at h
    obtain ⟨h1, h2⟩ := h
    obtain ⟨c, hc⟩ := Option.isSome_iff_exists.1 h2
    have h1' : ¬ fn.name = "runtime.NumGoroutine" := by simpa using h1
    simp [callFunc, go_sem, hf, h1', hc]

theorem opD_call {f : FuncId} {xs : List Operand} {ats : Array TypeId} {ps : List Pd} {p : Pd} {s' : St} (hf : hasText P f = true) (hc : AC P f ps s p s') (hx : Args e xs ps) :
    OpD P ⟨dst, .call { callee := .value (.func f), args := xs.toArray, argTypes := ats }, ty, pos, after, guard⟩ e s p s' := by
  intro g a w next Q ha hs hn
  have h1 := hx.pds (a := a) (g := g) (w := w) fun x hx => ha x (by simp [Op.operands, Call.operands, hx])
  unfold Oper.wp
  have h2 : (execOp a.eval ⟨dst, .call { callee := .value (.func f), args := xs.toArray, argTypes := ats }, ty, pos, after, guard⟩).run P w = .ok (.enter f (xs.map a.eval).toArray) w := by
    show (callFunc f (#[] ++ xs.toArray.map a.eval ++ #[])).run P w = _
    rw [run_callFunc hf]
    simp
  rw [h2]
  show Calls P f (xs.map a.eval).toArray w _
  refine (hc g w _ h1 hs).mono ?_
  rintro en w' ⟨v, g', rfl, hp, hx', hs'⟩
  exact hn v g' w' hp hx' hs'

/-! ### Functions -/
def Res (P : Program) (fn : Func) (e : Env) (s : St) (p : Pd) : Prop :=
  ∀ (g : G) (a : Act) (w : World), (∀ t, (e t).h g w (a.tmps.getD t undef)) → SRel g s w → ∃ v, (results fn a.tmps).run P w = .ok v w ∧ p.h g w v

theorem res_0 {fn : Func} (h : fn.results = #[]) : Res P fn e s (pl (.tuple #[])) := fun _ _ w _ _ => ⟨_, results_none h _ P w, rfl⟩
theorem res_1 {fn : Func} {t : Tmp} {p : Pd} (h : fn.results = #[.tmp t]) (hp : e t = p) : Res P fn e s p := fun _ a w ha _ => ⟨_, results_tmp h _ P w, by rw [← hp]; exact ha t⟩
theorem res_2 {fn : Func} {t u : Tmp} {p q : Pd} (h : fn.results = #[.tmp t, .tmp u]) (hp : e t = p) (hq : e u = q) : Res P fn e s (tup [p, q]) :=
  fun _ a w ha _ => ⟨_, results_tmp2 h _ P w, _, rfl, by rw [← hp]; exact ha t, by rw [← hq]; exact ha u, trivial⟩
theorem res_3 {fn : Func} {t u r : Tmp} {p q z : Pd} (h : fn.results = #[.tmp t, .tmp u, .tmp r]) (hp : e t = p) (hq : e u = q) (hz : e r = z) : Res P fn e s (tup [p, q, z]) :=
  fun _ a w ha _ => ⟨.tuple #[a.tmps.getD t undef, a.tmps.getD u undef, a.tmps.getD r undef], by simp [results, h], _, rfl, by rw [← hp]; exact ha t, by rw [← hq]; exact ha u, by rw [← hz]; exact ha r, trivial⟩

theorem Res.le {fn : Func} {p q : Pd} (h : Res P fn e s p) (hl : p.le q) : Res P fn e s q := fun g a w ha hs => let ⟨v, h1, h2⟩ := h g a w ha hs; ⟨v, h1, hl _ _ _ h2⟩

/-- What is promised behind a function's text. -/
def Done (P : Program) (fn : Func) (s0 : St) (n m : Nat) (p : Pd) (s2 : St) (x : Exit) (e : Env) (s : St) : Prop :=
  (x = .normal ∨ x = .ret) ∧ Res P fn e s p ∧ s2 = ⟨s.boxes.take n, s.fr.take m, s.stat⟩ ∧ s0.boxes.length ≤ n ∧ s0.fr.length ≤ m ∧ n ≤ s.boxes.length ∧ m ≤ s.fr.length ∧ s.stat = s0.stat ∧ p.Bnd n m ∧
    (∀ (i : Nat) (B : Bx), i < n → s.boxes[i]? = some B → s0.boxes[i]? = some B ∨ ∀ q ∈ B.cs, q.Bnd n m)

def envOf (ps : List Pd) : Env := fun t => (ps[t]?).getD any

theorem ac_of_aw {f : FuncId} {fn : Func} {c : Code} {ps : List Pd} {p : Pd} {s2 : St} (n m : Nat) (hf : P.funcs[f]? = some fn) (hb : fn.body = some c) (hn : ps.length ≤ fn.ntmps) (h : AW P fn.ntmps c (Done P fn s n m p s2) (envOf ps) s) : AC P f ps s p s2 := by
  intro g w vs hps hs
  have hvl := hps.length
  refine calls_of_wp hf hb (wp_mono (h g _ w ⟨?_, rfl, fun t => ?_⟩ hs) ?_)
  · simp [hvl]; omega
  · by_cases ht : t < ps.length
    · obtain ⟨v, hv, hp⟩ := hps.get t ps[t] (List.getElem?_eq_getElem ht)
      rw [Array.getD_eq_getD_getElem?, Array.getElem?_append_left (by simp [hvl]; exact ht)]
      simp only [List.getElem?_toArray, hv, Option.getD_some, envOf, List.getElem?_eq_getElem ht]
      exact hp
    · simp only [envOf, List.getElem?_eq_none (Nat.le_of_not_lt ht), Option.getD_none]
      trivial
  · rintro x a1 w1 ⟨e1, s1, g1, ⟨hx, hres, h2, hn1, hm1, hn2, hm2, hst, hbp, hbb⟩, hxt, he1, hs1⟩
    obtain ⟨v, hv1, hv2⟩ := hres g1 a1 w1 he1.tmp hs1
    let g2 : G := ⟨g1.sld, g1.box.take n, fun b => match g1.own b with | some (i, c) => if i < m then some (i, c) else none | none => none, g1.base⟩
    have hbx : ∀ i k, i < n → g1.box[i]? = some k → g2.box[i]? = some k := fun i k hi hk => by
      show (g1.box.take n)[i]? = some k
      rw [List.getElem?_take_of_lt hi]; exact hk
    have how : ∀ b id c, id < m → g1.own b = some (id, c) → g2.own b = some (id, c) := fun b id c hi ho => by
      show (match g1.own b with | some (i, c) => if i < m then some (i, c) else none | none => none) = _
      rw [ho]; simp [hi]
    have how2 : ∀ b i, g2.own b = some i → g1.own b = some i ∧ i.1 < m := fun b i hi => by
      have hi' : (match g1.own b with | some (i, c) => if i < m then some (i, c) else none | none => none) = some i := hi
      cases ho : g1.own b with
      | none => rw [ho] at hi'; cases hi'
      | some ic =>
        obtain ⟨id, c⟩ := ic
        rw [ho] at hi'
        simp only at hi'
        split at hi'
        · rename_i hlt; cases hi'; exact ⟨rfl, hlt⟩
        · cases hi'
    obtain ⟨t, ht, htb⟩ := hxt.box
    have hgl : g.box.length ≤ n := by rw [hs.len]; exact hn1
    have hExt : Ext g w g2 w1 := by
      refine ⟨hxt.os, hxt.tape, hxt.output, hxt.size, hxt.sld, hxt.cell, ⟨t.take (n - g.box.length), ?_, fun b hb => htb b (List.mem_of_mem_take hb)⟩, fun b i hi => ?_, fun b i hi => hxt.fresh b i (how2 b i hi).1, hxt.block, hxt.base⟩
      · show g1.box.take n = _
        rw [ht, List.take_append, List.take_of_length_le hgl]
      · obtain ⟨id, c⟩ := i
        obtain ⟨f, cs, hf, _⟩ := hs.ow b id c hi
        exact how b id c (Nat.lt_of_lt_of_le (List.getElem?_eq_some_iff.1 hf).1 hm1) (hxt.own b _ hi)
    have hS : SRel g2 s2 w1 := by
      subst h2
      refine ⟨?_, ?_, fun i B hB => ?_, fun b id c ho => ?_, hs1.sl, ?_, hs1.sb, hs1.bz⟩
      · show (g1.box.take n).length = (s1.boxes.take n).length
        rw [List.length_take, List.length_take, hs1.len]
      · exact List.Nodup.sublist (List.take_sublist _ _) hs1.nd
      · have hi : i < n := by
          have := (List.getElem?_eq_some_iff.1 hB).1
          simp only [List.length_take] at this
          omega
        rw [List.getElem?_take_of_lt hi] at hB
        obtain ⟨k, cs, e1, e2, e3, e4, e5, e6⟩ := hs1.bx i B hB
        have hlen1 : (s1.boxes.take n).length = n := by rw [List.length_take]; omega
        have hlen2 : (s1.fr.take m).length = m := by rw [List.length_take]; omega
        have hBn : ∀ q ∈ B.cs, q.Bnd n m := by
          rcases hbb i B hi hB with h0 | h0
          · obtain ⟨_, _, _, _, _, _, _, e7⟩ := hs.bx i B h0
            exact fun q hq => (e7 q hq).up hn1 hm1
          · exact h0
        refine ⟨k, cs, hbx i k hi e1, e2, PdsP.bnd (g := g1) (g' := g2) ⟨rfl, rfl⟩ hbx how hBn e3, e4, ?_, ?_⟩
        · show (match g1.own k with | some (i, c) => if i < m then some (i, c) else none | none => none) = none
          rw [e5]
        · simp only [hlen1, hlen2]; exact hBn
      · obtain ⟨ho1, hlt⟩ := how2 b (id, c) ho
        obtain ⟨f, cs, e1, e2⟩ := hs1.ow b id c ho1
        exact ⟨f, cs, by rw [List.getElem?_take_of_lt hlt]; exact e1, e2⟩
      · show s1.stat.h g2 w1 .nilFunc
        exact hs1.sb g1 g2 w1 _ ⟨rfl, rfl⟩ (fun i k hi => by omega) (fun b id c hi => by omega) hs1.st
    have hfin : ∃ v, (results fn a1.tmps).run P w1 = .ok v w1 ∧ ∃ v' g', (Ending.returned v : Ending) = .returned v' ∧ p.h g' w1 v' ∧ Ext g w g' w1 ∧ SRel g' s2 w1 :=
      ⟨v, hv1, v, g2, rfl, hbp g1 g2 w1 v ⟨rfl, rfl⟩ hbx how hv2, hExt, hS⟩
    rcases hx with rfl | rfl
    · exact ⟨he1.defers, hfin⟩
    · exact ⟨he1.defers, hfin⟩

/-- The most frequent end: nothing is left behind. -/
theorem done_pure {fn : Func} {s0 : St} {p : Pd} {x : Exit} (hx : x = .normal ∨ x = .ret) (hr : Res P fn e s p) (hb : s.boxes.take s0.boxes.length = s0.boxes) (hf : s.fr.take s0.fr.length = s0.fr) (hst : s.stat = s0.stat) (hbn : p.Bnd s0.boxes.length s0.fr.length) :
    Done P fn s0 s0.boxes.length s0.fr.length p s0 x e s := by
  have h1 : s0.boxes.length ≤ s.boxes.length := by
    have := congrArg List.length hb
    rw [List.length_take] at this; omega
  have h2 : s0.fr.length ≤ s.fr.length := by
    have := congrArg List.length hf
    rw [List.length_take] at this; omega
  refine ⟨hx, hr, ?_, Nat.le_refl _, Nat.le_refl _, h1, h2, hst, hbn, fun i B hi hB => .inl ?_⟩
  · rw [hb, hf, hst]
  · rw [← hb, List.getElem?_take_of_lt hi]; exact hB
end
end Go.Proofs.YtmnhfpcbfdgbcaaDoor.Eng
