/- The engine: elements that are arrays; drawn regions in which nothing is written. -/
import Derived.Test.YtokcgacehdgkcaaGreatDoorEngX2
import Derived.Laws.Small
import Derived.OpenShut
import Derived.SizedLaws
import Derived.Laws.StructEq
namespace Go.Proofs.YtokcgacehdgkcaaGreatDoor.Eng
set_option linter.unusedVariables false
set_option linter.unusedSimpArgs false
open Go.RowKit


/-- A drawn region in which nothing is written: whatever the order, the state is the same. -/
inductive ZT (P : Program) (ops : Array Oper) (K : Env → Prop) : List Oper → Env → St → Prop
  | nil {e : Env} {s : St} : K e → ZT P ops K [] e s
  | step {o : Oper} {l : List Oper} {e : Env} {s : St} (p : Pd) : Wants ops o e true → OpD P o e s p s → ZT P ops K l (e.put o.dst p) s → ZT P ops K (o :: l) e s
  | skip {o : Oper} {l : List Oper} {e : Env} {s : St} : Wants ops o e false → ZT P ops K l (e.put o.dst (pl undef)) s → ZT P ops K (o :: l) e s

theorem ZT.tr {P : Program} {ops : Array Oper} {K : Env → Prop} {l : List Oper} {e : Env} {s : St} (h : ZT P ops K l e s) : ∃ tr e', TR P ops l e s tr e' s ∧ K e' ∧ (∀ t ∈ tr, isAct t = false ∧ (t.cl = .load → t.L = fun s' => s' = s)) := by
  induction h with
  | nil hk => exact ⟨[], _, .nil, hk, by simp⟩
  | @step o l e s p hw ho _ ih =>
    obtain ⟨tr, e', h1, h2, h3⟩ := ih
    refine ⟨_, e', .load p (fun s' => s' = s) hw (fun s' hs' => by rw [show s' = s from hs']; exact ho) h1, h2, fun t ht => ?_⟩
    rcases List.mem_cons.1 ht with rfl | ht
    · exact ⟨rfl, fun _ => rfl⟩
    · exact h3 t ht
  | skip hw _ ih =>
    obtain ⟨tr, e', h1, h2, h3⟩ := ih
    refine ⟨_, e', .skip hw h1, h2, fun t ht => ?_⟩
    rcases List.mem_cons.1 ht with rfl | ht
    · exact ⟨rfl, fun h => by cases h⟩
    · exact h3 t ht

theorem stAt_none {s : St} : ∀ {tr : List Tr}, (∀ t ∈ tr, isAct t = false) → ∀ k, stAt s tr k = s
  | [], _, 0 => rfl
  | _ :: _, _, 0 => rfl
  | [], _, k + 1 => rfl
  | t :: tr, h, k + 1 => by
    simp only [stAt]
    rw [h t (by simp)]
    exact stAt_none (fun u hu => h u (by simp [hu])) (k + 1)

def FOk (nt : Nat) (ops : List Oper) : Bool := dstsOk nt ops && edgesBack ops && Region.noSelect ops.toArray && orderOk ops (ops.map fun _ => false)

theorem aw_flat {P : Program} {nt id : Nat} {ops : List Oper} {Q : Exit → Env → St → Prop} {e : Env} {s : St} (hm : P.follows .mixedOrders = true) (hd : FOk nt ops = true)
    (h : ZT P ops.toArray (fun e' => Q .normal e' s) ops e s) : AW P nt (.region id ops.toArray true) Q e s := by
  obtain ⟨tr, e', htr, hk, ha⟩ := h.tr
  simp only [FOk, Bool.and_eq_true] at hd
  obtain ⟨⟨⟨h1, h2⟩, h3⟩, h4⟩ := hd
  have hl : ops.length = tr.length := htr.spec.1
  have hm2 : tr.map isAct = ops.map fun _ => false := by
    refine List.ext_getElem (by simp [hl]) fun i hi hi2 => ?_
    simp only [List.getElem_map]
    exact (ha _ (List.getElem_mem _)).1
  refine aw_region_drawn hm h1 h2 h3 htr (by rw [hm2]; exact h4) (fun i t ht hc k _ _ => ?_) hk
  have hmem := List.mem_of_getElem? ht
  rw [(ha t hmem).2 hc]
  exact stAt_none (fun u hu => (ha u hu).1) k

section
variable {P : Program} {ops : Array Oper} {K : Env → Prop} {l : List Oper} {e : Env} {s : St} {dst : Option Tmp} {op : Op} {ty : TypeId} {pos : String} {after : Array Edge} {guard : Option (Nat × Bool)}
theorem zts (p : Pd) (hw : Wants ops ⟨dst, op, ty, pos, after, guard⟩ e true) (ho : OpD P ⟨dst, op, ty, pos, after, guard⟩ e s p s) (h : ZT P ops K l (e.put dst p) s) : ZT P ops K (⟨dst, op, ty, pos, after, guard⟩ :: l) e s := .step p hw ho h
end
section
variable {P : Program} {ops : Array Oper} {K : Env → Prop} {l : List Oper} {e : Env} {s : St} {dst : Option Tmp} {op : Op} {ty : TypeId} {pos : String} {after : Array Edge} {j t : Nat} {want b : Bool}
theorem ztg (p : Pd) (ht : (ops[j]?).bind (·.dst) = some t) (he : Env.ev e (.tmp t) = pl (.bool b)) (ho : (b == want) = true → OpD P ⟨dst, op, ty, pos, after, some (j, want)⟩ e s p s) (h : ZT P ops K l (e.put dst (pif (b == want) p)) s) : ZT P ops K (⟨dst, op, ty, pos, after, some (j, want)⟩ :: l) e s := by
  cases hb : (b == want) with
  | true => rw [pif_pos hb] at h; exact .step p ⟨t, ht, .inl ⟨b, he, hb⟩⟩ (ho hb) h
  | false => rw [pif_neg hb] at h; exact .skip ⟨t, ht, .inl ⟨b, he, hb⟩⟩ h
end
end Go.Proofs.YtokcgacehdgkcaaGreatDoor.Eng

/- The engine: what was made in a piece of code may be forgotten behind it. -/
namespace Go.Proofs.YtokcgacehdgkcaaGreatDoor.Eng
set_option linter.unusedVariables false
set_option linter.unusedSimpArgs false
open Go.RowKit

theorem of_bnd {n m : Nat} : ∀ {l : List (Nat × Pd)}, (∀ p ∈ l.map (·.2), p.Bnd n m) → ∀ t, (Env.of l t).Bnd n m
  | [], _, t => any_bnd _ _
  | (u, p) :: l, h, t => by
    by_cases hu : t = u
    · subst hu; rw [of_same]; exact h _ (by simp)
    · rw [of_ne _ _ _ _ hu]; exact of_bnd (fun q hq => h q (by simp only [List.map_cons, List.mem_cons]; exact .inr hq)) t

theorem bl_nil {n m : Nat} : ∀ B ∈ ([] : List Bx), ∀ q ∈ B.cs, q.Bnd n m := fun B h => by cases h
theorem bl_cons {B : Bx} {bs : List Bx} {n m : Nat} (h : ∀ q ∈ B.cs, q.Bnd n m) (h2 : ∀ C ∈ bs, ∀ q ∈ C.cs, q.Bnd n m) : ∀ C ∈ B :: bs, ∀ q ∈ C.cs, q.Bnd n m := fun C hC => by
  rcases List.mem_cons.1 hC with rfl | hC
  · exact h
  · exact h2 C hC

end Go.Proofs.YtokcgacehdgkcaaGreatDoor.Eng

/- The engine: truth values compared. -/
namespace Go.Proofs.YtokcgacehdgkcaaGreatDoor.Eng
set_option linter.unusedVariables false
set_option linter.unusedSimpArgs false
open Go.RowKit
section
variable {P : Program} {e : Env} {s : St} {dst : Option Tmp} {ty : TypeId} {pos : String} {after : Array Edge} {guard : Option (Nat × Bool)} {xt yt : TypeId} {x y : Operand} {a b : Bool}
theorem opD_beql (ht : P.underlying xt = some .bool) (hx : e.ev x = pl (.bool a)) (hy : e.ev y = pl (.bool b)) : OpD P ⟨dst, .binOp .eql xt x y yt, ty, pos, after, guard⟩ e s (pl (.bool (a == b))) s :=
  opD_bin hx hy (fun w => by simp [go_sem]) (fun w => by simp [binOp, run_equal_bool w xt a b ht])
theorem opD_bneq (ht : P.underlying xt = some .bool) (hx : e.ev x = pl (.bool a)) (hy : e.ev y = pl (.bool b)) : OpD P ⟨dst, .binOp .neq xt x y yt, ty, pos, after, guard⟩ e s (pl (.bool (a != b))) s :=
  opD_bin hx hy (fun w => by simp [go_sem]) (fun w => by simp [binOp, run_equal_bool w xt a b ht, bne])
end
end Go.Proofs.YtokcgacehdgkcaaGreatDoor.Eng

/- The engine: from what a row lays to what a contract asks. -/
namespace Go.Proofs.YtokcgacehdgkcaaGreatDoor.Eng
set_option linter.unusedVariables false
set_option linter.unusedSimpArgs false
open Go.RowKit Go.ChangeShapes Go.WideShapes

/-- At the start: all that there is is sealed. -/
def G0 (w : World) : G := ⟨fun b => match w.heap[b]? with | some (.cells cs _ _) => cs.size | _ => 0, [], fun _ => none, w.heap.size⟩

theorem cell_at {w : World} {a : Addr} {v : Value} (h : w.cell? a = some v) : a = ⟨a.block, a.off, none⟩ ∧ a.off < (G0 w).sld a.block := by
  obtain ⟨b, o, sp⟩ := a
  simp only [World.cell?] at h
  simp only [G0]
  cases hb : w.heap[b]? with
  | none => rw [hb] at h; cases h
  | some ob =>
    rw [hb] at h
    cases ob with
    | cells c _ _ =>
      simp only at h
      cases sp with
      | some x => simp at h
      | none =>
        simp only [Option.isSome_none, Bool.false_eq_true, if_false] at h
        exact ⟨rfl, (Array.getElem?_eq_some_iff.1 h).1⟩
    | _ => simp at h

/-! ### What is laid, opened -/
/-- No row of it is longer than a machine can hold. -/
def Light {H : Type} (P : Program) (t : TypeId) (x : DataW H) : Prop := ∀ n ∈ x.weights P t, n ≤ reachBytes
theorem weights_mem_all {H : Type} {P : Program} {e : TypeId} : ∀ {ds : List (DataW H)} {d : DataW H}, d ∈ ds → ∀ n ∈ d.weights P e, n ∈ DataW.weightsAll P e ds
  | d0 :: ds, d, hd, n, hn => by
    simp only [DataW.weightsAll, List.mem_append]
    rcases List.mem_cons.1 hd with rfl | hd
    · exact .inl hn
    · exact .inr (weights_mem_all hd n hn)
  | [], _, hd, _, _ => by cases hd
theorem light_of {H : Type} {P : Program} {ts : List TypeId} {ds : List (DataW H)} (h : (DataW.weightsEach P ts ds).all (· ≤ reachBytes) = true) {j : Nat} {t : TypeId} {d : DataW H} (ht : ts[j]? = some t) (hd : ds[j]? = some d) : Light P t d := fun n hn => by
  have := List.all_eq_true.1 h _ (DataW.weights_mem_each ht hd n hn)
  simpa using this
def OpensK {α : Type} (P : Program) (t : TypeId) (k : Kn α) (Wf : α → Prop) : Prop :=
  ∀ (H : Type) (enc : TypeId × Value → H) (w : World) (fuel : Nat) (cs : List Value) (x : DataW H × List MemPlace),
    DataW.trod enc P w 0 (fun _ => true) true fuel t cs = some x → Light P t x.1 → ∃ a : α, Pds (G0 w) w (k.cs a) cs ∧ Wf a

theorem openk_int {P : Program} {t : TypeId} {k : IntKind} (ht : P.underlying t = some (.int k)) : OpensK P t (kI k) (fun n => (Lit.int k n).wf = true) := by
  intro H enc w fuel cs x h _
  obtain ⟨n, rfl, hx, hw⟩ := DataW.trod_int ht h
  exact ⟨n, ⟨rfl, trivial⟩, hw⟩
theorem openk_bool {P : Program} {t : TypeId} (ht : P.underlying t = some .bool) : OpensK P t kB (fun _ => True) := by
  intro H enc w fuel cs x h _
  obtain ⟨n, rfl, hx⟩ := DataW.trod_bool ht h
  exact ⟨n, ⟨rfl, trivial⟩, trivial⟩
theorem openk_string {P : Program} {t : TypeId} (ht : P.underlying t = some .string) : OpensK P t kS (fun s => s.size ≤ maxLen) := by
  intro H enc w fuel cs x h _
  obtain ⟨n, rfl, hx, hw⟩ := DataW.trod_string ht h
  exact ⟨n, ⟨rfl, trivial⟩, hw⟩

theorem open_arg {α : Type} {H : Type} {enc : TypeId × Value → H} {P : Program} {t : TypeId} {k : Kn α} {Wf : α → Prop} {W : World} {v : Value} {d : DataW H} {p : List MemPlace} (he : OpensK P t k Wf) (h : DataW.Trod enc P W 0 (fun _ => true) true t v d p) (hlt : Light P t d) {vs : List Value} (hv : v.cells.toList = vs) : ∃ a : α, Pds (G0 W) W (k.cs a) vs ∧ Wf a := by
  subst hv
  obtain ⟨fuel, hf⟩ := h
  exact he _ enc W fuel _ _ hf hlt

/-- One kind behind another. -/
def kPair {α β : Type} (a : Kn α) (b : Kn β) : Kn (α × β) := ⟨a.sz + b.sz, fun x => a.cs x.1 ++ b.cs x.2, fun x => by rw [List.length_append, a.len, b.len], fun x p hp => by
  rcases List.mem_append.1 hp with h | h
  · exact a.one _ p h
  · exact b.one _ p h⟩

theorem openk_of {α β : Type} {P : Program} {t : TypeId} {k : Kn α} {k' : Kn β} {Wf : α → Prop} {Wf' : β → Prop} (g : α → β) (h : OpensK P t k Wf) (hg : ∀ a, Wf a → k'.cs (g a) = k.cs a) (hw : ∀ a, Wf a → Wf' (g a)) : OpensK P t k' Wf' := by
  intro H enc w fuel cs x hx hlt
  obtain ⟨a, h1, h2⟩ := h _ enc w fuel cs x hx hlt
  exact ⟨g a, by rw [hg a h2]; exact h1, hw a h2⟩

/-- A struct's fields from the offset off on. -/
def OpensF {α : Type} (P : Program) (off : Nat) (fs : List Field) (d : Kn α) (Wf : α → Prop) : Prop :=
  ∀ (H : Type) (enc : TypeId × Value → H) (w : World) (fuel : Nat) (cs : List Value),
    (∀ f, f ∈ fs → ∃ x : DataW H × List MemPlace, DataW.trod enc P w 0 (fun _ => true) true fuel f.type ((cs.drop f.offset).take (P.cellsOf f.type)) = some x ∧ Light P f.type x.1) → ∃ a : α, Pds (G0 w) w (d.cs a) ((cs.drop off).take d.sz) ∧ Wf a
theorem openf_last {α : Type} {P : Program} {off : Nat} {f : Field} {d : Kn α} {Wf : α → Prop} (ho : f.offset = off) (hc : P.cellsOf f.type = d.sz) (he : OpensK P f.type d Wf) : OpensF P off [f] d Wf := by
  intro H enc w fuel cs h
  obtain ⟨x, hx, hlt⟩ := h f (by simp)
  rw [ho, hc] at hx
  exact he _ enc w fuel _ x hx hlt
theorem openf_cons {α β : Type} {P : Program} {off : Nat} {f : Field} {fs : List Field} {d : Kn α} {d2 : Kn β} {Wf : α → Prop} {Wf2 : β → Prop} (ho : f.offset = off) (hc : P.cellsOf f.type = d.sz) (he : OpensK P f.type d Wf) (hr : OpensF P (off + d.sz) fs d2 Wf2) :
    OpensF P off (f :: fs) (kPair d d2) (fun p => Wf p.1 ∧ Wf2 p.2) := by
  intro H enc w fuel cs h
  obtain ⟨x, hx, hlt⟩ := h f (by simp)
  rw [ho, hc] at hx
  obtain ⟨a, ha, wa⟩ := he _ enc w fuel _ x hx hlt
  obtain ⟨b, hb, wb⟩ := hr _ enc w fuel cs (fun g hg => h g (List.mem_cons_of_mem _ hg))
  refine ⟨(a, b), ?_, wa, wb⟩
  show Pds _ _ _ (List.take (d.sz + d2.sz) _)
  rw [List.take_add, List.drop_drop]
  exact ha.append hb
theorem openk_struct {α : Type} {P : Program} {t : TypeId} {fs : Array Field} {d : Kn α} {Wf : α → Prop} (ht : P.underlying t = some (.struct fs)) (hct : P.cellsOf t = d.sz) (hr : OpensF P 0 fs.toList d Wf) : OpensK P t d Wf := by
  intro H enc w fuel cs x h hlt
  obtain ⟨xs, m, rfl, rfl, hl, hx, hel⟩ := DataW.trod_struct ht h
  obtain ⟨a, ha, wa⟩ := hr _ enc w m cs (fun f hf => by
    obtain ⟨i, hi⟩ := List.mem_iff_getElem?.1 hf
    have h1 : fs[i]? = some f := by simpa using hi
    have h2 : i < xs.length := by
      rw [hx]
      by_cases h3 : i < fs.size
      · exact h3
      · rw [Array.getElem?_eq_none (by omega)] at h1
        cases h1
    exact ⟨xs[i], (hel i f h1).trans (List.getElem?_eq_getElem h2), fun n hn => hlt n (by
      have := DataW.weights_mem_each (P := P) (ts := fs.toList.map (·.type)) (ds := xs.map (·.1)) (j := i) (t := f.type) (d := xs[i].1) (by simp [h1]) (by simp [h2]) n hn
      simpa [DataW.weights, ht] using this)⟩)
  rw [List.drop_zero, List.take_of_length_le (by omega)] at ha
  exact ⟨a, ha, wa⟩
end Go.Proofs.YtokcgacehdgkcaaGreatDoor.Eng

/- The engine: structs read and compared. -/
namespace Go.Proofs.YtokcgacehdgkcaaGreatDoor.Eng
set_option linter.unusedVariables false
set_option linter.unusedSimpArgs false
open Go.RowKit
section
variable {P : Program} {e : Env} {s : St} {dst : Option Tmp} {ty : TypeId} {pos : String} {after : Array Edge} {guard : Option (Nat × Bool)}
theorem opD_load_aggX {t : TypeId} {n : Nat} {x : Operand} {b off : Nat} {B : Bx} {qs : List Pd} (ht : aggT P t = some true) (hn : sizeT P t = some n) (hx : e.ev x = ptr b off) (hB : s.boxes[b]? = some B) (hl : off + n ≤ B.cs.length) (hq : (B.cs.drop off).take n = qs) (hT : Nat.blt B.t HOT = true := by rfl) :
    OpD P ⟨dst, .load t x, ty, pos, after, guard⟩ e s (agg qs) s := by subst hq; exact opD_load_agg (hT := hT) ht hn hx hB hl
theorem agg_plain {us : List Value} {g : G} {w : World} {v : Value} (h : (agg (us.map pl)).h g w v) : v = .agg us.toArray := by
  obtain ⟨cs, hv, hp⟩ := h
  have : ∀ {us vs : List Value}, Pds g w (us.map pl) vs → vs = us := by
    intro us
    induction us with
    | nil => intro vs h; cases vs with
      | nil => rfl
      | cons _ _ => exact h.elim
    | cons u us ih => intro vs h; cases vs with
      | nil => exact h.elim
      | cons v vs => rw [show v = u from h.1, ih h.2]
  rw [hv, ← this hp]
/-- Two structs of plain cells, compared. -/
theorem opD_binA {op : BinOp} {xt yt : TypeId} {x y : Operand} {r : Value} (us vs : List Value) (hx : e.ev x = agg (us.map pl)) (hy : e.ev y = agg (vs.map pl)) (hg : ∀ w, (eqGuard op xt x y (.agg us.toArray) (.agg vs.toArray)).run P w = .ok () w) (hr : ∀ w, (binOp op xt (.agg us.toArray) (.agg vs.toArray)).run P w = .ok r w) :
    OpD P ⟨dst, .binOp op xt x y yt, ty, pos, after, guard⟩ e s (pl r) s :=
  opD_look fun g a w ha _ => by
    have h1 := ha x (by simp [Op.operands])
    have h2 := ha y (by simp [Op.operands])
    rw [hx] at h1
    rw [hy] at h2
    have e1 := agg_plain h1
    have e2 := agg_plain h2
    exact ⟨r, by generalize a.eval = ρ at e1 e2 ⊢; simp [execOp, e1, e2, go_sem, hg, hr], rfl⟩
end

theorem eqf_nil {P : Program} {d : Nat} {xs ys : Array Value} {w : World} : (Op.eqFields d xs ys []).run P w = .ok true w := by simp [Op.eqFields]
theorem eqf_cons {P : Program} {d : Nat} {xs ys : Array Value} {w : World} {f : Field} {fs : List Field} {a b : Value} {r1 r2 : Bool} (hn : (f.name == "_") = false) (ha : (part f.type xs f.offset).run P w = .ok a w) (hb : (part f.type ys f.offset).run P w = .ok b w) (he : (Op.equalIn d f.type a b).run P w = .ok r1 w)
    (hr : (Op.eqFields d xs ys fs).run P w = .ok r2 w) : (Op.eqFields d xs ys (f :: fs)).run P w = .ok (r1 && r2) w := by
  have hn' : f.name ≠ "_" := by simpa using hn
  rw [Op.eqFields, if_pos hn']
  cases r1 <;> simp [Sem.run_bind, ha, hb, he, hr]
theorem eqS {P : Program} {t : TypeId} {fs : Array Field} {xs ys : Array Value} {w : World} {r : Bool} (hu : P.underlying t = some (.struct fs)) (hp : P.stoodInHeld t = false) (h : (Op.eqFields 9999 xs ys fs.toList).run P w = .ok r w) :
    (binOp .eql t (.agg xs) (.agg ys)).run P w = .ok (.bool r) w ∧ (binOp .neq t (.agg xs) (.agg ys)).run P w = .ok (.bool (!r)) w := by
  have hf : P.fieldsOf t = fs := by simp [Program.fieldsOf, hu]
  have h1 := run_equalIn_struct w 9999 t xs ys (by rw [hf]; exact hu) hp
  rw [hf, h] at h1
  refine ⟨?_, ?_⟩
  · rw [run_eql_struct, h1]; rfl
  · rw [run_neq_struct, h1]; rfl
end Go.Proofs.YtokcgacehdgkcaaGreatDoor.Eng

/- The engine: what is known of variables, weakened. -/
namespace Go.Proofs.YtokcgacehdgkcaaGreatDoor.Eng
set_option linter.unusedVariables false
set_option linter.unusedSimpArgs false
open Go.RowKit
def BxLe : List Bx → List Bx → Prop
  | [], [] => True
  | B :: bs, C :: cs => B.t = C.t ∧ LeL B.cs C.cs ∧ BxLe bs cs
  | _, _ => False
theorem BxLe.length : ∀ {bs cs : List Bx}, BxLe bs cs → bs.length = cs.length
  | [], [], _ => rfl
  | _ :: _, _ :: _, ⟨_, _, h⟩ => by simp [BxLe.length h]
  | [], _ :: _, h => h.elim
  | _ :: _, [], h => h.elim
theorem BxLe.get : ∀ {bs cs : List Bx}, BxLe bs cs → ∀ (i : Nat) (C : Bx), cs[i]? = some C → ∃ B, bs[i]? = some B ∧ B.t = C.t ∧ LeL B.cs C.cs
  | [], [], _, i, C, h => by simp at h
  | B :: _, D :: _, ⟨h1, h2, _⟩, 0, C, h => by simp at h; subst h; exact ⟨B, rfl, h1, h2⟩
  | _ :: _, _ :: _, ⟨_, _, h3⟩, i + 1, C, h => by
    simp only [List.getElem?_cons_succ] at h ⊢
    exact BxLe.get h3 i C h
  | [], _ :: _, h, _, _, _ => h.elim
  | _ :: _, [], h, _, _, _ => h.elim
theorem LeL.length : ∀ {ps qs : List Pd}, LeL ps qs → ps.length = qs.length
  | [], [], _ => rfl
  | _ :: _, _ :: _, ⟨_, h⟩ => by simp [LeL.length h]
  | [], _ :: _, h => h.elim
  | _ :: _, [], h => h.elim
theorem LeL.refl : ∀ ps : List Pd, LeL ps ps
  | [] => trivial
  | _ :: ps => ⟨Pd.le_refl _, LeL.refl ps⟩
theorem bxle_nil : BxLe [] [] := trivial
theorem bxle_same {B : Bx} {bs cs : List Bx} (hr : BxLe bs cs) : BxLe (B :: bs) (B :: cs) := ⟨rfl, LeL.refl _, hr⟩
end Go.Proofs.YtokcgacehdgkcaaGreatDoor.Eng

/- The engine: a region whose order is drawn, with one variable made at any time. -/
namespace Go.Proofs.YtokcgacehdgkcaaGreatDoor.Eng
set_option linter.unusedVariables false
set_option linter.unusedSimpArgs false
open Go.RowKit

def n0 (ops : List Oper) (a i : Nat) : Bool := !((ancT ops).getD i 0).testBit a
def StepOk2 (P : Program) (ops : Array Oper) (b0 b1 : Bool) (o : Oper) (e : Env) (s s1 z z1 : St) (t : Tr) : Prop :=
  match t.cl with
  | .pure => (Wants ops o e true ∧ ∀ s, OpD P o e s t.p s) ∨ (Wants ops o e false ∧ t.p = pl undef)
  | .load => Wants ops o e true ∧ ∀ s, t.L s → OpD P o e s t.p s
  | .act => Wants ops o e true ∧ (b0 = true → OpD P o e s t.p s1) ∧ (b1 = true → OpD P o e z t.p z1)
section
variable {P : Program} {ops : List Oper} {nt : Nat} {m : Nat × Option Nat} {e e' : Env} {s s' z : St} {tr tr2 : List Tr} {a : Nat} {g0 : G} {w0 : World} {Q : Exit → Env → St → Prop}

end
end Go.Proofs.YtokcgacehdgkcaaGreatDoor.Eng

/- The engine: the rules for such a region. -/
namespace Go.Proofs.YtokcgacehdgkcaaGreatDoor.Eng
set_option linter.unusedVariables false
set_option linter.unusedSimpArgs false
open Go.RowKit


theorem stAt_skip {s : St} {t : Tr} {tr : List Tr} (h : isAct t = false) (k : Nat) : stAt s (t :: tr) k = stAt s tr k := by
  cases k with
  | zero => cases tr <;> rfl
  | succ k => simp [stAt, h]
theorem stAt_act {s : St} {t : Tr} {tr : List Tr} (h : isAct t = true) (k : Nat) : stAt s (t :: tr) (k + 1) = stAt t.s1 tr k := by simp [stAt, h]
theorem cnt_skip {t : Tr} {tr : List Tr} (h : isAct t = false) (j : Nat) : cntAt (t :: tr) (j + 1) = cntAt tr j := by simp [cntAt, h]
theorem cnt_act {t : Tr} {tr : List Tr} (h : isAct t = true) (j : Nat) : cntAt (t :: tr) (j + 1) = cntAt tr j + 1 := by simp [cntAt, h]
theorem stAt_zero {s : St} {tr : List Tr} : stAt s tr 0 = s := by cases tr <;> rfl

inductive DT2 (P : Program) (ops : Array Oper) (bs : List (Bool × Bool)) (a : Nat) (K : List Tr → List Tr → Env → St → St → Prop) : Nat → List Oper → Env → St → St → List Tr → List Tr → Prop
  | nil {i : Nat} {e : Env} {s z : St} {acc acc2 : List Tr} : K acc acc2 e s z → DT2 P ops bs a K i [] e s z acc acc2
  | pure {i : Nat} {o : Oper} {l : List Oper} {e : Env} {s z : St} {acc acc2 : List Tr} (p : Pd) : i ≠ a → Wants ops o e true → (∀ s, OpD P o e s p s) → DT2 P ops bs a K (i + 1) l (e.put o.dst p) s z (acc ++ [⟨.pure, p, s, fun _ => True⟩]) (acc2 ++ [⟨.pure, p, z, fun _ => True⟩]) → DT2 P ops bs a K i (o :: l) e s z acc acc2
  | skip {i : Nat} {o : Oper} {l : List Oper} {e : Env} {s z : St} {acc acc2 : List Tr} : i ≠ a → Wants ops o e false → DT2 P ops bs a K (i + 1) l (e.put o.dst (pl undef)) s z (acc ++ [⟨.pure, pl undef, s, fun _ => True⟩]) (acc2 ++ [⟨.pure, pl undef, z, fun _ => True⟩]) → DT2 P ops bs a K i (o :: l) e s z acc acc2
  | load {i : Nat} {o : Oper} {l : List Oper} {e : Env} {s z : St} {acc acc2 : List Tr} (p : Pd) (L : St → Prop) : i ≠ a → Wants ops o e true → (∀ s, L s → OpD P o e s p s) → DT2 P ops bs a K (i + 1) l (e.put o.dst p) s z (acc ++ [⟨.load, p, s, L⟩]) (acc2 ++ [⟨.load, p, z, L⟩]) → DT2 P ops bs a K i (o :: l) e s z acc acc2
  | act {i : Nat} {o : Oper} {l : List Oper} {e : Env} {s z s1 z1 : St} {acc acc2 : List Tr} (p : Pd) (b0 b1 : Bool) : i ≠ a → bs[i]? = some (b0, b1) → Wants ops o e true → (b0 = true → OpD P o e s p s1) → (b1 = true → OpD P o e z p z1) → DT2 P ops bs a K (i + 1) l (e.put o.dst p) s1 z1 (acc ++ [⟨.act, p, s1, fun _ => True⟩]) (acc2 ++ [⟨.act, p, z1, fun _ => True⟩]) → DT2 P ops bs a K i (o :: l) e s z acc acc2
  | flt {i : Nat} {o : Oper} {l : List Oper} {e : Env} {s z : St} {acc acc2 : List Tr} (p : Pd) : i = a → o.guard = none → DT2 P ops bs a K (i + 1) l (e.put o.dst p) s z (acc ++ [⟨.pure, p, s, fun _ => True⟩]) (acc2 ++ [⟨.pure, p, z, fun _ => True⟩]) → DT2 P ops bs a K i (o :: l) e s z acc acc2

def Spec2 (P : Program) (ops : Array Oper) (bs : List (Bool × Bool)) (a i : Nat) (l : List Oper) (e : Env) (s z : St) (tr tr2 : List Tr) : Prop :=
  ∀ (j : Nat) (o : Oper) (t : Tr), l[j]? = some o → tr[j]? = some t → (i + j = a → o.guard = none ∧ isAct t = false) ∧ (i + j ≠ a → ∀ b0 b1, bs[i + j]? = some (b0, b1) → StepOk2 P ops b0 b1 o (envAt e l tr j) (stAt s tr (cntAt tr j)) (stAt s tr (cntAt tr j + 1)) (stAt z tr2 (cntAt tr j)) (stAt z tr2 (cntAt tr j + 1)) t)

theorem spec2_skip {P : Program} {ops : Array Oper} {bs : List (Bool × Bool)} {a i : Nat} {o : Oper} {l : List Oper} {e : Env} {s z : St} {t t2 : Tr} {tr tr2 : List Tr} (ht : isAct t = false) (ht2 : isAct t2 = false) (h0 : (i = a → o.guard = none ∧ isAct t = false) ∧ (i ≠ a → ∀ b0 b1, StepOk2 P ops b0 b1 o e s s z z t)) (hc : t.cl ≠ .act)
    (h : Spec2 P ops bs a (i + 1) l (e.put o.dst t.p) s z tr tr2) : Spec2 P ops bs a i (o :: l) e s z (t :: tr) (t2 :: tr2) := by
  intro j o' t' hj htj
  cases j with
  | zero =>
    simp at hj htj; subst hj; subst htj
    refine ⟨fun hi => h0.1 (by omega), fun hi b0 b1 _ => ?_⟩
    have := h0.2 (by omega) b0 b1
    unfold StepOk2 at this ⊢
    cases hcl : t.cl with
    | pure => rw [hcl] at this; exact this
    | load => rw [hcl] at this; exact this
    | act => exact absurd hcl hc
  | succ j =>
    have h5 := h j o' t' (by simpa using hj) (by simpa using htj)
    rw [cnt_skip ht, stAt_skip ht, stAt_skip ht, stAt_skip ht2, stAt_skip ht2]
    rw [show i + 1 + j = i + (j + 1) by omega] at h5
    exact h5

theorem DT2.spec {P : Program} {ops : Array Oper} {bs : List (Bool × Bool)} {a : Nat} {K : List Tr → List Tr → Env → St → St → Prop} {i : Nat} {l : List Oper} {e : Env} {s z : St} {acc acc2 : List Tr} (h : DT2 P ops bs a K i l e s z acc acc2) :
    ∃ tr tr2 e' s' z', K (acc ++ tr) (acc2 ++ tr2) e' s' z' ∧ l.length = tr.length ∧ tr2.length = tr.length ∧ tr2.map isAct = tr.map isAct ∧ e' = envAt e l tr l.length ∧ z' = stAt z tr2 (tr.countP isAct) ∧ Spec2 P ops bs a i l e s z tr tr2 := by
  induction h with
  | @nil i e s z acc acc2 hk => exact ⟨[], [], e, s, z, by simpa using hk, rfl, rfl, rfl, rfl, by simp [stAt_zero], fun j o t hj => by simp at hj⟩
  | @pure i o l e s z acc acc2 p hia hw ho _ ih =>
    obtain ⟨tr, tr2, e', s', z', h1, h2, h3, h4, h5, h6, h7⟩ := ih
    refine ⟨⟨.pure, p, s, fun _ => True⟩ :: tr, ⟨.pure, p, z, fun _ => True⟩ :: tr2, e', s', z', by simpa using h1, by simp [h2], by simp [h3], by simp only [List.map_cons, h4]; rfl, by simpa [envAt] using h5, ?_, spec2_skip rfl rfl ⟨fun h => absurd h hia, fun _ b0 b1 => .inl ⟨hw, ho⟩⟩ (by simp) h7⟩
    rw [stAt_skip rfl, List.countP_cons_of_neg (by simp [isAct])]; exact h6
  | @skip i o l e s z acc acc2 hia hw _ ih =>
    obtain ⟨tr, tr2, e', s', z', h1, h2, h3, h4, h5, h6, h7⟩ := ih
    refine ⟨⟨.pure, pl undef, s, fun _ => True⟩ :: tr, ⟨.pure, pl undef, z, fun _ => True⟩ :: tr2, e', s', z', by simpa using h1, by simp [h2], by simp [h3], by simp only [List.map_cons, h4]; rfl, by simpa [envAt] using h5, ?_, spec2_skip rfl rfl ⟨fun h => absurd h hia, fun _ b0 b1 => .inr ⟨hw, rfl⟩⟩ (by simp) h7⟩
    rw [stAt_skip rfl, List.countP_cons_of_neg (by simp [isAct])]; exact h6
  | @load i o l e s z acc acc2 p L hia hw ho _ ih =>
    obtain ⟨tr, tr2, e', s', z', h1, h2, h3, h4, h5, h6, h7⟩ := ih
    refine ⟨⟨.load, p, s, L⟩ :: tr, ⟨.load, p, z, L⟩ :: tr2, e', s', z', by simpa using h1, by simp [h2], by simp [h3], by simp only [List.map_cons, h4]; rfl, by simpa [envAt] using h5, ?_, spec2_skip rfl rfl ⟨fun h => absurd h hia, fun _ b0 b1 => ⟨hw, ho⟩⟩ (by simp) h7⟩
    rw [stAt_skip rfl, List.countP_cons_of_neg (by simp [isAct])]; exact h6
  | @flt i o l e s z acc acc2 p hia hg _ ih =>
    obtain ⟨tr, tr2, e', s', z', h1, h2, h3, h4, h5, h6, h7⟩ := ih
    refine ⟨⟨.pure, p, s, fun _ => True⟩ :: tr, ⟨.pure, p, z, fun _ => True⟩ :: tr2, e', s', z', by simpa using h1, by simp [h2], by simp [h3], by simp only [List.map_cons, h4]; rfl, by simpa [envAt] using h5, ?_, spec2_skip rfl rfl ⟨fun _ => ⟨hg, rfl⟩, fun h => absurd hia h⟩ (by simp) h7⟩
    rw [stAt_skip rfl, List.countP_cons_of_neg (by simp [isAct])]; exact h6
  | @act i o l e s z s1 z1 acc acc2 p b0 b1 hia hbs hw ho0 ho1 _ ih =>
    obtain ⟨tr, tr2, e', s', z', h1, h2, h3, h4, h5, h6, h7⟩ := ih
    refine ⟨⟨.act, p, s1, fun _ => True⟩ :: tr, ⟨.act, p, z1, fun _ => True⟩ :: tr2, e', s', z', by simpa using h1, by simp [h2], by simp [h3], by simp only [List.map_cons, h4]; rfl, by simpa [envAt] using h5, ?_, fun j o' t' hj htj => ?_⟩
    · rw [List.countP_cons_of_pos (by simp [isAct]), stAt_act rfl]; exact h6
    · cases j with
      | zero =>
        simp at hj htj; subst hj; subst htj
        refine ⟨fun hi => absurd (by omega) hia, fun hi c0 c1 hc => ?_⟩
        rw [Nat.add_zero, hbs] at hc; cases hc
        refine ⟨hw, fun hb => ?_, fun hb => ?_⟩
        · simpa [cntAt, stAt, isAct, envAt, stAt_zero] using ho0 hb
        · simpa [cntAt, stAt, isAct, envAt, stAt_zero] using ho1 hb
      | succ j =>
        have h8 := h7 j o' t' (by simpa using hj) (by simpa using htj)
        rw [cnt_act rfl, stAt_act rfl, stAt_act rfl, stAt_act rfl, stAt_act rfl]
        rw [show i + 1 + j = i + (j + 1) by omega] at h8
        exact h8

def AllF (P : Program) (o : Oper) (p : Pd) (s : St) (tr : List Tr) (z : St) (tr2 : List Tr) : List Nat → Prop
  | [] => True
  | k :: ks => (∀ e, OpD P o e (stAt s tr k) p (stAt z tr2 k)) ∧ AllF P o p s tr z tr2 ks
theorem AllF.at {P : Program} {o : Oper} {p : Pd} {s z : St} {tr tr2 : List Tr} : ∀ {ks : List Nat}, AllF P o p s tr z tr2 ks → ∀ k ∈ ks, ∀ e, OpD P o e (stAt s tr k) p (stAt z tr2 k)
  | [], _, _, h => by cases h
  | _ :: _, ⟨h1, h2⟩, k, h => by
    rcases List.mem_cons.1 h with rfl | h
    · exact h1
    · exact AllF.at h2 k h

section
variable {P : Program} {ops : Array Oper} {bs2 : List (Bool × Bool)} {a i : Nat} {K : List Tr → List Tr → Env → St → St → Prop} {l : List Oper} {e : Env} {s z : St} {acc acc2 : List Tr} {dst : Option Tmp} {op : Op} {ty : TypeId} {pos : String} {after : Array Edge}
end
end Go.Proofs.YtokcgacehdgkcaaGreatDoor.Eng
