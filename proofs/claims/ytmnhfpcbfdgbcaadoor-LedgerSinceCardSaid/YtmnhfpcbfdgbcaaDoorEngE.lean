/- The engine, fifth part: variables, calls and functions. -/
import Derived.Test.YtmnhfpcbfdgbcaaDoorEngD
import Derived.Laws.Rows
import Derived.Laws.Tables
namespace Go.Proofs.YtmnhfpcbfdgbcaaDoor.Eng
set_option linter.unusedVariables false
set_option linter.unusedSimpArgs false
open Go.RowKit

/-- One cell. -/
def Pd.One (p : Pd) : Prop := ∀ g w v, p.h g w v → v.oneCell' = true
theorem one_pl {x : Value} (h : x.oneCell' = true) : (pl x).One := fun _ _ _ hv => by rw [show _ = x from hv]; exact h
theorem one_ptr (b off : Nat) : (ptr b off).One := fun _ _ _ ⟨_, _, hv⟩ => by rw [hv]; rfl
theorem one_ifc (t : TypeId) (p : Pd) : (ifc t p).One := fun _ _ _ ⟨_, hv, _⟩ => by rw [hv]; rfl
theorem one_sl {α : Type} (k : Kn α) (o : Option Nat) (nl : Option Bool) (l : List α) : (sl k o nl l).One := fun _ _ _ ⟨_, _, hv, _⟩ => by rw [hv]; rfl
theorem cells_of_one {v : Value} (h : v.oneCell' = true) : v.cells = #[v] := by
  cases v <;> first | rfl | cases h
theorem one_agg_mem {ps : List Pd} (h : ∀ p ∈ ps, p.One) {g : G} {w : World} {vs : List Value} (hv : Pds g w ps vs) : ∀ v ∈ vs, v.oneCell' = true := by
  induction ps generalizing vs with
  | nil => cases vs with
    | nil => intro v hv; cases hv
    | cons => exact hv.elim
  | cons p ps ih => cases vs with
    | nil => exact hv.elim
    | cons u vs =>
      intro v hm
      rcases List.mem_cons.1 hm with rfl | hm
      · exact h p (by simp) _ _ _ hv.1
      · exact ih (fun q hq => h q (by simp [hq])) hv.2 v hm

/-! ### Making a variable -/
theorem alloc_heap_new (w : World) (o : Obj) : (w.alloc o).heap[w.heap.size]? = some o := by
  show (w.heap.push o)[w.heap.size]? = _
  simp
theorem alloc_heap_old (w : World) (o : Obj) {k : Nat} (h : k < w.heap.size) : (w.alloc o).heap[k]? = w.heap[k]? := Below.heap_alloc w o k h
theorem cell_alloc_old (w : World) (o : Obj) {b off : Nat} (h : b < w.heap.size) : (w.alloc o).cell? ⟨b, off, none⟩ = w.cell? ⟨b, off, none⟩ :=
  World.cell?_of_block (w := w) (alloc_heap_old w o h)

def G.addBox (g : G) (k : Nat) : G := ⟨g.sld, g.box ++ [k], g.own, g.base⟩

theorem SRel.ltBox {g : G} {s : St} {w : World} (h : SRel g s w) {k : Nat} (hk : k ∈ g.box) : k < w.heap.size := by
  obtain ⟨i, hi, he⟩ := List.mem_iff_getElem.1 hk
  have hi2 : i < s.boxes.length := by rw [← h.len]; exact hi
  obtain ⟨k', vs, h1, h2, _⟩ := h.bx i s.boxes[i] (List.getElem?_eq_getElem hi2)
  rw [List.getElem?_eq_getElem hi, he] at h1
  cases h1
  exact (Array.getElem?_eq_some_iff.1 h2).1
theorem SRel.ltOwn {g : G} {s : St} {w : World} (h : SRel g s w) {b : Nat} {i : Nat × Nat} (hb : g.own b = some i) : b < w.heap.size := by
  obtain ⟨id, c⟩ := i
  obtain ⟨f, cs, _, h2, _⟩ := h.ow b id c hb
  exact (Array.getElem?_eq_some_iff.1 h2).1
theorem SRel.sld0 {g : G} {s : St} {w : World} (h : SRel g s w) : g.sld w.heap.size = 0 := by
  cases hn : g.sld w.heap.size with
  | zero => rfl
  | succ n => exact absurd (h.sl w.heap.size (by omega)) (by omega)
theorem SRel.own0 {g : G} {s : St} {w : World} (h : SRel g s w) : g.own w.heap.size = none := by
  cases hn : g.own w.heap.size with
  | none => rfl
  | some i => exact absurd (h.ltOwn hn) (by omega)

theorem ext_addBox {g : G} {s : St} {w : World} (h : SRel g s w) (o : Obj) : Ext g w (g.addBox w.heap.size) (w.alloc o) := by
  refine ⟨rfl, rfl, rfl, by simp, fun _ => Nat.le_refl _, fun b off ho => ?_, ⟨[w.heap.size], rfl, by simp⟩, fun _ _ h => h, fun _ _ h => .inl h, fun b _ hb _ _ => alloc_heap_old w o hb, rfl⟩
  exact cell_alloc_old w o (h.sl b (by omega))

theorem srel_addBox {g : G} {s : St} {w : World} (h : SRel g s w) {t : TypeId} {cs : Array Value} {ps : List Pd} (hp : Pds g w ps cs.toList) (hb : ∀ p ∈ ps, p.Bnd s.boxes.length s.fr.length) :
    SRel (g.addBox w.heap.size) ⟨s.boxes ++ [⟨t, ps⟩], s.fr, s.stat⟩ (w.alloc (.cells cs t)) := by
  have hx := ext_addBox h (.cells cs t)
  refine ⟨by simp [G.addBox, h.len], ?_, fun i B hB => ?_, fun b id c ho => ?_, fun b hn => ?_, s.stat.mono hx h.st, h.sb, Nat.le_trans h.bz hx.size⟩
  · show (g.box ++ [w.heap.size]).Nodup
    rw [List.nodup_append]
    refine ⟨h.nd, by simp, fun a ha b hb he => ?_⟩
    simp at hb; subst hb; subst he
    exact absurd (h.ltBox ha) (by omega)
  · by_cases hi : i < s.boxes.length
    · rw [List.getElem?_append_left hi] at hB
      obtain ⟨k, vs, h1, h2, h3, h4, h5, h6⟩ := h.bx i B hB
      refine ⟨k, vs, ?_, ?_, h3.mono hx, h4, h5, fun p hp => (h6 p hp).up (by simp) (Nat.le_refl _)⟩
      · show (g.box ++ [w.heap.size])[i]? = _
        rw [List.getElem?_append_left (by rw [h.len]; exact hi)]; exact h1
      · rw [alloc_heap_old w _ (Array.getElem?_eq_some_iff.1 h2).1]; exact h2
    · have hi2 : i = s.boxes.length := by
        have := (List.getElem?_eq_some_iff.1 hB).1
        simp at this; omega
      subst hi2
      simp at hB
      subst hB
      refine ⟨w.heap.size, cs, ?_, alloc_heap_new w _, (hp.mono hx).pre, fun _ => h.sld0, h.own0, fun p hp => (hb p hp).up (by simp) (Nat.le_refl _)⟩
      show (g.box ++ [w.heap.size])[s.boxes.length]? = _
      rw [← h.len]; simp
  · obtain ⟨f, cs2, h1, h2, h3⟩ := h.ow b id c ho
    exact ⟨f, cs2, h1, by rw [alloc_heap_old w _ (Array.getElem?_eq_some_iff.1 h2).1]; exact h2, h3⟩
  · have := h.sl b hn
    simp; omega

section
variable {P : Program} {e : Env} {s : St} {dst : Option Tmp} {ty : TypeId} {pos : String} {after : Array Edge} {guard : Option (Nat × Bool)}

theorem opD_box_agg {t : TypeId} {x : Operand} {ps : List Pd} (hx : e.ev x = agg ps) (hb : ∀ p ∈ ps, p.Bnd s.boxes.length s.fr.length) :
    OpD P ⟨dst, .box t x, ty, pos, after, guard⟩ e s (ptr s.boxes.length 0) ⟨s.boxes ++ [⟨t, ps⟩], s.fr, s.stat⟩ :=
  opD_value fun g a w ha hs => by
    have h1 := ha x (by simp [Op.operands])
    rw [hx] at h1
    obtain ⟨cs, hv, hp⟩ := h1
    refine ⟨.pointer (some ⟨w.heap.size, 0, none⟩), g.addBox w.heap.size, w.alloc (.cells cs t), ?_, ⟨w.heap.size, ?_, rfl⟩, ext_addBox hs _, srel_addBox hs hp hb⟩
    · generalize a.eval = ρ at hv ⊢
      simp [execOp, Instr.box, newVar, newRow, hv, go_sem, Value.cells]
    · show (g.box ++ [w.heap.size])[s.boxes.length]? = _
      rw [← hs.len]; simp

theorem opD_box_one {t : TypeId} {x : Operand} {p : Pd} (hx : e.ev x = p) (h1 : p.One) (hb : p.Bnd s.boxes.length s.fr.length) :
    OpD P ⟨dst, .box t x, ty, pos, after, guard⟩ e s (ptr s.boxes.length 0) ⟨s.boxes ++ [⟨t, [p]⟩], s.fr, s.stat⟩ :=
  opD_value fun g a w ha hs => by
    have h2 := ha x (by simp [Op.operands])
    rw [hx] at h2
    refine ⟨.pointer (some ⟨w.heap.size, 0, none⟩), g.addBox w.heap.size, w.alloc (.cells #[a.eval x] t), ?_, ⟨w.heap.size, ?_, rfl⟩, ext_addBox hs _, srel_addBox hs (ps := [p]) ⟨h2, trivial⟩ (by simpa using hb)⟩
    · have hc := h1 _ _ _ h2
      generalize a.eval = ρ at hc ⊢
      generalize hu : ρ x = u at hc ⊢
      cases u <;> first
        | (simp [execOp, Instr.box, newVar, newRow, hu, go_sem, Value.cells]; done)
        | cases hc
    · show (g.box ++ [w.heap.size])[s.boxes.length]? = _
      rw [← hs.len]; simp

theorem pds_pl (g : G) (w : World) : ∀ vs : List Value, Pds g w (vs.map pl) vs
  | [] => trivial
  | _ :: vs => ⟨rfl, pds_pl g w vs⟩

theorem opD_alloc {t : TypeId} {z : Value} (hz : ((P.info? t).bind (·.zero)) = some z) :
    OpD P ⟨dst, .alloc t, ty, pos, after, guard⟩ e s (ptr s.boxes.length 0) ⟨s.boxes ++ [⟨t, z.cells.toList.map pl⟩], s.fr, s.stat⟩ :=
  opD_value fun g a w ha hs => by
    refine ⟨.pointer (some ⟨w.heap.size, 0, none⟩), g.addBox w.heap.size, w.alloc (.cells z.cells t), ?_, ⟨w.heap.size, ?_, rfl⟩, ext_addBox hs _, srel_addBox hs (pds_pl _ _ _) (fun p hp => ?_)⟩
    · obtain ⟨i, hi, hz2⟩ := Option.bind_eq_some_iff.1 hz
      generalize a.eval = ρ
      simp [execOp, Instr.alloc, newVar, newRow, zeroValue, typeInfo, hi, hz2, go_sem]
    · show (g.box ++ [w.heap.size])[s.boxes.length]? = _
      rw [← hs.len]; simp
    · obtain ⟨v, _, rfl⟩ := List.mem_map.1 hp
      exact pl_bnd _ _ _

/-! ### A variable's cells -/
def aggT (P : Program) (t : TypeId) : Option Bool := (P.underlying t).map fun | .struct _ | .array _ _ => true | _ => false
def sizeT (P : Program) (t : TypeId) : Option Nat := (P.info? t).map (·.size)

theorem run_isAgg {t : TypeId} {b : Bool} (h : aggT P t = some b) (w : World) : (isAgg t).run P w = .ok b w := by
  unfold aggT at h
  cases hu : P.underlying t with
  | none => rw [hu] at h; cases h
  | some d =>
    rw [hu] at h
    simp only [Option.map_some, Option.some.injEq] at h
    subst h
    simp only [isAgg]
    cases d <;> simp [run_underlying hu]

theorem run_sizeOf {t : TypeId} {n : Nat} (h : sizeT P t = some n) (w : World) : (sizeOf t).run P w = .ok n w := by
  obtain ⟨i, hi, hn⟩ := Option.map_eq_some_iff.1 h
  simp [sizeOf, typeInfo, hi, hn]

theorem run_loadVar_one {t : TypeId} (h : aggT P t = some false) {a : Addr} {w : World} {v : Value} (hc : w.cell? a = some v) : (loadVar t a).run P w = .ok v w := by
  simp [loadVar, run_isAgg h, load, Sem.run, hc]

theorem run_loadVar_agg {t : TypeId} {n : Nat} (h : aggT P t = some true) (hn : sizeT P t = some n) {a : Addr} {w : World} {cs : List Value} (hl : cs.length = n) (hc : ∀ j v, cs[j]? = some v → w.cell? (a.add j) = some v) :
    (loadVar t a).run P w = .ok (.agg cs.toArray) w := by
  have := run_loadCells_list (P := P) (w := w) a cs hc
  rw [hl] at this
  simp [loadVar, run_isAgg h, run_sizeOf hn, this]

theorem box_cell {g : G} {w : World} {k : Nat} {vs : Array Value} {t : TypeId} {fr : Nat × Nat} (h : w.heap[k]? = some (.cells vs t fr)) (off : Nat) : w.cell? ⟨k, off, none⟩ = vs[off]? := by
  simp [World.cell?, h]

theorem run_v {S : Sem Value} {w w' : World} {v : Value} (h : S.run P w = .ok v w') : (Sem.bind S fun v => Sem.pure (Next.value v)).run P w = .ok (.value v) w' := by
  rw [Sem.run_bind' P, h]
  rfl

theorem run_load {ρ : Operand → Value} {t : TypeId} {x : Operand} {a : Addr} {w : World} {v : Value} (hv : ρ x = .pointer (some a)) (h : (loadVar t a).run P w = .ok v w) : (execOp ρ ⟨dst, .load t x, ty, pos, after, guard⟩).run P w = .ok (.value v) w := by
  show (Sem.bind (Instr.loadAt t (ρ x)) fun v => Sem.pure (Next.value v)).run P w = _
  rw [hv]
  exact run_v h

theorem opD_load_one {t : TypeId} {x : Operand} {b off : Nat} {B : Bx} {p : Pd} (ht : aggT P t = some false) (hx : e.ev x = ptr b off) (hB : s.boxes[b]? = some B) (hp : B.cs[off]? = some p) :
    OpD P ⟨dst, .load t x, ty, pos, after, guard⟩ e s p s :=
  opD_look fun g a w ha hs => by
    have h1 := ha x (by simp [Op.operands])
    rw [hx] at h1
    obtain ⟨k, hk, hv⟩ := h1
    obtain ⟨k', vs, h2, h3, h4, _⟩ := hs.bx b B hB
    rw [hk] at h2; cases h2
    obtain ⟨v, hv2, hp2⟩ := h4.get off p hp
    refine ⟨v, ?_, hp2⟩
    have hc : w.cell? ⟨k, off, none⟩ = some v := by rw [box_cell (g := g) h3]; simpa using hv2
    exact run_load hv (run_loadVar_one ht hc)

theorem pds_part {g : G} {w : World} {ps : List Pd} {vs : List Value} (h : Pds g w ps vs) (off n : Nat) : Pds g w ((ps.drop off).take n) ((vs.drop off).take n) := (h.drop off).take n

theorem opD_load_agg {t : TypeId} {n : Nat} {x : Operand} {b off : Nat} {B : Bx} (ht : aggT P t = some true) (hn : sizeT P t = some n) (hx : e.ev x = ptr b off) (hB : s.boxes[b]? = some B) (hl : off + n ≤ B.cs.length) :
    OpD P ⟨dst, .load t x, ty, pos, after, guard⟩ e s (agg ((B.cs.drop off).take n)) s :=
  opD_look fun g a w ha hs => by
    have h1 := ha x (by simp [Op.operands])
    rw [hx] at h1
    obtain ⟨k, hk, hv⟩ := h1
    obtain ⟨k', vs, h2, h3, h4, _⟩ := hs.bx b B hB
    rw [hk] at h2; cases h2
    have hvl := h4.len
    refine ⟨.agg ((vs.toList.drop off).take n).toArray, ?_, _, rfl, by simpa using (h4.drop off).part (n := n) (by rw [List.length_drop]; omega)⟩
    have hc : ∀ j v, ((vs.toList.drop off).take n)[j]? = some v → w.cell? ((⟨k, off, none⟩ : Addr).add j) = some v := by
      intro j v hj
      rw [Addr.add_lit, box_cell (g := g) h3]
      have hjl := (List.getElem?_eq_some_iff.1 hj).1
      simp only [List.length_take, List.length_drop] at hjl
      rw [List.getElem?_take_of_lt (by omega), List.getElem?_drop] at hj
      simpa using hj
    have := run_loadVar_agg ht hn (cs := (vs.toList.drop off).take n) (by simp only [List.length_take, List.length_drop]; omega) hc
    exact run_load hv this

def fieldOff (P : Program) (t : TypeId) (f : Nat) : Option Nat :=
  match P.underlying t with
  | some (.struct fs) => match fs[f]? with
    | some fd => match sizeT P fd.type with
      | some 0 => none
      | some _ => some fd.offset
      | none => none
    | none => none
  | _ => none

theorem run_fieldAt {t : TypeId} {f n : Nat} (h : fieldOff P t f = some n) (k off : Nat) (w : World) : (Instr.fieldAt t (.pointer (some ⟨k, off, none⟩)) f).run P w = .ok (.pointer (some ⟨k, off + n, none⟩)) w := by
  unfold fieldOff at h
  split at h
  · rename_i fs hu
    split at h
    · rename_i fd hf
      cases hz : sizeT P fd.type with
      | none => rw [hz] at h; cases h
      | some m =>
        rw [hz] at h
        cases m with
        | zero => cases h
        | succ m =>
          simp only [Option.some.injEq] at h
          simp [Instr.fieldAt, run_underlying hu, hf, Instr.sureAddr, fieldPlace, run_sizeOf hz, Addr.add_lit, h]
    · cases h
  · cases h

theorem opD_fieldAddr {t : TypeId} {x : Operand} {f n b off : Nat} (hf : fieldOff P t f = some n) (hx : e.ev x = ptr b off) :
    OpD P ⟨dst, .fieldAddr t x f, ty, pos, after, guard⟩ e s (ptr b (off + n)) s :=
  opD_look fun g a w ha _ => by
    have h1 := ha x (by simp [Op.operands])
    rw [hx] at h1
    obtain ⟨k, hk, hv⟩ := h1
    refine ⟨_, ?_, k, hk, rfl⟩
    show (Sem.bind (Instr.fieldAt t (a.eval x) f) fun v => Sem.pure (Next.value v)).run P w = _
    rw [hv]
    exact run_v (run_fieldAt hf _ _ _)

theorem opD_fieldAddr_el {α : Type} {K : Kn α} {l : List α} {i : Nat} {t : TypeId} {x : Operand} {f n off : Nat} (hf : fieldOff P t f = some n) (hx : e.ev x = el K l i off) :
    OpD P ⟨dst, .fieldAddr t x f, ty, pos, after, guard⟩ e s (el K l i (off + n)) s :=
  opD_look fun g a w ha _ => by
    have h1 := ha x (by simp [Op.operands])
    rw [hx] at h1
    obtain ⟨b, o, hv, hc⟩ := h1
    refine ⟨.pointer (some ⟨b, o + i * K.sz + (off + n), none⟩), ?_, b, o, rfl, hc⟩
    show (Sem.bind (Instr.fieldAt t (a.eval x) f) fun v => Sem.pure (Next.value v)).run P w = _
    rw [hv, ← Nat.add_assoc]
    exact run_v (run_fieldAt hf _ _ _)

theorem opD_load_el_one {α : Type} {K : Kn α} {l : List α} {i : Nat} {z : α} {t : TypeId} {x : Operand} {off : Nat} {p : Pd} (ht : aggT P t = some false) (hx : e.ev x = el K l i off) (hi : l[i]? = some z) (hp : (K.cs z)[off]? = some p) :
    OpD P ⟨dst, .load t x, ty, pos, after, guard⟩ e s p s :=
  opD_look fun g a w ha hs => by
    have h1 := ha x (by simp [Op.operands])
    rw [hx] at h1
    obtain ⟨b, o, hv, hc⟩ := h1
    obtain ⟨_, c, h2, h3⟩ := hc i z hi off p hp
    refine ⟨c, ?_, h3⟩
    exact run_load hv (run_loadVar_one ht h2)

theorem opD_load_el_agg {α : Type} {K : Kn α} {l : List α} {i : Nat} {z : α} {t : TypeId} {n : Nat} {x : Operand} {off : Nat} (ht : aggT P t = some true) (hn : sizeT P t = some n) (hx : e.ev x = el K l i off) (hi : l[i]? = some z) (hl : off + n ≤ K.sz) :
    OpD P ⟨dst, .load t x, ty, pos, after, guard⟩ e s (agg (((K.cs z).drop off).take n)) s :=
  opD_look fun g a w ha hs => by
    have h1 := ha x (by simp [Op.operands])
    rw [hx] at h1
    obtain ⟨b, o, hv, hc⟩ := h1
    have hz := K.len z
    have hex : ∀ (m off : Nat), off + m ≤ K.sz → ∃ vs : List Value, vs.length = m ∧ Pds g w (((K.cs z).drop off).take m) vs ∧ ∀ j v, vs[j]? = some v → w.cell? ((⟨b, o + i * K.sz + off, none⟩ : Addr).add j) = some v := by
      intro m
      induction m with
      | zero => intro off _; exact ⟨[], rfl, by simp [Pds], fun j v h => by simp at h⟩
      | succ m ih =>
        intro off hm
        obtain ⟨vs, h1, h2, h3⟩ := ih (off + 1) (by omega)
        have hlt : off < (K.cs z).length := by omega
        obtain ⟨_, c, h4, h5⟩ := hc i z hi off _ (List.getElem?_eq_getElem hlt)
        refine ⟨c :: vs, by simp [h1], ?_, fun j v hj => ?_⟩
        · rw [List.drop_eq_getElem_cons hlt, List.take_succ_cons]
          exact ⟨h5, h2⟩
        · cases j with
          | zero => simp at hj; subst hj; rw [Addr.add_lit]; exact h4
          | succ j =>
            simp at hj
            have := h3 j v hj
            rw [Addr.add_lit] at this ⊢
            rw [← this]; congr 2; omega
    obtain ⟨vs, h1, h2, h3⟩ := hex n off hl
    refine ⟨.agg vs.toArray, ?_, _, rfl, by simpa using h2⟩
    have := run_loadVar_agg ht hn h1 h3
    exact run_load hv this
end
end Go.Proofs.YtmnhfpcbfdgbcaaDoor.Eng
