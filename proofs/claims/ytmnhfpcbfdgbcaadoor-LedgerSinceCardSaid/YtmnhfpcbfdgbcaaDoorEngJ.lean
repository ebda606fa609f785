/- The engine, tenth part: structs, arrays, tuples, interface values. -/
import Derived.Test.YtmnhfpcbfdgbcaaDoorEngI
namespace Go.Proofs.YtmnhfpcbfdgbcaaDoor.Eng
set_option linter.unusedVariables false
set_option linter.unusedSimpArgs false
open Go.RowKit

/-- A value's cells. -/
def CellsOf (p : Pd) (qs : List Pd) : Prop := ∀ g w v, p.h g w v → Pds g w qs v.cells.toList
theorem cellsOf_agg (qs : List Pd) : CellsOf (agg qs) qs := fun g w v ⟨cs, hv, h⟩ => by subst hv; exact h
theorem cellsOf_one {p : Pd} (h : p.One) : CellsOf p [p] := fun g w v hp => by rw [cells_of_one (h g w v hp)]; exact ⟨hp, trivial⟩

theorem foldl_set_cells : ∀ (vs : List Value) (k off : Nat) (cs : Array Value), off + k + vs.length ≤ cs.size →
    ((vs.zipIdx k).foldl (fun cs (x : Value × Nat) => cs.setIfInBounds (off + x.2) x.1) cs).toList = cs.toList.take (off + k) ++ vs ++ cs.toList.drop (off + k + vs.length)
  | [], k, off, cs, _ => by simp
  | v :: vs, k, off, cs, h => by
    simp only [List.length_cons] at h
    rw [List.zipIdx_cons, List.foldl_cons, foldl_set_cells vs (k + 1) off _ (by simp; omega)]
    have hl : off + k < cs.toList.length := by simp; omega
    have h1 : (cs.setIfInBounds (off + k) v).toList = cs.toList.take (off + k) ++ v :: cs.toList.drop (off + k + 1) := by
      simp only [Array.toList_setIfInBounds]
      rw [List.set_eq_take_append_cons_drop, if_pos hl]
    rw [h1]
    have htl : (cs.toList.take (off + k)).length = off + k := by rw [List.length_take]; omega
    have h2 : ∀ (A D : List Value), (A ++ v :: D).take (A.length + 1) = A ++ [v] := fun A D => by rw [List.take_append, List.take_of_length_le (by omega), show A.length + 1 - A.length = 1 by omega]; simp
    have h3 : ∀ (A D : List Value) (m : Nat), (A ++ v :: D).drop (A.length + 1 + m) = D.drop m := fun A D m => by
      rw [List.drop_append, List.drop_of_length_le (by omega), show A.length + 1 + m - A.length = m + 1 by omega]
      simp
    have h4 := h2 (cs.toList.take (off + k)) (cs.toList.drop (off + k + 1))
    have h5 := h3 (cs.toList.take (off + k)) (cs.toList.drop (off + k + 1)) vs.length
    rw [htl] at h4 h5
    rw [show off + (k + 1) = off + k + 1 by omega, h4, h5, List.drop_drop]
    simp
    congr 1
    omega

def fillP (place : Nat → Option (Nat × Nat)) (ps : List Pd) : List (Nat × List Pd) → Option (List Pd)
  | [] => some ps
  | (i, qs) :: rest =>
    match place i with
    | none => none
    | some (off, size) => if qs.length = size ∧ off + size ≤ ps.length then fillP place (ps.take off ++ qs ++ ps.drop (off + size)) rest else none

def Parts (e : Env) : List (Nat × Operand) → List (Nat × List Pd) → Prop
  | [], [] => True
  | (i, x) :: xs, (j, qs) :: qss => i = j ∧ CellsOf (e.ev x) qs ∧ Parts e xs qss
  | _, _ => False

theorem fill_of_fillP {e : Env} {g : G} {w : World} {a : Act} {place : Nat → Option (Nat × Nat)} : ∀ {xs : List (Nat × Operand)} {qss : List (Nat × List Pd)} {ps rs : List Pd} {cs : Array Value},
    Parts e xs qss → (∀ x ∈ xs, (e.ev x.2).h g w (a.eval x.2)) → Pds g w ps cs.toList → fillP place ps qss = some rs → ∃ cs', Instr.fill place cs (xs.map fun x => (x.1, a.eval x.2)) = some cs' ∧ Pds g w rs cs'.toList
  | [], [], ps, rs, cs, _, _, hp, hf => by simp [fillP] at hf; subst hf; exact ⟨cs, rfl, hp⟩
  | (i, x) :: xs, (j, qs) :: qss, ps, rs, cs, ⟨hij, hc, hr⟩, hx, hp, hf => by
    subst hij
    have h1 := hc g w _ (hx (i, x) (by simp))
    have hl1 := h1.length
    have hl2 := hp.length
    simp only [fillP] at hf
    simp only [List.map_cons, Instr.fill]
    cases hpl : place i with
    | none => rw [hpl] at hf; cases hf
    | some os =>
      obtain ⟨off, size⟩ := os
      rw [hpl] at hf
      simp only at hf ⊢
      split at hf
      · rename_i hcond
        obtain ⟨e1, e2⟩ := hcond
        have e3 : (a.eval x).cells.size = size := by rw [← e1, ← hl1]; simp
        have e4 : cs.size = ps.length := by rw [← hl2]; simp
        rw [if_neg (by simp [e3, e4]; omega)]
        have h3 := foldl_set_cells (a.eval x).cells.toList 0 off cs (by simp [e3, e4]; omega)
        have h4 : ((a.eval x).cells.zipIdx.foldl (fun cs (c, j) => cs.setIfInBounds (off + j) c) cs) = (((a.eval x).cells.toList.zipIdx 0).foldl (fun cs (x : Value × Nat) => cs.setIfInBounds (off + x.2) x.1) cs) := by
          rw [← Array.foldl_toList]
          congr 1
          simp
        rw [h4]
        refine fill_of_fillP hr (fun y hy => hx y (by simp [hy])) ?_ hf
        rw [h3]
        have e5 : (a.eval x).cells.toList.length = size := by simpa using e3
        simp only [Nat.add_zero, e5]
        exact ((hp.take off).append h1).append (hp.drop (off + size))
      · cases hf
  | [], _ :: _, _, _, _, h, _, _, _ => h.elim
  | _ :: _, [], _, _, _, h, _, _, _ => h.elim

section
variable {P : Program} {e : Env} {s : St} {dst : Option Tmp} {ty : TypeId} {pos : String} {after : Array Edge} {guard : Option (Nat × Bool)}

/-- Where the parts of a struct or an array lie. -/
def placesT (P : Program) (t : TypeId) (n : Nat) : Option (List (Nat × Nat)) :=
  match P.underlying t with
  | some (.struct fs) => if fs.size = n then fs.toList.mapM fun f => (sizeT P f.type).map fun z => (f.offset, z) else none
  | some (.array len te) => if len = n then (sizeT P te).map fun z => (List.range n).map fun i => (i * z, z) else none
  | _ => none

def zeroT (P : Program) (t : TypeId) : Option (List Value) := ((P.info? t).bind (·.zero)).map fun z => z.cells.toList

theorem run_zeroValue {t : TypeId} {zs : List Value} (h : zeroT P t = some zs) (w : World) : ∃ z, (zeroValue t).run P w = .ok z w ∧ z.cells.toList = zs := by
  obtain ⟨z, hz, he⟩ := Option.map_eq_some_iff.1 h
  obtain ⟨i, hi, hz2⟩ := Option.bind_eq_some_iff.1 hz
  exact ⟨z, by simp [zeroValue, typeInfo, hi, hz2], he⟩

theorem mapM_fields (w : World) : ∀ (fs : List Field) (ps : List (Nat × Nat)), (fs.mapM fun f => (sizeT P f.type).map fun z => (f.offset, z)) = some ps →
    (fs.mapM fun f => do pure (f.offset, ← sizeOf f.type) : Sem (List (Nat × Nat))).run P w = .ok ps w
  | [], ps, h => by simp at h; subst h; simp
  | f :: fs, ps, h => by
    simp only [List.mapM_cons, Option.bind_eq_bind, Option.bind_eq_some_iff] at h
    obtain ⟨x, hx, qs, hq, he⟩ := h
    obtain ⟨z, hz, rfl⟩ := Option.map_eq_some_iff.1 hx
    have ih := mapM_fields w fs qs hq
    simp at he
    subst he
    simp [List.mapM_cons, run_sizeOf hz]
    simp at ih
    rw [ih]
    simp

theorem opD_build_struct {t : TypeId} {parts : List (Nat × Operand)} {qss : List (Nat × List Pd)} {fs : Array Field} {pl_ : List (Nat × Nat)} {zs : List Value} {rs : List Pd} (ht : P.underlying t = some (.struct fs)) (hpl : placesT P t fs.size = some pl_) (hz : zeroT P t = some zs)
    (hp : Parts e parts qss) (hf : fillP (fun i => pl_[i]?) (zs.map pl) qss = some rs) : OpD P ⟨dst, .build t parts.toArray, ty, pos, after, guard⟩ e s (agg rs) s :=
  opD_look fun g a w ha _ => by
    obtain ⟨z, hz1, hz2⟩ := run_zeroValue hz w
    have hx : ∀ x ∈ parts, (e.ev x.2).h g w (a.eval x.2) := fun x hx => ha x.2 (by simp [Op.operands]; exact ⟨x.1, hx⟩)
    have h0 : Pds g w (zs.map pl) z.cells.toList := by rw [hz2]; exact pds_pl g w zs
    obtain ⟨cs', h1, h2⟩ := fill_of_fillP hp hx h0 hf
    refine ⟨.agg cs', ?_, cs', rfl, h2⟩
    show (Sem.bind (Instr.build t (parts.toArray.map fun (i, x) => (i, a.eval x))) fun v => Sem.pure (Next.value v)).run P w = _
    refine run_v ?_
    have hmm := mapM_fields (P := P) w fs.toList pl_ (by simpa [placesT, ht] using hpl)
    have hmm2 : (fs.mapM fun f => do pure (f.offset, ← sizeOf f.type) : Sem (Array (Nat × Nat))).run P w = .ok pl_.toArray w := by
      rw [← Array.toArray_toList (xs := fs), List.mapM_toArray]
      simp at hmm ⊢
      rw [hmm]
      simp
    simp only [Instr.build, Sem.run_bind, hz1, Result.andThen_ok, run_underlying ht]
    rw [hmm2]
    simp only [Result.andThen_ok]
    have h1' : Instr.fill (fun x => pl_.toArray[x]?) z.cells (parts.toArray.map fun (i, x) => (i, a.eval x)).toList = some cs' := by
      simpa using h1
    rw [h1']
    simp

theorem opD_build_array {t te : TypeId} {n : Nat} {parts : List (Nat × Operand)} {qss : List (Nat × List Pd)} {sz : Nat} {zs : List Value} {rs : List Pd} (ht : P.underlying t = some (.array n te)) (hsz : sizeT P te = some sz) (hz : zeroT P t = some zs)
    (hp : Parts e parts qss) (hf : fillP (fun i => some (i * sz, sz)) (zs.map pl) qss = some rs) : OpD P ⟨dst, .build t parts.toArray, ty, pos, after, guard⟩ e s (agg rs) s :=
  opD_look fun g a w ha _ => by
    obtain ⟨z, hz1, hz2⟩ := run_zeroValue hz w
    have hx : ∀ x ∈ parts, (e.ev x.2).h g w (a.eval x.2) := fun x hx => ha x.2 (by simp [Op.operands]; exact ⟨x.1, hx⟩)
    have h0 : Pds g w (zs.map pl) z.cells.toList := by rw [hz2]; exact pds_pl g w zs
    obtain ⟨cs', h1, h2⟩ := fill_of_fillP hp hx h0 hf
    refine ⟨.agg cs', ?_, cs', rfl, h2⟩
    show (Sem.bind (Instr.build t (parts.toArray.map fun (i, x) => (i, a.eval x))) fun v => Sem.pure (Next.value v)).run P w = _
    refine run_v ?_
    simp only [Instr.build, Sem.run_bind, hz1, Result.andThen_ok, run_underlying ht, run_sizeOf hsz]
    have h1' : Instr.fill (fun i => some (i * sz, sz)) z.cells (parts.toArray.map fun (i, x) => (i, a.eval x)).toList = some cs' := by
      simpa using h1
    rw [h1']
    simp

theorem opD_extract {x : Operand} {i : Nat} {ps : List Pd} {p : Pd} (hx : e.ev x = tup ps) (hp : ps[i]? = some p) : OpD P ⟨dst, .extract x i, ty, pos, after, guard⟩ e s p s :=
  opD_look fun g a w ha _ => by
    have h1 := ha x (by simp [Op.operands])
    rw [hx] at h1
    obtain ⟨cs, hv, h2⟩ := h1
    obtain ⟨v, h3, h4⟩ := h2.get i p hp
    refine ⟨v, ?_, h4⟩
    show (Sem.bind (Instr.extract (a.eval x) i) fun v => Sem.pure (Next.value v)).run P w = _
    rw [hv]
    refine run_v ?_
    have h3' : cs[i]? = some v := by simpa using h3
    simp [Instr.extract, h3']

def fieldOf (P : Program) (t : TypeId) (f : Nat) : Option (Nat × TypeId) :=
  match P.underlying t with
  | some (.struct fs) => (fs[f]?).map fun fd => (fd.offset, fd.type)
  | _ => none

theorem run_part_one {ft : TypeId} (h : aggT P ft = some false) {cs : Array Value} {off : Nat} {v : Value} (hv : cs[off]? = some v) (w : World) : (part ft cs off).run P w = .ok v w := by
  simp [part, run_isAgg h, hv]
theorem run_part_agg {ft : TypeId} {n : Nat} (h : aggT P ft = some true) (hn : sizeT P ft = some n) (cs : Array Value) (off : Nat) (w : World) : (part ft cs off).run P w = .ok (.agg (cs.extract off (off + n))) w := by
  simp [part, run_isAgg h, run_sizeOf hn]

theorem run_field {t : TypeId} {f off : Nat} {ft : TypeId} (h : fieldOf P t f = some (off, ft)) (cs : Array Value) (w : World) : (Instr.field t (.agg cs) f).run P w = (part ft cs off).run P w := by
  unfold fieldOf at h
  split at h
  · rename_i fs hu
    obtain ⟨fd, hf, he⟩ := Option.map_eq_some_iff.1 h
    cases he
    simp [Instr.field, run_underlying hu, hf, asAgg]
  · cases h

theorem opD_field_one {t ft : TypeId} {x : Operand} {f off : Nat} {ps : List Pd} {p : Pd} (hf : fieldOf P t f = some (off, ft)) (hft : aggT P ft = some false) (hx : e.ev x = agg ps) (hp : ps[off]? = some p) : OpD P ⟨dst, .field t x f, ty, pos, after, guard⟩ e s p s :=
  opD_look fun g a w ha _ => by
    have h1 := ha x (by simp [Op.operands])
    rw [hx] at h1
    obtain ⟨cs, hv, h2⟩ := h1
    obtain ⟨v, h3, h4⟩ := h2.get off p hp
    refine ⟨v, ?_, h4⟩
    show (Sem.bind (Instr.field t (a.eval x) f) fun v => Sem.pure (Next.value v)).run P w = _
    rw [hv]
    refine run_v ?_
    rw [run_field hf]
    exact run_part_one hft (by simpa using h3) w

theorem opD_field_agg {t ft : TypeId} {x : Operand} {f off n : Nat} {ps : List Pd} (hf : fieldOf P t f = some (off, ft)) (hft : aggT P ft = some true) (hn : sizeT P ft = some n) (hx : e.ev x = agg ps) : OpD P ⟨dst, .field t x f, ty, pos, after, guard⟩ e s (agg ((ps.drop off).take n)) s :=
  opD_look fun g a w ha _ => by
    have h1 := ha x (by simp [Op.operands])
    rw [hx] at h1
    obtain ⟨cs, hv, h2⟩ := h1
    refine ⟨.agg (cs.extract off (off + n)), ?_, _, rfl, ?_⟩
    · show (Sem.bind (Instr.field t (a.eval x) f) fun v => Sem.pure (Next.value v)).run P w = _
      rw [hv]
      refine run_v ?_
      rw [run_field hf]
      exact run_part_agg hft hn cs off w
    · have := pds_part h2 off n
      simpa [Array.toList_extract, List.extract_eq_take_drop] using this

theorem opD_index_arr {t te : TypeId} {len sz : Nat} {x ix : Operand} {kk : IntKind} {n : Int} {i : Nat} {ps : List Pd} {p : Pd} (ht : P.underlying t = some (.array len te)) (hte : aggT P te = some false) (hsz : sizeT P te = some sz) (hx : e.ev x = agg ps) (hi : e.ev ix = pl (.int kk n)) (hn : n = (i : Int)) (hl : i < len) (hp : ps[i * sz]? = some p) :
    OpD P ⟨dst, .index t x ix, ty, pos, after, guard⟩ e s p s :=
  opD_look fun g a w ha _ => by
    have h1 := ha x (by simp [Op.operands])
    have h2 : a.eval ix = .int kk n := by have := ha ix (by simp [Op.operands]); rw [hi] at this; exact this
    rw [hx] at h1
    obtain ⟨cs, hv, h3⟩ := h1
    obtain ⟨v, h4, h5⟩ := h3.get _ p hp
    subst hn
    refine ⟨v, ?_, h5⟩
    show (Sem.bind (Instr.index t (a.eval x) (a.eval ix)) fun v => Sem.pure (Next.value v)).run P w = _
    rw [hv, h2]
    refine run_v ?_
    have := run_part_one hte (P := P) (cs := cs) (off := i * sz) (v := v) (by simpa using h4) w
    simp [Instr.index, asIntOf, run_underlying ht, hl, run_sizeOf hsz, this]

theorem opD_indexAddr_arr {t te : TypeId} {len sz : Nat} {x ix : Operand} {kk : IntKind} {n : Int} {i b off : Nat} (ht : P.underlying t = some (.array len te)) (hsz : sizeT P te = some sz) (hx : e.ev x = ptr b off) (hi : e.ev ix = pl (.int kk n)) (hn : n = (i : Int)) (hl : i < len) :
    OpD P ⟨dst, .indexAddr t x ix, ty, pos, after, guard⟩ e s (ptr b (off + i * sz)) s :=
  opD_look fun g a w ha _ => by
    have h1 := ha x (by simp [Op.operands])
    have h2 : a.eval ix = .int kk n := by have := ha ix (by simp [Op.operands]); rw [hi] at this; exact this
    rw [hx] at h1
    obtain ⟨k, hk, hv⟩ := h1
    subst hn
    refine ⟨.pointer (some ⟨k, off + i * sz, none⟩), ?_, k, hk, rfl⟩
    show (Sem.bind (Instr.indexAt t (a.eval x) (a.eval ix)) fun v => Sem.pure (Next.value v)).run P w = _
    rw [hv, h2]
    refine run_v ?_
    simp [Instr.indexAt, asIntOf, run_underlying ht, hl, run_sizeOf hsz, Instr.sureAddr, Addr.add_lit]

theorem opD_index_plain {t : TypeId} {x ix : Operand} {u v r : Value} (hx : e.ev x = pl u) (hi : e.ev ix = pl v) (hr : ∀ w, (Instr.index t u v).run P w = .ok r w) : OpD P ⟨dst, .index t x ix, ty, pos, after, guard⟩ e s (pl r) s :=
  opD_look fun g a w ha _ => by
    have h1 : a.eval x = u := by have := ha x (by simp [Op.operands]); rw [hx] at this; exact this
    have h2 : a.eval ix = v := by have := ha ix (by simp [Op.operands]); rw [hi] at this; exact this
    refine ⟨r, ?_, rfl⟩
    show (Sem.bind (Instr.index t (a.eval x) (a.eval ix)) fun v => Sem.pure (Next.value v)).run P w = _
    rw [h1, h2]
    exact run_v (hr w)

theorem opD_makeInterface {t : TypeId} {x : Operand} {p : Pd} (ht : P.concrete t = true) (hx : e.ev x = p) : OpD P ⟨dst, .makeInterface t x, ty, pos, after, guard⟩ e s (ifc t p) s :=
  opD_look fun g a w ha _ => by
    have h1 := ha x (by simp [Op.operands])
    rw [hx] at h1
    refine ⟨.iface t (a.eval x), ?_, _, rfl, h1⟩
    show (Sem.bind (Instr.makeInterface t (a.eval x)) fun v => Sem.pure (Next.value v)).run P w = _
    exact run_v (run_makeInterface w t _ ht)

theorem opD_makeInterface_pl {t : TypeId} {x : Operand} {u : Value} (ht : P.concrete t = true) (hx : e.ev x = pl u) : OpD P ⟨dst, .makeInterface t x, ty, pos, after, guard⟩ e s (pl (.iface t u)) s :=
  opD_look fun g a w ha _ => by
    have h1 : a.eval x = u := by have := ha x (by simp [Op.operands]); rw [hx] at this; exact this
    refine ⟨.iface t u, ?_, rfl⟩
    show (Sem.bind (Instr.makeInterface t (a.eval x)) fun v => Sem.pure (Next.value v)).run P w = _
    rw [h1]
    exact run_v (run_makeInterface w t _ ht)

theorem opD_ptr_eqnil {t pt yt : TypeId} {x : Operand} {b off : Nat} (ht : P.underlying t = some (.pointer pt)) (hx : e.ev x = ptr b off) : OpD P ⟨dst, .binOp .eql t x (.const (.pointer none)) yt, ty, pos, after, guard⟩ e s (pl (.bool false)) s :=
  opD_look fun g a w ha _ => by
    have h1 := ha x (by simp [Op.operands])
    rw [hx] at h1
    obtain ⟨k, hk, hv⟩ := h1
    refine ⟨_, ?_, rfl⟩
    show (Sem.bind (do eqGuard .eql t x (.const (.pointer none)) (a.eval x) (.pointer none); binOp .eql t (a.eval x) (.pointer none)) fun v => Sem.pure (Next.value v)).run P w = _
    rw [hv]
    refine run_v ?_
    have hpt : P.pointee t = pt := by simp [Program.pointee, ht]
    simp [go_sem, ht, hpt]
theorem opD_ptr_neqnil {t pt yt : TypeId} {x : Operand} {b off : Nat} (ht : P.underlying t = some (.pointer pt)) (hx : e.ev x = ptr b off) : OpD P ⟨dst, .binOp .neq t x (.const (.pointer none)) yt, ty, pos, after, guard⟩ e s (pl (.bool true)) s :=
  opD_look fun g a w ha _ => by
    have h1 := ha x (by simp [Op.operands])
    rw [hx] at h1
    obtain ⟨k, hk, hv⟩ := h1
    refine ⟨_, ?_, rfl⟩
    show (Sem.bind (do eqGuard .neq t x (.const (.pointer none)) (a.eval x) (.pointer none); binOp .neq t (a.eval x) (.pointer none)) fun v => Sem.pure (Next.value v)).run P w = _
    rw [hv]
    refine run_v ?_
    have hpt : P.pointee t = pt := by simp [Program.pointee, ht]
    simp [go_sem, ht, hpt]

/-- A slice that fills a block of its own, made here. -/
def slf {α : Type} (k : Kn α) (l : List α) : Pd := ⟨fun g w v => ∃ b, v = .slice (some ⟨b, 0, none⟩) l.length l.length ∧ SlCells k l g w b 0 ∧ g.base ≤ b ∧ b < w.heap.size ∧ g.own b = none ∧ b ∉ g.box, by
  rintro g w g' w' v hx ⟨b, hv, h1, h2, h3, h4, h5⟩
  refine ⟨b, hv, h1.mono hx, by rw [hx.base]; exact h2, Nat.lt_of_lt_of_le h3 hx.size, ?_, ?_⟩
  · cases ho : g'.own b with
    | none => rfl
    | some i =>
      rcases hx.fresh b i ho with h | h
      · rw [h4] at h; cases h
      · omega
  · obtain ⟨t, ht, htb⟩ := hx.box
    rw [ht]; intro hm
    rcases List.mem_append.1 hm with hm | hm
    · exact h5 hm
    · have := htb b hm; omega⟩
theorem slf_le {α : Type} (k : Kn α) (o : Option Nat) (l : List α) : (slf k l).le (sl k o (some false) l) :=
  fun g w v ⟨b, hv, h1, _⟩ => ⟨_, _, hv, Nat.le_refl _, (fun c hc => by cases hc; rfl), (fun h => by cases h), (fun _ => ⟨b, 0, rfl, h1⟩), fun _ _ => .inl rfl⟩

theorem freeze_heap (w : World) (b n : Nat) {k : Nat} (h : k ≠ b) : (w.freeze ⟨b, n, none⟩ 1).heap[k]? = w.heap[k]? := by
  simp only [World.freeze, Nat.one_ne_zero, if_false, Array.getElem?_modify]
  rw [if_neg (Ne.symm h)]
theorem freeze_cell (w : World) (b n c o : Nat) : (w.freeze ⟨b, n, none⟩ 1).cell? ⟨c, o, none⟩ = w.cell? ⟨c, o, none⟩ := by
  by_cases h : c = b
  · subst h
    simp only [World.cell?, World.freeze, Nat.one_ne_zero, if_false, Array.getElem?_modify]
    cases hh : w.heap[c]? with
    | none => simp
    | some ob => cases ob <;> simp
  · exact World.cell?_of_block (w := w) (freeze_heap w b n h)
theorem ext_freeze {g : G} {s : St} {w : World} (hs : SRel g s w) {b : Nat} (n : Nat) (h2 : g.base ≤ b) : Ext g w g (w.freeze ⟨b, n, none⟩ 1) :=
  ⟨rfl, rfl, rfl, by simp [World.freeze], fun _ => Nat.le_refl _, fun c o _ => freeze_cell w b n c o, ⟨[], by simp⟩, fun _ _ h => h, fun _ _ h => .inl h, fun c hc _ _ _ => freeze_heap w b n (by omega), rfl⟩
theorem srel_freeze {g : G} {s : St} {w : World} (hs : SRel g s w) {b : Nat} (n : Nat) (h2 : g.base ≤ b) (h4 : g.own b = none) (h5 : b ∉ g.box) : SRel g s (w.freeze ⟨b, n, none⟩ 1) := by
  have hx := ext_freeze hs n h2
  refine ⟨hs.len, hs.nd, fun i B hB => ?_, fun c id cc ho => ?_, fun c hc => ?_, s.stat.mono hx hs.st, hs.sb, Nat.le_trans hs.bz hx.size⟩
  · obtain ⟨k, vs, q1, q2, q3, q4⟩ := hs.bx i B hB
    exact ⟨k, vs, q1, by rw [freeze_heap w b n (fun h => h5 (h ▸ List.mem_of_getElem? q1))]; exact q2, q3.mono hx, q4⟩
  · obtain ⟨f, cs, q1, q2, q3⟩ := hs.ow c id cc ho
    exact ⟨f, cs, q1, by rw [freeze_heap w b n (fun h => by subst h; rw [h4] at ho; cases ho)]; exact q2, q3⟩
  · have := hs.sl c hc
    simpa [World.freeze] using this

theorem opD_buildSliceF {α : Type} {k : Kn α} {t te : TypeId} {n : Nat} {parts : List (Nat × Operand)} {qss : List (Nat × List Pd)} {zs : List Value} (l : List α) (ht : P.underlying t = some (.slice te)) (hsz : sizeT P te = some k.sz) (hz : zeroT P te = some zs) (hn : n * k.sz ≤ 16777216) (hl : l.length = n)
    (hp : Parts e parts qss) (hzl : zs.length = k.sz) (hf : fillP (fun i => some (i * k.sz, k.sz)) ((List.replicate n zs).flatten.map pl) qss = some (flat k l)) :
    OpD P ⟨dst, .buildSlice t n parts.toArray, ty, pos, after, guard⟩ e s (slf k l) s :=
  opD_value fun g a w ha hs => by
    obtain ⟨z, hz0, hz2⟩ := Option.map_eq_some_iff.1 hz
    have hx : ∀ x ∈ parts, (e.ev x.2).h g w (a.eval x.2) := fun x hx => ha x.2 (by simp [Op.operands]; exact ⟨x.1, hx⟩)
    have hzs : z.cells.size = k.sz := by rw [← hzl, ← hz2]; simp
    have hrow : ((Array.range (n * k.sz)).map (z.cells[· % z.cells.size]!)).toList = (List.replicate n zs).flatten := by
      rw [← hz2, ← hzs]
      apply List.ext_getElem?
      intro q
      by_cases hq : q < n * z.cells.size
      · have hpos : 0 < z.cells.size := by
          rcases Nat.eq_zero_or_pos z.cells.size with h0 | h0
          · rw [h0] at hq; omega
          · exact h0
        have hmod := Nat.mod_lt q hpos
        have hdiv : q / z.cells.size < n := (Nat.div_lt_iff_lt_mul hpos).2 hq
        have key : ∀ (m : Nat) (q : Nat), q < m * z.cells.size → (List.replicate m z.cells.toList).flatten[q]? = z.cells.toList[q % z.cells.size]? := by
          intro m
          induction m with
          | zero => intro q hq; omega
          | succ m ih =>
            intro q hq
            rw [List.replicate_succ, List.flatten_cons]
            by_cases hlt : q < z.cells.size
            · rw [List.getElem?_append_left (by simpa using hlt), Nat.mod_eq_of_lt hlt]
            · rw [List.getElem?_append_right (by simp; omega)]
              have : q - z.cells.toList.length < m * z.cells.size := by
                rw [Nat.add_mul] at hq; simp; omega
              rw [ih _ this]
              congr 1
              simp only [Array.length_toList]
              rw [← Nat.mod_eq_sub_mod (by omega)]
        rw [key n q hq]
        simp [hq, hmod]
      · rw [List.getElem?_eq_none (by simp; omega), List.getElem?_eq_none]
        simp [List.length_flatten]; omega
    obtain ⟨cs', h1, h2⟩ := fill_of_fillP (cs := (Array.range (n * k.sz)).map (z.cells[· % z.cells.size]!)) hp hx (by rw [hrow]; exact pds_pl g w _) hf
    have hrun := run_buildSlice (P := P) (t := t) (te := te) (n := n) (sz := k.sz) (parts := parts.toArray.map fun (i, x) => (i, a.eval x)) (z := z) (cells := cs') ht hsz hn hz0 (by simpa using h1) w
    have hN := new_alloc w (.cells cs' te)
    refine ⟨.slice (some ⟨w.heap.size, 0, none⟩) n n, g.addRow w.heap.size (n * k.sz) none, w.alloc (.cells cs' te), ?_, ?_, ext_new hs hN _ _, srel_new hs hN (FrLe.refl _) (fun _ _ h => by cases h)⟩
    · show (Sem.bind (Instr.buildSlice t n (parts.toArray.map fun (i, x) => (i, a.eval x))) fun v => Sem.pure (Next.value v)).run P w = _
      exact run_v hrun
    · refine ⟨w.heap.size, by rw [hl], ?_, hs.bz, by rw [hN.size]; omega, by simp [G.addRow], fun hm => absurd (hs.ltBox hm) (by omega)⟩
      exact slCells_new (ext_new hs hN _ _) h2 (alloc_heap_new w _) (fun j v hj => by simpa using hj) (by rw [flat_length, hl]; simp [G.addRow])

theorem opD_buildSliceO {α : Type} {k : Kn α} (o : Option Nat) {t te : TypeId} {n : Nat} {parts : List (Nat × Operand)} {qss : List (Nat × List Pd)} {zs : List Value} (l : List α) (ht : P.underlying t = some (.slice te)) (hsz : sizeT P te = some k.sz) (hz : zeroT P te = some zs) (hn : n * k.sz ≤ 16777216) (hl : l.length = n)
    (hp : Parts e parts qss) (hzl : zs.length = k.sz) (hf : fillP (fun i => some (i * k.sz, k.sz)) ((List.replicate n zs).flatten.map pl) qss = some (flat k l)) :
    OpD P ⟨dst, .buildSlice t n parts.toArray, ty, pos, after, guard⟩ e s (sl k o (some false) l) s := opD_le (opD_buildSliceF l ht hsz hz hn hl hp hzl hf) (slf_le k o l)

/-- '[]byte("..")' of a constant: the bytes, marked as a string's. -/
theorem opD_conv_same {x : Operand} {t te : TypeId} {l : List Int} (ht : P.underlying t = some (.slice te)) (he : P.underlying te = some (.int .u8)) (hx : e.ev x = slf (kI .u8) l) :
    OpD P ⟨dst, .convert t t x, ty, pos, after, guard⟩ e s (sl (kI .u8) none (some false) l) s :=
  opD_value fun g a w ha hs => by
    have h1 := ha x (by simp [Op.operands])
    rw [hx] at h1
    have hle := slf_le (kI .u8) none l g w _ h1
    obtain ⟨b, hv, h1, h2, h3, h4, h5⟩ := h1
    have hrun : ∃ w', (convert t t (.slice (some ⟨b, 0, none⟩) l.length l.length)).run P w = .ok (.slice (some ⟨b, 0, none⟩) l.length l.length) w' ∧ (w' = w ∨ ∃ n, w' = w.freeze ⟨b, n, none⟩ 1) := by
      cases hsh : w.shape? b with
      | none => exact ⟨w, by simp [convert, run_underlying ht, run_underlying he, markStringish, shape, Sem.run, hsh, Result.andThen], .inl rfl⟩
      | some tn => exact ⟨_, by simp [convert, run_underlying ht, run_underlying he, markStringish, shape, freeze, Sem.run, hsh, Result.andThen], .inr ⟨tn.2, rfl⟩⟩
    obtain ⟨w', hr, hw⟩ := hrun
    refine ⟨a.eval x, g, w', ?_, ?_, ?_, ?_⟩
    · show (Sem.bind (convert t t (a.eval x)) fun v => Sem.pure (Next.value v)).run P w = _
      rw [hv]
      exact run_v hr
    · rcases hw with rfl | ⟨n, rfl⟩
      · exact hle
      · exact (sl (kI .u8) none (some false) l).mono (ext_freeze hs n h2) hle
    · rcases hw with rfl | ⟨n, rfl⟩
      · exact Ext.refl _ _
      · exact ext_freeze hs n h2
    · rcases hw with rfl | ⟨n, rfl⟩
      · exact hs
      · exact srel_freeze hs n h2 h4 h5
end
end Go.Proofs.YtmnhfpcbfdgbcaaDoor.Eng
