/- The engine, eighth part: new rows, and what is appended. -/
import Derived.Test.YtmnhfpcbfdgbcaaDoorEngG
import Derived.Laws.AppendOwn
namespace Go.Proofs.YtmnhfpcbfdgbcaaDoor.Eng
set_option linter.unusedVariables false
set_option linter.unusedSimpArgs false
open Go.RowKit

theorem Pds.of_get {g : G} {w : World} : ∀ {ps : List Pd} {vs : List Value}, vs.length = ps.length → (∀ (i : Nat) (p : Pd) (v : Value), ps[i]? = some p → vs[i]? = some v → p.h g w v) → Pds g w ps vs
  | [], [], _, _ => trivial
  | q :: ps, u :: vs, hl, h => ⟨h 0 q u rfl rfl, Pds.of_get (by simpa using hl) fun i p v hp hv => h (i + 1) p v (by rw [List.getElem?_cons_succ]; exact hp) (by rw [List.getElem?_cons_succ]; exact hv)⟩
  | [], _ :: _, hl, _ => by simp at hl
  | _ :: _, [], hl, _ => by simp at hl

def flat {α : Type} (k : Kn α) (l : List α) : List Pd := l.flatMap k.cs
theorem flat_length {α : Type} (k : Kn α) (l : List α) : (flat k l).length = l.length * k.sz := by
  induction l with
  | nil => simp [flat]
  | cons x l ih =>
    simp only [flat, List.flatMap_cons, List.length_append, k.len, List.length_cons] at ih ⊢
    rw [ih, Nat.add_mul]; omega
theorem flat_append {α : Type} (k : Kn α) (l l2 : List α) : flat k (l ++ l2) = flat k l ++ flat k l2 := by simp [flat]
theorem flat_get {α : Type} (k : Kn α) : ∀ (l : List α) (i j : Nat), j < k.sz → (flat k l)[i * k.sz + j]? = (l[i]?).bind fun x => (k.cs x)[j]?
  | [], i, j, _ => by simp [flat]
  | x :: l, 0, j, hj => by
    simp only [flat, List.flatMap_cons, Nat.zero_mul, Nat.zero_add, List.getElem?_cons_zero, Option.bind_some]
    rw [List.getElem?_append_left (by rw [k.len]; exact hj)]
  | x :: l, i + 1, j, hj => by
    have ih := flat_get k l i j hj
    simp only [flat, List.flatMap_cons, List.getElem?_cons_succ] at ih ⊢
    rw [List.getElem?_append_right (by rw [k.len, Nat.add_mul]; omega), k.len, ← ih]
    congr 1
    rw [Nat.add_mul]; omega

theorem slCells_of_flat {α : Type} {k : Kn α} {l : List α} {g : G} {w : World} {b o : Nat} (h : ∀ (q : Nat) (p : Pd), (flat k l)[q]? = some p → o + q < g.sld b ∧ ∃ c, w.cell? ⟨b, o + q, none⟩ = some c ∧ p.h g w c) : SlCells k l g w b o := by
  intro i x hi j p hp
  have hj : j < k.sz := by rw [← k.len x]; exact (List.getElem?_eq_some_iff.1 hp).1
  have := h (i * k.sz + j) p (by rw [flat_get k l i j hj, hi]; exact hp)
  rw [← Nat.add_assoc] at this
  exact this

theorem SlCells.flat {α : Type} {k : Kn α} {l : List α} {g : G} {w : World} {b o : Nat} (h : SlCells k l g w b o) (q : Nat) (p : Pd) (hq : (flat k l)[q]? = some p) : o + q < g.sld b ∧ ∃ c, w.cell? ⟨b, o + q, none⟩ = some c ∧ p.h g w c := by
  have hlt := (List.getElem?_eq_some_iff.1 hq).1
  rw [flat_length] at hlt
  have hz : 0 < k.sz := by
    rcases Nat.eq_zero_or_pos k.sz with h0 | h0
    · rw [h0] at hlt; omega
    · exact h0
  have e1 : q = q / k.sz * k.sz + q % k.sz := by rw [Nat.mul_comm]; exact (Nat.div_add_mod q k.sz).symm
  have hm := Nat.mod_lt q hz
  rw [e1, flat_get k l _ _ hm] at hq
  obtain ⟨x, hx, hp⟩ := Option.bind_eq_some_iff.1 hq
  have := h _ x hx _ p hp
  rw [Nat.add_assoc, ← e1] at this
  exact this

/-- The cells of a slice as a list. -/
theorem SlCells.vals {α : Type} {k : Kn α} {l : List α} {g : G} {w : World} {b o : Nat} (h : SlCells k l g w b o) :
    ∃ vs : List Value, vs.length = l.length * k.sz ∧ (∀ j v, vs[j]? = some v → w.cell? ((⟨b, o, none⟩ : Addr).add j) = some v) ∧ Pds g w (Eng.flat k l) vs ∧ ∀ v ∈ vs, v.oneCell' = true := by
  have hget : ∀ q, q < (Eng.flat k l).length → ∃ c, w.cell? ⟨b, o + q, none⟩ = some c := fun q hq => by
    obtain ⟨_, c, hc, _⟩ := h.flat q _ (List.getElem?_eq_getElem hq)
    exact ⟨c, hc⟩
  refine ⟨(List.range (Eng.flat k l).length).map fun q => (w.cell? ⟨b, o + q, none⟩).getD undef, by simp [flat_length], fun j v hj => ?_, Pds.of_get (by simp) fun i p v hp hv => ?_, fun v hv => ?_⟩
  · rw [List.getElem?_map] at hj
    obtain ⟨q, hq, rfl⟩ := Option.map_eq_some_iff.1 hj
    have hlt := (List.getElem?_eq_some_iff.1 hq).1
    simp only [List.length_range] at hlt
    rw [List.getElem?_range hlt] at hq
    cases hq
    obtain ⟨c, hc⟩ := hget j hlt
    rw [Addr.add_lit, hc]; rfl
  · rw [List.getElem?_map] at hv
    obtain ⟨q, hq, rfl⟩ := Option.map_eq_some_iff.1 hv
    have hlt := (List.getElem?_eq_some_iff.1 hp).1
    rw [List.getElem?_range hlt] at hq
    cases hq
    obtain ⟨_, c, hc, hpc⟩ := h.flat i p hp
    rw [hc]; exact hpc
  · obtain ⟨q, hq, rfl⟩ := List.mem_map.1 hv
    have hlt := List.mem_range.1 hq
    obtain ⟨_, c, hc, hpc⟩ := h.flat q _ (List.getElem?_eq_getElem hlt)
    rw [hc]
    have hmem : (Eng.flat k l)[q] ∈ Eng.flat k l := List.getElem_mem hlt
    simp only [Eng.flat, List.mem_flatMap] at hmem
    obtain ⟨x, _, hx⟩ := hmem
    exact k.one x _ hx _ _ _ hpc

/-- One new block, and nothing else. -/
structure New (w w1 : World) : Prop where
  os : w1.os = w.os
  tape : w1.tape = w.tape
  output : w1.output = w.output
  size : w1.heap.size = w.heap.size + 1
  old : ∀ k, k < w.heap.size → w1.heap[k]? = w.heap[k]?

theorem new_alloc (w : World) (o : Obj) : New w (w.alloc o) := ⟨rfl, rfl, rfl, by simp, fun _ h => alloc_heap_old w o h⟩
theorem new_drew_alloc (w : World) (o : Obj) : New w (w.drew.alloc o) := ⟨rfl, rfl, rfl, by simp, fun _ h => alloc_heap_old w.drew o h⟩

def G.addRow (g : G) (b n : Nat) (ow : Option (Nat × Nat)) : G := ⟨fun k => if k = b then n else g.sld k, g.box, fun k => if k = b then ow else g.own k, g.base⟩

theorem ext_new {g : G} {s : St} {w w1 : World} (h : SRel g s w) (hN : New w w1) (n : Nat) (ow : Option (Nat × Nat)) : Ext g w (g.addRow w.heap.size n ow) w1 := by
  refine ⟨hN.os, hN.tape, hN.output, by rw [hN.size]; omega, fun b => ?_, fun b o ho => ?_, ⟨[], by simp [G.addRow]⟩, fun b i hi => ?_, fun b i hi => ?_, fun b _ hb _ _ => hN.old b hb, rfl⟩
  · simp only [G.addRow]
    split
    · rename_i hb; subst hb; rw [h.sld0]; omega
    · exact Nat.le_refl _
  · exact World.cell?_of_block (w := w) (hN.old b (h.sl b (by omega)))
  · simp only [G.addRow]
    rw [if_neg (by have := h.ltOwn hi; omega)]
    exact hi
  · simp only [G.addRow] at hi
    split at hi
    · rename_i hb; exact .inr (by omega)
    · exact .inl hi

def FrLe (fr fr' : List Fr) : Prop := fr.length ≤ fr'.length ∧ ∀ (id : Nat) (f : Fr), fr[id]? = some f → ∃ f', fr'[id]? = some f' ∧ f'.t = f.t ∧ f'.sz = f.sz ∧ f.n ≤ f'.n
theorem FrLe.refl (fr : List Fr) : FrLe fr fr := ⟨Nat.le_refl _, fun _ f h => ⟨f, h, rfl, rfl, Nat.le_refl _⟩⟩
theorem FrLe.app (fr : List Fr) (f : Fr) : FrLe fr (fr ++ [f]) := ⟨by simp, fun id f h => ⟨f, by rw [List.getElem?_append_left (List.getElem?_eq_some_iff.1 h).1]; exact h, rfl, rfl, Nat.le_refl _⟩⟩
theorem FrLe.set {fr : List Fr} {id : Nat} {f : Fr} (h : fr[id]? = some f) {n : Nat} (hn : f.n ≤ n) : FrLe fr (fr.set id ⟨f.t, f.sz, n⟩) := by
  refine ⟨by simp, fun j f2 h2 => ?_⟩
  by_cases hj : j = id
  · subst hj
    rw [h] at h2; cases h2
    exact ⟨⟨f.t, f.sz, n⟩, by simp [(List.getElem?_eq_some_iff.1 h).1], rfl, rfl, hn⟩
  · exact ⟨f2, by rw [List.getElem?_set_ne (Ne.symm hj)]; exact h2, rfl, rfl, Nat.le_refl _⟩

theorem srel_new {g : G} {s : St} {w w1 : World} (h : SRel g s w) (hN : New w w1) {n : Nat} {ow : Option (Nat × Nat)} {fr' : List Fr} (hfr : FrLe s.fr fr')
    (ho : ∀ id c, ow = some (id, c) → ∃ f cs, fr'[id]? = some f ∧ w1.heap[w.heap.size]? = some (.cells cs f.t (0, 0)) ∧ cs.size = c * f.sz ∧ n ≤ f.n * f.sz) : SRel (g.addRow w.heap.size n ow) ⟨s.boxes, fr', s.stat⟩ w1 := by
  have hx := ext_new h hN n ow
  refine ⟨h.len, h.nd, fun i B hB => ?_, fun b id c hb => ?_, fun b hn => ?_, s.stat.mono hx h.st, h.sb, Nat.le_trans h.bz hx.size⟩
  · obtain ⟨k, vs, h1, h2, h3, h4, h5, h6⟩ := h.bx i B hB
    have hk : k < w.heap.size := (Array.getElem?_eq_some_iff.1 h2).1
    refine ⟨k, vs, h1, by rw [hN.old k hk]; exact h2, h3.mono hx, ?_, ?_, fun p hp => (h6 p hp).up (Nat.le_refl _) hfr.1⟩
    · intro hn; simp only [G.addRow]; rw [if_neg (by omega)]; exact h4 hn
    · simp only [G.addRow]; rw [if_neg (by omega)]; exact h5
  · simp only [G.addRow] at hb
    split at hb
    · rename_i hbs
      subst hbs
      obtain ⟨f, cs, e1, e2, e3, e4⟩ := ho id c hb
      exact ⟨f, cs, e1, e2, e3, by simpa [G.addRow] using e4⟩
    · rename_i hbs
      obtain ⟨f, cs, e1, e2, e3, e4⟩ := h.ow b id c hb
      obtain ⟨f', h1, h2, h3, h4⟩ := hfr.2 id f e1
      refine ⟨f', cs, h1, by rw [hN.old b (h.ltOwn hb), h2]; exact e2, by rw [h3]; exact e3, ?_⟩
      simp only [G.addRow]; rw [if_neg hbs, h3]
      exact Nat.le_trans e4 (Nat.mul_le_mul_right _ h4)
  · simp only [G.addRow] at hn
    rw [hN.size]
    split at hn
    · omega
    · have := h.sl b hn; omega

/-- The cells of a new row, from its beginning on. -/
theorem slCells_new {α : Type} {k : Kn α} {l : List α} {g g' : G} {w w1 : World} {vs : List Value} {cs : Array Value} {t : TypeId} {fr : Nat × Nat} {b : Nat} (hx : Ext g w g' w1) (hp : Pds g w (flat k l) vs) (hb : w1.heap[b]? = some (.cells cs t fr))
    (hc : ∀ (j : Nat) (v : Value), vs[j]? = some v → cs[j]? = some v) (hs : (flat k l).length ≤ g'.sld b) : SlCells k l g' w1 b 0 := by
  refine slCells_of_flat fun q p hq => ?_
  obtain ⟨v, hv, hpv⟩ := hp.get q p hq
  have hlt := (List.getElem?_eq_some_iff.1 hq).1
  refine ⟨by omega, v, ?_, p.mono hx hpv⟩
  rw [Nat.zero_add, box_cell (g := g) hb]
  exact hc q v hv

def elT (P : Program) (t : TypeId) : Option (Nat × Nat) :=
  match P.info? t with
  | some i => match i.zero with
    | some z => if z.cells.size = i.size then some (i.size, i.bytes) else none
    | none => none
  | none => none
theorem elT_spec {P : Program} {t : TypeId} {sz by_ : Nat} (h : elT P t = some (sz, by_)) : ∃ i z, P.info? t = some i ∧ i.zero = some z ∧ z.cells.size = i.size ∧ i.size = sz ∧ i.bytes = by_ := by
  unfold elT at h
  cases hi : P.info? t with
  | none => rw [hi] at h; cases h
  | some i =>
    rw [hi] at h
    simp only at h
    cases hz : i.zero with
    | none => rw [hz] at h; cases h
    | some z =>
      rw [hz] at h
      simp only at h
      split at h
      · rename_i he; cases h; exact ⟨i, z, rfl, hz, he, rfl, rfl⟩
      · cases h

section
variable {P : Program} {e : Env} {s : St} {dst : Option Tmp} {ty : TypeId} {pos : String} {after : Array Edge} {guard : Option (Nat × Bool)}

theorem opD_str_bytes {x : Operand} {str : ByteArray} {src dt te : TypeId} (hs : P.underlying src = some .string) (hd : P.underlying dt = some (.slice te)) (he : P.underlying te = some (.int .u8)) (hx : e.ev x = pl (.string str)) :
    OpD P ⟨dst, .convert src dt x, ty, pos, after, guard⟩ e s (sl (kI .u8) none (some false) (bytesOf str)) s :=
  opD_value fun g a w ha hsr => by
    have h1 : a.eval x = .string str := by have := ha x (by simp [Op.operands]); rw [hx] at this; exact this
    have hN : New w (Lib.bytesWorld w te str) := ⟨rfl, rfl, rfl, Lib.bytesWorld_size w te str, fun k hk => Lib.bytesWorld_at_old w te str k hk⟩
    refine ⟨.slice (some ⟨w.heap.size, 0, none⟩) str.size (grownCap w str.size 0 te), g.addRow w.heap.size str.size none, Lib.bytesWorld w te str, ?_, ?_, ext_new hsr hN _ _, ?_⟩
    · show (Sem.bind (convert src dt (a.eval x)) fun v => Sem.pure (Next.value v)).run P w = _
      rw [h1]
      exact run_v (Lib.run_convert_string_bytes w src dt te str hs hd he)
    · refine ⟨some ⟨w.heap.size, 0, none⟩, grownCap w str.size 0 te, by rw [bytesOf_length], ?_, (fun b hb => by cases hb; rfl), (fun h => by cases h), fun _ => ⟨w.heap.size, 0, rfl, slCells_of_flat fun q p hq => ?_⟩, fun _ h => by cases h⟩
      · rw [bytesOf_length]; simp [grownCap, Question.cut]
      · have hq1 := (List.getElem?_eq_some_iff.1 hq).1
        rw [flat_length, bytesOf_length] at hq1
        have hz : (kI .u8).sz = 1 := rfl
        rw [hz, Nat.mul_one] at hq1
        have hfl := flat_get (kI .u8) (bytesOf str) q 0 (by rw [hz]; omega)
        rw [hz, Nat.mul_one, Nat.add_zero, hq] at hfl
        have hb : (bytesOf str)[q]? = some ((str.data.toList.getD q 0).toNat : Int) := by
          have hql : q < str.data.toList.length := by simpa using hq1
          simp only [bytesOf, List.getElem?_map, List.getElem?_eq_getElem hql, List.getD_eq_getElem?_getD, Option.map_some, Option.getD_some]
        rw [hb] at hfl
        simp [kI] at hfl
        subst hfl
        refine ⟨by simp only [G.addRow, if_pos]; omega, _, ?_, rfl⟩
        rw [Nat.zero_add]
        simpa using Lib.bytesWorld_cell w te str q hq1
    · exact srel_new hsr hN (FrLe.refl _) (fun _ _ h => by cases h)

theorem run_buildSlice {t te : TypeId} {n sz : Nat} {parts : Array (Nat × Value)} {z : Value} {cells : Array Value} (ht : P.underlying t = some (.slice te)) (hsz : sizeT P te = some sz) (hn : n * sz ≤ 16777216)
    (hz : (P.info? te).bind (·.zero) = some z) (hf : Instr.fill (fun i => some (i * sz, sz)) ((Array.range (n * sz)).map (z.cells[· % z.cells.size]!)) parts.toList = some cells) (w : World) :
    (Instr.buildSlice t n parts).run P w = .ok (.slice (some ⟨w.heap.size, 0, none⟩) n n) (w.alloc (.cells cells te)) := by
  obtain ⟨i, hi, hz2⟩ := Option.bind_eq_some_iff.1 hz
  have hbig : ¬ (2 ^ 24 < n * sz) := by omega
  by_cases h0 : n * sz = 0
  · have hf' : Instr.fill (fun i => some (i * sz, sz)) #[] parts.toList = some cells := by
      rw [h0, show Array.range 0 = #[] from rfl] at hf
      simpa using hf
    simp [Instr.buildSlice, run_underlying ht, run_sizeOf hsz, h0, show Array.range 0 = #[] from rfl, hf', newRow, newObj, Sem.run]
  · simp [Instr.buildSlice, run_underlying ht, run_sizeOf hsz, h0, hbig, zeroValue, typeInfo, hi, hz2, newRow, hf, newObj, Sem.run]
end
end Go.Proofs.YtmnhfpcbfdgbcaaDoor.Eng
