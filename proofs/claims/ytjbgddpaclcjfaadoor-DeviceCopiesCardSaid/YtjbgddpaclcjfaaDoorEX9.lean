/- The engine: ranges over functions. An iterator's walk ('AL'), what a call of yield does ('YS'), the statement's rule ('aw_rangeFunc'). -/
import Derived.Test.YtjbgddpaclcjfaaDoorEX8
import Derived.RangeFuncSeq
import Derived.Shelf.GgSortFunc.InsertionK
namespace Go.Proofs.YtjbgddpaclcjfaaDoor.Eng
set_option linter.unusedVariables false
set_option linter.unusedSimpArgs false
open Go.RowKit

theorem Ext0.trans {g g1 g2 : G} {w w1 w2 : World} (h : Ext0 g w g1 w1) (k : Ext0 g1 w1 g2 w2) : Ext0 g w g2 w2 := by
  refine ⟨k.os.trans h.os, k.tape.trans h.tape, k.output.trans h.output, Nat.le_trans h.size k.size, fun b => Nat.le_trans (h.sld b) (k.sld b), fun b o ho => ?_, fun i e he => ?_, fun b hb => ?_, fun b i hi => k.own b i (h.own b i hi), fun b i hi => ?_, fun b hbb hb hn ho => ?_, k.base.trans h.base⟩
  · rw [k.cell b o (Nat.lt_of_lt_of_le ho (h.sld b)), h.cell b o ho]
  · obtain ⟨e1, h1, h2, h3⟩ := h.box i e he
    obtain ⟨e2, h4, h5, h6⟩ := k.box i e1 h1
    exact ⟨e2, h4, Nat.le_trans h2 h5, fun hv => by
      have : e.ver = e1.ver := by omega
      have h7 := h3 this
      subst h7
      exact h6 hv⟩
  · rcases k.boxf b hb with h1 | h1
    · exact h.boxf b h1
    · exact .inr (Nat.le_trans h.size h1)
  · rcases k.fresh b i hi with h1 | h1
    · exact h.fresh b i h1
    · exact .inr (Nat.le_trans h.size h1)
  · rw [k.block b (by rw [h.base]; exact hbb) (Nat.lt_of_lt_of_le hb h.size) ?_ ?_, h.block b hbb hb hn ho]
    · intro hm
      rcases h.boxf b hm with hm | hm
      · exact hn hm
      · omega
    · cases hg : g1.own b with
      | none => rfl
      | some i =>
        rcases h.fresh b i hg with h1 | h1
        · rw [ho] at h1; cases h1
        · omega
theorem lt_of_some {w : World} {b : Nat} {o : Obj} (h : w.heap[b]? = some o) : b < w.heap.size := (Array.getElem?_eq_some_iff.1 h).1
theorem Ext0.nb {g g' : G} {w w' : World} (x : Ext0 g w g' w') {l : Nat} {o : Obj} (h : w.heap[l]? = some o) (hn : ¬ g.isB l) : ¬ g'.isB l := fun hb => (x.boxf l hb).elim hn fun hk => by
  have := lt_of_some h
  omega

/-- As 'Ext', but for one object. -/
structure ExtX (l : Nat) (g : G) (w : World) (g' : G) (w' : World) : Prop where
  to0 : Ext0 g w g' w'
  oth : ∀ b o, b ≠ l → w.heap[b]? = some o → o.isCells = false → ¬ g.isB b → w'.heap[b]? = some o
theorem Ext.toX {g g' : G} {w w' : World} (x : Ext g w g' w') (l : Nat) : ExtX l g w g' w' := ⟨x.to0, fun b o _ => x.oth b o⟩
theorem ExtX.trans {l : Nat} {g g1 g2 : G} {w w1 w2 : World} (h : ExtX l g w g1 w1) (k : ExtX l g1 w1 g2 w2) : ExtX l g w g2 w2 :=
  ⟨h.to0.trans k.to0, fun b o hb h1 h2 h3 => k.oth b o hb (h.oth b o hb h1 h2 h3) h2 (h.to0.nb h1 h3)⟩
/-- A loop's record, when it may be entered: it lies there; all else goes on from (g0, w0). -/
structure Lv (l : Nat) (rec : Loop) (g0 : G) (w0 : World) (g : G) (w : World) : Prop where
  lies : w.heap[l]? = some (.loop rec)
  nb : ¬ g.isB l
  ext : Ext0 g0 w0 g w
theorem Lv.mono {l : Nat} {rec : Loop} {g0 : G} {w0 : World} {g g' : G} {w w' : World} (h : Lv l rec g0 w0 g w) (x : Ext g w g' w') : Lv l rec g0 w0 g' w' :=
  ⟨x.oth l _ h.lies rfl h.nb, x.to0.nb h.lies h.nb, h.ext.trans x.to0⟩
def dn (rec : Loop) (c : Code) : Loop := { rec with state := .done, pending := some c }

/-! ### Walks of iterators -/
def PostL (nt m l : Nat) (rec : Loop) (Q : Exit → Env → St → Prop) (D : Code → Exit → Env → St → Prop) (g : G) (w : World) (x : Exit) (a' : Act) (w' : World) : Prop :=
  Post nt (m, none) Q g w x a' w' ∨ ∃ c e' s' g', D c x e' s' ∧ ExtX l g w g' w' ∧ w'.heap[l]? = some (.loop (dn rec c)) ∧ ¬ g'.isB l ∧ ERel nt (m, none) e' g' a' w' ∧ SRel g' s' w'
section
variable {P : Program} {nt l : Nat} {rec : Loop} {g0 : G} {w0 : World} {Q Q' : Exit → Env → St → Prop} {D D' : Code → Exit → Env → St → Prop} {e : Env} {s : St}

theorem PostL.trans {m : Nat} {g g1 : G} {w w1 : World} {x : Exit} {a : Act} {w2 : World} (hx : Ext g w g1 w1) (h : PostL nt m l rec Q D g1 w1 x a w2) : PostL nt m l rec Q D g w x a w2 := by
  rcases h with ⟨e', s', g', q, hx', r⟩ | ⟨c, e', s', g', q, hx', r⟩
  · exact .inl ⟨e', s', g', q, hx.trans hx', r⟩
  · exact .inr ⟨c, e', s', g', q, (hx.toX l).trans hx', r⟩
end
end Go.Proofs.YtjbgddpaclcjfaaDoor.Eng

/- The engine: ranges over functions, second part: calls of yield, an iterator's text, the statement. -/
namespace Go.Proofs.YtjbgddpaclcjfaaDoor.Eng
set_option linter.unusedVariables false
set_option linter.unusedSimpArgs false
open Go.RowKit

section
variable {P : Program} {nt l : Nat} {rec : Loop} {g0 : G} {w0 : World} {Q : Exit → Env → St → Prop} {D : Code → Exit → Env → St → Prop}

end

/-! ### An iterator's text -/
end Go.Proofs.YtjbgddpaclcjfaaDoor.Eng

/- The engine: ranges over functions, third part: the statement. -/
namespace Go.Proofs.YtjbgddpaclcjfaaDoor.Eng
set_option linter.unusedVariables false
set_option linter.unusedSimpArgs false
open Go.RowKit

section
variable {P : Program} {nt : Nat} {e : Env} {s : St}

end
end Go.Proofs.YtjbgddpaclcjfaaDoor.Eng

/- The engine: a row in place that a sort of the kit's shelf turns. -/
namespace Go.Proofs.YtjbgddpaclcjfaaDoor.Eng
set_option linter.unusedVariables false
set_option linter.unusedSimpArgs false
open Go.RowKit Go.Sort

theorem sortWorldK_facts {α : Type} [Inhabited α] {enc : α → List Value} {k n blk te : Nat} {w : World} {vs : Array Value} {d : Array α} {os : Array Obj} (hb : w.heap[blk]? = some (.cells vs te (0, 0))) :
    (sortWorldK enc k w blk 0 n d os).os = w.os ∧ (sortWorldK enc k w blk 0 n d os).tape = w.tape ∧ (sortWorldK enc k w blk 0 n d os).output = w.output ∧ w.heap.size ≤ (sortWorldK enc k w blk 0 n d os).heap.size ∧
      (∀ b, b < w.heap.size → b ≠ blk → (sortWorldK enc k w blk 0 n d os).heap[b]? = w.heap[b]?) ∧ (sortWorldK enc k w blk 0 n d os).heap[blk]? = some (.cells (putCells id 0 (flatK enc k d) vs) te (0, 0)) := by
  have hlt : blk < w.heap.size := (Array.getElem?_eq_some_iff.1 hb).1
  refine ⟨rfl, rfl, rfl, ?_, fun b h1 h2 => ?_, ?_⟩
  · simp [sortWorldK, grow, putRowK, putRow, mapBlock, ahead]
  · show ((w.heap.modify blk _) ++ os)[b]? = _
    rw [Array.getElem?_append_left (by simpa using h1), Array.getElem?_modify, if_neg (Ne.symm h2)]
  · show ((w.heap.modify blk _) ++ os)[blk]? = _
    rw [Array.getElem?_append_left (by simpa using hlt), Array.getElem?_modify, if_pos rfl, hb]
    rfl

/-- The cells of a row, as values. -/
def flatV {α : Type} (enc : α → List Value) (l : List α) : List Value := l.flatMap enc
theorem flatV_length {α : Type} {enc : α → List Value} {sz : Nat} (h : ∀ x, (enc x).length = sz) (l : List α) : (flatV enc l).length = l.length * sz := by
  induction l with
  | nil => simp [flatV]
  | cons x l ih =>
    simp only [flatV, List.flatMap_cons, List.length_append, h, List.length_cons] at ih ⊢
    rw [ih, Nat.add_mul]; omega
theorem flatV_get {α : Type} {enc : α → List Value} {sz : Nat} (h : ∀ x, (enc x).length = sz) : ∀ (l : List α) (i j : Nat), j < sz → (flatV enc l)[i * sz + j]? = (l[i]?).bind fun x => (enc x)[j]?
  | [], i, j, _ => by simp [flatV]
  | x :: l, 0, j, hj => by
    simp only [flatV, List.flatMap_cons, Nat.zero_mul, Nat.zero_add, List.getElem?_cons_zero, Option.bind_some]
    rw [List.getElem?_append_left (by rw [h]; exact hj)]
  | x :: l, i + 1, j, hj => by
    have ih := flatV_get h l i j hj
    simp only [flatV, List.flatMap_cons, List.getElem?_cons_succ] at ih ⊢
    rw [List.getElem?_append_right (by rw [h, Nat.add_mul]; omega), h, ← ih]
    congr 1
    rw [Nat.add_mul]; omega
theorem flat_flatV {α : Type} {k : Kn α} {enc : α → List Value} (henc : ∀ x, k.cs x = (enc x).map pl) (l : List α) : flat k l = (flatV enc l).map pl := by
  simp only [flat, flatV, List.map_flatMap]
  congr 1
  funext x
  exact henc x
theorem flatK_flatV {α : Type} [Inhabited α] {enc : α → List Value} {sz : Nat} (h : ∀ x, (enc x).length = sz) (d : Array α) : (flatK enc sz d).toList = flatV enc d.toList := by
  apply List.ext_getElem?
  intro q
  by_cases hq : q < d.size * sz
  · have hz : 0 < sz := by
      rcases Nat.eq_zero_or_pos sz with h0 | h0
      · rw [h0] at hq; omega
      · exact h0
    have h1 := get_flatK enc sz d q hq
    have hl : q < (flatK enc sz d).size := by rw [size_flatK]; exact hq
    rw [getElem!_pos _ q hl] at h1
    rw [Array.getElem?_toList, Array.getElem?_eq_getElem hl, h1]
    have hd : q / sz < d.size := (Nat.div_lt_iff_lt_mul hz).2 hq
    have hm : q % sz < sz := Nat.mod_lt _ hz
    have h2 := flatV_get h d.toList (q / sz) (q % sz) hm
    rw [Nat.div_add_mod' q sz] at h2
    rw [h2]
    have hl2 : q % sz < (enc d[q / sz]).length := by rw [h]; exact hm
    simp [hd, getElem!_pos, hl2]
  · rw [List.getElem?_eq_none (by simp; omega), List.getElem?_eq_none (by rw [flatV_length h]; simp; omega)]

/-- What a sort needs of a row in place, and what it leaves of it. -/
theorem hot_sort {α : Type} [Inhabited α] {k : Kn α} {enc : α → List Value} (henc : ∀ x, k.cs x = (enc x).map pl) (hkb : ∀ x n m, ∀ p ∈ k.cs x, p.Bnd n m) {i r te : Nat} {l : List α} {g : G} {s : St} {w : World} {v : Value} (hte : Nat.blt te HOT = true) (hr : 2 ≤ r) (hev : r % 2 = 0) (hz : 0 < k.sz) (hs : SRel g s w)
    (hB : s.boxes[i]? = some ⟨hot te r, flat k l⟩) (hv : (hsl i r 0 l.length k.sz).h g w v) :
    (∃ A, v = .slice A 0 0 ∧ l = []) ∨ ∃ blk cap, v = .slice (some ⟨blk, 0, none⟩) l.length cap ∧ blk < w.heap.size ∧ HoldsK enc k.sz w blk 0 l.toArray ∧ ∀ n d os, d.size = l.length → Ext g w g (sortWorldK enc k.sz w blk 0 n d os) ∧ SRel g ⟨s.boxes.set i ⟨hot te r, flat k d.toList⟩, s.fr, s.stat⟩ (sortWorldK enc k.sz w blk 0 n d os) := by
  have hlen : ∀ x, (enc x).length = k.sz := fun x => by rw [← k.len x, henc x, List.length_map]
  obtain ⟨e, A, c, q1, q2, rfl, hlc, hAn, hblk⟩ := hv
  obtain ⟨e', vs, r1, r2, r3, r4, r5, r6⟩ := hs.bx i _ hB
  rw [q1] at r1; cases r1
  have hver : (⟨hot te r, flat k l⟩ : Bx).ver = r := hot_ver hte
  have hevr : e.ver = r := by rw [r2]; exact hver
  have hfl : l.length * k.sz ≤ vs.size := by
    have h := r4.len
    rw [show (⟨hot te r, flat k l⟩ : Bx).cs = flat k l from rfl, flat_length, Array.length_toList] at h
    exact h
  rcases hblk hevr with ⟨hn, hc0⟩ | ⟨blk, hk, rfl, hcnt⟩
  · subst hc0
    have h0 : l = [] := List.length_eq_zero_iff.1 (by omega)
    subst h0
    exact .inl ⟨A, rfl, rfl⟩
  · unfold Cont at r3
    rw [hk] at r3
    obtain ⟨hh, hsz⟩ := r3
    rw [hot_obj hte hr] at hh
    have hlt : blk < w.heap.size := (Array.getElem?_eq_some_iff.1 hh).1
    have hvals : vs.toList.take (l.length * k.sz) = flatV enc l := by
      have h1 : Pds g w (flat k l) (vs.toList.take (flat k l).length) := r4
      rw [flat_length, flat_flatV henc] at h1
      exact pdsl h1
    have hlive : (⟨hot te r, flat k l⟩ : Bx).live := .inr ⟨by rw [hver]; exact hr, by rw [hver]; exact hev⟩
    have h0 : g.sld blk = 0 := (r5 blk hk).1 hlive
    refine .inr ⟨blk, c, rfl, hlt, fun j hj => ?_, fun n d os hd => ?_⟩
    · rw [size_flatK, List.size_toArray] at hj
      have hjv : j < vs.size := by omega
      refine ⟨?_, by simp [World.frozen?, hh]⟩
      rw [Nat.zero_add, box_cell (g := g) hh]
      have h2 : (flatV enc l)[j]? = some vs[j] := by rw [← hvals, List.getElem?_take_of_lt hj]; simp [hjv]
      have h3 : (flatK enc k.sz l.toArray)[j]? = some vs[j] := by
        rw [← Array.getElem?_toList, flatK_flatV hlen, List.toList_toArray]; exact h2
      have h4 : j < (flatK enc k.sz l.toArray).size := (Array.getElem?_eq_some_iff.1 h3).1
      rw [getElem!_pos _ j h4]
      have := (Array.getElem?_eq_some_iff.1 h3).2
      show vs[j]? = some ((flatK enc k.sz l.toArray)[j])
      rw [this]; simp [hjv]
    · obtain ⟨f1, f2, f3, f4, f5, f6⟩ := sortWorldK_facts (enc := enc) (k := k.sz) (n := n) (d := d) (os := os) hh
      have hps : (putCells id 0 (flatK enc k.sz d) vs).size = vs.size := by simp [putCells]
      have hx : Ext g w g (sortWorldK enc k.sz w blk 0 n d os) := by
        refine ⟨f1, f2, f3, f4, fun _ => Nat.le_refl _, fun b o ho => ?_, fun _ e h => ⟨e, h, Nat.le_refl _, fun _ => rfl⟩, fun _ h => .inl h, fun _ _ h => h, fun _ _ h => .inl h, fun b hb hb2 hn _ => f5 b hb2 fun h => by subst h; exact hn ⟨i, e, q1, hk⟩, rfl, fun b o hb ho _ => ?_⟩
        · exact World.cell?_of_block (w := w) (f5 b (hs.sl b (by omega)) fun h => by subst h; omega)
        · exact (f5 b (Array.getElem?_eq_some_iff.1 hb).1 fun h => by subst h; rw [hh] at hb; cases hb; cases ho).trans hb
      refine ⟨hx, srel_put (e' := e) (B' := ⟨hot te r, flat k d.toList⟩) (cs := putCells id 0 (flatK enc k.sz d) vs) hs hB q1 hx ⟨rfl, rfl, rfl⟩ (set_self q1).symm hk (by rw [hevr]; exact (hot_ver hte).symm) (fun _ => ?_) (.inl hk) f5 (by rw [hot_obj hte hr]; exact f6) h0 ?_ (flatKB hkb)⟩
      · rw [hps]; exact hsz (by rw [hver]; exact hr)
      · show Pds _ _ _ _
        rw [flat_length, flat_flatV henc]
        have : (putCells id 0 (flatK enc k.sz d) vs).toList.take (d.toList.length * k.sz) = flatV enc d.toList := by
          rw [← flatK_flatV hlen]
          apply List.ext_getElem?
          intro q
          rw [Array.length_toList, hd]
          by_cases hq : q < l.length * k.sz
          · rw [List.getElem?_take_of_lt hq, Array.getElem?_toList, Array.getElem?_toList]
            have h5 : q < (flatK enc k.sz d).size := by rw [size_flatK, hd]; exact hq
            have h6 : q < vs.size := by omega
            rw [Array.getElem?_eq_getElem h5]
            simp [putCells, h6, h5, hd, hq, getElem!_pos]
          · rw [List.getElem?_take_eq_none (by omega), List.getElem?_eq_none (by simp [hd]; omega)]
        rw [this]; exact pds_pl _ _ _

end Go.Proofs.YtjbgddpaclcjfaaDoor.Eng

/- The engine: what lies in place, lent to a call that only reads; rows in place, from a place on; parts of elements. -/
namespace Go.Proofs.YtjbgddpaclcjfaaDoor.Eng
set_option linter.unusedVariables false
set_option linter.unusedSimpArgs false
open Go.RowKit

/-! ### Lent -/
/-- All that lies there, as it is. -/
def GF (w : World) : G := ⟨fun b => match w.heap[b]? with | some (.cells cs _ _) => cs.size | _ => 0, [], fun _ => none, w.heap.size⟩
structure Same (w w' : World) : Prop where
  os : w'.os = w.os
  tape : w'.tape = w.tape
  output : w'.output = w.output
  size : w.heap.size ≤ w'.heap.size
  heap : ∀ b, b < w.heap.size → w'.heap[b]? = w.heap[b]?
theorem Same.ext {g : G} {s : St} {w w' : World} (h : Same w w') (hs : SRel g s w) : Ext g w g w' :=
  ⟨h.os, h.tape, h.output, h.size, fun _ => Nat.le_refl _, fun b o ho => World.cell?_of_block (w := w) (h.heap b (hs.sl b (by omega))), fun _ e h => ⟨e, h, Nat.le_refl _, fun _ => rfl⟩, fun _ h => .inl h, fun _ _ h => h, fun _ _ h => .inl h, fun b _ hb _ _ => h.heap b hb, rfl, fun b o hb _ _ => (h.heap b (lt_of_some hb)).trans hb⟩
theorem Same.srel {g : G} {s : St} {w w' : World} (h : Same w w') (hs : SRel g s w) : SRel g s w' :=
  have hx := h.ext hs
  ⟨hs.len, hs.nd, fun i B hB => by
    obtain ⟨e, vs, h1, h2, h3, h4, h5⟩ := hs.bx i B hB
    exact ⟨e, vs, h1, h2, h3.to fun k _ hl => h.heap k hl, h4.mono hx, h5⟩, fun b id c ho => by
    obtain ⟨f, cs, h1, h2, h3⟩ := hs.ow b id c ho
    exact ⟨f, cs, h1, (h.heap b (lt_of_some h2)).trans h2, h3⟩, fun b hn => Nat.lt_of_lt_of_le (hs.sl b hn) hx.size, s.stat.mono hx hs.st, hs.sb, Nat.le_trans hs.bz hx.size⟩
/-- It speaks of no ghost. -/
def Pd.Pn (p : Pd) : Prop := ∀ g w g' v, p.h g w v → p.h g' w v
def PnL : List Pd → Prop
  | [] => True
  | p :: ps => p.Pn ∧ PnL ps
theorem PnL.pds {g g' : G} {w : World} : ∀ {ps : List Pd} {vs : List Value}, PnL ps → Pds g w ps vs → Pds g' w ps vs
  | [], [], _, _ => trivial
  | _ :: _, _ :: _, h, h2 => ⟨h.1 _ _ _ _ h2.1, PnL.pds h.2 h2.2⟩
  | [], _ :: _, _, h => h.elim
  | _ :: _, [], _, h => h.elim
def FzL : List Pd → Prop
  | [] => True
  | p :: ps => (∀ g s w v, SRel g s w → p.h g w v → p.h (GF w) w v) ∧ FzL ps
theorem FzL.pds {g : G} {s : St} {w : World} (hs : SRel g s w) : ∀ {ps : List Pd} {vs : List Value}, FzL ps → Pds g w ps vs → Pds (GF w) w ps vs
  | [], [], _, _ => trivial
  | _ :: _, _ :: _, h, h2 => ⟨h.1 _ _ _ _ hs h2.1, FzL.pds hs h.2 h2.2⟩
  | [], _ :: _, _, h => h.elim
  | _ :: _, [], _, h => h.elim
/-- An argument, as it is lent. -/
def Lent (s : St) (p q : Pd) : Prop := ∀ g w v, SRel g s w → p.h g w v → q.h (GF w) w v
def LentL (s : St) : List Pd → List Pd → Prop
  | [], [] => True
  | p :: ps, q :: qs => Lent s p q ∧ LentL s ps qs
  | _, _ => False
theorem LentL.pds {g : G} {s : St} {w : World} (hs : SRel g s w) : ∀ {ps qs : List Pd} {vs : List Value}, LentL s ps qs → Pds g w ps vs → Pds (GF w) w qs vs
  | [], [], [], _, _ => trivial
  | _ :: _, _ :: _, _ :: _, h, h2 => ⟨h.1 _ _ _ hs h2.1, LentL.pds hs h.2 h2.2⟩
  | [], [], _ :: _, _, h => h.elim
  | _ :: _, _ :: _, [], _, h => h.elim
  | [], _ :: _, _, h, _ => h.elim
  | _ :: _, [], _, h, _ => h.elim
theorem hsl_n {b r n m sz : Nat} (h : n = m) : (hsl b r 0 n sz).le (hsl b r 0 m sz) := h ▸ Pd.le_refl _
section
variable {P : Program} {e : Env} {s : St} {dst : Option Tmp} {ty : TypeId} {pos : String} {after : Array Edge} {guard : Option (Nat × Bool)} {bs bs' : List Bx} {fs : List Fr} {N : Nat}
/-! ### From a place on -/
theorem seal_sln {α : Type} {k : Kn α} {l : List α} {b r n : Nat} (h : n = l.length) : SealOk k l b r (hsl b r 0 n k.sz) (sl k none none l) := h ▸ seal_sl
/-! ### Parts of elements -/
end
end Go.Proofs.YtjbgddpaclcjfaaDoor.Eng

/- The engine: iterators that hand out a list, and ranges over them. -/
namespace Go.Proofs.YtjbgddpaclcjfaaDoor.Eng
set_option linter.unusedVariables false
set_option linter.unusedSimpArgs false
open Go.RowKit

section
variable {P : Program} {nt : Nat} {e : Env} {s : St}
/-- A new row in place, of none yet. -/
theorem aw_hotnil {α : Type} (k : Kn α) {c : Code} {Q : Exit → Env → St → Prop} {te r : Nat} (hte : Nat.blt te HOT = true) (x : Tmp) (hx : e.ev (.tmp x) = pl (.slice none 0 0))
    (h : AW P nt c Q (e.put (some x) (hsl s.boxes.length r 0 ([] : List α).length k.sz)) (s.ext [⟨hot te r, flat k []⟩] [])) : AW P nt c Q e s := by
  rw [show s.ext [⟨hot te r, flat k []⟩] [] = ⟨s.boxes ++ [⟨hot te r, flat k []⟩], s.fr, s.stat⟩ by simp [St.ext]] at h
  intro m ro g a w he hs
  obtain ⟨g', h1, h2, h3⟩ := hotnil k (r := r) (te := te) hte hs
  have he2 := he.mono h2
  refine wpIn_mono (h m ro g' a w ⟨he2.size, he2.defers, fun t => ?_⟩ h3) ?_
  · simp only [Env.put]
    by_cases ht : t = x
    · subst ht
      rw [if_pos rfl]
      have := he.tmp t
      rw [show e t = pl (.slice none 0 0) from hx] at this
      exact h1 _ this
    · rw [if_neg ht]; exact he2.tmp t
  · rintro x a2 w2 ⟨e2, s2, g2, q, x2, r2⟩
    exact ⟨e2, s2, g2, q, h2.trans x2, r2⟩
theorem hsl_eq {b r n m sz : Nat} (h : n = m) : hsl b r 0 n sz = hsl b r 0 m sz := h ▸ rfl
theorem aw_hotnilN {N : Nat} {bs bs' : List Bx} {fs : List Fr} (hN : s.boxes.length = N) {α : Type} {k : Kn α} {c : Code} {Q : Exit → Env → St → Prop} {te r n : Nat} (hte : Nat.blt te HOT = true) (x : Tmp) (hx : e.ev (.tmp x) = pl (.slice none 0 0)) (hn : bs.length = n) (h' : bs ++ [⟨hot te r, flat k ([] : List α)⟩] = bs')
    (h : AW P nt c Q (e.put (some x) (hsl (N + n) r 0 ([] : List α).length k.sz)) (s.ext bs' fs)) : AW P nt c Q e (s.ext bs fs) := by
  subst hN; subst hn; subst h'
  refine aw_hotnil k (r := r) hte x hx ?_
  rw [ext_ext, ext_boxes_length, List.append_nil]
  exact h
end
end Go.Proofs.YtjbgddpaclcjfaaDoor.Eng
