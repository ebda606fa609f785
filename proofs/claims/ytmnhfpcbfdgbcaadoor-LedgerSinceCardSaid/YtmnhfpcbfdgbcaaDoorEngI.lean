/- The engine, ninth part: rows made, and appended to. -/
import Derived.Test.YtmnhfpcbfdgbcaaDoorEngH
namespace Go.Proofs.YtmnhfpcbfdgbcaaDoor.Eng
set_option linter.unusedVariables false
set_option linter.unusedSimpArgs false
open Go.RowKit

theorem sizeT_of_elT {P : Program} {t : TypeId} {sz by_ : Nat} (h : elT P t = some (sz, by_)) : sizeT P t = some sz := by
  obtain ⟨i, z, hi, _, _, h1, _⟩ := elT_spec h
  simp [sizeT, hi, h1]

theorem growCap_le (w : World) (n o : Nat) (t : TypeId) : n ≤ grownCap w n o t := by simp [grownCap, Question.cut]

theorem zeroCells_size {z : Value} (n : Nat) : (Builtin.zeroCells z.cells n).size = n * z.cells.size := by simp [Builtin.zeroCells]

theorem arr_get_left {vs : List Value} {A B : Array Value} {j : Nat} {v : Value} (h : vs[j]? = some v) (hA : A = vs.toArray ++ B) : A[j]? = some v := by
  subst hA
  have hj := (List.getElem?_eq_some_iff.1 h).1
  rw [Array.getElem?_append_left (by simpa using hj)]
  simpa using h

section
variable {P : Program} {e : Env} {s : St} {dst : Option Tmp} {ty : TypeId} {pos : String} {after : Array Edge} {guard : Option (Nat × Bool)}

/-- Appending to nothing. -/
theorem opD_append_nil {α : Type} {k : Kn α} {o o2 : Option Nat} {nl2 : Option Bool} {l2 : List α} {x y : Operand} {t te : TypeId} {by_ : Nat} (ht : P.underlying t = some (.slice te)) (hel : elT P te = some (k.sz, by_))
    (hx : e.ev x = sl k o (some true) ([] : List α)) (hy : e.ev y = sl k o2 nl2 l2) (hb : l2.length * by_ ≤ 140737488355328) (hb2 : l2.length ≤ 9223372036854775807) :
    OpD P ⟨dst, .call { callee := .builtin .append, args := #[x, y], argTypes := #[t, t] }, ty, pos, after, guard⟩ e s (sl k (some s.fr.length) none l2) ⟨s.boxes, s.fr ++ [⟨te, k.sz, l2.length⟩], s.stat⟩ :=
  opD_value fun g a w ha hs => by
    have h1 := ha x (by simp [Op.operands, Call.operands])
    have h2 := ha y (by simp [Op.operands, Call.operands])
    rw [hx] at h1
    rw [hy] at h2
    obtain ⟨A, c, hv, hlc, hA, hnl, hc, _⟩ := h1
    obtain ⟨A2, c2, hv2, hlc2, hA2, hnl2, hc2, _⟩ := h2
    have hAn : A = none := by
      have := hA true rfl
      cases A with
      | none => rfl
      | some a => cases this
    have hc0 := hnl hAn
    subst hc0
    subst hAn
    obtain ⟨i, z, hi, hz, hzs, hsz, hby⟩ := elT_spec hel
    rw [exec_builtin, show #[x, y].map a.eval = #[a.eval x, a.eval y] from by simp, hv, hv2]
    show ∃ v g' w', (Sem.bind (Builtin.append_ #[t, t] ty #[.slice none ([] : List α).length 0, .slice A2 l2.length c2]) fun v => Sem.pure (Next.value v)).run P w = _ ∧ _
    by_cases hl : l2 = []
    · subst hl
      refine ⟨.slice none 0 0, g, w, run_v ?_, ?_, Ext.refl _ _, ?_⟩
      · have : (Builtin.firstCells i.size 0 (.slice A2 0 c2)).run P w = .ok #[] w := by
          cases A2 with
          | none => simp [Builtin.firstCells]
          | some a2 => simpa using run_firstCells_some (P := P) w i.size 0 a2 0 c2 [] (by simp) (fun j v h => by simp at h)
        simp [Builtin.append_, run_underlying ht, sizeOf, typeInfo, hi, Builtin.lenOf, this]
      · exact sl_nl _ _ _ _ _ _ _ (sl_nil k _ g w)
      · refine ⟨hs.len, hs.nd, fun i B hB => ?_, fun b id c ho => ?_, hs.sl, hs.st, hs.sb, hs.bz⟩
        · obtain ⟨kk, vs, e1, e2, e3, e4, e5, e6⟩ := hs.bx i B hB
          exact ⟨kk, vs, e1, e2, e3, e4, e5, fun p hp => (e6 p hp).up (Nat.le_refl _) (by simp)⟩
        · obtain ⟨f, cs, e1, e2⟩ := hs.ow b id c ho
          exact ⟨f, cs, by rw [List.getElem?_append_left (List.getElem?_eq_some_iff.1 e1).1]; exact e1, e2⟩
    · obtain ⟨b2, off2, rfl, hcells⟩ := hc2 hl
      obtain ⟨vs, hvl, hvc, hvp, hv1⟩ := hcells.vals
      have hpos : 0 < l2.length := List.length_pos_iff.2 hl
      have hrun := run_append_nil (P := P) w t ty te i z ht hi hz ⟨b2, off2, none⟩ l2.length c2 vs (by rw [hvl, hsz]) hvc hpos (by omega) (by rw [hby]; omega)
      have hN := new_drew_alloc w (.cells (vs.toArray ++ Builtin.zeroCells z.cells (grownCap w l2.length 0 te - l2.length)) te)
      have hnew : (w.drew.alloc (.cells (vs.toArray ++ Builtin.zeroCells z.cells (grownCap w l2.length 0 te - l2.length)) te)).heap[w.heap.size]? = some (.cells (vs.toArray ++ Builtin.zeroCells z.cells (grownCap w l2.length 0 te - l2.length)) te (0, 0)) := alloc_heap_new w.drew _
      have hcap := growCap_le w l2.length 0 te
      refine ⟨_, g.addRow w.heap.size (l2.length * k.sz) (some (s.fr.length, grownCap w l2.length 0 te)), _, run_v hrun, ?_, ext_new hs hN _ _, ?_⟩
      · refine ⟨_, _, rfl, hcap, (fun _ h => by cases h), (fun h => by cases h), fun _ => ⟨w.heap.size, 0, rfl, ?_⟩, fun id hid => .inr ⟨w.heap.size, rfl, ?_⟩⟩
        · exact slCells_new (ext_new hs hN _ _) hvp hnew (fun j v hj => arr_get_left hj rfl) (by rw [flat_length]; simp [G.addRow])
        · cases hid; simp [G.addRow]
      · refine srel_new hs hN (FrLe.app _ _) fun id c ho => ?_
        cases ho
        refine ⟨⟨te, k.sz, l2.length⟩, _, by simp, hnew, ?_, Nat.le_refl _⟩
        simp only [Array.size_append, List.size_toArray, zeroCells_size, hvl, hzs, hsz, Nat.sub_mul]
        have := Nat.mul_le_mul_right k.sz hcap
        omega

theorem setRow_same (w : World) (b : Nat) (cs : Array Value) {k : Nat} (h : k ≠ b) : (w.setRow b cs).heap[k]? = w.heap[k]? := by
  simp only [World.setRow, Array.getElem?_modify]
  rw [if_neg (Ne.symm h)]

/-- Appending to a row of one's own. -/
theorem opD_append_own {α : Type} {k : Kn α} {id : Nat} {o2 : Option Nat} {nl nl2 : Option Bool} {l l2 : List α} {x y : Operand} {t te : TypeId} {by_ : Nat} (ht : P.underlying t = some (.slice te)) (hel : elT P te = some (k.sz, by_))
    (hx : e.ev x = sl k (some id) nl l) (hy : e.ev y = sl k o2 nl2 l2) (hfr : s.fr[id]? = some ⟨te, k.sz, l.length⟩) (hb : (l.length + l2.length) * by_ ≤ 140737488355328) (hb2 : l.length + l2.length ≤ 9223372036854775807) :
    OpD P ⟨dst, .call { callee := .builtin .append, args := #[x, y], argTypes := #[t, t] }, ty, pos, after, guard⟩ e s (sl k (some id) none (l ++ l2)) ⟨s.boxes, s.fr.set id ⟨te, k.sz, (l ++ l2).length⟩, s.stat⟩ :=
  opD_value fun g a w ha hs => by
    have h1 := ha x (by simp [Op.operands, Call.operands])
    have h2 := ha y (by simp [Op.operands, Call.operands])
    rw [hx] at h1
    rw [hy] at h2
    have h1' := h1
    obtain ⟨A, c, hv, hlc, hA, hnl, hc, hown⟩ := h1
    obtain ⟨A2, c2, hv2, hlc2, hA2, hnl2, hc2, _⟩ := h2
    obtain ⟨i, z, hi, hz, hzs, hsz, hby⟩ := elT_spec hel
    have hown1 := hown id rfl
    rw [exec_builtin, show #[x, y].map a.eval = #[a.eval x, a.eval y] from by simp, hv, hv2]
    show ∃ v g' w', (Sem.bind (Builtin.append_ #[t, t] ty #[.slice A l.length c, .slice A2 l2.length c2]) fun v => Sem.pure (Next.value v)).run P w = _ ∧ _
    have hidlt : id < s.fr.length := (List.getElem?_eq_some_iff.1 hfr).1
    have hset : (s.fr.set id ⟨te, k.sz, (l ++ l2).length⟩)[id]? = some ⟨te, k.sz, (l ++ l2).length⟩ := by simp [hidlt]
    have hfl : FrLe s.fr (s.fr.set id ⟨te, k.sz, (l ++ l2).length⟩) := FrLe.set (f := ⟨te, k.sz, l.length⟩) hfr (by simp)
    by_cases hl : l2 = []
    · subst hl
      have hsame : s.fr.set id ⟨te, k.sz, (l ++ ([] : List α)).length⟩ = s.fr := by
        rw [List.append_nil]
        exact List.ext_getElem? fun j => by
          by_cases hj : j = id
          · subst hj; rw [List.getElem?_set_self hidlt, hfr]
          · rw [List.getElem?_set_ne (Ne.symm hj)]
      refine ⟨.slice A l.length c, g, w, run_v ?_, ?_, Ext.refl _ _, ?_⟩
      · have : (Builtin.firstCells i.size 0 (.slice A2 0 c2)).run P w = .ok #[] w := by
          cases A2 with
          | none => simp [Builtin.firstCells]
          | some a2 => simpa using run_firstCells_some (P := P) w i.size 0 a2 0 c2 [] (by simp) (fun j v h => by simp at h)
        cases A with
        | none => simp [Builtin.append_, run_underlying ht, sizeOf, typeInfo, hi, Builtin.lenOf, this, hlc]
        | some ad => simp [Builtin.append_, run_underlying ht, sizeOf, typeInfo, hi, Builtin.lenOf, this, hlc, storeCells]
      · rw [List.append_nil]
        rw [← hv]; exact sl_nl _ _ _ _ _ _ _ h1'
      · rw [hsame]; exact hs
    · obtain ⟨b2, off2, rfl, hcells2⟩ := hc2 hl
      obtain ⟨vs2, hvl2, hvc2, hvp2, hv12⟩ := hcells2.vals
      have hpos : 0 < l2.length := List.length_pos_iff.2 hl
      by_cases hroom : l.length + l2.length ≤ c
      · -- in place
        obtain ⟨b, rfl, ho⟩ : ∃ b, A = some ⟨b, 0, none⟩ ∧ g.own b = some (id, c) := by
          rcases hown1 with h | h
          · omega
          · exact h
        obtain ⟨f, cur, e1, e2, e3, e4⟩ := hs.ow b id c ho
        rw [hfr] at e1; cases e1
        simp only at e2 e3 e4
        have hmul : l.length * k.sz + l2.length * k.sz ≤ c * k.sz := by rw [← Nat.add_mul]; exact Nat.mul_le_mul_right _ hroom
        have hrun := run_append_room (P := P) w t ty te i ht hi b l.length c cur e2 ⟨b2, off2, none⟩ l2.length c2 vs2 (by rw [hvl2, hsz]) hvc2 hv12 hroom (by rw [hsz, hvl2, e3]; exact hmul)
        rw [hsz] at hrun
        let cs := (cur.toList.take (l.length * k.sz) ++ vs2 ++ cur.toList.drop (l.length * k.sz + vs2.length)).toArray
        have hcur : cur.toList.length = c * k.sz := by simpa using e3
        have hnb : b ∉ g.box := fun hm => by
          obtain ⟨j, hj, he⟩ := List.mem_iff_getElem.1 hm
          obtain ⟨kk, _, q1, _, _, _, q5, _⟩ := hs.bx j _ (List.getElem?_eq_getElem (by rw [← hs.len]; exact hj))
          rw [List.getElem?_eq_getElem hj, he] at q1; cases q1
          rw [ho] at q5; cases q5
        have hheap : (w.setRow b cs).heap[b]? = some (.cells cs te (0, 0)) := setRow_heap w b cur cs te (0, 0) e2
        have hcell : ∀ off, off < l.length * k.sz → cs[off]? = cur[off]? := fun off hoff => by
          have hoff2 : off < (cur.toList.take (l.length * k.sz)).length := by rw [List.length_take]; omega
          show (cur.toList.take (l.length * k.sz) ++ vs2 ++ cur.toList.drop (l.length * k.sz + vs2.length)).toArray[off]? = _
          rw [List.getElem?_toArray, List.append_assoc, List.getElem?_append_left hoff2, List.getElem?_take_of_lt hoff]
          simp
        have hcell2 : ∀ j v, vs2[j]? = some v → cs[l.length * k.sz + j]? = some v := fun j v hj => by
          have hjl := (List.getElem?_eq_some_iff.1 hj).1
          show (cur.toList.take (l.length * k.sz) ++ vs2 ++ cur.toList.drop (l.length * k.sz + vs2.length)).toArray[l.length * k.sz + j]? = _
          have htl : (cur.toList.take (l.length * k.sz)).length = l.length * k.sz := by rw [List.length_take]; omega
          rw [List.getElem?_toArray, List.append_assoc, List.getElem?_append_right (by omega), htl, Nat.add_sub_cancel_left, List.getElem?_append_left hjl, hj]
        let g' : G := ⟨fun kk => if kk = b then (l ++ l2).length * k.sz else g.sld kk, g.box, g.own, g.base⟩
        have hgs : ∀ kk, g'.sld kk = if kk = b then (l ++ l2).length * k.sz else g.sld kk := fun _ => rfl
        have hle : (l ++ l2).length * k.sz = l.length * k.sz + l2.length * k.sz := by rw [List.length_append, Nat.add_mul]
        have hx : Ext g w g' (w.setRow b cs) := by
          refine ⟨rfl, rfl, rfl, by simp [World.setRow], fun kk => ?_, fun kk off hoff => ?_, ⟨[], by simp [g']⟩, fun _ _ h => h, fun _ _ h => .inl h, fun kk _ hk _ hno => ?_, rfl⟩
          · rw [hgs]; split
            · rename_i h; subst h; omega
            · exact Nat.le_refl _
          · by_cases hkb : kk = b
            · subst hkb
              rw [box_cell (g := g) hheap, box_cell (g := g) e2]
              exact hcell off (by omega)
            · exact World.cell?_of_block (w := w) (setRow_same w b cs hkb)
          · exact setRow_same w b cs (fun h => by subst h; rw [ho] at hno; cases hno)
        refine ⟨.slice (some ⟨b, 0, none⟩) (l.length + l2.length) c, g', w.setRow b cs, run_v hrun, ?_, hx, ?_⟩
        · refine ⟨some ⟨b, 0, none⟩, c, by rw [List.length_append], by rw [List.length_append]; exact hroom, (fun _ h => by cases h), (fun h => by cases h), fun _ => ⟨b, 0, rfl, ?_⟩, fun id' hid' => .inr ⟨b, rfl, ?_⟩⟩
          · refine slCells_of_flat fun q p hq => ?_
            rw [flat_append] at hq
            rw [Nat.zero_add, box_cell (g := g) hheap]
            have hfl1 : (flat k l).length = l.length * k.sz := flat_length k l
            by_cases hql : q < l.length * k.sz
            · rw [List.getElem?_append_left (by omega)] at hq
              have hlne : l ≠ [] := by intro h; subst h; simp at hql
              obtain ⟨b', off', hbe, hcl⟩ := hc hlne
              cases hbe
              obtain ⟨q1, cc, q2, q3⟩ := hcl.flat q p hq
              rw [Nat.zero_add] at q2
              rw [box_cell (g := g) e2] at q2
              refine ⟨by rw [hgs, if_pos rfl]; omega, cc, by rw [hcell q hql]; exact q2, p.mono hx q3⟩
            · rw [List.getElem?_append_right (by omega), hfl1] at hq
              obtain ⟨v, q1, q2⟩ := hvp2.get _ _ hq
              have hq2 := (List.getElem?_eq_some_iff.1 hq).1
              rw [flat_length] at hq2
              refine ⟨by rw [hgs, if_pos rfl]; omega, v, ?_, p.mono hx q2⟩
              have := hcell2 _ v q1
              rw [show l.length * k.sz + (q - l.length * k.sz) = q by omega] at this
              exact this
          · cases hid'; exact ho
        · refine ⟨hs.len, hs.nd, fun j B hB => ?_, fun b' id' c' ho' => ?_, fun b' hb' => ?_, s.stat.mono hx hs.st, hs.sb, Nat.le_trans hs.bz hx.size⟩
          · obtain ⟨kk, vs, q1, q2, q3, q4, q5, q6⟩ := hs.bx j B hB
            have hne : kk ≠ b := fun h => hnb (h ▸ List.mem_of_getElem? q1)
            exact ⟨kk, vs, q1, by rw [setRow_same w b cs hne]; exact q2, q3.mono hx, by rw [hgs, if_neg hne]; exact q4, q5, fun p hp => (q6 p hp).up (Nat.le_refl _) hfl.1⟩
          · by_cases hbb : b' = b
            · subst hbb
              have ho'' : g.own b' = some (id', c') := ho'
              rw [ho] at ho''; cases ho''
              refine ⟨_, cs, hset, hheap, ?_, ?_⟩
              · show (cur.toList.take (l.length * k.sz) ++ vs2 ++ cur.toList.drop (l.length * k.sz + vs2.length)).toArray.size = _
                simp only [List.size_toArray, List.length_append, List.length_take, List.length_drop]
                omega
              · rw [hgs, if_pos rfl]; exact Nat.le_refl _
            · obtain ⟨f, cs', q1, q2, q3, q4⟩ := hs.ow b' id' c' ho'
              obtain ⟨f', r1, r2, r3, r4⟩ := hfl.2 id' f q1
              refine ⟨f', cs', r1, by rw [setRow_same w b cs hbb, r2]; exact q2, by rw [r3]; exact q3, ?_⟩
              rw [hgs, if_neg hbb, r3]
              exact Nat.le_trans q4 (Nat.mul_le_mul_right _ r4)
          · rw [hgs] at hb'
            have hsz' : (w.setRow b cs).heap.size = w.heap.size := by simp [World.setRow]
            rw [hsz']
            split at hb'
            · rename_i h; subst h; exact hs.ltOwn ho
            · exact hs.sl b' hb'
      · -- a new row
        have hlt : c < l.length + l2.length := by omega
        have hbig : Builtin.nextslicecap (l.length + l2.length) c * i.bytes ≤ 281474976710656 := growslice_fits hlt (by rw [hby]; exact hb)
        cases A with
        | none =>
          have hc0 := hnl rfl
          subst hc0
          have hl0 : l = [] := by cases l with
            | nil => rfl
            | cons => simp at hlc
          subst hl0
          have hrun := run_append_nil (P := P) w t ty te i z ht hi hz ⟨b2, off2, none⟩ l2.length c2 vs2 (by rw [hvl2, hsz]) hvc2 hpos (by simp at hb2; omega) (by rw [hby]; simp at hb; omega)
          have hN := new_drew_alloc w (.cells (vs2.toArray ++ Builtin.zeroCells z.cells (grownCap w l2.length 0 te - l2.length)) te)
          have hnew : (w.drew.alloc (.cells (vs2.toArray ++ Builtin.zeroCells z.cells (grownCap w l2.length 0 te - l2.length)) te)).heap[w.heap.size]? = some (.cells (vs2.toArray ++ Builtin.zeroCells z.cells (grownCap w l2.length 0 te - l2.length)) te (0, 0)) := alloc_heap_new w.drew _
          have hcap := growCap_le w l2.length 0 te
          refine ⟨_, g.addRow w.heap.size (l2.length * k.sz) (some (id, grownCap w l2.length 0 te)), _, run_v hrun, ?_, ext_new hs hN _ _, ?_⟩
          · refine ⟨_, _, by rw [List.nil_append], by rw [List.nil_append]; exact hcap, (fun _ h => by cases h), (fun h => by cases h), fun _ => ⟨w.heap.size, 0, rfl, ?_⟩, fun id' hid => .inr ⟨w.heap.size, rfl, ?_⟩⟩
            · rw [List.nil_append]
              exact slCells_new (ext_new hs hN _ _) hvp2 hnew (fun j v hj => arr_get_left hj rfl) (by rw [flat_length]; simp [G.addRow])
            · cases hid; simp [G.addRow]
          · refine srel_new hs hN hfl fun id' c' ho => ?_
            cases ho
            refine ⟨_, _, hset, hnew, ?_, by simp⟩
            simp only [Array.size_append, List.size_toArray, zeroCells_size, hvl2, hzs, hsz, Nat.sub_mul]
            have := Nat.mul_le_mul_right k.sz hcap
            omega
        | some ad =>
          obtain ⟨vs1, hvl1, hvc1, hvp1⟩ : ∃ vs1 : List Value, vs1.length = l.length * k.sz ∧ (∀ j v, vs1[j]? = some v → w.cell? (ad.add j) = some v) ∧ Pds g w (flat k l) vs1 := by
            by_cases hl0 : l = []
            · subst hl0; exact ⟨[], by simp, fun j v h => by simp at h, by simp [flat, Pds]⟩
            · obtain ⟨b', off', hbe, hcl⟩ := hc hl0
              cases hbe
              obtain ⟨vs1, q1, q2, q3, _⟩ := hcl.vals
              exact ⟨vs1, q1, q2, q3⟩
          have hrun := run_append_grow (P := P) w t ty te i z ht hi hz ad l.length c vs1 (by rw [hvl1, hsz]) hvc1 ⟨b2, off2, none⟩ l2.length c2 vs2 (by rw [hvl2, hsz]) hvc2 hlt (by omega) hbig
          have hN := new_drew_alloc w (.cells (vs1.toArray ++ vs2.toArray ++ Builtin.zeroCells z.cells (grownCap w (l.length + l2.length) c te - (l.length + l2.length))) te)
          have hnew : (w.drew.alloc (.cells (vs1.toArray ++ vs2.toArray ++ Builtin.zeroCells z.cells (grownCap w (l.length + l2.length) c te - (l.length + l2.length))) te)).heap[w.heap.size]? = some (.cells (vs1.toArray ++ vs2.toArray ++ Builtin.zeroCells z.cells (grownCap w (l.length + l2.length) c te - (l.length + l2.length))) te (0, 0)) := alloc_heap_new w.drew _
          have hcap := growCap_le w (l.length + l2.length) c te
          have hle : (l ++ l2).length * k.sz = l.length * k.sz + l2.length * k.sz := by rw [List.length_append, Nat.add_mul]
          refine ⟨_, g.addRow w.heap.size ((l ++ l2).length * k.sz) (some (id, grownCap w (l.length + l2.length) c te)), _, run_v hrun, ?_, ext_new hs hN _ _, ?_⟩
          · refine ⟨_, _, by rw [List.length_append], by rw [List.length_append]; exact hcap, (fun _ h => by cases h), (fun h => by cases h), fun _ => ⟨w.heap.size, 0, rfl, ?_⟩, fun id' hid => .inr ⟨w.heap.size, rfl, ?_⟩⟩
            · refine slCells_new (vs := vs1 ++ vs2) (ext_new hs hN _ _) ?_ hnew (fun j v hj => arr_get_left (B := Builtin.zeroCells z.cells (grownCap w (l.length + l2.length) c te - (l.length + l2.length))) hj (by simp)) (by rw [flat_length]; simp [G.addRow])
              rw [flat_append]; exact hvp1.append hvp2
            · cases hid; simp [G.addRow]
          · refine srel_new hs hN hfl fun id' c' ho => ?_
            cases ho
            refine ⟨_, _, hset, hnew, ?_, Nat.le_refl _⟩
            simp only [Array.size_append, List.size_toArray, zeroCells_size, hvl1, hvl2, hzs, hsz, Nat.sub_mul, Nat.add_mul]
            have := Nat.mul_le_mul_right k.sz hcap
            rw [Nat.add_mul] at this
            omega
end
end Go.Proofs.YtmnhfpcbfdgbcaaDoor.Eng
