/- The engine, ninth part: rows made, and appended to. -/
import Derived.Test.YtokcgacehdgkcaaGreatDoorEngX1
import Derived.IntWalk
namespace Go.Proofs.YtokcgacehdgkcaaGreatDoor.Eng
set_option linter.unusedVariables false
set_option linter.unusedSimpArgs false
open Go.RowKit

theorem growCap_le (w : World) (n o : Nat) (t : TypeId) : n ≤ grownCap w n o t := by simp [grownCap, Question.cut]

theorem zeroCells_size {z : Value} (n : Nat) : (Builtin.zeroCells z.cells n).size = n * z.cells.size := by simp [Builtin.zeroCells]

theorem arr_get_left {vs : List Value} {A B : Array Value} {j : Nat} {v : Value} (h : vs[j]? = some v) (hA : A = vs.toArray ++ B) : A[j]? = some v := by
  subst hA
  have hj := (List.getElem?_eq_some_iff.1 h).1
  rw [Array.getElem?_append_left (by simpa using hj)]
  simpa using h

section
variable {P : Program} {e : Env} {s : St} {dst : Option Tmp} {ty : TypeId} {pos : String} {after : Array Edge} {guard : Option (Nat × Bool)}

/-- Appending to nothing. -/
theorem opD_append_nilL {α : Type} {k : Kn α} {o o2 : Option Nat} {nl2 : Option Bool} {l2 : List α} {x y : Operand} {t te : TypeId} {by_ : Nat} (ht : P.underlying t = some (.slice te)) (hel : elT P te = some (k.sz, by_))
    (hx : (e.ev x).le (sl k o (some true) ([] : List α))) (hy : e.ev y = sl k o2 nl2 l2) (hb : l2.length * by_ ≤ 140737488355328) (hb2 : l2.length ≤ 9223372036854775807) :
    OpD P ⟨dst, .call { callee := .builtin .append, args := #[x, y], argTypes := #[t, t] }, ty, pos, after, guard⟩ e s (sl k (some s.fr.length) none l2) ⟨s.boxes, s.fr ++ [⟨te, k.sz, l2.length⟩], s.stat⟩ :=
  opD_value fun g a w ha hs => by
    have h1 := hx _ _ _ (ha x (by simp [Op.operands, Call.operands]))
    have h2 := ha y (by simp [Op.operands, Call.operands])
    rw [hy] at h2
    obtain ⟨A, c, hv, hlc, hA, hnl, hc, _⟩ := h1
    obtain ⟨A2, c2, hv2, hlc2, hA2, hnl2, hc2, _⟩ := h2
    have hAn : A = none := by
      have := hA true rfl
      cases A with
      | none => rfl
      | some a => cases this
    have hc0 := hnl hAn
    subst hc0
    subst hAn
    obtain ⟨i, z, hi, hz, hzs, hsz, hby⟩ := elT_spec hel
    rw [exec_builtin, show #[x, y].map a.eval = #[a.eval x, a.eval y] from by simp, hv, hv2]
    show ∃ v g' w', (Sem.bind (Builtin.append_ #[t, t] ty #[.slice none ([] : List α).length 0, .slice A2 l2.length c2]) fun v => Sem.pure (Next.value v)).run P w = _ ∧ _
    by_cases hl : l2 = []
    · subst hl
      refine ⟨.slice none 0 0, g, w, run_v ?_, ?_, Ext.refl _ _, ?_⟩
      · have : (Builtin.firstCells i.size 0 (.slice A2 0 c2)).run P w = .ok #[] w := by
          cases A2 with
          | none => simp [Builtin.firstCells]
          | some a2 => simpa using run_firstCells_some (P := P) w i.size 0 a2 0 c2 [] (by simp) (fun j v h => by simp at h)
        simp [Builtin.append_, run_underlying ht, sizeOf, typeInfo, hi, Builtin.lenOf, this]
      · exact sl_nl _ _ _ _ _ _ _ (sl_nil k _ g w)
      · refine ⟨hs.len, hs.nd, fun i B hB => ?_, fun b id c ho => ?_, hs.sl, hs.st, hs.sb, hs.bz⟩
        · obtain ⟨kk, vs, e1, e2, e2c, e3, e4, e6⟩ := hs.bx i B hB
          exact ⟨kk, vs, e1, e2, e2c, e3, e4, fun p hp => (e6 p hp).up (Nat.le_refl _) (by simp)⟩
        · obtain ⟨f, cs, e1, e2⟩ := hs.ow b id c ho
          exact ⟨f, cs, by rw [List.getElem?_append_left (List.getElem?_eq_some_iff.1 e1).1]; exact e1, e2⟩
    · obtain ⟨b2, off2, rfl, hcells⟩ := hc2 hl
      obtain ⟨vs, hvl, hvc, hvp, hv1⟩ := hcells.vals
      have hpos : 0 < l2.length := List.length_pos_iff.2 hl
      have hrun := run_append_nil (P := P) w t ty te i z ht hi hz ⟨b2, off2, none⟩ l2.length c2 vs (by rw [hvl, hsz]) hvc hpos (by omega) (by rw [hby]; omega)
      have hN := new_drew_alloc w (.cells (vs.toArray ++ Builtin.zeroCells z.cells (grownCap w l2.length 0 te - l2.length)) te)
      have hnew : (w.drew.alloc (.cells (vs.toArray ++ Builtin.zeroCells z.cells (grownCap w l2.length 0 te - l2.length)) te)).heap[w.heap.size]? = some (.cells (vs.toArray ++ Builtin.zeroCells z.cells (grownCap w l2.length 0 te - l2.length)) te (0, 0)) := alloc_heap_new w.drew _
      have hcap := growCap_le w l2.length 0 te
      refine ⟨_, g.addRow w.heap.size (l2.length * k.sz) (some (s.fr.length, grownCap w l2.length 0 te)), _, run_v hrun, ?_, ext_new hs hN _ _, ?_⟩
      · refine ⟨_, _, rfl, hcap, (fun _ h => by cases h), (fun h => by cases h), fun _ => ⟨w.heap.size, 0, rfl, ?_⟩, fun id hid => .inr ⟨w.heap.size, rfl, ?_⟩⟩
        · exact slCells_new (ext_new hs hN _ _) hvp hnew (fun j v hj => arr_get_left hj rfl) (by rw [flat_length]; simp [G.addRow])
        · cases hid; simp [G.addRow]
      · refine srel_new hs hN (FrLe.app _ _) fun id c ho => ?_
        cases ho
        refine ⟨⟨te, k.sz, l2.length⟩, _, by simp, hnew, ?_, Nat.le_refl _⟩
        simp only [Array.size_append, List.size_toArray, zeroCells_size, hvl, hzs, hsz, Nat.sub_mul]
        have := Nat.mul_le_mul_right k.sz hcap
        omega
theorem opD_append_nil {α : Type} {k : Kn α} {o o2 : Option Nat} {nl2 : Option Bool} {l2 : List α} {x y : Operand} {t te : TypeId} {by_ : Nat} (ht : P.underlying t = some (.slice te)) (hel : elT P te = some (k.sz, by_))
    (hx : e.ev x = sl k o (some true) ([] : List α)) (hy : e.ev y = sl k o2 nl2 l2) (hb : l2.length * by_ ≤ 140737488355328) (hb2 : l2.length ≤ 9223372036854775807) :
    OpD P ⟨dst, .call { callee := .builtin .append, args := #[x, y], argTypes := #[t, t] }, ty, pos, after, guard⟩ e s (sl k (some s.fr.length) none l2) ⟨s.boxes, s.fr ++ [⟨te, k.sz, l2.length⟩], s.stat⟩ := opD_append_nilL (o := o) ht hel (fun _ _ _ h => hx ▸ h) hy hb hb2

theorem setRow_same (w : World) (b : Nat) (cs : Array Value) {k : Nat} (h : k ≠ b) : (w.setRow b cs).heap[k]? = w.heap[k]? := by
  simp only [World.setRow, Array.getElem?_modify]
  rw [if_neg (Ne.symm h)]

/-- Appending to a row of one's own. -/
theorem opD_append_own {α : Type} {k : Kn α} {id : Nat} {o2 : Option Nat} {nl nl2 : Option Bool} {l l2 : List α} {x y : Operand} {t te : TypeId} {by_ : Nat} (ht : P.underlying t = some (.slice te)) (hel : elT P te = some (k.sz, by_))
    (hx : e.ev x = sl k (some id) nl l) (hy : e.ev y = sl k o2 nl2 l2) (hfr : s.fr[id]? = some ⟨te, k.sz, l.length⟩) (hb : (l.length + l2.length) * by_ ≤ 140737488355328) (hb2 : l.length + l2.length ≤ 9223372036854775807) :
    OpD P ⟨dst, .call { callee := .builtin .append, args := #[x, y], argTypes := #[t, t] }, ty, pos, after, guard⟩ e s (sl k (some id) none (l ++ l2)) ⟨s.boxes, s.fr.set id ⟨te, k.sz, (l ++ l2).length⟩, s.stat⟩ :=
  opD_value fun g a w ha hs => by
    have h1 := ha x (by simp [Op.operands, Call.operands])
    have h2 := ha y (by simp [Op.operands, Call.operands])
    rw [hx] at h1
    rw [hy] at h2
    have h1' := h1
    obtain ⟨A, c, hv, hlc, hA, hnl, hc, hown⟩ := h1
    obtain ⟨A2, c2, hv2, hlc2, hA2, hnl2, hc2, _⟩ := h2
    obtain ⟨i, z, hi, hz, hzs, hsz, hby⟩ := elT_spec hel
    have hown1 := hown id rfl
    rw [exec_builtin, show #[x, y].map a.eval = #[a.eval x, a.eval y] from by simp, hv, hv2]
    show ∃ v g' w', (Sem.bind (Builtin.append_ #[t, t] ty #[.slice A l.length c, .slice A2 l2.length c2]) fun v => Sem.pure (Next.value v)).run P w = _ ∧ _
    have hidlt : id < s.fr.length := (List.getElem?_eq_some_iff.1 hfr).1
    have hset : (s.fr.set id ⟨te, k.sz, (l ++ l2).length⟩)[id]? = some ⟨te, k.sz, (l ++ l2).length⟩ := by simp [hidlt]
    have hfl : FrLe s.fr (s.fr.set id ⟨te, k.sz, (l ++ l2).length⟩) := FrLe.set (f := ⟨te, k.sz, l.length⟩) hfr (by simp)
    by_cases hl : l2 = []
    · subst hl
      have hsame : s.fr.set id ⟨te, k.sz, (l ++ ([] : List α)).length⟩ = s.fr := by
        rw [List.append_nil]
        exact List.ext_getElem? fun j => by
          by_cases hj : j = id
          · subst hj; rw [List.getElem?_set_self hidlt, hfr]
          · rw [List.getElem?_set_ne (Ne.symm hj)]
      refine ⟨.slice A l.length c, g, w, run_v ?_, ?_, Ext.refl _ _, ?_⟩
      · have : (Builtin.firstCells i.size 0 (.slice A2 0 c2)).run P w = .ok #[] w := by
          cases A2 with
          | none => simp [Builtin.firstCells]
          | some a2 => simpa using run_firstCells_some (P := P) w i.size 0 a2 0 c2 [] (by simp) (fun j v h => by simp at h)
        cases A with
        | none => simp [Builtin.append_, run_underlying ht, sizeOf, typeInfo, hi, Builtin.lenOf, this, hlc]
        | some ad => simp [Builtin.append_, run_underlying ht, sizeOf, typeInfo, hi, Builtin.lenOf, this, hlc, storeCells]
      · rw [List.append_nil]
        rw [← hv]; exact sl_nl _ _ _ _ _ _ _ h1'
      · rw [hsame]; exact hs
    · obtain ⟨b2, off2, rfl, hcells2⟩ := hc2 hl
      obtain ⟨vs2, hvl2, hvc2, hvp2, hv12⟩ := hcells2.vals
      have hpos : 0 < l2.length := List.length_pos_iff.2 hl
      by_cases hroom : l.length + l2.length ≤ c
      · -- in place
        obtain ⟨b, rfl, ho⟩ : ∃ b, A = some ⟨b, 0, none⟩ ∧ g.own b = some (id, c) := by
          rcases hown1 with h | h
          · omega
          · exact h
        obtain ⟨f, cur, e1, e2, e3, e4⟩ := hs.ow b id c ho
        rw [hfr] at e1; cases e1
        simp only at e2 e3 e4
        have hmul : l.length * k.sz + l2.length * k.sz ≤ c * k.sz := by rw [← Nat.add_mul]; exact Nat.mul_le_mul_right _ hroom
        have hrun := run_append_room (P := P) w t ty te i ht hi b l.length c cur e2 ⟨b2, off2, none⟩ l2.length c2 vs2 (by rw [hvl2, hsz]) hvc2 hv12 hroom (by rw [hsz, hvl2, e3]; exact hmul)
        rw [hsz] at hrun
        let cs := (cur.toList.take (l.length * k.sz) ++ vs2 ++ cur.toList.drop (l.length * k.sz + vs2.length)).toArray
        have hcur : cur.toList.length = c * k.sz := by simpa using e3
        have hnb : ¬ g.isB b := fun ⟨j, ee, hj, he⟩ => by
          obtain ⟨_, _, q1, _, _, _, q5, _⟩ := hs.bx j _ (List.getElem?_eq_getElem (by rw [← hs.len]; exact (List.getElem?_eq_some_iff.1 hj).1))
          rw [hj] at q1; cases q1
          have := (q5 b he).2.1
          rw [ho] at this; cases this
        have hheap : (w.setRow b cs).heap[b]? = some (.cells cs te (0, 0)) := setRow_heap w b cur cs te (0, 0) e2
        have hcell : ∀ off, off < l.length * k.sz → cs[off]? = cur[off]? := fun off hoff => by
          have hoff2 : off < (cur.toList.take (l.length * k.sz)).length := by rw [List.length_take]; omega
          show (cur.toList.take (l.length * k.sz) ++ vs2 ++ cur.toList.drop (l.length * k.sz + vs2.length)).toArray[off]? = _
          rw [List.getElem?_toArray, List.append_assoc, List.getElem?_append_left hoff2, List.getElem?_take_of_lt hoff]
          simp
        have hcell2 : ∀ j v, vs2[j]? = some v → cs[l.length * k.sz + j]? = some v := fun j v hj => by
          have hjl := (List.getElem?_eq_some_iff.1 hj).1
          show (cur.toList.take (l.length * k.sz) ++ vs2 ++ cur.toList.drop (l.length * k.sz + vs2.length)).toArray[l.length * k.sz + j]? = _
          have htl : (cur.toList.take (l.length * k.sz)).length = l.length * k.sz := by rw [List.length_take]; omega
          rw [List.getElem?_toArray, List.append_assoc, List.getElem?_append_right (by omega), htl, Nat.add_sub_cancel_left, List.getElem?_append_left hjl, hj]
        let g' : G := ⟨fun kk => if kk = b then (l ++ l2).length * k.sz else g.sld kk, g.box, g.own, g.base⟩
        have hgs : ∀ kk, g'.sld kk = if kk = b then (l ++ l2).length * k.sz else g.sld kk := fun _ => rfl
        have hle : (l ++ l2).length * k.sz = l.length * k.sz + l2.length * k.sz := by rw [List.length_append, Nat.add_mul]
        have hx : Ext g w g' (w.setRow b cs) := by
          refine ⟨rfl, rfl, rfl, by simp [World.setRow], fun kk => ?_, fun kk off hoff => ?_, fun _ e h => ⟨e, h, Nat.le_refl _, fun _ => rfl⟩, fun _ h => .inl h, fun _ _ h => h, fun _ _ h => .inl h, fun kk _ hk _ hno => ?_, rfl, fun kk o' ho' hnc _ => (setRow_same w b cs (fun h => by subst h; rw [e2] at ho'; cases ho'; cases hnc)).trans ho'⟩
          · rw [hgs]; split
            · rename_i h; subst h; omega
            · exact Nat.le_refl _
          · by_cases hkb : kk = b
            · subst hkb
              rw [box_cell (g := g) hheap, box_cell (g := g) e2]
              exact hcell off (by omega)
            · exact World.cell?_of_block (w := w) (setRow_same w b cs hkb)
          · exact setRow_same w b cs (fun h => by subst h; rw [ho] at hno; cases hno)
        refine ⟨.slice (some ⟨b, 0, none⟩) (l.length + l2.length) c, g', w.setRow b cs, run_v hrun, ?_, hx, ?_⟩
        · refine ⟨some ⟨b, 0, none⟩, c, by rw [List.length_append], by rw [List.length_append]; exact hroom, (fun _ h => by cases h), (fun h => by cases h), fun _ => ⟨b, 0, rfl, ?_⟩, fun id' hid' => .inr ⟨b, rfl, ?_⟩⟩
          · refine slCells_of_flat fun q p hq => ?_
            rw [flat_append] at hq
            rw [Nat.zero_add, box_cell (g := g) hheap]
            have hfl1 : (flat k l).length = l.length * k.sz := flat_length k l
            by_cases hql : q < l.length * k.sz
            · rw [List.getElem?_append_left (by omega)] at hq
              have hlne : l ≠ [] := by intro h; subst h; simp at hql
              obtain ⟨b', off', hbe, hcl⟩ := hc hlne
              cases hbe
              obtain ⟨q1, cc, q2, q3⟩ := hcl.flat q p hq
              rw [Nat.zero_add] at q2
              rw [box_cell (g := g) e2] at q2
              refine ⟨by rw [hgs, if_pos rfl]; omega, cc, by rw [hcell q hql]; exact q2, p.mono hx q3⟩
            · rw [List.getElem?_append_right (by omega), hfl1] at hq
              obtain ⟨v, q1, q2⟩ := hvp2.get _ _ hq
              have hq2 := (List.getElem?_eq_some_iff.1 hq).1
              rw [flat_length] at hq2
              refine ⟨by rw [hgs, if_pos rfl]; omega, v, ?_, p.mono hx q2⟩
              have := hcell2 _ v q1
              rw [show l.length * k.sz + (q - l.length * k.sz) = q by omega] at this
              exact this
          · cases hid'; exact ho
        · refine ⟨hs.len, hs.nd, fun j B hB => ?_, fun b' id' c' ho' => ?_, fun b' hb' => ?_, s.stat.mono hx hs.st, hs.sb, Nat.le_trans hs.bz hx.size⟩
          · obtain ⟨kk, vs, q1, q2, q2c, q3, q4, q6⟩ := hs.bx j B hB
            have hne : ∀ q, kk.blk = some q → q ≠ b := fun q hq h => hnb ⟨j, kk, q1, h ▸ hq⟩
            exact ⟨kk, vs, q1, q2, q2c.to fun q hq _ => setRow_same w b cs (hne q hq), q3.mono hx, fun q hq => by rw [hgs, if_neg (hne q hq)]; exact q4 q hq, fun p hp => (q6 p hp).up (Nat.le_refl _) hfl.1⟩
          · by_cases hbb : b' = b
            · subst hbb
              have ho'' : g.own b' = some (id', c') := ho'
              rw [ho] at ho''; cases ho''
              refine ⟨_, cs, hset, hheap, ?_, ?_⟩
              · show (cur.toList.take (l.length * k.sz) ++ vs2 ++ cur.toList.drop (l.length * k.sz + vs2.length)).toArray.size = _
                simp only [List.size_toArray, List.length_append, List.length_take, List.length_drop]
                omega
              · rw [hgs, if_pos rfl]; exact Nat.le_refl _
            · obtain ⟨f, cs', q1, q2, q3, q4⟩ := hs.ow b' id' c' ho'
              obtain ⟨f', r1, r2, r3, r4⟩ := hfl.2 id' f q1
              refine ⟨f', cs', r1, by rw [setRow_same w b cs hbb, r2]; exact q2, by rw [r3]; exact q3, ?_⟩
              rw [hgs, if_neg hbb, r3]
              exact Nat.le_trans q4 (Nat.mul_le_mul_right _ r4)
          · rw [hgs] at hb'
            have hsz' : (w.setRow b cs).heap.size = w.heap.size := by simp [World.setRow]
            rw [hsz']
            split at hb'
            · rename_i h; subst h; exact hs.ltOwn ho
            · exact hs.sl b' hb'
      · -- a new row
        have hlt : c < l.length + l2.length := by omega
        have hbig : Builtin.nextslicecap (l.length + l2.length) c * i.bytes ≤ 281474976710656 := growslice_fits hlt (by rw [hby]; exact hb)
        cases A with
        | none =>
          have hc0 := hnl rfl
          subst hc0
          have hl0 : l = [] := by cases l with
            | nil => rfl
            | cons => simp at hlc
          subst hl0
          have hrun := run_append_nil (P := P) w t ty te i z ht hi hz ⟨b2, off2, none⟩ l2.length c2 vs2 (by rw [hvl2, hsz]) hvc2 hpos (by simp at hb2; omega) (by rw [hby]; simp at hb; omega)
          have hN := new_drew_alloc w (.cells (vs2.toArray ++ Builtin.zeroCells z.cells (grownCap w l2.length 0 te - l2.length)) te)
          have hnew : (w.drew.alloc (.cells (vs2.toArray ++ Builtin.zeroCells z.cells (grownCap w l2.length 0 te - l2.length)) te)).heap[w.heap.size]? = some (.cells (vs2.toArray ++ Builtin.zeroCells z.cells (grownCap w l2.length 0 te - l2.length)) te (0, 0)) := alloc_heap_new w.drew _
          have hcap := growCap_le w l2.length 0 te
          refine ⟨_, g.addRow w.heap.size (l2.length * k.sz) (some (id, grownCap w l2.length 0 te)), _, run_v hrun, ?_, ext_new hs hN _ _, ?_⟩
          · refine ⟨_, _, by rw [List.nil_append], by rw [List.nil_append]; exact hcap, (fun _ h => by cases h), (fun h => by cases h), fun _ => ⟨w.heap.size, 0, rfl, ?_⟩, fun id' hid => .inr ⟨w.heap.size, rfl, ?_⟩⟩
            · rw [List.nil_append]
              exact slCells_new (ext_new hs hN _ _) hvp2 hnew (fun j v hj => arr_get_left hj rfl) (by rw [flat_length]; simp [G.addRow])
            · cases hid; simp [G.addRow]
          · refine srel_new hs hN hfl fun id' c' ho => ?_
            cases ho
            refine ⟨_, _, hset, hnew, ?_, by simp⟩
            simp only [Array.size_append, List.size_toArray, zeroCells_size, hvl2, hzs, hsz, Nat.sub_mul]
            have := Nat.mul_le_mul_right k.sz hcap
            omega
        | some ad =>
          obtain ⟨vs1, hvl1, hvc1, hvp1⟩ : ∃ vs1 : List Value, vs1.length = l.length * k.sz ∧ (∀ j v, vs1[j]? = some v → w.cell? (ad.add j) = some v) ∧ Pds g w (flat k l) vs1 := by
            by_cases hl0 : l = []
            · subst hl0; exact ⟨[], by simp, fun j v h => by simp at h, by simp [flat, Pds]⟩
            · obtain ⟨b', off', hbe, hcl⟩ := hc hl0
              cases hbe
              obtain ⟨vs1, q1, q2, q3, _⟩ := hcl.vals
              exact ⟨vs1, q1, q2, q3⟩
          have hrun := run_append_grow (P := P) w t ty te i z ht hi hz ad l.length c vs1 (by rw [hvl1, hsz]) hvc1 ⟨b2, off2, none⟩ l2.length c2 vs2 (by rw [hvl2, hsz]) hvc2 hlt (by omega) hbig
          have hN := new_drew_alloc w (.cells (vs1.toArray ++ vs2.toArray ++ Builtin.zeroCells z.cells (grownCap w (l.length + l2.length) c te - (l.length + l2.length))) te)
          have hnew : (w.drew.alloc (.cells (vs1.toArray ++ vs2.toArray ++ Builtin.zeroCells z.cells (grownCap w (l.length + l2.length) c te - (l.length + l2.length))) te)).heap[w.heap.size]? = some (.cells (vs1.toArray ++ vs2.toArray ++ Builtin.zeroCells z.cells (grownCap w (l.length + l2.length) c te - (l.length + l2.length))) te (0, 0)) := alloc_heap_new w.drew _
          have hcap := growCap_le w (l.length + l2.length) c te
          have hle : (l ++ l2).length * k.sz = l.length * k.sz + l2.length * k.sz := by rw [List.length_append, Nat.add_mul]
          refine ⟨_, g.addRow w.heap.size ((l ++ l2).length * k.sz) (some (id, grownCap w (l.length + l2.length) c te)), _, run_v hrun, ?_, ext_new hs hN _ _, ?_⟩
          · refine ⟨_, _, by rw [List.length_append], by rw [List.length_append]; exact hcap, (fun _ h => by cases h), (fun h => by cases h), fun _ => ⟨w.heap.size, 0, rfl, ?_⟩, fun id' hid => .inr ⟨w.heap.size, rfl, ?_⟩⟩
            · refine slCells_new (vs := vs1 ++ vs2) (ext_new hs hN _ _) ?_ hnew (fun j v hj => arr_get_left (B := Builtin.zeroCells z.cells (grownCap w (l.length + l2.length) c te - (l.length + l2.length))) hj (by simp)) (by rw [flat_length]; simp [G.addRow])
              rw [flat_append]; exact hvp1.append hvp2
            · cases hid; simp [G.addRow]
          · refine srel_new hs hN hfl fun id' c' ho => ?_
            cases ho
            refine ⟨_, _, hset, hnew, ?_, Nat.le_refl _⟩
            simp only [Array.size_append, List.size_toArray, zeroCells_size, hvl1, hvl2, hzs, hsz, Nat.sub_mul, Nat.add_mul]
            have := Nat.mul_le_mul_right k.sz hcap
            rw [Nat.add_mul] at this
            omega
end
end Go.Proofs.YtokcgacehdgkcaaGreatDoor.Eng

/- The engine, tenth part: structs, arrays, tuples, interface values. -/
namespace Go.Proofs.YtokcgacehdgkcaaGreatDoor.Eng
set_option linter.unusedVariables false
set_option linter.unusedSimpArgs false
open Go.RowKit

/-- A value's cells. -/
def CellsOf (p : Pd) (qs : List Pd) : Prop := ∀ g w v, p.h g w v → Pds g w qs v.cells.toList
theorem cellsOf_agg (qs : List Pd) : CellsOf (agg qs) qs := fun g w v ⟨cs, hv, h⟩ => by subst hv; exact h
theorem cellsOf_one {p : Pd} (h : p.One) : CellsOf p [p] := fun g w v hp => by rw [cells_of_one (h g w v hp)]; exact ⟨hp, trivial⟩

theorem foldl_set_cells : ∀ (vs : List Value) (k off : Nat) (cs : Array Value), off + k + vs.length ≤ cs.size →
    ((vs.zipIdx k).foldl (fun cs (x : Value × Nat) => cs.setIfInBounds (off + x.2) x.1) cs).toList = cs.toList.take (off + k) ++ vs ++ cs.toList.drop (off + k + vs.length)
  | [], k, off, cs, _ => by simp
  | v :: vs, k, off, cs, h => by
    simp only [List.length_cons] at h
    rw [List.zipIdx_cons, List.foldl_cons, foldl_set_cells vs (k + 1) off _ (by simp; omega)]
    have hl : off + k < cs.toList.length := by simp; omega
    have h1 : (cs.setIfInBounds (off + k) v).toList = cs.toList.take (off + k) ++ v :: cs.toList.drop (off + k + 1) := by
      simp only [Array.toList_setIfInBounds]
      rw [List.set_eq_take_append_cons_drop, if_pos hl]
    rw [h1]
    have htl : (cs.toList.take (off + k)).length = off + k := by rw [List.length_take]; omega
    have h2 : ∀ (A D : List Value), (A ++ v :: D).take (A.length + 1) = A ++ [v] := fun A D => by rw [List.take_append, List.take_of_length_le (by omega), show A.length + 1 - A.length = 1 by omega]; simp
    have h3 : ∀ (A D : List Value) (m : Nat), (A ++ v :: D).drop (A.length + 1 + m) = D.drop m := fun A D m => by
      rw [List.drop_append, List.drop_of_length_le (by omega), show A.length + 1 + m - A.length = m + 1 by omega]
      simp
    have h4 := h2 (cs.toList.take (off + k)) (cs.toList.drop (off + k + 1))
    have h5 := h3 (cs.toList.take (off + k)) (cs.toList.drop (off + k + 1)) vs.length
    rw [htl] at h4 h5
    rw [show off + (k + 1) = off + k + 1 by omega, h4, h5, List.drop_drop]
    simp
    congr 1
    omega

def fillP (place : Nat → Option (Nat × Nat)) (ps : List Pd) : List (Nat × List Pd) → Option (List Pd)
  | [] => some ps
  | (i, qs) :: rest =>
    match place i with
    | none => none
    | some (off, size) => if qs.length = size ∧ off + size ≤ ps.length then fillP place (ps.take off ++ qs ++ ps.drop (off + size)) rest else none

def Parts (e : Env) : List (Nat × Operand) → List (Nat × List Pd) → Prop
  | [], [] => True
  | (i, x) :: xs, (j, qs) :: qss => i = j ∧ CellsOf (e.ev x) qs ∧ Parts e xs qss
  | _, _ => False

theorem fill_of_fillP {e : Env} {g : G} {w : World} {a : Act} {place : Nat → Option (Nat × Nat)} : ∀ {xs : List (Nat × Operand)} {qss : List (Nat × List Pd)} {ps rs : List Pd} {cs : Array Value},
    Parts e xs qss → (∀ x ∈ xs, (e.ev x.2).h g w (a.eval x.2)) → Pds g w ps cs.toList → fillP place ps qss = some rs → ∃ cs', Instr.fill place cs (xs.map fun x => (x.1, a.eval x.2)) = some cs' ∧ Pds g w rs cs'.toList
  | [], [], ps, rs, cs, _, _, hp, hf => by simp [fillP] at hf; subst hf; exact ⟨cs, rfl, hp⟩
  | (i, x) :: xs, (j, qs) :: qss, ps, rs, cs, ⟨hij, hc, hr⟩, hx, hp, hf => by
    subst hij
    have h1 := hc g w _ (hx (i, x) (by simp))
    have hl1 := h1.length
    have hl2 := hp.length
    simp only [fillP] at hf
    simp only [List.map_cons, Instr.fill]
    cases hpl : place i with
    | none => rw [hpl] at hf; cases hf
    | some os =>
      obtain ⟨off, size⟩ := os
      rw [hpl] at hf
      simp only at hf ⊢
      split at hf
      · rename_i hcond
        obtain ⟨e1, e2⟩ := hcond
        have e3 : (a.eval x).cells.size = size := by rw [← e1, ← hl1]; simp
        have e4 : cs.size = ps.length := by rw [← hl2]; simp
        rw [if_neg (by simp [e3, e4]; omega)]
        have h3 := foldl_set_cells (a.eval x).cells.toList 0 off cs (by simp [e3, e4]; omega)
        have h4 : ((a.eval x).cells.zipIdx.foldl (fun cs (c, j) => cs.setIfInBounds (off + j) c) cs) = (((a.eval x).cells.toList.zipIdx 0).foldl (fun cs (x : Value × Nat) => cs.setIfInBounds (off + x.2) x.1) cs) := by
          rw [← Array.foldl_toList]
          congr 1
          simp
        rw [h4]
        refine fill_of_fillP hr (fun y hy => hx y (by simp [hy])) ?_ hf
        rw [h3]
        have e5 : (a.eval x).cells.toList.length = size := by simpa using e3
        simp only [Nat.add_zero, e5]
        exact ((hp.take off).append h1).append (hp.drop (off + size))
      · cases hf
  | [], _ :: _, _, _, _, h, _, _, _ => h.elim
  | _ :: _, [], _, _, _, h, _, _, _ => h.elim

section
variable {P : Program} {e : Env} {s : St} {dst : Option Tmp} {ty : TypeId} {pos : String} {after : Array Edge} {guard : Option (Nat × Bool)}

/-- Where the parts of a struct or an array lie. -/
def placesT (P : Program) (t : TypeId) (n : Nat) : Option (List (Nat × Nat)) :=
  match P.underlying t with
  | some (.struct fs) => if fs.size = n then fs.toList.mapM fun f => (sizeT P f.type).map fun z => (f.offset, z) else none
  | some (.array len te) => if len = n then (sizeT P te).map fun z => (List.range n).map fun i => (i * z, z) else none
  | _ => none

def zeroT (P : Program) (t : TypeId) : Option (List Value) := ((P.info? t).bind (·.zero)).map fun z => z.cells.toList

theorem run_zeroValue {t : TypeId} {zs : List Value} (h : zeroT P t = some zs) (w : World) : ∃ z, (zeroValue t).run P w = .ok z w ∧ z.cells.toList = zs := by
  obtain ⟨z, hz, he⟩ := Option.map_eq_some_iff.1 h
  obtain ⟨i, hi, hz2⟩ := Option.bind_eq_some_iff.1 hz
  exact ⟨z, by simp [zeroValue, typeInfo, hi, hz2], he⟩

theorem mapM_fields (w : World) : ∀ (fs : List Field) (ps : List (Nat × Nat)), (fs.mapM fun f => (sizeT P f.type).map fun z => (f.offset, z)) = some ps →
    (fs.mapM fun f => do pure (f.offset, ← sizeOf f.type) : Sem (List (Nat × Nat))).run P w = .ok ps w
  | [], ps, h => by simp at h; subst h; simp
  | f :: fs, ps, h => by
    simp only [List.mapM_cons, Option.bind_eq_bind, Option.bind_eq_some_iff] at h
    obtain ⟨x, hx, qs, hq, he⟩ := h
    obtain ⟨z, hz, rfl⟩ := Option.map_eq_some_iff.1 hx
    have ih := mapM_fields w fs qs hq
    simp at he
    subst he
    simp [List.mapM_cons, run_sizeOf hz]
    simp at ih
    rw [ih]
    simp

theorem opD_build_struct {t : TypeId} {parts : List (Nat × Operand)} {qss : List (Nat × List Pd)} {fs : Array Field} {pl_ : List (Nat × Nat)} {zs : List Value} {rs : List Pd} (ht : P.underlying t = some (.struct fs)) (hpl : placesT P t fs.size = some pl_) (hz : zeroT P t = some zs)
    (hp : Parts e parts qss) (hf : fillP (fun i => pl_[i]?) (zs.map pl) qss = some rs) : OpD P ⟨dst, .build t parts.toArray, ty, pos, after, guard⟩ e s (agg rs) s :=
  opD_look fun g a w ha _ => by
    obtain ⟨z, hz1, hz2⟩ := run_zeroValue hz w
    have hx : ∀ x ∈ parts, (e.ev x.2).h g w (a.eval x.2) := fun x hx => ha x.2 (by simp [Op.operands]; exact ⟨x.1, hx⟩)
    have h0 : Pds g w (zs.map pl) z.cells.toList := by rw [hz2]; exact pds_pl g w zs
    obtain ⟨cs', h1, h2⟩ := fill_of_fillP hp hx h0 hf
    refine ⟨.agg cs', ?_, cs', rfl, h2⟩
    show (Sem.bind (Instr.build t (parts.toArray.map fun (i, x) => (i, a.eval x))) fun v => Sem.pure (Next.value v)).run P w = _
    refine run_v ?_
    have hmm := mapM_fields (P := P) w fs.toList pl_ (by simpa [placesT, ht] using hpl)
    have hmm2 : (fs.mapM fun f => do pure (f.offset, ← sizeOf f.type) : Sem (Array (Nat × Nat))).run P w = .ok pl_.toArray w := by
      rw [← Array.toArray_toList (xs := fs), List.mapM_toArray]
      simp at hmm ⊢
      rw [hmm]
      simp
    simp only [Instr.build, Sem.run_bind, hz1, Result.andThen_ok, run_underlying ht]
    rw [hmm2]
    simp only [Result.andThen_ok]
    have h1' : Instr.fill (fun x => pl_.toArray[x]?) z.cells (parts.toArray.map fun (i, x) => (i, a.eval x)).toList = some cs' := by
      simpa using h1
    rw [h1']
    simp

theorem opD_extract {x : Operand} {i : Nat} {ps : List Pd} {p : Pd} (hx : e.ev x = tup ps) (hp : ps[i]? = some p) : OpD P ⟨dst, .extract x i, ty, pos, after, guard⟩ e s p s :=
  opD_look fun g a w ha _ => by
    have h1 := ha x (by simp [Op.operands])
    rw [hx] at h1
    obtain ⟨cs, hv, h2⟩ := h1
    obtain ⟨v, h3, h4⟩ := h2.get i p hp
    refine ⟨v, ?_, h4⟩
    show (Sem.bind (Instr.extract (a.eval x) i) fun v => Sem.pure (Next.value v)).run P w = _
    rw [hv]
    refine run_v ?_
    have h3' : cs[i]? = some v := by simpa using h3
    simp [Instr.extract, h3']

theorem run_part_one {ft : TypeId} (h : aggT P ft = some false) {cs : Array Value} {off : Nat} {v : Value} (hv : cs[off]? = some v) (w : World) : (part ft cs off).run P w = .ok v w := by
  simp [part, run_isAgg h, hv]
theorem run_part_agg {ft : TypeId} {n : Nat} (h : aggT P ft = some true) (hn : sizeT P ft = some n) (cs : Array Value) (off : Nat) (w : World) : (part ft cs off).run P w = .ok (.agg (cs.extract off (off + n))) w := by
  simp [part, run_isAgg h, run_sizeOf hn]

theorem opD_indexAddr_arr {t te : TypeId} {len sz : Nat} {x ix : Operand} {kk : IntKind} {n : Int} {i b r off : Nat} (ht : P.underlying t = some (.array len te)) (hsz : sizeT P te = some sz) (hx : e.ev x = ptv b r off) (hi : e.ev ix = pl (.int kk n)) (hn : n = (i : Int)) (hl : i < len) :
    OpD P ⟨dst, .indexAddr t x ix, ty, pos, after, guard⟩ e s (ptv b r (off + i * sz)) s :=
  opD_look fun g a w ha _ => by
    have h1 := ha x (by simp [Op.operands])
    have h2 : a.eval ix = .int kk n := by have := ha ix (by simp [Op.operands]); rw [hi] at this; exact this
    rw [hx] at h1
    obtain ⟨e0, k, hk, hr, hv, hkb⟩ := h1
    subst hn
    refine ⟨.pointer (some ⟨k, off + i * sz, none⟩), ?_, e0, k, hk, hr, rfl, hkb⟩
    show (Sem.bind (Instr.indexAt t (a.eval x) (a.eval ix)) fun v => Sem.pure (Next.value v)).run P w = _
    rw [hv, h2]
    refine run_v ?_
    simp [Instr.indexAt, asIntOf, run_underlying ht, hl, run_sizeOf hsz, Instr.sureAddr, Addr.add_lit]

theorem opD_index_plain {t : TypeId} {x ix : Operand} {u v r : Value} (hx : e.ev x = pl u) (hi : e.ev ix = pl v) (hr : ∀ w, (Instr.index t u v).run P w = .ok r w) : OpD P ⟨dst, .index t x ix, ty, pos, after, guard⟩ e s (pl r) s :=
  opD_look fun g a w ha _ => by
    have h1 : a.eval x = u := by have := ha x (by simp [Op.operands]); rw [hx] at this; exact this
    have h2 : a.eval ix = v := by have := ha ix (by simp [Op.operands]); rw [hi] at this; exact this
    refine ⟨r, ?_, rfl⟩
    show (Sem.bind (Instr.index t (a.eval x) (a.eval ix)) fun v => Sem.pure (Next.value v)).run P w = _
    rw [h1, h2]
    exact run_v (hr w)

theorem opD_makeInterface {t : TypeId} {x : Operand} {p : Pd} (ht : P.concrete t = true) (hx : e.ev x = p) : OpD P ⟨dst, .makeInterface t x, ty, pos, after, guard⟩ e s (ifc t p) s :=
  opD_look fun g a w ha _ => by
    have h1 := ha x (by simp [Op.operands])
    rw [hx] at h1
    refine ⟨.iface t (a.eval x), ?_, _, rfl, h1⟩
    show (Sem.bind (Instr.makeInterface t (a.eval x)) fun v => Sem.pure (Next.value v)).run P w = _
    exact run_v (run_makeInterface w t _ ht)

theorem opD_makeInterface_pl {t : TypeId} {x : Operand} {u : Value} (ht : P.concrete t = true) (hx : e.ev x = pl u) : OpD P ⟨dst, .makeInterface t x, ty, pos, after, guard⟩ e s (pl (.iface t u)) s :=
  opD_look fun g a w ha _ => by
    have h1 : a.eval x = u := by have := ha x (by simp [Op.operands]); rw [hx] at this; exact this
    refine ⟨.iface t u, ?_, rfl⟩
    show (Sem.bind (Instr.makeInterface t (a.eval x)) fun v => Sem.pure (Next.value v)).run P w = _
    rw [h1]
    exact run_v (run_makeInterface w t _ ht)

theorem opD_ptr_eqnil {t pt yt : TypeId} {x : Operand} {b r off : Nat} (ht : P.underlying t = some (.pointer pt)) (hx : e.ev x = ptv b r off) : OpD P ⟨dst, .binOp .eql t x (.const (.pointer none)) yt, ty, pos, after, guard⟩ e s (pl (.bool false)) s :=
  opD_look fun g a w ha _ => by
    have h1 := ha x (by simp [Op.operands])
    rw [hx] at h1
    obtain ⟨e0, k, hk, hr, hv, hkb⟩ := h1
    refine ⟨_, ?_, rfl⟩
    show (Sem.bind (do eqGuard .eql t x (.const (.pointer none)) (a.eval x) (.pointer none); binOp .eql t (a.eval x) (.pointer none)) fun v => Sem.pure (Next.value v)).run P w = _
    rw [hv]
    refine run_v ?_
    have hpt : P.pointee t = pt := by simp [Program.pointee, ht]
    simp [go_sem, ht, hpt]
/-- A slice that fills a block of its own, made here. -/
def slf {α : Type} (k : Kn α) (l : List α) : Pd := ⟨fun g w v => ∃ b, v = .slice (some ⟨b, 0, none⟩) l.length l.length ∧ SlCells k l g w b 0 ∧ g.base ≤ b ∧ b < w.heap.size ∧ g.own b = none ∧ ¬ g.isB b, by
  rintro g w g' w' v hx ⟨b, hv, h1, h2, h3, h4, h5⟩
  refine ⟨b, hv, h1.mono0 hx, by rw [hx.base]; exact h2, Nat.lt_of_lt_of_le h3 hx.size, ?_, ?_⟩
  · cases ho : g'.own b with
    | none => rfl
    | some i =>
      rcases hx.fresh b i ho with h | h
      · rw [h4] at h; cases h
      · omega
  · intro hm
    rcases hx.boxf b hm with hm | hm
    · exact h5 hm
    · omega⟩
theorem slf_le {α : Type} (k : Kn α) (o : Option Nat) (l : List α) : (slf k l).le (sl k o (some false) l) :=
  fun g w v ⟨b, hv, h1, _⟩ => ⟨_, _, hv, Nat.le_refl _, (fun c hc => by cases hc; rfl), (fun h => by cases h), (fun _ => ⟨b, 0, rfl, h1⟩), fun _ _ => .inl rfl⟩

theorem opD_buildSliceF {α : Type} {k : Kn α} {t te : TypeId} {n : Nat} {parts : List (Nat × Operand)} {qss : List (Nat × List Pd)} {zs : List Value} (l : List α) (ht : P.underlying t = some (.slice te)) (hsz : sizeT P te = some k.sz) (hz : zeroT P te = some zs) (hn : n * k.sz ≤ 16777216) (hl : l.length = n)
    (hp : Parts e parts qss) (hzl : zs.length = k.sz) (hf : fillP (fun i => some (i * k.sz, k.sz)) ((List.replicate n zs).flatten.map pl) qss = some (flat k l)) :
    OpD P ⟨dst, .buildSlice t n parts.toArray, ty, pos, after, guard⟩ e s (slf k l) s :=
  opD_value fun g a w ha hs => by
    obtain ⟨z, hz0, hz2⟩ := Option.map_eq_some_iff.1 hz
    have hx : ∀ x ∈ parts, (e.ev x.2).h g w (a.eval x.2) := fun x hx => ha x.2 (by simp [Op.operands]; exact ⟨x.1, hx⟩)
    have hzs : z.cells.size = k.sz := by rw [← hzl, ← hz2]; simp
    have hrow : ((Array.range (n * k.sz)).map (z.cells[· % z.cells.size]!)).toList = (List.replicate n zs).flatten := by
      rw [← hz2, ← hzs]
      apply List.ext_getElem?
      intro q
      by_cases hq : q < n * z.cells.size
      · have hpos : 0 < z.cells.size := by
          rcases Nat.eq_zero_or_pos z.cells.size with h0 | h0
          · rw [h0] at hq; omega
          · exact h0
        have hmod := Nat.mod_lt q hpos
        have hdiv : q / z.cells.size < n := (Nat.div_lt_iff_lt_mul hpos).2 hq
        have key : ∀ (m : Nat) (q : Nat), q < m * z.cells.size → (List.replicate m z.cells.toList).flatten[q]? = z.cells.toList[q % z.cells.size]? := by
          intro m
          induction m with
          | zero => intro q hq; omega
          | succ m ih =>
            intro q hq
            rw [List.replicate_succ, List.flatten_cons]
            by_cases hlt : q < z.cells.size
            · rw [List.getElem?_append_left (by simpa using hlt), Nat.mod_eq_of_lt hlt]
            · rw [List.getElem?_append_right (by simp; omega)]
              have : q - z.cells.toList.length < m * z.cells.size := by
                rw [Nat.add_mul] at hq; simp; omega
              rw [ih _ this]
              congr 1
              simp only [Array.length_toList]
              rw [← Nat.mod_eq_sub_mod (by omega)]
        rw [key n q hq]
        simp [hq, hmod]
      · rw [List.getElem?_eq_none (by simp; omega), List.getElem?_eq_none]
        simp [List.length_flatten]; omega
    obtain ⟨cs', h1, h2⟩ := fill_of_fillP (cs := (Array.range (n * k.sz)).map (z.cells[· % z.cells.size]!)) hp hx (by rw [hrow]; exact pds_pl g w _) hf
    have hrun := run_buildSlice (P := P) (t := t) (te := te) (n := n) (sz := k.sz) (parts := parts.toArray.map fun (i, x) => (i, a.eval x)) (z := z) (cells := cs') ht hsz hn hz0 (by simpa using h1) w
    have hN := new_alloc w (.cells cs' te)
    refine ⟨.slice (some ⟨w.heap.size, 0, none⟩) n n, g.addRow w.heap.size (n * k.sz) none, w.alloc (.cells cs' te), ?_, ?_, ext_new hs hN _ _, srel_new hs hN (FrLe.refl _) (fun _ _ h => by cases h)⟩
    · show (Sem.bind (Instr.buildSlice t n (parts.toArray.map fun (i, x) => (i, a.eval x))) fun v => Sem.pure (Next.value v)).run P w = _
      exact run_v hrun
    · refine ⟨w.heap.size, by rw [hl], ?_, hs.bz, by rw [hN.size]; omega, by simp [G.addRow], fun hm => absurd (hs.ltBox hm) (by omega)⟩
      exact slCells_new (ext_new hs hN _ _) h2 (alloc_heap_new w _) (fun j v hj => by simpa using hj) (by rw [flat_length, hl]; simp [G.addRow])

theorem opD_buildSliceO {α : Type} {k : Kn α} (o : Option Nat) {t te : TypeId} {n : Nat} {parts : List (Nat × Operand)} {qss : List (Nat × List Pd)} {zs : List Value} (l : List α) (ht : P.underlying t = some (.slice te)) (hsz : sizeT P te = some k.sz) (hz : zeroT P te = some zs) (hn : n * k.sz ≤ 16777216) (hl : l.length = n)
    (hp : Parts e parts qss) (hzl : zs.length = k.sz) (hf : fillP (fun i => some (i * k.sz, k.sz)) ((List.replicate n zs).flatten.map pl) qss = some (flat k l)) :
    OpD P ⟨dst, .buildSlice t n parts.toArray, ty, pos, after, guard⟩ e s (sl k o (some false) l) s := opD_le (opD_buildSliceF l ht hsz hz hn hl hp hzl hf) (slf_le k o l)

end
end Go.Proofs.YtokcgacehdgkcaaGreatDoor.Eng

/- The engine, eleventh part: whole numbers, and what a walk lays down. -/
namespace Go.Proofs.YtokcgacehdgkcaaGreatDoor.Eng
set_option linter.unusedVariables false
set_option linter.unusedSimpArgs false
open Go.RowKit

def Env.of : List (Nat × Pd) → Env
  | [] => fun _ => any
  | (t, p) :: l => (Env.of l).put (some t) p
theorem of_nil (t : Tmp) : Env.of [] t = any := rfl
theorem of_same (t : Tmp) (p : Pd) (l : List (Nat × Pd)) : Env.of ((t, p) :: l) t = p := put_same _ _ _
theorem of_ne (t u : Tmp) (p : Pd) (l : List (Nat × Pd)) (h : t ≠ u) : Env.of ((u, p) :: l) t = Env.of l t := put_ne _ _ _ _ h

def Holds (e : Env) : List (Nat × Pd) → Prop
  | [] => True
  | (t, p) :: l => (e t).le p ∧ Holds e l

theorem Holds.of {e : Env} {nt : Nat} {m : Nat × Option Nat} {g : G} {a : Act} {w : World} : ∀ {l : List (Nat × Pd)}, Holds e l → ERel nt m e g a w → ERel nt m (Env.of l) g a w
  | [], _, h => ⟨h.size, h.defers, fun _ => trivial⟩
  | (t, p) :: l, ⟨h1, h2⟩, h => by
    have ih := Holds.of h2 h
    refine ⟨h.size, h.defers, fun u => ?_⟩
    by_cases hu : u = t
    · subst hu; rw [of_same]; exact h1 _ _ _ (h.tmp u)
    · rw [of_ne _ _ _ _ hu]; exact ih.tmp u

theorem aw_keep {P : Program} {nt : Nat} {c : Code} {Q : Exit → Env → St → Prop} {e : Env} {s : St} (l : List (Nat × Pd)) (hl : Holds e l) (h : AW P nt c Q (Env.of l) s) : AW P nt c Q e s :=
  fun m r g a w he hs => h m r g a w (hl.of he) hs

theorem str_inj {u v : ByteArray} (h : u.toList = v.toList) : u = v := by
  rw [ByteArray.toList_eq, ByteArray.toList_eq] at h
  cases u; cases v
  simpa using Array.toList_inj.1 h

theorem str_iff {u v : ByteArray} : u.toList = v.toList ↔ u = v := ⟨str_inj, fun h => by rw [h]⟩

theorem str_beq (u v : ByteArray) : (u.toList == v.toList) = decide (u = v) := by
  rw [Bool.eq_iff_iff]; simp [str_iff]

section
variable {P : Program} {e : Env} {s : St} {dst : Option Tmp} {ty : TypeId} {pos : String} {after : Array Edge} {guard : Option (Nat × Bool)}
variable {xt yt : TypeId} {x y : Operand} {k : IntKind} {a b r : Int}

theorem opD_add (hx : e.ev x = pl (.int k a)) (hy : e.ev y = pl (.int k b)) (hr : k.wrap (a + b) = r) : OpD P ⟨dst, .binOp .add xt x y yt, ty, pos, after, guard⟩ e s (pl (.int k r)) s :=
  opD_bin hx hy (fun w => by simp [go_sem]) (fun w => by rw [← hr]; simp [go_sem, Op.intArith])
theorem opD_sub (hx : e.ev x = pl (.int k a)) (hy : e.ev y = pl (.int k b)) (hr : k.wrap (a - b) = r) : OpD P ⟨dst, .binOp .sub xt x y yt, ty, pos, after, guard⟩ e s (pl (.int k r)) s :=
  opD_bin hx hy (fun w => by simp [go_sem]) (fun w => by rw [← hr]; simp [go_sem, Op.intArith])
theorem opD_mul (hx : e.ev x = pl (.int k a)) (hy : e.ev y = pl (.int k b)) (hr : k.wrap (a * b) = r) : OpD P ⟨dst, .binOp .mul xt x y yt, ty, pos, after, guard⟩ e s (pl (.int k r)) s :=
  opD_bin hx hy (fun w => by simp [go_sem]) (fun w => by rw [← hr]; simp [go_sem, Op.intArith])
theorem opD_quo (hx : e.ev x = pl (.int k a)) (hy : e.ev y = pl (.int k b)) (hb : b ≠ 0) (hr : k.wrap (a.tdiv b) = r) : OpD P ⟨dst, .binOp .quo xt x y yt, ty, pos, after, guard⟩ e s (pl (.int k r)) s :=
  opD_bin hx hy (fun w => by simp [go_sem]) (fun w => by rw [← hr]; simp [go_sem, Op.intDiv, hb])
theorem opD_rem (hx : e.ev x = pl (.int k a)) (hy : e.ev y = pl (.int k b)) (hb : b ≠ 0) (hr : a.tmod b = r) : OpD P ⟨dst, .binOp .rem xt x y yt, ty, pos, after, guard⟩ e s (pl (.int k r)) s :=
  opD_bin hx hy (fun w => by simp [go_sem]) (fun w => by rw [← hr]; simp [go_sem, Op.intDiv, hb])
theorem opD_bits {op : BinOp} (hop : op = .and ∨ op = .or ∨ op = .xor ∨ op = .andNot) (hx : e.ev x = pl (.int k a)) (hy : e.ev y = pl (.int k b)) (hr : bits op k a b = r) : OpD P ⟨dst, .binOp op xt x y yt, ty, pos, after, guard⟩ e s (pl (.int k r)) s :=
  opD_bin hx hy (fun w => by rcases hop with rfl | rfl | rfl | rfl <;> simp [go_sem]) (fun w => by rw [← hr]; rcases hop with rfl | rfl | rfl | rfl <;> simp [go_sem])
theorem opD_shl {yk : IntKind} (hx : e.ev x = pl (.int k a)) (hy : e.ev y = pl (.int yk b)) (hb : 0 ≤ b) (hb2 : b ≤ k.bits) (hr : k.wrap (a * 2 ^ b.toNat) = r) : OpD P ⟨dst, .binOp .shl xt x y yt, ty, pos, after, guard⟩ e s (pl (.int k r)) s :=
  opD_bin hx hy (fun w => by simp [go_sem]) (fun w => by rw [← hr, binOp_shl, shift_shl _ _ _ _ hb hb2]; rfl)
theorem opD_shr {yk : IntKind} (hx : e.ev x = pl (.int k a)) (hy : e.ev y = pl (.int yk b)) (hb : 0 ≤ b) (hb2 : b ≤ k.bits) (hr : a / 2 ^ b.toNat = r) : OpD P ⟨dst, .binOp .shr xt x y yt, ty, pos, after, guard⟩ e s (pl (.int k r)) s :=
  opD_bin hx hy (fun w => by simp [go_sem]) (fun w => by rw [← hr, binOp_shr, shift_shr _ _ _ _ hb hb2]; rfl)
theorem opD_lss (hx : e.ev x = pl (.int k a)) (hy : e.ev y = pl (.int k b)) : OpD P ⟨dst, .binOp .lss xt x y yt, ty, pos, after, guard⟩ e s (pl (.bool (decide (a < b)))) s :=
  opD_bin hx hy (fun w => by simp [go_sem]) (fun w => by simp [go_sem])
theorem opD_leq (hx : e.ev x = pl (.int k a)) (hy : e.ev y = pl (.int k b)) : OpD P ⟨dst, .binOp .leq xt x y yt, ty, pos, after, guard⟩ e s (pl (.bool (decide (a ≤ b)))) s :=
  opD_bin hx hy (fun w => by simp [go_sem]) (fun w => by simp [go_sem])
theorem opD_gtr (hx : e.ev x = pl (.int k a)) (hy : e.ev y = pl (.int k b)) : OpD P ⟨dst, .binOp .gtr xt x y yt, ty, pos, after, guard⟩ e s (pl (.bool (decide (b < a)))) s :=
  opD_bin hx hy (fun w => by simp [go_sem]) (fun w => by simp [go_sem])
theorem opD_geq (hx : e.ev x = pl (.int k a)) (hy : e.ev y = pl (.int k b)) : OpD P ⟨dst, .binOp .geq xt x y yt, ty, pos, after, guard⟩ e s (pl (.bool (decide (b ≤ a)))) s :=
  opD_bin hx hy (fun w => by simp [go_sem]) (fun w => by simp [go_sem])
theorem opD_eql (hx : e.ev x = pl (.int k a)) (hy : e.ev y = pl (.int k b)) : OpD P ⟨dst, .binOp .eql xt x y yt, ty, pos, after, guard⟩ e s (pl (.bool (decide (a = b)))) s :=
  opD_bin hx hy (fun w => by simp [go_sem]) (fun w => by simp [go_sem]; rfl)
theorem opD_neq (hx : e.ev x = pl (.int k a)) (hy : e.ev y = pl (.int k b)) : OpD P ⟨dst, .binOp .neq xt x y yt, ty, pos, after, guard⟩ e s (pl (.bool (decide (a ≠ b)))) s :=
  opD_bin hx hy (fun w => by simp [go_sem]) (fun w => by simp [go_sem, bne]; rfl)
theorem opD_seql {u v : ByteArray} (hx : e.ev x = pl (.string u)) (hy : e.ev y = pl (.string v)) : OpD P ⟨dst, .binOp .eql xt x y yt, ty, pos, after, guard⟩ e s (pl (.bool (decide (u = v)))) s :=
  opD_bin hx hy (fun w => by simp [go_sem]) (fun w => by simp [binOp, Op.stringOp, str_beq])
theorem opD_sneq {u v : ByteArray} (hx : e.ev x = pl (.string u)) (hy : e.ev y = pl (.string v)) : OpD P ⟨dst, .binOp .neq xt x y yt, ty, pos, after, guard⟩ e s (pl (.bool (decide (u ≠ v)))) s :=
  opD_bin hx hy (fun w => by simp [go_sem]) (fun w => by simp [binOp, Op.stringOp, str_beq])
theorem opD_sadd {u v : ByteArray} (hx : e.ev x = pl (.string u)) (hy : e.ev y = pl (.string v)) (hb : u.size + v.size ≤ 9223372036854775807) : OpD P ⟨dst, .binOp .add xt x y yt, ty, pos, after, guard⟩ e s (pl (.string (u ++ v))) s :=
  opD_bin hx hy (fun w => by simp [go_sem]) (fun w => by
    rw [show binOp .add xt (.string u) (.string v) = Op.stringOp .add u v from by simp [binOp]]
    exact run_string_add_sum w u v hb)
theorem opD_not {u : Bool} (hx : e.ev x = pl (.bool u)) : OpD P ⟨dst, .unOp .not xt x, ty, pos, after, guard⟩ e s (pl (.bool (!u))) s :=
  opD_un hx (fun w => by simp [Op.unary])
theorem opD_conv_int {st dt : TypeId} {k2 : IntKind} {d : TypeDesc} (hs : P.underlying st = some d) (hd : P.underlying dt = some (.int k2)) (hx : e.ev x = pl (.int k a)) (hr : k2.wrap a = r) : OpD P ⟨dst, .convert st dt x, ty, pos, after, guard⟩ e s (pl (.int k2 r)) s :=
  opD_convert hx (fun w => by rw [← hr]; simp [convert, run_underlying hs, run_underlying hd, Conv.intToInt])
theorem opD_len_str {str : ByteArray} {t : TypeId} (ht : P.underlying t = some .string) (hx : e.ev x = pl (.string str)) : OpD P ⟨dst, .call { callee := .builtin .len, args := #[x], argTypes := #[t] }, ty, pos, after, guard⟩ e s (pl (.int .i64 str.size)) s :=
  opD_builtin #[.string str] (fun g a w h => by have := h x (by simp); rw [hx] at this; simp [show a.eval x = _ from this]) (fun w cs => by
    show (Sem.bind (Builtin.len_ #[t] ty #[.string str]) fun v => Sem.pure (Next.value v)).run P w = _
    exact run_v (by simp [Builtin.len_, run_underlying ht, goInt]))
theorem opD_max (hx : e.ev x = pl (.int k a)) (hy : e.ev y = pl (.int k b)) (hr : (if b > a then b else a) = r) {ats : Array TypeId} : OpD P ⟨dst, .call { callee := .builtin .max, args := #[x, y], argTypes := ats }, ty, pos, after, guard⟩ e s (pl (.int k r)) s :=
  opD_builtin #[.int k a, .int k b] (fun g a w h => by
    have h1 := h x (by simp); have h2 := h y (by simp); rw [hx] at h1; rw [hy] at h2; simp [show a.eval x = _ from h1, show a.eval y = _ from h2]) (fun w cs => by
    show (Sem.bind (Builtin.max_ ats ty #[.int k a, .int k b]) fun v => Sem.pure (Next.value v)).run P w = _
    exact run_v (by rw [← hr]; simp [Builtin.max_, Builtin.max2]))
end
end Go.Proofs.YtokcgacehdgkcaaGreatDoor.Eng

/- The engine, twelfth part: what a printed walk uses. -/
namespace Go.Proofs.YtokcgacehdgkcaaGreatDoor.Eng
set_option linter.unusedVariables false
set_option linter.unusedSimpArgs false
open Go.RowKit

theorem lz {e : Env} {t : Tmp} {p : Pd} : Env.ev (Env.put e (some t) p) (.tmp t) = p := put_same e t p
theorem ls {e : Env} {t u : Tmp} {p q : Pd} (h : Nat.beq t u = false) (h2 : Env.ev e (.tmp t) = q) : Env.ev (Env.put e (some u) p) (.tmp t) = q :=
  (put_ne _ _ _ _ (Nat.ne_of_beq_eq_false h)).trans h2
theorem lx {e : Env} {t : Tmp} {p q : Pd} (h2 : Env.ev e (.tmp t) = q) : Env.ev (Env.put e none p) (.tmp t) = q := h2
theorem oz {t : Tmp} {p : Pd} {l : List (Nat × Pd)} : Env.ev (Env.of ((t, p) :: l)) (.tmp t) = p := of_same t p l
theorem os {t u : Tmp} {p q : Pd} {l : List (Nat × Pd)} (h : Nat.beq t u = false) (h2 : Env.ev (Env.of l) (.tmp t) = q) : Env.ev (Env.of ((u, p) :: l)) (.tmp t) = q := ls h h2
theorem ez {p : Pd} {l : List Pd} : Env.ev (envOf (p :: l)) (.tmp 0) = p := rfl
theorem es {p q : Pd} {l : List Pd} {t : Tmp} (h : Env.ev (envOf l) (.tmp t) = q) : Env.ev (envOf (p :: l)) (.tmp (t + 1)) = q := h
theorem eg {e : Env} {t : Tmp} {p : Pd} (h : Env.ev e (.tmp t) = p) : e t = p := h
theorem lg {e : Env} {t : Tmp} {p : Pd} (h : Env.ev e (.tmp t) = p) : (e t).le p := le_of_eq h

section
variable {P : Program} {ops : Array Oper} {K : Env → St → Prop} {KD : List Tr → Env → St → Prop} {l : List Oper} {e : Env} {s s1 : St} {acc : List Tr} {dst : Option Tmp} {op : Op} {ty : TypeId} {pos : String} {after : Array Edge} {guard : Option (Nat × Bool)}
theorem rts (p : Pd) (hw : Wants ops ⟨dst, op, ty, pos, after, guard⟩ e true) (ho : OpD P ⟨dst, op, ty, pos, after, guard⟩ e s p s1) (h : RT P ops K l (e.put dst p) s1) : RT P ops K (⟨dst, op, ty, pos, after, guard⟩ :: l) e s := .step p hw ho h
end

/-- What it is if a test was met; else nothing. -/
def pif (c : Bool) (p : Pd) : Pd := if c then p else pl undef
theorem pif_pos {c : Bool} {p : Pd} (h : c = true) : pif c p = p := by rw [h]; rfl
theorem pif_neg {c : Bool} {p : Pd} (h : c = false) : pif c p = pl undef := by rw [h]; rfl
theorem pif_and {c d : Bool} {p : Pd} (h : c = true) : pif (c && d) p = pif d p := by rw [h]; rfl
section
variable {P : Program} {ops : Array Oper} {K : Env → St → Prop} {l : List Oper} {e : Env} {s : St} {dst : Option Tmp} {op : Op} {ty : TypeId} {pos : String} {after : Array Edge} {j t : Nat} {want b : Bool}
/-- An operation behind a test: run, or left out. -/
theorem rtg (p : Pd) (ht : (ops[j]?).bind (·.dst) = some t) (he : Env.ev e (.tmp t) = pl (.bool b)) (ho : (b == want) = true → OpD P ⟨dst, op, ty, pos, after, some (j, want)⟩ e s p s) (h : RT P ops K l (e.put dst (pif (b == want) p)) s) : RT P ops K (⟨dst, op, ty, pos, after, some (j, want)⟩ :: l) e s := by
  cases hb : (b == want) with
  | true => rw [pif_pos hb] at h; exact .step p ⟨t, ht, .inl ⟨b, he, hb⟩⟩ (ho hb) h
  | false => rw [pif_neg hb] at h; exact .skip ⟨t, ht, .inl ⟨b, he, hb⟩⟩ h
/-- A test within a test. -/
theorem rtg2 (p : Pd) {c0 : Bool} (ht : (ops[j]?).bind (·.dst) = some t) (he : Env.ev e (.tmp t) = pif c0 (pl (.bool b))) (ho : (c0 && (b == want)) = true → OpD P ⟨dst, op, ty, pos, after, some (j, want)⟩ e s p s) (h : RT P ops K l (e.put dst (pif (c0 && (b == want)) p)) s) : RT P ops K (⟨dst, op, ty, pos, after, some (j, want)⟩ :: l) e s := by
  cases c0 with
  | true =>
    cases hb : (b == want) with
    | true => rw [pif_pos (by rw [hb]; rfl)] at h; exact .step p ⟨t, ht, .inl ⟨b, he, hb⟩⟩ (ho (by rw [hb]; rfl)) h
    | false => rw [pif_neg (by rw [hb]; rfl)] at h; exact .skip ⟨t, ht, .inl ⟨b, he, hb⟩⟩ h
  | false => exact .skip ⟨t, ht, .inr ⟨he, rfl⟩⟩ h
theorem opD_and {c x : Operand} {d : Bool} (hc : e.ev c = pl (.bool b)) (hx : e.ev x = pif (b == true) (pl (.bool d))) {guard : Option (Nat × Bool)} : OpD P ⟨dst, .pick c x (.const (.bool false)), ty, pos, after, guard⟩ e s (pl (.bool (b && d))) s :=
  opD_pick hc (fun h => by subst h; rw [hx]; exact pif_pos rfl) (fun h => by subst h; rfl)
theorem opD_or {c y : Operand} {d : Bool} (hc : e.ev c = pl (.bool b)) (hy : e.ev y = pif (b == false) (pl (.bool d))) {guard : Option (Nat × Bool)} : OpD P ⟨dst, .pick c (.const (.bool true)) y, ty, pos, after, guard⟩ e s (pl (.bool (b || d))) s :=
  opD_pick hc (fun h => by subst h; rfl) (fun h => by subst h; rw [hy]; exact pif_pos rfl)
end

/-- A drawn region's run, in the order of the text, with what is to be shown of the whole. -/
inductive DT (P : Program) (ops : Array Oper) (K : List Tr → Env → St → Prop) : List Oper → Env → St → List Tr → Prop
  | nil {e : Env} {s : St} {acc : List Tr} : K acc e s → DT P ops K [] e s acc
  | pure {o : Oper} {l : List Oper} {e : Env} {s : St} {acc : List Tr} (p : Pd) : Wants ops o e true → (∀ s, OpD P o e s p s) → DT P ops K l (e.put o.dst p) s (acc ++ [⟨.pure, p, s, fun _ => True⟩]) → DT P ops K (o :: l) e s acc
  | skip {o : Oper} {l : List Oper} {e : Env} {s : St} {acc : List Tr} : Wants ops o e false → DT P ops K l (e.put o.dst (pl undef)) s (acc ++ [⟨.pure, pl undef, s, fun _ => True⟩]) → DT P ops K (o :: l) e s acc
  | load {o : Oper} {l : List Oper} {e : Env} {s : St} {acc : List Tr} (p : Pd) (L : St → Prop) : Wants ops o e true → (∀ s, L s → OpD P o e s p s) → DT P ops K l (e.put o.dst p) s (acc ++ [⟨.load, p, s, L⟩]) → DT P ops K (o :: l) e s acc
  | act {o : Oper} {l : List Oper} {e : Env} {s s1 : St} {acc : List Tr} (p : Pd) : Wants ops o e true → OpD P o e s p s1 → DT P ops K l (e.put o.dst p) s1 (acc ++ [⟨.act, p, s1, fun _ => True⟩]) → DT P ops K (o :: l) e s acc

theorem DT.tr {P : Program} {ops : Array Oper} {K : List Tr → Env → St → Prop} {l : List Oper} {e : Env} {s : St} {acc : List Tr} (h : DT P ops K l e s acc) : ∃ tr e' s', TR P ops l e s tr e' s' ∧ K (acc ++ tr) e' s' := by
  induction h with
  | nil hk => exact ⟨[], _, _, .nil, by simpa using hk⟩
  | pure p hw ho _ ih => obtain ⟨tr, e', s', h1, h2⟩ := ih; exact ⟨_, e', s', .pure p hw ho h1, by simpa using h2⟩
  | skip hw _ ih => obtain ⟨tr, e', s', h1, h2⟩ := ih; exact ⟨_, e', s', .skip hw h1, by simpa using h2⟩
  | load p L hw ho _ ih => obtain ⟨tr, e', s', h1, h2⟩ := ih; exact ⟨_, e', s', .load p L hw ho h1, by simpa using h2⟩
  | act p hw ho _ ih => obtain ⟨tr, e', s', h1, h2⟩ := ih; exact ⟨_, e', s', .act p hw ho h1, by simpa using h2⟩

section
variable {P : Program} {ops : Array Oper} {KD : List Tr → Env → St → Prop} {l : List Oper} {e : Env} {s s1 : St} {acc : List Tr} {dst : Option Tmp} {op : Op} {ty : TypeId} {pos : String} {after : Array Edge} {guard : Option (Nat × Bool)}
theorem dtp (p : Pd) (hw : Wants ops ⟨dst, op, ty, pos, after, guard⟩ e true) (ho : ∀ s, OpD P ⟨dst, op, ty, pos, after, guard⟩ e s p s) (h : DT P ops KD l (e.put dst p) s (acc ++ [⟨.pure, p, s, fun _ => True⟩])) : DT P ops KD (⟨dst, op, ty, pos, after, guard⟩ :: l) e s acc := .pure p hw ho h
theorem dtl (p : Pd) (L : St → Prop) (hw : Wants ops ⟨dst, op, ty, pos, after, guard⟩ e true) (ho : ∀ s, L s → OpD P ⟨dst, op, ty, pos, after, guard⟩ e s p s) (h : DT P ops KD l (e.put dst p) s (acc ++ [⟨.load, p, s, L⟩])) : DT P ops KD (⟨dst, op, ty, pos, after, guard⟩ :: l) e s acc := .load p L hw ho h
theorem dta (p : Pd) (hw : Wants ops ⟨dst, op, ty, pos, after, guard⟩ e true) (ho : OpD P ⟨dst, op, ty, pos, after, guard⟩ e s p s1) (h : DT P ops KD l (e.put dst p) s1 (acc ++ [⟨.act, p, s1, fun _ => True⟩])) : DT P ops KD (⟨dst, op, ty, pos, after, guard⟩ :: l) e s acc := .act p hw ho h
end

def AllL (L : St → Prop) (s : St) (tr : List Tr) : List Nat → Prop
  | [] => True
  | k :: ks => L (stAt s tr k) ∧ AllL L s tr ks
theorem AllL.at {L : St → Prop} {s : St} {tr : List Tr} : ∀ {ks : List Nat}, AllL L s tr ks → ∀ k ∈ ks, L (stAt s tr k)
  | [], _, _, h => by cases h
  | _ :: _, ⟨h1, h2⟩, k, h => by
    rcases List.mem_cons.1 h with rfl | h
    · exact h1
    · exact AllL.at h2 k h

/-- Each load, in each state in which it may come up. -/
def LoadsOk (s : St) (tr0 : List Tr) : List Tr → List (List Nat) → Prop
  | [], _ => True
  | t :: tr, w :: ws => (match t.cl with | .load => AllL t.L s tr0 w | _ => True) ∧ LoadsOk s tr0 tr ws
  | _ :: _, [] => False

theorem LoadsOk.at {s : St} {tr0 : List Tr} : ∀ {tr : List Tr} {ws : List (List Nat)}, LoadsOk s tr0 tr ws → ∀ (i : Nat) (t : Tr), tr[i]? = some t → t.cl = .load → ∃ w, ws[i]? = some w ∧ AllL t.L s tr0 w
  | [], _, _, i, t, h, _ => by simp at h
  | t' :: tr, w :: ws, ⟨h1, h2⟩, 0, t, h, hc => by
    simp at h; subst h
    rw [hc] at h1
    exact ⟨w, rfl, h1⟩
  | t' :: tr, w :: ws, ⟨h1, h2⟩, i + 1, t, h, hc => by
    simp only [List.getElem?_cons_succ] at h ⊢
    exact LoadsOk.at h2 i t h hc
  | _ :: _, [], h, _, _, _, _ => h.elim

def wins (ops : List Oper) (acts : List Bool) : List (List Nat) := (List.range ops.length).map fun i => List.range' (lo ops acts i) (hi ops acts i + 1 - lo ops acts i)

/-- What is to be shown of the whole. -/
def DOk (nt : Nat) (ops : List Oper) (acts : List Bool) (ws : List (List Nat)) : Bool :=
  dstsOk nt ops && edgesBack ops && Region.noSelect ops.toArray && orderOk ops acts && decide (wins ops acts = ws)

theorem aw_drawn {P : Program} {nt id : Nat} {ops : List Oper} {Q : Exit → Env → St → Prop} {e : Env} {s : St} (acts : List Bool) (ws : List (List Nat)) (hm : P.follows .mixedOrders = true) (hd : DOk nt ops acts ws = true)
    (h : DT P ops.toArray (fun tr e' s' => tr.map isAct = acts ∧ LoadsOk s tr tr ws ∧ Q .normal e' s') ops e s []) : AW P nt (.region id ops.toArray true) Q e s := by
  obtain ⟨tr, e', s', htr, hk⟩ := h.tr
  rw [List.nil_append] at hk
  obtain ⟨hacts, hl, hq⟩ := hk
  simp only [DOk, Bool.and_eq_true, decide_eq_true_eq] at hd
  obtain ⟨⟨⟨⟨h1, h2⟩, h3⟩, h4⟩, h5⟩ := hd
  refine aw_region_drawn hm h1 h2 h3 htr (by rw [hacts]; exact h4) (fun i t ht hc k hlo hhi => ?_) hq
  obtain ⟨w, hw, ha⟩ := hl.at i t ht hc
  refine ha.at k ?_
  have hi : i < ops.length := by
    have := (List.getElem?_eq_some_iff.1 ht).1
    have h6 := htr.spec.1
    omega
  rw [← h5, wins, List.getElem?_map, List.getElem?_range hi] at hw
  simp only [Option.map_some, Option.some.injEq] at hw
  rw [← hw, List.mem_range'_1]
  rw [hacts] at hlo hhi
  omega

/-- A function that leaves nothing behind, whatever the state is. -/
def Pure (P : Program) (f : FuncId) (ps : List Pd) (p : Pd) : Prop := ∀ s, AC P f ps s p s
theorem opD_pure {P : Program} {e : Env} {s : St} {dst : Option Tmp} {ty : TypeId} {pos : String} {after : Array Edge} {guard : Option (Nat × Bool)} {f : FuncId} {xs : List Operand} {ats : Array TypeId} {ps : List Pd} {p : Pd} (hf : hasText P f = true) (hc : Pure P f ps p) (hx : Args e xs ps) :
    OpD P ⟨dst, .call { callee := .value (.func f), args := xs.toArray, argTypes := ats }, ty, pos, after, guard⟩ e s p s := opD_call hf (hc s) hx
end Go.Proofs.YtokcgacehdgkcaaGreatDoor.Eng

/- The engine, thirteenth part: states by what has come to them. -/
namespace Go.Proofs.YtokcgacehdgkcaaGreatDoor.Eng
set_option linter.unusedVariables false
set_option linter.unusedSimpArgs false
open Go.RowKit

def St.ext (s : St) (bs : List Bx) (fs : List Fr) : St := ⟨s.boxes ++ bs, s.fr ++ fs, s.stat⟩
theorem ext_nil (s : St) : s.ext [] [] = s := by cases s; simp [St.ext]
theorem ext_ext (s : St) (bs bs2 : List Bx) (fs fs2 : List Fr) : (s.ext bs fs).ext bs2 fs2 = s.ext (bs ++ bs2) (fs ++ fs2) := by simp [St.ext]
theorem ext_boxes_length (s : St) (bs : List Bx) (fs : List Fr) : (s.ext bs fs).boxes.length = s.boxes.length + bs.length := by simp [St.ext]
theorem ext_fr_length (s : St) (bs : List Bx) (fs : List Fr) : (s.ext bs fs).fr.length = s.fr.length + fs.length := by simp [St.ext]
theorem loc_get {s : St} {bs : List Bx} {fs : List Fr} {i : Nat} {B : Bx} (h : bs[i]? = some B) : (s.ext bs fs).boxes[s.boxes.length + i]? = some B := by
  show (s.boxes ++ bs)[s.boxes.length + i]? = _
  rw [List.getElem?_append_right (by omega), Nat.add_sub_cancel_left]; exact h
theorem old_get {s : St} {bs : List Bx} {fs : List Fr} {g : Nat} {B : Bx} (h : s.boxes[g]? = some B) : (s.ext bs fs).boxes[g]? = some B := by
  show (s.boxes ++ bs)[g]? = _
  rw [List.getElem?_append_left (List.getElem?_eq_some_iff.1 h).1]; exact h
theorem loc_fr {s : St} {bs : List Bx} {fs : List Fr} {i : Nat} {f : Fr} (h : fs[i]? = some f) : (s.ext bs fs).fr[s.fr.length + i]? = some f := by
  show (s.fr ++ fs)[s.fr.length + i]? = _
  rw [List.getElem?_append_right (by omega), Nat.add_sub_cancel_left]; exact h

/-- An older variable with other cells. -/
def St.upd (s : St) (g : Nat) (B : Bx) : St := ⟨s.boxes.set g B, s.fr, s.stat⟩
theorem upd_boxes_length (s : St) (g : Nat) (B : Bx) : (s.upd g B).boxes.length = s.boxes.length := by simp [St.upd]
theorem upd_upd (s : St) (g : Nat) (B C : Bx) : (s.upd g B).upd g C = s.upd g C := by simp [St.upd]
theorem aw_ext0 {P : Program} {nt : Nat} {c : Code} {Q : Exit → Env → St → Prop} {e : Env} {s : St} (h : AW P nt c Q e (s.ext [] [])) : AW P nt c Q e s := by
  rw [ext_nil] at h; exact h

theorem le_sl {α : Type} {k : Kn α} {o : Option Nat} {nl : Option Bool} {l : List α} {p : Pd} (h : p = sl k o nl l) : p.le (sl k none none l) := h ▸ sl_any k o nl l
theorem le_nil {α : Type} {k : Kn α} {p : Pd} (h : p = pl (.slice none 0 0)) : p.le (sl k none none ([] : List α)) := fun g w v hp => by
  rw [h] at hp
  rw [show v = _ from hp]
  exact sl_any k none (some true) [] g w _ (sl_nil k none g w)
/-- Nil, or not: apart. -/
theorem ac_nl {P : Program} {f : FuncId} {α : Type} {k : Kn α} {l : List α} {ps : List Pd} {s s' : St} {p : Pd} (h1 : l = [] → AC P f (sl k none (some true) ([] : List α) :: ps) s p s') (h2 : AC P f (sl k none (some false) l :: ps) s p s') : AC P f (sl k none none l :: ps) s p s' := by
  intro g w vs hps hs
  cases vs with
  | nil => exact hps.elim
  | cons v vs =>
    obtain ⟨⟨A, c, hv, q1, q2, q3, q4, q5⟩, hr⟩ := hps
    cases A with
    | none =>
      have hc := q3 rfl
      subst hc
      have hl : l = [] := by cases l with
        | nil => rfl
        | cons => simp at q1
      subst hl
      exact h1 rfl g w (v :: vs) ⟨⟨none, 0, hv, q1, fun b hb => by cases hb; rfl, fun _ => rfl, fun h => absurd rfl h, fun _ h => by cases h⟩, hr⟩ hs
    | some a => exact h2 g w (v :: vs) ⟨⟨some a, c, hv, q1, fun b hb => by cases hb; rfl, q3, q4, q5⟩, hr⟩ hs

theorem sl_to {α : Type} {k : Kn α} {o : Option Nat} {nl nl' : Option Bool} {l l' : List α} (h : nl = nl') (h2 : l = l') : (sl k o nl l).le (sl k o nl' l') := by subst h; subst h2; exact Pd.le_refl _
theorem parts_nil {e : Env} : Parts e [] [] := trivial
theorem parts_cons {e : Env} {i : Nat} {x : Operand} {qs : List Pd} {xs : List (Nat × Operand)} {qss : List (Nat × List Pd)} (h : CellsOf (e.ev x) qs) (h2 : Parts e xs qss) : Parts e ((i, x) :: xs) ((i, qs) :: qss) := ⟨rfl, h, h2⟩
theorem cells1 {e : Env} {x : Operand} {p : Pd} (hx : e.ev x = p) (h : p.One) : CellsOf (e.ev x) [p] := by rw [hx]; exact cellsOf_one h
theorem cellsA {e : Env} {x : Operand} {ps : List Pd} (hx : e.ev x = agg ps) : CellsOf (e.ev x) ps := by rw [hx]; exact cellsOf_agg ps
theorem ones_nil : ∀ p ∈ ([] : List Pd), p.One := fun p h => by cases h
theorem ones_cons {p : Pd} {ps : List Pd} (h : p.One) (h2 : ∀ q ∈ ps, q.One) : ∀ q ∈ p :: ps, q.One := fun q hq => by
  rcases List.mem_cons.1 hq with rfl | hq
  · exact h
  · exact h2 q hq
theorem bnd_nil {n m : Nat} : ∀ p ∈ ([] : List Pd), p.Bnd n m := fun p h => by cases h
theorem bnd_cons {p : Pd} {ps : List Pd} {n m : Nat} (h : p.Bnd n m) (h2 : ∀ q ∈ ps, q.Bnd n m) : ∀ q ∈ p :: ps, q.Bnd n m := fun q hq => by
  rcases List.mem_cons.1 hq with rfl | hq
  · exact h
  · exact h2 q hq

section
variable {P : Program} {e : Env} {s : St} {dst : Option Tmp} {ty : TypeId} {pos : String} {after : Array Edge} {guard : Option (Nat × Bool)} {bs bs' : List Bx} {fs fs' : List Fr}

theorem opD_boxA {t : TypeId} {x : Operand} {ps : List Pd} {n : Nat} (hx : e.ev x = agg ps) (hb : ∀ p ∈ ps, p.Bnd (s.boxes.length + n) (s.fr ++ fs).length) (hn : bs.length = n) (h' : bs ++ [⟨t, ps⟩] = bs') (hT : Nat.blt t HOT = true := by rfl) :
    OpD P ⟨dst, .box t x, ty, pos, after, guard⟩ e (s.ext bs fs) (ptr (s.boxes.length + n) 0) (s.ext bs' fs) := by
  subst hn; subst h'
  have := opD_box_agg (hT := hT) (P := P) (dst := dst) (ty := ty) (pos := pos) (after := after) (guard := guard) (s := s.ext bs fs) (t := t) hx (by rw [ext_boxes_length]; exact hb)
  rw [ext_boxes_length] at this
  simpa [St.ext] using this
theorem opD_allocX {t : TypeId} {zs : List Value} {n : Nat} (hz : zeroT P t = some zs) (hn : bs.length = n) (h' : bs ++ [⟨t, zs.map pl⟩] = bs') (hT : Nat.blt t HOT = true := by rfl) :
    OpD P ⟨dst, .alloc t, ty, pos, after, guard⟩ e (s.ext bs fs) (ptr (s.boxes.length + n) 0) (s.ext bs' fs) := by
  subst hn; subst h'
  obtain ⟨z, hz1, hz2⟩ := Option.map_eq_some_iff.1 hz
  have := opD_alloc (hT := hT) (P := P) (e := e) (dst := dst) (ty := ty) (pos := pos) (after := after) (guard := guard) (s := s.ext bs fs) (t := t) hz1
  rw [ext_boxes_length, hz2] at this
  simpa [St.ext] using this

theorem opD_storeO {t : TypeId} {x y : Operand} {i off : Nat} {B : Bx} {p : Pd} {cs' : List Pd} (hn : sizeT P t = some 1) (hx : e.ev x = ptr (s.boxes.length + i) off) (hy : (e.ev y).le p) (h1 : p.One) (hB : bs[i]? = some B) (hl : off < B.cs.length) (hb : p.Bnd (s.boxes ++ bs).length (s.fr ++ fs).length)
    (hc : B.cs.set off p = cs') (h' : bs.set i ⟨B.t, cs'⟩ = bs') (hT : Nat.blt B.t HOT = true := by rfl) : OpD P ⟨dst, .store t x y, ty, pos, after, guard⟩ e (s.ext bs fs) any (s.ext bs' fs) := by
  subst h'; subst hc
  have := opD_store_one (hT := hT) (P := P) (dst := dst) (ty := ty) (pos := pos) (after := after) (guard := guard) (s := s.ext bs fs) hn hx hy h1 (loc_get hB) hl hb
  have he : (s.boxes ++ bs).set (s.boxes.length + i) ⟨B.t, B.cs.set off p⟩ = s.boxes ++ bs.set i ⟨B.t, B.cs.set off p⟩ := by
    rw [List.set_append_right _ _ (by omega), Nat.add_sub_cancel_left]
  simp only [St.ext] at this ⊢
  rw [he] at this
  exact this
theorem opD_storeA {t : TypeId} {n : Nat} {x y : Operand} {i off : Nat} {B : Bx} {ps cs' : List Pd} (hn : sizeT P t = some n) (hx : e.ev x = ptr (s.boxes.length + i) off) (hy : e.ev y = agg ps) (h1 : ∀ p ∈ ps, p.One) (hB : bs[i]? = some B) (hps : ps.length = n) (hl : off + n ≤ B.cs.length) (hne : B.cs ≠ [])
    (hb : ∀ p ∈ ps, p.Bnd (s.boxes ++ bs).length (s.fr ++ fs).length) (hc : B.cs.take off ++ ps ++ B.cs.drop (off + n) = cs') (h' : bs.set i ⟨B.t, cs'⟩ = bs') (hT : Nat.blt B.t HOT = true := by rfl) : OpD P ⟨dst, .store t x y, ty, pos, after, guard⟩ e (s.ext bs fs) any (s.ext bs' fs) := by
  subst h'; subst hc
  have := opD_store_agg (hT := hT) (P := P) (dst := dst) (ty := ty) (pos := pos) (after := after) (guard := guard) (s := s.ext bs fs) hn hx hy h1 (loc_get hB) hps hl hne hb
  have he : ∀ C, (s.boxes ++ bs).set (s.boxes.length + i) C = s.boxes ++ bs.set i C := fun C => by
    rw [List.set_append_right _ _ (by omega), Nat.add_sub_cancel_left]
  simp only [St.ext] at this ⊢
  rw [he] at this
  exact this
/-- A store into an older variable. -/
theorem opD_storeG {t : TypeId} {x y : Operand} {g off : Nat} {B : Bx} {p : Pd} {cs' : List Pd} (hn : sizeT P t = some 1) (hx : e.ev x = ptr g off) (hy : (e.ev y).le p) (h1 : p.One) (hB : s.boxes[g]? = some B) (hl : off < B.cs.length) (hb : p.Bnd (s.boxes ++ bs).length (s.fr ++ fs).length) (hc : B.cs.set off p = cs') (hT : Nat.blt B.t HOT = true := by rfl) :
    OpD P ⟨dst, .store t x y, ty, pos, after, guard⟩ e (s.ext bs fs) any ((s.upd g ⟨B.t, cs'⟩).ext bs fs) := by
  subst hc
  have := opD_store_one (hT := hT) (P := P) (dst := dst) (ty := ty) (pos := pos) (after := after) (guard := guard) (s := s.ext bs fs) hn hx hy h1 (old_get hB) hl hb
  have he : ∀ C, (s.boxes ++ bs).set g C = s.boxes.set g C ++ bs := fun C => by
    rw [List.set_append_left _ _ (List.getElem?_eq_some_iff.1 hB).1]
  simp only [St.ext, St.upd] at this ⊢
  rw [he] at this
  exact this

/-- A function whose result is a row of the caller's own. -/
def Own1 (P : Program) (f : FuncId) (ps : List Pd) {α : Type} (k : Kn α) (te : TypeId) (nl : Option Bool) (l : List α) : Prop :=
  ∀ s, AC P f ps s (sl k (some s.fr.length) nl l) (s.ext [] [⟨te, k.sz, l.length⟩])
theorem opD_own1 {f : FuncId} {xs : List Operand} {ats : Array TypeId} {ps : List Pd} {α : Type} {k : Kn α} {te : TypeId} {nl : Option Bool} {l : List α} {m : Nat} (hf : hasText P f = true) (hc : Own1 P f ps k te nl l) (hx : Args e xs ps) (hm : fs.length = m) (h' : fs ++ [⟨te, k.sz, l.length⟩] = fs') :
    OpD P ⟨dst, .call { callee := .value (.func f), args := xs.toArray, argTypes := ats }, ty, pos, after, guard⟩ e (s.ext bs fs) (sl k (some (s.fr.length + m)) nl l) (s.ext bs fs') := by
  subst hm; subst h'
  have := opD_call (P := P) (dst := dst) (ty := ty) (pos := pos) (after := after) (guard := guard) (ats := ats) hf (hc (s.ext bs fs)) hx
  rw [ext_fr_length, ext_ext, List.append_nil] at this
  exact this
theorem opD_appendX {α : Type} {k : Kn α} {j : Nat} {o2 : Option Nat} {nl nl2 : Option Bool} {l l2 l' : List α} {x y : Operand} {t te : TypeId} {by_ : Nat} (ht : P.underlying t = some (.slice te)) (hel : elT P te = some (k.sz, by_))
    (hx : e.ev x = sl k (some (s.fr.length + j)) nl l) (hy : e.ev y = sl k o2 nl2 l2) (hfr : fs[j]? = some ⟨te, k.sz, l.length⟩) (hb : (l.length + l2.length) * by_ ≤ 140737488355328) (hb2 : l.length + l2.length ≤ 9223372036854775807) (hl : l ++ l2 = l') (h' : fs.set j ⟨te, k.sz, l'.length⟩ = fs') :
    OpD P ⟨dst, .call { callee := .builtin .append, args := #[x, y], argTypes := #[t, t] }, ty, pos, after, guard⟩ e (s.ext bs fs) (sl k (some (s.fr.length + j)) none l') (s.ext bs fs') := by
  subst hl; subst h'
  have := opD_append_own (P := P) (dst := dst) (ty := ty) (pos := pos) (after := after) (guard := guard) (s := s.ext bs fs) ht hel hx hy (loc_fr hfr) hb hb2
  have he : (s.fr ++ fs).set (s.fr.length + j) ⟨te, k.sz, (l ++ l2).length⟩ = s.fr ++ fs.set j ⟨te, k.sz, (l ++ l2).length⟩ := by
    rw [List.set_append_right _ _ (by omega), Nat.add_sub_cancel_left]
  simp only [St.ext] at this ⊢
  rw [he] at this
  exact this
theorem opD_appendN {α : Type} {k : Kn α} {o o2 : Option Nat} {nl2 : Option Bool} {l2 : List α} {x y : Operand} {t te : TypeId} {by_ m : Nat} (ht : P.underlying t = some (.slice te)) (hel : elT P te = some (k.sz, by_))
    (hx : e.ev x = sl k o (some true) ([] : List α)) (hy : e.ev y = sl k o2 nl2 l2) (hb : l2.length * by_ ≤ 140737488355328) (hb2 : l2.length ≤ 9223372036854775807) (hm : fs.length = m) (h' : fs ++ [⟨te, k.sz, l2.length⟩] = fs') :
    OpD P ⟨dst, .call { callee := .builtin .append, args := #[x, y], argTypes := #[t, t] }, ty, pos, after, guard⟩ e (s.ext bs fs) (sl k (some (s.fr.length + m)) none l2) (s.ext bs fs') := by
  subst hm; subst h'
  have := opD_append_nil (P := P) (dst := dst) (ty := ty) (pos := pos) (after := after) (guard := guard) (s := s.ext bs fs) ht hel hx hy hb hb2
  rw [ext_fr_length] at this
  simpa [St.ext] using this
/-- The constant nil as a slice. -/
theorem nil_le {α : Type} (k : Kn α) (o : Option Nat) : (pl (.slice none 0 0)).le (sl k o (some true) ([] : List α)) := fun g w v h => by rw [show v = _ from h]; exact sl_nil k o g w
theorem opD_toNil {α : Type} (k : Kn α) {o : Oper} {s' : St} (h : OpD P o e s (pl (.slice none 0 0)) s') : OpD P o e s (sl k none (some true) ([] : List α)) s' := opD_le h (nil_le k none)

theorem srel_fr {g : G} {s : St} {w : World} (hs : SRel g s w) (F : Fr) : SRel g ⟨s.boxes, s.fr ++ [F], s.stat⟩ w := by
  refine ⟨hs.len, hs.nd, fun i B hB => ?_, fun b id c ho => ?_, hs.sl, hs.st, hs.sb, hs.bz⟩
  · obtain ⟨kk, vs, e1, e2, e2c, e3, e4, e6⟩ := hs.bx i B hB
    exact ⟨kk, vs, e1, e2, e2c, e3, e4, fun p hp => (e6 p hp).up (Nat.le_refl _) (by simp)⟩
  · obtain ⟨f, cs, e1, e2⟩ := hs.ow b id c ho
    exact ⟨f, cs, by rw [List.getElem?_append_left (List.getElem?_eq_some_iff.1 e1).1]; exact e1, e2⟩

theorem aw_fr {nt : Nat} {c : Code} {Q : Exit → Env → St → Prop} (F : Fr) (h : AW P nt c Q e (s.ext bs (fs ++ [F]))) : AW P nt c Q e (s.ext bs fs) := by
  intro m r g a w he hs
  refine h m r g a w he ?_
  have := srel_fr hs F
  simpa [St.ext] using this

theorem opD_fr {o : Oper} {p : Pd} {F : Fr} (h : OpD P o e (s.ext bs fs) p (s.ext bs fs)) (h' : fs ++ [F] = fs') : OpD P o e (s.ext bs fs) p (s.ext bs fs') := by
  subst h'
  intro g a w next Q ha hs hn
  refine h g a w next Q ha hs fun v g' w' hp hx hs' => hn v g' w' hp hx ?_
  have := srel_fr hs' F
  simpa [St.ext] using this

theorem opD_buildSlice {α : Type} {k : Kn α} {t te : TypeId} {n : Nat} {parts : List (Nat × Operand)} {qss : List (Nat × List Pd)} {zs : List Value} (l : List α) (ht : P.underlying t = some (.slice te)) (hsz : sizeT P te = some k.sz) (hz : zeroT P te = some zs) (hn : n * k.sz ≤ 16777216) (hl : l.length = n)
    (hp : Parts e parts qss) (hzl : zs.length = k.sz) (hf : fillP (fun i => some (i * k.sz, k.sz)) ((List.replicate n zs).flatten.map pl) qss = some (flat k l)) :
    OpD P ⟨dst, .buildSlice t n parts.toArray, ty, pos, after, guard⟩ e s (sl k none (some false) l) s := opD_buildSliceO none l ht hsz hz hn hl hp hzl hf
/-- An empty row, to be appended to. -/
theorem opD_buildEmpty {α : Type} {k : Kn α} {t te : TypeId} {zs : List Value} {m : Nat} (ht : P.underlying t = some (.slice te)) (hsz : sizeT P te = some k.sz) (hz : zeroT P te = some zs) (hzl : zs.length = k.sz) (hm : fs.length = m) (h' : fs ++ [⟨te, k.sz, 0⟩] = fs') :
    OpD P ⟨dst, .buildSlice t 0 [].toArray, ty, pos, after, guard⟩ e (s.ext bs fs) (sl k (some (s.fr.length + m)) (some false) ([] : List α)) (s.ext bs fs') := by
  refine opD_fr (F := ⟨te, k.sz, 0⟩) ?_ h'
  exact opD_buildSliceO (parts := []) (qss := []) (some (s.fr.length + m)) [] ht hsz hz (by omega) rfl trivial hzl (by simp [fillP, flat])

theorem cut {g g1 : G} {w w1 : World} {s s1 s2 : St} {n m : Nat} (hs : SRel g s w) (hxt : Ext g w g1 w1) (hs1 : SRel g1 s1 w1) (h2 : s2 = ⟨s1.boxes.take n, s1.fr.take m, s1.stat⟩) (hn1 : s.boxes.length ≤ n) (hm1 : s.fr.length ≤ m) (hn2 : n ≤ s1.boxes.length) (hm2 : m ≤ s1.fr.length)
    (hbb : ∀ (i : Nat) (B : Bx), i < n → s1.boxes[i]? = some B → s.boxes[i]? = some B ∨ ∀ q ∈ B.cs, q.Bnd n m) : ∃ g2, Ext g w g2 w1 ∧ SRel g2 s2 w1 ∧ (∀ (p : Pd) v, p.Bnd n m → p.h g1 w1 v → p.h g2 w1 v) ∧ ∀ k, g2.isB k → g1.isB k := by
  let g2 : G := ⟨g1.sld, g1.box.take n, fun b => match g1.own b with | some (i, c) => if i < m then some (i, c) else none | none => none, g1.base⟩
  have hbx : ∀ i k, i < n → g1.box[i]? = some k → g2.box[i]? = some k := fun i k hi hk => by
    show (g1.box.take n)[i]? = some k
    rw [List.getElem?_take_of_lt hi]; exact hk
  have how : ∀ b id c, id < m → g1.own b = some (id, c) → g2.own b = some (id, c) := fun b id c hi ho => by
    show (match g1.own b with | some (i, c) => if i < m then some (i, c) else none | none => none) = _
    rw [ho]; simp [hi]
  have how2 : ∀ b i, g2.own b = some i → g1.own b = some i ∧ i.1 < m := fun b i hi => by
    have hi' : (match g1.own b with | some (i, c) => if i < m then some (i, c) else none | none => none) = some i := hi
    cases ho : g1.own b with
    | none => rw [ho] at hi'; cases hi'
    | some ic =>
      obtain ⟨id, c⟩ := ic
      rw [ho] at hi'
      simp only at hi'
      split at hi'
      · rename_i hlt; cases hi'; exact ⟨rfl, hlt⟩
      · cases hi'
  have hgl : g.box.length ≤ n := by rw [hs.len]; exact hn1
  have hExt : Ext g w g2 w1 := by
    refine ⟨hxt.os, hxt.tape, hxt.output, hxt.size, hxt.sld, hxt.cell, fun i e he => ?_, fun k hk => ?_, fun b i hi => ?_, fun b i hi => hxt.fresh b i (how2 b i hi).1, hxt.block, hxt.base, hxt.oth⟩
    · obtain ⟨e', h1, h2⟩ := hxt.box i e he
      exact ⟨e', hbx i e' (Nat.lt_of_lt_of_le (List.getElem?_eq_some_iff.1 he).1 hgl) h1, h2⟩
    · obtain ⟨i, e, h1, h2⟩ := hk
      exact hxt.boxf k ⟨i, e, (take_get h1).2, h2⟩
    · obtain ⟨id, c⟩ := i
      obtain ⟨f, cs, hf, _⟩ := hs.ow b id c hi
      exact how b id c (Nat.lt_of_lt_of_le (List.getElem?_eq_some_iff.1 hf).1 hm1) (hxt.own b _ hi)
  have hS : SRel g2 s2 w1 := by
    subst h2
    refine ⟨?_, ?_, fun i B hB => ?_, fun b id c ho => ?_, hs1.sl, ?_, hs1.sb, hs1.bz⟩
    · show (g1.box.take n).length = (s1.boxes.take n).length
      rw [List.length_take, List.length_take, hs1.len]
    · exact fun i j e1 e2 k h1 h2 h3 h4 => hs1.nd i j e1 e2 k (take_get h1).2 (take_get h2).2 h3 h4
    · have hi : i < n := by
        have := (List.getElem?_eq_some_iff.1 hB).1
        simp only [List.length_take] at this
        omega
      rw [List.getElem?_take_of_lt hi] at hB
      obtain ⟨k, cs, e1, e2, e2c, e3, e4, e6⟩ := hs1.bx i B hB
      have hlen1 : (s1.boxes.take n).length = n := by rw [List.length_take]; omega
      have hlen2 : (s1.fr.take m).length = m := by rw [List.length_take]; omega
      have hBn : ∀ q ∈ B.cs, q.Bnd n m := by
        rcases hbb i B hi hB with h0 | h0
        · obtain ⟨_, _, _, _, _, _, _, e7⟩ := hs.bx i B h0
          exact fun q hq => (e7 q hq).up hn1 hm1
        · exact h0
      refine ⟨k, cs, hbx i k hi e1, e2, e2c, PdsP.bnd (g := g1) (g' := g2) ⟨rfl, rfl⟩ hbx how hBn e3, fun q hq => ⟨(e4 q hq).1, ?_, (e4 q hq).2.2⟩, ?_⟩
      · show (match g1.own q with | some (i, c) => if i < m then some (i, c) else none | none => none) = none
        rw [(e4 q hq).2.1]
      · simp only [hlen1, hlen2]; exact hBn
    · obtain ⟨ho1, hlt⟩ := how2 b (id, c) ho
      obtain ⟨f, cs, e1, e2⟩ := hs1.ow b id c ho1
      exact ⟨f, cs, by rw [List.getElem?_take_of_lt hlt]; exact e1, e2⟩
    · show s1.stat.h g2 w1 .nilFunc
      exact hs1.sb g1 g2 w1 _ ⟨rfl, rfl⟩ (fun i k hi => by omega) (fun b id c hi => by omega) hs1.st
  exact ⟨g2, hExt, hS, fun p v hb hp => hb g1 g2 w1 v ⟨rfl, rfl⟩ hbx how hp, fun k ⟨i, e, h1, h2⟩ => ⟨i, e, (take_get h1).2, h2⟩⟩

/-! ### What is left behind -/
theorem take_ext_boxes (s : St) (bs : List Bx) (fs : List Fr) : (s.ext bs fs).boxes.take s.boxes.length = s.boxes := by simp [St.ext]
theorem take_ext_fr (s : St) (bs : List Bx) (fs : List Fr) : (s.ext bs fs).fr.take s.fr.length = s.fr := by simp [St.ext]

theorem done_ext {fn : Func} {p : Pd} {x : Exit} (hx : x = .normal ∨ x = .ret) (hr : Res P fn e (s.ext bs fs) p) (hbn : p.Bnd s.boxes.length s.fr.length) : Done P fn s s.boxes.length s.fr.length p s x e (s.ext bs fs) :=
  done_pure hx hr (take_ext_boxes _ _ _) (take_ext_fr _ _ _) rfl hbn
/-- One row of one's own is handed back. -/
theorem done_own {fn : Func} {α : Type} {k : Kn α} {te : TypeId} {nl : Option Bool} {l : List α} {x : Exit} {F : Fr} (hx : x = .normal ∨ x = .ret) (hr : Res P fn e (s.ext bs (F :: fs)) (sl k (some s.fr.length) nl l)) (hF : F = ⟨te, k.sz, l.length⟩) (hbn : ∀ x ∈ l, ∀ p ∈ k.cs x, p.Bnd s.boxes.length (s.fr.length + 1)) :
    Done P fn s s.boxes.length (s.fr.length + 1) (sl k (some s.fr.length) nl l) (s.ext [] [⟨te, k.sz, l.length⟩]) x e (s.ext bs (F :: fs)) := by
  subst hF
  refine ⟨hx, hr, ?_, Nat.le_refl _, by omega, by simp [St.ext], by simp [St.ext], rfl, sl_own_bnd hbn (by omega), fun i B hi hB => .inl ?_⟩
  · simp [St.ext, List.take_append, List.take_of_length_le]
  · rw [← take_ext_boxes s bs (⟨te, k.sz, l.length⟩ :: fs), List.getElem?_take_of_lt hi]; exact hB
/-- An older variable has other cells. -/
theorem done_upd {fn : Func} {p : Pd} {x : Exit} {g : Nat} {B : Bx} (hx : x = .normal ∨ x = .ret) (hr : Res P fn e ((s.upd g B).ext bs fs) p) (hbn : p.Bnd s.boxes.length s.fr.length) (hB : ∀ q ∈ B.cs, q.Bnd s.boxes.length s.fr.length) :
    Done P fn s s.boxes.length s.fr.length p (s.upd g B) x e ((s.upd g B).ext bs fs) := by
  have hl : (s.upd g B).boxes.length = s.boxes.length := upd_boxes_length _ _ _
  refine ⟨hx, hr, ?_, Nat.le_refl _, Nat.le_refl _, by simp [St.ext, hl], by simp [St.ext, St.upd], rfl, hbn, fun i C hi hC => ?_⟩
  · have h1 := take_ext_boxes (s.upd g B) bs fs
    have h2 := take_ext_fr (s.upd g B) bs fs
    rw [hl] at h1
    rw [h1, show s.fr.length = (s.upd g B).fr.length from rfl, h2]
    rfl
  · have hC' : (s.upd g B).boxes[i]? = some C := by
      have : i < (s.upd g B).boxes.length := by rw [hl]; exact hi
      have h3 : ((s.upd g B).ext bs fs).boxes[i]? = (s.upd g B).boxes[i]? := List.getElem?_append_left this
      rw [← h3]; exact hC
    by_cases hig : i = g
    · subst hig
      have : C = B := by simp [St.upd, hi] at hC'; exact hC'.symm
      subst this
      exact .inr hB
    · left
      have h4 : (s.boxes.set g B)[i]? = some C := hC'
      rwa [List.getElem?_set_ne (Ne.symm hig)] at h4
end
end Go.Proofs.YtokcgacehdgkcaaGreatDoor.Eng

/- The engine, fourteenth part: things behind pointers. -/
namespace Go.Proofs.YtokcgacehdgkcaaGreatDoor.Eng
set_option linter.unusedVariables false
set_option linter.unusedSimpArgs false
open Go.RowKit

theorem upd_self {s : St} {g : Nat} {B : Bx} (h : s.boxes[g]? = some B) : s.upd g B = s := by
  have : s.boxes.set g B = s.boxes := List.ext_getElem? fun j => by
    by_cases hj : j = g
    · subst hj; rw [List.getElem?_set_self (List.getElem?_eq_some_iff.1 h).1, h]
    · rw [List.getElem?_set_ne (Ne.symm hj)]
  cases s; simp only [St.upd] at this ⊢; rw [this]
theorem aw_upd0 {P : Program} {nt : Nat} {c : Code} {Q : Exit → Env → St → Prop} {e : Env} {s : St} {g : Nat} {B : Bx} (hG : s.boxes[g]? = some B) (h : AW P nt c Q e ((s.upd g B).ext [] [])) : AW P nt c Q e (s.ext [] []) := by
  rw [upd_self hG] at h; exact h
theorem updx_get {s : St} {g : Nat} {B : Bx} {bs : List Bx} {fs : List Fr} (hlt : g < s.boxes.length) : ((s.upd g B).ext bs fs).boxes[g]? = some B := by
  refine old_get ?_
  simp [St.upd, hlt]
theorem updx_upd {s : St} {g : Nat} {B C : Bx} {bs : List Bx} {fs : List Fr} (hlt : g < s.boxes.length) : ((s.upd g B).ext bs fs).upd g C = (s.upd g C).ext bs fs := by
  simp only [St.upd, St.ext]
  rw [List.set_append_left _ _ (by simpa using hlt), List.set_set]
theorem ext_upd_loc {s : St} {i : Nat} {C : Bx} {bs : List Bx} {fs : List Fr} : (s.ext bs fs).upd (s.boxes.length + i) C = s.ext (bs.set i C) fs := by
  simp only [St.upd, St.ext]
  rw [List.set_append_right _ _ (by omega), Nat.add_sub_cancel_left]

/-- A world in which one variable has other cells, and new blocks have come: for contracts that were proved otherwise. -/
theorem other_box {g : G} {s : St} {w w' : World} (hs : SRel g s w) {i k : Nat} {ee : BE} {B : Bx} {vs cs : Array Value} {ps : List Pd} (hB : s.boxes[i]? = some B) (hk : g.box[i]? = some ee) (hkb : ee.blk = some k) (hh : w.heap[k]? = some (.cells vs B.t (0, 0))) (hos : w'.os = w.os) (htp : w'.tape = w.tape) (hou : w'.output = w.output) (hsz : w.heap.size ≤ w'.heap.size)
    (hsame : ∀ j, j < w.heap.size → j ≠ k → w'.heap[j]? = w.heap[j]?) (hk' : w'.heap[k]? = some (.cells cs B.t (0, 0))) (hne : B.cs ≠ []) (hp : PdsP g w ps cs.toList) (hb : ∀ p ∈ ps, p.Bnd s.boxes.length s.fr.length) (hT : Nat.blt B.t HOT = true := by rfl) : Ext g w g w' ∧ SRel g (s.upd i ⟨B.t, ps⟩) w' := by
  obtain ⟨e1, vs', h1, h2, h3, h4, h5, h6⟩ := hs.bx i B hB
  rw [hk] at h1; cases h1
  have h0 := (h5 k hkb).1 (.inl hne)
  have hx : Ext g w g w' := by
    refine ⟨hos, htp, hou, hsz, fun _ => Nat.le_refl _, fun b o ho => ?_, fun _ e h => ⟨e, h, Nat.le_refl _, fun _ => rfl⟩, fun _ h => .inl h, fun _ _ h => h, fun _ _ h => .inl h, fun b _ hb hn _ => hsame b hb fun h => hn (h ▸ ⟨i, ee, hk, hkb⟩), rfl, fun b _ h _ hn => (hsame b (Array.getElem?_eq_some_iff.1 h).1 fun e => hn (e ▸ ⟨i, ee, hk, hkb⟩)).trans h⟩
    have hbk : b ≠ k := fun h => by subst h; omega
    exact World.cell?_of_block (w := w) (hsame b (hs.sl b (by omega)) hbk)
  refine ⟨hx, srel_put (B' := ⟨B.t, ps⟩) (e' := ee) hs hB hk hx ⟨rfl, rfl, rfl⟩ (set_self hk).symm hkb h2 (fun h => by rw [show (⟨B.t, ps⟩ : Bx).ver = 0 from ver_plain hT] at h; omega) (.inl hkb) hsame ?_ h0 (hp.mono hx) hb⟩
  rw [obj_cells (B := ⟨B.t, ps⟩) hT]; exact hk'

theorem cellsS {e : Env} {x : Operand} {α : Type} {k : Kn α} {o : Option Nat} {nl : Option Bool} {l : List α} (hx : e.ev x = sl k o nl l) : CellsOf (e.ev x) [sl k none none l] := by
  rw [hx]; exact fun g w v h => cellsOf_one (one_sl _ _ _ _) g w v (sl_any _ _ _ _ g w v h)
section
variable {P : Program} {e : Env} {s : St} {dst : Option Tmp} {ty : TypeId} {pos : String} {after : Array Edge} {guard : Option (Nat × Bool)} {bs bs' : List Bx} {fs fs' : List Fr}

theorem opD_nilp_eqnil {t pt yt : TypeId} {x : Operand} (ht : P.underlying t = some (.pointer pt)) (hx : e.ev x = pl (.pointer none)) : OpD P ⟨dst, .binOp .eql t x (.const (.pointer none)) yt, ty, pos, after, guard⟩ e s (pl (.bool true)) s :=
  opD_bin hx rfl (fun w => by simp [go_sem]) (fun w => by
    have hpt : P.pointee t = pt := by simp [Program.pointee, ht]
    simp [go_sem, ht, hpt])
theorem opD_loadU {t : TypeId} {x : Operand} {g off : Nat} {B : Bx} {p : Pd} (ht : aggT P t = some false) (hx : e.ev x = ptr g off) (hlt : g < s.boxes.length) (hp : B.cs[off]? = some p) (hT : Nat.blt B.t HOT = true := by rfl) :
    OpD P ⟨dst, .load t x, ty, pos, after, guard⟩ e ((s.upd g B).ext bs fs) p ((s.upd g B).ext bs fs) := opD_load_one (hT := hT) ht hx (updx_get hlt) hp
theorem opD_storeU {t : TypeId} {x y : Operand} {g off : Nat} {B B' : Bx} {p : Pd} (hn : sizeT P t = some 1) (hx : e.ev x = ptr g off) (hy : (e.ev y).le p) (h1 : p.One) (hlt : g < s.boxes.length) (hl : off < B.cs.length) (hb : p.Bnd (s.boxes ++ bs).length (s.fr ++ fs).length) (hc : (⟨B.t, B.cs.set off p⟩ : Bx) = B') (hT : Nat.blt B.t HOT = true := by rfl) :
    OpD P ⟨dst, .store t x y, ty, pos, after, guard⟩ e ((s.upd g B).ext bs fs) any ((s.upd g B').ext bs fs) := by
  subst hc
  have := opD_storeG (hT := hT) (P := P) (dst := dst) (ty := ty) (pos := pos) (after := after) (guard := guard) (s := s.upd g B) (bs := bs) (fs := fs) (cs' := B.cs.set off p) (p := p) (B := B) hn hx hy h1 (by simp [St.upd, hlt]) hl (by simpa [St.upd] using hb) rfl
  rw [upd_upd] at this
  exact this
theorem opD_callU {f : FuncId} {xs : List Operand} {ats : Array TypeId} {ps : List Pd} {g : Nat} {B B' : Bx} {p : Pd} (hf : hasText P f = true) (hc : ∀ s, s.boxes[g]? = some B → AC P f ps s p (s.upd g B')) (hlt : g < s.boxes.length) (hx : Args e xs ps) :
    OpD P ⟨dst, .call { callee := .value (.func f), args := xs.toArray, argTypes := ats }, ty, pos, after, guard⟩ e ((s.upd g B).ext bs fs) p ((s.upd g B').ext bs fs) := by
  have := opD_call (P := P) (dst := dst) (ty := ty) (pos := pos) (after := after) (guard := guard) (ats := ats) hf (hc ((s.upd g B).ext bs fs) (updx_get hlt)) hx
  rw [updx_upd hlt] at this
  exact this
/-- The thing is one of this function's own variables. -/
theorem opD_callL {f : FuncId} {xs : List Operand} {ats : Array TypeId} {ps : List Pd} {i : Nat} {B B' : Bx} {p : Pd} (hf : hasText P f = true) (hc : ∀ s g, s.boxes[g]? = some B → AC P f (ptr g 0 :: ps) s p (s.upd g B')) (hB : bs[i]? = some B) (hx : Args e xs (ptr (s.boxes.length + i) 0 :: ps)) (h' : bs.set i B' = bs') :
    OpD P ⟨dst, .call { callee := .value (.func f), args := xs.toArray, argTypes := ats }, ty, pos, after, guard⟩ e (s.ext bs fs) p (s.ext bs' fs) := by
  subst h'
  have := opD_call (P := P) (dst := dst) (ty := ty) (pos := pos) (after := after) (guard := guard) (ats := ats) hf (hc (s.ext bs fs) (s.boxes.length + i) (loc_get hB)) hx
  rw [ext_upd_loc] at this
  exact this
theorem opD_callLx {f : FuncId} {xs : List Operand} {ats : Array TypeId} {ps : List Pd} {i : Nat} {B' : Bx} {p : Pd} (hf : hasText P f = true) (hc : AC P f ps (s.ext bs fs) p ((s.ext bs fs).upd (s.boxes.length + i) B')) (hx : Args e xs ps) (h' : bs.set i B' = bs') :
    OpD P ⟨dst, .call { callee := .value (.func f), args := xs.toArray, argTypes := ats }, ty, pos, after, guard⟩ e (s.ext bs fs) p (s.ext bs' fs) := by
  subst h'
  have := opD_call (P := P) (dst := dst) (ty := ty) (pos := pos) (after := after) (guard := guard) (ats := ats) hf hc hx
  rw [ext_upd_loc] at this
  exact this
section
variable {ops : Array Oper} {KD : List Tr → Env → St → Prop} {l : List Oper} {acc : List Tr}
/-- Loads in a drawn region. -/
theorem dtl1 {t : TypeId} {x : Operand} {i off : Nat} {B : Bx} {p : Pd} (ht : aggT P t = some false) (hx : e.ev x = ptr (s.boxes.length + i) off) (hB : bs[i]? = some B) (hp : B.cs[off]? = some p) (hw : Wants ops ⟨dst, .load t x, ty, pos, after, guard⟩ e true)
    (h : DT P ops KD l (e.put dst p) (s.ext bs fs) (acc ++ [⟨.load, p, s.ext bs fs, fun s' => s'.boxes[s.boxes.length + i]? = some B⟩])) (hT : Nat.blt B.t HOT = true := by rfl) : DT P ops KD (⟨dst, .load t x, ty, pos, after, guard⟩ :: l) e (s.ext bs fs) acc :=
  dtl p (fun s' => s'.boxes[s.boxes.length + i]? = some B) hw (fun s' hs' => opD_load_one (hT := hT) ht hx hs' hp) h
end
theorem at_getD {α : Type} {l : List α} {i : Nat} (d : α) (h : i < l.length) : l[i]? = some (l.getD i d) := by rw [List.getD_eq_getElem?_getD, List.getElem?_eq_getElem h]; rfl
def LeL : List Pd → List Pd → Prop
  | [], [] => True
  | p :: ps, q :: qs => p.le q ∧ LeL ps qs
  | _, _ => False
theorem LeL.pds {g : G} {w : World} : ∀ {ps qs : List Pd} {vs : List Value}, LeL ps qs → Pds g w ps vs → Pds g w qs vs
  | [], [], [], _, h => h
  | _ :: _, _ :: _, _ :: _, ⟨h1, h2⟩, ⟨h3, h4⟩ => ⟨h1 _ _ _ h3, LeL.pds h2 h4⟩
  | [], [], _ :: _, _, h => h.elim
  | _ :: _, _ :: _, [], _, h => h.elim
  | [], _ :: _, _, h, _ => h.elim
  | _ :: _, [], _, h, _ => h.elim
theorem agg_le {ps qs : List Pd} (h : LeL ps qs) : (agg ps).le (agg qs) := fun _ _ _ ⟨cs, hv, hp⟩ => ⟨cs, hv, h.pds hp⟩
theorem tup_le {ps qs : List Pd} (h : LeL ps qs) : (tup ps).le (tup qs) := fun _ _ _ ⟨cs, hv, hp⟩ => ⟨cs, hv, h.pds hp⟩
/-- A function that makes a thing and hands its pointer out. -/
theorem opD_callN {f : FuncId} {xs : List Operand} {ats : Array TypeId} {ps : List Pd} {B : Bx} {n : Nat} (hf : hasText P f = true) (hc : ∀ s, AC P f ps s (ptr s.boxes.length 0) (s.ext [B] [])) (hx : Args e xs ps) (hn : bs.length = n) (h' : bs ++ [B] = bs') :
    OpD P ⟨dst, .call { callee := .value (.func f), args := xs.toArray, argTypes := ats }, ty, pos, after, guard⟩ e (s.ext bs fs) (ptr (s.boxes.length + n) 0) (s.ext bs' fs) := by
  subst hn; subst h'
  have := opD_call (P := P) (dst := dst) (ty := ty) (pos := pos) (after := after) (guard := guard) (ats := ats) hf (hc (s.ext bs fs)) hx
  rw [ext_boxes_length, ext_ext, List.append_nil] at this
  exact this

theorem opD_slice_from {α : Type} {k : Kn α} {o : Option Nat} {nl : Option Bool} {l : List α} {x y : Operand} {t te : TypeId} {kk : IntKind} {n : Int} (i : Nat) (ht : P.underlying t = some (.slice te)) (hsz : sizeT P te = some k.sz)
    (hx : e.ev x = sl k o nl l) (hy : e.ev y = pl (.int kk n)) (hn : n = (i : Int)) (hi : i ≤ l.length) : OpD P ⟨dst, .slice t x (some y) none none, ty, pos, after, guard⟩ e s (sl k none nl (l.drop i)) s := by
  subst hn
  have := opD_slice (P := P) (dst := dst) (ty := ty) (pos := pos) (after := after) (guard := guard) (s := s) (lo := some y) (hi := none) i l.length ht hsz hx ⟨_, hy⟩ rfl hi (Nat.le_refl _)
  rwa [List.take_length] at this
theorem opD_slice_to {α : Type} {k : Kn α} {o : Option Nat} {nl : Option Bool} {l : List α} {x y : Operand} {t te : TypeId} {kk : IntKind} {n : Int} (j : Nat) (ht : P.underlying t = some (.slice te)) (hsz : sizeT P te = some k.sz)
    (hx : e.ev x = sl k o nl l) (hy : e.ev y = pl (.int kk n)) (hn : n = (j : Int)) (hj : j ≤ l.length) : OpD P ⟨dst, .slice t x none (some y) none, ty, pos, after, guard⟩ e s (sl k none nl (l.take j)) s := by
  subst hn
  have := opD_slice (P := P) (dst := dst) (ty := ty) (pos := pos) (after := after) (guard := guard) (s := s) (lo := none) (hi := some y) 0 j ht hsz hx rfl ⟨_, hy⟩ (Nat.zero_le _) hj
  rwa [List.drop_zero] at this

/-- A thing that was made is handed out. -/
theorem done_new {fn : Func} {x : Exit} {B : Bx} (hx : x = .normal ∨ x = .ret) (hr : Res P fn e (s.ext (B :: bs) fs) (ptr s.boxes.length 0)) (hB : ∀ q ∈ B.cs, q.Bnd (s.boxes.length + 1) s.fr.length) :
    Done P fn s (s.boxes.length + 1) s.fr.length (ptr s.boxes.length 0) (s.ext [B] []) x e (s.ext (B :: bs) fs) := by
  refine ⟨hx, hr, ?_, by omega, Nat.le_refl _, by simp [St.ext], by simp [St.ext], rfl, ptr_bnd _ (by omega), fun i C hi hC => ?_⟩
  · simp [St.ext, List.take_append, List.take_of_length_le]
  · by_cases hil : i < s.boxes.length
    · left
      have h1 : (s.ext (B :: bs) fs).boxes[i]? = s.boxes[i]? := List.getElem?_append_left hil
      rw [← h1]; exact hC
    · right
      have : i = s.boxes.length := by omega
      subst this
      have h2 := loc_get (s := s) (bs := B :: bs) (fs := fs) (i := 0) (B := B) rfl
      rw [Nat.add_zero, hC] at h2
      cases h2
      exact hB
/-- A result that lies in a variable of its own. -/
theorem res_c1 {fn : Func} {a t : Tmp} {ty : TypeId} {n : Nat} {b : Nat} {B : Bx} {q : Pd} (h : fn.results = #[.cell a ty, .tmp t]) (hag : aggT P ty = some true) (hsz : sizeT P ty = some n) (ha : e a = ptr b 0) (hB : s.boxes[b]? = some B) (hl : B.cs.length = n) (hq : e t = q) (hT : Nat.blt B.t HOT = true := by rfl) : Res P fn e s (tup [agg B.cs, q]) := by
  intro g ac w hac hs
  have h1 := hac a
  rw [ha] at h1
  obtain ⟨k, vs, hv, h3, h4⟩ : ∃ k vs, ac.tmps.getD a undef = .pointer (some ⟨k, 0, none⟩) ∧ (B.cs ≠ [] → w.heap[k]? = some (.cells vs B.t (0, 0))) ∧ PdsP g w B.cs vs.toList := by
    by_cases hne : B.cs = []
    · obtain ⟨_, k, _, _, hv, _⟩ := h1
      exact ⟨k, #[], hv, fun h => absurd hne h, by rw [hne]; trivial⟩
    · obtain ⟨e0, k, vs, hv, hk, hb, h3, _, h4, _⟩ := ptv_at hs h1 hB (ver_plain hT) hne
      rw [obj_cells hT] at h3
      exact ⟨k, vs, hv, fun _ => h3, h4⟩
  have h4 : Pds g w B.cs (vs.toList.take B.cs.length) := h4
  have hc : ∀ j v, (vs.toList.take B.cs.length)[j]? = some v → w.cell? ((⟨k, 0, none⟩ : Addr).add j) = some v := by
    intro j v hj
    have hne : B.cs ≠ [] := fun h => by rw [h] at hj; simp at hj
    rw [List.getElem?_take_of_lt (by have := (List.getElem?_eq_some_iff.1 hj).1; rw [List.length_take] at this; omega)] at hj
    rw [Addr.add_lit, Nat.zero_add, box_cell (g := g) (h3 hne)]
    simpa using hj
  have hlv := run_loadVar_agg hag hsz (cs := vs.toList.take B.cs.length) (by rw [h4.length, hl]) hc
  have hpt : ac.tmps.getD a undef = .pointer (some ⟨k, 0, none⟩) := hv
  refine ⟨.tuple #[.agg (vs.toList.take B.cs.length).toArray, ac.tmps.getD t undef], ?_, _, rfl, ⟨_, rfl, by simpa using h4⟩, by rw [← hq]; exact hac t, trivial⟩
  rw [Array.getD_eq_getD_getElem?] at hpt
  simp only [results, h]
  simp [hpt, asAddr, hlv]
/-- Nothing was written. -/
theorem done_updS {fn : Func} {p : Pd} {x : Exit} {g : Nat} {B : Bx} (hG : s.boxes[g]? = some B) (hx : x = .normal ∨ x = .ret) (hr : Res P fn e ((s.upd g B).ext bs fs) p) (hbn : p.Bnd s.boxes.length s.fr.length) : Done P fn s s.boxes.length s.fr.length p s x e ((s.upd g B).ext bs fs) := by
  rw [upd_self hG] at hr ⊢
  exact done_ext hx hr hbn
end
end Go.Proofs.YtokcgacehdgkcaaGreatDoor.Eng
