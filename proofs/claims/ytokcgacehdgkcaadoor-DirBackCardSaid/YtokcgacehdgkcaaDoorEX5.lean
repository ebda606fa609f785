/- The engine: the orders of a drawn region, told apart. -/
import Derived.Test.YtokcgacehdgkcaaDoorEngX4
namespace Go.Proofs.YtokcgacehdgkcaaDoor.Eng
open Go Go.RowKit
set_option linter.unusedVariables false
set_option linter.unusedSimpArgs false

/-! ### Two regions alike but for their edges and the order in which they are written -/
/-! ### One more edge -/
/-! ### Two neighbours in the other order -/
/-! ### At the level of a walk -/
end Go.Proofs.YtokcgacehdgkcaaDoor.Eng

/- The engine: rows that are written in place. They lie in a box that has a version. -/
namespace Go.Proofs.YtokcgacehdgkcaaDoor.Eng
open Go.RowKit

def hot (te r : Nat) : TypeId := te + HOT * r
theorem hot_ver {te r : Nat} {cs : List Pd} (h : Nat.blt te HOT = true) : (⟨hot te r, cs⟩ : Bx).ver = r := by
  have h1 : te < HOT := Eq.mp Nat.blt_eq h
  show (te + HOT * r) / HOT = r
  rw [Nat.add_mul_div_left _ _ (by decide), Nat.div_eq_of_lt h1]; omega
theorem hot_mod {te r : Nat} (h : Nat.blt te HOT = true) : hot te r % HOT = te := by
  have h1 : te < HOT := Eq.mp Nat.blt_eq h
  show (te + HOT * r) % HOT = te
  rw [Nat.add_mul_mod_self_left, Nat.mod_eq_of_lt h1]
theorem hot_obj {te r : Nat} {cs : List Pd} (h : Nat.blt te HOT = true) (hr : 2 ≤ r) (vs : Array Value) : (⟨hot te r, cs⟩ : Bx).obj vs = .cells vs te (0, 0) := by
  have h1 : (hot te r) / HOT = r := hot_ver (cs := cs) h
  have h2 := hot_mod (r := r) h
  have h3 : Nat.beq r 1 = false := by
    cases hh : Nat.beq r 1 with
    | false => rfl
    | true => have := Nat.eq_of_beq_eq_true hh; omega
  unfold Bx.obj
  simp only [h1, h2, h3]; rfl

/-- A slice of the cells of a box: the box's version, where it begins, how many, and how many cells an element has. -/
def hsl (b r off n sz : Nat) : Pd := ⟨fun g _ v => ∃ e A c, g.box[b]? = some e ∧ r ≤ e.ver ∧ v = .slice A n c ∧ n ≤ c ∧ (A = none → c = 0) ∧ (e.ver = r → (e.blk = none ∧ c = 0) ∨ ∃ k, e.blk = some k ∧ A = some ⟨k, off, none⟩ ∧ off + c * sz = e.cnt), by
  rintro g w g' w' v hx ⟨e, A, c, h1, h2, h3, h4, h5, h6⟩
  obtain ⟨e', q1, q2, q3⟩ := hx.box b e h1
  refine ⟨e', A, c, q1, Nat.le_trans h2 q2, h3, h4, h5, fun h => ?_⟩
  have : e.ver = e'.ver := by omega
  have q4 := q3 this
  subst q4
  exact h6 h⟩
theorem hsl_bnd {b r off n sz N : Nat} (m : Nat) (h : b < N) : (hsl b r off n sz).Bnd N m := fun _ _ _ _ _ hb _ ⟨e, A, c, h1, h2⟩ => ⟨e, A, c, hb b e h h1, h2⟩
theorem one_hsl (b r off n sz : Nat) : (hsl b r off n sz).One := fun _ _ _ ⟨_, _, _, _, _, hv, _⟩ => by rw [hv]; rfl

section
variable {P : Program} {e : Env} {s : St} {dst : Option Tmp} {ty : TypeId} {pos : String} {after : Array Edge} {guard : Option (Nat × Bool)} {bs bs' : List Bx} {fs fs' : List Fr}

theorem opD_len_h {b r off n sz : Nat} {x : Operand} {t te : TypeId} (ht : P.underlying t = some (.slice te)) (hx : e.ev x = hsl b r off n sz) :
    OpD P ⟨dst, .call { callee := .builtin .len, args := #[x], argTypes := #[t] }, ty, pos, after, guard⟩ e s (pl (.int .i64 (n : Int))) s :=
  opD_look fun g a w ha _ => by
    have h1 := ha x (by simp [Op.operands, Call.operands])
    rw [hx] at h1
    obtain ⟨e0, A, c, _, _, hv, _⟩ := h1
    refine ⟨_, ?_, rfl⟩
    rw [exec_builtin, show #[x].map a.eval = #[a.eval x] from by simp, hv]
    show (Sem.bind (Builtin.len_ #[t] ty #[.slice A n c]) fun v => Sem.pure (Next.value v)).run P w = _
    exact run_v (by simp [Builtin.len_, run_underlying ht]; rfl)
end

section
variable {P : Program} {e : Env} {s : St} {dst : Option Tmp} {ty : TypeId} {pos : String} {after : Array Edge} {guard : Option (Nat × Bool)} {bs bs' : List Bx} {fs fs' : List Fr}
theorem Pds.pre2 {g : G} {w : World} {ps : List Pd} {vs : List Value} (hp : Pds g w ps vs) (r : List Value) : PdsP g w ps (vs ++ r) := by
  unfold PdsP
  rw [List.take_append_of_le_length (by rw [hp.length]; exact Nat.le_refl _), List.take_of_length_le (by rw [hp.length]; exact Nat.le_refl _)]
  exact hp
theorem flatKB {α : Type} {k : Kn α} {l : List α} {n m : Nat} (hkb : ∀ x n m, ∀ p ∈ k.cs x, p.Bnd n m) : ∀ p ∈ flat k l, p.Bnd n m := fun p hp => by
  simp only [flat, List.mem_flatMap] at hp
  obtain ⟨x, _, hx⟩ := hp
  exact hkb x n m p hx
/-- What an append leaves, wherever it leaves it. -/
theorem append_leaves {α : Type} {k : Kn α} {b r te : Nat} {l l' : List α} {g : G} {w w' : World} {ee : BE} {k' c : Nat} {cs : Array Value} (hte : Nat.blt te HOT = true) (hr : 2 ≤ r) (hev : r % 2 = 0) (hs : SRel g s w) (hB : s.boxes[b]? = some ⟨hot te r, flat k l⟩) (hkb : ∀ x n m, ∀ p ∈ k.cs x, p.Bnd n m)
    (he : g.box[b]? = some ee) (hevr : ee.ver = r) (hkk : ee.blk = some k' ∨ w.heap.size ≤ k') (h0 : g.sld k' = 0) (hos : w'.os = w.os) (htp : w'.tape = w.tape) (hou : w'.output = w.output) (hsz : w.heap.size ≤ w'.heap.size) (hsame : ∀ b, b < w.heap.size → b ≠ k' → w'.heap[b]? = w.heap[b]?)
    (hh : w'.heap[k']? = some (.cells cs te (0, 0))) (hc : cs.size = c * k.sz) (hp : PdsP g w (flat k l') cs.toList) (hlc : l'.length ≤ c) :
    ∃ g', (hsl b (r + 2) 0 l'.length k.sz).h g' w' (.slice (some ⟨k', 0, none⟩) l'.length c) ∧ Ext g w g' w' ∧ SRel g' ⟨s.boxes.set b ⟨hot te (r + 2), flat k l'⟩, s.fr, s.stat⟩ w' := by
  let e' : BE := ⟨some k', r + 2, c * k.sz⟩
  let g' : G := ⟨g.sld, g.box.set b e', g.own, g.base⟩
  have hi : b < g.box.length := (List.getElem?_eq_some_iff.1 he).1
  have hx : Ext g w g' w' := ext_put (e' := e') hs he ⟨rfl, rfl, rfl⟩ rfl rfl (by show ee.ver < r + 2; omega) hkk hos htp hou hsz hsame h0
  refine ⟨g', ⟨e', some ⟨k', 0, none⟩, c, List.getElem?_set_self hi, Nat.le_refl _, rfl, hlc, (fun h => by cases h), fun _ => .inr ⟨k', rfl, rfl, by show 0 + c * k.sz = c * k.sz; omega⟩⟩, hx, ?_⟩
  refine srel_put (B' := ⟨hot te (r + 2), flat k l'⟩) (e' := e') hs hB he hx ⟨rfl, rfl, rfl⟩ rfl rfl (hot_ver hte).symm (fun _ => hc) hkk hsame ?_ h0 (hp.mono hx) (flatKB hkb)
  rw [hot_obj hte (by omega)]; exact hh

theorem opD_append_h {α : Type} {k : Kn α} {b r : Nat} {o2 : Option Nat} {nl2 : Option Bool} {l l2 : List α} {x y : Operand} {t te : TypeId} {by_ : Nat} (ht : P.underlying t = some (.slice te)) (hel : elT P te = some (k.sz, by_)) (hte : Nat.blt te HOT = true) (hr : 2 ≤ r) (hev : r % 2 = 0)
    (hx : e.ev x = hsl b r 0 l.length k.sz) (hy : e.ev y = sl k o2 nl2 l2) (hB : s.boxes[b]? = some ⟨hot te r, flat k l⟩) (hkb : ∀ x n m, ∀ p ∈ k.cs x, p.Bnd n m) (hb : (l.length + l2.length) * by_ ≤ 140737488355328) (hb2 : l.length + l2.length ≤ 9223372036854775807) :
    OpD P ⟨dst, .call { callee := .builtin .append, args := #[x, y], argTypes := #[t, t] }, ty, pos, after, guard⟩ e s (hsl b (r + 2) 0 (l ++ l2).length k.sz) ⟨s.boxes.set b ⟨hot te (r + 2), flat k (l ++ l2)⟩, s.fr, s.stat⟩ :=
  opD_value fun g a w ha hs => by
    have h1 := ha x (by simp [Op.operands, Call.operands])
    have h2 := ha y (by simp [Op.operands, Call.operands])
    rw [hx] at h1
    rw [hy] at h2
    obtain ⟨ee, A, c, q1, q2, hv, hlc, hAn, hblk⟩ := h1
    obtain ⟨A2, c2, hv2, hlc2, hA2, hnl2, hc2, _⟩ := h2
    obtain ⟨i, z, hi, hz, hzs, hsz, hby⟩ := elT_spec hel
    obtain ⟨ee', vs, r1, r2, r3, r4, r5, r6⟩ := hs.bx b _ hB
    rw [q1] at r1; cases r1
    have hevr : ee.ver = r := by rw [r2]; exact hot_ver hte
    have hver : (⟨hot te r, flat k l⟩ : Bx).ver = r := hot_ver hte
    replace hblk := hblk hevr
    rw [exec_builtin, show #[x, y].map a.eval = #[a.eval x, a.eval y] from by simp, hv, hv2]
    show ∃ v g' w', (Sem.bind (Builtin.append_ #[t, t] ty #[.slice A l.length c, .slice A2 l2.length c2]) fun v => Sem.pure (Next.value v)).run P w = _ ∧ _
    by_cases hl : l2 = []
    · subst hl
      obtain ⟨g', hg', hxt, hS⟩ := srel_bump (B' := ⟨hot te (r + 2), flat k l⟩) hs hB q1 rfl (fun vs => by rw [hot_obj hte (by omega), hot_obj hte hr]) (by rw [hver, hot_ver hte]; omega) (by rw [hver]; exact hr) (fun _ => .inr ⟨by rw [hver]; exact hr, by rw [hver]; exact hev⟩)
      refine ⟨.slice A l.length c, g', w, run_v ?_, ?_, hxt, by rw [List.append_nil]; exact hS⟩
      · have : (Builtin.firstCells i.size 0 (.slice A2 0 c2)).run P w = .ok #[] w := by
          cases A2 with
          | none => simp [Builtin.firstCells]
          | some a2 => simpa using run_firstCells_some (P := P) w i.size 0 a2 0 c2 [] (by simp) (fun j v h => by simp at h)
        cases A with
        | none => simp [Builtin.append_, run_underlying ht, sizeOf, typeInfo, hi, Builtin.lenOf, this, hlc]
        | some ad => simp [Builtin.append_, run_underlying ht, sizeOf, typeInfo, hi, Builtin.lenOf, this, hlc, storeCells]
      · rw [List.append_nil]
        subst hg'
        refine ⟨⟨ee.blk, (⟨hot te (r + 2), flat k l⟩ : Bx).ver, ee.cnt⟩, A, c, List.getElem?_set_self (List.getElem?_eq_some_iff.1 q1).1, ?_, rfl, hlc, hAn, fun _ => hblk⟩
        rw [hot_ver hte]; exact Nat.le_refl _
    · obtain ⟨b2, off2, rfl, hcells2⟩ := hc2 hl
      obtain ⟨vs2, hvl2, hvc2, hvp2, hv12⟩ := hcells2.vals
      have hpos : 0 < l2.length := List.length_pos_iff.2 hl
      have hle : (l ++ l2).length = l.length + l2.length := List.length_append
      by_cases hroom : l.length + l2.length ≤ c
      · rcases hblk with ⟨_, hc0⟩ | ⟨kk, hk, hA, hcnt⟩
        · omega
        · subst hA
          unfold Cont at r3
          rw [hk, hot_obj hte hr] at r3
          obtain ⟨hh, hcn⟩ := r3
          replace hcn := hcn (by rw [hver]; exact hr)
          have hvs : vs.size = c * k.sz := by omega
          have hmul : l.length * k.sz + l2.length * k.sz ≤ c * k.sz := by rw [← Nat.add_mul]; exact Nat.mul_le_mul_right _ hroom
          have hrun := run_append_room (P := P) w t ty te i ht hi kk l.length c vs hh ⟨b2, off2, none⟩ l2.length c2 vs2 (by rw [hvl2, hsz]) hvc2 hv12 hroom (by rw [hsz, hvl2, hvs]; exact hmul)
          rw [hsz] at hrun
          have h00 : g.sld kk = 0 := (r5 kk hk).1 (.inr ⟨by rw [hver]; exact hr, by rw [hver]; exact hev⟩)
          have hsl1 : vs.toList.length = c * k.sz := by simpa using hvs
          have hfl := flat_length k l
          obtain ⟨g', p1, p2, p3⟩ := append_leaves (l' := l ++ l2) (k' := kk) (c := c) (w' := w.setRow kk (vs.toList.take (l.length * k.sz) ++ vs2 ++ vs.toList.drop (l.length * k.sz + vs2.length)).toArray) hte hr hev hs hB hkb q1 hevr (.inl hk) h00 rfl rfl rfl (by simp [World.setRow]) (fun b _ hb => setRow_other w _ hb)
            (setRow_heap w kk vs _ te (0, 0) hh) (by simp only [List.size_toArray, List.length_append, List.length_take, List.length_drop]; omega) (by
              rw [flat_append]
              show PdsP g w _ (vs.toList.take (l.length * k.sz) ++ vs2 ++ vs.toList.drop (l.length * k.sz + vs2.length))
              have e1 : Pds g w (flat k l) (vs.toList.take (l.length * k.sz)) := by rw [← hfl]; exact r4
              exact (e1.append hvp2).pre2 _) (by rw [hle]; exact hroom)
          rw [hle] at p1
          rw [hle]
          exact ⟨_, g', _, run_v hrun, p1, p2, p3⟩
      · have hlt : c < l.length + l2.length := by omega
        have hbig : Builtin.nextslicecap (l.length + l2.length) c * i.bytes ≤ 281474976710656 := growslice_fits hlt (by rw [hby]; exact hb)
        have hns : g.sld w.heap.size = 0 := hs.sld0
        cases A with
        | none =>
          have hc0 := hAn rfl
          subst hc0
          have hl0 : l = [] := by cases l with
            | nil => rfl
            | cons => simp at hlc
          subst hl0
          have hrun := run_append_nil (P := P) w t ty te i z ht hi hz ⟨b2, off2, none⟩ l2.length c2 vs2 (by rw [hvl2, hsz]) hvc2 hpos (by simp at hb2; omega) (by rw [hby]; simp at hb; omega)
          have hN := new_drew_alloc w (.cells (vs2.toArray ++ Builtin.zeroCells z.cells (grownCap w l2.length 0 te - l2.length)) te)
          have hcap := growCap_le w l2.length 0 te
          obtain ⟨g', p1, p2, p3⟩ := append_leaves (l' := [] ++ l2) (k' := w.heap.size) (c := grownCap w l2.length 0 te) (w' := w.drew.alloc (.cells (vs2.toArray ++ Builtin.zeroCells z.cells (grownCap w l2.length 0 te - l2.length)) te)) hte hr hev hs hB hkb q1 hevr (.inr (Nat.le_refl _)) hns hN.os hN.tape hN.output (by rw [hN.size]; omega) (fun b hb _ => hN.old b hb)
            (alloc_heap_new w.drew _) (by
              simp only [Array.size_append, List.size_toArray, zeroCells_size, hvl2, hzs, hsz, Nat.sub_mul]
              have := Nat.mul_le_mul_right k.sz hcap
              omega) (by
              rw [List.nil_append]
              show PdsP g w _ _
              simp only [Array.toList_append]
              exact hvp2.pre2 _) (by rw [List.nil_append]; exact hcap)
          refine ⟨_, g', _, run_v hrun, ?_, p2, p3⟩
          simpa using p1
        | some ad =>
          obtain ⟨vs1, hvl1, hvc1, hvp1⟩ : ∃ vs1 : List Value, vs1.length = l.length * k.sz ∧ (∀ j v, vs1[j]? = some v → w.cell? (ad.add j) = some v) ∧ Pds g w (flat k l) vs1 := by
            rcases hblk with ⟨_, hc0⟩ | ⟨kk, hk, hA, hcnt⟩
            · have hl0 : l = [] := by cases l with
                | nil => rfl
                | cons => simp at hlc; omega
              subst hl0
              exact ⟨[], by simp, fun j v h => by simp at h, by simp [flat, Pds]⟩
            · cases hA
              unfold Cont at r3
              rw [hk, hot_obj hte hr] at r3
              have e1 : Pds g w (flat k l) (vs.toList.take (flat k l).length) := r4
              refine ⟨vs.toList.take (flat k l).length, by rw [e1.length, flat_length], fun j v hj => ?_, e1⟩
              have hjl := (List.getElem?_eq_some_iff.1 hj).1
              rw [List.length_take] at hjl
              rw [List.getElem?_take_of_lt (by omega)] at hj
              rw [Addr.add_lit, Nat.zero_add, box_cell (g := g) r3.1]
              simpa using hj
          have hrun := run_append_grow (P := P) w t ty te i z ht hi hz ad l.length c vs1 (by rw [hvl1, hsz]) hvc1 ⟨b2, off2, none⟩ l2.length c2 vs2 (by rw [hvl2, hsz]) hvc2 hlt (by omega) hbig
          have hN := new_drew_alloc w (.cells (vs1.toArray ++ vs2.toArray ++ Builtin.zeroCells z.cells (grownCap w (l.length + l2.length) c te - (l.length + l2.length))) te)
          have hcap := growCap_le w (l.length + l2.length) c te
          obtain ⟨g', p1, p2, p3⟩ := append_leaves (l' := l ++ l2) (k' := w.heap.size) (c := grownCap w (l.length + l2.length) c te) (w' := w.drew.alloc (.cells (vs1.toArray ++ vs2.toArray ++ Builtin.zeroCells z.cells (grownCap w (l.length + l2.length) c te - (l.length + l2.length))) te)) hte hr hev hs hB hkb q1 hevr (.inr (Nat.le_refl _)) hns hN.os hN.tape hN.output (by rw [hN.size]; omega) (fun b hb _ => hN.old b hb)
            (alloc_heap_new w.drew _) (by
              simp only [Array.size_append, List.size_toArray, zeroCells_size, hvl1, hvl2, hzs, hsz, Nat.sub_mul]
              have := Nat.mul_le_mul_right k.sz hcap
              rw [Nat.add_mul] at this ⊢
              omega) (by
              rw [flat_append]
              simp only [Array.toList_append]
              exact (hvp1.append hvp2).pre2 _) (by rw [hle]; exact hcap)
          rw [hle] at p1
          rw [hle]
          exact ⟨_, g', _, run_v hrun, p1, p2, p3⟩
end

/-! ### Sealed: from here on nobody writes it -/
def SealOk {α : Type} (k : Kn α) (l : List α) (b r : Nat) (p q : Pd) : Prop :=
  ∀ g w v, (∃ e, g.box[b]? = some e ∧ e.ver = r ∧ (∀ kk, e.blk = some kk → SlCells k l g w kk 0) ∧ (l ≠ [] → e.blk ≠ none)) → p.h g w v → q.h g w v
theorem seal_same {α : Type} {k : Kn α} {l : List α} {b r : Nat} (p : Pd) : SealOk k l b r p p := fun _ _ _ _ h => h
def SealL {α : Type} (k : Kn α) (l : List α) (b r : Nat) : List Pd → List Pd → Prop
  | [], [] => True
  | p :: ps, q :: qs => SealOk k l b r p q ∧ SealL k l b r ps qs
  | _, _ => False
theorem SealL.refl {α : Type} {k : Kn α} {l : List α} {b r : Nat} : ∀ ps : List Pd, SealL k l b r ps ps
  | [] => trivial
  | p :: ps => ⟨seal_same p, SealL.refl ps⟩
theorem SealL.len {α : Type} {k : Kn α} {l : List α} {b r : Nat} : ∀ {ps qs : List Pd}, SealL k l b r ps qs → ps.length = qs.length
  | [], [], _ => rfl
  | _ :: _, _ :: _, h => by simp [SealL.len h.2]
  | [], _ :: _, h => h.elim
  | _ :: _, [], h => h.elim
theorem SealL.pds {α : Type} {k : Kn α} {l : List α} {b r : Nat} {g : G} {w : World} (hs : ∃ e, g.box[b]? = some e ∧ e.ver = r ∧ (∀ kk, e.blk = some kk → SlCells k l g w kk 0) ∧ (l ≠ [] → e.blk ≠ none)) : ∀ {ps qs : List Pd} {vs : List Value}, SealL k l b r ps qs → Pds g w ps vs → Pds g w qs vs
  | [], [], [], _, h => h
  | _ :: _, _ :: _, _ :: _, ⟨h1, h2⟩, ⟨h3, h4⟩ => ⟨h1 _ _ _ hs h3, SealL.pds hs h2 h4⟩
  | [], [], _ :: _, _, h => h.elim
  | _ :: _, _ :: _, [], _, h => h.elim
  | [], _ :: _, _, h, _ => h.elim
  | _ :: _, [], _, h, _ => h.elim
def SealBs {α : Type} (k : Kn α) (l : List α) (b r : Nat) : Nat → List Bx → List Bx → Prop
  | _, [], [] => True
  | 0, B :: bs, C :: cs => C = ⟨B.t + HOT, []⟩ ∧ B.cs = flat k l ∧ SealBs k l b r (bs.length + 1) bs cs
  | n + 1, B :: bs, C :: cs => B.t = C.t ∧ SealL k l b r B.cs C.cs ∧ SealBs k l b r n bs cs
  | _, _, _ => False
theorem SealBs.len {α : Type} {k : Kn α} {l : List α} {b r : Nat} : ∀ {n : Nat} {bs cs : List Bx}, SealBs k l b r n bs cs → bs.length = cs.length
  | _, [], [], _ => rfl
  | 0, _ :: _, _ :: _, h => by simp [SealBs.len h.2.2]
  | _ + 1, _ :: _, _ :: _, h => by simp [SealBs.len h.2.2]
  | _, [], _ :: _, h => by cases ‹Nat› <;> exact h.elim
  | 0, _ :: _, [], h => h.elim
  | _ + 1, _ :: _, [], h => h.elim
theorem SealBs.get {α : Type} {k : Kn α} {l : List α} {b r : Nat} : ∀ {n : Nat} {bs cs : List Bx}, SealBs k l b r n bs cs → ∀ (j : Nat) (C : Bx), cs[j]? = some C → ∃ B, bs[j]? = some B ∧ (j = n ∧ C = ⟨B.t + HOT, []⟩ ∧ B.cs = flat k l ∨ j ≠ n ∧ B.t = C.t ∧ SealL k l b r B.cs C.cs)
  | _, [], [], _, j, C, hC => by simp at hC
  | 0, B :: bs, D :: cs, h, 0, C, hC => by simp at hC; subst hC; exact ⟨B, rfl, .inl ⟨rfl, h.1, h.2.1⟩⟩
  | 0, B :: bs, D :: cs, h, j + 1, C, hC => by
    simp at hC
    obtain ⟨B', h1, h2 | h2⟩ := SealBs.get h.2.2 j C hC
    · have := (List.getElem?_eq_some_iff.1 h1).1; omega
    · exact ⟨B', by simpa using h1, .inr ⟨by omega, h2.2⟩⟩
  | n + 1, B :: bs, D :: cs, h, 0, C, hC => by simp at hC; subst hC; exact ⟨B, rfl, .inr ⟨by omega, h.1, h.2.1⟩⟩
  | n + 1, B :: bs, D :: cs, h, j + 1, C, hC => by
    simp at hC
    obtain ⟨B', h1, h2 | h2⟩ := SealBs.get h.2.2 j C hC
    · exact ⟨B', by simpa using h1, .inl ⟨by omega, h2.2⟩⟩
    · exact ⟨B', by simpa using h1, .inr ⟨by omega, h2.2⟩⟩
  | n, [], _ :: _, h, _, _, _ => by cases n <;> exact h.elim
  | 0, _ :: _, [], h, _, _, _ => h.elim
  | _ + 1, _ :: _, [], h, _, _, _ => h.elim
def SealE {α : Type} (k : Kn α) (l : List α) (b r : Nat) (e : Env) : List (Nat × Pd) → Prop
  | [] => True
  | (t, q) :: r' => SealOk k l b r (e t) q ∧ SealE k l b r e r'
theorem SealE.of {α : Type} {k : Kn α} {l : List α} {b r : Nat} {e : Env} {g : G} {w : World} {tm : Nat → Value} (hs : ∃ e, g.box[b]? = some e ∧ e.ver = r ∧ (∀ kk, e.blk = some kk → SlCells k l g w kk 0) ∧ (l ≠ [] → e.blk ≠ none)) (he : ∀ t, (e t).h g w (tm t)) : ∀ {L : List (Nat × Pd)}, SealE k l b r e L → ∀ t, (Env.of L t).h g w (tm t)
  | [], _, t => by rw [of_nil]; trivial
  | (u, q) :: L, h, t => by
    by_cases htu : t = u
    · subst htu; rw [of_same]; exact h.1 g w _ hs (he t)
    · rw [of_ne _ _ _ _ htu]; exact SealE.of hs he h.2 t

theorem aw_seal {P : Program} {nt : Nat} {c : Code} {Q : Exit → Env → St → Prop} {e : Env} {s : St} {bs bs' : List Bx} {fs : List Fr} {α : Type} {k : Kn α} {l : List α} {N i r te : Nat} (hN : s.boxes.length = N) (L : List (Nat × Pd)) (hi : bs[i]? = some ⟨hot te r, flat k l⟩) (hte : Nat.blt te HOT = true) (hr : 2 ≤ r) (hev : r % 2 = 0) (hz : 0 < k.sz)
    (hbs : SealBs k l (N + i) r i bs bs') (hb : ∀ B ∈ bs', ∀ q ∈ B.cs, q.Bnd (N + bs'.length) (s.fr.length + fs.length)) (hL : SealE k l (N + i) r e L) (h : AW P nt c Q (Env.of L) (s.ext bs' fs)) : AW P nt c Q e (s.ext bs fs) := by
  subst hN
  intro m1 r1 g a w he hs
  have hlen := hbs.len
  obtain ⟨ee, vs, h1, h2, h3, h4, h5, h6⟩ := hs.bx (s.boxes.length + i) _ (loc_get hi)
  rw [hot_ver hte] at h2
  let g1 : G := ⟨fun x => max (g.sld x) (if ee.blk = some x then (flat k l).length else 0), g.box, g.own, g.base⟩
  let g' : G := ⟨g1.sld, g.box.set (s.boxes.length + i) ⟨ee.blk, r + 1, ee.cnt⟩, g.own, g.base⟩
  have hgs : ∀ x, ee.blk ≠ some x → g'.sld x = g.sld x := fun x hx => by
    show max (g.sld x) (if ee.blk = some x then _ else 0) = _
    rw [if_neg hx]; omega
  have hgk : ∀ x, ee.blk = some x → (flat k l).length ≤ g'.sld x := fun x hx => by
    show _ ≤ max (g.sld x) (if ee.blk = some x then _ else 0)
    rw [if_pos hx]; omega
  have hx0 : Ext g w g1 w := ⟨rfl, rfl, rfl, Nat.le_refl _, fun b => Nat.le_max_left _ _, fun _ _ _ => rfl, fun _ e h => ⟨e, h, Nat.le_refl _, fun _ => rfl⟩, fun _ h => .inl h, fun _ _ h => h, fun _ _ h => .inl h, fun _ _ _ _ _ => rfl, rfl, fun _ _ h _ _ => h⟩
  have hil : s.boxes.length + i < g.box.length := (List.getElem?_eq_some_iff.1 h1).1
  have hset : ∀ j f, (g.box.set (s.boxes.length + i) ⟨ee.blk, r + 1, ee.cnt⟩)[j]? = some f → (j = s.boxes.length + i ∧ f = ⟨ee.blk, r + 1, ee.cnt⟩) ∨ (j ≠ s.boxes.length + i ∧ g.box[j]? = some f) := fun j f hf => by
    by_cases hj : j = s.boxes.length + i
    · rw [hj, List.getElem?_set_self hil] at hf; cases hf; exact .inl ⟨hj, rfl⟩
    · rw [List.getElem?_set_ne (Ne.symm hj)] at hf; exact .inr ⟨hj, hf⟩
  have hx1 : Ext g1 w g' w := by
    refine ⟨rfl, rfl, rfl, Nat.le_refl _, fun _ => Nat.le_refl _, fun _ _ _ => rfl, fun j f hf => ?_, fun q hq => ?_, fun _ _ h => h, fun _ _ h => .inl h, fun _ _ _ _ _ => rfl, rfl, fun _ _ h _ _ => h⟩
    · replace hf : g.box[j]? = some f := hf
      by_cases hj : j = s.boxes.length + i
      · subst hj
        rw [h1] at hf; cases hf
        exact ⟨_, List.getElem?_set_self hil, by show ee.ver ≤ r + 1; omega, fun hh => by have : ee.ver = r + 1 := hh; omega⟩
      · exact ⟨f, by show (g.box.set _ _)[j]? = _; rw [List.getElem?_set_ne (Ne.symm hj)]; exact hf, Nat.le_refl _, fun _ => rfl⟩
    · obtain ⟨j, f, hf, hfq⟩ := hq
      rcases hset j f hf with ⟨q1, rfl⟩ | ⟨q1, q2⟩
      · exact .inl ⟨_, ee, h1, hfq⟩
      · exact .inl ⟨j, f, q2, hfq⟩
  have hx := hx0.trans hx1
  have hseal : ∃ e, g1.box[s.boxes.length + i]? = some e ∧ e.ver = r ∧ (∀ kk, e.blk = some kk → SlCells k l g1 w kk 0) ∧ (l ≠ [] → e.blk ≠ none) := by
    refine ⟨ee, h1, h2, fun kk hk => slCells_of_flat fun q p hq => ?_, fun hne hk => ?_⟩
    · obtain ⟨v, q1, q2⟩ := h4.get q p hq
      have hq2 := (List.getElem?_eq_some_iff.1 hq).1
      have := hgk kk hk
      unfold Cont at h3
      rw [hk, hot_obj hte hr] at h3
      refine ⟨by have : g1.sld kk = g'.sld kk := rfl; omega, v, ?_, p.mono hx0 q2⟩
      rw [Nat.zero_add, box_cell (g := g) h3.1]; simpa using q1
    · unfold Cont at h3
      rw [hk] at h3
      have := h4.len
      rw [h3.1] at this
      simp only [flat_length, List.size_toArray, List.length_nil] at this
      have h7 : 0 < l.length := List.length_pos_iff.2 hne
      have := Nat.mul_pos h7 hz
      simp at *
      omega
  have hS : SRel g' (s.ext bs' fs) w := by
    refine ⟨by show (g.box.set _ _).length = _; rw [List.length_set, ext_boxes_length, ← hlen, ← ext_boxes_length s bs fs]; exact hs.len, ?_, fun j C hC => ?_, fun b id c ho => ?_, fun b hn => ?_, s.stat.mono hx hs.st, hs.sb, hs.bz⟩
    · intro a b e1 e2 q q1 q2 q3 q4
      rcases hset a e1 q1 with ⟨q5, rfl⟩ | ⟨q5, q6⟩ <;> rcases hset b e2 q2 with ⟨q7, rfl⟩ | ⟨q7, q8⟩
      · rw [q5, q7]
      · exact absurd (hs.nd _ b ee e2 q h1 q8 q3 q4) (Ne.symm q7)
      · exact absurd (hs.nd _ a ee e1 q h1 q6 q4 q3) (Ne.symm q5)
      · exact hs.nd a b e1 e2 q q6 q8 q3 q4
    · have hother : ∀ (f : BE) q, g.box[j]? = some f → j ≠ s.boxes.length + i → f.blk = some q → g'.sld q = g.sld q := fun f q hf hj hq => hgs q fun hk => hj (hs.nd j _ f ee q hf h1 hq hk)
      by_cases hj : j < s.boxes.length
      · have hC' : (s.ext bs fs).boxes[j]? = some C := by
          simp only [St.ext, List.getElem?_append_left hj] at hC ⊢; exact hC
        obtain ⟨f, us, q1, q2, q3, q4, q5, q6⟩ := hs.bx j C hC'
        exact ⟨f, us, by show (g.box.set _ _)[j]? = _; rw [List.getElem?_set_ne (by omega)]; exact q1, q2, q3, q4.mono hx, fun q hq => by rw [hother f q q1 (by omega) hq]; exact q5 q hq, by rw [ext_boxes_length, ← hlen, ← ext_boxes_length s bs fs]; exact q6⟩
      · simp only [St.ext, List.getElem?_append_right (Nat.le_of_not_lt hj)] at hC
        obtain ⟨B, hB, hd | hd⟩ := hbs.get _ C hC
        · obtain ⟨r1, r2, r3⟩ := hd
          have hji : j = s.boxes.length + i := by omega
          subst hji
          rw [Nat.add_sub_cancel_left] at hB
          rw [hi] at hB; cases hB
          subst r2
          have hv1 : (⟨hot te r + HOT, []⟩ : Bx) = ⟨hot te (r + 1), []⟩ := by unfold hot; rw [Nat.mul_add, Nat.mul_one, Nat.add_assoc]
          rw [show (⟨(⟨hot te r, flat k l⟩ : Bx).t + HOT, []⟩ : Bx) = ⟨hot te (r + 1), []⟩ from hv1]
          refine ⟨_, vs, List.getElem?_set_self hil, (hot_ver hte).symm, ?_, trivial, fun q hq => ⟨fun h0 => ?_, (h5 q hq).2⟩, fun p hp => by cases hp⟩
          · unfold Cont at h3 ⊢
            cases hk : ee.blk with
            | none => rw [hk] at h3; exact h3
            | some kk => rw [hk] at h3; exact ⟨by rw [hot_obj hte (by omega)]; rw [hot_obj hte hr] at h3; exact h3.1, fun _ => h3.2 (by rw [hot_ver hte]; exact hr)⟩
          · rcases h0 with h0 | ⟨_, h0⟩
            · exact absurd rfl h0
            · rw [hot_ver hte] at h0; omega
        · obtain ⟨r1, r2, r3⟩ := hd
          have hB' : (s.ext bs fs).boxes[j]? = some B := by
            simp only [St.ext, List.getElem?_append_right (Nat.le_of_not_lt hj)]; exact hB
          obtain ⟨f, us, q1, q2, q3, q4, q5, q6⟩ := hs.bx j B hB'
          refine ⟨f, us, by show (g.box.set _ _)[j]? = _; rw [List.getElem?_set_ne (by omega)]; exact q1, q2.trans (ver_same r2), q3.same r2, ?_, fun q hq => ?_, ?_⟩
          · show Pds _ _ _ _
            rw [← r3.len]
            exact Pds.mono hx1 (r3.pds hseal (q4.mono hx0))
          · rw [hother f q q1 (by omega) hq]
            refine ⟨fun hn => (q5 q hq).1 (hn.elim (fun h0 => .inl fun h7 => h0 ?_) fun h1 => .inr (by rw [ver_same r2]; exact h1)), (q5 q hq).2⟩
            have := r3.len
            rw [h7] at this
            exact List.length_eq_zero_iff.1 this.symm
          · rw [ext_boxes_length, ext_fr_length]
            exact hb C (List.mem_of_getElem? hC)
    · obtain ⟨f, cs, q1, q2, q3, q4⟩ := hs.ow b id c ho
      refine ⟨f, cs, q1, q2, q3, ?_⟩
      rw [hgs b fun hk => ?_]
      · exact q4
      · have := (h5 b hk).2.1
        rw [show g.own b = some (id, c) from ho] at this; cases this
    · by_cases hk : ee.blk = some b
      · exact h3.lt hk
      · rw [hgs b hk] at hn; exact hs.sl b hn
  refine wpIn_mono (h m1 r1 g' a w ⟨he.size, he.defers.mono hx, fun t => (Env.of L t).mono hx1 (SealE.of hseal (fun t => (e t).mono hx0 (he.tmp t)) hL t)⟩ hS) ?_
  rintro x a1 w1 ⟨e1, s1, g1, hq, hx1, he1, hs1⟩
  exact ⟨e1, s1, g1, hq, hx.trans hx1, he1, hs1⟩
end Go.Proofs.YtokcgacehdgkcaaDoor.Eng

/- The engine: rows in place: more operations. -/
namespace Go.Proofs.YtokcgacehdgkcaaDoor.Eng
open Go.RowKit

theorem flat_drop {α : Type} (k : Kn α) : ∀ (i : Nat) (l : List α), (flat k l).drop (i * k.sz) = flat k (l.drop i)
  | 0, l => by simp
  | i + 1, [] => by simp [flat]
  | i + 1, x :: l => by
    have hx := k.len x
    rw [List.drop_succ_cons, ← flat_drop k i l, Nat.add_mul, Nat.one_mul]
    show (k.cs x ++ flat k l).drop _ = _
    rw [List.drop_append, List.drop_eq_nil_of_le (by omega), List.nil_append, hx, Nat.add_sub_cancel]
theorem flat_take {α : Type} (k : Kn α) : ∀ (i : Nat) (l : List α), (flat k l).take (i * k.sz) = flat k (l.take i)
  | 0, l => by simp [flat]
  | i + 1, [] => by simp [flat]
  | i + 1, x :: l => by
    have hx := k.len x
    rw [List.take_succ_cons, Nat.add_mul, Nat.one_mul]
    show (k.cs x ++ flat k l).take _ = k.cs x ++ flat k (l.take i)
    rw [List.take_append, List.take_of_length_le (by omega), hx, Nat.add_sub_cancel, flat_take k i l]

section
variable {P : Program} {e : Env} {s : St} {N : Nat} {dst : Option Tmp} {ty : TypeId} {pos : String} {after : Array Edge} {guard : Option (Nat × Bool)} {bs bs' : List Bx} {fs fs' : List Fr}

/-- An empty row to be appended to. -/
theorem opD_buildEmptyH {α : Type} {k : Kn α} {t te : TypeId} {zs : List Value} (ht : P.underlying t = some (.slice te)) (hsz : sizeT P te = some k.sz) (hz : zeroT P te = some zs) (hte : Nat.blt te HOT = true) :
    OpD P ⟨dst, .buildSlice t 0 [].toArray, ty, pos, after, guard⟩ e s (hsl s.boxes.length 2 0 ([] : List α).length k.sz) ⟨s.boxes ++ [⟨hot te 2, flat k []⟩], s.fr, s.stat⟩ :=
  opD_value fun g a w ha hs => by
    obtain ⟨z, hz0, hz2⟩ := Option.map_eq_some_iff.1 hz
    have hrun := run_buildSlice (P := P) (t := t) (te := te) (n := 0) (sz := k.sz) (parts := ([] : List (Nat × Operand)).toArray.map fun (i, x) => (i, a.eval x)) (z := z) (cells := #[]) ht hsz (by omega) hz0 (by simp [Instr.fill]) w
    have hv : (⟨hot te 2, flat k []⟩ : Bx).ver = 2 := hot_ver hte
    have hS : SRel (g.addBE ⟨some w.heap.size, 2, 0⟩) ⟨s.boxes ++ [⟨hot te 2, flat k []⟩], s.fr, s.stat⟩ (w.alloc (.cells #[] te)) := by
      have h0 := srel_addBE hs (B := ⟨hot te 2, flat k []⟩) (cs := #[]) (e := ⟨some w.heap.size, 2, 0⟩) rfl hv.symm (fun _ => rfl) (by simp [flat, PdsP, Pds]) (by simp [flat])
      rw [hot_obj hte (Nat.le_refl 2)] at h0
      exact h0
    have hP : (hsl s.boxes.length 2 0 ([] : List α).length k.sz).h (g.addBE ⟨some w.heap.size, 2, 0⟩) (w.alloc (.cells #[] te)) (.slice (some ⟨w.heap.size, 0, none⟩) 0 0) := by
      have hget : (g.addBE ⟨some w.heap.size, 2, 0⟩).box[s.boxes.length]? = some ⟨some w.heap.size, 2, 0⟩ := by
        show (g.box ++ [_])[s.boxes.length]? = _
        rw [← hs.len]; simp
      exact ⟨_, some ⟨w.heap.size, 0, none⟩, 0, hget, Nat.le_refl 2, rfl, Nat.zero_le _, (fun h => by cases h), fun _ => Or.inr ⟨w.heap.size, rfl, rfl, by rw [Nat.zero_mul]⟩⟩
    have hR : (execOp a.eval ⟨dst, .buildSlice t 0 [].toArray, ty, pos, after, guard⟩).run P w = .ok (.value (.slice (some ⟨w.heap.size, 0, none⟩) 0 0)) (w.alloc (.cells #[] te)) := by
      show (Sem.bind (Instr.buildSlice t 0 (([] : List (Nat × Operand)).toArray.map fun (i, x) => (i, a.eval x))) fun v => Sem.pure (Next.value v)).run P w = _
      exact run_v hrun
    exact ⟨_, _, _, hR, hP, ext_addBE hs _ _ rfl, hS⟩

/-- 'nil', to be appended to. -/
theorem hotnil {α : Type} (k : Kn α) {r te : Nat} {g : G} {w : World} (hte : Nat.blt te HOT = true) (hs : SRel g s w) :
    ∃ g', (∀ v, v = .slice none 0 0 → (hsl s.boxes.length r 0 ([] : List α).length k.sz).h g' w v) ∧ Ext g w g' w ∧ SRel g' ⟨s.boxes ++ [⟨hot te r, flat k []⟩], s.fr, s.stat⟩ w := by
  have hv : (⟨hot te r, flat k []⟩ : Bx).ver = r := hot_ver hte
  let e0 : BE := ⟨none, r, 0⟩
  have hlen : g.box.length = s.boxes.length := hs.len
  have hx : Ext g w (g.addBE e0) w := by
    refine ⟨rfl, rfl, rfl, Nat.le_refl _, fun _ => Nat.le_refl _, fun _ _ _ => rfl, fun i e1 h1 => ⟨e1, addBE_old h1, Nat.le_refl _, fun _ => rfl⟩, fun k hk => ?_, fun _ _ h => h, fun _ _ h => .inl h, fun _ _ _ _ _ => rfl, rfl, fun _ _ h _ _ => h⟩
    rcases addBE_isB hk with h1 | h1
    · exact .inl h1
    · cases h1
  have hget : (g.addBE e0).box[s.boxes.length]? = some e0 := by
    show (g.box ++ [e0])[_]? = _
    rw [← hlen]; simp
  refine ⟨g.addBE e0, fun v hv => ⟨e0, none, 0, hget, Nat.le_refl _, hv, Nat.le_refl _, fun _ => rfl, fun _ => .inl ⟨rfl, rfl⟩⟩, hx, ?_⟩
  refine ⟨by show (g.box ++ [e0]).length = _; rw [List.length_append, hlen]; simp, ?_, fun i C hC => ?_, hs.ow, hs.sl, s.stat.mono hx hs.st, hs.sb, hs.bz⟩
  · intro i j e1 e2 q h1 h2 h3 h4
    rcases addBE_get h1 with q1 | ⟨q1, rfl⟩ <;> rcases addBE_get h2 with q2 | ⟨q2, rfl⟩
    · exact hs.nd i j e1 e2 q q1 q2 h3 h4
    · cases h4
    · cases h3
    · rw [q1, q2]
  · by_cases hi : i < s.boxes.length
    · rw [List.getElem?_append_left hi] at hC
      obtain ⟨e1, vs, h1, h2, h3, h4, h5, h6⟩ := hs.bx i C hC
      exact ⟨e1, vs, addBE_old h1, h2, h3, h4.mono hx, h5, fun p hp => (h6 p hp).up (by simp) (Nat.le_refl _)⟩
    · have hie : i = s.boxes.length := by
        have := (List.getElem?_eq_some_iff.1 hC).1
        simp at this; omega
      subst hie
      simp at hC
      subst hC
      exact ⟨e0, #[], hget, hv.symm, ⟨rfl, rfl⟩, by simp [flat, PdsP, Pds], (fun q hq => by cases hq), by simp [flat]⟩
theorem nilHN (hN : s.boxes.length = N) {α : Type} (k : Kn α) {n r te : Nat} {x : Operand} (hn : bs.length = n) (hte : Nat.blt te HOT = true) (hx : e.ev x = pl (.slice none 0 0)) (h' : bs ++ [⟨hot te r, flat k []⟩] = bs') :
    OpD P ⟨dst, .assign x, ty, pos, after, guard⟩ e (s.ext bs fs) (hsl (N + n) r 0 ([] : List α).length k.sz) (s.ext bs' fs) := by
  subst hN; subst hn; subst h'
  refine opD_value fun g a w ha hs => ?_
  have h1 := ha x (by simp [Op.operands])
  rw [hx] at h1
  obtain ⟨g', q1, q2, q3⟩ := hotnil k (r := r) (te := te) hte hs
  refine ⟨a.eval x, g', w, rfl, ?_, q2, ?_⟩
  · have := q1 _ h1
    rwa [ext_boxes_length] at this
  · simpa [St.ext] using q3

/-- A function that makes a thing. -/
theorem callNP (hN : s.boxes.length = N) {f : FuncId} {xs : List Operand} {ats : Array TypeId} {ps : List Pd} {B : Bx} {p : Nat → Pd} {n : Nat} (hf : hasText P f = true) (hc : ∀ s, AC P f ps s (p s.boxes.length) (s.ext [B] [])) (hx : Args e xs ps) (hn : bs.length = n) (h' : bs ++ [B] = bs') :
    OpD P ⟨dst, .call { callee := .value (.func f), args := xs.toArray, argTypes := ats }, ty, pos, after, guard⟩ e (s.ext bs fs) (p (N + n)) (s.ext bs' fs) := by
  subst hN; subst hn; subst h'
  have := opD_call (P := P) (dst := dst) (ty := ty) (pos := pos) (after := after) (guard := guard) (ats := ats) hf (hc (s.ext bs fs)) hx
  rw [ext_boxes_length, ext_ext, List.append_nil] at this
  exact this
theorem done_newP {fn : Func} {x : Exit} {B : Bx} {p : Pd} (hx : x = .normal ∨ x = .ret) (hr : Res P fn e (s.ext (B :: bs) fs) p) (hp : p.Bnd (s.boxes.length + 1) s.fr.length) (hB : ∀ q ∈ B.cs, q.Bnd (s.boxes.length + 1) s.fr.length) :
    Done P fn s (s.boxes.length + 1) s.fr.length p (s.ext [B] []) x e (s.ext (B :: bs) fs) := by
  refine ⟨hx, hr, ?_, by omega, Nat.le_refl _, by simp [St.ext], by simp [St.ext], rfl, hp, fun i C hi hC => ?_⟩
  · simp [St.ext, List.take_append, List.take_of_length_le]
  · by_cases hil : i < s.boxes.length
    · left
      have h1 : (s.ext (B :: bs) fs).boxes[i]? = s.boxes[i]? := List.getElem?_append_left hil
      rw [← h1]; exact hC
    · right
      have : i = s.boxes.length := by omega
      subst this
      have h2 := loc_get (s := s) (bs := B :: bs) (fs := fs) (i := 0) (B := B) rfl
      rw [Nat.add_zero, hC] at h2
      cases h2
      exact hB
theorem ones_flat {α : Type} {k : Kn α} {l : List α} : ∀ p ∈ flat k l, p.One := fun p hp => by
  simp only [flat, List.mem_flatMap] at hp
  obtain ⟨x, _, hx⟩ := hp
  exact k.one x p hx
theorem buildEmptyHN (hN : s.boxes.length = N) {α : Type} {k : Kn α} {t te : TypeId} {zs : List Value} {n : Nat} (ht : P.underlying t = some (.slice te)) (hsz : sizeT P te = some k.sz) (hz : zeroT P te = some zs) (hte : Nat.blt te HOT = true) (hn : bs.length = n) (h' : bs ++ [⟨hot te 2, flat k []⟩] = bs') :
    OpD P ⟨dst, .buildSlice t 0 [].toArray, ty, pos, after, guard⟩ e (s.ext bs fs) (hsl (N + n) 2 0 ([] : List α).length k.sz) (s.ext bs' fs) := by
  subst hN; subst hn; subst h'
  have := opD_buildEmptyH (P := P) (e := e) (s := s.ext bs fs) (k := k) (dst := dst) (ty := ty) (pos := pos) (after := after) (guard := guard) ht hsz hz hte
  rw [ext_boxes_length] at this
  simpa [St.ext] using this
theorem appendHN (hN : s.boxes.length = N) {α : Type} {k : Kn α} {i r : Nat} {o2 : Option Nat} {nl2 : Option Bool} {l l2 : List α} {x y : Operand} {t te : TypeId} {by_ : Nat} (ht : P.underlying t = some (.slice te)) (hel : elT P te = some (k.sz, by_)) (hte : Nat.blt te HOT = true) (hr : 2 ≤ r) (hev : r % 2 = 0)
    (hx : e.ev x = hsl (N + i) r 0 l.length k.sz) (hy : e.ev y = sl k o2 nl2 l2) (hB : bs[i]? = some ⟨hot te r, flat k l⟩) (hkb : KB k) (hb : (l.length + l2.length) * by_ ≤ 140737488355328) (hb2 : l.length + l2.length ≤ 9223372036854775807) (h' : bs.set i ⟨hot te (r + 2), flat k (l ++ l2)⟩ = bs') :
    OpD P ⟨dst, .call { callee := .builtin .append, args := #[x, y], argTypes := #[t, t] }, ty, pos, after, guard⟩ e (s.ext bs fs) (hsl (N + i) (r + 2) 0 (l ++ l2).length k.sz) (s.ext bs' fs) := by
  subst hN; subst h'
  have := opD_append_h (P := P) (dst := dst) (ty := ty) (pos := pos) (after := after) (guard := guard) (s := s.ext bs fs) ht hel hte hr hev hx hy (loc_get hB) hkb hb hb2
  have he : (s.boxes ++ bs).set (s.boxes.length + i) ⟨hot te (r + 2), flat k (l ++ l2)⟩ = s.boxes ++ bs.set i ⟨hot te (r + 2), flat k (l ++ l2)⟩ := by
    rw [List.set_append_right _ _ (by omega), Nat.add_sub_cancel_left]
  simp only [St.ext] at this ⊢
  rw [he] at this
  exact this

/-! ### Slices of a row in place -/
/-! ### A row of the caller's -/
theorem callNH {N : Nat} (hN : s.boxes.length = N) {f : FuncId} {xs : List Operand} {ats : Array TypeId} {ps : List Pd} {B : Bx} {r n sz m : Nat} (hf : hasText P f = true) (hc : ∀ s, AC P f ps s (hsl s.boxes.length r 0 n sz) (s.ext [B] [])) (hx : Args e xs ps) (hn : bs.length = m) (h' : bs ++ [B] = bs') :
    OpD P ⟨dst, .call { callee := .value (.func f), args := xs.toArray, argTypes := ats }, ty, pos, after, guard⟩ e (s.ext bs fs) (hsl (N + m) r 0 n sz) (s.ext bs' fs) :=
  callNP (p := fun b => hsl b r 0 n sz) hN hf hc hx hn h'
theorem seal_e {α : Type} {k : Kn α} {l : List α} {b r t : Nat} {p q : Pd} (h : Env.ev e (.tmp t) = p) (h2 : SealOk k l b r p q) : SealOk k l b r (e t) q := by
  have h : e t = p := h
  rw [h]; exact h2
end
end Go.Proofs.YtokcgacehdgkcaaDoor.Eng

/- The engine: arrays. -/
namespace Go.Proofs.YtokcgacehdgkcaaDoor.Eng
open Go.RowKit Go.ChangeShapes Go.WideShapes

theorem flat_at {α : Type} {k : Kn α} (h : k.sz = 1) {l : List α} {i : Nat} {x : α} {p : Pd} (hx : l[i]? = some x) (hp : k.cs x = [p]) : (flat k l)[i * 1]? = some p := by
  have := flat_get k l i 0 (by omega)
  rw [h, Nat.add_zero, hx] at this
  rw [this]
  simp [hp]
theorem flat_at0 {α : Type} {k : Kn α} (h : k.sz = 1) {l : List α} {i : Nat} {x : α} {p : Pd} (hx : l[i]? = some x) (hp : k.cs x = [p]) : (flat k l)[0 + i * 1]? = some p := by
  rw [Nat.zero_add]; exact flat_at h hx hp
theorem flat_set {α : Type} {k : Kn α} (h : k.sz = 1) {x : α} {p : Pd} (hp : k.cs x = [p]) : ∀ (l : List α) (i : Nat), (flat k l).set i p = flat k (l.set i x)
  | [], i => by simp [flat]
  | a :: l, 0 => by
    have ha := k.len a
    rw [h] at ha
    obtain ⟨q, hq⟩ := List.length_eq_one_iff.1 ha
    simp [flat, hq, hp]
  | a :: l, i + 1 => by
    have ha := k.len a
    rw [h] at ha
    obtain ⟨q, hq⟩ := List.length_eq_one_iff.1 ha
    have := flat_set h hp l i
    simp only [flat] at this ⊢
    simp [hq, this]
theorem flat_len1 {α : Type} {k : Kn α} (h : k.sz = 1) {l : List α} {n : Nat} (hl : l.length = n) : (flat k l).length = n := by rw [flat_length, h, Nat.mul_one, hl]
theorem flat_rep {α : Type} {k : Kn α} {x : α} {p : Pd} (hp : k.cs x = [p]) : ∀ n, flat k (List.replicate n x) = List.replicate n p
  | 0 => rfl
  | n + 1 => by rw [List.replicate_succ, List.replicate_succ, ← flat_rep hp n]; simp [flat, hp]

section
variable {P : Program} {e : Env} {s : St} {N : Nat} {dst : Option Tmp} {ty : TypeId} {pos : String} {after : Array Edge} {guard : Option (Nat × Bool)} {bs bs' : List Bx} {fs fs' : List Fr}
theorem allocFN (hN : s.boxes.length = N) {α : Type} {k : Kn α} {x0 : α} {t : TypeId} {z : Value} {n m : Nat} (hz : zeroT P t = some (List.replicate m z)) (hk : k.cs x0 = [pl z]) (hn : bs.length = n) (h' : bs ++ [⟨t, flat k (List.replicate m x0)⟩] = bs') (hT : Nat.blt t HOT = true := by rfl) :
    OpD P ⟨dst, .alloc t, ty, pos, after, guard⟩ e (s.ext bs fs) (ptr (N + n) 0) (s.ext bs' fs) := by
  subst h'
  exact allocN (hT := hT) hN hz hn (by rw [flat_rep hk]; simp)
theorem boxFN (hN : s.boxes.length = N) {α : Type} {k : Kn α} {l : List α} {t : TypeId} {x : Operand} {ps : List Pd} {n : Nat} (hx : e.ev x = agg ps) (hps : ps = flat k l) (hkb : KB k) (hn : bs.length = n) (h' : bs ++ [⟨t, flat k l⟩] = bs') (hT : Nat.blt t HOT = true := by rfl) :
    OpD P ⟨dst, .box t x, ty, pos, after, guard⟩ e (s.ext bs fs) (ptr (N + n) 0) (s.ext bs' fs) := by
  subst hps
  exact boxAN (hT := hT) hN hx (flatKB hkb) hn h'
theorem storeFN (hN : s.boxes.length = N) {α : Type} {k : Kn α} {l : List α} {t bt : TypeId} {x y : Operand} {b i : Nat} {z : α} {p : Pd} (hn : sizeT P t = some 1) (hx : e.ev x = ptr (N + b) (0 + i * 1)) (hy : (e.ev y).le p) (h1 : p.One) (hk1 : k.sz = 1) (hB : bs[b]? = some ⟨bt, flat k l⟩) (hi : i < l.length) (hk : k.cs z = [p]) (hkb : KB k)
    (h' : bs.set b ⟨bt, flat k (l.set i z)⟩ = bs') (hT : Nat.blt bt HOT = true := by rfl) : OpD P ⟨dst, .store t x y, ty, pos, after, guard⟩ e (s.ext bs fs) any (s.ext bs' fs) :=
  storeON (hT := hT) hN hn hx hy h1 hB (by show 0 + i * 1 < (flat k l).length; rw [flat_length, hk1]; omega) (hkb z _ _ p (by rw [hk]; simp)) (by show (flat k l).set (0 + i * 1) p = _; rw [Nat.zero_add, Nat.mul_one]; exact flat_set hk1 hk l i) h'
theorem loadFN {α : Type} {k : Kn α} {l : List α} {t bt : TypeId} {x : Operand} {b n : Nat} (ht : aggT P t = some true) (hn : sizeT P t = some n) (hx : e.ev x = ptr b 0) (hB : s.boxes[b]? = some ⟨bt, flat k l⟩) (hk1 : k.sz = 1) (hl : l.length = n) (hT : Nat.blt bt HOT = true := by rfl) :
    OpD P ⟨dst, .load t x, ty, pos, after, guard⟩ e s (agg (flat k l)) s :=
  opD_load_aggX (hT := hT) ht hn hx hB (by show 0 + n ≤ (flat k l).length; rw [flat_len1 hk1 hl]; omega) (by show ((flat k l).drop 0).take n = _; rw [List.drop_zero, List.take_of_length_le]; rw [flat_len1 hk1 hl]; exact Nat.le_refl _)
theorem nat_lt {n m : Nat} (h : Below ((n : Nat) : Int) m) : n < m := by have := h.2; simpa using this
theorem storeWF (hN : s.boxes.length = N) {α : Type} {k : Kn α} {l l2 : List α} {t bt : TypeId} {x y : Operand} {b n : Nat} (hn : sizeT P t = some n) (hx : e.ev x = ptr (N + b) 0) (hy : e.ev y = agg (flat k l2)) (hk1 : k.sz = 1) (hB : bs[b]? = some ⟨bt, flat k l⟩) (h0 : l.length = n) (h2 : l2.length = n) (hpos : 0 < n) (hkb : KB k)
    (h' : bs.set b ⟨bt, flat k l2⟩ = bs') (hT : Nat.blt bt HOT = true := by rfl) : OpD P ⟨dst, .store t x y, ty, pos, after, guard⟩ e (s.ext bs fs) any (s.ext bs' fs) :=
  storeAN (hT := hT) hN hn hx hy ones_flat hB (flat_len1 hk1 h2) (by show 0 + n ≤ (flat k l).length; rw [flat_len1 hk1 h0]; omega) (by show flat k l ≠ []; intro h; have := flat_len1 hk1 h0; rw [h] at this; simp at this; omega) (flatKB hkb)
    (by show (flat k l).take 0 ++ flat k l2 ++ (flat k l).drop (0 + n) = flat k l2; rw [List.take_zero, List.nil_append, List.drop_eq_nil_of_le (by rw [flat_len1 hk1 h0]; omega), List.append_nil]) h'
theorem nat_ix {α : Type} {l : List α} {n : Nat} {x : α} (h : l[((n : Nat) : Int).toNat]? = some x) : l[n]? = some x := by simpa using h
end

/-! ### An array as an argument -/
end Go.Proofs.YtokcgacehdgkcaaDoor.Eng
