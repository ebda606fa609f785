/- The engine, thirteenth part: states by what has come to them. -/
import Derived.Test.YtmnhfpcbfdgbcaaDoorEngL
namespace Go.Proofs.YtmnhfpcbfdgbcaaDoor.Eng
set_option linter.unusedVariables false
set_option linter.unusedSimpArgs false
open Go.RowKit

def St.ext (s : St) (bs : List Bx) (fs : List Fr) : St := ⟨s.boxes ++ bs, s.fr ++ fs, s.stat⟩
theorem ext_nil (s : St) : s.ext [] [] = s := by cases s; simp [St.ext]
theorem ext_ext (s : St) (bs bs2 : List Bx) (fs fs2 : List Fr) : (s.ext bs fs).ext bs2 fs2 = s.ext (bs ++ bs2) (fs ++ fs2) := by simp [St.ext]
theorem ext_boxes_length (s : St) (bs : List Bx) (fs : List Fr) : (s.ext bs fs).boxes.length = s.boxes.length + bs.length := by simp [St.ext]
theorem ext_fr_length (s : St) (bs : List Bx) (fs : List Fr) : (s.ext bs fs).fr.length = s.fr.length + fs.length := by simp [St.ext]
theorem loc_get {s : St} {bs : List Bx} {fs : List Fr} {i : Nat} {B : Bx} (h : bs[i]? = some B) : (s.ext bs fs).boxes[s.boxes.length + i]? = some B := by
  show (s.boxes ++ bs)[s.boxes.length + i]? = _
  rw [List.getElem?_append_right (by omega), Nat.add_sub_cancel_left]; exact h
theorem old_get {s : St} {bs : List Bx} {fs : List Fr} {g : Nat} {B : Bx} (h : s.boxes[g]? = some B) : (s.ext bs fs).boxes[g]? = some B := by
  show (s.boxes ++ bs)[g]? = _
  rw [List.getElem?_append_left (List.getElem?_eq_some_iff.1 h).1]; exact h
theorem loc_fr {s : St} {bs : List Bx} {fs : List Fr} {i : Nat} {f : Fr} (h : fs[i]? = some f) : (s.ext bs fs).fr[s.fr.length + i]? = some f := by
  show (s.fr ++ fs)[s.fr.length + i]? = _
  rw [List.getElem?_append_right (by omega), Nat.add_sub_cancel_left]; exact h

/-- An older variable with other cells. -/
def St.upd (s : St) (g : Nat) (B : Bx) : St := ⟨s.boxes.set g B, s.fr, s.stat⟩
theorem upd_boxes_length (s : St) (g : Nat) (B : Bx) : (s.upd g B).boxes.length = s.boxes.length := by simp [St.upd]
theorem upd_fr_length (s : St) (g : Nat) (B : Bx) : (s.upd g B).fr.length = s.fr.length := rfl
theorem upd_upd (s : St) (g : Nat) (B C : Bx) : (s.upd g B).upd g C = s.upd g C := by simp [St.upd]
theorem upd_get {s : St} {g : Nat} {B C : Bx} (h : s.boxes[g]? = some C) : (s.upd g B).boxes[g]? = some B := by
  simp [St.upd, (List.getElem?_eq_some_iff.1 h).1]

theorem aw_ext0 {P : Program} {nt : Nat} {c : Code} {Q : Exit → Env → St → Prop} {e : Env} {s : St} (h : AW P nt c Q e (s.ext [] [])) : AW P nt c Q e s := by
  rw [ext_nil] at h; exact h

theorem le_own {α : Type} {k : Kn α} {o : Option Nat} {nl : Option Bool} {l : List α} {p : Pd} (h : p = sl k o nl l) : p.le (sl k none nl l) := h ▸ sl_le k o nl l

theorem le_sl {α : Type} {k : Kn α} {o : Option Nat} {nl : Option Bool} {l : List α} {p : Pd} (h : p = sl k o nl l) : p.le (sl k none none l) := h ▸ sl_any k o nl l
theorem le_nil {α : Type} {k : Kn α} {p : Pd} (h : p = pl (.slice none 0 0)) : p.le (sl k none none ([] : List α)) := fun g w v hp => by
  rw [h] at hp
  rw [show v = _ from hp]
  exact sl_any k none (some true) [] g w _ (sl_nil k none g w)
/-- Nil, or not: apart. -/
theorem ac_nl {P : Program} {f : FuncId} {α : Type} {k : Kn α} {l : List α} {ps : List Pd} {s s' : St} {p : Pd} (h1 : l = [] → AC P f (sl k none (some true) ([] : List α) :: ps) s p s') (h2 : AC P f (sl k none (some false) l :: ps) s p s') : AC P f (sl k none none l :: ps) s p s' := by
  intro g w vs hps hs
  cases vs with
  | nil => exact hps.elim
  | cons v vs =>
    obtain ⟨⟨A, c, hv, q1, q2, q3, q4, q5⟩, hr⟩ := hps
    cases A with
    | none =>
      have hc := q3 rfl
      subst hc
      have hl : l = [] := by cases l with
        | nil => rfl
        | cons => simp at q1
      subst hl
      exact h1 rfl g w (v :: vs) ⟨⟨none, 0, hv, q1, fun b hb => by cases hb; rfl, fun _ => rfl, fun h => absurd rfl h, fun _ h => by cases h⟩, hr⟩ hs
    | some a => exact h2 g w (v :: vs) ⟨⟨some a, c, hv, q1, fun b hb => by cases hb; rfl, q3, q4, q5⟩, hr⟩ hs

theorem sl_to {α : Type} {k : Kn α} {o : Option Nat} {nl nl' : Option Bool} {l l' : List α} (h : nl = nl') (h2 : l = l') : (sl k o nl l).le (sl k o nl' l') := by subst h; subst h2; exact Pd.le_refl _
theorem parts_nil {e : Env} : Parts e [] [] := trivial
theorem parts_cons {e : Env} {i : Nat} {x : Operand} {qs : List Pd} {xs : List (Nat × Operand)} {qss : List (Nat × List Pd)} (h : CellsOf (e.ev x) qs) (h2 : Parts e xs qss) : Parts e ((i, x) :: xs) ((i, qs) :: qss) := ⟨rfl, h, h2⟩
theorem cells1 {e : Env} {x : Operand} {p : Pd} (hx : e.ev x = p) (h : p.One) : CellsOf (e.ev x) [p] := by rw [hx]; exact cellsOf_one h
theorem cellsA {e : Env} {x : Operand} {ps : List Pd} (hx : e.ev x = agg ps) : CellsOf (e.ev x) ps := by rw [hx]; exact cellsOf_agg ps
theorem ones_nil : ∀ p ∈ ([] : List Pd), p.One := fun p h => by cases h
theorem ones_cons {p : Pd} {ps : List Pd} (h : p.One) (h2 : ∀ q ∈ ps, q.One) : ∀ q ∈ p :: ps, q.One := fun q hq => by
  rcases List.mem_cons.1 hq with rfl | hq
  · exact h
  · exact h2 q hq
theorem bnd_nil {n m : Nat} : ∀ p ∈ ([] : List Pd), p.Bnd n m := fun p h => by cases h
theorem bnd_cons {p : Pd} {ps : List Pd} {n m : Nat} (h : p.Bnd n m) (h2 : ∀ q ∈ ps, q.Bnd n m) : ∀ q ∈ p :: ps, q.Bnd n m := fun q hq => by
  rcases List.mem_cons.1 hq with rfl | hq
  · exact h
  · exact h2 q hq

section
variable {P : Program} {e : Env} {s : St} {dst : Option Tmp} {ty : TypeId} {pos : String} {after : Array Edge} {guard : Option (Nat × Bool)} {bs bs' : List Bx} {fs fs' : List Fr}

theorem opD_boxA {t : TypeId} {x : Operand} {ps : List Pd} {n : Nat} (hx : e.ev x = agg ps) (hb : ∀ p ∈ ps, p.Bnd (s.boxes.length + n) (s.fr ++ fs).length) (hn : bs.length = n) (h' : bs ++ [⟨t, ps⟩] = bs') :
    OpD P ⟨dst, .box t x, ty, pos, after, guard⟩ e (s.ext bs fs) (ptr (s.boxes.length + n) 0) (s.ext bs' fs) := by
  subst hn; subst h'
  have := opD_box_agg (P := P) (dst := dst) (ty := ty) (pos := pos) (after := after) (guard := guard) (s := s.ext bs fs) (t := t) hx (by rw [ext_boxes_length]; exact hb)
  rw [ext_boxes_length] at this
  simpa [St.ext] using this
theorem opD_boxO {t : TypeId} {x : Operand} {p : Pd} {n : Nat} (hx : e.ev x = p) (h1 : p.One) (hb : p.Bnd (s.boxes.length + n) (s.fr ++ fs).length) (hn : bs.length = n) (h' : bs ++ [⟨t, [p]⟩] = bs') :
    OpD P ⟨dst, .box t x, ty, pos, after, guard⟩ e (s.ext bs fs) (ptr (s.boxes.length + n) 0) (s.ext bs' fs) := by
  subst hn; subst h'
  have := opD_box_one (P := P) (dst := dst) (ty := ty) (pos := pos) (after := after) (guard := guard) (s := s.ext bs fs) (t := t) hx h1 (by rw [ext_boxes_length]; exact hb)
  rw [ext_boxes_length] at this
  simpa [St.ext] using this
theorem opD_allocX {t : TypeId} {zs : List Value} {n : Nat} (hz : zeroT P t = some zs) (hn : bs.length = n) (h' : bs ++ [⟨t, zs.map pl⟩] = bs') :
    OpD P ⟨dst, .alloc t, ty, pos, after, guard⟩ e (s.ext bs fs) (ptr (s.boxes.length + n) 0) (s.ext bs' fs) := by
  subst hn; subst h'
  obtain ⟨z, hz1, hz2⟩ := Option.map_eq_some_iff.1 hz
  have := opD_alloc (P := P) (e := e) (dst := dst) (ty := ty) (pos := pos) (after := after) (guard := guard) (s := s.ext bs fs) (t := t) hz1
  rw [ext_boxes_length, hz2] at this
  simpa [St.ext] using this

theorem opD_storeO {t : TypeId} {x y : Operand} {i off : Nat} {B : Bx} {p : Pd} {cs' : List Pd} (hn : sizeT P t = some 1) (hx : e.ev x = ptr (s.boxes.length + i) off) (hy : (e.ev y).le p) (h1 : p.One) (hB : bs[i]? = some B) (hl : off < B.cs.length) (hb : p.Bnd (s.boxes ++ bs).length (s.fr ++ fs).length)
    (hc : B.cs.set off p = cs') (h' : bs.set i ⟨B.t, cs'⟩ = bs') : OpD P ⟨dst, .store t x y, ty, pos, after, guard⟩ e (s.ext bs fs) any (s.ext bs' fs) := by
  subst h'; subst hc
  have := opD_store_one (P := P) (dst := dst) (ty := ty) (pos := pos) (after := after) (guard := guard) (s := s.ext bs fs) hn hx hy h1 (loc_get hB) hl hb
  have he : (s.boxes ++ bs).set (s.boxes.length + i) ⟨B.t, B.cs.set off p⟩ = s.boxes ++ bs.set i ⟨B.t, B.cs.set off p⟩ := by
    rw [List.set_append_right _ _ (by omega), Nat.add_sub_cancel_left]
  simp only [St.ext] at this ⊢
  rw [he] at this
  exact this
theorem opD_storeA {t : TypeId} {n : Nat} {x y : Operand} {i off : Nat} {B : Bx} {ps cs' : List Pd} (hn : sizeT P t = some n) (hx : e.ev x = ptr (s.boxes.length + i) off) (hy : e.ev y = agg ps) (h1 : ∀ p ∈ ps, p.One) (hB : bs[i]? = some B) (hps : ps.length = n) (hl : off + n ≤ B.cs.length) (hne : B.cs ≠ [])
    (hb : ∀ p ∈ ps, p.Bnd (s.boxes ++ bs).length (s.fr ++ fs).length) (hc : B.cs.take off ++ ps ++ B.cs.drop (off + n) = cs') (h' : bs.set i ⟨B.t, cs'⟩ = bs') : OpD P ⟨dst, .store t x y, ty, pos, after, guard⟩ e (s.ext bs fs) any (s.ext bs' fs) := by
  subst h'; subst hc
  have := opD_store_agg (P := P) (dst := dst) (ty := ty) (pos := pos) (after := after) (guard := guard) (s := s.ext bs fs) hn hx hy h1 (loc_get hB) hps hl hne hb
  have he : ∀ C, (s.boxes ++ bs).set (s.boxes.length + i) C = s.boxes ++ bs.set i C := fun C => by
    rw [List.set_append_right _ _ (by omega), Nat.add_sub_cancel_left]
  simp only [St.ext] at this ⊢
  rw [he] at this
  exact this
/-- A store into an older variable. -/
theorem opD_storeG {t : TypeId} {x y : Operand} {g off : Nat} {B : Bx} {p : Pd} {cs' : List Pd} (hn : sizeT P t = some 1) (hx : e.ev x = ptr g off) (hy : (e.ev y).le p) (h1 : p.One) (hB : s.boxes[g]? = some B) (hl : off < B.cs.length) (hb : p.Bnd (s.boxes ++ bs).length (s.fr ++ fs).length) (hc : B.cs.set off p = cs') :
    OpD P ⟨dst, .store t x y, ty, pos, after, guard⟩ e (s.ext bs fs) any ((s.upd g ⟨B.t, cs'⟩).ext bs fs) := by
  subst hc
  have := opD_store_one (P := P) (dst := dst) (ty := ty) (pos := pos) (after := after) (guard := guard) (s := s.ext bs fs) hn hx hy h1 (old_get hB) hl hb
  have he : ∀ C, (s.boxes ++ bs).set g C = s.boxes.set g C ++ bs := fun C => by
    rw [List.set_append_left _ _ (List.getElem?_eq_some_iff.1 hB).1]
  simp only [St.ext, St.upd] at this ⊢
  rw [he] at this
  exact this

/-- A function whose result is a row of the caller's own. -/
def Own1 (P : Program) (f : FuncId) (ps : List Pd) {α : Type} (k : Kn α) (te : TypeId) (nl : Option Bool) (l : List α) : Prop :=
  ∀ s, AC P f ps s (sl k (some s.fr.length) nl l) (s.ext [] [⟨te, k.sz, l.length⟩])
theorem opD_own1 {f : FuncId} {xs : List Operand} {ats : Array TypeId} {ps : List Pd} {α : Type} {k : Kn α} {te : TypeId} {nl : Option Bool} {l : List α} {m : Nat} (hf : hasText P f = true) (hc : Own1 P f ps k te nl l) (hx : Args e xs ps) (hm : fs.length = m) (h' : fs ++ [⟨te, k.sz, l.length⟩] = fs') :
    OpD P ⟨dst, .call { callee := .value (.func f), args := xs.toArray, argTypes := ats }, ty, pos, after, guard⟩ e (s.ext bs fs) (sl k (some (s.fr.length + m)) nl l) (s.ext bs fs') := by
  subst hm; subst h'
  have := opD_call (P := P) (dst := dst) (ty := ty) (pos := pos) (after := after) (guard := guard) (ats := ats) hf (hc (s.ext bs fs)) hx
  rw [ext_fr_length, ext_ext, List.append_nil] at this
  exact this
theorem opD_appendX {α : Type} {k : Kn α} {j : Nat} {o2 : Option Nat} {nl nl2 : Option Bool} {l l2 l' : List α} {x y : Operand} {t te : TypeId} {by_ : Nat} (ht : P.underlying t = some (.slice te)) (hel : elT P te = some (k.sz, by_))
    (hx : e.ev x = sl k (some (s.fr.length + j)) nl l) (hy : e.ev y = sl k o2 nl2 l2) (hfr : fs[j]? = some ⟨te, k.sz, l.length⟩) (hb : (l.length + l2.length) * by_ ≤ 140737488355328) (hb2 : l.length + l2.length ≤ 9223372036854775807) (hl : l ++ l2 = l') (h' : fs.set j ⟨te, k.sz, l'.length⟩ = fs') :
    OpD P ⟨dst, .call { callee := .builtin .append, args := #[x, y], argTypes := #[t, t] }, ty, pos, after, guard⟩ e (s.ext bs fs) (sl k (some (s.fr.length + j)) none l') (s.ext bs fs') := by
  subst hl; subst h'
  have := opD_append_own (P := P) (dst := dst) (ty := ty) (pos := pos) (after := after) (guard := guard) (s := s.ext bs fs) ht hel hx hy (loc_fr hfr) hb hb2
  have he : (s.fr ++ fs).set (s.fr.length + j) ⟨te, k.sz, (l ++ l2).length⟩ = s.fr ++ fs.set j ⟨te, k.sz, (l ++ l2).length⟩ := by
    rw [List.set_append_right _ _ (by omega), Nat.add_sub_cancel_left]
  simp only [St.ext] at this ⊢
  rw [he] at this
  exact this
theorem opD_appendN {α : Type} {k : Kn α} {o o2 : Option Nat} {nl2 : Option Bool} {l2 : List α} {x y : Operand} {t te : TypeId} {by_ m : Nat} (ht : P.underlying t = some (.slice te)) (hel : elT P te = some (k.sz, by_))
    (hx : e.ev x = sl k o (some true) ([] : List α)) (hy : e.ev y = sl k o2 nl2 l2) (hb : l2.length * by_ ≤ 140737488355328) (hb2 : l2.length ≤ 9223372036854775807) (hm : fs.length = m) (h' : fs ++ [⟨te, k.sz, l2.length⟩] = fs') :
    OpD P ⟨dst, .call { callee := .builtin .append, args := #[x, y], argTypes := #[t, t] }, ty, pos, after, guard⟩ e (s.ext bs fs) (sl k (some (s.fr.length + m)) none l2) (s.ext bs fs') := by
  subst hm; subst h'
  have := opD_append_nil (P := P) (dst := dst) (ty := ty) (pos := pos) (after := after) (guard := guard) (s := s.ext bs fs) ht hel hx hy hb hb2
  rw [ext_fr_length] at this
  simpa [St.ext] using this
/-- The constant nil as a slice. -/
theorem nil_le {α : Type} (k : Kn α) (o : Option Nat) : (pl (.slice none 0 0)).le (sl k o (some true) ([] : List α)) := fun g w v h => by rw [show v = _ from h]; exact sl_nil k o g w
theorem opD_toNil {α : Type} (k : Kn α) {o : Oper} {s' : St} (h : OpD P o e s (pl (.slice none 0 0)) s') : OpD P o e s (sl k none (some true) ([] : List α)) s' := opD_le h (nil_le k none)

/-- 's[:0:0]': nothing of a row, without room. -/
theorem opD_slice00 {α : Type} {k : Kn α} {o : Option Nat} {nl : Option Bool} {l : List α} {x hi mx : Operand} {lo : Option Operand} {t te : TypeId} {k1 k2 : IntKind} {m : Nat} (ht : P.underlying t = some (.slice te)) (hsz : sizeT P te = some k.sz) (hx : e.ev x = sl k o nl l) (hlo : BdOk e lo 0 0) (hhi : e.ev hi = pl (.int k1 0)) (hmx : e.ev mx = pl (.int k2 0)) (hm : fs.length = m) (h' : fs ++ [⟨te, k.sz, 0⟩] = fs') :
    OpD P ⟨dst, .slice t x lo (some hi) (some mx), ty, pos, after, guard⟩ e (s.ext bs fs) (sl k (some (s.fr.length + m)) nl ([] : List α)) (s.ext bs fs') := by
  subst hm; subst h'
  refine opD_value fun g a w ha hs => ?_
  have h1 := ha x (by simp [Op.operands])
  have h2 : a.eval hi = .int k1 0 := by have := ha hi (by simp [Op.operands]); rw [hhi] at this; exact this
  have h3 : a.eval mx = .int k2 0 := by have := ha mx (by simp [Op.operands]); rw [hmx] at this; exact this
  rw [hx] at h1
  obtain ⟨A, c, hv, hlc, hA, hnl, hc, _⟩ := h1
  refine ⟨.slice A 0 0, g, w, ?_, ⟨A, 0, rfl, Nat.le_refl _, hA, (fun _ => rfl), fun h => absurd rfl h, fun _ _ => .inl rfl⟩, Ext.refl _ _, ?_⟩
  · show (Sem.bind (Instr.sliceAt t (a.eval x) (lo.map a.eval) (some (a.eval hi)) (some (a.eval mx))) fun v => Sem.pure (Next.value v)).run P w = _
    rw [hv, h2, h3]
    refine run_v ?_
    unfold Instr.sliceAt
    rw [Sem.run_bind P, run_underlying ht]
    have hlo' : lo = none ∨ ∃ y kk, lo = some y ∧ a.eval y = .int kk 0 := by
      cases lo with
      | none => exact .inl rfl
      | some y =>
        obtain ⟨kk, hk⟩ := hlo
        have := ha y (by simp [Op.operands])
        rw [hk] at this
        exact .inr ⟨y, kk, rfl, this⟩
    rcases hlo' with rfl | ⟨y, kk, rfl, hy⟩
    · simp [Instr.slice, Instr.sliceBounds, Instr.sliceBound, asIntOf, run_underlying ht, run_sizeOf hsz]
    · simp [hy, Instr.slice, Instr.sliceBounds, Instr.sliceBound, asIntOf, run_underlying ht, run_sizeOf hsz]
  · refine ⟨hs.len, hs.nd, fun i B hB => ?_, fun b id c ho => ?_, hs.sl, hs.st, hs.sb, hs.bz⟩
    · obtain ⟨kk, vs, e1, e2, e3, e4, e5, e6⟩ := hs.bx i B hB
      exact ⟨kk, vs, e1, e2, e3, e4, e5, fun p hp => (e6 p hp).up (Nat.le_refl _) (by simp [St.ext])⟩
    · obtain ⟨f, cs, e1, e2⟩ := hs.ow b id c ho
      refine ⟨f, cs, ?_, e2⟩
      show (s.fr ++ (fs ++ [_]))[id]? = _
      have hlt : id < (s.fr ++ fs).length := (List.getElem?_eq_some_iff.1 e1).1
      rw [← List.append_assoc, List.getElem?_append_left hlt]; exact e1

theorem srel_fr {g : G} {s : St} {w : World} (hs : SRel g s w) (F : Fr) : SRel g ⟨s.boxes, s.fr ++ [F], s.stat⟩ w := by
  refine ⟨hs.len, hs.nd, fun i B hB => ?_, fun b id c ho => ?_, hs.sl, hs.st, hs.sb, hs.bz⟩
  · obtain ⟨kk, vs, e1, e2, e3, e4, e5, e6⟩ := hs.bx i B hB
    exact ⟨kk, vs, e1, e2, e3, e4, e5, fun p hp => (e6 p hp).up (Nat.le_refl _) (by simp)⟩
  · obtain ⟨f, cs, e1, e2⟩ := hs.ow b id c ho
    exact ⟨f, cs, by rw [List.getElem?_append_left (List.getElem?_eq_some_iff.1 e1).1]; exact e1, e2⟩

theorem aw_fr {nt : Nat} {c : Code} {Q : Exit → Env → St → Prop} (F : Fr) (h : AW P nt c Q e (s.ext bs (fs ++ [F]))) : AW P nt c Q e (s.ext bs fs) := by
  intro g a w he hs
  refine h g a w he ?_
  have := srel_fr hs F
  simpa [St.ext] using this

theorem opD_fr {o : Oper} {p : Pd} {F : Fr} (h : OpD P o e (s.ext bs fs) p (s.ext bs fs)) (h' : fs ++ [F] = fs') : OpD P o e (s.ext bs fs) p (s.ext bs fs') := by
  subst h'
  intro g a w next Q ha hs hn
  refine h g a w next Q ha hs fun v g' w' hp hx hs' => hn v g' w' hp hx ?_
  have := srel_fr hs' F
  simpa [St.ext] using this

theorem opD_buildSlice {α : Type} {k : Kn α} {t te : TypeId} {n : Nat} {parts : List (Nat × Operand)} {qss : List (Nat × List Pd)} {zs : List Value} (l : List α) (ht : P.underlying t = some (.slice te)) (hsz : sizeT P te = some k.sz) (hz : zeroT P te = some zs) (hn : n * k.sz ≤ 16777216) (hl : l.length = n)
    (hp : Parts e parts qss) (hzl : zs.length = k.sz) (hf : fillP (fun i => some (i * k.sz, k.sz)) ((List.replicate n zs).flatten.map pl) qss = some (flat k l)) :
    OpD P ⟨dst, .buildSlice t n parts.toArray, ty, pos, after, guard⟩ e s (sl k none (some false) l) s := opD_buildSliceO none l ht hsz hz hn hl hp hzl hf
/-- An empty row, to be appended to. -/
theorem opD_buildEmpty {α : Type} {k : Kn α} {t te : TypeId} {zs : List Value} {m : Nat} (ht : P.underlying t = some (.slice te)) (hsz : sizeT P te = some k.sz) (hz : zeroT P te = some zs) (hzl : zs.length = k.sz) (hm : fs.length = m) (h' : fs ++ [⟨te, k.sz, 0⟩] = fs') :
    OpD P ⟨dst, .buildSlice t 0 [].toArray, ty, pos, after, guard⟩ e (s.ext bs fs) (sl k (some (s.fr.length + m)) (some false) ([] : List α)) (s.ext bs fs') := by
  refine opD_fr (F := ⟨te, k.sz, 0⟩) ?_ h'
  exact opD_buildSliceO (parts := []) (qss := []) (some (s.fr.length + m)) [] ht hsz hz (by omega) rfl trivial hzl (by simp [fillP, flat])

theorem cut {g g1 : G} {w w1 : World} {s s1 s2 : St} {n m : Nat} (hs : SRel g s w) (hxt : Ext g w g1 w1) (hs1 : SRel g1 s1 w1) (h2 : s2 = ⟨s1.boxes.take n, s1.fr.take m, s1.stat⟩) (hn1 : s.boxes.length ≤ n) (hm1 : s.fr.length ≤ m) (hn2 : n ≤ s1.boxes.length) (hm2 : m ≤ s1.fr.length)
    (hbb : ∀ (i : Nat) (B : Bx), i < n → s1.boxes[i]? = some B → s.boxes[i]? = some B ∨ ∀ q ∈ B.cs, q.Bnd n m) : ∃ g2, Ext g w g2 w1 ∧ SRel g2 s2 w1 ∧ ∀ (p : Pd) v, p.Bnd n m → p.h g1 w1 v → p.h g2 w1 v := by
  let g2 : G := ⟨g1.sld, g1.box.take n, fun b => match g1.own b with | some (i, c) => if i < m then some (i, c) else none | none => none, g1.base⟩
  have hbx : ∀ i k, i < n → g1.box[i]? = some k → g2.box[i]? = some k := fun i k hi hk => by
    show (g1.box.take n)[i]? = some k
    rw [List.getElem?_take_of_lt hi]; exact hk
  have how : ∀ b id c, id < m → g1.own b = some (id, c) → g2.own b = some (id, c) := fun b id c hi ho => by
    show (match g1.own b with | some (i, c) => if i < m then some (i, c) else none | none => none) = _
    rw [ho]; simp [hi]
  have how2 : ∀ b i, g2.own b = some i → g1.own b = some i ∧ i.1 < m := fun b i hi => by
    have hi' : (match g1.own b with | some (i, c) => if i < m then some (i, c) else none | none => none) = some i := hi
    cases ho : g1.own b with
    | none => rw [ho] at hi'; cases hi'
    | some ic =>
      obtain ⟨id, c⟩ := ic
      rw [ho] at hi'
      simp only at hi'
      split at hi'
      · rename_i hlt; cases hi'; exact ⟨rfl, hlt⟩
      · cases hi'
  obtain ⟨t, ht, htb⟩ := hxt.box
  have hgl : g.box.length ≤ n := by rw [hs.len]; exact hn1
  have hExt : Ext g w g2 w1 := by
    refine ⟨hxt.os, hxt.tape, hxt.output, hxt.size, hxt.sld, hxt.cell, ⟨t.take (n - g.box.length), ?_, fun b hb => htb b (List.mem_of_mem_take hb)⟩, fun b i hi => ?_, fun b i hi => hxt.fresh b i (how2 b i hi).1, hxt.block, hxt.base⟩
    · show g1.box.take n = _
      rw [ht, List.take_append, List.take_of_length_le hgl]
    · obtain ⟨id, c⟩ := i
      obtain ⟨f, cs, hf, _⟩ := hs.ow b id c hi
      exact how b id c (Nat.lt_of_lt_of_le (List.getElem?_eq_some_iff.1 hf).1 hm1) (hxt.own b _ hi)
  have hS : SRel g2 s2 w1 := by
    subst h2
    refine ⟨?_, ?_, fun i B hB => ?_, fun b id c ho => ?_, hs1.sl, ?_, hs1.sb, hs1.bz⟩
    · show (g1.box.take n).length = (s1.boxes.take n).length
      rw [List.length_take, List.length_take, hs1.len]
    · exact List.Nodup.sublist (List.take_sublist _ _) hs1.nd
    · have hi : i < n := by
        have := (List.getElem?_eq_some_iff.1 hB).1
        simp only [List.length_take] at this
        omega
      rw [List.getElem?_take_of_lt hi] at hB
      obtain ⟨k, cs, e1, e2, e3, e4, e5, e6⟩ := hs1.bx i B hB
      have hlen1 : (s1.boxes.take n).length = n := by rw [List.length_take]; omega
      have hlen2 : (s1.fr.take m).length = m := by rw [List.length_take]; omega
      have hBn : ∀ q ∈ B.cs, q.Bnd n m := by
        rcases hbb i B hi hB with h0 | h0
        · obtain ⟨_, _, _, _, _, _, _, e7⟩ := hs.bx i B h0
          exact fun q hq => (e7 q hq).up hn1 hm1
        · exact h0
      refine ⟨k, cs, hbx i k hi e1, e2, PdsP.bnd (g := g1) (g' := g2) ⟨rfl, rfl⟩ hbx how hBn e3, e4, ?_, ?_⟩
      · show (match g1.own k with | some (i, c) => if i < m then some (i, c) else none | none => none) = none
        rw [e5]
      · simp only [hlen1, hlen2]; exact hBn
    · obtain ⟨ho1, hlt⟩ := how2 b (id, c) ho
      obtain ⟨f, cs, e1, e2⟩ := hs1.ow b id c ho1
      exact ⟨f, cs, by rw [List.getElem?_take_of_lt hlt]; exact e1, e2⟩
    · show s1.stat.h g2 w1 .nilFunc
      exact hs1.sb g1 g2 w1 _ ⟨rfl, rfl⟩ (fun i k hi => by omega) (fun b id c hi => by omega) hs1.st
  exact ⟨g2, hExt, hS, fun p v hb hp => hb g1 g2 w1 v ⟨rfl, rfl⟩ hbx how hp⟩

/-- What was left behind may be forgotten. -/
theorem ac_cut {P : Program} {f : FuncId} {ps : List Pd} {s : St} {p : Pd} {bs : List Bx} {fs : List Fr} (h : AC P f ps s p (s.ext bs fs)) (hb : p.Bnd s.boxes.length s.fr.length) : AC P f ps s p s := by
  intro g w vs hps hs
  refine (h g w vs hps hs).mono ?_
  rintro en w1 ⟨v, g1, rfl, hp, hx, hs1⟩
  have e1 : s = ⟨(s.ext bs fs).boxes.take s.boxes.length, (s.ext bs fs).fr.take s.fr.length, (s.ext bs fs).stat⟩ := by cases s; simp [St.ext]
  obtain ⟨g2, h1, h2, h3⟩ := cut hs hx hs1 e1 (Nat.le_refl _) (Nat.le_refl _) (by simp [St.ext]) (by simp [St.ext]) (fun i B hi hB => .inl (by
    have : (s.ext bs fs).boxes[i]? = s.boxes[i]? := List.getElem?_append_left hi
    rw [← this]; exact hB))
  exact ⟨v, g2, rfl, h3 p v hb hp, h1, h2⟩
theorem ac_le {P : Program} {f : FuncId} {ps : List Pd} {s s' : St} {p q : Pd} (h : AC P f ps s p s') (hl : p.le q) : AC P f ps s q s' := fun g w vs hps hs => (h g w vs hps hs).mono fun en w1 ⟨v, g1, he, hp, r⟩ => ⟨v, g1, he, hl _ _ _ hp, r⟩
theorem own1_pure {P : Program} {f : FuncId} {ps : List Pd} {α : Type} {k : Kn α} {te : TypeId} {nl : Option Bool} {l : List α} (h : Own1 P f ps k te nl l) (hb : ∀ x ∈ l, ∀ p ∈ k.cs x, p.Bnd 0 0) : Pure P f ps (sl k none none l) :=
  fun s => ac_cut (ac_le (h s) (sl_any _ _ _ _)) (sl_bnd fun x hx p hp => (hb x hx p hp).up (Nat.zero_le _) (Nat.zero_le _))

/-! ### What is left behind -/
theorem take_ext_boxes (s : St) (bs : List Bx) (fs : List Fr) : (s.ext bs fs).boxes.take s.boxes.length = s.boxes := by simp [St.ext]
theorem take_ext_fr (s : St) (bs : List Bx) (fs : List Fr) : (s.ext bs fs).fr.take s.fr.length = s.fr := by simp [St.ext]

theorem done_ext {fn : Func} {p : Pd} {x : Exit} (hx : x = .normal ∨ x = .ret) (hr : Res P fn e (s.ext bs fs) p) (hbn : p.Bnd s.boxes.length s.fr.length) : Done P fn s s.boxes.length s.fr.length p s x e (s.ext bs fs) :=
  done_pure hx hr (take_ext_boxes _ _ _) (take_ext_fr _ _ _) rfl hbn
/-- One row of one's own is handed back. -/
theorem done_own {fn : Func} {α : Type} {k : Kn α} {te : TypeId} {nl : Option Bool} {l : List α} {x : Exit} {F : Fr} (hx : x = .normal ∨ x = .ret) (hr : Res P fn e (s.ext bs (F :: fs)) (sl k (some s.fr.length) nl l)) (hF : F = ⟨te, k.sz, l.length⟩) (hbn : ∀ x ∈ l, ∀ p ∈ k.cs x, p.Bnd s.boxes.length (s.fr.length + 1)) :
    Done P fn s s.boxes.length (s.fr.length + 1) (sl k (some s.fr.length) nl l) (s.ext [] [⟨te, k.sz, l.length⟩]) x e (s.ext bs (F :: fs)) := by
  subst hF
  refine ⟨hx, hr, ?_, Nat.le_refl _, by omega, by simp [St.ext], by simp [St.ext], rfl, sl_own_bnd hbn (by omega), fun i B hi hB => .inl ?_⟩
  · simp [St.ext, List.take_append, List.take_of_length_le]
  · rw [← take_ext_boxes s bs (⟨te, k.sz, l.length⟩ :: fs), List.getElem?_take_of_lt hi]; exact hB
/-- An older variable has other cells. -/
theorem done_upd {fn : Func} {p : Pd} {x : Exit} {g : Nat} {B : Bx} (hx : x = .normal ∨ x = .ret) (hr : Res P fn e ((s.upd g B).ext bs fs) p) (hbn : p.Bnd s.boxes.length s.fr.length) (hB : ∀ q ∈ B.cs, q.Bnd s.boxes.length s.fr.length) :
    Done P fn s s.boxes.length s.fr.length p (s.upd g B) x e ((s.upd g B).ext bs fs) := by
  have hl : (s.upd g B).boxes.length = s.boxes.length := upd_boxes_length _ _ _
  refine ⟨hx, hr, ?_, Nat.le_refl _, Nat.le_refl _, by simp [St.ext, hl], by simp [St.ext, St.upd], rfl, hbn, fun i C hi hC => ?_⟩
  · have h1 := take_ext_boxes (s.upd g B) bs fs
    have h2 := take_ext_fr (s.upd g B) bs fs
    rw [hl] at h1
    rw [h1, show s.fr.length = (s.upd g B).fr.length from rfl, h2]
    rfl
  · have hC' : (s.upd g B).boxes[i]? = some C := by
      have : i < (s.upd g B).boxes.length := by rw [hl]; exact hi
      have h3 : ((s.upd g B).ext bs fs).boxes[i]? = (s.upd g B).boxes[i]? := List.getElem?_append_left this
      rw [← h3]; exact hC
    by_cases hig : i = g
    · subst hig
      have : C = B := by simp [St.upd, hi] at hC'; exact hC'.symm
      subst this
      exact .inr hB
    · left
      have h4 : (s.boxes.set g B)[i]? = some C := hC'
      rwa [List.getElem?_set_ne (Ne.symm hig)] at h4
end
end Go.Proofs.YtmnhfpcbfdgbcaaDoor.Eng
