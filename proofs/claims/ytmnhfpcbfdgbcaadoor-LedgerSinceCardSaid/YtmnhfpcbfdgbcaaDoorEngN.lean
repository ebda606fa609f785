/- The engine, fourteenth part: things behind pointers. -/
import Derived.Test.YtmnhfpcbfdgbcaaDoorEngM
namespace Go.Proofs.YtmnhfpcbfdgbcaaDoor.Eng
set_option linter.unusedVariables false
set_option linter.unusedSimpArgs false
open Go.RowKit

theorem upd_self {s : St} {g : Nat} {B : Bx} (h : s.boxes[g]? = some B) : s.upd g B = s := by
  have : s.boxes.set g B = s.boxes := List.ext_getElem? fun j => by
    by_cases hj : j = g
    · subst hj; rw [List.getElem?_set_self (List.getElem?_eq_some_iff.1 h).1, h]
    · rw [List.getElem?_set_ne (Ne.symm hj)]
  cases s; simp only [St.upd] at this ⊢; rw [this]
theorem aw_upd0 {P : Program} {nt : Nat} {c : Code} {Q : Exit → Env → St → Prop} {e : Env} {s : St} {g : Nat} {B : Bx} (hG : s.boxes[g]? = some B) (h : AW P nt c Q e ((s.upd g B).ext [] [])) : AW P nt c Q e (s.ext [] []) := by
  rw [upd_self hG] at h; exact h
theorem updx_get {s : St} {g : Nat} {B : Bx} {bs : List Bx} {fs : List Fr} (hlt : g < s.boxes.length) : ((s.upd g B).ext bs fs).boxes[g]? = some B := by
  refine old_get ?_
  simp [St.upd, hlt]
theorem updx_upd {s : St} {g : Nat} {B C : Bx} {bs : List Bx} {fs : List Fr} (hlt : g < s.boxes.length) : ((s.upd g B).ext bs fs).upd g C = (s.upd g C).ext bs fs := by
  simp only [St.upd, St.ext]
  rw [List.set_append_left _ _ (by simpa using hlt), List.set_set]
theorem ext_upd_loc {s : St} {i : Nat} {C : Bx} {bs : List Bx} {fs : List Fr} : (s.ext bs fs).upd (s.boxes.length + i) C = s.ext (bs.set i C) fs := by
  simp only [St.upd, St.ext]
  rw [List.set_append_right _ _ (by omega), Nat.add_sub_cancel_left]

/-- A world in which one variable has other cells, and new blocks have come: for contracts that were proved otherwise. -/
theorem other_box {g : G} {s : St} {w w' : World} (hs : SRel g s w) {i k : Nat} {B : Bx} {vs cs : Array Value} {ps : List Pd} (hB : s.boxes[i]? = some B) (hk : g.box[i]? = some k) (hh : w.heap[k]? = some (.cells vs B.t (0, 0))) (hos : w'.os = w.os) (htp : w'.tape = w.tape) (hou : w'.output = w.output) (hsz : w.heap.size ≤ w'.heap.size)
    (hsame : ∀ j, j < w.heap.size → j ≠ k → w'.heap[j]? = w.heap[j]?) (hk' : w'.heap[k]? = some (.cells cs B.t (0, 0))) (hne : B.cs ≠ []) (hp : PdsP g w ps cs.toList) (hb : ∀ p ∈ ps, p.Bnd s.boxes.length s.fr.length) : Ext g w g w' ∧ SRel g (s.upd i ⟨B.t, ps⟩) w' := by
  obtain ⟨k', vs', h1, h2, h3, h4, h5, h6⟩ := hs.bx i B hB
  rw [hk] at h1; cases h1
  have hmem : k ∈ g.box := List.mem_of_getElem? hk
  have hx : Ext g w g w' := by
    refine ⟨hos, htp, hou, hsz, fun _ => Nat.le_refl _, fun b o ho => ?_, ⟨[], by simp⟩, fun _ _ h => h, fun _ _ h => .inl h, fun b _ hb hn _ => hsame b hb fun h => hn (h ▸ hmem), rfl⟩
    have hbk : b ≠ k := fun h => by subst h; have := h4 hne; omega
    exact World.cell?_of_block (w := w) (hsame b (hs.sl b (by omega)) hbk)
  refine ⟨hx, by simp [St.upd, hs.len], hs.nd, fun j C hC => ?_, fun b id c ho => ?_, fun b hn => Nat.lt_of_lt_of_le (hs.sl b hn) hsz, s.stat.mono hx hs.st, hs.sb, Nat.le_trans hs.bz hsz⟩
  · have hl : (s.upd i ⟨B.t, ps⟩).boxes.length = s.boxes.length := upd_boxes_length _ _ _
    by_cases hij : j = i
    · subst hij
      rw [upd_get hB] at hC
      cases hC
      exact ⟨k, cs, hk, hk', hp.mono hx, fun _ => h4 hne, h5, by rw [hl]; exact hb⟩
    · have hC' : s.boxes[j]? = some C := by
        have h0 : (s.boxes.set i ⟨B.t, ps⟩)[j]? = some C := hC
        rwa [List.getElem?_set_ne (Ne.symm hij)] at h0
      obtain ⟨k2, vs2, e1, e2, e3, e4, e5, e6⟩ := hs.bx j C hC'
      have hne : k2 ≠ k := by
        intro he; subst he
        obtain ⟨hj1, hj2⟩ := List.getElem?_eq_some_iff.1 e1
        obtain ⟨hi1, hi2⟩ := List.getElem?_eq_some_iff.1 hk
        exact hij ((List.getElem_inj hs.nd).1 (hj2.trans hi2.symm))
      exact ⟨k2, vs2, e1, by rw [hsame k2 (Array.getElem?_eq_some_iff.1 e2).1 hne]; exact e2, e3.mono hx, e4, e5, by rw [hl]; exact e6⟩
  · obtain ⟨f, cs2, e1, e2, e3⟩ := hs.ow b id c ho
    have hne : b ≠ k := fun he => by subst he; rw [h5] at ho; cases ho
    exact ⟨f, cs2, e1, by rw [hsame b (hs.ltOwn ho) hne]; exact e2, e3⟩

theorem cellsS {e : Env} {x : Operand} {α : Type} {k : Kn α} {o : Option Nat} {nl : Option Bool} {l : List α} (hx : e.ev x = sl k o nl l) : CellsOf (e.ev x) [sl k none none l] := by
  rw [hx]; exact fun g w v h => cellsOf_one (one_sl _ _ _ _) g w v (sl_any _ _ _ _ g w v h)
section
variable {P : Program} {e : Env} {s : St} {dst : Option Tmp} {ty : TypeId} {pos : String} {after : Array Edge} {guard : Option (Nat × Bool)} {bs bs' : List Bx} {fs fs' : List Fr}

theorem opD_nilp_eqnil {t pt yt : TypeId} {x : Operand} (ht : P.underlying t = some (.pointer pt)) (hx : e.ev x = pl (.pointer none)) : OpD P ⟨dst, .binOp .eql t x (.const (.pointer none)) yt, ty, pos, after, guard⟩ e s (pl (.bool true)) s :=
  opD_bin hx rfl (fun w => by simp [go_sem]) (fun w => by
    have hpt : P.pointee t = pt := by simp [Program.pointee, ht]
    simp [go_sem, ht, hpt])
theorem opD_nilp_neqnil {t pt yt : TypeId} {x : Operand} (ht : P.underlying t = some (.pointer pt)) (hx : e.ev x = pl (.pointer none)) : OpD P ⟨dst, .binOp .neq t x (.const (.pointer none)) yt, ty, pos, after, guard⟩ e s (pl (.bool false)) s :=
  opD_bin hx rfl (fun w => by simp [go_sem]) (fun w => by
    have hpt : P.pointee t = pt := by simp [Program.pointee, ht]
    simp [go_sem, ht, hpt])
theorem opD_loadU {t : TypeId} {x : Operand} {g off : Nat} {B : Bx} {p : Pd} (ht : aggT P t = some false) (hx : e.ev x = ptr g off) (hlt : g < s.boxes.length) (hp : B.cs[off]? = some p) :
    OpD P ⟨dst, .load t x, ty, pos, after, guard⟩ e ((s.upd g B).ext bs fs) p ((s.upd g B).ext bs fs) := opD_load_one ht hx (updx_get hlt) hp
theorem opD_loadUA {t : TypeId} {n : Nat} {x : Operand} {g off : Nat} {B : Bx} {qs : List Pd} (ht : aggT P t = some true) (hn : sizeT P t = some n) (hx : e.ev x = ptr g off) (hlt : g < s.boxes.length) (hl : off + n ≤ B.cs.length) (hq : (B.cs.drop off).take n = qs) :
    OpD P ⟨dst, .load t x, ty, pos, after, guard⟩ e ((s.upd g B).ext bs fs) (agg qs) ((s.upd g B).ext bs fs) := by subst hq; exact opD_load_agg ht hn hx (updx_get hlt) hl
theorem opD_storeU {t : TypeId} {x y : Operand} {g off : Nat} {B B' : Bx} {p : Pd} (hn : sizeT P t = some 1) (hx : e.ev x = ptr g off) (hy : (e.ev y).le p) (h1 : p.One) (hlt : g < s.boxes.length) (hl : off < B.cs.length) (hb : p.Bnd (s.boxes ++ bs).length (s.fr ++ fs).length) (hc : (⟨B.t, B.cs.set off p⟩ : Bx) = B') :
    OpD P ⟨dst, .store t x y, ty, pos, after, guard⟩ e ((s.upd g B).ext bs fs) any ((s.upd g B').ext bs fs) := by
  subst hc
  have := opD_storeG (P := P) (dst := dst) (ty := ty) (pos := pos) (after := after) (guard := guard) (s := s.upd g B) (bs := bs) (fs := fs) (cs' := B.cs.set off p) (p := p) (B := B) hn hx hy h1 (by simp [St.upd, hlt]) hl (by simpa [St.upd] using hb) rfl
  rw [upd_upd] at this
  exact this
theorem opD_callU {f : FuncId} {xs : List Operand} {ats : Array TypeId} {ps : List Pd} {g : Nat} {B B' : Bx} {p : Pd} (hf : hasText P f = true) (hc : ∀ s, s.boxes[g]? = some B → AC P f ps s p (s.upd g B')) (hlt : g < s.boxes.length) (hx : Args e xs ps) :
    OpD P ⟨dst, .call { callee := .value (.func f), args := xs.toArray, argTypes := ats }, ty, pos, after, guard⟩ e ((s.upd g B).ext bs fs) p ((s.upd g B').ext bs fs) := by
  have := opD_call (P := P) (dst := dst) (ty := ty) (pos := pos) (after := after) (guard := guard) (ats := ats) hf (hc ((s.upd g B).ext bs fs) (updx_get hlt)) hx
  rw [updx_upd hlt] at this
  exact this
/-- The thing is one of this function's own variables. -/
theorem opD_callL {f : FuncId} {xs : List Operand} {ats : Array TypeId} {ps : List Pd} {i : Nat} {B B' : Bx} {p : Pd} (hf : hasText P f = true) (hc : ∀ s g, s.boxes[g]? = some B → AC P f (ptr g 0 :: ps) s p (s.upd g B')) (hB : bs[i]? = some B) (hx : Args e xs (ptr (s.boxes.length + i) 0 :: ps)) (h' : bs.set i B' = bs') :
    OpD P ⟨dst, .call { callee := .value (.func f), args := xs.toArray, argTypes := ats }, ty, pos, after, guard⟩ e (s.ext bs fs) p (s.ext bs' fs) := by
  subst h'
  have := opD_call (P := P) (dst := dst) (ty := ty) (pos := pos) (after := after) (guard := guard) (ats := ats) hf (hc (s.ext bs fs) (s.boxes.length + i) (loc_get hB)) hx
  rw [ext_upd_loc] at this
  exact this
theorem opD_callLx {f : FuncId} {xs : List Operand} {ats : Array TypeId} {ps : List Pd} {i : Nat} {B' : Bx} {p : Pd} (hf : hasText P f = true) (hc : AC P f ps (s.ext bs fs) p ((s.ext bs fs).upd (s.boxes.length + i) B')) (hx : Args e xs ps) (h' : bs.set i B' = bs') :
    OpD P ⟨dst, .call { callee := .value (.func f), args := xs.toArray, argTypes := ats }, ty, pos, after, guard⟩ e (s.ext bs fs) p (s.ext bs' fs) := by
  subst h'
  have := opD_call (P := P) (dst := dst) (ty := ty) (pos := pos) (after := after) (guard := guard) (ats := ats) hf hc hx
  rw [ext_upd_loc] at this
  exact this
section
variable {ops : Array Oper} {KD : List Tr → Env → St → Prop} {l : List Oper} {acc : List Tr}
/-- Loads in a drawn region. -/
theorem dtl1 {t : TypeId} {x : Operand} {i off : Nat} {B : Bx} {p : Pd} (ht : aggT P t = some false) (hx : e.ev x = ptr (s.boxes.length + i) off) (hB : bs[i]? = some B) (hp : B.cs[off]? = some p) (hw : Wants ops ⟨dst, .load t x, ty, pos, after, guard⟩ e true)
    (h : DT P ops KD l (e.put dst p) (s.ext bs fs) (acc ++ [⟨.load, p, s.ext bs fs, fun s' => s'.boxes[s.boxes.length + i]? = some B⟩])) : DT P ops KD (⟨dst, .load t x, ty, pos, after, guard⟩ :: l) e (s.ext bs fs) acc :=
  dtl p (fun s' => s'.boxes[s.boxes.length + i]? = some B) hw (fun s' hs' => opD_load_one ht hx hs' hp) h
theorem dtlA {t : TypeId} {n : Nat} {x : Operand} {i off : Nat} {B : Bx} {qs : List Pd} (ht : aggT P t = some true) (hn : sizeT P t = some n) (hx : e.ev x = ptr (s.boxes.length + i) off) (hB : bs[i]? = some B) (hl : off + n ≤ B.cs.length) (hq : (B.cs.drop off).take n = qs) (hw : Wants ops ⟨dst, .load t x, ty, pos, after, guard⟩ e true)
    (h : DT P ops KD l (e.put dst (agg qs)) (s.ext bs fs) (acc ++ [⟨.load, agg qs, s.ext bs fs, fun s' => s'.boxes[s.boxes.length + i]? = some B⟩])) : DT P ops KD (⟨dst, .load t x, ty, pos, after, guard⟩ :: l) e (s.ext bs fs) acc := by
  subst hq
  exact dtl _ (fun s' => s'.boxes[s.boxes.length + i]? = some B) hw (fun s' hs' => opD_load_agg ht hn hx hs' hl) h
theorem dtlU {t : TypeId} {x : Operand} {g off : Nat} {B : Bx} {p : Pd} (ht : aggT P t = some false) (hx : e.ev x = ptr g off) (hp : B.cs[off]? = some p) (hw : Wants ops ⟨dst, .load t x, ty, pos, after, guard⟩ e true)
    (h : DT P ops KD l (e.put dst p) ((s.upd g B).ext bs fs) (acc ++ [⟨.load, p, (s.upd g B).ext bs fs, fun s' => s'.boxes[g]? = some B⟩])) : DT P ops KD (⟨dst, .load t x, ty, pos, after, guard⟩ :: l) e ((s.upd g B).ext bs fs) acc :=
  dtl p (fun s' => s'.boxes[g]? = some B) hw (fun s' hs' => opD_load_one ht hx hs' hp) h
end
theorem at_getD {α : Type} {l : List α} {i : Nat} (d : α) (h : i < l.length) : l[i]? = some (l.getD i d) := by rw [List.getD_eq_getElem?_getD, List.getElem?_eq_getElem h]; rfl
def LeL : List Pd → List Pd → Prop
  | [], [] => True
  | p :: ps, q :: qs => p.le q ∧ LeL ps qs
  | _, _ => False
theorem LeL.pds {g : G} {w : World} : ∀ {ps qs : List Pd} {vs : List Value}, LeL ps qs → Pds g w ps vs → Pds g w qs vs
  | [], [], [], _, h => h
  | _ :: _, _ :: _, _ :: _, ⟨h1, h2⟩, ⟨h3, h4⟩ => ⟨h1 _ _ _ h3, LeL.pds h2 h4⟩
  | [], [], _ :: _, _, h => h.elim
  | _ :: _, _ :: _, [], _, h => h.elim
  | [], _ :: _, _, h, _ => h.elim
  | _ :: _, [], _, h, _ => h.elim
theorem agg_le {ps qs : List Pd} (h : LeL ps qs) : (agg ps).le (agg qs) := fun _ _ _ ⟨cs, hv, hp⟩ => ⟨cs, hv, h.pds hp⟩
theorem tup_le {ps qs : List Pd} (h : LeL ps qs) : (tup ps).le (tup qs) := fun _ _ _ ⟨cs, hv, hp⟩ => ⟨cs, hv, h.pds hp⟩
/-- A function that makes a thing and hands its pointer out. -/
theorem opD_callN {f : FuncId} {xs : List Operand} {ats : Array TypeId} {ps : List Pd} {B : Bx} {n : Nat} (hf : hasText P f = true) (hc : ∀ s, AC P f ps s (ptr s.boxes.length 0) (s.ext [B] [])) (hx : Args e xs ps) (hn : bs.length = n) (h' : bs ++ [B] = bs') :
    OpD P ⟨dst, .call { callee := .value (.func f), args := xs.toArray, argTypes := ats }, ty, pos, after, guard⟩ e (s.ext bs fs) (ptr (s.boxes.length + n) 0) (s.ext bs' fs) := by
  subst hn; subst h'
  have := opD_call (P := P) (dst := dst) (ty := ty) (pos := pos) (after := after) (guard := guard) (ats := ats) hf (hc (s.ext bs fs)) hx
  rw [ext_boxes_length, ext_ext, List.append_nil] at this
  exact this

theorem opD_slice_from {α : Type} {k : Kn α} {o : Option Nat} {nl : Option Bool} {l : List α} {x y : Operand} {t te : TypeId} {kk : IntKind} {n : Int} (i : Nat) (ht : P.underlying t = some (.slice te)) (hsz : sizeT P te = some k.sz)
    (hx : e.ev x = sl k o nl l) (hy : e.ev y = pl (.int kk n)) (hn : n = (i : Int)) (hi : i ≤ l.length) : OpD P ⟨dst, .slice t x (some y) none none, ty, pos, after, guard⟩ e s (sl k none nl (l.drop i)) s := by
  subst hn
  have := opD_slice (P := P) (dst := dst) (ty := ty) (pos := pos) (after := after) (guard := guard) (s := s) (lo := some y) (hi := none) i l.length ht hsz hx ⟨_, hy⟩ rfl hi (Nat.le_refl _)
  rwa [List.take_length] at this
theorem opD_slice_to {α : Type} {k : Kn α} {o : Option Nat} {nl : Option Bool} {l : List α} {x y : Operand} {t te : TypeId} {kk : IntKind} {n : Int} (j : Nat) (ht : P.underlying t = some (.slice te)) (hsz : sizeT P te = some k.sz)
    (hx : e.ev x = sl k o nl l) (hy : e.ev y = pl (.int kk n)) (hn : n = (j : Int)) (hj : j ≤ l.length) : OpD P ⟨dst, .slice t x none (some y) none, ty, pos, after, guard⟩ e s (sl k none nl (l.take j)) s := by
  subst hn
  have := opD_slice (P := P) (dst := dst) (ty := ty) (pos := pos) (after := after) (guard := guard) (s := s) (lo := none) (hi := some y) 0 j ht hsz hx rfl ⟨_, hy⟩ (Nat.zero_le _) hj
  rwa [List.drop_zero] at this

/-- A thing that was made is handed out. -/
theorem done_new {fn : Func} {x : Exit} {B : Bx} (hx : x = .normal ∨ x = .ret) (hr : Res P fn e (s.ext (B :: bs) fs) (ptr s.boxes.length 0)) (hB : ∀ q ∈ B.cs, q.Bnd (s.boxes.length + 1) s.fr.length) :
    Done P fn s (s.boxes.length + 1) s.fr.length (ptr s.boxes.length 0) (s.ext [B] []) x e (s.ext (B :: bs) fs) := by
  refine ⟨hx, hr, ?_, by omega, Nat.le_refl _, by simp [St.ext], by simp [St.ext], rfl, ptr_bnd _ (by omega), fun i C hi hC => ?_⟩
  · simp [St.ext, List.take_append, List.take_of_length_le]
  · by_cases hil : i < s.boxes.length
    · left
      have h1 : (s.ext (B :: bs) fs).boxes[i]? = s.boxes[i]? := List.getElem?_append_left hil
      rw [← h1]; exact hC
    · right
      have : i = s.boxes.length := by omega
      subst this
      have h2 := loc_get (s := s) (bs := B :: bs) (fs := fs) (i := 0) (B := B) rfl
      rw [Nat.add_zero, hC] at h2
      cases h2
      exact hB
/-- A result that lies in a variable of its own. -/
theorem res_c1 {fn : Func} {a t : Tmp} {ty : TypeId} {n : Nat} {b : Nat} {B : Bx} {q : Pd} (h : fn.results = #[.cell a ty, .tmp t]) (hag : aggT P ty = some true) (hsz : sizeT P ty = some n) (ha : e a = ptr b 0) (hB : s.boxes[b]? = some B) (hl : B.cs.length = n) (hq : e t = q) : Res P fn e s (tup [agg B.cs, q]) := by
  intro g ac w hac hs
  have h1 := hac a
  rw [ha] at h1
  obtain ⟨k, hk, hv⟩ := h1
  obtain ⟨k', vs, h2, h3, h4, _⟩ := hs.bx b B hB
  rw [hk] at h2; cases h2
  have h4 : Pds g w B.cs (vs.toList.take B.cs.length) := h4
  have hc : ∀ j v, (vs.toList.take B.cs.length)[j]? = some v → w.cell? ((⟨k, 0, none⟩ : Addr).add j) = some v := by
    intro j v hj
    rw [List.getElem?_take_of_lt (by have := (List.getElem?_eq_some_iff.1 hj).1; rw [List.length_take] at this; omega)] at hj
    rw [Addr.add_lit, Nat.zero_add, box_cell (g := g) h3]
    simpa using hj
  have hlv := run_loadVar_agg hag hsz (cs := vs.toList.take B.cs.length) (by rw [h4.length, hl]) hc
  have hpt : ac.tmps.getD a undef = .pointer (some ⟨k, 0, none⟩) := hv
  refine ⟨.tuple #[.agg (vs.toList.take B.cs.length).toArray, ac.tmps.getD t undef], ?_, _, rfl, ⟨_, rfl, by simpa using h4⟩, by rw [← hq]; exact hac t, trivial⟩
  rw [Array.getD_eq_getD_getElem?] at hpt
  simp only [results, h]
  simp [hpt, asAddr, hlv]
theorem res_c {fn : Func} {a : Tmp} {ty : TypeId} {n : Nat} {b : Nat} {B : Bx} (h : fn.results = #[.cell a ty]) (hag : aggT P ty = some true) (hsz : sizeT P ty = some n) (ha : e a = ptr b 0) (hB : s.boxes[b]? = some B) (hl : B.cs.length = n) : Res P fn e s (agg B.cs) := by
  intro g ac w hac hs
  have h1 := hac a
  rw [ha] at h1
  obtain ⟨k, hk, hv⟩ := h1
  obtain ⟨k', vs, h2, h3, h4, _⟩ := hs.bx b B hB
  rw [hk] at h2; cases h2
  have h4 : Pds g w B.cs (vs.toList.take B.cs.length) := h4
  have hc : ∀ j v, (vs.toList.take B.cs.length)[j]? = some v → w.cell? ((⟨k, 0, none⟩ : Addr).add j) = some v := by
    intro j v hj
    rw [List.getElem?_take_of_lt (by have := (List.getElem?_eq_some_iff.1 hj).1; rw [List.length_take] at this; omega)] at hj
    rw [Addr.add_lit, Nat.zero_add, box_cell (g := g) h3]
    simpa using hj
  have hlv := run_loadVar_agg hag hsz (cs := vs.toList.take B.cs.length) (by rw [h4.length, hl]) hc
  have hpt : ac.tmps.getD a undef = .pointer (some ⟨k, 0, none⟩) := hv
  refine ⟨.agg (vs.toList.take B.cs.length).toArray, ?_, _, rfl, by simpa using h4⟩
  rw [Array.getD_eq_getD_getElem?] at hpt
  simp only [results, h]
  simp [hpt, asAddr, hlv]

/-- Nothing was written. -/
theorem done_updS {fn : Func} {p : Pd} {x : Exit} {g : Nat} {B : Bx} (hG : s.boxes[g]? = some B) (hx : x = .normal ∨ x = .ret) (hr : Res P fn e ((s.upd g B).ext bs fs) p) (hbn : p.Bnd s.boxes.length s.fr.length) : Done P fn s s.boxes.length s.fr.length p s x e ((s.upd g B).ext bs fs) := by
  rw [upd_self hG] at hr ⊢
  exact done_ext hx hr hbn
end
end Go.Proofs.YtmnhfpcbfdgbcaaDoor.Eng
