/- The engine: objects of several variables. -/
import Derived.Test.YtokcgacehdgkcaaDoorEX6
import Derived.Test.YtokcgacehdgkcaaDoorEX5
namespace Go.Proofs.YtokcgacehdgkcaaDoor.Eng
set_option linter.unusedVariables false
set_option linter.unusedSimpArgs false
open Go.RowKit

structure UpOk (s s2 : St) : Prop where
  len : s2.boxes.length = s.boxes.length
  fr : s2.fr = s.fr
  stat : s2.stat = s.stat
  bd : ∀ (i : Nat) (B : Bx), s2.boxes[i]? = some B → s.boxes[i]? = some B ∨ ∀ q ∈ B.cs, q.Bnd s.boxes.length s.fr.length
theorem UpOk.refl (s : St) : UpOk s s := ⟨rfl, rfl, rfl, fun _ _ h => .inl h⟩
theorem UpOk.upd {s s2 : St} {g : Nat} {B : Bx} (h : UpOk s s2) (hB : ∀ q ∈ B.cs, q.Bnd s.boxes.length s.fr.length) : UpOk s (s2.upd g B) := by
  refine ⟨by rw [upd_boxes_length]; exact h.len, h.fr, h.stat, fun i C hC => ?_⟩
  by_cases hig : i = g
  · subst hig
    have hi : i < (s2.boxes.set i B).length := (List.getElem?_eq_some_iff.1 hC).1
    rw [List.length_set] at hi
    have h3 : (s2.boxes.set i B)[i]? = some C := hC
    rw [List.getElem?_set_self hi] at h3
    cases h3
    exact .inr hB
  · have h3 : (s2.boxes.set g B)[i]? = some C := hC
    rw [List.getElem?_set_ne (Ne.symm hig)] at h3
    exact h.bd i C h3
theorem get_lt {s : St} {b : Nat} {B : Bx} (h : s.boxes[b]? = some B) : b < s.boxes.length := (List.getElem?_eq_some_iff.1 h).1
theorem upd_same {s : St} {b : Nat} {B C : Bx} (h : s.boxes[b]? = some B) : (s.upd b C).boxes[b]? = some C := by
  show (s.boxes.set b C)[b]? = _
  rw [List.getElem?_set_self (get_lt h)]
end Go.Proofs.YtokcgacehdgkcaaDoor.Eng

/- The engine: rows in place, as the printer words it. -/
namespace Go.Proofs.YtokcgacehdgkcaaDoor.Eng
set_option linter.unusedVariables false
set_option linter.unusedSimpArgs false
open Go.RowKit

theorem ptv0 (b r off : Nat) : ptv b r off = ptv b r (off + 0) := rfl
theorem flat_fld {α : Type} {k : Kn α} {l : List α} {i j : Nat} {x : α} {p : Pd} (h : l[i]? = some x) (hp : (k.cs x)[j]? = some p) (hj : j < k.sz) : (flat k l)[i * k.sz + j]? = some p := by
  rw [flat_get k l i j hj, h]; exact hp
section
variable {P : Program} {e : Env} {s : St} {dst : Option Tmp} {ty : TypeId} {pos : String} {after : Array Edge} {guard : Option (Nat × Bool)} {bs bs' : List Bx} {fs : List Fr} {N : Nat}
theorem opD_indexAddr_hx {b r n sz i : Nat} {x ix : Operand} {t te : TypeId} {kk : IntKind} {m : Int} (ht : P.underlying t = some (.slice te)) (hsz : sizeT P te = some sz) (hte : Nat.blt te HOT = true) (hB : ∃ cs, s.boxes[b]? = some ⟨hot te r, cs⟩)
    (hx : e.ev x = hsl b r 0 n sz) (hi : e.ev ix = pl (.int kk m)) (hm : m = (i : Int)) (hl : i < n) : OpD P ⟨dst, .indexAddr t x ix, ty, pos, after, guard⟩ e s (ptv b r (i * sz)) s := by
  obtain ⟨cs, hB⟩ := hB
  exact opD_indexAddr_h ht hsz hte hB hx hi hm hl
theorem storeEN (hN : s.boxes.length = N) {α : Type} {k : Kn α} {l : List α} {t : TypeId} {b r i : Nat} {x u : Operand} {y : α} (hn : sizeT P t = some k.sz) (hte : Nat.blt t HOT = true) (hr : 2 ≤ r) (hz : 0 < k.sz) (hx : e.ev x = ptv (N + b) r (i * k.sz)) (hu : e.ev u = agg (k.cs y)) (hB : bs[b]? = some ⟨hot t r, flat k l⟩) (hi : i < l.length) (hkb : ∀ x n m, ∀ p ∈ k.cs x, p.Bnd n m) (h' : bs.set b ⟨hot t r, flat k (l.set i y)⟩ = bs') :
    OpD P ⟨dst, .store t x u, ty, pos, after, guard⟩ e (s.ext bs fs) any (s.ext bs' fs) := by
  subst h'; subst hN
  have := storeE (P := P) (dst := dst) (ty := ty) (pos := pos) (after := after) (guard := guard) hn hte hr hz hx hu (loc_get (fs := fs) hB) hi hkb
  rwa [ext_upd_loc] at this
end
end Go.Proofs.YtokcgacehdgkcaaDoor.Eng

/- The engine: one goes through a map: what is left, and whole functions over a map's entries. -/
namespace Go.Proofs.YtokcgacehdgkcaaDoor.Eng
set_option linter.unusedVariables false
set_option linter.unusedSimpArgs false
open Go.RowKit

section
variable {P : Program} {e : Env} {s : St} {dst : Option Tmp} {ty : TypeId} {pos : String} {after : Array Edge} {guard : Option (Nat × Bool)} {κ ν : Type} {K : MK κ ν} {bs bs' : List Bx} {fs : List Fr}
end
end Go.Proofs.YtokcgacehdgkcaaDoor.Eng

/- The engine: entries deleted while one goes through a map; functions with captured variables. -/
namespace Go.Proofs.YtokcgacehdgkcaaDoor.Eng
set_option linter.unusedVariables false
set_option linter.unusedSimpArgs false
open Go.RowKit

section
variable {P : Program} {e : Env} {s : St} {dst : Option Tmp} {ty : TypeId} {pos : String} {after : Array Edge} {guard : Option (Nat × Bool)} {κ ν : Type} {K : MK κ ν} {bs bs' : List Bx} {fs : List Fr}
/-- A function's value, with one captured variable. -/
def fnc (f : FuncId) (q : Pd) : Pd := ⟨fun g w v => ∃ c, v = .func (.func f) #[] #[c] ∧ q.h g w c, fun hx ⟨c, h1, h2⟩ => ⟨c, h1, q.mono0 hx h2⟩⟩
theorem fnc_bnd {f : FuncId} {q : Pd} {n m : Nat} (h : q.Bnd n m) : (fnc f q).Bnd n m := fun g g' w v h1 h2 h3 ⟨c, hc, hq⟩ => ⟨c, hc, h g g' w c h1 h2 h3 hq⟩
theorem opD_makeFunc1 {f : FuncId} {x : Operand} {q : Pd} (hx : e.ev x = q) : OpD P ⟨dst, .makeFunc (.func f) #[] #[x], ty, pos, after, guard⟩ e s (fnc f q) s :=
  opD_look fun g a w ha hs => by
    have h1 := ha x (by simp [Op.operands])
    rw [hx] at h1
    refine ⟨.func (.func f) #[] #[a.eval x], ?_, a.eval x, rfl, h1⟩
    show (Sem.bind (Instr.makeFunc _ _ _) fun v => Sem.pure (Next.value v)).run P w = _
    exact run_v (by simp [Instr.makeFunc])
theorem opD_callC {f : FuncId} {co : Operand} {xs : List Operand} {ats : Array TypeId} {ps : List Pd} {p q : Pd} {s' : St} (hco : e.ev co = fnc f q) (hf : hasText P f = true) (hc : AC P f (ps ++ [q]) s p s') (hx : Args e xs ps) :
    OpD P ⟨dst, .call { callee := .value co, args := xs.toArray, argTypes := ats }, ty, pos, after, guard⟩ e s p s' := by
  intro g a w next Q ha hs hn
  have h0 := ha co (by simp [Op.operands, Call.operands])
  rw [hco] at h0
  obtain ⟨cv, hcv, hq⟩ := h0
  have h1 := hx.pds (a := a) (g := g) (w := w) fun x hx => ha x (by simp [Op.operands, Call.operands, hx])
  unfold Oper.wp
  have h2 : (execOp a.eval ⟨dst, .call { callee := .value co, args := xs.toArray, argTypes := ats }, ty, pos, after, guard⟩).run P w = .ok (.enter f (xs.map a.eval ++ [cv]).toArray) w := by
    have h3 := run_callFunc hf (#[] ++ xs.toArray.map a.eval ++ #[cv]) w
    simp only [execOp, resolve, hcv, Deferred.ofValue]
    simpa [invoke] using h3
  rw [h2]
  show Calls P f (xs.map a.eval ++ [cv]).toArray w _
  refine (hc g w _ (h1.append (show Pds g w [q] [cv] from ⟨hq, trivial⟩)) hs).mono ?_
  rintro en w' ⟨v, g', rfl, hp, hx', hs'⟩
  exact hn v g' w' hp hx' hs'
end
end Go.Proofs.YtokcgacehdgkcaaDoor.Eng
namespace Go.Proofs.YtokcgacehdgkcaaDoor.Eng
set_option linter.unusedVariables false
set_option linter.unusedSimpArgs false
open Go.RowKit
end Go.Proofs.YtokcgacehdgkcaaDoor.Eng
namespace Go.Proofs.YtokcgacehdgkcaaDoor.Eng
set_option linter.unusedVariables false
set_option linter.unusedSimpArgs false
open Go.RowKit
end Go.Proofs.YtokcgacehdgkcaaDoor.Eng
namespace Go.Proofs.YtokcgacehdgkcaaDoor.Eng
set_option linter.unusedVariables false
set_option linter.unusedSimpArgs false
open Go.RowKit
theorem UpOk.upd_upd {s : St} {g : Nat} {A B : Bx} (h : UpOk (s.upd g A) (s.upd g A)) (hB : ∀ q ∈ B.cs, q.Bnd s.boxes.length s.fr.length) : UpOk (s.upd g A) (s.upd g B) := by
  have := (UpOk.refl (s.upd g A)).upd (g := g) (B := B) (by rw [upd_boxes_length]; exact hB)
  rwa [Go.Proofs.YtokcgacehdgkcaaDoor.Eng.upd_upd] at this
end Go.Proofs.YtokcgacehdgkcaaDoor.Eng
namespace Go.Proofs.YtokcgacehdgkcaaDoor.Eng
set_option linter.unusedVariables false
set_option linter.unusedSimpArgs false
open Go.RowKit
end Go.Proofs.YtokcgacehdgkcaaDoor.Eng

/- The engine: tests that are known. -/
namespace Go.Proofs.YtokcgacehdgkcaaDoor.Eng
set_option linter.unusedVariables false
set_option linter.unusedSimpArgs false
open Go.RowKit
theorem srel_wkb {g : G} {w : World} {s : St} {bs bs' : List Bx} {fs : List Fr} (h : BxLe bs bs') (hb : ∀ B ∈ bs', ∀ q ∈ B.cs, q.Bnd (s.boxes.length + bs'.length) (s.fr.length + fs.length)) (hs : SRel g (s.ext bs fs) w) : SRel g (s.ext bs' fs) w := by
  have hl := h.length
  refine ⟨by rw [hs.len, ext_boxes_length, ext_boxes_length, hl], hs.nd, fun i B hB => ?_, hs.ow, hs.sl, hs.st, hs.sb, hs.bz⟩
  by_cases hi : i < s.boxes.length
  · have hB' : (s.ext bs fs).boxes[i]? = some B := by
      simp only [St.ext, List.getElem?_append_left hi] at hB ⊢; exact hB
    obtain ⟨k, vs, e1, e2, e2c, e3, e4, e6⟩ := hs.bx i B hB'
    exact ⟨k, vs, e1, e2, e2c, e3, e4, by rw [ext_boxes_length, ← hl, ← ext_boxes_length s bs fs]; exact e6⟩
  · simp only [St.ext, List.getElem?_append_right (Nat.le_of_not_lt hi)] at hB
    obtain ⟨D, hD, ht, hle⟩ := h.get _ B hB
    obtain ⟨k, vs, e1, e2, e2c, e3, e4, e6⟩ := hs.bx i D (by simp only [St.ext, List.getElem?_append_right (Nat.le_of_not_lt hi)]; exact hD)
    refine ⟨k, vs, e1, e2.trans (ver_same ht), e2c.same ht, ?_, fun q hq => ⟨fun hn => (e4 q hq).1 (hn.elim (fun h1 => .inl fun h0 => h1 ?_) fun h1 => .inr (by rw [ver_same ht]; exact h1)), (e4 q hq).2⟩, fun q hq => ?_⟩
    · show Pds _ _ _ _
      have e3' : Pds g w D.cs (vs.toList.take D.cs.length) := e3
      rw [← hle.length]
      exact hle.pds e3'
    · have := hle.length
      rw [h0] at this
      exact List.length_eq_zero_iff.1 this.symm
    · rw [ext_boxes_length, ext_fr_length]
      exact hb B (List.mem_of_getElem? hB) q hq
/-- A box told as less. -/
theorem opD_wkN {P : Program} {o : Oper} {e : Env} {s u : St} {p : Pd} {N : Nat} {bs bs' : List Bx} {fs : List Fr} (hN : u.boxes.length = N) (h : OpD P o e s p (u.ext bs fs)) (hl : BxLe bs bs') (hb : ∀ B ∈ bs', ∀ q ∈ B.cs, q.Bnd (N + bs'.length) (u.fr.length + fs.length)) : OpD P o e s p (u.ext bs' fs) := by
  subst hN
  exact fun g a w next Q hx hs hn => h g a w next Q hx hs fun v g' w' hp he hs' => hn v g' w' hp he (srel_wkb hl hb hs')
section
variable {P : Program} {e : Env} {s : St} {dst : Option Tmp} {ty : TypeId} {pos : String} {after : Array Edge} {guard : Option (Nat × Bool)}
theorem opD_pickT {c x y : Operand} {p : Pd} (hc : e.ev c = pl (.bool true)) (hx : e.ev x = p) : OpD P ⟨dst, .pick c x y, ty, pos, after, guard⟩ e s p s := opD_pick hc (fun _ => hx) (fun h => nomatch h)
theorem opD_pickF {c x y : Operand} {p : Pd} (hc : e.ev c = pl (.bool false)) (hy : e.ev y = p) : OpD P ⟨dst, .pick c x y, ty, pos, after, guard⟩ e s p s := opD_pick hc (fun h => nomatch h) (fun _ => hy)
end
end Go.Proofs.YtokcgacehdgkcaaDoor.Eng
