/- The engine: objects of several variables. -/
import Derived.Test.YtmnhfpcbfdgbcaaDoorEX6
import Derived.Test.YtmnhfpcbfdgbcaaDoorEX5
namespace Go.Proofs.YtmnhfpcbfdgbcaaDoor.Eng
set_option linter.unusedVariables false
set_option linter.unusedSimpArgs false
open Go.RowKit

structure UpOk (s s2 : St) : Prop where
  len : s2.boxes.length = s.boxes.length
  fr : s2.fr = s.fr
  stat : s2.stat = s.stat
  bd : ∀ (i : Nat) (B : Bx), s2.boxes[i]? = some B → s.boxes[i]? = some B ∨ ∀ q ∈ B.cs, q.Bnd s.boxes.length s.fr.length
theorem UpOk.refl (s : St) : UpOk s s := ⟨rfl, rfl, rfl, fun _ _ h => .inl h⟩
theorem UpOk.upd {s s2 : St} {g : Nat} {B : Bx} (h : UpOk s s2) (hB : ∀ q ∈ B.cs, q.Bnd s.boxes.length s.fr.length) : UpOk s (s2.upd g B) := by
  refine ⟨by rw [upd_boxes_length]; exact h.len, h.fr, h.stat, fun i C hC => ?_⟩
  by_cases hig : i = g
  · subst hig
    have hi : i < (s2.boxes.set i B).length := (List.getElem?_eq_some_iff.1 hC).1
    rw [List.length_set] at hi
    have h3 : (s2.boxes.set i B)[i]? = some C := hC
    rw [List.getElem?_set_self hi] at h3
    cases h3
    exact .inr hB
  · have h3 : (s2.boxes.set g B)[i]? = some C := hC
    rw [List.getElem?_set_ne (Ne.symm hig)] at h3
    exact h.bd i C h3
theorem upd_ext {s : St} {b : Nat} {C : Bx} {bs : List Bx} {fs : List Fr} (h : b < s.boxes.length) : (s.ext bs fs).upd b C = (s.upd b C).ext bs fs := by
  simp [St.upd, St.ext, List.set_append, h]
theorem get_lt {s : St} {b : Nat} {B : Bx} (h : s.boxes[b]? = some B) : b < s.boxes.length := (List.getElem?_eq_some_iff.1 h).1
theorem upd_same {s : St} {b : Nat} {B C : Bx} (h : s.boxes[b]? = some B) : (s.upd b C).boxes[b]? = some C := by
  show (s.boxes.set b C)[b]? = _
  rw [List.getElem?_set_self (get_lt h)]
theorem upd_other {s : St} {b d : Nat} {B C : Bx} (hne : d ≠ b) (h : s.boxes[d]? = some B) : (s.upd b C).boxes[d]? = some B := by
  show (s.boxes.set b C)[d]? = _
  rw [List.getElem?_set_ne (Ne.symm hne)]; exact h
theorem loc_getS {s s2 : St} {bs : List Bx} {fs : List Fr} {i : Nat} {B : Bx} (hl : s2.boxes.length = s.boxes.length) (h : bs[i]? = some B) : (s2.ext bs fs).boxes[s.boxes.length + i]? = some B := by rw [← hl]; exact loc_get h
section
variable {P : Program} {nt : Nat} {e : Env} {s s2 : St} {dst : Option Tmp} {ty : TypeId} {pos : String} {after : Array Edge} {guard : Option (Nat × Bool)} {bs bs' : List Bx} {fs : List Fr}
theorem opD_U {o : Oper} {p : Pd} {b : Nat} {C : Bx} (hlt : b < s.boxes.length) (h : OpD P o e (s.ext bs fs) p ((s.ext bs fs).upd b C)) : OpD P o e (s.ext bs fs) p ((s.upd b C).ext bs fs) := by rw [← upd_ext hlt]; exact h
theorem done_up {fn : Func} {x : Exit} {p : Pd} (h : UpOk s s2) (hx : x = .normal ∨ x = .ret) (hr : Res P fn e (s2.ext bs fs) p) (hbn : p.Bnd s.boxes.length s.fr.length) : Done P fn s s.boxes.length s.fr.length p s2 x e (s2.ext bs fs) := by
  refine ⟨hx, hr, ?_, Nat.le_refl _, Nat.le_refl _, by simp [St.ext, h.len], by simp [St.ext, h.fr], h.stat, hbn, fun i C hi hC => ?_⟩
  · have h1 := take_ext_boxes s2 bs fs
    have h2 := take_ext_fr s2 bs fs
    rw [h.len] at h1
    rw [h1, ← h.fr, h2]; rfl
  · have : (s2.ext bs fs).boxes[i]? = s2.boxes[i]? := List.getElem?_append_left (by rw [h.len]; exact hi)
    rw [this] at hC
    exact h.bd i C hC
theorem done_newL {fn : Func} {x : Exit} {Bs : List Bx} {p : Pd} (hx : x = .normal ∨ x = .ret) (hr : Res P fn e (s.ext Bs fs) p) (hp : p.Bnd (s.boxes.length + Bs.length) s.fr.length) (hB : ∀ B ∈ Bs, ∀ q ∈ B.cs, q.Bnd (s.boxes.length + Bs.length) s.fr.length) :
    Done P fn s (s.boxes.length + Bs.length) s.fr.length p (s.ext Bs []) x e (s.ext Bs fs) := by
  refine ⟨hx, hr, ?_, by omega, Nat.le_refl _, by simp [St.ext], by simp [St.ext], rfl, hp, fun i C hi hC => ?_⟩
  · simp [St.ext, List.take_append, List.take_of_length_le]
  · by_cases hil : i < s.boxes.length
    · left
      have h1 : (s.ext Bs fs).boxes[i]? = s.boxes[i]? := List.getElem?_append_left hil
      rw [← h1]; exact hC
    · right
      have h1 : (s.ext Bs fs).boxes[i]? = Bs[i - s.boxes.length]? := List.getElem?_append_right (by omega)
      rw [h1] at hC
      exact hB C (List.mem_of_getElem? hC)
end
end Go.Proofs.YtmnhfpcbfdgbcaaDoor.Eng

/- The engine: rows in place, as the printer words it. -/
namespace Go.Proofs.YtmnhfpcbfdgbcaaDoor.Eng
set_option linter.unusedVariables false
set_option linter.unusedSimpArgs false
open Go.RowKit

section
variable {P : Program} {e : Env} {s : St} {dst : Option Tmp} {ty : TypeId} {pos : String} {after : Array Edge} {guard : Option (Nat × Bool)} {bs bs' : List Bx} {fs : List Fr} {N : Nat}
theorem opD_indexAddr_hx {b r n sz i : Nat} {x ix : Operand} {t te : TypeId} {kk : IntKind} {m : Int} (ht : P.underlying t = some (.slice te)) (hsz : sizeT P te = some sz) (hte : Nat.blt te HOT = true) (hB : ∃ cs, s.boxes[b]? = some ⟨hot te r, cs⟩)
    (hx : e.ev x = hsl b r 0 n sz) (hi : e.ev ix = pl (.int kk m)) (hm : m = (i : Int)) (hl : i < n) : OpD P ⟨dst, .indexAddr t x ix, ty, pos, after, guard⟩ e s (ptv b r (i * sz)) s := by
  obtain ⟨cs, hB⟩ := hB
  exact opD_indexAddr_h ht hsz hte hB hx hi hm hl
theorem storeEU {α : Type} {k : Kn α} {l : List α} {t : TypeId} {g r i : Nat} {x u : Operand} {y : α} (hlt : g < s.boxes.length) (hn : sizeT P t = some k.sz) (hte : Nat.blt t HOT = true) (hr : 2 ≤ r) (hz : 0 < k.sz) (hx : e.ev x = ptv g r (i * k.sz)) (hu : e.ev u = agg (k.cs y)) (hi : i < l.length) (hkb : ∀ x n m, ∀ p ∈ k.cs x, p.Bnd n m) :
    OpD P ⟨dst, .store t x u, ty, pos, after, guard⟩ e ((s.upd g ⟨hot t r, flat k l⟩).ext bs fs) any ((s.upd g ⟨hot t r, flat k (l.set i y)⟩).ext bs fs) := by
  have := storeE (P := P) (dst := dst) (ty := ty) (pos := pos) (after := after) (guard := guard) hn hte hr hz hx hu (updx_get (B := ⟨hot t r, flat k l⟩) (bs := bs) (fs := fs) hlt) hi hkb
  rwa [updx_upd hlt] at this
end
end Go.Proofs.YtmnhfpcbfdgbcaaDoor.Eng

/- The engine: one goes through a map: what is left, and whole functions over a map's entries. -/
namespace Go.Proofs.YtmnhfpcbfdgbcaaDoor.Eng
set_option linter.unusedVariables false
set_option linter.unusedSimpArgs false
open Go.RowKit

section
variable {κ ν : Type} {ls vs rem : List ((κ × ν) × Nat)} {c : Nat}
theorem born_nodup (hb : Born ls c) : (ls.map (·.2)).Nodup := List.pairwise_map.2 (hb.inc.imp fun h => Nat.ne_of_lt h)
theorem rem_nil (hb : Born ls c) (hp : (vs ++ rem).Perm ls) (h : ∀ y ∈ ls, y.2 ∈ vs.map (·.2)) : rem = [] := by
  cases rem with
  | nil => rfl
  | cons z r =>
    have hn := (hp.map (·.2)).nodup_iff.2 (born_nodup hb)
    rw [List.map_append] at hn
    have h1 := h z (hp.subset (by simp))
    exact absurd rfl ((List.nodup_append.1 hn).2.2 _ h1 z.2 (by simp))
theorem rem_pick {y : (κ × ν) × Nat} (hp : (vs ++ rem).Perm ls) (hy : y ∈ ls) (hys : y.2 ∉ vs.map (·.2)) : ∃ rem', (vs ++ [y] ++ rem').Perm ls ∧ rem'.length + 1 = rem.length := by
  have h1 : y ∈ vs ++ rem := hp.symm.subset hy
  have h2 : y ∈ rem := by
    rcases List.mem_append.1 h1 with h | h
    · exact absurd (List.mem_map_of_mem h) hys
    · exact h
  obtain ⟨a, b, rfl⟩ := List.append_of_mem h2
  refine ⟨a ++ b, List.Perm.trans ?_ hp, by simp; omega⟩
  rw [List.append_assoc]
  have h3 : (y :: (a ++ b)).Perm (a ++ y :: b) := (List.perm_middle (a := y) (l₁ := a) (l₂ := b)).symm
  exact List.Perm.append_left vs h3
end
theorem ac_openM {P : Program} {f : FuncId} {ps : List Pd} {s : St} {p : Pd} {κ ν : Type} {K : MK κ ν} {l : List (κ × ν)} {b : Nat} (hB : s.boxes[b]? = some (MB K l)) (h : ∀ ls c, ls.map (·.1) = l → Born ls c → AC P f ps (s.upd b (MX K ls c)) p (s.upd b (MX K ls c))) : AC P f ps s p s := by
  intro g w us hps hs
  obtain ⟨ee, k, h1, h2⟩ := raw_some hs hB
  obtain ⟨x, r, ⟨es, c, rfl, hE⟩, _, h5, _⟩ := raw_at hs hB h1 (fun _ => h2)
  obtain ⟨ls, rfl, q2, q3⟩ := ents_ex hE
  refine (h ls c q2 q3 g w us hps (h5 (q := pl (encM (ls.map (mkE K)) c)) rfl (pl_bnd _ _ _))).mono ?_
  rintro en w1 ⟨v, g1, he, hp, hx, hs1⟩
  refine ⟨v, g1, he, hp, hx, ?_⟩
  have hB1 : (s.upd b (MX K ls c)).boxes[b]? = some (MX K ls c) := upd_same hB
  obtain ⟨e1, k1, r1, r2⟩ := raw_some hs1 hB1
  obtain ⟨x1, _, hx1, _, h6, _⟩ := raw_at hs1 hB1 r1 (fun _ => r2)
  have := h6 (q := mp K l) ⟨_, c, hx1, by rw [← q2]; exact ents_of q3⟩ (mp_bnd _ _ _ _)
  rw [upd_upd] at this
  rwa [show s.upd b ⟨HOT, [mp K l]⟩ = s from upd_self hB] at this
section
variable {P : Program} {e : Env} {s : St} {dst : Option Tmp} {ty : TypeId} {pos : String} {after : Array Edge} {guard : Option (Nat × Bool)} {κ ν : Type} {K : MK κ ν} {bs bs' : List Bx} {fs : List Fr}
theorem opD_rangeX {t kt et : TypeId} {x : Operand} {b c n : Nat} {ls : List ((κ × ν) × Nat)} (ht : P.underlying t = some (.map kt et)) (hx : e.ev x = mref b) (hB : s.boxes[b]? = some (MX K ls c)) (hn : bs.length = n) (h' : bs ++ [IT b c []] = bs') :
    OpD P ⟨dst, .range t x, ty, pos, after, guard⟩ e (s.ext bs fs) (ptv (s.boxes.length + n) 1 0) (s.ext bs' fs) := by
  subst hn; subst h'
  have := opD_range (P := P) (e := e) (dst := dst) (ty := ty) (pos := pos) (after := after) (guard := guard) (s := s.ext bs fs) ht hx (old_get hB)
  rw [ext_boxes_length] at this
  simpa [St.ext] using this
theorem opD_extract_pl {x : Operand} {i : Nat} {vs : Array Value} {v : Value} (hx : e.ev x = pl (.tuple vs)) (hp : vs[i]? = some v) : OpD P ⟨dst, .extract x i, ty, pos, after, guard⟩ e s (pl v) s :=
  opD_plain (fun _ => .tuple vs) v (fun _ _ => by simp) (fun y hy => by
    simp [Op.operands] at hy
    subst hy; exact hx) (fun w => by
    show (Sem.bind (Instr.extract (.tuple vs) i) fun v => Sem.pure (Next.value v)).run P w = _
    exact run_v (by simp [Instr.extract, hp]))
end
end Go.Proofs.YtmnhfpcbfdgbcaaDoor.Eng

/- The engine: entries deleted while one goes through a map; functions with captured variables. -/
namespace Go.Proofs.YtmnhfpcbfdgbcaaDoor.Eng
set_option linter.unusedVariables false
set_option linter.unusedSimpArgs false
open Go.RowKit

section
variable {κ ν : Type} {ls : List ((κ × ν) × Nat)} {c : Nat} {K : MK κ ν} {P : Program}
theorem born_filter (hb : Born ls c) (f : (κ × ν) × Nat → Bool) : Born (ls.filter f) c := ⟨hb.inc.sublist List.filter_sublist, fun x hx => hb.lt x (List.mem_filter.1 hx).1⟩
theorem born_same (hb : Born ls c) {y z : (κ × ν) × Nat} (hy : y ∈ ls) (hz : z ∈ ls) (h : z.2 = y.2) : z = y := by
  obtain ⟨i, hi, rfl⟩ := List.getElem_of_mem hy
  obtain ⟨j, hj, rfl⟩ := List.getElem_of_mem hz
  rcases Nat.lt_trichotomy i j with hij | hij | hij
  · have := List.pairwise_iff_getElem.1 hb.inc i j hi hj hij; omega
  · subst hij; rfl
  · have := List.pairwise_iff_getElem.1 hb.inc j i hj hi hij; omega
theorem erase_filter (hb : Born ls c) {i : Nat} {y : (κ × ν) × Nat} (hi : ls[i]? = some y) : ls.eraseIdx i = ls.filter fun z => decide (z.2 ≠ y.2) := by
  have hl := (List.getElem?_eq_some_iff.1 hi).1
  have hyi : ls[i] = y := (List.getElem?_eq_some_iff.1 hi).2
  have h1 : ls = ls.take i ++ y :: ls.drop (i + 1) := by rw [← hyi, List.getElem_cons_drop, List.take_append_drop]
  have h2 := hb.inc
  rw [h1] at h2
  have h3 := List.pairwise_append.1 h2
  rw [List.eraseIdx_eq_take_drop_succ]
  conv => rhs; rw [h1]
  rw [List.filter_append, List.filter_cons, if_neg (by simp)]
  congr 1
  · refine (List.filter_eq_self.2 fun z hz => ?_).symm
    have := h3.2.2 z hz y (by simp)
    simp; omega
  · refine (List.filter_eq_self.2 fun z hz => ?_).symm
    have := (List.pairwise_cons.1 h3.2.1).1 z hz
    simp; omega
theorem run_deleteX [DecidableEq κ] {t kt et ty : TypeId} {y : (κ × ν) × Nat} {w : World} {r : Nat} {ats : Array TypeId} (ha : ats[0]? = some t) (ht : P.underlying t = some (.map kt et)) (hK : KL P kt K) (hb : w.heap[r]? = some (.map (ls.map (mkE K)).toArray c)) (hB : Born ls c) (hn : (ls.map fun z => z.1.1).Nodup) (hy : y ∈ ls) :
    (Builtin.delete_ ats ty #[.map (some r), K.ek y.1.1]).run P w = .ok (.tuple #[]) { w with heap := w.heap.setIfInBounds r (.map ((ls.filter fun z => decide (z.2 ≠ y.2)).map (mkE K)).toArray c) } := by
  have hE : Ents K (ls.map (·.1)) (ls.map (mkE K)) c := ents_of hB
  have hf := hK.find y.1.1 (ls.map (·.1)) (ls.map (mkE K)) w hE.keys
  obtain ⟨i, hi0⟩ := List.getElem?_of_mem hy
  have hl := (List.getElem?_eq_some_iff.1 hi0).1
  have hidx : mIdx (ls.map (·.1)) y.1.1 = some i := by
    cases hm : mIdx (ls.map (·.1)) y.1.1 with
    | none =>
      unfold mIdx at hm
      have := List.findIdx?_eq_none_iff.1 hm y.1 (List.mem_map_of_mem hy)
      simp at this
    | some j =>
      obtain ⟨v, hv⟩ := mIdx_some hm
      rw [List.getElem?_map] at hv
      obtain ⟨z, hz, hz2⟩ := Option.map_eq_some_iff.1 hv
      have hjl := (List.getElem?_eq_some_iff.1 hz).1
      congr 1
      have e1 : (ls.map fun z => z.1.1)[j]? = some y.1.1 := by rw [List.getElem?_map, hz]; simp [hz2]
      have e2 : (ls.map fun z => z.1.1)[i]? = some y.1.1 := by rw [List.getElem?_map, hi0]; rfl
      rw [← e2] at e1
      exact (List.getElem?_inj (by simpa using hjl) hn).1 e1
  rw [hidx] at hf
  have he : (ls.map (mkE K))[i]? = some (mkE K y) := by rw [List.getElem?_map, hi0]; rfl
  simp only [Option.bind_some, he, Option.map_some] at hf
  obtain ⟨F, hF⟩ : ∃ F, F = ls.filter fun z => decide (z.2 ≠ y.2) := ⟨_, rfl⟩
  rw [← hF]
  have h5 : (ls.map (mkE K)).eraseIdx i = F.map (mkE K) := by
    rw [hF, ← erase_filter hB hi0, List.eraseIdx_eq_take_drop_succ, List.eraseIdx_eq_take_drop_succ, List.map_append, List.map_take, List.map_drop]
  simp only [Builtin.delete_, ha]
  simp [run_underlying ht, MapKept.run_getObj_map hb, hK.chk, hf, MapKept.run_setObj_map _ hb, Result.andThen, h5]
end
section
variable {P : Program} {e : Env} {s : St} {dst : Option Tmp} {ty : TypeId} {pos : String} {after : Array Edge} {guard : Option (Nat × Bool)} {κ ν : Type} {K : MK κ ν} {bs bs' : List Bx} {fs : List Fr}
theorem opD_deleteX [DecidableEq κ] {t kt et : TypeId} {x y : Operand} {b c : Nat} {ls : List ((κ × ν) × Nat)} {z : (κ × ν) × Nat} {ats : Array TypeId} (ha0 : ats[0]? = some t) (ht : P.underlying t = some (.map kt et)) (hK : KL P kt K) (hx : e.ev x = mref b) (hy : (e.ev y).le (pl (K.ek z.1.1))) (hB : s.boxes[b]? = some (MX K ls c)) (hb : Born ls c) (hn : (ls.map fun z => z.1.1).Nodup) (hz : z ∈ ls) :
    OpD P ⟨dst, .call { callee := .builtin .delete, args := #[x, y], argTypes := ats }, ty, pos, after, guard⟩ e s (pl (.tuple #[])) (s.upd b (MX K (ls.filter fun u : (κ × ν) × Nat => decide (u.2 ≠ z.2)) c)) :=
  opD_value fun g a w ha hs => by
    have e1 := ha x (by simp [Op.operands, Call.operands])
    have e2 := ha y (by simp [Op.operands, Call.operands])
    rw [hx] at e1
    obtain ⟨ee, k, h1, h2, hv, h4⟩ := e1
    obtain ⟨x0, r, hx0, hh, _, hup⟩ := raw_at hs hB h1 h4
    rw [show x0 = _ from hx0, rawObj_enc] at hh
    have hr := run_deleteX (ty := ty) ha0 ht hK hh hb hn hz
    obtain ⟨u1, u2⟩ := hup (q := pl (encM ((ls.filter fun u : (κ × ν) × Nat => decide (u.2 ≠ z.2)).map (mkE K)) c)) (y := encM ((ls.filter fun u : (κ × ν) × Nat => decide (u.2 ≠ z.2)).map (mkE K)) c) (rawObj_enc _ _ _) (pl_bnd _ _ _) rfl
    refine ⟨_, g, _, ?_, rfl, u1, u2⟩
    rw [exec_builtin, show #[x, y].map a.eval = #[a.eval x, a.eval y] from by simp, hv, hy _ _ _ e2]
    exact run_v hr
/-- A function's value, with one captured variable. -/
def fnc (f : FuncId) (q : Pd) : Pd := ⟨fun g w v => ∃ c, v = .func (.func f) #[] #[c] ∧ q.h g w c, fun hx ⟨c, h1, h2⟩ => ⟨c, h1, q.mono hx h2⟩⟩
theorem fnc_bnd {f : FuncId} {q : Pd} {n m : Nat} (h : q.Bnd n m) : (fnc f q).Bnd n m := fun g g' w v h1 h2 h3 ⟨c, hc, hq⟩ => ⟨c, hc, h g g' w c h1 h2 h3 hq⟩
theorem opD_makeFunc1 {f : FuncId} {x : Operand} {q : Pd} (hx : e.ev x = q) : OpD P ⟨dst, .makeFunc (.func f) #[] #[x], ty, pos, after, guard⟩ e s (fnc f q) s :=
  opD_look fun g a w ha hs => by
    have h1 := ha x (by simp [Op.operands])
    rw [hx] at h1
    refine ⟨.func (.func f) #[] #[a.eval x], ?_, a.eval x, rfl, h1⟩
    show (Sem.bind (Instr.makeFunc _ _ _) fun v => Sem.pure (Next.value v)).run P w = _
    exact run_v (by simp [Instr.makeFunc])
theorem opD_callC {f : FuncId} {co : Operand} {xs : List Operand} {ats : Array TypeId} {ps : List Pd} {p q : Pd} {s' : St} (hco : e.ev co = fnc f q) (hf : hasText P f = true) (hc : AC P f (ps ++ [q]) s p s') (hx : Args e xs ps) :
    OpD P ⟨dst, .call { callee := .value co, args := xs.toArray, argTypes := ats }, ty, pos, after, guard⟩ e s p s' := by
  intro g a w next Q ha hs hn
  have h0 := ha co (by simp [Op.operands, Call.operands])
  rw [hco] at h0
  obtain ⟨cv, hcv, hq⟩ := h0
  have h1 := hx.pds (a := a) (g := g) (w := w) fun x hx => ha x (by simp [Op.operands, Call.operands, hx])
  unfold Oper.wp
  have h2 : (execOp a.eval ⟨dst, .call { callee := .value co, args := xs.toArray, argTypes := ats }, ty, pos, after, guard⟩).run P w = .ok (.enter f (xs.map a.eval ++ [cv]).toArray) w := by
    have h3 := run_callFunc hf (#[] ++ xs.toArray.map a.eval ++ #[cv]) w
    simp only [execOp, resolve, hcv, Deferred.ofValue]
    simpa [invoke] using h3
  rw [h2]
  show Calls P f (xs.map a.eval ++ [cv]).toArray w _
  refine (hc g w _ (h1.append (show Pds g w [q] [cv] from ⟨hq, trivial⟩)) hs).mono ?_
  rintro en w' ⟨v, g', rfl, hp, hx', hs'⟩
  exact hn v g' w' hp hx' hs'
end
end Go.Proofs.YtmnhfpcbfdgbcaaDoor.Eng
namespace Go.Proofs.YtmnhfpcbfdgbcaaDoor.Eng
set_option linter.unusedVariables false
set_option linter.unusedSimpArgs false
open Go.RowKit
theorem cut_yesU {s s1 s2 : St} {bs0 bs bs' : List Bx} {fs0 fs fs' : List Fr} {k j : Nat} {l : List (Nat × Pd)} {e : Env} {Q : Exit → Env → St → Prop} {x : Exit} (hu : UpOk s1 s2) (hl1 : s1.boxes.length = s.boxes.length) (hf1 : s1.fr.length = s.fr.length) (hH : Holds e l) (hl : ∀ p ∈ l.map (·.2), p.Bnd (s.boxes.length + k) (s.fr.length + j)) (hk : k ≤ bs.length) (hj : j ≤ fs.length)
    (hk' : bs.take k = bs') (hj' : fs.take j = fs') (hb : ∀ B ∈ bs', ∀ q ∈ B.cs, q.Bnd (s.boxes.length + k) (s.fr.length + j)) (hq : Q x (Env.of l) (s2.ext bs' fs')) : CutQ (s.boxes.length + k) (s.fr.length + j) (s1.ext bs0 fs0) Q x e (s2.ext bs fs) := by
  subst hk'; subst hj'
  have hl2 : s2.boxes.length = s.boxes.length := hu.len.trans hl1
  have hf2 : s2.fr.length = s.fr.length := by rw [hu.fr]; exact hf1
  refine .inr ⟨l, _, hH, hl, ?_, ?_, ?_, fun i B hi hB => ?_, hq⟩
  · rw [← hl2, ← hf2]; simp only [St.ext, List.take_length_add_append]
  · rw [ext_boxes_length]; omega
  · rw [ext_fr_length]; omega
  · by_cases h1 : i < s.boxes.length
    · have e2 : (s2.ext bs fs).boxes[i]? = s2.boxes[i]? := List.getElem?_append_left (by omega)
      have e1 : (s1.ext bs0 fs0).boxes[i]? = s1.boxes[i]? := List.getElem?_append_left (by omega)
      rw [e2] at hB
      rw [e1]
      rcases hu.bd i B hB with h | h
      · exact .inl h
      · exact .inr fun q hq => (h q hq).up (by omega) (by omega)
    · right
      have e2 : (s2.ext bs fs).boxes[i]? = bs[i - s2.boxes.length]? := List.getElem?_append_right (by omega)
      rw [e2] at hB
      refine hb B ?_
      refine List.mem_of_getElem? (i := i - s2.boxes.length) ?_
      rw [List.getElem?_take_of_lt (by omega)]
      exact hB
end Go.Proofs.YtmnhfpcbfdgbcaaDoor.Eng
namespace Go.Proofs.YtmnhfpcbfdgbcaaDoor.Eng
set_option linter.unusedVariables false
set_option linter.unusedSimpArgs false
open Go.RowKit
theorem opD_storeS {P : Program} {e : Env} {s s2 : St} {dst : Option Tmp} {ty : TypeId} {pos : String} {after : Array Edge} {guard : Option (Nat × Bool)} {bs bs' : List Bx} {fs : List Fr} (hl2 : s2.boxes.length = s.boxes.length) {t : TypeId} {x y : Operand} {i off : Nat} {B : Bx} {p : Pd} (hn : sizeT P t = some 1) (hx : e.ev x = ptr (s.boxes.length + i) off) (hy : (e.ev y).le p) (h1 : p.One) (hB : bs[i]? = some B) (hl : off < B.cs.length) (hb : p.Bnd (s2.boxes ++ bs).length (s2.fr ++ fs).length)
    (h' : bs.set i ⟨B.t, B.cs.set off p⟩ = bs') (hT : Nat.blt B.t HOT = true := by rfl) : OpD P ⟨dst, .store t x y, ty, pos, after, guard⟩ e (s2.ext bs fs) any (s2.ext bs' fs) := by
  subst h'
  rw [← hl2] at hx
  have := opD_store_one (hT := hT) (P := P) (dst := dst) (ty := ty) (pos := pos) (after := after) (guard := guard) (s := s2.ext bs fs) hn hx hy h1 (loc_get hB) hl hb
  have e2 := ext_upd_loc (s := s2) (i := i) (C := ⟨B.t, B.cs.set off p⟩) (bs := bs) (fs := fs)
  rw [← e2]
  exact this
end Go.Proofs.YtmnhfpcbfdgbcaaDoor.Eng
namespace Go.Proofs.YtmnhfpcbfdgbcaaDoor.Eng
set_option linter.unusedVariables false
set_option linter.unusedSimpArgs false
open Go.RowKit
theorem UpOk.upd_upd {s : St} {g : Nat} {A B : Bx} (h : UpOk (s.upd g A) (s.upd g A)) (hB : ∀ q ∈ B.cs, q.Bnd s.boxes.length s.fr.length) : UpOk (s.upd g A) (s.upd g B) := by
  have := (UpOk.refl (s.upd g A)).upd (g := g) (B := B) (by rw [upd_boxes_length]; exact hB)
  rwa [Go.Proofs.YtmnhfpcbfdgbcaaDoor.Eng.upd_upd] at this
theorem opD_UU {P : Program} {e : Env} {s : St} {bs : List Bx} {fs : List Fr} {o : Oper} {p : Pd} {b : Nat} {A C : Bx} (hlt : b < s.boxes.length) (h : OpD P o e ((s.upd b A).ext bs fs) p (((s.upd b A).ext bs fs).upd b C)) : OpD P o e ((s.upd b A).ext bs fs) p ((s.upd b C).ext bs fs) := by
  rw [upd_ext (by rw [upd_boxes_length]; exact hlt), Go.Proofs.YtmnhfpcbfdgbcaaDoor.Eng.upd_upd] at h; exact h
end Go.Proofs.YtmnhfpcbfdgbcaaDoor.Eng
namespace Go.Proofs.YtmnhfpcbfdgbcaaDoor.Eng
set_option linter.unusedVariables false
set_option linter.unusedSimpArgs false
open Go.RowKit
theorem ac_openM2 {P : Program} {f : FuncId} {ps : List Pd} {s : St} {p : Pd} {κ ν : Type} {K : MK κ ν} {l l' : List (κ × ν)} {b : Nat} (hB : s.boxes[b]? = some (MB K l)) (h : ∀ ls c, ls.map (·.1) = l → Born ls c → ∃ ls', ls'.map (·.1) = l' ∧ Born ls' c ∧ AC P f ps (s.upd b (MX K ls c)) p (s.upd b (MX K ls' c))) : AC P f ps s p (s.upd b (MB K l')) := by
  intro g w us hps hs
  obtain ⟨ee, k, h1, h2⟩ := raw_some hs hB
  obtain ⟨x, r, ⟨es, c, rfl, hE⟩, _, h5, _⟩ := raw_at hs hB h1 (fun _ => h2)
  obtain ⟨ls, rfl, q2, q3⟩ := ents_ex hE
  obtain ⟨ls', q4, q5, h⟩ := h ls c q2 q3
  refine (h g w us hps (h5 (q := pl (encM (ls.map (mkE K)) c)) rfl (pl_bnd _ _ _))).mono ?_
  rintro en w1 ⟨v, g1, he, hp, hx, hs1⟩
  refine ⟨v, g1, he, hp, hx, ?_⟩
  have hB1 : (s.upd b (MX K ls' c)).boxes[b]? = some (MX K ls' c) := upd_same hB
  obtain ⟨e1, k1, r1, r2⟩ := raw_some hs1 hB1
  obtain ⟨x1, _, hx1, _, h6, _⟩ := raw_at hs1 hB1 r1 (fun _ => r2)
  have := h6 (q := mp K l') ⟨_, c, hx1, by rw [← q4]; exact ents_of q5⟩ (mp_bnd _ _ _ _)
  rw [Go.Proofs.YtmnhfpcbfdgbcaaDoor.Eng.upd_upd] at this
  exact this
section
variable {P : Program} {e : Env} {s : St} {dst : Option Tmp} {ty : TypeId} {pos : String} {after : Array Edge} {guard : Option (Nat × Bool)} {bs bs' : List Bx} {fs : List Fr} {N : Nat}
/-- A function that makes an object of three variables. -/
theorem callN3 (hN : s.boxes.length = N) {f : FuncId} {xs : List Operand} {ats : Array TypeId} {ps : List Pd} {A B : Bx} {T : Nat → Nat → Bx} {n : Nat} (hf : hasText P f = true) (hc : ∀ s, AC P f ps s (ptr (s.boxes.length + 2) 0) (s.ext [A, B, T (s.boxes.length + 0) (s.boxes.length + 1)] [])) (hx : Args e xs ps) (hn : bs.length = n) (h' : bs ++ [A, B, T (N + n) (N + (n + 1))] = bs') :
    OpD P ⟨dst, .call { callee := .value (.func f), args := xs.toArray, argTypes := ats }, ty, pos, after, guard⟩ e (s.ext bs fs) (ptr (N + (n + 2)) 0) (s.ext bs' fs) := by
  subst hN; subst hn; subst h'
  have := opD_call (P := P) (dst := dst) (ty := ty) (pos := pos) (after := after) (guard := guard) (ats := ats) hf (hc (s.ext bs fs)) hx
  rw [ext_boxes_length, ext_ext, List.append_nil] at this
  exact this
/-- A function that looks at such an object. -/
theorem callT (hN : s.boxes.length = N) {f : FuncId} {xs : List Operand} {ats : Array TypeId} {ps : List Pd} {p : Pd} {A B : Bx} {T : Nat → Nat → Bx} (k : Nat) (hf : hasText P f = true) (hc : ∀ s g1 g2 gT, g1 ≠ g2 → s.boxes[g1]? = some A → s.boxes[g2]? = some B → s.boxes[gT]? = some (T g1 g2) → AC P f (ptr gT 0 :: ps) s p s) (hA : bs[k]? = some A) (hB : bs[k + 1]? = some B) (hT : bs[k + 2]? = some (T (N + k) (N + (k + 1)))) (hx : Args e xs (ptr (N + (k + 2)) 0 :: ps)) :
    OpD P ⟨dst, .call { callee := .value (.func f), args := xs.toArray, argTypes := ats }, ty, pos, after, guard⟩ e (s.ext bs fs) p (s.ext bs fs) := by
  subst hN
  exact opD_call (P := P) (dst := dst) (ty := ty) (pos := pos) (after := after) (guard := guard) (ats := ats) hf (hc (s.ext bs fs) (s.boxes.length + k) (s.boxes.length + (k + 1)) (s.boxes.length + (k + 2)) (by omega) (loc_get hA) (loc_get hB) (loc_get hT)) hx
/-- A function that changes it. -/
theorem callTU (hN : s.boxes.length = N) {f : FuncId} {xs : List Operand} {ats : Array TypeId} {ps : List Pd} {p : Pd} {A B A' B' : Bx} {T : Nat → Nat → Bx} (k : Nat) (hf : hasText P f = true) (hc : ∀ s g1 g2 gT, g1 ≠ g2 → s.boxes[g1]? = some A → s.boxes[g2]? = some B → s.boxes[gT]? = some (T g1 g2) → AC P f (ptr gT 0 :: ps) s p ((s.upd g2 B').upd g1 A')) (hA : bs[k]? = some A) (hB : bs[k + 1]? = some B) (hT : bs[k + 2]? = some (T (N + k) (N + (k + 1)))) (hx : Args e xs (ptr (N + (k + 2)) 0 :: ps)) (h' : (bs.set (k + 1) B').set k A' = bs') :
    OpD P ⟨dst, .call { callee := .value (.func f), args := xs.toArray, argTypes := ats }, ty, pos, after, guard⟩ e (s.ext bs fs) p (s.ext bs' fs) := by
  subst hN; subst h'
  have := opD_call (P := P) (dst := dst) (ty := ty) (pos := pos) (after := after) (guard := guard) (ats := ats) hf (hc (s.ext bs fs) (s.boxes.length + k) (s.boxes.length + (k + 1)) (s.boxes.length + (k + 2)) (by omega) (loc_get hA) (loc_get hB) (loc_get hT)) hx
  rw [ext_upd_loc, ext_upd_loc] at this
  exact this
end
end Go.Proofs.YtmnhfpcbfdgbcaaDoor.Eng

/- The engine: tests that are known. -/
namespace Go.Proofs.YtmnhfpcbfdgbcaaDoor.Eng
set_option linter.unusedVariables false
set_option linter.unusedSimpArgs false
open Go.RowKit
theorem srel_wkb {g : G} {w : World} {s : St} {bs bs' : List Bx} {fs : List Fr} (h : BxLe bs bs') (hb : ∀ B ∈ bs', ∀ q ∈ B.cs, q.Bnd (s.boxes.length + bs'.length) (s.fr.length + fs.length)) (hs : SRel g (s.ext bs fs) w) : SRel g (s.ext bs' fs) w := by
  have hl := h.length
  refine ⟨by rw [hs.len, ext_boxes_length, ext_boxes_length, hl], hs.nd, fun i B hB => ?_, hs.ow, hs.sl, hs.st, hs.sb, hs.bz⟩
  by_cases hi : i < s.boxes.length
  · have hB' : (s.ext bs fs).boxes[i]? = some B := by
      simp only [St.ext, List.getElem?_append_left hi] at hB ⊢; exact hB
    obtain ⟨k, vs, e1, e2, e2c, e3, e4, e6⟩ := hs.bx i B hB'
    exact ⟨k, vs, e1, e2, e2c, e3, e4, by rw [ext_boxes_length, ← hl, ← ext_boxes_length s bs fs]; exact e6⟩
  · simp only [St.ext, List.getElem?_append_right (Nat.le_of_not_lt hi)] at hB
    obtain ⟨D, hD, ht, hle⟩ := h.get _ B hB
    obtain ⟨k, vs, e1, e2, e2c, e3, e4, e6⟩ := hs.bx i D (by simp only [St.ext, List.getElem?_append_right (Nat.le_of_not_lt hi)]; exact hD)
    refine ⟨k, vs, e1, e2.trans (ver_same ht), e2c.same ht, ?_, fun q hq => ⟨fun hn => (e4 q hq).1 (hn.elim (fun h1 => .inl fun h0 => h1 ?_) fun h1 => .inr (by rw [ver_same ht]; exact h1)), (e4 q hq).2⟩, fun q hq => ?_⟩
    · show Pds _ _ _ _
      have e3' : Pds g w D.cs (vs.toList.take D.cs.length) := e3
      rw [← hle.length]
      exact hle.pds e3'
    · have := hle.length
      rw [h0] at this
      exact List.length_eq_zero_iff.1 this.symm
    · rw [ext_boxes_length, ext_fr_length]
      exact hb B (List.mem_of_getElem? hB) q hq
/-- A box told as less. -/
theorem opD_wkN {P : Program} {o : Oper} {e : Env} {s u : St} {p : Pd} {N : Nat} {bs bs' : List Bx} {fs : List Fr} (hN : u.boxes.length = N) (h : OpD P o e s p (u.ext bs fs)) (hl : BxLe bs bs') (hb : ∀ B ∈ bs', ∀ q ∈ B.cs, q.Bnd (N + bs'.length) (u.fr.length + fs.length)) : OpD P o e s p (u.ext bs' fs) := by
  subst hN
  exact fun g a w next Q hx hs hn => h g a w next Q hx hs fun v g' w' hp he hs' => hn v g' w' hp he (srel_wkb hl hb hs')
section
variable {P : Program} {e : Env} {s : St} {dst : Option Tmp} {ty : TypeId} {pos : String} {after : Array Edge} {guard : Option (Nat × Bool)}
theorem opD_pickT {c x y : Operand} {p : Pd} (hc : e.ev c = pl (.bool true)) (hx : e.ev x = p) : OpD P ⟨dst, .pick c x y, ty, pos, after, guard⟩ e s p s := opD_pick hc (fun _ => hx) (fun h => nomatch h)
theorem opD_pickF {c x y : Operand} {p : Pd} (hc : e.ev c = pl (.bool false)) (hy : e.ev y = p) : OpD P ⟨dst, .pick c x y, ty, pos, after, guard⟩ e s p s := opD_pick hc (fun h => nomatch h) (fun _ => hy)
end
end Go.Proofs.YtmnhfpcbfdgbcaaDoor.Eng
