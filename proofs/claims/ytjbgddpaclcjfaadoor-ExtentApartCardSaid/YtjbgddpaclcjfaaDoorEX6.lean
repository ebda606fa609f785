/- The engine: maps, as variables whose one cell tells all entries. -/
import Derived.Test.YtjbgddpaclcjfaaDoorEX5
import Derived.MapKept
import Derived.Maps.RangeRun
namespace Go.Proofs.YtjbgddpaclcjfaaDoor.Eng
set_option linter.unusedVariables false
set_option linter.unusedSimpArgs false
open Go.RowKit

structure MK (κ ν : Type) where
  ek : κ → Value
  ev : ν → Value
def encE (e : MapEntry) : List Value := [e.key, e.val, .int .i64 e.born]
def encM (es : List MapEntry) (c : Nat) : Value := .agg (.int .i64 c :: .int .i64 es.length :: es.flatMap encE).toArray
structure Ents {κ ν : Type} (K : MK κ ν) (l : List (κ × ν)) (es : List MapEntry) (c : Nat) : Prop where
  kv : es.map (fun e => (e.key, e.val)) = l.map (fun x => (K.ek x.1, K.ev x.2))
  inc : es.Pairwise (fun a b => a.born < b.born)
  lt : ∀ e ∈ es, e.born < c
/-- A map's entries. -/
def mp {κ ν : Type} (K : MK κ ν) (l : List (κ × ν)) : Pd := ⟨fun _ _ v => ∃ es c, v = encM es c ∧ Ents K l es c, fun _ h => h⟩
section
variable {κ ν : Type} {K : MK κ ν} {l : List (κ × ν)} {es : List MapEntry} {c : Nat}
theorem Ents.len (h : Ents K l es c) : es.length = l.length := by have := congrArg List.length h.kv; simpa using this
theorem Ents.at (h : Ents K l es c) {i : Nat} {x : κ × ν} (hx : l[i]? = some x) : ∃ e, es[i]? = some e ∧ e.key = K.ek x.1 ∧ e.val = K.ev x.2 := by
  have h1 := congrArg (fun l => l[i]?) h.kv
  simp only [List.getElem?_map, hx, Option.map_some] at h1
  obtain ⟨e, he, h2⟩ := Option.map_eq_some_iff.1 h1
  simp only [Prod.mk.injEq] at h2
  exact ⟨e, he, h2.1, h2.2⟩
end
end Go.Proofs.YtjbgddpaclcjfaaDoor.Eng

/- The engine: what is done with maps. -/
namespace Go.Proofs.YtjbgddpaclcjfaaDoor.Eng
set_option linter.unusedVariables false
set_option linter.unusedSimpArgs false
open Go.RowKit

section
variable {P : Program} {e : Env} {s : St} {dst : Option Tmp} {ty : TypeId} {pos : String} {after : Array Edge} {guard : Option (Nat × Bool)} {κ ν : Type} {K : MK κ ν} {l : List (κ × ν)}
end
end Go.Proofs.YtjbgddpaclcjfaaDoor.Eng

/- The engine: rows that are read and written in place, element by element. -/
namespace Go.Proofs.YtjbgddpaclcjfaaDoor.Eng
set_option linter.unusedVariables false
set_option linter.unusedSimpArgs false
open Go.RowKit

section
variable {P : Program} {e : Env} {s : St} {dst : Option Tmp} {ty : TypeId} {pos : String} {after : Array Edge} {guard : Option (Nat × Bool)} {bs bs' : List Bx} {fs : List Fr}
theorem opD_indexAddr_h {b r n sz i : Nat} {x ix : Operand} {t te : TypeId} {kk : IntKind} {m : Int} {cs : List Pd} (ht : P.underlying t = some (.slice te)) (hsz : sizeT P te = some sz) (hte : Nat.blt te HOT = true) (hB : s.boxes[b]? = some ⟨hot te r, cs⟩)
    (hx : e.ev x = hsl b r 0 n sz) (hi : e.ev ix = pl (.int kk m)) (hm : m = (i : Int)) (hl : i < n) : OpD P ⟨dst, .indexAddr t x ix, ty, pos, after, guard⟩ e s (ptv b r (i * sz)) s :=
  opD_look fun g a w ha hs => by
    have h1 := ha x (by simp [Op.operands])
    have h2 := ha ix (by simp [Op.operands])
    rw [hx] at h1
    rw [hi] at h2
    obtain ⟨e0, A, c, q1, q2, hv, hnc, hA, hb⟩ := h1
    obtain ⟨ee', vs, r1, r2, _⟩ := hs.bx b _ hB
    rw [q1] at r1; cases r1
    have hb := hb (by rw [r2]; exact hot_ver hte)
    have h2' : a.eval ix = .int kk m := h2
    subst hm
    rcases hb with ⟨_, hc0⟩ | ⟨k, hk, rfl, _⟩
    · omega
    · refine ⟨.pointer (some ⟨k, i * sz, none⟩), ?_, e0, k, q1, q2, rfl, fun _ => hk⟩
      show (Sem.bind (Instr.indexAt t (a.eval x) (a.eval ix)) fun v => Sem.pure (Next.value v)).run P w = _
      rw [hv, h2']
      refine run_v ?_
      have hl' : (i : Int) < (n : Int) := by omega
      simp [Instr.indexAt, asIntOf, run_underlying ht, hl, run_sizeOf hsz, Addr.add_lit]
theorem opD_load1_h {t te : TypeId} {x : Operand} {b r off : Nat} {cs : List Pd} {p : Pd} (ht : aggT P t = some false) (hte : Nat.blt te HOT = true) (hr : 2 ≤ r) (hx : e.ev x = ptv b r off) (hB : s.boxes[b]? = some ⟨hot te r, cs⟩) (hp : cs[off]? = some p) :
    OpD P ⟨dst, .load t x, ty, pos, after, guard⟩ e s p s :=
  opD_look fun g a w ha hs => by
    have h1 := ha x (by simp [Op.operands])
    rw [hx] at h1
    obtain ⟨e0, k, vs, hv, hk, hb, h3, _, h4, _⟩ := ptv_at hs h1 hB (hot_ver hte) (by intro h; rw [show cs = [] from h] at hp; cases hp)
    rw [hot_obj hte hr] at h3
    obtain ⟨v, hv2, hp2⟩ := h4.get off p hp
    refine ⟨v, ?_, hp2⟩
    have hc : w.cell? ⟨k, off, none⟩ = some v := by rw [box_cell (g := g) h3]; simpa using hv2
    exact run_load hv (run_loadVar_one ht hc)
theorem opD_loadA_h {t te : TypeId} {n : Nat} {x : Operand} {b r off : Nat} {cs qs : List Pd} (ht : aggT P t = some true) (hn : sizeT P t = some n) (hte : Nat.blt te HOT = true) (hr : 2 ≤ r) (hx : e.ev x = ptv b r off) (hB : s.boxes[b]? = some ⟨hot te r, cs⟩) (hl : off + n ≤ cs.length) (hn0 : 0 < n) (hq : (cs.drop off).take n = qs) :
    OpD P ⟨dst, .load t x, ty, pos, after, guard⟩ e s (agg qs) s :=
  opD_look fun g a w ha hs => by
    subst hq
    have h1 := ha x (by simp [Op.operands])
    rw [hx] at h1
    obtain ⟨e0, k, vs, hv, hk, hb, h3, _, h4, _⟩ := ptv_at hs h1 hB (hot_ver hte) (by intro h; rw [show cs = [] from h] at hl; simp at hl; omega)
    rw [hot_obj hte hr] at h3
    have hvl := h4.len
    have hvl2 : cs.length ≤ vs.size := by simpa using hvl
    refine ⟨.agg ((vs.toList.drop off).take n).toArray, ?_, _, rfl, by simpa using (h4.drop off).part (n := n) (by rw [List.length_drop]; show n ≤ cs.length - off; omega)⟩
    have hc : ∀ j v, ((vs.toList.drop off).take n)[j]? = some v → w.cell? ((⟨k, off, none⟩ : Addr).add j) = some v := by
      intro j v hj
      rw [Addr.add_lit, box_cell (g := g) h3]
      have hjl := (List.getElem?_eq_some_iff.1 hj).1
      simp only [List.length_take, List.length_drop] at hjl
      rw [List.getElem?_take_of_lt (by omega), List.getElem?_drop] at hj
      simpa using hj
    have := run_loadVar_agg ht hn (cs := (vs.toList.drop off).take n) (by have h9 : cs.length ≤ vs.toList.length := hvl; rw [List.length_take, List.length_drop]; omega) hc
    exact run_load hv this
theorem opD_store1_h {t te : TypeId} {x y : Operand} {b r off : Nat} {cs : List Pd} {p : Pd} (hn : sizeT P t = some 1) (hte : Nat.blt te HOT = true) (hr : 2 ≤ r) (hx : e.ev x = ptv b r off) (hy : (e.ev y).le p) (h1 : p.One) (hB : s.boxes[b]? = some ⟨hot te r, cs⟩) (hl : off < cs.length) (hb : p.Bnd s.boxes.length s.fr.length) :
    OpD P ⟨dst, .store t x y, ty, pos, after, guard⟩ e s any (s.upd b ⟨hot te r, cs.set off p⟩) :=
  opD_skip fun g a w ha hs => by
    have e1 := ha x (by simp [Op.operands])
    have e2 := ha y (by simp [Op.operands])
    rw [hx] at e1
    replace e2 := hy _ _ _ e2
    have hne : (⟨hot te r, cs⟩ : Bx).cs ≠ [] := fun h => by rw [show cs = [] from h] at hl; simp at hl
    have hv0 : (⟨hot te r, cs⟩ : Bx).ver = r := hot_ver hte
    obtain ⟨e0, k, vs, hv, hk, hkb, h3, hcn, h4, h5, h6, _, h7⟩ := ptv_at hs e1 hB hv0 hne
    rw [hot_obj hte hr] at h3
    have hvl := h4.len
    have hvs : cs.length ≤ vs.size := by simpa using hvl
    have hone := h1 _ _ _ e2
    have hc := cells_of_one hone
    have hrun := run_storeVar (P := P) (v := a.eval y) hn (by rw [hc]; rfl) (by rw [hc]; simpa using hone) h3 (off := off) (by omega)
    have hset : vs.toList.take off ++ [a.eval y] ++ vs.toList.drop (off + 1) = vs.toList.set off (a.eval y) := by
      have : off < vs.toList.length := by simpa using (by omega : off < vs.size)
      rw [List.set_eq_take_append_cons_drop, if_pos this]
      simp
    have hcl : (vs.toList.take off ++ (a.eval y).cells.toList ++ vs.toList.drop (off + 1)) = vs.toList.set off (a.eval y) := by rw [hc]; exact hset
    refine ⟨g, w.setRow k (vs.toList.take off ++ (a.eval y).cells.toList ++ vs.toList.drop (off + 1)).toArray, ?_, ext_setRow hs ⟨b, e0, hk, hkb⟩ h5 _, srel_setCells hs hB hk hkb (by rw [show (⟨hot te r, cs⟩ : Bx).t = hot te r from rfl, hot_mod hte]; exact h3) (by rw [hv0]; cases hq : Nat.beq r 1 with | false => rfl | true => have := Nat.eq_of_beq_eq_true hq; omega) h5 (fun h => ?_) ?_ ?_⟩
    · show (Sem.bind (Instr.storeAt t (a.eval x) (a.eval y)) fun _ => Sem.pure Next.skip).run P w = _
      rw [hv]
      exact run_u hrun
    · rw [hcl]
      have := hcn h
      simpa using this
    · show PdsP g w _ (vs.toList.take off ++ (a.eval y).cells.toList ++ vs.toList.drop (off + 1))
      rw [hcl]
      exact h4.set off e2
    · intro q hq
      rcases List.mem_or_eq_of_mem_set hq with hq | rfl
      · exact h7 q hq
      · exact hb
theorem opD_storeA_h {t te : TypeId} {n : Nat} {x y : Operand} {b r off : Nat} {cs ps cs' : List Pd} (hn : sizeT P t = some n) (hte : Nat.blt te HOT = true) (hr : 2 ≤ r) (hx : e.ev x = ptv b r off) (hy : e.ev y = agg ps) (h1 : ∀ p ∈ ps, p.One) (hB : s.boxes[b]? = some ⟨hot te r, cs⟩) (hps : ps.length = n) (hl : off + n ≤ cs.length) (hn0 : 0 < n)
    (hb : ∀ p ∈ ps, p.Bnd s.boxes.length s.fr.length) (hc' : cs.take off ++ ps ++ cs.drop (off + n) = cs') : OpD P ⟨dst, .store t x y, ty, pos, after, guard⟩ e s any (s.upd b ⟨hot te r, cs'⟩) :=
  opD_skip fun g a w ha hs => by
    subst hc'
    have e1 := ha x (by simp [Op.operands])
    have e2 := ha y (by simp [Op.operands])
    rw [hx] at e1
    rw [hy] at e2
    have hne : (⟨hot te r, cs⟩ : Bx).cs ≠ [] := fun h => by rw [show cs = [] from h] at hl; simp at hl; omega
    have hv0 : (⟨hot te r, cs⟩ : Bx).ver = r := hot_ver hte
    obtain ⟨e0, k, vs, hv, hk, hkb, h3, hcn, h4, h5, h6, _, h7⟩ := ptv_at hs e1 hB hv0 hne
    rw [hot_obj hte hr] at h3
    obtain ⟨us, hv2, hp⟩ := e2
    have hvl := h4.len
    have hvs : cs.length ≤ vs.size := by simpa using hvl
    have hpl := hp.length
    have hc : (a.eval y).cells = us := by rw [hv2]; rfl
    have hrun := run_storeVar (P := P) (v := a.eval y) hn (by rw [hc, ← hps, ← hpl]; simp) (by rw [hc]; intro u hu; exact one_agg_mem h1 hp u (by simpa using hu)) h3 (off := off) (by omega)
    refine ⟨g, w.setRow k (vs.toList.take off ++ (a.eval y).cells.toList ++ vs.toList.drop (off + n)).toArray, ?_, ext_setRow hs ⟨b, e0, hk, hkb⟩ h5 _, srel_setCells hs hB hk hkb (by rw [show (⟨hot te r, cs⟩ : Bx).t = hot te r from rfl, hot_mod hte]; exact h3) (by rw [hv0]; cases hq : Nat.beq r 1 with | false => rfl | true => have := Nat.eq_of_beq_eq_true hq; omega) h5 (fun h => ?_) ?_ ?_⟩
    · show (Sem.bind (Instr.storeAt t (a.eval x) (a.eval y)) fun _ => Sem.pure Next.skip).run P w = _
      rw [hv]
      exact run_u hrun
    · have h8 : vs.size = e0.cnt := hcn h
      rw [hc]
      simp
      have hu : us.size = n := by rw [← hps, ← hpl]; simp
      omega
    · rw [hc]
      exact PdsP.append ((h4.part (n := off) (by show off ≤ cs.length; omega)).append hp) (h4.drop (off + n))
    · intro q hq
      rcases List.mem_append.1 hq with hq | hq
      · rcases List.mem_append.1 hq with hq | hq
        · exact h7 q (List.mem_of_mem_take hq)
        · exact hb q hq
      · exact h7 q (List.mem_of_mem_drop hq)
/-- An element of a row. -/
theorem flat_elem {α : Type} {k : Kn α} {l : List α} {i : Nat} {x : α} (h : l[i]? = some x) : ((flat k l).drop (i * k.sz)).take k.sz = k.cs x := by
  rw [flat_drop, List.drop_eq_getElem_cons (List.getElem?_eq_some_iff.1 h).1, (List.getElem?_eq_some_iff.1 h).2]
  show (List.flatMap k.cs (x :: _)).take k.sz = _
  rw [List.flatMap_cons, List.take_append_of_le_length (by rw [k.len]; exact Nat.le_refl _), List.take_of_length_le (by rw [k.len]; exact Nat.le_refl _)]
theorem flat_put {α : Type} {k : Kn α} {l : List α} {i : Nat} {x : α} (h : i < l.length) : (flat k l).take (i * k.sz) ++ k.cs x ++ (flat k l).drop (i * k.sz + k.sz) = flat k (l.set i x) := by
  rw [show i * k.sz + k.sz = (i + 1) * k.sz by rw [Nat.add_mul, Nat.one_mul], flat_take, flat_drop, List.set_eq_take_append_cons_drop, if_pos h, flat_append]
  show flat k (l.take i) ++ k.cs x ++ _ = flat k (l.take i) ++ List.flatMap k.cs (x :: l.drop (i + 1))
  rw [List.flatMap_cons, List.append_assoc]; rfl
theorem elem_lt {α : Type} {k : Kn α} {l : List α} {i : Nat} (h : i < l.length) : i * k.sz + k.sz ≤ (flat k l).length := by
  rw [flat_length]
  have : (i + 1) * k.sz ≤ l.length * k.sz := Nat.mul_le_mul_right _ h
  rw [Nat.add_mul, Nat.one_mul] at this; exact this
/-- A whole element, read and written. -/
theorem loadE {α : Type} {k : Kn α} {l : List α} {t : TypeId} {b r i : Nat} {x : Operand} {y : α} (ht : aggT P t = some true) (hn : sizeT P t = some k.sz) (hte : Nat.blt t HOT = true) (hr : 2 ≤ r) (hz : 0 < k.sz) (hx : e.ev x = ptv b r (i * k.sz)) (hB : s.boxes[b]? = some ⟨hot t r, flat k l⟩) (hi : l[i]? = some y) :
    OpD P ⟨dst, .load t x, ty, pos, after, guard⟩ e s (agg (k.cs y)) s := opD_loadA_h ht hn hte hr hx hB (elem_lt (List.getElem?_eq_some_iff.1 hi).1) hz (flat_elem hi)
theorem storeE {α : Type} {k : Kn α} {l : List α} {t : TypeId} {b r i : Nat} {x u : Operand} {y : α} (hn : sizeT P t = some k.sz) (hte : Nat.blt t HOT = true) (hr : 2 ≤ r) (hz : 0 < k.sz) (hx : e.ev x = ptv b r (i * k.sz)) (hu : e.ev u = agg (k.cs y)) (hB : s.boxes[b]? = some ⟨hot t r, flat k l⟩) (hi : i < l.length) (hkb : ∀ x n m, ∀ p ∈ k.cs x, p.Bnd n m) :
    OpD P ⟨dst, .store t x u, ty, pos, after, guard⟩ e s any (s.upd b ⟨hot t r, flat k (l.set i y)⟩) := opD_storeA_h hn hte hr hx hu (fun p hp => k.one y p hp) hB (k.len y) (elem_lt hi) hz (fun p hp => hkb y _ _ p hp) (flat_put hi)
end
end Go.Proofs.YtjbgddpaclcjfaaDoor.Eng

/- The engine: one goes through a map. -/
namespace Go.Proofs.YtjbgddpaclcjfaaDoor.Eng
set_option linter.unusedVariables false
set_option linter.unusedSimpArgs false
open Go.RowKit

section
variable {P : Program} {nt : Nat} {c0 : Code} {Q : Exit → Env → St → Prop} {e : Env} {s : St} {κ ν : Type} {K : MK κ ν}
end
end Go.Proofs.YtjbgddpaclcjfaaDoor.Eng

/- Maps as lists of entries: what is got, set, deleted. -/
namespace Go.Proofs.YtjbgddpaclcjfaaDoor.Eng
set_option linter.unusedVariables false
set_option linter.unusedSimpArgs false
variable {κ ν : Type} [DecidableEq κ] {l : List (κ × ν)} {k j : κ} {v w : ν}
end Go.Proofs.YtjbgddpaclcjfaaDoor.Eng
