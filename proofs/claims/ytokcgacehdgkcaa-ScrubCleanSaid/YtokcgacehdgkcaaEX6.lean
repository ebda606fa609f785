/- The engine: maps, as variables whose one cell tells all entries. -/
import Derived.Test.YtokcgacehdgkcaaEX5
import Derived.MapKept
import Derived.Maps.RangeRun
namespace Go.Proofs.Ytokcgacehdgkcaa.Eng
set_option linter.unusedVariables false
set_option linter.unusedSimpArgs false
open Go.RowKit

structure MK (κ ν : Type) where
  ek : κ → Value
  ev : ν → Value
def encE (e : MapEntry) : List Value := [e.key, e.val, .int .i64 e.born]
def encM (es : List MapEntry) (c : Nat) : Value := .agg (.int .i64 c :: .int .i64 es.length :: es.flatMap encE).toArray
structure Ents {κ ν : Type} (K : MK κ ν) (l : List (κ × ν)) (es : List MapEntry) (c : Nat) : Prop where
  kv : es.map (fun e => (e.key, e.val)) = l.map (fun x => (K.ek x.1, K.ev x.2))
  inc : es.Pairwise (fun a b => a.born < b.born)
  lt : ∀ e ∈ es, e.born < c
/-- A map's entries. -/
def mp {κ ν : Type} (K : MK κ ν) (l : List (κ × ν)) : Pd := ⟨fun _ _ v => ∃ es c, v = encM es c ∧ Ents K l es c, fun _ h => h⟩
section
variable {κ ν : Type} {K : MK κ ν} {l : List (κ × ν)} {es : List MapEntry} {c : Nat}
theorem Ents.len (h : Ents K l es c) : es.length = l.length := by have := congrArg List.length h.kv; simpa using this
theorem Ents.at (h : Ents K l es c) {i : Nat} {x : κ × ν} (hx : l[i]? = some x) : ∃ e, es[i]? = some e ∧ e.key = K.ek x.1 ∧ e.val = K.ev x.2 := by
  have h1 := congrArg (fun l => l[i]?) h.kv
  simp only [List.getElem?_map, hx, Option.map_some] at h1
  obtain ⟨e, he, h2⟩ := Option.map_eq_some_iff.1 h1
  simp only [Prod.mk.injEq] at h2
  exact ⟨e, he, h2.1, h2.2⟩
end
end Go.Proofs.Ytokcgacehdgkcaa.Eng

/- The engine: what is done with maps. -/
namespace Go.Proofs.Ytokcgacehdgkcaa.Eng
set_option linter.unusedVariables false
set_option linter.unusedSimpArgs false
open Go.RowKit

section
variable {P : Program} {e : Env} {s : St} {dst : Option Tmp} {ty : TypeId} {pos : String} {after : Array Edge} {guard : Option (Nat × Bool)} {κ ν : Type} {K : MK κ ν} {l : List (κ × ν)}
end
end Go.Proofs.Ytokcgacehdgkcaa.Eng

/- The engine: rows that are read and written in place, element by element. -/
namespace Go.Proofs.Ytokcgacehdgkcaa.Eng
set_option linter.unusedVariables false
set_option linter.unusedSimpArgs false
open Go.RowKit

section
variable {P : Program} {e : Env} {s : St} {dst : Option Tmp} {ty : TypeId} {pos : String} {after : Array Edge} {guard : Option (Nat × Bool)} {bs bs' : List Bx} {fs : List Fr}
theorem opD_indexAddr_h {b r n sz i : Nat} {x ix : Operand} {t te : TypeId} {kk : IntKind} {m : Int} {cs : List Pd} (ht : P.underlying t = some (.slice te)) (hsz : sizeT P te = some sz) (hte : Nat.blt te HOT = true) (hB : s.boxes[b]? = some ⟨hot te r, cs⟩)
    (hx : e.ev x = hsl b r 0 n sz) (hi : e.ev ix = pl (.int kk m)) (hm : m = (i : Int)) (hl : i < n) : OpD P ⟨dst, .indexAddr t x ix, ty, pos, after, guard⟩ e s (ptv b r (i * sz)) s :=
  opD_look fun g a w ha hs => by
    have h1 := ha x (by simp [Op.operands])
    have h2 := ha ix (by simp [Op.operands])
    rw [hx] at h1
    rw [hi] at h2
    obtain ⟨e0, A, c, q1, q2, hv, hnc, hA, hb⟩ := h1
    obtain ⟨ee', vs, r1, r2, _⟩ := hs.bx b _ hB
    rw [q1] at r1; cases r1
    have hb := hb (by rw [r2]; exact hot_ver hte)
    have h2' : a.eval ix = .int kk m := h2
    subst hm
    rcases hb with ⟨_, hc0⟩ | ⟨k, hk, rfl, _⟩
    · omega
    · refine ⟨.pointer (some ⟨k, i * sz, none⟩), ?_, e0, k, q1, q2, rfl, fun _ => hk⟩
      show (Sem.bind (Instr.indexAt t (a.eval x) (a.eval ix)) fun v => Sem.pure (Next.value v)).run P w = _
      rw [hv, h2']
      refine run_v ?_
      have hl' : (i : Int) < (n : Int) := by omega
      simp [Instr.indexAt, asIntOf, run_underlying ht, hl, run_sizeOf hsz, Addr.add_lit]
theorem opD_store1_h {t te : TypeId} {x y : Operand} {b r off : Nat} {cs : List Pd} {p : Pd} (hn : sizeT P t = some 1) (hte : Nat.blt te HOT = true) (hr : 2 ≤ r) (hx : e.ev x = ptv b r off) (hy : (e.ev y).le p) (h1 : p.One) (hB : s.boxes[b]? = some ⟨hot te r, cs⟩) (hl : off < cs.length) (hb : p.Bnd s.boxes.length s.fr.length) :
    OpD P ⟨dst, .store t x y, ty, pos, after, guard⟩ e s any (s.upd b ⟨hot te r, cs.set off p⟩) :=
  opD_skip fun g a w ha hs => by
    have e1 := ha x (by simp [Op.operands])
    have e2 := ha y (by simp [Op.operands])
    rw [hx] at e1
    replace e2 := hy _ _ _ e2
    have hne : (⟨hot te r, cs⟩ : Bx).cs ≠ [] := fun h => by rw [show cs = [] from h] at hl; simp at hl
    have hv0 : (⟨hot te r, cs⟩ : Bx).ver = r := hot_ver hte
    obtain ⟨e0, k, vs, hv, hk, hkb, h3, hcn, h4, h5, h6, _, h7⟩ := ptv_at hs e1 hB hv0 hne
    rw [hot_obj hte hr] at h3
    have hvl := h4.len
    have hvs : cs.length ≤ vs.size := by simpa using hvl
    have hone := h1 _ _ _ e2
    have hc := cells_of_one hone
    have hrun := run_storeVar (P := P) (v := a.eval y) hn (by rw [hc]; rfl) (by rw [hc]; simpa using hone) h3 (off := off) (by omega)
    have hset : vs.toList.take off ++ [a.eval y] ++ vs.toList.drop (off + 1) = vs.toList.set off (a.eval y) := by
      have : off < vs.toList.length := by simpa using (by omega : off < vs.size)
      rw [List.set_eq_take_append_cons_drop, if_pos this]
      simp
    have hcl : (vs.toList.take off ++ (a.eval y).cells.toList ++ vs.toList.drop (off + 1)) = vs.toList.set off (a.eval y) := by rw [hc]; exact hset
    refine ⟨g, w.setRow k (vs.toList.take off ++ (a.eval y).cells.toList ++ vs.toList.drop (off + 1)).toArray, ?_, ext_setRow hs ⟨b, e0, hk, hkb⟩ h5 _, srel_setCells hs hB hk hkb (by rw [show (⟨hot te r, cs⟩ : Bx).t = hot te r from rfl, hot_mod hte]; exact h3) (by rw [hv0]; cases hq : Nat.beq r 1 with | false => rfl | true => have := Nat.eq_of_beq_eq_true hq; omega) h5 (fun h => ?_) ?_ ?_⟩
    · show (Sem.bind (Instr.storeAt t (a.eval x) (a.eval y)) fun _ => Sem.pure Next.skip).run P w = _
      rw [hv]
      exact run_u hrun
    · rw [hcl]
      have := hcn h
      simpa using this
    · show PdsP g w _ (vs.toList.take off ++ (a.eval y).cells.toList ++ vs.toList.drop (off + 1))
      rw [hcl]
      exact h4.set off e2
    · intro q hq
      rcases List.mem_or_eq_of_mem_set hq with hq | rfl
      · exact h7 q hq
      · exact hb
theorem elem_lt {α : Type} {k : Kn α} {l : List α} {i : Nat} (h : i < l.length) : i * k.sz + k.sz ≤ (flat k l).length := by
  rw [flat_length]
  have : (i + 1) * k.sz ≤ l.length * k.sz := Nat.mul_le_mul_right _ h
  rw [Nat.add_mul, Nat.one_mul] at this; exact this
end
end Go.Proofs.Ytokcgacehdgkcaa.Eng

/- The engine: one goes through a map. -/
namespace Go.Proofs.Ytokcgacehdgkcaa.Eng
set_option linter.unusedVariables false
set_option linter.unusedSimpArgs false
open Go.RowKit

section
variable {P : Program} {nt : Nat} {c0 : Code} {Q : Exit → Env → St → Prop} {e : Env} {s : St} {κ ν : Type} {K : MK κ ν}
end
end Go.Proofs.Ytokcgacehdgkcaa.Eng

/- Maps as lists of entries: what is got, set, deleted. -/
namespace Go.Proofs.Ytokcgacehdgkcaa.Eng
set_option linter.unusedVariables false
set_option linter.unusedSimpArgs false
variable {κ ν : Type} [DecidableEq κ] {l : List (κ × ν)} {k j : κ} {v w : ν}
end Go.Proofs.Ytokcgacehdgkcaa.Eng
