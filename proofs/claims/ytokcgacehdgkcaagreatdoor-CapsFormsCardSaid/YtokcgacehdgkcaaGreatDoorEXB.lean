/- The engine: maps that are read, ranges over them; arrays as slices, slices as arrays; arrays compared. -/
import Derived.Test.YtokcgacehdgkcaaGreatDoorEX8
import Derived.Test.YtokcgacehdgkcaaGreatDoorEX9
import Derived.ChangeKeysEq
import Derived.Sort.Row
import Derived.Test.YtokcgacehdgkcaaGreatDoorEngX3
import Derived.Below
import Derived.Test.YtokcgacehdgkcaaGreatDoorEngX2
import Derived.Laws.Strings2
import Derived.Laws.Slices
import Derived.Test.YtokcgacehdgkcaaGreatDoorEngX4
namespace Go.Proofs.YtokcgacehdgkcaaGreatDoor.Eng
set_option linter.unusedVariables false
set_option linter.unusedSimpArgs false
open Go.RowKit
/-! ### Maps that are read -/
def Pd.and (p q : Pd) : Pd := ⟨fun g w v => p.h g w v ∧ q.h g w v, fun hx ⟨a, b⟩ => ⟨p.mono0 hx a, q.mono0 hx b⟩⟩
section
variable {P : Program} {e : Env} {s : St} {dst : Option Tmp} {ty : TypeId} {pos : String} {after : Array Edge} {guard : Option (Nat × Bool)} {κ ν : Type} [DecidableEq κ] {K : MK κ ν} {f : κ → Option ν} {bs bs' : List Bx} {fs : List Fr} {b : Nat} {M : Pd}
/-! ### Ranges -/
end
/-! ### Loops over entries -/
section
variable {κ ν : Type} {ls : List ((κ × ν) × Nat)} {sn : List Nat} {c : Nat}
/-- The entries that have not come. -/
def rest (ls : List ((κ × ν) × Nat)) (sn : List Nat) : List (κ × ν) := (ls.filter fun y => decide (y.2 ∉ sn)).map (·.1)
variable {T O : Type} {body : Option (κ × ν) → T → Option (T ⊕ O)} {t : T} {o : O}
variable {Rr : Type} {k : O → Option Rr} {R : Rr}
end
/-! ### An array's variable as a slice: it is sealed -/
/-! ### Arrays compared -/
/-! ### The end of a piece that changes objects -/
end Go.Proofs.YtokcgacehdgkcaaGreatDoor.Eng

/- The engine: slices.Sort on a row in place; a map's clone. -/
namespace Go.Proofs.YtokcgacehdgkcaaGreatDoor.Eng
set_option linter.unusedVariables false
set_option linter.unusedSimpArgs false
open Go.RowKit Go.Sort
end Go.Proofs.YtokcgacehdgkcaaGreatDoor.Eng

/- The engine: structs with arrays: their cells. -/
namespace Go.Proofs.YtokcgacehdgkcaaGreatDoor.Eng
set_option linter.unusedVariables false
set_option linter.unusedSimpArgs false
open Go.RowKit
section
variable {α : Type} {k : Kn α} {d : α} {l : List α} {n i j a : Nat} {A B : List Pd}
/-- So many elements of a list; where there is none, d. -/
def nrm (n : Nat) (d : α) (l : List α) : List α := (List.range n).map fun i => l.getD i d
/-- An array's cells. -/
def arrC (n : Nat) (k : Kn α) (d : α) (l : List α) : List Pd := flat k (nrm n d l)
theorem nrm_len : (nrm n d l).length = n := by unfold nrm; rw [List.length_map, List.length_range]
theorem nrm_at (h : i < n) : (nrm n d l)[i]? = some (l.getD i d) := by unfold nrm; rw [List.getElem?_map, List.getElem?_range h]; rfl
theorem nrm_eq (h : l.length = n) : nrm n d l = l := by
  apply List.ext_getElem?
  intro i
  by_cases hi : i < n
  · rw [nrm_at hi, List.getD_eq_getElem?_getD, List.getElem?_eq_getElem (by omega)]; rfl
  · rw [List.getElem?_eq_none (by rw [nrm_len]; omega), List.getElem?_eq_none (by omega)]
theorem arrC_len : (arrC n k d l).length = n * k.sz := by unfold arrC; rw [flat_length, nrm_len]
theorem ones_arr : ∀ p ∈ arrC n k d l, p.One := ones_flat
end
/-! ### An array of a variable, as a slice that is lent; a variable that a closure holds, lent -/
section
variable {s : St} {α : Type} {k : Kn α} {l : List α} {b off n t : Nat} {cs : List Pd}
end
end Go.Proofs.YtokcgacehdgkcaaGreatDoor.Eng

/- The engine: arrays of a few elements, as elements of rows and as arguments. -/
namespace Go.Proofs.YtokcgacehdgkcaaGreatDoor.Eng
set_option linter.unusedVariables false
set_option linter.unusedSimpArgs false
open Go.RowKit
section
variable {α : Type}
/-- An array's cells, by the list of its elements. -/
def kArr (n : Nat) (k : Kn α) (d : α) : Kn (List α) := ⟨n * k.sz, arrC n k d, fun _ => arrC_len, fun _ => ones_arr⟩
theorem openk_arrayN {P : Program} {t e : TypeId} {n : Nat} {k : Kn α} {d : α} {Wf : α → Prop} (ht : P.underlying t = some (.array n e)) (hc : P.cellsOf e = k.sz) (hct : P.cellsOf t = n * k.sz) (he : OpensK P e k Wf) :
    OpensK P t (kArr n k d) (fun l => l.length = n ∧ ∀ a ∈ l, Wf a) := by
  intro H enc w fuel cs x h hlt
  obtain ⟨xs, m, rfl, rfl, hl, hx, hel⟩ := DataW.trod_array ht h
  have hlen : cs.length = n * k.sz := hl.trans hct
  have hwt : ∀ i (hi : i < xs.length), Light P e xs[i].1 := fun i hi q hq => hlt q (by
    have := weights_mem_all (P := P) (e := e) (List.mem_map.2 ⟨_, List.getElem_mem hi, rfl⟩ : xs[i].1 ∈ xs.map (·.1)) q hq
    simpa [DataW.weights, ht] using this)
  have key : ∀ i, i ≤ n → ∃ l : List α, l.length = i ∧ (∀ a ∈ l, Wf a) ∧ Pds (G0 w) w (flat k l) (cs.take (i * k.sz)) := by
    intro i
    induction i with
    | zero => exact fun _ => ⟨[], rfl, (fun a ha => by cases ha), by rw [Nat.zero_mul, List.take_zero]; exact trivial⟩
    | succ i ih =>
      intro hi
      obtain ⟨l, h1, h2, h3⟩ := ih (by omega)
      have h0 := hel i (by omega)
      rw [List.getElem?_eq_getElem (by omega)] at h0
      rw [hc] at h0
      obtain ⟨a, ha, wa⟩ := he _ enc w m _ _ h0 (hwt _ _)
      refine ⟨l ++ [a], by rw [List.length_append, h1]; rfl, fun b hb => ?_, ?_⟩
      · rcases List.mem_append.1 hb with hb | hb
        · exact h2 b hb
        · rw [List.mem_singleton] at hb; subst hb; exact wa
      · have hle : (i + 1) * k.sz ≤ n * k.sz := Nat.mul_le_mul_right _ hi
        rw [Nat.add_mul, Nat.one_mul] at hle ⊢
        have e1 : cs.take (i * k.sz + k.sz) = cs.take (i * k.sz) ++ (cs.drop (i * k.sz)).take k.sz := List.take_add
        have e2 : flat k (l ++ [a]) = flat k l ++ k.cs a := by unfold flat; rw [List.flatMap_append]; simp
        rw [e1, e2]
        exact h3.append ha
  obtain ⟨l, h1, h2, h3⟩ := key n (Nat.le_refl _)
  refine ⟨l, ?_, h1, h2⟩
  rw [List.take_of_length_le (by rw [hlen]; exact Nat.le_refl _)] at h3
  show Pds (G0 w) w (flat k (nrm n d l)) cs
  rw [nrm_eq h1]; exact h3
end
end Go.Proofs.YtokcgacehdgkcaaGreatDoor.Eng

/- The engine: calls that leave all that there was as it was (off the kit's shelf); errors that are none of the program's; several listed variables. -/
namespace Go.Proofs.YtokcgacehdgkcaaGreatDoor.Eng
set_option linter.unusedVariables false
set_option linter.unusedSimpArgs false
open Go.RowKit Go.Sort

theorem ext_below {g : G} {s : St} {w w' : World} (hs : SRel g s w) (hb : Go.RowKit.Below w.heap.size w w') : Ext g w g w' :=
  ⟨hb.os, hb.tape, hb.output, hb.size, fun _ => Nat.le_refl _, fun b o ho => World.cell?_of_block (w := w) (hb.block b (hs.sl b (by omega))), fun _ e h => ⟨e, h, Nat.le_refl _, fun _ => rfl⟩, fun _ h => .inl h, fun _ _ h => h, fun _ _ h => .inl h, fun b _ hb2 _ _ => hb.block b hb2, rfl, fun b o h _ _ => (hb.block b (Array.getElem?_eq_some_iff.1 h).1).trans h⟩
theorem srel_below {g : G} {s : St} {w w' : World} (hs : SRel g s w) (hb : Go.RowKit.Below w.heap.size w w') : SRel g s w' :=
  have hx := ext_below hs hb
  ⟨hs.len, hs.nd, fun i B hB => by
    obtain ⟨e, vs, h1, h2, h3, h4, h5⟩ := hs.bx i B hB
    exact ⟨e, vs, h1, h2, h3.to fun k _ hl => hb.block k hl, h4.mono hx, h5⟩, fun b id c ho => by
    obtain ⟨f, cs, h1, h2, h3⟩ := hs.ow b id c ho
    exact ⟨f, cs, h1, (hb.block b (Array.getElem?_eq_some_iff.1 h2).1).trans h2, h3⟩, fun b hn => Nat.lt_of_lt_of_le (hs.sl b hn) hx.size, s.stat.mono hx hs.st, hs.sb, Nat.le_trans hs.bz hx.size⟩

/-- A call that leaves all that there was as it was. -/
theorem ac_below {P : Program} {f : FuncId} {ps : List Pd} {s : St} {p : Pd}
    (h : ∀ (g : G) (w : World) (vs : List Value), Pds g w ps vs → SRel g s w → Calls P f vs.toArray w fun e w' => ∃ v, e = .returned v ∧ p.h g w' v ∧ Go.RowKit.Below w.heap.size w w') : AC P f ps s p s := by
  intro g w vs hp hs
  refine (h g w vs hp hs).mono ?_
  rintro e w' ⟨v, rfl, hv, hb⟩
  exact ⟨v, g, rfl, hv, ext_below hs hb, srel_below hs hb⟩
theorem below_drewN (w : World) : ∀ n, Go.RowKit.Below w.heap.size w (w.drewN n) := fun n => ⟨rfl, rfl, rfl, Nat.le_refl _, fun _ _ => rfl⟩
theorem below_grow (w : World) (n : Nat) (os : Array Obj) : Go.RowKit.Below w.heap.size w (grow (w.drewN n) os) :=
  ⟨rfl, rfl, rfl, by simp [grow], fun b hb => by
    show (w.heap ++ os)[b]? = _
    rw [Array.getElem?_append_left hb]⟩

/-- An error of whatever kind, or none. -/
def errA (b : Bool) : Pd := ⟨fun _ _ v => (b = false → v = .nilIface) ∧ (b = true → ∃ t p, v = .iface t p), fun _ h => h⟩
theorem opD_errA_neq {P : Program} {e : Env} {s : St} {dst pos after guard} {xt yt ty : TypeId} {x y : Operand} {b : Bool} {ms : Array (String × TypeId)} (hu : P.underlying xt = some (.interface ms)) (hx : e.ev x = errA b) (hy : e.ev y = pl .nilIface)
    (hg : ∀ (t : TypeId) (p : Value) w, (eqGuard .neq xt x y (.iface t p) .nilIface).run P w = .ok () w) (hg0 : ∀ w, (eqGuard .neq xt x y .nilIface .nilIface).run P w = .ok () w)
    (hr : ∀ (t : TypeId) (p : Value) w, (binOp .neq xt (.iface t p) .nilIface).run P w = .ok (.bool true) w) (hr0 : ∀ w, (binOp .neq xt .nilIface .nilIface).run P w = .ok (.bool false) w) :
    OpD P ⟨dst, .binOp .neq xt x y yt, ty, pos, after, guard⟩ e s (pl (.bool b)) s :=
  opD_look fun g a w ha _ => by
    have h1 := ha x (by simp [Op.operands]); rw [hx] at h1
    have h2 : a.eval y = .nilIface := by have := ha y (by simp [Op.operands]); rw [hy] at this; exact this
    obtain ⟨h3, h4⟩ := h1
    cases b with
    | false =>
      have h5 := h3 rfl
      exact ⟨.bool false, by generalize a.eval = ρ at h2 h5 ⊢; simp [execOp, h2, h5, go_sem, hg0, hr0], rfl⟩
    | true =>
      obtain ⟨t, p, h5⟩ := h4 rfl
      exact ⟨.bool true, by generalize a.eval = ρ at h2 h5 ⊢; simp [execOp, h2, h5, go_sem, hg, hr], rfl⟩

/-- Cells of listed variables. -/
def statL (L : List (Nat × Nat × Value)) : Pd := ⟨fun g w _ => ∀ x ∈ L, x.2.1 < g.sld x.1 ∧ w.cell? ⟨x.1, x.2.1, none⟩ = some x.2.2, fun hx h x hm => ⟨Nat.lt_of_lt_of_le (h x hm).1 (hx.sld x.1), by rw [hx.cell x.1 x.2.1 (h x hm).1]; exact (h x hm).2⟩⟩
theorem statL_bnd (L : List (Nat × Nat × Value)) (n m : Nat) : (statL L).Bnd n m := fun _ _ _ _ h _ _ h1 x hm => ⟨by rw [h.1]; exact (h1 x hm).1, (h1 x hm).2⟩
def S0L (L : List (Nat × Nat × Value)) : St := ⟨[], [], statL L⟩
theorem srel0L {w : World} {L : List (Nat × Nat × Value)} (h : ∀ x ∈ L, w.cell? ⟨x.1, x.2.1, none⟩ = some x.2.2) : SRel (G0 w) (S0L L) w :=
  ⟨rfl, fun i j e1 e2 k h1 => by simp [G0] at h1, fun i B hB => by simp [S0L] at hB, (fun b id c h => nomatch h), fun b hb => (by
    simp only [G0] at hb
    cases hh : w.heap[b]? with
    | none => rw [hh] at hb; exact absurd rfl hb
    | some o => exact (Array.getElem?_eq_some_iff.1 hh).1), fun x hx => ⟨(cell_at (h x hx)).2, h x hx⟩, statL_bnd L 0 0, Nat.le_refl _⟩
theorem row_of_acL {P : Program} {f : FuncId} {ps : List Pd} {args : List Value} {w : World} {L : List (Nat × Nat × Value)} {r : Value} (h : AC P f ps (S0L L) (pl r) (S0L L)) (hV : ∀ x ∈ L, w.cell? ⟨x.1, x.2.1, none⟩ = some x.2.2) (hA : Pds (G0 w) w ps args) :
    Calls P f args.toArray w fun e w' => e = .returned r ∧ Go.RowKit.Below w.heap.size w w' := by
  refine (h (G0 w) w args hA (srel0L hV)).mono ?_
  rintro e w' ⟨v, g', rfl, hv, hx, _⟩
  rw [show v = r from hv]
  exact ⟨rfl, hx.os, hx.tape, hx.output, hx.size, fun k hk => hx.block k hk hk (fun ⟨i, e, h1, _⟩ => by simp [G0] at h1) rfl⟩
end Go.Proofs.YtokcgacehdgkcaaGreatDoor.Eng

/- The engine: parts of strings. -/
namespace Go.Proofs.YtokcgacehdgkcaaGreatDoor.Eng
set_option linter.unusedVariables false
set_option linter.unusedSimpArgs false
open Go.RowKit
variable {P : Program} {e : Env} {s : St} {dst : Option Tmp} {ty : TypeId} {pos : String} {after : Array Edge} {guard : Option (Nat × Bool)}
theorem opD_sslice {b : ByteArray} {x lo hi : Operand} {t : TypeId} {k1 k2 : IntKind} {i j : Int} (ht : P.underlying t = some .string) (hx : e.ev x = pl (.string b)) (hlo : e.ev lo = pl (.int k1 i)) (hhi : e.ev hi = pl (.int k2 j)) (h0 : 0 ≤ i) (h1 : i ≤ j) (h2 : j ≤ (b.size : Int)) :
    OpD P ⟨dst, .slice t x (some lo) (some hi) none, ty, pos, after, guard⟩ e s (pl (.string (b.extract i.toNat j.toNat))) s :=
  opD_look fun g a w ha _ => by
    have e1 : a.eval x = .string b := by have := ha x (by simp [Op.operands]); rw [hx] at this; exact this
    have e2 : a.eval lo = .int k1 i := by have := ha lo (by simp [Op.operands]); rw [hlo] at this; exact this
    have e3 : a.eval hi = .int k2 j := by have := ha hi (by simp [Op.operands]); rw [hhi] at this; exact this
    refine ⟨.string (b.extract i.toNat j.toNat), ?_, rfl⟩
    show (Sem.bind (Instr.sliceAt t (a.eval x) (some (a.eval lo)) (some (a.eval hi)) none) fun v => Sem.pure (Next.value v)).run P w = _
    rw [e1, e2, e3]
    refine run_v ?_
    exact (run_sliceAt_string w t _ _ _ _ ht).trans (run_slice_string w t b k1 k2 i j ht h0 h1 h2)
theorem opD_sslice_to {b : ByteArray} {x hi : Operand} {t : TypeId} {k2 : IntKind} {j : Int} (ht : P.underlying t = some .string) (hx : e.ev x = pl (.string b)) (hhi : e.ev hi = pl (.int k2 j)) (h1 : 0 ≤ j) (h2 : j ≤ (b.size : Int)) :
    OpD P ⟨dst, .slice t x none (some hi) none, ty, pos, after, guard⟩ e s (pl (.string (b.extract 0 j.toNat))) s :=
  opD_look fun g a w ha _ => by
    have e1 : a.eval x = .string b := by have := ha x (by simp [Op.operands]); rw [hx] at this; exact this
    have e3 : a.eval hi = .int k2 j := by have := ha hi (by simp [Op.operands]); rw [hhi] at this; exact this
    refine ⟨.string (b.extract 0 j.toNat), ?_, rfl⟩
    show (Sem.bind (Instr.sliceAt t (a.eval x) none (some (a.eval hi)) none) fun v => Sem.pure (Next.value v)).run P w = _
    rw [e1, e3]
    refine run_v ?_
    exact (run_sliceAt_string w t _ _ _ _ ht).trans (run_slice_string_h w t b ht k2 j h1 h2)
theorem opD_sslice_from {b : ByteArray} {x lo : Operand} {t : TypeId} {k1 : IntKind} {i : Int} (ht : P.underlying t = some .string) (hx : e.ev x = pl (.string b)) (hlo : e.ev lo = pl (.int k1 i)) (h0 : 0 ≤ i) (h1 : i ≤ (b.size : Int)) :
    OpD P ⟨dst, .slice t x (some lo) none none, ty, pos, after, guard⟩ e s (pl (.string (b.extract i.toNat b.size))) s :=
  opD_look fun g a w ha _ => by
    have e1 : a.eval x = .string b := by have := ha x (by simp [Op.operands]); rw [hx] at this; exact this
    have e2 : a.eval lo = .int k1 i := by have := ha lo (by simp [Op.operands]); rw [hlo] at this; exact this
    refine ⟨.string (b.extract i.toNat b.size), ?_, rfl⟩
    show (Sem.bind (Instr.sliceAt t (a.eval x) (some (a.eval lo)) none none) fun v => Sem.pure (Next.value v)).run P w = _
    rw [e1, e2]
    refine run_v ?_
    exact (run_sliceAt_string w t _ _ _ _ ht).trans (run_slice_string_l w t b ht k1 i h0 h1)
theorem upto0 {i : Int} {n : Nat} (h : UpTo i n) : 0 ≤ i := h.1
theorem upto1 {i : Int} {n : Nat} (h : UpTo i n) : i ≤ (n : Int) := by have := h.1; have := h.2; omega
theorem btw0 {i j : Int} {n : Nat} (h : Btw i j n) : 0 ≤ i := h.1
theorem btw1 {i j : Int} {n : Nat} (h : Btw i j n) : i ≤ j := h.2.1
theorem btw2 {i j : Int} {n : Nat} (h : Btw i j n) : j ≤ (n : Int) := by have := h.1; have := h.2.1; have := h.2.2; omega
end Go.Proofs.YtokcgacehdgkcaaGreatDoor.Eng
