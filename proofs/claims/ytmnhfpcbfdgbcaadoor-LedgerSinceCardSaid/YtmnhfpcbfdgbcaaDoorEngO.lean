/- The engine: elements that are arrays; drawn regions in which nothing is written. -/
import Derived.Test.YtmnhfpcbfdgbcaaDoorEngN
namespace Go.Proofs.YtmnhfpcbfdgbcaaDoor.Eng
set_option linter.unusedVariables false
set_option linter.unusedSimpArgs false
open Go.RowKit

/-- Pairs of numbers, as arrays of two. -/
def kP2 (k : IntKind) : Kn (Int × Int) := ⟨2, fun x => [pl (.int k x.1), pl (.int k x.2)], fun _ => rfl, fun _ p hp g w v h => by
  rcases List.mem_cons.1 hp with rfl | hp
  · rw [show v = _ from h]; rfl
  · rcases List.mem_cons.1 hp with rfl | hp
    · rw [show v = _ from h]; rfl
    · cases hp⟩
theorem kP2_bnd (k : IntKind) (l : List (Int × Int)) (n m : Nat) : ∀ x ∈ l, ∀ p ∈ (kP2 k).cs x, p.Bnd n m := fun x _ p hp => by
  rcases List.mem_cons.1 hp with rfl | hp
  · exact pl_bnd _ _ _
  · rcases List.mem_cons.1 hp with rfl | hp
    · exact pl_bnd _ _ _
    · cases hp

section
variable {P : Program} {e : Env} {s : St} {dst : Option Tmp} {ty : TypeId} {pos : String} {after : Array Edge} {guard : Option (Nat × Bool)}
theorem opD_indexAddr_el {α : Type} {K : Kn α} {l : List α} {t te : TypeId} {len sz : Nat} {x ix : Operand} {kk : IntKind} {n : Int} {i j off : Nat} (ht : P.underlying t = some (.array len te)) (hsz : sizeT P te = some sz) (hx : e.ev x = el K l j off) (hi : e.ev ix = pl (.int kk n)) (hn : n = (i : Int)) (hl : i < len) :
    OpD P ⟨dst, .indexAddr t x ix, ty, pos, after, guard⟩ e s (el K l j (off + i * sz)) s :=
  opD_look fun g a w ha _ => by
    have h1 := ha x (by simp [Op.operands])
    have h2 : a.eval ix = .int kk n := by have := ha ix (by simp [Op.operands]); rw [hi] at this; exact this
    rw [hx] at h1
    obtain ⟨b, o, hv, hc⟩ := h1
    subst hn
    refine ⟨.pointer (some ⟨b, o + j * K.sz + (off + i * sz), none⟩), ?_, b, o, rfl, hc⟩
    show (Sem.bind (Instr.indexAt t (a.eval x) (a.eval ix)) fun v => Sem.pure (Next.value v)).run P w = _
    rw [hv, h2]
    refine run_v ?_
    simp [Instr.indexAt, asIntOf, run_underlying ht, hl, run_sizeOf hsz, Instr.sureAddr, Addr.add_lit, Nat.add_assoc]
end

/-- A drawn region in which nothing is written: whatever the order, the state is the same. -/
inductive ZT (P : Program) (ops : Array Oper) (K : Env → Prop) : List Oper → Env → St → Prop
  | nil {e : Env} {s : St} : K e → ZT P ops K [] e s
  | step {o : Oper} {l : List Oper} {e : Env} {s : St} (p : Pd) : Wants ops o e true → OpD P o e s p s → ZT P ops K l (e.put o.dst p) s → ZT P ops K (o :: l) e s
  | skip {o : Oper} {l : List Oper} {e : Env} {s : St} : Wants ops o e false → ZT P ops K l (e.put o.dst (pl undef)) s → ZT P ops K (o :: l) e s

theorem ZT.tr {P : Program} {ops : Array Oper} {K : Env → Prop} {l : List Oper} {e : Env} {s : St} (h : ZT P ops K l e s) : ∃ tr e', TR P ops l e s tr e' s ∧ K e' ∧ (∀ t ∈ tr, isAct t = false ∧ (t.cl = .load → t.L = fun s' => s' = s)) := by
  induction h with
  | nil hk => exact ⟨[], _, .nil, hk, by simp⟩
  | @step o l e s p hw ho _ ih =>
    obtain ⟨tr, e', h1, h2, h3⟩ := ih
    refine ⟨_, e', .load p (fun s' => s' = s) hw (fun s' hs' => by rw [show s' = s from hs']; exact ho) h1, h2, fun t ht => ?_⟩
    rcases List.mem_cons.1 ht with rfl | ht
    · exact ⟨rfl, fun _ => rfl⟩
    · exact h3 t ht
  | skip hw _ ih =>
    obtain ⟨tr, e', h1, h2, h3⟩ := ih
    refine ⟨_, e', .skip hw h1, h2, fun t ht => ?_⟩
    rcases List.mem_cons.1 ht with rfl | ht
    · exact ⟨rfl, fun h => by cases h⟩
    · exact h3 t ht

theorem stAt_none {s : St} : ∀ {tr : List Tr}, (∀ t ∈ tr, isAct t = false) → ∀ k, stAt s tr k = s
  | [], _, 0 => rfl
  | _ :: _, _, 0 => rfl
  | [], _, k + 1 => rfl
  | t :: tr, h, k + 1 => by
    simp only [stAt]
    rw [h t (by simp)]
    exact stAt_none (fun u hu => h u (by simp [hu])) (k + 1)

def FOk (nt : Nat) (ops : List Oper) : Bool := dstsOk nt ops && edgesBack ops && Region.noSelect ops.toArray && orderOk ops (ops.map fun _ => false)

theorem aw_flat {P : Program} {nt id : Nat} {ops : List Oper} {Q : Exit → Env → St → Prop} {e : Env} {s : St} (hm : P.follows .mixedOrders = true) (hd : FOk nt ops = true)
    (h : ZT P ops.toArray (fun e' => Q .normal e' s) ops e s) : AW P nt (.region id ops.toArray true) Q e s := by
  obtain ⟨tr, e', htr, hk, ha⟩ := h.tr
  simp only [FOk, Bool.and_eq_true] at hd
  obtain ⟨⟨⟨h1, h2⟩, h3⟩, h4⟩ := hd
  have hl : ops.length = tr.length := htr.spec.1
  have hm2 : tr.map isAct = ops.map fun _ => false := by
    refine List.ext_getElem (by simp [hl]) fun i hi hi2 => ?_
    simp only [List.getElem_map]
    exact (ha _ (List.getElem_mem _)).1
  refine aw_region_drawn hm h1 h2 h3 htr (by rw [hm2]; exact h4) (fun i t ht hc k _ _ => ?_) hk
  have hmem := List.mem_of_getElem? ht
  rw [(ha t hmem).2 hc]
  exact stAt_none (fun u hu => (ha u hu).1) k

section
variable {P : Program} {ops : Array Oper} {K : Env → Prop} {l : List Oper} {e : Env} {s : St} {dst : Option Tmp} {op : Op} {ty : TypeId} {pos : String} {after : Array Edge} {guard : Option (Nat × Bool)}
theorem zts (p : Pd) (hw : Wants ops ⟨dst, op, ty, pos, after, guard⟩ e true) (ho : OpD P ⟨dst, op, ty, pos, after, guard⟩ e s p s) (h : ZT P ops K l (e.put dst p) s) : ZT P ops K (⟨dst, op, ty, pos, after, guard⟩ :: l) e s := .step p hw ho h
theorem ztk (hw : Wants ops ⟨dst, op, ty, pos, after, guard⟩ e false) (h : ZT P ops K l (e.put dst (pl undef)) s) : ZT P ops K (⟨dst, op, ty, pos, after, guard⟩ :: l) e s := .skip hw h
end
section
variable {P : Program} {ops : Array Oper} {K : Env → Prop} {l : List Oper} {e : Env} {s : St} {dst : Option Tmp} {op : Op} {ty : TypeId} {pos : String} {after : Array Edge} {j t : Nat} {want b : Bool}
theorem ztg (p : Pd) (ht : (ops[j]?).bind (·.dst) = some t) (he : Env.ev e (.tmp t) = pl (.bool b)) (ho : (b == want) = true → OpD P ⟨dst, op, ty, pos, after, some (j, want)⟩ e s p s) (h : ZT P ops K l (e.put dst (pif (b == want) p)) s) : ZT P ops K (⟨dst, op, ty, pos, after, some (j, want)⟩ :: l) e s := by
  cases hb : (b == want) with
  | true => rw [pif_pos hb] at h; exact .step p ⟨t, ht, .inl ⟨b, he, hb⟩⟩ (ho hb) h
  | false => rw [pif_neg hb] at h; exact .skip ⟨t, ht, .inl ⟨b, he, hb⟩⟩ h
theorem ztg2 (p : Pd) {c0 : Bool} (ht : (ops[j]?).bind (·.dst) = some t) (he : Env.ev e (.tmp t) = pif c0 (pl (.bool b))) (ho : (c0 && (b == want)) = true → OpD P ⟨dst, op, ty, pos, after, some (j, want)⟩ e s p s) (h : ZT P ops K l (e.put dst (pif (c0 && (b == want)) p)) s) : ZT P ops K (⟨dst, op, ty, pos, after, some (j, want)⟩ :: l) e s := by
  cases c0 with
  | true =>
    cases hb : (b == want) with
    | true => rw [pif_pos (by rw [hb]; rfl)] at h; exact .step p ⟨t, ht, .inl ⟨b, he, hb⟩⟩ (ho (by rw [hb]; rfl)) h
    | false => rw [pif_neg (by rw [hb]; rfl)] at h; exact .skip ⟨t, ht, .inl ⟨b, he, hb⟩⟩ h
  | false => exact .skip ⟨t, ht, .inr ⟨he, rfl⟩⟩ h
end
end Go.Proofs.YtmnhfpcbfdgbcaaDoor.Eng
