/- The engine: maps that are read, ranges over them; arrays as slices, slices as arrays; arrays compared. -/
import Derived.Test.YtokcgacehdgkcaaDoorEX8
import Derived.Test.YtokcgacehdgkcaaDoorEX9
import Derived.ChangeKeysEq
import Derived.Sort.Row
namespace Go.Proofs.YtokcgacehdgkcaaDoor.Eng
set_option linter.unusedVariables false
set_option linter.unusedSimpArgs false
open Go.RowKit
/-! ### Maps that are read -/
def Pd.and (p q : Pd) : Pd := ⟨fun g w v => p.h g w v ∧ q.h g w v, fun hx ⟨a, b⟩ => ⟨p.mono0 hx a, q.mono0 hx b⟩⟩
section
variable {κ ν : Type} [DecidableEq κ] {P : Program} {K : MK κ ν} {f : κ → Option ν} {s : St} {b : Nat} {M M' : Pd}
theorem srel_weakM {g : G} {w : World} (hs : SRel g s w) (hB : s.boxes[b]? = some ⟨HOT, [M]⟩) (hM : M.le M') (hb : M'.Bnd s.boxes.length s.fr.length) : SRel g (s.upd b ⟨HOT, [M']⟩) w := by
  obtain ⟨ee, k, h1, h2⟩ := raw_some hs hB
  obtain ⟨x, r, hx, _, h5, _⟩ := raw_at hs hB h1 (fun _ => h2)
  exact h5 (hM _ _ _ hx) hb
end
section
variable {P : Program} {e : Env} {s : St} {dst : Option Tmp} {ty : TypeId} {pos : String} {after : Array Edge} {guard : Option (Nat × Bool)} {κ ν : Type} [DecidableEq κ] {K : MK κ ν} {f : κ → Option ν} {bs bs' : List Bx} {fs : List Fr} {b : Nat} {M : Pd}
theorem opD_lookupG {t kt et : TypeId} {x y : Operand} {k : κ} {z : Value} (ok : Bool) (ht : P.underlying t = some (.map kt et)) (hK : KL P kt K) (hz : ∀ w, (zeroValue et).run P w = .ok z w) (hx : e.ev x = mref b) (hy : (e.ev y).le (pl (K.ek k))) (hB : s.boxes[b]? = some ⟨HOT, [M]⟩) (hM : M.le (mpf K f)) :
    OpD P ⟨dst, .lookup t x y ok, ty, pos, after, guard⟩ e s (pl (if ok = true then .tuple #[((f k).map K.ev).getD z, .bool (f k).isSome] else ((f k).map K.ev).getD z)) s :=
  opD_look fun g a w ha hs => by
    have e1 := ha x (by simp [Op.operands])
    have e2 := ha y (by simp [Op.operands])
    rw [hx] at e1
    obtain ⟨ee, k0, h1, h2, hv, h4⟩ := e1
    obtain ⟨x0, r, hx0, hh, _⟩ := raw_at hs hB h1 h4
    obtain ⟨l, hl, es, c, rfl, hE⟩ := hM _ _ _ hx0
    rw [rawObj_enc] at hh
    refine ⟨_, ?_, rfl⟩
    show (Sem.bind (Instr.lookup t (a.eval x) (a.eval y) ok) fun v => Sem.pure (Next.value v)).run P w = _
    rw [hv, hy _ _ _ e2, ← hl.2]
    exact run_v (run_lookup ok ht hK (hz w) hh hE)
/-! ### Ranges -/
end
section
variable {P : Program} {e : Env} {s : St} {dst : Option Tmp} {ty : TypeId} {pos : String} {after : Array Edge} {guard : Option (Nat × Bool)} {κ ν : Type} [DecidableEq κ] {K : MK κ ν} {f : κ → Option ν} {b : Nat} {M : Pd}
theorem opD_weakM {o : Oper} {M' p : Pd} {s' : St} (hB : s.boxes[b]? = some ⟨HOT, [M]⟩) (hM : M.le M') (hb : M'.Bnd s.boxes.length s.fr.length) (h : OpD P o e (s.upd b ⟨HOT, [M']⟩) p s') : OpD P o e s p s' :=
  fun g a w next Q ha hs hn => h g a w next Q ha (srel_weakM hs hB hM hb) hn
theorem opD_mapUpdateG {t kt et : TypeId} {x y u : Operand} {k : κ} {v : ν} (ht : P.underlying t = some (.map kt et)) (hK : KL P kt K) (hx : e.ev x = mref b) (hy : (e.ev y).le (pl (K.ek k))) (hu : (e.ev u).le (pl (K.ev v))) (hB : s.boxes[b]? = some ⟨HOT, [M]⟩) (hM : M.le (mpf K f)) :
    OpD P ⟨dst, .mapUpdate t x y u, ty, pos, after, guard⟩ e s any (s.upd b (MF K (fset f k v))) :=
  opD_weakM hB hM (mpf_bnd _ _ _ _) (by
    have := opD_mapUpdateF (dst := dst) (ty := ty) (pos := pos) (after := after) (guard := guard) (s := s.upd b (MF K f)) ht hK hx hy hu (upd_same hB)
    rwa [Go.Proofs.YtokcgacehdgkcaaDoor.Eng.upd_upd] at this)
end
/-! ### Loops over entries -/
section
variable {κ ν : Type} {ls : List ((κ × ν) × Nat)} {sn : List Nat} {c : Nat}
/-- The entries that have not come. -/
def rest (ls : List ((κ × ν) × Nat)) (sn : List Nat) : List (κ × ν) := (ls.filter fun y => decide (y.2 ∉ sn)).map (·.1)
variable {T O : Type} {body : Option (κ × ν) → T → Option (T ⊕ O)} {t : T} {o : O}
variable {Rr : Type} {k : O → Option Rr} {R : Rr}
end
/-! ### An array's variable as a slice: it is sealed -/
/-! ### Arrays compared -/
section
variable {P : Program} {e : Env} {s : St} {dst : Option Tmp} {ty : TypeId} {pos : String} {after : Array Edge} {guard : Option (Nat × Bool)}
theorem eq_items {t : TypeId} {ik : IntKind} {w : World} {d : Nat} (ht : P.underlying t = some (.int ik)) (hag : aggT P t = some false) : ∀ (l m : List Int) (xs ys : Array Value) (is : List Nat), (∀ (j i : Nat), is[j]? = some i → xs[i * 1]? = (l[j]?).map (Value.int ik) ∧ ys[i * 1]? = (m[j]?).map (Value.int ik)) →
    l.length = is.length → m.length = is.length → (Op.eqItems (d + 1) t 1 xs ys is).run P w = .ok (decide (l = m)) w
  | [], [], xs, ys, [], h, hl, hm => by simp [Op.eqItems]
  | [], _, xs, ys, i :: is, h, hl, hm => by simp at hl
  | _ :: _, _, xs, ys, [], h, hl, hm => by simp at hl
  | _, [], xs, ys, i :: is, h, hl, hm => by simp at hm
  | [], _ :: _, xs, ys, [], h, hl, hm => by simp at hm
  | a :: l, b :: m, xs, ys, i :: is, h, hl, hm => by
    obtain ⟨h1, h2⟩ := h 0 i rfl
    have ih := eq_items (d := d) (w := w) ht hag l m xs ys is (fun j i' hj => by
      obtain ⟨q2, q3⟩ := h (j + 1) i' (by simpa using hj)
      exact ⟨by simpa using q2, by simpa using q3⟩) (by simpa using hl) (by simpa using hm)
    simp only [Op.eqItems, Sem.run_bind, run_part_one hag (show xs[i * 1]? = some (Value.int ik a) from by simpa using h1), run_part_one hag (show ys[i * 1]? = some (Value.int ik b) from by simpa using h2), Result.andThen, run_equalIn_int w d t ik ik a b ht]
    by_cases hab : a = b
    · subst hab; simp [ih]
    · simp [hab]
theorem eq_arr {at_ t : TypeId} {ik : IntKind} {n : Nat} {i : TypeInfo} (hu : P.underlying at_ = some (.array n t)) (hi : P.info? t = some i) (hc : P.cellsOf t = 1) (ht : P.underlying t = some (.int ik)) (hag : aggT P t = some false) {l m : List Int} (hl : l.length = n) (hm : m.length = n) (w : World) :
    (Op.equalIn 10000 at_ (.agg (l.map (Value.int ik)).toArray) (.agg (m.map (Value.int ik)).toArray)).run P w = .ok (decide (l = m)) w := by
  rw [show (10000 : Nat) = 9999 + 1 from rfl, run_equalIn_array w 9999 _ _ hu hi, hc, show (9999 : Nat) = 9998 + 1 from rfl]
  refine eq_items ht hag l m _ _ (List.range n) (fun j i hj => ?_) (by simpa using hl) (by simpa using hm)
  have hjl := (List.getElem?_eq_some_iff.1 hj).1
  simp only [List.length_range] at hjl
  rw [List.getElem?_range hjl] at hj; cases hj
  simp
theorem opD_neArr {at_ t : TypeId} {ik : IntKind} {n : Nat} {x y : Operand} (hu : P.underlying at_ = some (.array n t)) (hc : P.cellsOf t = 1) (ht : P.underlying t = some (.int ik)) (hag : aggT P t = some false) (hg : P.eqGuardType P.depth at_ = false) {l m : List Int}
    (hx : e.ev x = agg (flat (kI ik) l)) (hy : e.ev y = agg (flat (kI ik) m)) (hl : l.length = n) (hm : m.length = n) : OpD P ⟨dst, .binOp .neq at_ x y at_, ty, pos, after, guard⟩ e s (pl (.bool (!decide (l = m)))) s :=
  opD_look fun g a w ha hs => by
    have h1 := flat_ple (k := kI ik) (f := Value.int ik) (fun _ => rfl) l g w _ (by have := ha x (by simp [Op.operands]); rw [hx] at this; exact this)
    have h2 := flat_ple (k := kI ik) (f := Value.int ik) (fun _ => rfl) m g w _ (by have := ha y (by simp [Op.operands]); rw [hy] at this; exact this)
    obtain ⟨i, hi⟩ := info_of_underlying ht
    have h3 := eq_arr hu hi hc ht hag hl hm w
    replace h1 : a.eval x = _ := h1
    replace h2 : a.eval y = _ := h2
    exact ⟨_, by generalize a.eval = ρ at h1 h2 ⊢; simp only [execOp, h1, h2]; simp [go_sem, run_eqGuard_agg, hg, h3, Result.andThen], rfl⟩
end
/-! ### The end of a piece that changes objects -/
end Go.Proofs.YtokcgacehdgkcaaDoor.Eng

/- The engine: slices.Sort on a row in place; a map's clone. -/
namespace Go.Proofs.YtokcgacehdgkcaaDoor.Eng
set_option linter.unusedVariables false
set_option linter.unusedSimpArgs false
open Go.RowKit Go.Sort
end Go.Proofs.YtokcgacehdgkcaaDoor.Eng

/- The engine: structs with arrays: their cells. -/
namespace Go.Proofs.YtokcgacehdgkcaaDoor.Eng
set_option linter.unusedVariables false
set_option linter.unusedSimpArgs false
open Go.RowKit
section
variable {α : Type} {k : Kn α} {d : α} {l : List α} {n i j a : Nat} {A B : List Pd}
/-- So many elements of a list; where there is none, d. -/
def nrm (n : Nat) (d : α) (l : List α) : List α := (List.range n).map fun i => l.getD i d
/-- An array's cells. -/
def arrC (n : Nat) (k : Kn α) (d : α) (l : List α) : List Pd := flat k (nrm n d l)
/-- The array with another element. -/
def aset (n : Nat) (d : α) (l : List α) (i : Nat) (x : α) : List α := (nrm n d l).set i x
theorem nrm_len : (nrm n d l).length = n := by unfold nrm; rw [List.length_map, List.length_range]
theorem nrm_at (h : i < n) : (nrm n d l)[i]? = some (l.getD i d) := by unfold nrm; rw [List.getElem?_map, List.getElem?_range h]; rfl
theorem nrm_eq (h : l.length = n) : nrm n d l = l := by
  apply List.ext_getElem?
  intro i
  by_cases hi : i < n
  · rw [nrm_at hi, List.getD_eq_getElem?_getD, List.getElem?_eq_getElem (by omega)]; rfl
  · rw [List.getElem?_eq_none (by rw [nrm_len]; omega), List.getElem?_eq_none (by omega)]
theorem nrm_nrm : nrm n d (nrm n d l) = nrm n d l := nrm_eq nrm_len
theorem aset_len {x : α} : (aset n d l i x).length = n := by unfold aset; rw [List.length_set, nrm_len]
theorem nrm_aset {x : α} : nrm n d (aset n d l i x) = aset n d l i x := nrm_eq aset_len
theorem arrC_len : (arrC n k d l).length = n * k.sz := by unfold arrC; rw [flat_length, nrm_len]
theorem seg_at (hA : A.length = a) (hi : i < n) (hj : j < k.sz) : (A ++ (arrC n k d l ++ B))[a + i * k.sz + j]? = (k.cs (l.getD i d))[j]? := by
  have hle : i * k.sz + j < n * k.sz := by
    have : (i + 1) * k.sz ≤ n * k.sz := Nat.mul_le_mul_right _ hi
    rw [Nat.add_mul] at this; omega
  rw [Nat.add_assoc, ← hA, List.getElem?_append_right (Nat.le_add_right _ _), Nat.add_sub_cancel_left, List.getElem?_append_left (by rw [arrC_len]; exact hle)]
  unfold arrC
  rw [flat_get k _ i j hj, nrm_at hi]; rfl
theorem seg_all (hA : A.length = a) : ((A ++ (arrC n k d l ++ B)).drop a).take (n * k.sz) = flat k (nrm n d l) := by
  have h0 : (A ++ (arrC n k d l ++ B)).drop a = arrC n k d l ++ B := by rw [← hA, List.drop_left]
  rw [h0, List.take_append_of_le_length (by rw [arrC_len]; exact Nat.le_refl _), List.take_of_length_le (by rw [arrC_len]; exact Nat.le_refl _)]; rfl
theorem seg_put {y : α} (hA : A.length = a) (hi : i < n) : (A ++ (arrC n k d l ++ B)).take (a + i * k.sz) ++ k.cs y ++ (A ++ (arrC n k d l ++ B)).drop (a + i * k.sz + k.sz) = A ++ (arrC n k d (aset n d l i y) ++ B) := by
  have hle : (i + 1) * k.sz ≤ n * k.sz := Nat.mul_le_mul_right _ hi
  rw [Nat.add_mul] at hle
  have h1 : (A ++ (arrC n k d l ++ B)).take (a + i * k.sz) = A ++ (arrC n k d l).take (i * k.sz) := by
    rw [← hA, List.take_append, List.take_of_length_le (by omega), Nat.add_sub_cancel_left, List.take_append_of_le_length (by rw [arrC_len]; omega)]
  have h2 : (A ++ (arrC n k d l ++ B)).drop (a + i * k.sz + k.sz) = (arrC n k d l).drop (i * k.sz + k.sz) ++ B := by
    rw [Nat.add_assoc, ← hA, List.drop_append, List.drop_of_length_le (by omega), Nat.add_sub_cancel_left, List.nil_append, List.drop_append_of_le_length (by rw [arrC_len]; omega)]
  rw [h1, h2]
  have h3 : arrC n k d (aset n d l i y) = (arrC n k d l).take (i * k.sz) ++ k.cs y ++ (arrC n k d l).drop (i * k.sz + k.sz) := by
    unfold arrC
    rw [nrm_aset]
    exact (flat_put (by rw [nrm_len]; exact hi)).symm
  rw [h3]; simp only [List.append_assoc]
theorem seg_set {y : α} {p : Pd} (hA : A.length = a) (hi : i < n) (hj : j < k.sz) (hp : (k.cs (l.getD i d)).set j p = k.cs y) : (A ++ (arrC n k d l ++ B)).set (a + i * k.sz + j) p = A ++ (arrC n k d (aset n d l i y) ++ B) := by
  have hle : i * k.sz + j < n * k.sz := by
    have : (i + 1) * k.sz ≤ n * k.sz := Nat.mul_le_mul_right _ hi
    rw [Nat.add_mul] at this; omega
  rw [← seg_put hA hi]
  apply List.ext_getElem?
  intro q
  have hlen : (A ++ (arrC n k d l ++ B)).length = a + n * k.sz + B.length := by simp [arrC_len, hA]; omega
  have hk : (k.cs y).length = k.sz := k.len y
  have hle2 : (i + 1) * k.sz ≤ n * k.sz := Nat.mul_le_mul_right _ hi
  rw [Nat.add_mul] at hle2
  have htl : ((A ++ (arrC n k d l ++ B)).take (a + i * k.sz)).length = a + i * k.sz := by rw [List.length_take, hlen]; omega
  rw [List.append_assoc]
  by_cases h1 : q < a + i * k.sz
  · have hr : ((A ++ (arrC n k d l ++ B)).take (a + i * k.sz) ++ (k.cs y ++ (A ++ (arrC n k d l ++ B)).drop (a + i * k.sz + k.sz)))[q]? = ((A ++ (arrC n k d l ++ B)).take (a + i * k.sz))[q]? := List.getElem?_append_left (by rw [htl]; exact h1)
    rw [hr, List.getElem?_set_ne (by omega), List.getElem?_take_of_lt h1]
  · rw [List.getElem?_append_right (by rw [htl]; omega), htl]
    by_cases h2 : q < a + i * k.sz + k.sz
    · rw [List.getElem?_append_left (by rw [hk]; omega), ← hp]
      obtain ⟨m, rfl⟩ : ∃ m, q = a + i * k.sz + m := ⟨q - (a + i * k.sz), by omega⟩
      rw [Nat.add_sub_cancel_left]
      by_cases hm : m = j
      · subst hm
        rw [List.getElem?_set_self (by rw [hlen]; omega), List.getElem?_set_self (by rw [k.len]; exact hj)]
      · rw [List.getElem?_set_ne (by omega), List.getElem?_set_ne (Ne.symm hm), seg_at hA hi (by omega)]
    · have hr : (k.cs y ++ (A ++ (arrC n k d l ++ B)).drop (a + i * k.sz + k.sz))[q - (a + i * k.sz)]? = ((A ++ (arrC n k d l ++ B)).drop (a + i * k.sz + k.sz))[q - (a + i * k.sz) - (k.cs y).length]? := List.getElem?_append_right (by rw [hk]; omega)
      rw [hr, List.getElem?_set_ne (by omega), hk, List.getElem?_drop]
      congr 1; omega
theorem seg_putA {m : List α} (hA : A.length = a) (hm : m.length = n) : (A ++ (arrC n k d l ++ B)).take a ++ flat k m ++ (A ++ (arrC n k d l ++ B)).drop (a + n * k.sz) = A ++ (arrC n k d m ++ B) := by
  have h1 : (A ++ (arrC n k d l ++ B)).take a = A := by rw [← hA, List.take_left]
  have h2 : (A ++ (arrC n k d l ++ B)).drop (a + n * k.sz) = B := by
    rw [← List.drop_drop, ← hA, List.drop_left]
    have : n * k.sz = (arrC n k d l).length := arrC_len.symm
    rw [this, List.drop_left]
  rw [h1, h2]
  unfold arrC
  rw [nrm_eq hm, List.append_assoc]
theorem ones_app (h1 : ∀ p ∈ A, p.One) (h2 : ∀ p ∈ B, p.One) : ∀ p ∈ A ++ B, p.One := fun p hp => (List.mem_append.1 hp).elim (h1 p) (h2 p)
theorem ones_arr : ∀ p ∈ arrC n k d l, p.One := ones_flat
theorem bnd_app {m m2 : Nat} (h1 : ∀ p ∈ A, p.Bnd m m2) (h2 : ∀ p ∈ B, p.Bnd m m2) : ∀ p ∈ A ++ B, p.Bnd m m2 := fun p hp => (List.mem_append.1 hp).elim (h1 p) (h2 p)
theorem bnd_arr {m m2 : Nat} (h : KB k) : ∀ p ∈ arrC n k d l, p.Bnd m m2 := flatKB h
end
section
variable {P : Program} {e : Env} {s : St} {dst : Option Tmp} {ty : TypeId} {pos : String} {after : Array Edge} {guard : Option (Nat × Bool)}
theorem opD_index_arrA {α : Type} {k : Kn α} {l : List α} {y : α} {t te : TypeId} {len : Nat} {x ix : Operand} {kk : IntKind} {n : Int} {i : Nat} (ht : P.underlying t = some (.array len te)) (hte : aggT P te = some true) (hsz : sizeT P te = some k.sz) (hx : e.ev x = agg (flat k l)) (hi : e.ev ix = pl (.int kk n)) (hn : n = (i : Int)) (hl : i < len) (hy : l[i]? = some y) :
    OpD P ⟨dst, .index t x ix, ty, pos, after, guard⟩ e s (agg (k.cs y)) s :=
  opD_look fun g a w ha _ => by
    have h1 := ha x (by simp [Op.operands])
    have h2 : a.eval ix = .int kk n := by have := ha ix (by simp [Op.operands]); rw [hi] at this; exact this
    rw [hx] at h1
    obtain ⟨cs, hv, h3⟩ := h1
    subst hn
    have hle := elem_lt (k := k) (List.getElem?_eq_some_iff.1 hy).1
    refine ⟨.agg (cs.extract (i * k.sz) (i * k.sz + k.sz)), ?_, _, rfl, ?_⟩
    · show (Sem.bind (Instr.index t (a.eval x) (a.eval ix)) fun v => Sem.pure (Next.value v)).run P w = _
      rw [hv, h2]
      refine run_v ?_
      have := run_part_agg hte hsz (P := P) cs (i * k.sz) w
      simp [Instr.index, asIntOf, run_underlying ht, hl, run_sizeOf hsz, this]
    · have h4 := (h3.drop (i * k.sz)).take k.sz
      rw [flat_elem hy] at h4
      rw [Array.toList_extract, List.extract_eq_take_drop, Nat.add_sub_cancel_left]
      exact h4
end
/-! ### An array of a variable, as a slice that is lent; a variable that a closure holds, lent -/
def asl (b off n : Nat) : Pd := ⟨fun g _ v => ∃ e k, g.box[b]? = some e ∧ v = .slice (some ⟨k, off, none⟩) n n ∧ (e.ver = 0 → e.blk = some k), by
  rintro g w g' w' v hx ⟨e, k, hk, hv, hb⟩
  obtain ⟨e', h1, h2, h3⟩ := hx.box b e hk
  refine ⟨e', k, h1, hv, fun h0 => ?_⟩
  have : e.ver = e'.ver := by omega
  have h7 := h3 this
  subst h7
  exact hb h0⟩
section
variable {P : Program} {e : Env} {s : St} {dst : Option Tmp} {ty : TypeId} {pos : String} {after : Array Edge} {guard : Option (Nat × Bool)}
theorem opD_sliceA {at_ te : TypeId} {x : Operand} {n b off sz : Nat} (ht : P.underlying at_ = some (.array n te)) (hsz : sizeT P te = some sz) (hx : e.ev x = ptr b off) :
    OpD P ⟨dst, .slice at_ x none none none, ty, pos, after, guard⟩ e s (asl b off n) s :=
  opD_look fun g a w ha hs => by
    have e1 := ha x (by simp [Op.operands])
    rw [hx] at e1
    obtain ⟨e0, k, hk, hr, hv, hb⟩ := e1
    refine ⟨.slice (some ⟨k, off, none⟩) n n, ?_, e0, k, hk, rfl, hb⟩
    show (Sem.bind (Instr.sliceAt at_ (a.eval x) none none none) fun v => Sem.pure (Next.value v)).run P w = _
    rw [hv]
    refine run_v ?_
    simp [Instr.sliceAt, run_underlying ht, Instr.sureAddr, Instr.sliceBounds, Result.andThen, run_sizeOf hsz]
    exact fun _ => rfl
end
section
variable {s : St} {α : Type} {k : Kn α} {l : List α} {b off n t : Nat} {cs : List Pd}
theorem lent_asl (hk : k.Fz) (hT : Nat.blt t HOT = true) (hB : s.boxes[b]? = some ⟨t, cs⟩) (hl : l.length = n) (hc : (cs.drop off).take (n * k.sz) = flat k l) : Lent s (asl b off n) (sl k none none l) := fun g w v hs h => by
  obtain ⟨e0, kk, q1, rfl, q3⟩ := h
  obtain ⟨e1, vs, r1, r2, r3, r4, r5, r6⟩ := hs.bx b _ hB
  rw [q1] at r1; cases r1
  have hkk := q3 (r2.trans (ver_plain hT))
  unfold Cont at r3
  rw [hkk] at r3
  have hh := r3.1
  rw [obj_cells hT] at hh
  refine ⟨some ⟨kk, off, none⟩, n, by rw [hl], by omega, (fun _ h => by cases h), (fun h => by cases h), fun _ => ⟨kk, off, rfl, fun i x hi j p hp => ?_⟩, fun _ h => by cases h⟩
  have hjs : j < k.sz := by rw [← k.len x]; exact (List.getElem?_eq_some_iff.1 hp).1
  have hil := (List.getElem?_eq_some_iff.1 hi).1
  have hf := flat_get k l i j hjs
  rw [hi, Option.bind_some, hp, ← hc] at hf
  have hlt : i * k.sz + j < n * k.sz := by
    have : (i + 1) * k.sz ≤ n * k.sz := Nat.mul_le_mul_right _ (by omega)
    rw [Nat.add_mul] at this; omega
  rw [List.getElem?_take_of_lt hlt, List.getElem?_drop] at hf
  obtain ⟨cv, hc1, hc2⟩ := r4.get _ _ hf
  have hcell : w.cell? ⟨kk, off + i * k.sz + j, none⟩ = some cv := by
    rw [box_cell (g := g) hh, Nat.add_assoc]; simpa using hc1
  exact ⟨gf_lt hcell, cv, hcell, hk x p (List.mem_of_getElem? hp) g s w cv hs hc2⟩
theorem lent_cap {f : FuncId} {x : α} {p : Pd} (hk : k.Fz) (hT : Nat.blt t HOT = true) (hB : s.boxes[b]? = some ⟨t, [p]⟩) (hp : k.cs x = [p]) : Lent s (fnc f (ptr b 0)) (fnc f (el k [x] 0 0)) := fun g w v hs h => by
  obtain ⟨c, rfl, e0, kk, q1, _, q2, q3⟩ := h
  obtain ⟨e1, vs, r1, r2, r3, r4, r5, r6⟩ := hs.bx b _ hB
  rw [q1] at r1; cases r1
  have hkk := q3 (r2.trans (ver_plain hT))
  unfold Cont at r3
  rw [hkk] at r3
  have hh := r3.1
  rw [obj_cells hT] at hh
  refine ⟨c, rfl, kk, 0, by rw [q2]; simp, fun i y hi j q hq => ?_⟩
  cases i with
  | succ i => simp at hi
  | zero =>
    simp at hi; subst hi
    have hq' := hq
    rw [hp] at hq
    cases j with
    | succ j => simp at hq
    | zero =>
      simp at hq; subst hq
      obtain ⟨cv, hc1, hc2⟩ := r4.get 0 p rfl
      have hcell : w.cell? ⟨kk, 0 + 0 * k.sz + 0, none⟩ = some cv := by
        rw [box_cell (g := g) hh]; simpa using hc1
      exact ⟨gf_lt hcell, cv, hcell, hk x p (List.mem_of_getElem? hq') g s w cv hs hc2⟩
end
theorem el_bnd {α : Type} {k : Kn α} {l : List α} {i off n m : Nat} (hk : KB k) : (el k l i off).Bnd n m := fun g g' w v h1 h2 h3 ⟨b, o, hv, hc⟩ => ⟨b, o, hv, fun j x hj q p hp => by
  obtain ⟨h4, c, h5, h6⟩ := hc j x hj q p hp
  exact ⟨by rw [h1.1]; exact h4, c, h5, hk x n m p (List.mem_of_getElem? hp) g g' w c h1 h2 h3 h6⟩⟩
end Go.Proofs.YtokcgacehdgkcaaDoor.Eng

/- The engine: arrays of a few elements, as elements of rows and as arguments. -/
namespace Go.Proofs.YtokcgacehdgkcaaDoor.Eng
set_option linter.unusedVariables false
set_option linter.unusedSimpArgs false
open Go.RowKit
section
variable {α : Type}
/-- An array's cells, by the list of its elements. -/
def kArr (n : Nat) (k : Kn α) (d : α) : Kn (List α) := ⟨n * k.sz, arrC n k d, fun _ => arrC_len, fun _ => ones_arr⟩
theorem kb_arr {n : Nat} {k : Kn α} {d : α} (h : KB k) : KB (kArr n k d) := fun _ _ _ => bnd_arr h
theorem openk_arrayN {P : Program} {t e : TypeId} {n : Nat} {k : Kn α} {d : α} {Wf : α → Prop} (ht : P.underlying t = some (.array n e)) (hc : P.cellsOf e = k.sz) (hct : P.cellsOf t = n * k.sz) (he : OpensK P e k Wf) :
    OpensK P t (kArr n k d) (fun l => l.length = n ∧ ∀ a ∈ l, Wf a) := by
  intro H enc w fuel cs x h hlt
  obtain ⟨xs, m, rfl, rfl, hl, hx, hel⟩ := DataW.trod_array ht h
  have hlen : cs.length = n * k.sz := hl.trans hct
  have hwt : ∀ i (hi : i < xs.length), Light P e xs[i].1 := fun i hi q hq => hlt q (by
    have := weights_mem_all (P := P) (e := e) (List.mem_map.2 ⟨_, List.getElem_mem hi, rfl⟩ : xs[i].1 ∈ xs.map (·.1)) q hq
    simpa [DataW.weights, ht] using this)
  have key : ∀ i, i ≤ n → ∃ l : List α, l.length = i ∧ (∀ a ∈ l, Wf a) ∧ Pds (G0 w) w (flat k l) (cs.take (i * k.sz)) := by
    intro i
    induction i with
    | zero => exact fun _ => ⟨[], rfl, (fun a ha => by cases ha), by rw [Nat.zero_mul, List.take_zero]; exact trivial⟩
    | succ i ih =>
      intro hi
      obtain ⟨l, h1, h2, h3⟩ := ih (by omega)
      have h0 := hel i (by omega)
      rw [List.getElem?_eq_getElem (by omega)] at h0
      rw [hc] at h0
      obtain ⟨a, ha, wa⟩ := he _ enc w m _ _ h0 (hwt _ _)
      refine ⟨l ++ [a], by rw [List.length_append, h1]; rfl, fun b hb => ?_, ?_⟩
      · rcases List.mem_append.1 hb with hb | hb
        · exact h2 b hb
        · rw [List.mem_singleton] at hb; subst hb; exact wa
      · have hle : (i + 1) * k.sz ≤ n * k.sz := Nat.mul_le_mul_right _ hi
        rw [Nat.add_mul, Nat.one_mul] at hle ⊢
        have e1 : cs.take (i * k.sz + k.sz) = cs.take (i * k.sz) ++ (cs.drop (i * k.sz)).take k.sz := List.take_add
        have e2 : flat k (l ++ [a]) = flat k l ++ k.cs a := by unfold flat; rw [List.flatMap_append]; simp
        rw [e1, e2]
        exact h3.append ha
  obtain ⟨l, h1, h2, h3⟩ := key n (Nat.le_refl _)
  refine ⟨l, ?_, h1, h2⟩
  rw [List.take_of_length_le (by rw [hlen]; exact Nat.le_refl _)] at h3
  show Pds (G0 w) w (flat k (nrm n d l)) cs
  rw [nrm_eq h1]; exact h3
end
end Go.Proofs.YtokcgacehdgkcaaDoor.Eng
