/- The engine: maps that are read, ranges over them; arrays as slices, slices as arrays; arrays compared. -/
import Derived.Test.YtokcgacehdgkcaaEX8
import Derived.Test.YtokcgacehdgkcaaEX9
import Derived.ChangeKeysEq
import Derived.Sort.Row
namespace Go.Proofs.Ytokcgacehdgkcaa.Eng
set_option linter.unusedVariables false
set_option linter.unusedSimpArgs false
open Go.RowKit
/-! ### Maps that are read -/
def Pd.and (p q : Pd) : Pd := ⟨fun g w v => p.h g w v ∧ q.h g w v, fun hx ⟨a, b⟩ => ⟨p.mono0 hx a, q.mono0 hx b⟩⟩
section
variable {P : Program} {e : Env} {s : St} {dst : Option Tmp} {ty : TypeId} {pos : String} {after : Array Edge} {guard : Option (Nat × Bool)} {κ ν : Type} [DecidableEq κ] {K : MK κ ν} {f : κ → Option ν} {bs bs' : List Bx} {fs : List Fr} {b : Nat} {M : Pd}
/-! ### Ranges -/
end
/-! ### Loops over entries -/
section
variable {κ ν : Type} {ls : List ((κ × ν) × Nat)} {sn : List Nat} {c : Nat}
/-- The entries that have not come. -/
def rest (ls : List ((κ × ν) × Nat)) (sn : List Nat) : List (κ × ν) := (ls.filter fun y => decide (y.2 ∉ sn)).map (·.1)
variable {T O : Type} {body : Option (κ × ν) → T → Option (T ⊕ O)} {t : T} {o : O}
variable {Rr : Type} {k : O → Option Rr} {R : Rr}
end
/-! ### An array's variable as a slice: it is sealed -/
/-! ### Arrays compared -/
/-! ### The end of a piece that changes objects -/
end Go.Proofs.Ytokcgacehdgkcaa.Eng

/- The engine: slices.Sort on a row in place; a map's clone. -/
namespace Go.Proofs.Ytokcgacehdgkcaa.Eng
set_option linter.unusedVariables false
set_option linter.unusedSimpArgs false
open Go.RowKit Go.Sort
end Go.Proofs.Ytokcgacehdgkcaa.Eng

/- The engine: structs with arrays: their cells. -/
namespace Go.Proofs.Ytokcgacehdgkcaa.Eng
set_option linter.unusedVariables false
set_option linter.unusedSimpArgs false
open Go.RowKit
section
variable {P : Program} {e : Env} {s : St} {dst : Option Tmp} {ty : TypeId} {pos : String} {after : Array Edge} {guard : Option (Nat × Bool)}
end
/-! ### An array of a variable, as a slice that is lent; a variable that a closure holds, lent -/
section
variable {s : St} {α : Type} {k : Kn α} {l : List α} {b off n t : Nat} {cs : List Pd}
end
end Go.Proofs.Ytokcgacehdgkcaa.Eng

/- The engine: arrays of a few elements, as elements of rows and as arguments. -/
namespace Go.Proofs.Ytokcgacehdgkcaa.Eng
set_option linter.unusedVariables false
set_option linter.unusedSimpArgs false
open Go.RowKit
end Go.Proofs.Ytokcgacehdgkcaa.Eng

/- The engine: a row of pages, of which one lies in place. -/
namespace Go.Proofs.Ytokcgacehdgkcaa.Eng
set_option linter.unusedVariables false
set_option linter.unusedSimpArgs false
open Go.RowKit
/-- A page: its own cells, or a row in place. -/
def kHR (b r : Nat) : Kn (Bool × List Int) := ⟨1, fun x => [if x.1 = true then hsl b r 0 x.2.length 1 else sl (kI .u8) none none x.2], fun _ => rfl, fun x p hp => by
  rw [List.mem_singleton] at hp; subst hp
  split
  · exact one_hsl _ _ _ _ _
  · exact one_sl _ _ _ _⟩
def tg (n0 : Nat) (v : List (List Int)) : List (Bool × List Int) := v.zipIdx.map fun p => (decide (p.2 = n0), p.1)
theorem tg_len (n0 : Nat) (v : List (List Int)) : (tg n0 v).length = v.length := by unfold tg; rw [List.length_map, List.length_zipIdx]
theorem tg_get (n0 i : Nat) (v : List (List Int)) : (tg n0 v)[i]? = (v[i]?).map fun x => (decide (i = n0), x) := by
  unfold tg
  rw [List.getElem?_map, List.getElem?_zipIdx]
  cases v[i]? <;> simp
theorem tg_snoc (n0 : Nat) (v : List (List Int)) (x : List Int) : tg n0 (v ++ [x]) = tg n0 v ++ [(decide (v.length = n0), x)] := by
  apply List.ext_getElem?
  intro i
  rw [tg_get]
  by_cases h : i < v.length
  · rw [List.getElem?_append_left h, List.getElem?_append_left (by rw [tg_len]; exact h), tg_get]
  · rw [List.getElem?_append_right (by omega), List.getElem?_append_right (by rw [tg_len]; omega), tg_len]
    by_cases h2 : i = v.length
    · subst h2; simp
    · rw [List.getElem?_eq_none (by simp; omega), List.getElem?_eq_none (by simp; omega)]; rfl
theorem SlCells.kn {α β : Type} {k : Kn α} {k' : Kn β} {l : List α} {l' : List β} {g : G} {w : World} {b o : Nat} (hz : k.sz = k'.sz) (hc : ∀ (i : Nat) y, l'[i]? = some y → ∃ x, l[i]? = some x ∧ k.cs x = k'.cs y) (h : SlCells k l g w b o) : SlCells k' l' g w b o := fun i y hi j p hp => by
  obtain ⟨x, hx, he⟩ := hc i y hi
  rw [← hz]
  exact h i x hx j p (by rw [he]; exact hp)
theorem sl_kn {α β : Type} {k : Kn α} {k' : Kn β} {o : Option Nat} {nl : Option Bool} {l : List α} {l' : List β} (hz : k.sz = k'.sz) (hl : l.length = l'.length) (hc : ∀ (i : Nat) y, l'[i]? = some y → ∃ x, l[i]? = some x ∧ k.cs x = k'.cs y) : (sl k o nl l).le (sl k' o nl l') := fun g w v ⟨a, c, hv, h1, h2, h3, h4, h5⟩ =>
  ⟨a, c, by rw [← hl]; exact hv, by rw [← hl]; exact h1, h2, h3, fun hn => by
    obtain ⟨b, off, ha, hs⟩ := h4 (fun e => hn (List.eq_nil_of_length_eq_zero (by rw [← hl, e]; rfl)))
    exact ⟨b, off, ha, hs.kn hz hc⟩, by rw [← hl]; exact h5⟩
theorem tg_le {b r n0 : Nat} {o : Option Nat} {nl : Option Bool} {v : List (List Int)} (h : v.length ≤ n0) : (sl (kR (kI .u8)) o nl v).le (sl (kHR b r) o nl (tg n0 v)) :=
  sl_kn rfl (tg_len _ _).symm fun i y hy => by
    rw [tg_get] at hy
    obtain ⟨x, hx, rfl⟩ := Option.map_eq_some_iff.1 hy
    have hi := (List.getElem?_eq_some_iff.1 hx).1
    refine ⟨x, hx, ?_⟩
    show [sl (kI .u8) none none x] = [if decide (i = n0) = true then _ else sl (kI .u8) none none x]
    rw [if_neg (by simp; omega)]
theorem tg_bnd {b r n0 id n m : Nat} {nl : Option Bool} {v : List (List Int)} (hb : b < n) (hid : id < m) : (sl (kHR b r) (some id) nl (tg n0 v)).Bnd n m := sl_own_bnd (fun x _ p hp => by
  have hp' : p ∈ [if x.1 = true then hsl b r 0 x.2.length 1 else sl (kI .u8) none none x.2] := hp
  rw [List.mem_singleton] at hp'
  subst hp'
  split
  · exact hsl_bnd _ hb
  · exact sl_b (kb_I _)) hid
section
variable {s : St}
theorem lent_HR {b r te n0 : Nat} {o : Option Nat} {nl : Option Bool} {v v' : List (List Int)} {lb : List Int} (hte : Nat.blt te HOT = true) (hr : 2 ≤ r) (hB : s.boxes[b]? = some ⟨hot te r, flat (kI .u8) lb⟩) (hl : v'.length = v.length) (h1 : ∀ j, j ≠ n0 → v'[j]? = v[j]?)
    (h2 : ∀ x, v'[n0]? = some x → x = lb) (h3 : ∀ x, v[n0]? = some x → x.length = lb.length) : Lent s (sl (kHR b r) o nl (tg n0 v)) (sl (kR (kI .u8)) none none v') := fun g w u hs ⟨a, c, hv, q1, q2, q3, q4, q5⟩ => by
  rw [tg_len] at hv q1
  refine ⟨a, c, by rw [hl]; exact hv, by rw [hl]; exact q1, (fun _ h => by cases h), q3, fun hn => ?_, fun _ h => by cases h⟩
  obtain ⟨b', off, ha, hc⟩ := q4 (fun e => hn (List.eq_nil_of_length_eq_zero (by rw [hl, ← tg_len n0 v, e]; rfl)))
  refine ⟨b', off, ha, fun i x hi j p hp => ?_⟩
  have hi' : i < v.length := by rw [← hl]; exact (List.getElem?_eq_some_iff.1 hi).1
  obtain ⟨y, hy⟩ : ∃ y, v[i]? = some y := ⟨_, List.getElem?_eq_getElem hi'⟩
  have hp' : [sl (kI .u8) none none x][j]? = some p := hp
  cases j with
  | succ j => simp at hp'
  | zero =>
    simp at hp'; subst hp'
    obtain ⟨w1, c2, w2, w3⟩ := hc i (decide (i = n0), y) (by rw [tg_get, hy]; rfl) 0 _ rfl
    refine ⟨gf_lt w2, c2, w2, ?_⟩
    by_cases hin : i = n0
    · subst hin
      rw [if_pos (by simp)] at w3
      have := lent_hsl (k := kI .u8) (fz_I _) hte hr hB (h3 y hy) g w c2 hs w3
      rw [h2 x hi]; exact this
    · rw [if_neg (by simp [hin])] at w3
      rw [h1 i hin, hy] at hi
      cases hi
      exact sl_fz (fz_I _) hs w3
end
theorem seal_HR {b r n0 : Nat} {o : Option Nat} {nl : Option Bool} {v v' : List (List Int)} {lb : List Int} (hl : v'.length = v.length) (h1 : ∀ j, j ≠ n0 → v'[j]? = v[j]?)
    (h2 : ∀ x, v'[n0]? = some x → x = lb) (h3 : ∀ x, v[n0]? = some x → x.length = lb.length) : SealOk (kI .u8) lb b r (sl (kHR b r) o nl (tg n0 v)) (sl (kR (kI .u8)) none none v') := fun g w u hs ⟨a, c, hv, q1, q2, q3, q4, q5⟩ => by
  rw [tg_len] at hv q1
  refine ⟨a, c, by rw [hl]; exact hv, by rw [hl]; exact q1, (fun _ h => by cases h), q3, fun hn => ?_, fun _ h => by cases h⟩
  obtain ⟨b', off, ha, hc⟩ := q4 (fun e => hn (List.eq_nil_of_length_eq_zero (by rw [hl, ← tg_len n0 v, e]; rfl)))
  refine ⟨b', off, ha, fun i x hi j p hp => ?_⟩
  have hi' : i < v.length := by rw [← hl]; exact (List.getElem?_eq_some_iff.1 hi).1
  obtain ⟨y, hy⟩ : ∃ y, v[i]? = some y := ⟨_, List.getElem?_eq_getElem hi'⟩
  have hp' : [sl (kI .u8) none none x][j]? = some p := hp
  cases j with
  | succ j => simp at hp'
  | zero =>
    simp at hp'; subst hp'
    obtain ⟨w1, c2, w2, w3⟩ := hc i (decide (i = n0), y) (by rw [tg_get, hy]; rfl) 0 _ rfl
    refine ⟨w1, c2, w2, ?_⟩
    by_cases hin : i = n0
    · subst hin
      rw [if_pos (by simp), h3 y hy] at w3
      have := seal_sl (k := kI .u8) g w c2 hs w3
      rw [h2 x hi]; exact this
    · rw [if_neg (by simp [hin])] at w3
      rw [h1 i hin, hy] at hi
      cases hi
      exact w3
/-- A slice of so many elements; nothing else is known. -/
def slen (n : Nat) : Pd := ⟨fun _ _ v => ∃ a c, v = .slice a n c, fun _ h => h⟩
theorem slen_pn (n : Nat) : (slen n).Pn := fun _ _ _ _ h => h
theorem sl_slen {α : Type} {k : Kn α} {o : Option Nat} {nl : Option Bool} {l : List α} : (sl k o nl l).le (slen l.length) := fun _ _ _ ⟨a, c, hv, _⟩ => ⟨a, c, hv⟩
section
variable {P : Program} {e : Env} {s : St} {dst : Option Tmp} {ty : TypeId} {pos : String} {after : Array Edge} {guard : Option (Nat × Bool)}
theorem opD_len_slen {n : Nat} {x : Operand} {t te : TypeId} (ht : P.underlying t = some (.slice te)) (hx : e.ev x = slen n) :
    OpD P ⟨dst, .call { callee := .builtin .len, args := #[x], argTypes := #[t] }, ty, pos, after, guard⟩ e s (pl (.int .i64 n)) s :=
  opD_look fun g a w ha _ => by
    have h1 := ha x (by simp [Op.operands, Call.operands])
    rw [hx] at h1
    obtain ⟨A, c, hv⟩ := h1
    refine ⟨_, ?_, rfl⟩
    rw [exec_builtin, show #[x].map a.eval = #[a.eval x] from by simp, hv]
    exact run_v (by simp [go_sem, ht])
end
end Go.Proofs.Ytokcgacehdgkcaa.Eng
