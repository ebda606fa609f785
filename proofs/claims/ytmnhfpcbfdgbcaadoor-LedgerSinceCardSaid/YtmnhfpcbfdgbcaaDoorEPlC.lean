/- Plain mathematics: a number out of its bytes, as the document does it: the place of the last byte first, then from behind. -/
import Derived.Test.YtmnhfpcbfdgbcaaDoorEPlA
namespace Go.Proofs.YtmnhfpcbfdgbcaaDoor.Plain
set_option linter.unusedVariables false
set_option linter.unusedSimpArgs false

/-- What bytes are worth, seven bits each. -/
def val : List Int → Nat
  | [] => 0
  | c :: t => (c % 128).toNat + 128 * val t
theorem val_lt : ∀ (l : List Int), val l < 128 ^ l.length
  | [] => by simp [val]
  | c :: t => by
    have h1 := val_lt t
    have h2 : (c % 128).toNat < 128 := by omega
    simp only [val, List.length_cons, Nat.pow_succ]
    omega
theorem val_snoc : ∀ (l : List Int) (c : Int), val (l ++ [c]) = val l + (c % 128).toNat * 128 ^ l.length
  | [], c => by simp [val]
  | d :: t, c => by
    have h := val_snoc t c
    simp only [List.cons_append, val, List.length_cons, Nat.pow_succ, h, Nat.mul_add]
    have e : 128 * ((c % 128).toNat * 128 ^ t.length) = (c % 128).toNat * (128 ^ t.length * 128) := by
      rw [Nat.mul_comm, Nat.mul_assoc]
    omega

/-- All of the first e bytes say that one follows. -/
def More (l : List Int) (e : Nat) : Prop := ∀ j, j < e → ∃ c, l[j]? = some c ∧ 128 ≤ c
theorem vget_more (l : List Int) (hb : Bts l) : ∀ e, e ≤ 9 → More l e → vget l = vgl (l.drop e) e (val (l.take e))
  | 0, _, _ => by simp [vget, val]
  | e + 1, he, hm => by
    have h1 := vget_more l hb e (by omega) (fun j hj => hm j (by omega))
    obtain ⟨c, hc, h128⟩ := hm e (by omega)
    obtain ⟨hlt, hce⟩ := List.getElem?_eq_some_iff.1 hc
    have hd : l.drop e = c :: l.drop (e + 1) := by rw [List.drop_eq_getElem_cons hlt, hce]
    have hr := hb c (hce ▸ List.getElem_mem hlt)
    rw [h1, hd, vgl, if_neg (by omega), if_neg (by omega), if_neg (by omega)]
    have ht : l.take (e + 1) = l.take e ++ [c] := by rw [List.take_succ_eq_append_getElem hlt, hce]
    rw [ht, val_snoc, List.length_take, Nat.min_eq_left (by omega)]
    have e1 : (c % 128).toNat = c.toNat - 128 := by omega
    rw [e1]

theorem vget_range10 {l : List Int} (hb : Bts l) (hm : More l 10) : vget l = (0, 0, some 2) := by
  rw [vget_more l hb 9 (by omega) (fun j hj => hm j (by omega))]
  obtain ⟨c, hc, h128⟩ := hm 9 (by omega)
  obtain ⟨hlt, hce⟩ := List.getElem?_eq_some_iff.1 hc
  rw [List.drop_eq_getElem_cons hlt, hce, vgl, if_pos (by omega)]
theorem vget_range9 {l : List Int} (hb : Bts l) (hm : More l 9) {c : Int} (hc : l[9]? = some c) (h : 1 < c) : vget l = (0, 0, some 2) := by
  rw [vget_more l hb 9 (by omega) hm]
  obtain ⟨hlt, hce⟩ := List.getElem?_eq_some_iff.1 hc
  rw [List.drop_eq_getElem_cons hlt, hce, vgl, if_pos (by omega)]
theorem vget_none {l : List Int} (hb : Bts l) (h9 : l.length ≤ 9) (hm : More l l.length) : vget l = (0, 0, some 6) := by
  rw [vget_more l hb l.length h9 hm, List.drop_eq_nil_of_le (Nat.le_refl _)]
  rfl
theorem vget_form {l : List Int} (hb : Bts l) {e : Nat} (h0 : 0 < e) (h9 : e ≤ 9) (hm : More l e) (hc : l[e]? = some 0) : vget l = (0, 0, some 3) := by
  rw [vget_more l hb e h9 hm]
  obtain ⟨hlt, hce⟩ := List.getElem?_eq_some_iff.1 hc
  rw [List.drop_eq_getElem_cons hlt, hce, vgl, if_neg (by omega), if_pos (by omega)]
theorem vget_val {l : List Int} (hb : Bts l) {e : Nat} (h9 : e ≤ 9) (hm : More l e) {c : Int} (hc : l[e]? = some c) (h1 : c < 128) (h2 : e = 9 → c ≤ 1) (h3 : 0 < e → c ≠ 0) : vget l = (val (l.take (e + 1)), e + 1, none) := by
  rw [vget_more l hb e h9 hm]
  obtain ⟨hlt, hce⟩ := List.getElem?_eq_some_iff.1 hc
  have hr := hb c (hce ▸ List.getElem_mem hlt)
  rw [List.drop_eq_getElem_cons hlt, hce, vgl, if_neg (by omega), if_neg (by omega), if_pos h1]
  rw [List.take_succ_eq_append_getElem hlt, hce, val_snoc, List.length_take, Nat.min_eq_left (by omega)]
  have e1 : (c % 128).toNat = c.toNat := by omega
  rw [e1]
theorem val_small {l : List Int} (h : l.length ≤ 9) : val l < 18446744073709551616 := by
  have h1 := val_lt l
  have h2 : 128 ^ l.length ≤ 128 ^ 9 := Nat.pow_le_pow_right (by omega) h
  omega
/-- The bytes of a number that fits: also each of its ends fits. -/
theorem val_fits {l : List Int} (hb : Bts l) {e : Nat} (h9 : e ≤ 9) {c : Int} (hc : l[e]? = some c) (h2 : e = 9 → c ≤ 1) (j : Nat) (hj : j ≤ e + 1) : val ((l.take (e + 1)).drop j) < 18446744073709551616 := by
  obtain ⟨hlt, hce⟩ := List.getElem?_eq_some_iff.1 hc
  by_cases h : (e + 1) - j ≤ 9
  · exact val_small (by simp; omega)
  · have h9' : e = 9 := by omega
    have h0 : j = 0 := by omega
    subst h0
    have hr := hb c (hce ▸ List.getElem_mem hlt)
    have hc1 := h2 h9'
    have hm : (c % 128).toNat ≤ 1 := by omega
    rw [List.drop_zero, List.take_succ_eq_append_getElem hlt, hce, val_snoc, List.length_take, Nat.min_eq_left (by omega)]
    have h3 := val_small (l := l.take e) (by simp; omega)
    have h1 := val_lt (l.take e)
    rw [List.length_take, Nat.min_eq_left (by omega)] at h1
    have h4 : (c % 128).toNat * 128 ^ e ≤ 1 * 128 ^ e := Nat.mul_le_mul_right _ hm
    subst h9'
    omega
theorem val_step {l : List Int} {e j : Nat} (hj : j < e + 1) {c : Int} (hc : l[j]? = some c) : val ((l.take (e + 1)).drop j) = (c % 128).toNat + 128 * val ((l.take (e + 1)).drop (j + 1)) := by
  obtain ⟨hlt, hce⟩ := List.getElem?_eq_some_iff.1 hc
  have hl : j < (l.take (e + 1)).length := by simp; omega
  rw [List.drop_eq_getElem_cons hl]
  simp [val, hce]
theorem vgl_err_ne : ∀ (l : List Int) (i v : Nat) {x n : Nat} {e : Int}, vgl l i v = (x, n, some e) → e ≠ 0
  | [], i, v, x, n, e, h => by simp [vgl] at h; omega
  | c :: t, i, v, x, n, e, h => by
    rw [vgl] at h
    by_cases h1 : i = 9 ∧ 1 < c
    · rw [if_pos h1] at h; simp at h; omega
    · rw [if_neg h1] at h
      by_cases h2 : c = 0 ∧ 0 < i
      · rw [if_pos h2] at h; simp at h; omega
      · rw [if_neg h2] at h
        by_cases h3 : c < 128
        · rw [if_pos h3] at h; simp at h
        · rw [if_neg h3] at h
          exact vgl_err_ne t (i + 1) _ h
theorem vget_err_ne {l : List Int} {x n : Nat} {e : Int} (h : vget l = (x, n, some e)) : e ≠ 0 := vgl_err_ne l 0 0 h
end Go.Proofs.YtmnhfpcbfdgbcaaDoor.Plain
