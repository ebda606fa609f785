/- Plain mathematics of numbers as few bytes: no program in sight. -/
import Derived.WalkKit
namespace Go.Proofs.YtmnhfpcbfdgbcaaDoor.Plain
set_option linter.unusedVariables false
set_option linter.unusedSimpArgs false

/-- The bytes of a number, seven bits each. -/
def vb (n : Nat) : List Int := if n < 128 then [(n : Int)] else ((n % 128 + 128 : Nat) : Int) :: vb (n / 128)
termination_by n
decreasing_by omega

theorem vb_small {n : Nat} (h : n < 128) : vb n = [(n : Int)] := by rw [vb, if_pos h]
theorem vb_big {n : Nat} (h : ¬ n < 128) : vb n = ((n % 128 + 128 : Nat) : Int) :: vb (n / 128) := by rw [vb, if_neg h]

theorem vb_len (d : Nat) : ∀ n, n < 128 ^ (d + 1) → 1 ≤ (vb n).length ∧ (vb n).length ≤ d + 1 := by
  induction d with
  | zero => intro n h; rw [vb_small (by simpa using h)]; simp
  | succ d ih =>
    intro n h
    by_cases hn : n < 128
    · rw [vb_small hn]; simp
    · rw [vb_big hn]
      have := ih (n / 128) (by rw [Nat.pow_succ] at h; omega)
      simp only [List.length_cons]; omega

theorem vb_len10 {n : Nat} (h : n < 18446744073709551616) : 1 ≤ (vb n).length ∧ (vb n).length ≤ 10 := vb_len 9 n (by omega)

/-- Bytes, as whole numbers. -/
def Bts (l : List Int) : Prop := ∀ x, x ∈ l → 0 ≤ x ∧ x < 256
theorem Bts.nil : Bts [] := fun _ h => by simp at h
theorem Bts.app {a b : List Int} (ha : Bts a) (hb : Bts b) : Bts (a ++ b) := fun x h => (List.mem_append.1 h).elim (ha x) (hb x)
theorem Bts.left {a b : List Int} (h : Bts (a ++ b)) : Bts a := fun x hx => h x (List.mem_append_left _ hx)
theorem Bts.right {a b : List Int} (h : Bts (a ++ b)) : Bts b := fun x hx => h x (List.mem_append_right _ hx)
theorem Bts.drop {a : List Int} (h : Bts a) (n : Nat) : Bts (a.drop n) := fun x hx => h x (List.mem_of_mem_drop hx)
theorem Bts.take {a : List Int} (h : Bts a) (n : Nat) : Bts (a.take n) := fun x hx => h x (List.mem_of_mem_take hx)
theorem Bts.one {c : Int} (h0 : 0 ≤ c) (h1 : c < 256) : Bts [c] := fun x hx => by simp at hx; subst hx; exact ⟨h0, h1⟩
theorem Bts.cons {c : Int} {l : List Int} (h0 : 0 ≤ c) (h1 : c < 256) (h : Bts l) : Bts (c :: l) := fun x hx => by
  rcases List.mem_cons.1 hx with rfl | hx
  · exact ⟨h0, h1⟩
  · exact h x hx

theorem vb_bts (n : Nat) : Bts (vb n) := by
  induction n using Nat.strongRecOn with
  | ind n ih =>
    by_cases h : n < 128
    · rw [vb_small h]; exact Bts.one (by omega) (by omega)
    · rw [vb_big h]; exact Bts.cons (by omega) (by omega) (ih _ (by omega))

/-- The number at the beginning of bytes: behind i bytes that came to v: the value, how many bytes, the error. -/
def vgl : List Int → Nat → Nat → Nat × Nat × Option Int
  | [], _, _ => (0, 0, some 6)
  | c :: t, i, v => if i = 9 ∧ 1 < c then (0, 0, some 2) else if c = 0 ∧ 0 < i then (0, 0, some 3) else
      if c < 128 then (v + c.toNat * 128 ^ i, i + 1, none) else vgl t (i + 1) (v + (c.toNat - 128) * 128 ^ i)
def vget (l : List Int) : Nat × Nat × Option Int := vgl l 0 0

theorem vgl_ok : ∀ (l : List Int) (i v : Nat) {x n : Nat}, vgl l i v = (x, n, none) → i < n ∧ n ≤ i + l.length
  | [], i, v, x, n, h => by simp [vgl] at h
  | c :: t, i, v, x, n, h => by
    rw [vgl] at h
    by_cases h1 : i = 9 ∧ 1 < c
    · rw [if_pos h1] at h; simp at h
    · rw [if_neg h1] at h
      by_cases h2 : c = 0 ∧ 0 < i
      · rw [if_pos h2] at h; simp at h
      · rw [if_neg h2] at h
        by_cases h3 : c < 128
        · rw [if_pos h3] at h; simp at h; simp; omega
        · rw [if_neg h3] at h
          have := vgl_ok t (i + 1) _ h
          simp; omega
theorem vget_ok {l : List Int} {x n : Nat} (h : vget l = (x, n, none)) : 1 ≤ n ∧ n ≤ l.length := by
  have := vgl_ok l 0 0 h
  omega
theorem vgl_err : ∀ (l : List Int) (i v : Nat) {x n : Nat} {e : Int}, vgl l i v = (x, n, some e) → x = 0 ∧ n = 0
  | [], i, v, x, n, e, h => by simp [vgl] at h; omega
  | c :: t, i, v, x, n, e, h => by
    rw [vgl] at h
    by_cases h1 : i = 9 ∧ 1 < c
    · rw [if_pos h1] at h; simp at h; omega
    · rw [if_neg h1] at h
      by_cases h2 : c = 0 ∧ 0 < i
      · rw [if_pos h2] at h; simp at h; omega
      · rw [if_neg h2] at h
        by_cases h3 : c < 128
        · rw [if_pos h3] at h; simp at h
        · rw [if_neg h3] at h
          exact vgl_err t (i + 1) _ h
theorem vgl_range (l : List Int) (hb : Bts l) : ∀ (i v : Nat), i ≤ 9 → v < 128 ^ i → (vgl l i v).1 < 18446744073709551616 := by
  induction l with
  | nil => intro i v _ _; simp [vgl]
  | cons c t ih =>
    intro i v hi hv
    have hc := hb c (List.mem_cons_self ..)
    rw [vgl]
    by_cases h1 : i = 9 ∧ 1 < c
    · rw [if_pos h1]; simp
    · rw [if_neg h1]
      by_cases h2 : c = 0 ∧ 0 < i
      · rw [if_pos h2]; simp
      · rw [if_neg h2]
        by_cases h3 : c < 128
        · rw [if_pos h3]
          show v + c.toNat * 128 ^ i < _
          by_cases h9 : i = 9
          · subst h9
            have : c.toNat ≤ 1 := by omega
            have h3 : c.toNat * 128 ^ 9 ≤ 1 * 128 ^ 9 := Nat.mul_le_mul_right _ this
            omega
          · have h3 : c.toNat * 128 ^ i ≤ 127 * 128 ^ i := Nat.mul_le_mul_right _ (by omega)
            have h4 : 128 ^ (i + 1) ≤ 128 ^ 9 := Nat.pow_le_pow_right (by omega) (by omega)
            rw [Nat.pow_succ] at h4
            omega
        · rw [if_neg h3]
          have h9 : i < 9 := by omega
          refine ih (fun x hx => hb x (List.mem_cons_of_mem _ hx)) (i + 1) _ (by omega) ?_
          have h3 : (c.toNat - 128) * 128 ^ i ≤ 127 * 128 ^ i := Nat.mul_le_mul_right _ (by omega)
          rw [Nat.pow_succ]
          omega
theorem vget_range {l : List Int} (hb : Bts l) : (vget l).1 < 18446744073709551616 := vgl_range l hb 0 0 (by omega) (by omega)

theorem vgl_vb (n : Nat) : ∀ (t : List Int) (i v : Nat), n * 128 ^ i < 18446744073709551616 → (0 < i → 0 < n) → i ≤ 9 → vgl (vb n ++ t) i v = (v + n * 128 ^ i, i + (vb n).length, none) := by
  induction n using Nat.strongRecOn with
  | ind n ih =>
    intro t i v hn hi h9
    by_cases h : n < 128
    · rw [vb_small h, List.cons_append, List.nil_append, vgl]
      have h1 : ¬ (i = 9 ∧ (1 : Int) < (n : Int)) := by
        rintro ⟨rfl, h1⟩
        have : 2 * 128 ^ 9 ≤ n * 128 ^ 9 := Nat.mul_le_mul_right _ (by omega)
        omega
      rw [if_neg h1, if_neg (by omega), if_pos (by omega)]
      simp
    · rw [vb_big h, List.cons_append, vgl]
      have h2 : i ≠ 9 := by
        rintro rfl
        have : 128 * 128 ^ 9 ≤ n * 128 ^ 9 := Nat.mul_le_mul_right _ (by omega)
        omega
      rw [if_neg (by omega), if_neg (by omega), if_neg (by omega)]
      have hp : 0 < 128 ^ i := Nat.pow_pos (by omega)
      have hd : (n / 128) * 128 ^ (i + 1) ≤ n * 128 ^ i := by
        rw [Nat.pow_succ, ← Nat.mul_assoc, Nat.mul_right_comm]
        exact Nat.mul_le_mul_right _ (Nat.div_mul_le_self n 128)
      rw [ih (n / 128) (by omega) t (i + 1) _ (by omega) (by omega) (by omega)]
      have e1 : ((n % 128 + 128 : Nat) : Int).toNat - 128 = n % 128 := by omega
      rw [e1]
      have e2 : n % 128 * 128 ^ i + n / 128 * 128 ^ (i + 1) = n * 128 ^ i := by
        have e3 : n % 128 + n / 128 * 128 = n := by omega
        rw [Nat.pow_succ, ← Nat.mul_assoc, Nat.mul_right_comm, ← Nat.add_mul, e3]
      simp only [List.length_cons]
      refine Prod.ext ?_ (Prod.ext ?_ rfl)
      · show v + n % 128 * 128 ^ i + n / 128 * 128 ^ (i + 1) = v + n * 128 ^ i
        omega
      · show i + 1 + (vb (n / 128)).length = i + ((vb (n / 128)).length + 1)
        omega
/-- A number comes back from its bytes, whatever stands behind. -/
theorem vget_vb {n : Nat} (hn : n < 18446744073709551616) (t : List Int) : vget (vb n ++ t) = (n, (vb n).length, none) := by
  have := vgl_vb n t 0 0 (by simpa using hn) (by omega) (by omega)
  simpa [vget] using this

/-- A reader's bytes, and whether something was wrong: one number taken. -/
def rdNum (most : Nat) (l : List Int) (b : Bool) : Nat × List Int × Bool :=
  if (vget l).2.2 = none ∧ (vget l).1 ≤ most then ((vget l).1, l.drop (vget l).2.1, b) else (0, [], true)
/-- One field of bytes taken. -/
def rdBytes (most : Nat) (l : List Int) (b : Bool) : List Int × List Int × Bool :=
  if (rdNum most l b).1 ≤ (rdNum most l b).2.1.length then ((rdNum most l b).2.1.take (rdNum most l b).1, (rdNum most l b).2.1.drop (rdNum most l b).1, (rdNum most l b).2.2) else ([], [], true)
/-- One byte taken. -/
def rdByte (l : List Int) (b : Bool) : Int × List Int × Bool := (l.headD 0, l.tail, b || l.isEmpty)

theorem rdNum_le (most : Nat) (l : List Int) (b : Bool) : (rdNum most l b).1 ≤ most ∧ (rdNum most l b).2.1.length ≤ l.length := by
  unfold rdNum
  by_cases h : (vget l).2.2 = none ∧ (vget l).1 ≤ most
  · rw [if_pos h]; exact ⟨h.2, by simp⟩
  · rw [if_neg h]; simp
theorem rdNum_vb {n most : Nat} (hn : n < 18446744073709551616) (hm : n ≤ most) (t : List Int) (b : Bool) : rdNum most (vb n ++ t) b = (n, t, b) := by
  unfold rdNum
  rw [vget_vb hn]
  simp [hm]
theorem rdBytes_vb {most : Nat} {m t : List Int} (hm : m.length ≤ most) (h : m.length < 18446744073709551616) (b : Bool) : rdBytes most (vb m.length ++ (m ++ t)) b = (m, t, b) := by
  unfold rdBytes
  rw [rdNum_vb h hm]
  simp
theorem rdBytes_le (most : Nat) (l : List Int) (b : Bool) : (rdBytes most l b).1.length ≤ most ∧ (rdBytes most l b).1.length ≤ l.length ∧ (rdBytes most l b).2.1.length ≤ l.length := by
  have h := rdNum_le most l b
  unfold rdBytes
  by_cases h1 : (rdNum most l b).1 ≤ (rdNum most l b).2.1.length
  · rw [if_pos h1]; simp; omega
  · rw [if_neg h1]; simp

end Go.Proofs.YtmnhfpcbfdgbcaaDoor.Plain
