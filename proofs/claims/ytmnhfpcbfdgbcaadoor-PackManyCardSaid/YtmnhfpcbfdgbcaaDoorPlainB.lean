/- Plain mathematics of PackMany: which fields are taken, and their bytes. -/
import Derived.Test.YtmnhfpcbfdgbcaaDoorPlainA
namespace Go.Proofs.YtmnhfpcbfdgbcaaDoor.Plain
set_option linter.unusedVariables false
set_option linter.unusedSimpArgs false

/-- The fields that are taken, from the i-th on, behind n bytes. -/
def tk : List (List Int) → Nat → Nat → List (List Int)
  | [], _, _ => []
  | x :: t, i, n => if i < 20 ∧ n + min x.length 500 < 500 then x :: tk t (i + 1) (n + x.length) else []
/-- Their bytes. -/
def enc : List (List Int) → List Int
  | [] => []
  | x :: t => vb x.length ++ (x ++ enc t)
theorem tk_go {x : List Int} {t : List (List Int)} {i n : Nat} (h : i < 20 ∧ n + min x.length 500 < 500) : tk (x :: t) i n = x :: tk t (i + 1) (n + x.length) := by rw [tk, if_pos h]
theorem tk_stop {x : List Int} {t : List (List Int)} {i n : Nat} (h : ¬ (i < 20 ∧ n + min x.length 500 < 500)) : tk (x :: t) i n = [] := by rw [tk, if_neg h]
theorem tk_lt : ∀ (l : List (List Int)) (i n : Nat), n < 500 → (enc (tk l i n)).length + n ≤ 500 + 10 * (20 - i)
  | [], i, n, h => by simp [tk, enc]; omega
  | x :: t, i, n, h => by
    by_cases c : i < 20 ∧ n + min x.length 500 < 500
    · rw [tk_go c]
      have h1 := tk_lt t (i + 1) (n + x.length) (by omega)
      have h2 := vb_len10 (n := x.length) (by omega)
      simp only [enc, List.length_append]
      omega
    · rw [tk_stop c]
      simp only [enc, List.length_nil]
      omega
theorem enc_bts : ∀ (l : List (List Int)), (∀ x, x ∈ l → Bts x) → Bts (enc l)
  | [], _ => Bts.nil
  | x :: t, h => (vb_bts _).app ((h x (List.mem_cons_self ..)).app (enc_bts t fun y hy => h y (List.mem_cons_of_mem _ hy)))
theorem tk_mem : ∀ (l : List (List Int)) (i n : Nat) (x : List Int), x ∈ tk l i n → x ∈ l
  | [], _, _, x, h => by simp [tk] at h
  | y :: t, i, n, x, h => by
    by_cases c : i < 20 ∧ n + min y.length 500 < 500
    · rw [tk_go c] at h
      rcases List.mem_cons.1 h with rfl | h
      · exact List.mem_cons_self ..
      · exact List.mem_cons_of_mem _ (tk_mem t _ _ _ h)
    · rw [tk_stop c] at h; simp at h
end Go.Proofs.YtmnhfpcbfdgbcaaDoor.Plain
