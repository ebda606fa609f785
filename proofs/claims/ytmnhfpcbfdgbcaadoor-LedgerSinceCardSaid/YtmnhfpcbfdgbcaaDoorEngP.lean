/- The engine: what was made in a piece of code may be forgotten behind it. -/
import Derived.Test.YtmnhfpcbfdgbcaaDoorEngO
namespace Go.Proofs.YtmnhfpcbfdgbcaaDoor.Eng
set_option linter.unusedVariables false
set_option linter.unusedSimpArgs false
open Go.RowKit

def CutQ (n m : Nat) (s : St) (Q : Exit → Env → St → Prop) (x : Exit) (e : Env) (st : St) : Prop :=
  Q x e st ∨ ∃ (l : List (Nat × Pd)) (st2 : St), Holds e l ∧ (∀ p ∈ l.map (·.2), p.Bnd n m) ∧ st2 = ⟨st.boxes.take n, st.fr.take m, st.stat⟩ ∧ n ≤ st.boxes.length ∧ m ≤ st.fr.length ∧
    (∀ (i : Nat) (B : Bx), i < n → st.boxes[i]? = some B → s.boxes[i]? = some B ∨ ∀ q ∈ B.cs, q.Bnd n m) ∧ Q x (Env.of l) st2

theorem of_none {t : Nat} : ∀ {l : List (Nat × Pd)}, (∀ p, (t, p) ∉ l) → Env.of l t = any
  | [], _ => rfl
  | (u, p) :: l, h => by
    by_cases hu : t = u
    · subst hu; exact absurd (List.mem_cons_self) (h p)
    · rw [of_ne _ _ _ _ hu]; exact of_none fun p hp => h p (List.mem_cons_of_mem _ hp)

theorem of_bnd {n m : Nat} : ∀ {l : List (Nat × Pd)}, (∀ p ∈ l.map (·.2), p.Bnd n m) → ∀ t, (Env.of l t).Bnd n m
  | [], _, t => any_bnd _ _
  | (u, p) :: l, h, t => by
    by_cases hu : t = u
    · subst hu; rw [of_same]; exact h _ (by simp)
    · rw [of_ne _ _ _ _ hu]; exact of_bnd (fun q hq => h q (by simp only [List.map_cons, List.mem_cons]; exact .inr hq)) t

theorem aw_cut {P : Program} {nt : Nat} {c : Code} {Q : Exit → Env → St → Prop} {e : Env} {s : St} (n m : Nat) (hn : s.boxes.length ≤ n) (hm : s.fr.length ≤ m) (h : AW P nt c (CutQ n m s Q) e s) : AW P nt c Q e s := by
  intro g a w he hs
  refine wp_mono (h g a w he hs) ?_
  rintro x a1 w1 ⟨e1, s1, g1, hq | ⟨l, st2, hH, hl, h2, hn2, hm2, hbb, hq⟩, hx, he1, hs1⟩
  · exact ⟨e1, s1, g1, hq, hx, he1, hs1⟩
  · obtain ⟨g2, q1, q2, q3⟩ := cut hs hx hs1 h2 hn hm hn2 hm2 hbb
    have he2 := Holds.of hH he1
    exact ⟨Env.of l, st2, g2, hq, q1, ⟨he2.size, he2.defers, fun t => q3 _ _ (of_bnd hl t) (he2.tmp t)⟩, q2⟩

theorem cut_no {n m : Nat} {s : St} {Q : Exit → Env → St → Prop} {x : Exit} {e : Env} {st : St} (h : Q x e st) : CutQ n m s Q x e st := .inl h

theorem bl_nil {n m : Nat} : ∀ B ∈ ([] : List Bx), ∀ q ∈ B.cs, q.Bnd n m := fun B h => by cases h
theorem bl_cons {B : Bx} {bs : List Bx} {n m : Nat} (h : ∀ q ∈ B.cs, q.Bnd n m) (h2 : ∀ C ∈ bs, ∀ q ∈ C.cs, q.Bnd n m) : ∀ C ∈ B :: bs, ∀ q ∈ C.cs, q.Bnd n m := fun C hC => by
  rcases List.mem_cons.1 hC with rfl | hC
  · exact h
  · exact h2 C hC

theorem cut_yes {s : St} {bs0 bs bs' : List Bx} {fs0 fs fs' : List Fr} {k j : Nat} {l : List (Nat × Pd)} {e : Env} {Q : Exit → Env → St → Prop} {x : Exit} (hH : Holds e l) (hl : ∀ p ∈ l.map (·.2), p.Bnd (s.boxes.length + k) (s.fr.length + j)) (hk : k ≤ bs.length) (hj : j ≤ fs.length)
    (hk' : bs.take k = bs') (hj' : fs.take j = fs') (hb : ∀ B ∈ bs', ∀ q ∈ B.cs, q.Bnd (s.boxes.length + k) (s.fr.length + j)) (hq : Q x (Env.of l) (s.ext bs' fs')) : CutQ (s.boxes.length + k) (s.fr.length + j) (s.ext bs0 fs0) Q x e (s.ext bs fs) := by
  subst hk'; subst hj'
  refine .inr ⟨l, _, hH, hl, ?_, ?_, ?_, fun i B hi hB => ?_, hq⟩
  · simp only [St.ext, List.take_length_add_append]
  · rw [ext_boxes_length]; omega
  · rw [ext_fr_length]; omega
  · by_cases h1 : i < s.boxes.length
    · left
      simp only [St.ext, List.getElem?_append_left h1] at hB ⊢
      exact hB
    · right
      simp only [St.ext, List.getElem?_append_right (Nat.le_of_not_lt h1)] at hB
      refine hb B ?_
      refine List.mem_of_getElem? (i := i - s.boxes.length) ?_
      rw [List.getElem?_take_of_lt (by omega)]
      exact hB
end Go.Proofs.YtmnhfpcbfdgbcaaDoor.Eng
