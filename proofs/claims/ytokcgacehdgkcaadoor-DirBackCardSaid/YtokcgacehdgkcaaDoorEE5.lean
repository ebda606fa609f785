/- Loops in plain Lean: what the laws share. -/
import Derived.Test.YtokcgacehdgkcaaDoorEngX4
import Derived.Test.YtokcgacehdgkcaaDoorEE1
import Derived.Test.YtokcgacehdgkcaaDoorEE3
namespace Go.Proofs.YtokcgacehdgkcaaDoor.Eng.A
set_option linter.unusedVariables false
set_option linter.unusedSimpArgs false
open Go.RowKit Go.Proofs.YtokcgacehdgkcaaDoor.Eng

theorem lp_find {A : Type} {V : Type} {l : List A} {body : Int → Option (Int ⊕ (V ⊕ Unit))} (p : A → Bool) (v : Nat → V) {fl : Nat}
    (hb : ∀ (i : Nat) (x : A), l[i]? = some x → body (i : Int) = ifb (p x) (some (.inr (.inl (v i)))) (some (.inl ((i + 1 : Nat) : Int)))) (he : body (l.length : Int) = some (.inr (.inr ()))) (hf : l.length < fl) :
    (l.any p = false ∧ lp body fl 0 = some (.inr ())) ∨ (l.any p = true ∧ ∃ i, lp body fl 0 = some (.inl (v i))) := by
  have hn : ∀ (i : Nat) (x : A), l[i]? = some x → p x = false → body (i : Int) = some (.inl ((i + 1 : Nat) : Int)) := fun i x hx hp => by rw [hb i x hx, hp, ifb_0]
  cases ha : l.any p with
  | false => exact .inl ⟨rfl, lp_none (body := body) (fun i => ((i : Nat) : Int)) p ha hn he hf⟩
  | true =>
    obtain ⟨i, x, _, _, h3⟩ := lp_hit (body := body) (fun i => ((i : Nat) : Int)) p (fun i _ => Sum.inl (v i)) ha hn (fun i x hx hp => by rw [hb i x hx, hp, ifb_1]) hf
    exact .inr ⟨rfl, i, h3⟩
theorem lp_cmp {A : Type} [DecidableEq A] {l m : List A} {body : Int → Option (Int ⊕ (Bool ⊕ Unit))} (q : A → A → Bool) (hq : ∀ a b, q a b = true ↔ a = b) (hlm : l.length = m.length) {fl : Nat}
    (hb : ∀ t, body t = ifb (decide (t < (l.length : Int))) (ixb l t fun x => ixb m t fun y => ifb (!q x y) (some (.inr (.inl false))) (some (.inl (IntKind.i64.wrap (t + 1))))) (some (.inr (.inr ())))) (hl : l.length < 1000000000000000000) (hf : l.length < fl) :
    lp body fl 0 = some (if l = m then .inr () else .inl false) := by
  have hz : (l.zip m).length = l.length := by rw [List.length_zip]; omega
  have hany : (l.zip m).any (fun x => !q x.1 x.2) = false ↔ l = m := by
    clear hb hf hl hz
    induction l generalizing m with
    | nil => cases m <;> simp_all
    | cons a l ih =>
      cases m with
      | nil => simp at hlm
      | cons b m =>
        rw [List.zip_cons_cons, List.any_cons, Bool.or_eq_false_iff, ih (by simpa using hlm)]
        have := hq a b
        cases hc : q a b <;> simp_all
  rcases lp_find (l := l.zip m) (body := body) (fun x => !q x.1 x.2) (fun _ => false) (fl := fl) (fun i x hx => by
    have hi := (List.getElem?_eq_some_iff.1 hx).1
    rw [List.getElem?_zip_eq_some] at hx
    rw [hb, ifb_dec, if_pos (by omega), ixb_n hx.1, ixb_n hx.2, wrap_i64 (by omega)]; rfl) (by rw [hb, hz, ifb_dec, if_neg (by omega)]) (by omega) with ⟨h1, h2⟩ | ⟨h1, i, h2⟩
  · rw [h2, if_pos (hany.1 h1)]
  · rw [h2, if_neg (fun h => by rw [hany.2 h] at h1; cases h1)]
theorem foldl_snoc {A : Type} : ∀ (l s : List A), l.foldl (fun s x => s ++ [x]) s = s ++ l
  | [], s => by simp
  | a :: l, s => by rw [List.foldl_cons, foldl_snoc l]; simp
theorem lp_inv {T O S : Type} {body : T → Option (T ⊕ O)} (mk : Nat → S → T) (I : Nat → S → Prop) (Q : O → Prop) {n fl : Nat} {s0 : S} (h0 : I 0 s0)
    (hs : ∀ i s, i < n → I i s → (∃ s', body (mk i s) = some (.inl (mk (i + 1) s')) ∧ I (i + 1) s') ∨ (∃ o, body (mk i s) = some (.inr o) ∧ Q o))
    (he : ∀ s, I n s → ∃ o, body (mk n s) = some (.inr o) ∧ Q o) (hf : n < fl) : ∃ o, lp body fl (mk 0 s0) = some o ∧ Q o := by
  have key : ∀ k i s fl, i + k = n → k < fl → I i s → ∃ o, lp body fl (mk i s) = some o ∧ Q o := by
    intro k
    induction k with
    | zero =>
      intro i s fl hi hf hI
      obtain ⟨m, rfl⟩ : ∃ m, fl = m + 1 := ⟨fl - 1, by omega⟩
      obtain rfl : i = n := by omega
      obtain ⟨o, h1, h2⟩ := he s hI
      exact ⟨o, by simp [lp, h1], h2⟩
    | succ k ih =>
      intro i s fl hi hf hI
      obtain ⟨m, rfl⟩ : ∃ m, fl = m + 1 := ⟨fl - 1, by omega⟩
      rcases hs i s (by omega) hI with ⟨s', h1, h2⟩ | ⟨o, h1, h2⟩
      · obtain ⟨o, h3, h4⟩ := ih (i + 1) s' m (by omega) (by omega) h2
        exact ⟨o, by simp only [lp, h1, bnd_s, ocs_1]; exact h3, h4⟩
      · exact ⟨o, by simp [lp, h1], h2⟩
  exact key n 0 s0 fl (by omega) hf h0
theorem belo {i n : Nat} (h : i < n) : Below (i : Int) n := ⟨by omega, by simpa using h⟩

theorem lp_go {T O : Type} {body : T → Option (T ⊕ O)} {m : Nat} {t u : T} (h : body t = some (.inl u)) : lp body (m + 1) t = lp body m u := by rw [lp, h]; rfl
theorem lp_end {T O : Type} {body : T → Option (T ⊕ O)} {m : Nat} {t : T} {o : O} (h : body t = some (.inr o)) : lp body (m + 1) t = some o := by rw [lp, h]; rfl
theorem wrapi {n : Int} (h : -9223372036854775808 ≤ n) (h2 : n < 9223372036854775808) : IntKind.i64.wrap n = n := wrap_i64 ⟨h, h2⟩

end Go.Proofs.YtokcgacehdgkcaaDoor.Eng.A

/- Loops over a list, in plain Lean: by a step that goes on, or ends. -/
namespace Go.Proofs.YtokcgacehdgkcaaDoor.Eng.A
set_option linter.unusedVariables false
set_option linter.unusedSimpArgs false
open Go.RowKit Go.Proofs.YtokcgacehdgkcaaDoor.Eng

def fo {A S O : Type} (f : S → A → S ⊕ O) (e : S → O) : S → List A → O
  | s, [] => e s
  | s, x :: l => match f s x with
    | .inl s' => fo f e s' l
    | .inr o => o
theorem fo_l {A S O : Type} {f : S → A → S ⊕ O} {e : S → O} {s s' : S} {x : A} {l : List A} (h : f s x = .inl s') : fo f e s (x :: l) = fo f e s' l := by rw [fo, h]
theorem fo_r {A S O : Type} {f : S → A → S ⊕ O} {e : S → O} {s : S} {o : O} {x : A} {l : List A} (h : f s x = .inr o) : fo f e s (x :: l) = o := by rw [fo, h]
theorem lp_fo {A S T O : Type} {l : List A} (mk : Nat → S → T) {body : T → Option (T ⊕ O)} (f : S → A → S ⊕ O) (e : S → O) (I : Nat → S → Prop) {fl : Nat} {s0 : S} (h0 : I 0 s0)
    (hs : ∀ i x s, l[i]? = some x → I i s → (∃ s', f s x = .inl s' ∧ body (mk i s) = some (.inl (mk (i + 1) s')) ∧ I (i + 1) s') ∨ (∃ o, f s x = .inr o ∧ body (mk i s) = some (.inr o)))
    (he : ∀ s, I l.length s → body (mk l.length s) = some (.inr (e s))) (hf : l.length < fl) : lp body fl (mk 0 s0) = some (fo f e s0 l) := by
  have key : ∀ (m : List A) i s fl, l.drop i = m → i ≤ l.length → m.length < fl → I i s → lp body fl (mk i s) = some (fo f e s m) := by
    intro m
    induction m with
    | nil =>
      intro i s fl hd hi hf hI
      obtain ⟨k, rfl⟩ : ∃ k, fl = k + 1 := ⟨fl - 1, by simp at hf; omega⟩
      have : i = l.length := by
        have := congrArg List.length hd
        rw [List.length_drop] at this
        simp at this; omega
      subst this
      rw [lp_end (he s hI)]; rfl
    | cons x m ih =>
      intro i s fl hd hi hf hI
      obtain ⟨k, rfl⟩ : ∃ k, fl = k + 1 := ⟨fl - 1, by simp at hf; omega⟩
      have hlt : i < l.length := by
        have := congrArg List.length hd
        rw [List.length_drop] at this
        simp at this; omega
      have hx : l[i]? = some x := by
        have := congrArg (fun m => m[0]?) hd
        simpa using this
      rcases hs i x s hx hI with ⟨s', h1, h2, h3⟩ | ⟨o, h1, h2⟩
      · rw [lp_go h2, fo_l h1]
        exact ih (i + 1) s' k (by rw [← List.drop_drop, hd]; rfl) hlt (by simp at hf; omega) h3
      · rw [lp_end h2, fo_r h1]
  exact key l 0 s0 fl rfl (Nat.zero_le _) hf h0
/-- Steps that only go on. -/
theorem fo_all {A S O : Type} {g : S → A → S} {e : S → O} : ∀ (l : List A) (s : S), fo (fun s x => .inl (g s x)) e s l = e (l.foldl g s)
  | [], s => rfl
  | x :: l, s => by rw [fo_l rfl, fo_all l, List.foldl_cons]
theorem nat_wrap {n : Nat} (h : n < 1000000000000000000) : IntKind.i64.wrap ((n : Int) + 1) = ((n + 1 : Nat) : Int) := by rw [wrapi (by omega) (by omega)]; omega
theorem dec_lt {i n : Nat} (h : i < n) : decide ((i : Int) < (n : Int)) = true := decide_eq_true (by omega)
theorem dec_ge {n : Nat} : decide ((n : Int) < (n : Int)) = false := decide_eq_false (by omega)
/-- A loop that is left by a step at most: any of them, or none. -/
theorem lp_any {A O : Type} {l : List A} {body : Int → Option (Int ⊕ (O ⊕ Unit))} (p : A → Bool) (v : O) {fl : Nat}
    (hb : ∀ (i : Nat) x, l[i]? = some x → body (i : Int) = if p x = true then some (.inr (.inl v)) else some (.inl ((i + 1 : Nat) : Int))) (he : body (l.length : Int) = some (.inr (.inr ()))) (hf : l.length < fl) :
    lp body fl 0 = some (if l.any p = true then .inl v else .inr ()) := by
  have := lp_fo (l := l) (body := body) (fun i (_ : Unit) => (i : Int)) (fun _ x => if p x = true then .inr (.inl v) else .inl ()) (fun _ => .inr ()) (fun _ _ => True) (fl := fl) (s0 := ()) trivial
    (fun i x s hx _ => by
      rw [hb i x hx]
      by_cases h : p x = true
      · exact .inr ⟨.inl v, by rw [if_pos h], by rw [if_pos h]⟩
      · exact .inl ⟨(), by rw [if_neg h], by rw [if_neg h], trivial⟩)
    (fun _ _ => he) hf
  have h0 : lp body fl 0 = _ := this
  rw [h0]
  congr 1
  clear this h0 hb he hf
  induction l with
  | nil => rfl
  | cons x l ih =>
    by_cases h : p x = true
    · rw [fo_r (o := .inl v) (by rw [if_pos h]), List.any_cons, h]; rfl
    · rw [fo_l (s' := ()) (by rw [if_neg h]), ih, List.any_cons, Bool.eq_false_iff.2 h]; rfl
end Go.Proofs.YtokcgacehdgkcaaDoor.Eng.A

/- Stretches of pages in plain Lean: what lies apart, what is left, what is reserved. -/
namespace Go.Proofs.YtokcgacehdgkcaaDoor.Eng.A
set_option linter.unusedVariables false
set_option linter.unusedSimpArgs false
open Go.RowKit Go.Proofs.YtokcgacehdgkcaaDoor.Plain Go.Proofs.YtokcgacehdgkcaaDoor.Eng

structure Ok (pg : Int) (s : Stx) : Prop where
  lo : 0 ≤ s.From
  hi : s.From < pg
  one : 1 ≤ s.Many
  fit : s.Many ≤ pg - s.From
def Dis (a b : Stx) : Prop := a.From + a.Many ≤ b.From ∨ b.From + b.Many ≤ a.From
theorem Dis.symm {a b : Stx} (h : Dis a b) : Dis b a := Or.symm h
structure Fine (pg : Int) (l : List Stx) : Prop where
  p1 : 1 ≤ pg
  p2 : pg ≤ 1024
  ok : ∀ s ∈ l, Ok pg s
  dis : l.Pairwise Dis
def Asc : Int → List Stx → Prop
  | _, [] => True
  | n, s :: l => n ≤ s.From ∧ Asc (s.From + s.Many) l
def tot : List Stx → Int
  | [] => 0
  | s :: l => s.Many + tot l
def sfr (a b : Stx) : Prop := a.From ≤ b.From
theorem tot_append : ∀ l m : List Stx, tot (l ++ m) = tot l + tot m
  | [], m => by simp [tot]
  | s :: l, m => by rw [List.cons_append, tot, tot, tot_append l m]; omega
theorem tot_perm {l m : List Stx} (h : l.Perm m) : tot l = tot m := by
  induction h with
  | nil => rfl
  | cons x _ ih => rw [tot, tot, ih]
  | swap x y l => simp only [tot]; omega
  | trans _ _ a b => rw [a, b]
theorem asc_of {l : List Stx} (hs : l.Pairwise sfr) (hd : l.Pairwise Dis) (hm : ∀ s ∈ l, 1 ≤ s.Many) : ∀ n, (∀ s ∈ l, n ≤ s.From) → Asc n l := by
  induction l with
  | nil => exact fun _ _ => trivial
  | cons a l ih =>
    intro n hn
    rw [List.pairwise_cons] at hs hd
    refine ⟨hn a (by simp), ih hs.2 hd.2 (fun s h => hm s (by simp [h])) _ fun s h => ?_⟩
    have h1 : a.From ≤ s.From := hs.1 s h
    have h2 := hd.1 s h
    have h3 := hm s (by simp [h])
    unfold Dis at h2
    omega
theorem asc_ge {l : List Stx} (hm : ∀ s ∈ l, 0 ≤ s.Many) : ∀ n, Asc n l → ∀ s ∈ l, n ≤ s.From := by
  induction l with
  | nil => simp
  | cons a l ih =>
    intro n h s hs
    have ha := hm a (by simp)
    rcases List.mem_cons.1 hs with rfl | h2
    · exact h.1
    · have := ih (fun s h => hm s (by simp [h])) _ h.2 s h2
      have := h.1
      omega
theorem asc_dis {l : List Stx} (hm : ∀ s ∈ l, 0 ≤ s.Many) : ∀ n, Asc n l → l.Pairwise Dis := by
  induction l with
  | nil => simp
  | cons a l ih =>
    intro n h
    have hm' : ∀ s ∈ l, 0 ≤ s.Many := fun s h => hm s (by simp [h])
    exact List.pairwise_cons.2 ⟨fun s hs => .inl (asc_ge hm' _ h.2 s hs), ih hm' _ h.2⟩
theorem asc_sorted {l : List Stx} (hm : ∀ s ∈ l, 0 ≤ s.Many) : ∀ n, Asc n l → l.Pairwise sfr := by
  induction l with
  | nil => simp
  | cons a l ih =>
    intro n h
    have hm' : ∀ s ∈ l, 0 ≤ s.Many := fun s h => hm s (by simp [h])
    have ha := hm a (by simp)
    exact List.pairwise_cons.2 ⟨fun s hs => by have := asc_ge hm' _ h.2 s hs; show a.From ≤ s.From; omega, ih hm' _ h.2⟩
/-- A list and its turned one. -/
theorem dis_iff {l m : List Stx} (hp : m.Perm l) (hs : m.Pairwise sfr) (hm : ∀ s ∈ l, 1 ≤ s.Many) (h0 : ∀ s ∈ l, 0 ≤ s.From) : Asc 0 m ↔ l.Pairwise Dis := by
  have hm' : ∀ s ∈ m, 1 ≤ s.Many := fun s h => hm s (hp.mem_iff.1 h)
  rw [← hp.pairwise_iff (fun {a b} h => Dis.symm h)]
  exact ⟨fun h => asc_dis (fun s h => by have := hm' s h; omega) 0 h, fun h => asc_of hs h hm' 0 fun s h => h0 s (hp.mem_iff.1 h)⟩
theorem asc_tot {pg : Int} {l : List Stx} (ho : ∀ s ∈ l, Ok pg s) : ∀ n, n ≤ pg → Asc n l → n + tot l ≤ pg ∧ (l.length : Int) ≤ tot l := by
  induction l with
  | nil => intro n h _; simp [tot]; exact h
  | cons a l ih =>
    intro n hn h
    have ha := ho a (by simp)
    have h1 := ha.fit
    have h2 := ha.one
    have h3 := h.1
    obtain ⟨k1, k2⟩ := ih (fun s h => ho s (by simp [h])) (a.From + a.Many) (by omega) h.2
    rw [tot, List.length_cons]
    omega
theorem tot_le {pg : Int} {l m : List Stx} (hp : m.Perm l) (hs : m.Pairwise sfr) (h : Fine pg l) : tot l ≤ pg ∧ (l.length : Int) ≤ tot l := by
  have ha := (dis_iff hp hs (fun s k => (h.ok s k).one) (fun s k => (h.ok s k).lo)).2 h.dis
  have := asc_tot (pg := pg) (fun s k => h.ok s (hp.mem_iff.1 k)) 0 (by have := h.p1; omega) ha
  rw [tot_perm hp, hp.length_eq] at this
  omega
theorem ord_perm {l : List Stx} : ∃ m : List Stx, m.Perm l ∧ m.Pairwise sfr := by
  refine ⟨l.mergeSort (fun a b => decide (a.From ≤ b.From)), List.mergeSort_perm _ _, ?_⟩
  have := List.pairwise_mergeSort (le := fun a b : Stx => decide (a.From ≤ b.From)) (fun a b c h1 h2 => by simp at *; omega) (fun a b => by simp; omega) l
  exact this.imp fun h => by simpa [sfr] using h
theorem fine_tot {pg : Int} {l : List Stx} (h : Fine pg l) : tot l ≤ pg ∧ (l.length : Int) ≤ tot l :=
  let ⟨_, hp, hs⟩ := ord_perm (l := l); tot_le hp hs h
theorem Fine.perm {pg : Int} {l m : List Stx} (h : Fine pg l) (hp : m.Perm l) : Fine pg m :=
  ⟨h.p1, h.p2, fun s k => h.ok s (hp.mem_iff.1 k), (hp.pairwise_iff (fun {a b} h => Dis.symm h)).2 h.dis⟩

/-! ### Pages -/
def iv (a : Int) (n : Nat) : List Int := (List.range n).map fun (k : Nat) => a + (k : Int)
theorem iv_add (a : Int) (n m : Nat) : iv a (n + m) = iv a n ++ iv (a + n) m := by
  unfold iv
  rw [List.range_add, List.map_append, List.map_map]
  congr 1
  apply List.map_congr_left
  intro k _
  simp only [Function.comp_apply]
  omega
theorem mem_iv {a p : Int} {n : Nat} : p ∈ iv a n ↔ a ≤ p ∧ p < a + n := by
  unfold iv
  rw [List.mem_map]
  constructor
  · rintro ⟨k, hk, rfl⟩
    rw [List.mem_range] at hk
    omega
  · rintro ⟨h1, h2⟩
    exact ⟨(p - a).toNat, List.mem_range.2 (by omega), by omega⟩
def pgs (l : List Stx) : List Int := l.flatMap fun s => iv s.From s.Many.toNat
theorem pgs_cons (s : Stx) (l : List Stx) : pgs (s :: l) = iv s.From s.Many.toNat ++ pgs l := rfl
def cov (s : Stx) (p : Int) : Prop := s.From ≤ p ∧ p < s.From + s.Many
instance (s : Stx) (p : Int) : Decidable (cov s p) := inferInstanceAs (Decidable (_ ∧ _))
theorem mem_pgs {l : List Stx} (hm : ∀ s ∈ l, 0 ≤ s.Many) {p : Int} : p ∈ pgs l ↔ ∃ s ∈ l, cov s p := by
  unfold pgs cov
  rw [List.mem_flatMap]
  constructor
  · rintro ⟨s, h1, h2⟩
    rw [mem_iv] at h2
    have := hm s h1
    exact ⟨s, h1, by omega⟩
  · rintro ⟨s, h1, h2⟩
    have := hm s h1
    exact ⟨s, h1, mem_iv.2 (by omega)⟩
/-! ### What is left -/
def gaps : Int → List Stx → List Stx
  | _, [] => []
  | n, s :: l => if n < s.From then ⟨n, s.From - n⟩ :: gaps (s.From + s.Many) l else gaps (s.From + s.Many) l
def unc (l : List Stx) (p : Int) : Bool := l.all fun s => !decide (cov s p)
theorem gaps_pgs {pg : Int} {l : List Stx} (ho : ∀ s ∈ l, Ok pg s) : ∀ n, n ≤ pg → Asc n l → pgs (gaps n (l ++ [⟨pg, 0⟩])) = (iv n (pg - n).toNat).filter (unc l) := by
  induction l with
  | nil =>
    intro n hn _
    have hf : (iv n (pg - n).toNat).filter (unc []) = iv n (pg - n).toNat := List.filter_eq_self.2 fun _ _ => rfl
    rw [hf]
    simp only [List.nil_append, gaps]
    by_cases h : n < pg
    · rw [if_pos h]; simp [pgs]
    · rw [if_neg h, show (pg - n).toNat = 0 by omega]; rfl
  | cons s l ih =>
    intro n hn ha
    have h0 := ho s (by simp)
    have hf := h0.fit
    have h1 := h0.one
    have ho' : ∀ s ∈ l, Ok pg s := fun s h => ho s (by simp [h])
    have ih := ih ho' (s.From + s.Many) (by omega) ha.2
    have hg := asc_ge (fun s h => by have := (ho' s h).one; omega) _ ha.2
    have han := ha.1
    have hsplit : iv n (pg - n).toNat = iv n (s.From - n).toNat ++ (iv s.From s.Many.toNat ++ iv (s.From + s.Many) (pg - (s.From + s.Many)).toNat) := by
      rw [show (pg - n).toNat = (s.From - n).toNat + (s.Many.toNat + (pg - (s.From + s.Many)).toNat) by omega, iv_add, show n + ((s.From - n).toNat : Int) = s.From by omega, iv_add, show s.From + (s.Many.toNat : Int) = s.From + s.Many by omega]
    have e1 : (iv n (s.From - n).toNat).filter (unc (s :: l)) = iv n (s.From - n).toNat := List.filter_eq_self.2 fun p hp => by
      rw [mem_iv] at hp
      refine List.all_eq_true.2 fun t ht => ?_
      rw [show decide (cov t p) = false from decide_eq_false fun hc => ?_]; · rfl
      obtain ⟨c1, c2⟩ := hc
      rcases List.mem_cons.1 ht with rfl | ht
      · omega
      · have := hg t ht; omega
    have e2 : (iv s.From s.Many.toNat).filter (unc (s :: l)) = [] := List.filter_eq_nil_iff.2 fun p hp => by
      rw [mem_iv] at hp
      intro h
      have := List.all_eq_true.1 h s (by simp)
      rw [show decide (cov s p) = true from decide_eq_true ⟨by omega, by omega⟩] at this
      cases this
    have e3 : (iv (s.From + s.Many) (pg - (s.From + s.Many)).toNat).filter (unc (s :: l)) = (iv (s.From + s.Many) (pg - (s.From + s.Many)).toNat).filter (unc l) := List.filter_congr fun p hp => by
      rw [mem_iv] at hp
      simp only [unc, List.all_cons]
      rw [show decide (cov s p) = false from decide_eq_false (by unfold cov; omega)]; rfl
    rw [hsplit, List.filter_append, List.filter_append, e1, e2, e3, ← ih, List.nil_append, List.cons_append, gaps]
    by_cases h : n < s.From
    · rw [if_pos h, pgs_cons]
    · rw [if_neg h, show (s.From - n).toNat = 0 by omega]; rfl
/-- No two beside one another. -/
def Sep : Int → List Stx → Prop
  | _, [] => True
  | n, s :: l => n < s.From ∧ 1 ≤ s.Many ∧ Sep (s.From + s.Many) l
theorem Sep.lo {n m : Int} (h : n ≤ m) : ∀ {l : List Stx}, Sep m l → Sep n l
  | [], _ => trivial
  | s :: l, h2 => ⟨by have := h2.1; omega, h2.2⟩
theorem gaps_sep {l : List Stx} (hm : ∀ s ∈ l, 1 ≤ s.Many) (z : Stx) : ∀ n, Asc n l → Sep (n - 1) (gaps n (l ++ [z])) := by
  induction l with
  | nil =>
    intro n _
    simp only [List.nil_append, gaps]
    split
    · exact ⟨by show n - 1 < n; omega, by show 1 ≤ z.From - n; omega, trivial⟩
    · trivial
  | cons s l ih =>
    intro n h
    have h1 := hm s (by simp)
    have := ih (fun s h => hm s (by simp [h])) _ h.2
    have hn := h.1
    rw [List.cons_append, gaps]
    split
    · rename_i hlt
      refine ⟨by show n - 1 < n; omega, by show 1 ≤ s.From - n; omega, Sep.lo ?_ this⟩
      show n + (s.From - n) ≤ _
      omega
    · exact Sep.lo (by omega) this
theorem sep_asc : ∀ {l : List Stx} {n : Int}, Sep (n - 1) l → Asc n l
  | [], _, _ => trivial
  | a :: l, n, h => ⟨by have := h.1; omega, sep_asc (Sep.lo (by omega) h.2.2)⟩
/-! ### What is reserved -/
/-- Out, left, what lacks. -/
def tk : Int → List Stx → List Stx × List Stx × Int
  | m, [] => ([], [], m)
  | m, s :: l => if m ≤ 0 then ([], s :: l, m) else if m < s.Many then ([⟨s.From, m⟩], ⟨s.From + m, s.Many - m⟩ :: l, 0) else (⟨s.From, s.Many⟩ :: (tk (m - s.Many) l).1, (tk (m - s.Many) l).2)
theorem tk_many : ∀ {l : List Stx} {m : Int}, 0 ≤ m → (∀ s ∈ l, 1 ≤ s.Many) → 0 ≤ (tk m l).2.2 ∧ tot (tk m l).1 + (tk m l).2.2 = m ∧ tot (tk m l).1 + tot (tk m l).2.1 = tot l
  | [], m, h, _ => by simp [tk, tot, h]
  | s :: l, m, h, hm => by
    have h1 := hm s (by simp)
    rw [tk]
    split
    · have : m = 0 := by omega
      subst this; simp [tot]
    · split
      · simp only [tot]; omega
      · have ih := tk_many (l := l) (m := m - s.Many) (by omega) fun s h => hm s (by simp [h])
        simp only [tot]; omega
theorem tk_ok {pg : Int} : ∀ {l : List Stx} {m n : Int}, 0 ≤ m → (∀ s ∈ l, Ok pg s) → Asc n l → (∀ s ∈ (tk m l).1 ++ (tk m l).2.1, Ok pg s) ∧ Asc n ((tk m l).1 ++ (tk m l).2.1)
  | [], m, n, h, _, _ => by simp [tk, Asc]
  | s :: l, m, n, h, ho, ha => by
    have h0 := ho s (by simp)
    have h1 := h0.one
    have h2 := h0.fit
    have h3 := h0.hi
    have h4 := h0.lo
    have ho' : ∀ s ∈ l, Ok pg s := fun s h => ho s (by simp [h])
    rw [tk]
    split
    · exact ⟨by simpa using ho, by simpa using ha⟩
    · split
      · rename_i hm hs
        refine ⟨fun t ht => ?_, ?_⟩
        · simp only [List.cons_append, List.nil_append, List.mem_cons] at ht
          rcases ht with rfl | rfl | ht
          · exact ⟨h4, h3, by show 1 ≤ m; omega, by show m ≤ pg - s.From; omega⟩
          · exact ⟨by show 0 ≤ s.From + m; omega, by show s.From + m < pg; omega, by show 1 ≤ s.Many - m; omega, by show s.Many - m ≤ pg - (s.From + m); omega⟩
          · exact ho' t ht
        · show n ≤ s.From ∧ s.From + m ≤ s.From + m ∧ Asc (s.From + m + (s.Many - m)) l
          refine ⟨ha.1, Int.le_refl _, ?_⟩
          rw [show s.From + m + (s.Many - m) = s.From + s.Many by omega]
          exact ha.2
      · obtain ⟨k1, k2⟩ := tk_ok (l := l) (m := m - s.Many) (n := s.From + s.Many) (by omega) ho' ha.2
        refine ⟨fun t ht => ?_, ha.1, k2⟩
        rw [List.cons_append, List.mem_cons] at ht
        rcases ht with rfl | ht
        · exact h0
        · exact k1 t ht
theorem dis_of_pages {a b : Stx} (ha : 1 ≤ a.Many) (hb : 1 ≤ b.Many) (h : ∀ p, cov a p → cov b p → False) : Dis a b := by
  unfold Dis
  by_cases h1 : a.From + a.Many ≤ b.From
  · exact .inl h1
  · by_cases h2 : b.From + b.Many ≤ a.From
    · exact .inr h2
    · exfalso
      by_cases h3 : a.From ≤ b.From
      · exact h b.From ⟨h3, by omega⟩ ⟨by omega, by omega⟩
      · exact h a.From ⟨by omega, by omega⟩ ⟨by omega, by omega⟩
theorem gaps_ok {pg : Int} {l : List Stx} (ho : ∀ s ∈ l, Ok pg s) : ∀ n, 0 ≤ n → n ≤ pg → Asc n l → (∀ s ∈ gaps n (l ++ [⟨pg, 0⟩]), Ok pg s) ∧ tot (gaps n (l ++ [⟨pg, 0⟩])) + tot l = pg - n := by
  induction l with
  | nil =>
    intro n h0 hn _
    simp only [List.nil_append, gaps]
    by_cases h : n < pg
    · rw [if_pos h]
      refine ⟨fun s hs => ?_, by simp [tot]⟩
      rw [List.mem_singleton] at hs
      subst hs
      exact ⟨h0, h, by show 1 ≤ pg - n; omega, Int.le_refl _⟩
    · rw [if_neg h]; refine ⟨by simp, ?_⟩; simp [tot]; omega
  | cons s l ih =>
    intro n h0 hn ha
    have k0 := ho s (by simp)
    have k1 := k0.one
    have k2 := k0.fit
    have k3 := k0.lo
    have k4 := ha.1
    obtain ⟨i1, i2⟩ := ih (fun s h => ho s (by simp [h])) (s.From + s.Many) (by omega) (by omega) ha.2
    rw [List.cons_append, gaps, tot]
    by_cases h : n < s.From
    · rw [if_pos h, tot]
      refine ⟨fun t ht => ?_, by show s.From - n + _ + _ = _; omega⟩
      rcases List.mem_cons.1 ht with rfl | ht
      · exact ⟨h0, by show n < pg; omega, by show 1 ≤ s.From - n; omega, by show s.From - n ≤ pg - n; omega⟩
      · exact i1 t ht
    · rw [if_neg h]; exact ⟨i1, by omega⟩
/-- What is free: it may be, it lies in order, and with what is taken it is all. -/
theorem gaps_fine {pg : Int} {l m : List Stx} (h : Fine pg l) (hp : m.Perm l) (hs : m.Pairwise sfr) :
    Fine pg (gaps 0 (m ++ [⟨pg, 0⟩])) ∧ Asc 0 (gaps 0 (m ++ [⟨pg, 0⟩])) ∧ Fine pg (gaps 0 (m ++ [⟨pg, 0⟩]) ++ l) ∧ tot (gaps 0 (m ++ [⟨pg, 0⟩])) + tot l = pg := by
  have hF := h.perm hp
  have ha := (dis_iff hp hs (fun s k => (h.ok s k).one) (fun s k => (h.ok s k).lo)).2 h.dis
  have h1 := h.p1
  have e := gaps_pgs hF.ok 0 (by omega) ha
  obtain ⟨g1, g2⟩ := gaps_ok hF.ok 0 (by omega) (by omega) ha
  have hsep := sep_asc (gaps_sep (fun s k => (hF.ok s k).one) ⟨pg, 0⟩ 0 ha)
  have hd := asc_dis (fun s k => by have := (g1 s k).one; omega) 0 hsep
  rw [tot_perm hp, Int.sub_zero] at g2
  refine ⟨⟨h.p1, h.p2, g1, hd⟩, hsep, ⟨h.p1, h.p2, fun s hs => (List.mem_append.1 hs).elim (g1 s) (h.ok s), List.pairwise_append.2 ⟨hd, h.dis, fun a hA b hb => dis_of_pages (g1 a hA).one (h.ok b hb).one fun p c1 c2 => ?_⟩⟩, g2⟩
  have : p ∈ pgs (gaps 0 (m ++ [⟨pg, 0⟩])) := (mem_pgs fun s k => by have := (g1 s k).one; omega).2 ⟨a, hA, c1⟩
  rw [e, List.mem_filter] at this
  have h2 := List.all_eq_true.1 this.2 b (hp.mem_iff.2 hb)
  rw [decide_eq_true c2] at h2
  cases h2

/-! ### Numbers of pages -/
end Go.Proofs.YtokcgacehdgkcaaDoor.Eng.A

/- Stretches: what the program's functions answer. -/
namespace Go.Proofs.YtokcgacehdgkcaaDoor.Eng.A
set_option linter.unusedVariables false
set_option linter.unusedSimpArgs false
open Go.RowKit Go.Proofs.YtokcgacehdgkcaaDoor.Plain Go.Proofs.YtokcgacehdgkcaaDoor.Eng
open Classical in
noncomputable instance decFine (pg : Int) (l : List Stx) : Decidable (Fine pg l) := Classical.propDecidable _

theorem equalX_eq {a b : List Stx} {fl : Nat} (ha : a.length ≤ 5000) (hb : b.length ≤ 5000) (hf : 5000 < fl) : F_equalX fl a b = some (decide (a = b)) := by
  unfold F_equalX
  rw [ifb_dec]
  by_cases h : a.length = b.length
  · rw [if_neg (by omega)]
    have := lp_cmp (l := a) (m := b) (body := F_equalX_b0 a b) (fun x y => (decide (x.From = y.From) && (decide (x.Many = y.Many) && true))) (fun x y => by cases x; cases y; simp) h (fl := fl) (fun t => rfl) (by omega) (by omega)
    rw [this, bnd_s]
    by_cases he : a = b
    · rw [if_pos he, decide_eq_true he]; rfl
    · rw [if_neg he, decide_eq_false he]; rfl
  · rw [if_pos (by omega), decide_eq_false (fun e => h (by rw [e]))]
theorem srt_sfr (l : List Stx) : (srt l).Pairwise sfr := srt_asc l
theorem sorted_eq {l : List Stx} (hl : l.length ≤ 5000) : F_sorted l = some (srt l) := by
  unfold F_sorted
  rw [grd_t ⟨by omega, by omega⟩]

/-! ### Check -/
def okb (pg : Int) (x : Stx) : Bool := (((decide (x.From < 0)) || (decide (x.Many < 1))) || (decide (pg ≤ x.From))) || (decide ((IntKind.i64.wrap (pg - x.From)) < x.Many))
theorem okb_iff {pg : Int} {x : Stx} (h1 : 1 ≤ pg) (h2 : pg ≤ 1024) : okb pg x = false ↔ Ok pg x := by
  unfold okb
  by_cases c1 : x.From < 0
  · simp [c1]; exact fun h => by have := h.lo; omega
  by_cases c2 : x.Many < 1
  · simp [c2]; exact fun h => by have := h.one; omega
  by_cases c3 : pg ≤ x.From
  · simp [c3]; exact fun h => by have := h.hi; omega
  rw [decide_eq_false c1, decide_eq_false c2, decide_eq_false c3, wrapi (by omega) (by omega)]
  simp only [Bool.or_self, Bool.false_or, decide_eq_false_iff_not]
  exact ⟨fun h => ⟨by omega, by omega, by omega, by omega⟩, fun h => by have := h.fit; omega⟩
theorem asc_fo : ∀ (m : List Stx) (n : Int), (fo (fun n (x : Stx) => if x.From < n then .inr (.inl (some 1)) else .inl (x.From + x.Many)) (fun _ => (.inr () : Option Int ⊕ Unit)) n m = .inr () ∧ Asc n m) ∨ (fo (fun n (x : Stx) => if x.From < n then .inr (.inl (some 1)) else .inl (x.From + x.Many)) (fun _ => (.inr () : Option Int ⊕ Unit)) n m = .inl (some 1) ∧ ¬ Asc n m)
  | [], n => .inl ⟨rfl, trivial⟩
  | x :: m, n => by
    by_cases h : x.From < n
    · refine .inr ⟨fo_r (by rw [if_pos h]), fun ha => by have := ha.1; omega⟩
    · rw [fo_l (by rw [if_neg h])]
      rcases asc_fo m (x.From + x.Many) with ⟨h1, h2⟩ | ⟨h1, h2⟩
      · exact .inl ⟨h1, by omega, h2⟩
      · exact .inr ⟨h1, fun ha => h2 ha.2⟩
theorem xcheck_eq {l : List Stx} {pg : Int} {fl : Nat} (hl : l.length ≤ 5000) (hf : 5000 < fl) : F_xcheck fl l pg = some (if Fine pg l then none else some 1) := by
  unfold F_xcheck
  by_cases h0 : pg < 1 ∨ 1024 < pg ∨ pg < (l.length : Int)
  · rw [if_neg (fun h => by have := h.p1; have := h.p2; have := fine_tot h; omega)]
    rw [show ((decide (pg < 1) || decide (1024 < pg)) || decide (pg < (l.length : Int))) = true by simp; omega, ifb_1]
  · rw [show ((decide (pg < 1) || decide (1024 < pg)) || decide (pg < (l.length : Int))) = false by simp; omega, ifb_0]
    rw [lp_any (l := l) (body := F_xcheck_b0 l pg) (okb pg) (some 1) (fun i x hx => by
      have hi := (List.getElem?_eq_some_iff.1 hx).1
      unfold F_xcheck_b0
      rw [dec_lt hi, ifb_1, ixb_n hx, nat_wrap (by omega)]
      show ifb (okb pg x) _ _ = _
      cases okb pg x <;> rfl) (by unfold F_xcheck_b0; rw [dec_ge, ifb_0]) (by omega), bnd_s]
    by_cases ha : l.any (okb pg) = true
    · rw [if_pos ha, ocs_1, if_neg]
      intro h
      obtain ⟨x, hx, hb⟩ := List.any_eq_true.1 ha
      have := (okb_iff (by omega) (by omega)).2 (h.ok x hx)
      rw [this] at hb; cases hb
    · have hok : ∀ s ∈ l, Ok pg s := fun s hs => (okb_iff (by omega) (by omega)).1 (by
        cases h : okb pg s with
        | false => rfl
        | true => exact absurd (List.any_eq_true.2 ⟨s, hs, h⟩) ha)
      rw [if_neg ha, ocs_2, sorted_eq hl, bnd_s]
      have hp := srt_perm l
      have hokm : ∀ s ∈ srt l, Ok pg s := fun s hs => hok s (hp.mem_iff.1 hs)
      have hd := dis_iff hp (srt_sfr l) (fun s k => (hok s k).one) (fun s k => (hok s k).lo)
      have hln := hp.length_eq
      generalize srt l = m at *
      have hloop := lp_fo (l := m) (body := F_xcheck_b1 m) (fun i s => (s, (i : Int))) (fun n (x : Stx) => if x.From < n then .inr (.inl (some 1)) else .inl (x.From + x.Many)) (fun _ => (.inr () : Option Int ⊕ Unit)) (fun _ _ => True) (fl := fl) (s0 := 0) trivial
        (fun i x s hx _ => by
          have hi := (List.getElem?_eq_some_iff.1 hx).1
          have hx1 := hokm x (List.mem_of_getElem? hx)
          have a1 := hx1.fit; have a2 := hx1.lo; have a3 := hx1.hi; have a4 := hx1.one
          unfold F_xcheck_b1
          dsimp only
          rw [dec_lt hi, ifb_1, grd_t (belo hi), Int.toNat_natCast, ixb_n hx, ifb_dec]
          by_cases h : x.From < s
          · exact .inr ⟨_, by rw [if_pos h], by rw [if_pos h]⟩
          · refine .inl ⟨_, by rw [if_neg h], ?_, trivial⟩
            rw [if_neg h]
            unfold F_xend
            rw [bnd_s, nat_wrap (by omega), wrapi (by omega) (by omega)])
        (fun s _ => by unfold F_xcheck_b1; dsimp only; rw [dec_ge, ifb_0]) (by omega)
      rw [show ((0 : Int), (0 : Int)) = ((0 : Int), ((0 : Nat) : Int)) from rfl, hloop, bnd_s]
      rcases asc_fo m 0 with ⟨h1, h2⟩ | ⟨h1, h2⟩
      · rw [h1, ocs_2, if_pos ⟨by omega, by omega, hok, hd.1 h2⟩]
      · rw [h1, ocs_1, if_neg fun h => h2 (hd.2 h.dis)]

/-! ### Many, Page, Number -/
theorem fine_mem {pg : Int} {l : List Stx} (h : Fine pg l) {s : Stx} (hs : s ∈ l) : 0 ≤ s.From ∧ s.From < 1024 ∧ 1 ≤ s.Many ∧ s.Many ≤ 1024 ∧ s.From + s.Many ≤ 1024 ∧ s.From + s.Many ≤ pg := by
  have h1 := h.ok s hs
  have := h1.lo; have := h1.hi; have := h1.one; have := h1.fit; have := h.p2; have := h.p1
  omega
theorem tot_take {l : List Stx} {i : Nat} {x : Stx} (hx : l[i]? = some x) : tot (l.take (i + 1)) = tot (l.take i) + x.Many := by
  rw [List.take_add_one, hx, tot_append]; simp [tot]
theorem tot_nn {l : List Stx} (h : ∀ s ∈ l, 0 ≤ s.Many) : 0 ≤ tot l := by
  induction l with
  | nil => simp [tot]
  | cons s l ih =>
    have := ih fun s hs => h s (by simp [hs])
    have := h s (by simp)
    rw [tot]; omega
theorem tot_part {l : List Stx} {pg : Int} (h : Fine pg l) (i : Nat) : 0 ≤ tot (l.take i) ∧ tot (l.take i) ≤ 1024 := by
  have h1 := tot_append (l.take i) (l.drop i)
  rw [List.take_append_drop] at h1
  have h2 := (fine_tot h).1
  have hm : ∀ s ∈ l, 0 ≤ s.Many := fun s hs => by have := fine_mem h hs; omega
  have h3 := tot_nn (l := l.take i) fun s hs => hm s (List.mem_of_mem_take hs)
  have h4 := tot_nn (l := l.drop i) fun s hs => hm s (List.mem_of_mem_drop hs)
  have := h.p2
  omega
theorem foldl_tot : ∀ (l : List Stx) (n : Int), l.foldl (fun n s => n + s.Many) n = n + tot l
  | [], n => by simp [tot]
  | s :: l, n => by rw [List.foldl_cons, foldl_tot l, tot]; omega
theorem xMany_eq {l : List Stx} {fl : Nat} (hl : l.length ≤ 5000) (hf : 5000 < fl) : F_xMany fl l = some (if Fine 1024 l then tot l else 0) := by
  unfold F_xMany
  rw [xcheck_eq hl hf, bnd_s]
  by_cases h : Fine 1024 l
  · rw [if_pos h, if_pos h]
    have hloop := lp_fo (l := l) (body := F_xMany_b0 l) (fun i (s : Int) => (s, (i : Int))) (fun (s : Int) (x : Stx) => .inl (s + x.Many)) (fun s => s) (fun i s => s = tot (l.take i)) (fl := fl) (s0 := 0) rfl
      (fun i x s hx hI => by
        have hi := (List.getElem?_eq_some_iff.1 hx).1
        have hm := fine_mem h (List.mem_of_getElem? hx)
        have ht := tot_part h i
        refine .inl ⟨_, rfl, ?_, by rw [tot_take hx, hI]⟩
        unfold F_xMany_b0
        dsimp only
        rw [dec_lt hi, ifb_1, ixb_n hx, nat_wrap (by omega), wrapi (by omega) (by omega)])
      (fun s _ => by unfold F_xMany_b0; dsimp only; rw [dec_ge, ifb_0]) (by omega)
    rw [show ((0 : Int), (0 : Int)) = ((0 : Int), ((0 : Nat) : Int)) from rfl]
    show ifb false _ _ = _
    rw [ifb_0, hloop, bnd_s, fo_all, foldl_tot]; simp
  · rw [if_neg h, if_neg h]; rfl
end Go.Proofs.YtokcgacehdgkcaaDoor.Eng.A

/- Stretches: what is left, and what is reserved. -/
namespace Go.Proofs.YtokcgacehdgkcaaDoor.Eng.A
set_option linter.unusedVariables false
set_option linter.unusedSimpArgs false
open Go.RowKit Go.Proofs.YtokcgacehdgkcaaDoor.Plain Go.Proofs.YtokcgacehdgkcaaDoor.Eng Go.Proofs.YtokcgacehdgkcaaDoor.Eng.Ha

/-! ### Free -/
theorem gaps_fo : ∀ (m : List Stx) (n : Int) (a : List Stx), fo (fun (s : List Stx × Int) (x : Stx) => (.inl (if s.2 < x.From then s.1 ++ [⟨s.2, x.From - s.2⟩] else s.1, x.From + x.Many) : (List Stx × Int) ⊕ List Stx)) (fun s => s.1) (a, n) m = a ++ gaps n m
  | [], n, a => by simp [fo, gaps]
  | x :: m, n, a => by
    rw [fo_l rfl, gaps_fo m, gaps]
    by_cases h : n < x.From
    · rw [if_pos h, if_pos h, List.append_assoc]; rfl
    · rw [if_neg h, if_neg h]
theorem gaps_len : ∀ (m : List Stx) (n : Int), (gaps n m).length ≤ m.length
  | [], n => by simp [gaps]
  | x :: m, n => by
    have := gaps_len m (x.From + x.Many)
    rw [gaps]; split <;> simp <;> omega
noncomputable def freeR (l : List Stx) (pg : Int) : List Stx × Option Int :=
  if Fine pg l then (gaps 0 (srt l ++ [⟨pg, 0⟩]), none) else ([], some 1)
theorem xFree_eq {l : List Stx} {pg : Int} {fl : Nat} (hl : l.length ≤ 4000) (hf : 5000 < fl) : F_xFree fl l pg = some (freeR l pg) := by
  unfold F_xFree freeR
  rw [xcheck_eq (by omega) hf, bnd_s]
  by_cases h : Fine pg l
  · rw [if_pos h, if_pos h]
    show ifb false _ _ = _
    rw [ifb_0, sorted_eq (by omega), bnd_s]
    have hln := srt_len l
    have hF := h.perm (srt_perm l)
    have h2 := h.p2; have h1 := h.p1
    generalize srt l = m at *
    rw [grd_t ⟨by simp; omega, by simp; omega⟩]
    have hmm : ∀ x ∈ m ++ [(⟨pg, 0⟩ : Stx)], 0 ≤ x.From ∧ x.From ≤ 1024 ∧ 0 ≤ x.Many ∧ x.From + x.Many ≤ 1024 := fun x hx => by
      rcases List.mem_append.1 hx with hx | hx
      · have := fine_mem hF hx; omega
      · simp at hx; subst hx; exact ⟨by show 0 ≤ pg; omega, h2, Int.le_refl _, by show pg + 0 ≤ 1024; omega⟩
    have hml : (m ++ [(⟨pg, 0⟩ : Stx)]).length ≤ 4001 := by simp; omega
    have hgl : ∀ a b : List Stx, a.length ≤ 4001 → a.length + 1 ≤ 5000 := fun a _ h => by omega
    have hfb : ∀ (x2 : List Stx) (t : List Stx × Int × Int), F_xFree_b0 pg x2 t = F_xFree_b0 pg x2 t := fun _ _ => rfl
    have hloop := lp_fo (l := m ++ [(⟨pg, 0⟩ : Stx)]) (body := F_xFree_b0 pg m) (fun i (s : List Stx × Int) => (s.1, s.2, (i : Int))) (fun (s : List Stx × Int) (x : Stx) => (.inl (if s.2 < x.From then s.1 ++ [⟨s.2, x.From - s.2⟩] else s.1, x.From + x.Many) : (List Stx × Int) ⊕ List Stx)) (fun s => s.1) (fun i s => s.1.length ≤ i ∧ 0 ≤ s.2 ∧ s.2 ≤ 1024) (fl := fl) (s0 := ([], 0)) ⟨by simp, by show (0 : Int) ≤ 0; omega, by show (0 : Int) ≤ 1024; omega⟩
      (fun i x s hx hI => by
        have hi := (List.getElem?_eq_some_iff.1 hx).1
        have hm := hmm x (List.mem_of_getElem? hx)
        obtain ⟨q1, q2, q3⟩ := hI
        refine .inl ⟨_, rfl, ?_, ?_, by show 0 ≤ x.From + x.Many; omega, by show x.From + x.Many ≤ 1024; omega⟩
        · unfold F_xFree_b0
          dsimp only
          rw [dec_lt hi, ifb_1, grd_t (belo hi), Int.toNat_natCast, ixb_n hx, ifb_dec]
          have hxe : F_xend x = some (x.From + x.Many) := by unfold F_xend; rw [wrapi (by omega) (by omega)]
          rw [hxe]
          by_cases h3 : s.2 < x.From
          · rw [if_pos h3, if_pos h3, grd_t ⟨by simp; omega, by simp; omega⟩, bnd_s, bnd_s, nat_wrap (by omega), wrapi (by omega) (by omega)]
          · rw [if_neg h3, if_neg h3, bnd_s, bnd_s, nat_wrap (by omega)]
        · show (if s.2 < x.From then s.1 ++ [⟨s.2, x.From - s.2⟩] else s.1).length ≤ i + 1
          split
          · simpa using q1
          · omega)
      (fun s _ => by unfold F_xFree_b0; dsimp only; rw [dec_ge, ifb_0]) (by omega)
    rw [show (([] : List Stx), (0 : Int), (0 : Int)) = (([] : List Stx), (0 : Int), ((0 : Nat) : Int)) from rfl, hloop, bnd_s, gaps_fo]; rfl
  · rw [if_neg h, if_neg h]; rfl
/-! ### Reserve -/
theorem sfr_unique {l m : List Stx} (hp : m.Perm l) (hd : l.Pairwise Dis) (hm : ∀ s ∈ l, 1 ≤ s.Many) (h1 : l.Pairwise sfr) (h2 : m.Pairwise sfr) : m = l := by
  have hne : ∀ a ∈ l, ∀ b ∈ l, a.From = b.From → a = b := fun a ha b hb he => by
    obtain ⟨i, hi, rfl⟩ := List.mem_iff_getElem.1 ha
    obtain ⟨j, hj, rfl⟩ := List.mem_iff_getElem.1 hb
    rcases Nat.lt_trichotomy i j with h | h | h
    · have := List.pairwise_iff_getElem.1 hd i j hi hj h
      have q1 := hm _ (List.getElem_mem hi); have q2 := hm _ (List.getElem_mem hj)
      unfold Dis at this; omega
    · subst h; rfl
    · have := List.pairwise_iff_getElem.1 hd j i hj hi h
      have q1 := hm _ (List.getElem_mem hi); have q2 := hm _ (List.getElem_mem hj)
      unfold Dis at this; omega
  exact hp.eq_of_pairwise (fun a b ha hb h3 h4 => hne a (hp.mem_iff.1 ha) b hb (by unfold sfr at h3 h4; omega)) h2 h1
/-- What is reserved, what is left then; the error. -/
noncomputable def resR (l : List Stx) (n : Int) : List Stx × List Stx × Option Int :=
  open Classical in
  if Fine 1024 l ∧ l.Pairwise sfr ∧ 1 ≤ n then (if 0 < (tk n l).2.2 ∨ 8 < (tk n l).1.length then ([], [], some 7) else ((tk n l).1, (tk n l).2.1, none)) else ([], [], some 1)
theorem tk_zero (l : List Stx) {m : Int} (h : m ≤ 0) : tk m l = ([], l, m) := by
  cases l with
  | nil => rfl
  | cons s l => rw [tk, if_pos h]
theorem xres_lp {p0 : List Stx} {fl0 : Nat} (hp0 : p0.length ≤ 4000) : ∀ (rest : List Stx) (m : Int) (out A : List Stx) (fl : Nat), A.length + rest.length = p0.length → (∀ s ∈ rest, Ok 1024 s) → 0 ≤ m → m < 9223372036854775808 → out.length ≤ 8 → rest.length + 2 < fl →
    (0 < (tk m rest).2.2 ∨ 8 < out.length + (tk m rest).1.length) ∧ lp (F_xReserve_b0 p0) fl (m, out, A.length, A ++ rest) = some (.inl ([], [], some 7)) ∨
    ¬ (0 < (tk m rest).2.2 ∨ 8 < out.length + (tk m rest).1.length) ∧ ∃ row o, lp (F_xReserve_b0 p0) fl (m, out, A.length, A ++ rest) = some (.inr (out ++ (tk m rest).1, row, o)) ∧ row.length = p0.length ∧ row.drop o = (tk m rest).2.1
  | rest, m, out, A, fl, hlen, hok, hm0, hm1, hout, hfl => by
    obtain ⟨fl, rfl⟩ : ∃ k, fl = k + 1 := ⟨fl - 1, by omega⟩
    by_cases hm : 0 < m
    · cases rest with
      | nil =>
        refine .inl ⟨.inl (by simpa [tk] using hm), lp_end ?_⟩
        unfold F_xReserve_b0
        dsimp only
        rw [decide_eq_true hm, ifb_1, decide_eq_true (by simp at hlen; omega : ((p0.length - A.length : Nat) : Int) = 0), Bool.true_or, ifb_1]
      | cons s tl =>
        have hs := hok s (by simp)
        have a1 := hs.lo; have a2 := hs.hi; have a3 := hs.one; have a4 := hs.fit
        have hln : p0.length - A.length = tl.length + 1 := by simp at hlen; omega
        by_cases h8 : out.length = 8
        · refine .inl ⟨?_, lp_end ?_⟩
          · rw [tk, if_neg (by omega)]
            split
            · right; simp; omega
            · right; simp; omega
          · unfold F_xReserve_b0
            dsimp only
            rw [decide_eq_true hm, ifb_1, decide_eq_true (by omega : (out.length : Int) = 8), Bool.or_true, ifb_1]
        · have hget : (A ++ s :: tl)[A.length]? = some s := by simp
          have hset : ∀ z, (A ++ s :: tl).set A.length z = A ++ z :: tl := fun z => by simp
          have hgz : ∀ z : Stx, (A ++ z :: tl)[A.length]? = some z := fun z => by simp
          have step : F_xReserve_b0 p0 (m, out, A.length, A ++ s :: tl) = some (.inl (m - (if s.Many < m then s.Many else m), out ++ [⟨s.From, (if s.Many < m then s.Many else m)⟩], (if s.Many - (if s.Many < m then s.Many else m) = 0 then A.length + 1 else A.length), A ++ ⟨s.From + (if s.Many < m then s.Many else m), s.Many - (if s.Many < m then s.Many else m)⟩ :: tl)) := by
            unfold F_xReserve_b0
            dsimp only
            rw [decide_eq_true hm, ifb_1, hln, decide_eq_false (by omega : ¬ ((tl.length + 1 : Nat) : Int) = 0), decide_eq_false (by omega : ¬ (out.length : Int) = 8), Bool.or_false, ifb_0]
            simp only [Int.toNat_zero, Nat.add_zero]
            have hb0 : Below (0 : Int) (tl.length + 1) := ⟨Int.le_refl _, by show 0 < _; omega⟩
            rw [grd_t hb0, ixb_n hget]
            have hn : 0 < (if s.Many < m then s.Many else m) ∧ (if s.Many < m then s.Many else m) ≤ s.Many ∧ (if s.Many < m then s.Many else m) ≤ m := by split <;> omega
            generalize (if s.Many < m then s.Many else m) = n at hn ⊢
            rw [grd_t ⟨by simp; omega, by simp; omega⟩, grd_t hb0, grd_t (belo (by simp)), grd_t hb0, hset, ixb_n (hgz _), wrapi (n := s.From + n) (by omega) (by omega), wrapi (n := s.Many - n) (by omega) (by omega), wrapi (n := m - n) (by omega) (by omega), ifb_dec]
            dsimp only
            by_cases hz : s.Many - n = 0
            · rw [if_pos hz, if_pos hz, grd_t ⟨by omega, by show 1 ≤ _; omega⟩, bnd_s]; rfl
            · rw [if_neg hz, if_neg hz, bnd_s]
          rw [lp_go step]
          by_cases hsm : s.Many < m
          · rw [if_pos hsm, if_pos (by omega : s.Many - s.Many = 0)]
            have ih := xres_lp (p0 := p0) (fl0 := fl0) hp0 tl (m - s.Many) (out ++ [⟨s.From, s.Many⟩]) (A ++ [⟨s.From + s.Many, s.Many - s.Many⟩]) fl (by simp; omega) (fun t ht => hok t (by simp [ht])) (by omega) (by omega) (by simp; omega) (by simp at hfl; omega)
            have eA : (A ++ [(⟨s.From + s.Many, s.Many - s.Many⟩ : Stx)]).length = A.length + 1 := by simp
            have eB : (A ++ [(⟨s.From + s.Many, s.Many - s.Many⟩ : Stx)]) ++ tl = A ++ ⟨s.From + s.Many, s.Many - s.Many⟩ :: tl := by simp
            have eO : (out ++ [(⟨s.From, s.Many⟩ : Stx)]).length = out.length + 1 := by simp
            rw [eA, eB, eO] at ih
            have et : tk m (s :: tl) = (⟨s.From, s.Many⟩ :: (tk (m - s.Many) tl).1, (tk (m - s.Many) tl).2) := by rw [tk, if_neg (by omega), if_neg (by omega)]
            rw [et]
            dsimp only
            rw [show out.length + (⟨s.From, s.Many⟩ :: (tk (m - s.Many) tl).1).length = out.length + 1 + (tk (m - s.Many) tl).1.length by simp; omega]
            rcases ih with ⟨h1, h2⟩ | ⟨h1, row, o, h2, h3, h4⟩
            · exact .inl ⟨h1, h2⟩
            · exact .inr ⟨h1, row, o, by rw [h2, List.append_assoc]; rfl, h3, h4⟩
          · rw [if_neg hsm]
            obtain ⟨fl, rfl⟩ : ∃ k, fl = k + 1 := ⟨fl - 1, by simp at hfl; omega⟩
            have hend : ∀ row o, F_xReserve_b0 p0 (m - m, out ++ [⟨s.From, m⟩], o, row) = some (.inr (.inr (out ++ [⟨s.From, m⟩], row, o))) := fun row o => by
              unfold F_xReserve_b0
              dsimp only
              rw [decide_eq_false (by omega), ifb_0]
            rw [lp_end (hend _ _)]
            by_cases he : m = s.Many
            · have et : tk m (s :: tl) = (⟨s.From, s.Many⟩ :: (tk 0 tl).1, (tk 0 tl).2) := by rw [tk, if_neg (by omega), if_neg (by omega), show m - s.Many = 0 by omega]
              rw [et, tk_zero tl (by omega)]
              refine .inr ⟨by simp; omega, _, _, by rw [he], by simp; omega, ?_⟩
              rw [if_pos (by omega)]
              simp
            · have et : tk m (s :: tl) = ([⟨s.From, m⟩], ⟨s.From + m, s.Many - m⟩ :: tl, 0) := by rw [tk, if_neg (by omega), if_pos (by omega)]
              rw [et]
              refine .inr ⟨by simp; omega, _, _, rfl, by simp; omega, ?_⟩
              rw [if_neg (by omega)]
              simp
    · have h0 : m = 0 := by omega
      subst h0
      rw [tk_zero rest (by omega)]
      refine .inr ⟨by simp; omega, A ++ rest, A.length, ?_, by simp; omega, by simp⟩
      rw [List.append_nil]
      refine lp_end ?_
      unfold F_xReserve_b0
      dsimp only
      rw [decide_eq_false (by omega), ifb_0]
termination_by rest => rest.length
theorem xReserve_eq {l : List Stx} {n : Int} {fl : Nat} (hl : l.length ≤ 4000) (hn : n < 9223372036854775808) (hf : 5000 < fl) : F_xReserve fl l n = some (resR l n) := by
  unfold F_xReserve resR
  rw [xcheck_eq (by omega) hf, bnd_s]
  by_cases h : Fine 1024 l
  · rw [if_pos h]
    show ifb false _ _ = _
    rw [ifb_0, sorted_eq (by omega), bnd_s, equalX_eq (by omega) (by rw [srt_len]; omega) hf, bnd_s]
    by_cases hs : l.Pairwise sfr
    · rw [decide_eq_true (sfr_unique (srt_perm l) h.dis (fun s k => (h.ok s k).one) hs (srt_sfr l)).symm, Bool.not_true, Bool.false_or, ifb_dec]
      by_cases h1 : n < 1
      · rw [if_pos h1, if_neg (by omega)]
      · rw [if_neg h1, if_pos ⟨h, hs, by omega⟩, grd_t ⟨by omega, by omega⟩]
        have := xres_lp (p0 := l) (fl0 := fl) hl l n [] [] fl (by simp) h.ok (by omega) hn (by simp) (by omega)
        simp only [List.length_nil, List.nil_append, Nat.zero_add] at this
        rcases this with ⟨h2, h3⟩ | ⟨h2, row, o, h3, h4, h5⟩
        · rw [h3, bnd_s, ocs_1, if_pos h2]
        · rw [h3, bnd_s, ocs_2, if_neg h2]
          dsimp only
          rw [grd_t h4.symm, h5]
          have hd : (tk n l).2.1.length ≤ 4000 := by rw [← h5, List.length_drop]; omega
          unfold oCloneX
          rw [grd_t ⟨⟨by omega, by omega⟩, by omega⟩, bnd_s]
    · rw [decide_eq_false (fun e => hs (by rw [e]; exact srt_sfr l)), Bool.not_false, Bool.true_or, ifb_1, if_neg (fun q => hs q.2.1)]
  · rw [if_neg h, if_neg (fun q => h q.1)]; rfl
end Go.Proofs.YtokcgacehdgkcaaDoor.Eng.A

/- Stretches: the laws. -/
namespace Go.Proofs.YtokcgacehdgkcaaDoor.Eng.A
set_option linter.unusedVariables false
set_option linter.unusedSimpArgs false
open Go.RowKit Go.Proofs.YtokcgacehdgkcaaDoor.Plain Go.Proofs.YtokcgacehdgkcaaDoor.Eng Go.Proofs.YtokcgacehdgkcaaDoor.Eng.Ha

theorem xcheck_all {l : List Stx} {pg : Int} {fl : Nat} (hf : 5000 < fl) : F_xcheck fl l pg = some (if Fine pg l then none else some 1) := by
  by_cases hl : l.length ≤ 5000
  · exact xcheck_eq hl hf
  · rw [if_neg (fun h => by have := fine_tot h; have := h.p2; omega)]
    unfold F_xcheck
    rw [show ((decide (pg < 1) || decide (1024 < pg)) || decide (pg < (l.length : Int))) = true by simp; omega, ifb_1]
theorem xMany_all {l : List Stx} {fl : Nat} (hf : 5000 < fl) : F_xMany fl l = some (if Fine 1024 l then tot l else 0) := by
  by_cases hl : l.length ≤ 5000
  · exact xMany_eq hl hf
  · have hn : ¬ Fine 1024 l := fun h => by have := fine_tot h; omega
    unfold F_xMany
    rw [xcheck_all hf, if_neg hn, if_neg hn, bnd_s]; rfl

/-! ### What must come -/
/-! ### ExtentTells -/
end Go.Proofs.YtokcgacehdgkcaaDoor.Eng.A

/- Stretches: numbers and pages come back; what is free, and what is reserved. -/
namespace Go.Proofs.YtokcgacehdgkcaaDoor.Eng.A
set_option linter.unusedVariables false
set_option linter.unusedSimpArgs false
open Go.RowKit Go.Proofs.YtokcgacehdgkcaaDoor.Plain Go.Proofs.YtokcgacehdgkcaaDoor.Eng Go.Proofs.YtokcgacehdgkcaaDoor.Eng.Ha

theorem Fine.up {pg pg' : Int} {l : List Stx} (h : Fine pg l) (h1 : pg ≤ pg') (h2 : pg' ≤ 1024) : Fine pg' l :=
  ⟨by have := h.p1; omega, h2, fun s hs => by
    have k := h.ok s hs
    exact ⟨k.lo, by have := k.hi; omega, k.one, by have := k.fit; omega⟩, h.dis⟩
theorem tmod_lt {a n : Int} (ha : 0 ≤ a) (hn : 0 < n) : 0 ≤ a.tmod n ∧ a.tmod n < n := ⟨Int.tmod_nonneg _ ha, Int.tmod_lt_of_pos _ hn⟩
end Go.Proofs.YtokcgacehdgkcaaDoor.Eng.A
