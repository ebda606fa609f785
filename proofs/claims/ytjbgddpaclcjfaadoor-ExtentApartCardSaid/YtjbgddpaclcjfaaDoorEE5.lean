/- Loops in plain Lean: what the laws share. -/
import Derived.Test.YtjbgddpaclcjfaaDoorEngX4
import Derived.Test.YtjbgddpaclcjfaaDoorEE1
import Derived.Test.YtjbgddpaclcjfaaDoorEE4
namespace Go.Proofs.YtjbgddpaclcjfaaDoor.Eng.A
set_option linter.unusedVariables false
set_option linter.unusedSimpArgs false
open Go.RowKit Go.Proofs.YtjbgddpaclcjfaaDoor.Eng

theorem lp_find {A : Type} {V : Type} {l : List A} {body : Int → Option (Int ⊕ (V ⊕ Unit))} (p : A → Bool) (v : Nat → V) {fl : Nat}
    (hb : ∀ (i : Nat) (x : A), l[i]? = some x → body (i : Int) = ifb (p x) (some (.inr (.inl (v i)))) (some (.inl ((i + 1 : Nat) : Int)))) (he : body (l.length : Int) = some (.inr (.inr ()))) (hf : l.length < fl) :
    (l.any p = false ∧ lp body fl 0 = some (.inr ())) ∨ (l.any p = true ∧ ∃ i, lp body fl 0 = some (.inl (v i))) := by
  have hn : ∀ (i : Nat) (x : A), l[i]? = some x → p x = false → body (i : Int) = some (.inl ((i + 1 : Nat) : Int)) := fun i x hx hp => by rw [hb i x hx, hp, ifb_0]
  cases ha : l.any p with
  | false => exact .inl ⟨rfl, lp_none (body := body) (fun i => ((i : Nat) : Int)) p ha hn he hf⟩
  | true =>
    obtain ⟨i, x, _, _, h3⟩ := lp_hit (body := body) (fun i => ((i : Nat) : Int)) p (fun i _ => Sum.inl (v i)) ha hn (fun i x hx hp => by rw [hb i x hx, hp, ifb_1]) hf
    exact .inr ⟨rfl, i, h3⟩
theorem lp_cmp {A : Type} [DecidableEq A] {l m : List A} {body : Int → Option (Int ⊕ (Bool ⊕ Unit))} (q : A → A → Bool) (hq : ∀ a b, q a b = true ↔ a = b) (hlm : l.length = m.length) {fl : Nat}
    (hb : ∀ t, body t = ifb (decide (t < (l.length : Int))) (ixb l t fun x => ixb m t fun y => ifb (!q x y) (some (.inr (.inl false))) (some (.inl (IntKind.i64.wrap (t + 1))))) (some (.inr (.inr ())))) (hl : l.length < 1000000000000000000) (hf : l.length < fl) :
    lp body fl 0 = some (if l = m then .inr () else .inl false) := by
  have hz : (l.zip m).length = l.length := by rw [List.length_zip]; omega
  have hany : (l.zip m).any (fun x => !q x.1 x.2) = false ↔ l = m := by
    clear hb hf hl hz
    induction l generalizing m with
    | nil => cases m <;> simp_all
    | cons a l ih =>
      cases m with
      | nil => simp at hlm
      | cons b m =>
        rw [List.zip_cons_cons, List.any_cons, Bool.or_eq_false_iff, ih (by simpa using hlm)]
        have := hq a b
        cases hc : q a b <;> simp_all
  rcases lp_find (l := l.zip m) (body := body) (fun x => !q x.1 x.2) (fun _ => false) (fl := fl) (fun i x hx => by
    have hi := (List.getElem?_eq_some_iff.1 hx).1
    rw [List.getElem?_zip_eq_some] at hx
    rw [hb, ifb_dec, if_pos (by omega), ixb_n hx.1, ixb_n hx.2, wrap_i64 (by omega)]; rfl) (by rw [hb, hz, ifb_dec, if_neg (by omega)]) (by omega) with ⟨h1, h2⟩ | ⟨h1, i, h2⟩
  · rw [h2, if_pos (hany.1 h1)]
  · rw [h2, if_neg (fun h => by rw [hany.2 h] at h1; cases h1)]
theorem getD_n {A : Type} [Inhabited A] {l : List A} {i : Nat} {x : A} (h : l[i]? = some x) : l.getD ((i : Int)).toNat default = x := by
  rw [List.getD_eq_getElem?_getD, Int.toNat_natCast, h]; rfl
theorem foldl_snoc {A : Type} : ∀ (l s : List A), l.foldl (fun s x => s ++ [x]) s = s ++ l
  | [], s => by simp
  | a :: l, s => by rw [List.foldl_cons, foldl_snoc l]; simp
theorem lp_inv {T O S : Type} {body : T → Option (T ⊕ O)} (mk : Nat → S → T) (I : Nat → S → Prop) (Q : O → Prop) {n fl : Nat} {s0 : S} (h0 : I 0 s0)
    (hs : ∀ i s, i < n → I i s → (∃ s', body (mk i s) = some (.inl (mk (i + 1) s')) ∧ I (i + 1) s') ∨ (∃ o, body (mk i s) = some (.inr o) ∧ Q o))
    (he : ∀ s, I n s → ∃ o, body (mk n s) = some (.inr o) ∧ Q o) (hf : n < fl) : ∃ o, lp body fl (mk 0 s0) = some o ∧ Q o := by
  have key : ∀ k i s fl, i + k = n → k < fl → I i s → ∃ o, lp body fl (mk i s) = some o ∧ Q o := by
    intro k
    induction k with
    | zero =>
      intro i s fl hi hf hI
      obtain ⟨m, rfl⟩ : ∃ m, fl = m + 1 := ⟨fl - 1, by omega⟩
      obtain rfl : i = n := by omega
      obtain ⟨o, h1, h2⟩ := he s hI
      exact ⟨o, by simp [lp, h1], h2⟩
    | succ k ih =>
      intro i s fl hi hf hI
      obtain ⟨m, rfl⟩ : ∃ m, fl = m + 1 := ⟨fl - 1, by omega⟩
      rcases hs i s (by omega) hI with ⟨s', h1, h2⟩ | ⟨o, h1, h2⟩
      · obtain ⟨o, h3, h4⟩ := ih (i + 1) s' m (by omega) (by omega) h2
        exact ⟨o, by simp only [lp, h1, bnd_s, ocs_1]; exact h3, h4⟩
      · exact ⟨o, by simp [lp, h1], h2⟩
  exact key n 0 s0 fl (by omega) hf h0
theorem belo {i n : Nat} (h : i < n) : Below (i : Int) n := ⟨by omega, by simpa using h⟩

theorem lp_go {T O : Type} {body : T → Option (T ⊕ O)} {m : Nat} {t u : T} (h : body t = some (.inl u)) : lp body (m + 1) t = lp body m u := by rw [lp, h]; rfl
theorem lp_end {T O : Type} {body : T → Option (T ⊕ O)} {m : Nat} {t : T} {o : O} (h : body t = some (.inr o)) : lp body (m + 1) t = some o := by rw [lp, h]; rfl
theorem wrapi {n : Int} (h : -9223372036854775808 ≤ n) (h2 : n < 9223372036854775808) : IntKind.i64.wrap n = n := wrap_i64 ⟨h, h2⟩

end Go.Proofs.YtjbgddpaclcjfaaDoor.Eng.A

/- Loops over a list, in plain Lean: by a step that goes on, or ends. -/
namespace Go.Proofs.YtjbgddpaclcjfaaDoor.Eng.A
set_option linter.unusedVariables false
set_option linter.unusedSimpArgs false
open Go.RowKit Go.Proofs.YtjbgddpaclcjfaaDoor.Eng

def fo {A S O : Type} (f : S → A → S ⊕ O) (e : S → O) : S → List A → O
  | s, [] => e s
  | s, x :: l => match f s x with
    | .inl s' => fo f e s' l
    | .inr o => o
theorem fo_l {A S O : Type} {f : S → A → S ⊕ O} {e : S → O} {s s' : S} {x : A} {l : List A} (h : f s x = .inl s') : fo f e s (x :: l) = fo f e s' l := by rw [fo, h]
theorem fo_r {A S O : Type} {f : S → A → S ⊕ O} {e : S → O} {s : S} {o : O} {x : A} {l : List A} (h : f s x = .inr o) : fo f e s (x :: l) = o := by rw [fo, h]
theorem lp_fo {A S T O : Type} {l : List A} (mk : Nat → S → T) {body : T → Option (T ⊕ O)} (f : S → A → S ⊕ O) (e : S → O) (I : Nat → S → Prop) {fl : Nat} {s0 : S} (h0 : I 0 s0)
    (hs : ∀ i x s, l[i]? = some x → I i s → (∃ s', f s x = .inl s' ∧ body (mk i s) = some (.inl (mk (i + 1) s')) ∧ I (i + 1) s') ∨ (∃ o, f s x = .inr o ∧ body (mk i s) = some (.inr o)))
    (he : ∀ s, I l.length s → body (mk l.length s) = some (.inr (e s))) (hf : l.length < fl) : lp body fl (mk 0 s0) = some (fo f e s0 l) := by
  have key : ∀ (m : List A) i s fl, l.drop i = m → i ≤ l.length → m.length < fl → I i s → lp body fl (mk i s) = some (fo f e s m) := by
    intro m
    induction m with
    | nil =>
      intro i s fl hd hi hf hI
      obtain ⟨k, rfl⟩ : ∃ k, fl = k + 1 := ⟨fl - 1, by simp at hf; omega⟩
      have : i = l.length := by
        have := congrArg List.length hd
        rw [List.length_drop] at this
        simp at this; omega
      subst this
      rw [lp_end (he s hI)]; rfl
    | cons x m ih =>
      intro i s fl hd hi hf hI
      obtain ⟨k, rfl⟩ : ∃ k, fl = k + 1 := ⟨fl - 1, by simp at hf; omega⟩
      have hlt : i < l.length := by
        have := congrArg List.length hd
        rw [List.length_drop] at this
        simp at this; omega
      have hx : l[i]? = some x := by
        have := congrArg (fun m => m[0]?) hd
        simpa using this
      rcases hs i x s hx hI with ⟨s', h1, h2, h3⟩ | ⟨o, h1, h2⟩
      · rw [lp_go h2, fo_l h1]
        exact ih (i + 1) s' k (by rw [← List.drop_drop, hd]; rfl) hlt (by simp at hf; omega) h3
      · rw [lp_end h2, fo_r h1]
  exact key l 0 s0 fl rfl (Nat.zero_le _) hf h0
/-- Steps that only go on. -/
theorem fo_all {A S O : Type} {g : S → A → S} {e : S → O} : ∀ (l : List A) (s : S), fo (fun s x => .inl (g s x)) e s l = e (l.foldl g s)
  | [], s => rfl
  | x :: l, s => by rw [fo_l rfl, fo_all l, List.foldl_cons]
theorem nat_wrap {n : Nat} (h : n < 1000000000000000000) : IntKind.i64.wrap ((n : Int) + 1) = ((n + 1 : Nat) : Int) := by rw [wrapi (by omega) (by omega)]; omega
theorem dec_lt {i n : Nat} (h : i < n) : decide ((i : Int) < (n : Int)) = true := decide_eq_true (by omega)
theorem dec_ge {n : Nat} : decide ((n : Int) < (n : Int)) = false := decide_eq_false (by omega)
/-- A loop that is left by a step at most: any of them, or none. -/
theorem lp_any {A O : Type} {l : List A} {body : Int → Option (Int ⊕ (O ⊕ Unit))} (p : A → Bool) (v : O) {fl : Nat}
    (hb : ∀ (i : Nat) x, l[i]? = some x → body (i : Int) = if p x = true then some (.inr (.inl v)) else some (.inl ((i + 1 : Nat) : Int))) (he : body (l.length : Int) = some (.inr (.inr ()))) (hf : l.length < fl) :
    lp body fl 0 = some (if l.any p = true then .inl v else .inr ()) := by
  have := lp_fo (l := l) (body := body) (fun i (_ : Unit) => (i : Int)) (fun _ x => if p x = true then .inr (.inl v) else .inl ()) (fun _ => .inr ()) (fun _ _ => True) (fl := fl) (s0 := ()) trivial
    (fun i x s hx _ => by
      rw [hb i x hx]
      by_cases h : p x = true
      · exact .inr ⟨.inl v, by rw [if_pos h], by rw [if_pos h]⟩
      · exact .inl ⟨(), by rw [if_neg h], by rw [if_neg h], trivial⟩)
    (fun _ _ => he) hf
  have h0 : lp body fl 0 = _ := this
  rw [h0]
  congr 1
  clear this h0 hb he hf
  induction l with
  | nil => rfl
  | cons x l ih =>
    by_cases h : p x = true
    · rw [fo_r (o := .inl v) (by rw [if_pos h]), List.any_cons, h]; rfl
    · rw [fo_l (s' := ()) (by rw [if_neg h]), ih, List.any_cons, Bool.eq_false_iff.2 h]; rfl
end Go.Proofs.YtjbgddpaclcjfaaDoor.Eng.A

/- Stretches of pages in plain Lean: what lies apart, what is left, what is reserved. -/
namespace Go.Proofs.YtjbgddpaclcjfaaDoor.Eng.A
set_option linter.unusedVariables false
set_option linter.unusedSimpArgs false
open Go.RowKit Go.Proofs.YtjbgddpaclcjfaaDoor.Plain Go.Proofs.YtjbgddpaclcjfaaDoor.Eng

structure Ok (pg : Int) (s : Stx) : Prop where
  lo : 0 ≤ s.From
  hi : s.From < pg
  one : 1 ≤ s.Many
  fit : s.Many ≤ pg - s.From
def Dis (a b : Stx) : Prop := a.From + a.Many ≤ b.From ∨ b.From + b.Many ≤ a.From
theorem Dis.symm {a b : Stx} (h : Dis a b) : Dis b a := Or.symm h
structure Fine (pg : Int) (l : List Stx) : Prop where
  p1 : 1 ≤ pg
  p2 : pg ≤ 1024
  ok : ∀ s ∈ l, Ok pg s
  dis : l.Pairwise Dis
def Asc : Int → List Stx → Prop
  | _, [] => True
  | n, s :: l => n ≤ s.From ∧ Asc (s.From + s.Many) l
def tot : List Stx → Int
  | [] => 0
  | s :: l => s.Many + tot l
def sfr (a b : Stx) : Prop := a.From ≤ b.From
theorem tot_append : ∀ l m : List Stx, tot (l ++ m) = tot l + tot m
  | [], m => by simp [tot]
  | s :: l, m => by rw [List.cons_append, tot, tot, tot_append l m]; omega
theorem tot_perm {l m : List Stx} (h : l.Perm m) : tot l = tot m := by
  induction h with
  | nil => rfl
  | cons x _ ih => rw [tot, tot, ih]
  | swap x y l => simp only [tot]; omega
  | trans _ _ a b => rw [a, b]
theorem asc_of {l : List Stx} (hs : l.Pairwise sfr) (hd : l.Pairwise Dis) (hm : ∀ s ∈ l, 1 ≤ s.Many) : ∀ n, (∀ s ∈ l, n ≤ s.From) → Asc n l := by
  induction l with
  | nil => exact fun _ _ => trivial
  | cons a l ih =>
    intro n hn
    rw [List.pairwise_cons] at hs hd
    refine ⟨hn a (by simp), ih hs.2 hd.2 (fun s h => hm s (by simp [h])) _ fun s h => ?_⟩
    have h1 : a.From ≤ s.From := hs.1 s h
    have h2 := hd.1 s h
    have h3 := hm s (by simp [h])
    unfold Dis at h2
    omega
theorem asc_ge {l : List Stx} (hm : ∀ s ∈ l, 0 ≤ s.Many) : ∀ n, Asc n l → ∀ s ∈ l, n ≤ s.From := by
  induction l with
  | nil => simp
  | cons a l ih =>
    intro n h s hs
    have ha := hm a (by simp)
    rcases List.mem_cons.1 hs with rfl | h2
    · exact h.1
    · have := ih (fun s h => hm s (by simp [h])) _ h.2 s h2
      have := h.1
      omega
theorem asc_dis {l : List Stx} (hm : ∀ s ∈ l, 0 ≤ s.Many) : ∀ n, Asc n l → l.Pairwise Dis := by
  induction l with
  | nil => simp
  | cons a l ih =>
    intro n h
    have hm' : ∀ s ∈ l, 0 ≤ s.Many := fun s h => hm s (by simp [h])
    exact List.pairwise_cons.2 ⟨fun s hs => .inl (asc_ge hm' _ h.2 s hs), ih hm' _ h.2⟩
theorem asc_sorted {l : List Stx} (hm : ∀ s ∈ l, 0 ≤ s.Many) : ∀ n, Asc n l → l.Pairwise sfr := by
  induction l with
  | nil => simp
  | cons a l ih =>
    intro n h
    have hm' : ∀ s ∈ l, 0 ≤ s.Many := fun s h => hm s (by simp [h])
    have ha := hm a (by simp)
    exact List.pairwise_cons.2 ⟨fun s hs => by have := asc_ge hm' _ h.2 s hs; show a.From ≤ s.From; omega, ih hm' _ h.2⟩
/-- A list and its turned one. -/
theorem dis_iff {l m : List Stx} (hp : m.Perm l) (hs : m.Pairwise sfr) (hm : ∀ s ∈ l, 1 ≤ s.Many) (h0 : ∀ s ∈ l, 0 ≤ s.From) : Asc 0 m ↔ l.Pairwise Dis := by
  have hm' : ∀ s ∈ m, 1 ≤ s.Many := fun s h => hm s (hp.mem_iff.1 h)
  rw [← hp.pairwise_iff (fun {a b} h => Dis.symm h)]
  exact ⟨fun h => asc_dis (fun s h => by have := hm' s h; omega) 0 h, fun h => asc_of hs h hm' 0 fun s h => h0 s (hp.mem_iff.1 h)⟩
theorem asc_tot {pg : Int} {l : List Stx} (ho : ∀ s ∈ l, Ok pg s) : ∀ n, n ≤ pg → Asc n l → n + tot l ≤ pg ∧ (l.length : Int) ≤ tot l := by
  induction l with
  | nil => intro n h _; simp [tot]; exact h
  | cons a l ih =>
    intro n hn h
    have ha := ho a (by simp)
    have h1 := ha.fit
    have h2 := ha.one
    have h3 := h.1
    obtain ⟨k1, k2⟩ := ih (fun s h => ho s (by simp [h])) (a.From + a.Many) (by omega) h.2
    rw [tot, List.length_cons]
    omega
theorem tot_le {pg : Int} {l m : List Stx} (hp : m.Perm l) (hs : m.Pairwise sfr) (h : Fine pg l) : tot l ≤ pg ∧ (l.length : Int) ≤ tot l := by
  have ha := (dis_iff hp hs (fun s k => (h.ok s k).one) (fun s k => (h.ok s k).lo)).2 h.dis
  have := asc_tot (pg := pg) (fun s k => h.ok s (hp.mem_iff.1 k)) 0 (by have := h.p1; omega) ha
  rw [tot_perm hp, hp.length_eq] at this
  omega
theorem ord_perm {l : List Stx} : ∃ m : List Stx, m.Perm l ∧ m.Pairwise sfr := by
  refine ⟨l.mergeSort (fun a b => decide (a.From ≤ b.From)), List.mergeSort_perm _ _, ?_⟩
  have := List.pairwise_mergeSort (le := fun a b : Stx => decide (a.From ≤ b.From)) (fun a b c h1 h2 => by simp at *; omega) (fun a b => by simp; omega) l
  exact this.imp fun h => by simpa [sfr] using h
theorem fine_tot {pg : Int} {l : List Stx} (h : Fine pg l) : tot l ≤ pg ∧ (l.length : Int) ≤ tot l :=
  let ⟨_, hp, hs⟩ := ord_perm (l := l); tot_le hp hs h
theorem Fine.perm {pg : Int} {l m : List Stx} (h : Fine pg l) (hp : m.Perm l) : Fine pg m :=
  ⟨h.p1, h.p2, fun s k => h.ok s (hp.mem_iff.1 k), (hp.pairwise_iff (fun {a b} h => Dis.symm h)).2 h.dis⟩

/-! ### Pages -/
def iv (a : Int) (n : Nat) : List Int := (List.range n).map fun (k : Nat) => a + (k : Int)
theorem iv_len (a : Int) (n : Nat) : (iv a n).length = n := by simp [iv]
theorem iv_get {a : Int} {n i : Nat} (h : i < n) : (iv a n)[i]? = some (a + (i : Int)) := by simp [iv, h]
theorem iv_add (a : Int) (n m : Nat) : iv a (n + m) = iv a n ++ iv (a + n) m := by
  unfold iv
  rw [List.range_add, List.map_append, List.map_map]
  congr 1
  apply List.map_congr_left
  intro k _
  simp only [Function.comp_apply]
  omega
theorem iv_succ (a : Int) (n : Nat) : iv a (n + 1) = a :: iv (a + 1) n := by
  rw [Nat.add_comm, iv_add]
  simp [iv]
theorem iv_snoc (a : Int) (n : Nat) : iv a (n + 1) = iv a n ++ [a + n] := by
  rw [iv_add]
  simp [iv]
theorem mem_iv {a p : Int} {n : Nat} : p ∈ iv a n ↔ a ≤ p ∧ p < a + n := by
  unfold iv
  rw [List.mem_map]
  constructor
  · rintro ⟨k, hk, rfl⟩
    rw [List.mem_range] at hk
    omega
  · rintro ⟨h1, h2⟩
    exact ⟨(p - a).toNat, List.mem_range.2 (by omega), by omega⟩
def pgs (l : List Stx) : List Int := l.flatMap fun s => iv s.From s.Many.toNat
theorem pgs_nil : pgs [] = [] := rfl
theorem pgs_cons (s : Stx) (l : List Stx) : pgs (s :: l) = iv s.From s.Many.toNat ++ pgs l := rfl
theorem pgs_app (l m : List Stx) : pgs (l ++ m) = pgs l ++ pgs m := by simp [pgs]
theorem pgs_len {l : List Stx} (hm : ∀ s ∈ l, 0 ≤ s.Many) : ((pgs l).length : Int) = tot l := by
  induction l with
  | nil => rfl
  | cons s l ih =>
    have := ih (fun s h => hm s (by simp [h]))
    have := hm s (by simp)
    rw [pgs_cons, List.length_append, iv_len, tot]
    omega
def cov (s : Stx) (p : Int) : Prop := s.From ≤ p ∧ p < s.From + s.Many
instance (s : Stx) (p : Int) : Decidable (cov s p) := inferInstanceAs (Decidable (_ ∧ _))
theorem mem_pgs {l : List Stx} (hm : ∀ s ∈ l, 0 ≤ s.Many) {p : Int} : p ∈ pgs l ↔ ∃ s ∈ l, cov s p := by
  unfold pgs cov
  rw [List.mem_flatMap]
  constructor
  · rintro ⟨s, h1, h2⟩
    rw [mem_iv] at h2
    have := hm s h1
    exact ⟨s, h1, by omega⟩
  · rintro ⟨s, h1, h2⟩
    have := hm s h1
    exact ⟨s, h1, mem_iv.2 (by omega)⟩
theorem iv_nodup (a : Int) (n : Nat) : (iv a n).Nodup := by
  unfold iv
  exact List.Pairwise.map _ (fun i j (h : i < j) => by intro h2; omega) List.pairwise_lt_range
theorem pgs_nodup {l : List Stx} (hm : ∀ s ∈ l, 0 ≤ s.Many) (hd : l.Pairwise Dis) : (pgs l).Nodup := by
  induction l with
  | nil => exact .nil
  | cons s l ih =>
    rw [List.pairwise_cons] at hd
    have hm' : ∀ s ∈ l, 0 ≤ s.Many := fun s h => hm s (by simp [h])
    have h0 := hm s (by simp)
    rw [pgs_cons, List.nodup_append]
    refine ⟨iv_nodup _ _, ih hm' hd.2, fun a ha b hb hab => ?_⟩
    subst hab
    rw [mem_iv] at ha
    obtain ⟨t, ht, h1, h2⟩ := (mem_pgs hm').1 hb
    have := hd.1 t ht
    unfold Dis at this
    omega

/-! ### What is left -/
def gaps : Int → List Stx → List Stx
  | _, [] => []
  | n, s :: l => if n < s.From then ⟨n, s.From - n⟩ :: gaps (s.From + s.Many) l else gaps (s.From + s.Many) l
def unc (l : List Stx) (p : Int) : Bool := l.all fun s => !decide (cov s p)
theorem gaps_pgs {pg : Int} {l : List Stx} (ho : ∀ s ∈ l, Ok pg s) : ∀ n, n ≤ pg → Asc n l → pgs (gaps n (l ++ [⟨pg, 0⟩])) = (iv n (pg - n).toNat).filter (unc l) := by
  induction l with
  | nil =>
    intro n hn _
    have hf : (iv n (pg - n).toNat).filter (unc []) = iv n (pg - n).toNat := List.filter_eq_self.2 fun _ _ => rfl
    rw [hf]
    simp only [List.nil_append, gaps]
    by_cases h : n < pg
    · rw [if_pos h]; simp [pgs]
    · rw [if_neg h, show (pg - n).toNat = 0 by omega]; rfl
  | cons s l ih =>
    intro n hn ha
    have h0 := ho s (by simp)
    have hf := h0.fit
    have h1 := h0.one
    have ho' : ∀ s ∈ l, Ok pg s := fun s h => ho s (by simp [h])
    have ih := ih ho' (s.From + s.Many) (by omega) ha.2
    have hg := asc_ge (fun s h => by have := (ho' s h).one; omega) _ ha.2
    have han := ha.1
    have hsplit : iv n (pg - n).toNat = iv n (s.From - n).toNat ++ (iv s.From s.Many.toNat ++ iv (s.From + s.Many) (pg - (s.From + s.Many)).toNat) := by
      rw [show (pg - n).toNat = (s.From - n).toNat + (s.Many.toNat + (pg - (s.From + s.Many)).toNat) by omega, iv_add, show n + ((s.From - n).toNat : Int) = s.From by omega, iv_add, show s.From + (s.Many.toNat : Int) = s.From + s.Many by omega]
    have e1 : (iv n (s.From - n).toNat).filter (unc (s :: l)) = iv n (s.From - n).toNat := List.filter_eq_self.2 fun p hp => by
      rw [mem_iv] at hp
      refine List.all_eq_true.2 fun t ht => ?_
      rw [show decide (cov t p) = false from decide_eq_false fun hc => ?_]; · rfl
      obtain ⟨c1, c2⟩ := hc
      rcases List.mem_cons.1 ht with rfl | ht
      · omega
      · have := hg t ht; omega
    have e2 : (iv s.From s.Many.toNat).filter (unc (s :: l)) = [] := List.filter_eq_nil_iff.2 fun p hp => by
      rw [mem_iv] at hp
      intro h
      have := List.all_eq_true.1 h s (by simp)
      rw [show decide (cov s p) = true from decide_eq_true ⟨by omega, by omega⟩] at this
      cases this
    have e3 : (iv (s.From + s.Many) (pg - (s.From + s.Many)).toNat).filter (unc (s :: l)) = (iv (s.From + s.Many) (pg - (s.From + s.Many)).toNat).filter (unc l) := List.filter_congr fun p hp => by
      rw [mem_iv] at hp
      simp only [unc, List.all_cons]
      rw [show decide (cov s p) = false from decide_eq_false (by unfold cov; omega)]; rfl
    rw [hsplit, List.filter_append, List.filter_append, e1, e2, e3, ← ih, List.nil_append, List.cons_append, gaps]
    by_cases h : n < s.From
    · rw [if_pos h, pgs_cons]
    · rw [if_neg h, show (s.From - n).toNat = 0 by omega]; rfl
/-- No two beside one another. -/
def Sep : Int → List Stx → Prop
  | _, [] => True
  | n, s :: l => n < s.From ∧ 1 ≤ s.Many ∧ Sep (s.From + s.Many) l
theorem Sep.lo {n m : Int} (h : n ≤ m) : ∀ {l : List Stx}, Sep m l → Sep n l
  | [], _ => trivial
  | s :: l, h2 => ⟨by have := h2.1; omega, h2.2⟩
theorem gaps_sep {l : List Stx} (hm : ∀ s ∈ l, 1 ≤ s.Many) (z : Stx) : ∀ n, Asc n l → Sep (n - 1) (gaps n (l ++ [z])) := by
  induction l with
  | nil =>
    intro n _
    simp only [List.nil_append, gaps]
    split
    · exact ⟨by show n - 1 < n; omega, by show 1 ≤ z.From - n; omega, trivial⟩
    · trivial
  | cons s l ih =>
    intro n h
    have h1 := hm s (by simp)
    have := ih (fun s h => hm s (by simp [h])) _ h.2
    have hn := h.1
    rw [List.cons_append, gaps]
    split
    · rename_i hlt
      refine ⟨by show n - 1 < n; omega, by show 1 ≤ s.From - n; omega, Sep.lo ?_ this⟩
      show n + (s.From - n) ≤ _
      omega
    · exact Sep.lo (by omega) this
theorem sep_asc : ∀ {l : List Stx} {n : Int}, Sep (n - 1) l → Asc n l
  | [], _, _ => trivial
  | a :: l, n, h => ⟨by have := h.1; omega, sep_asc (Sep.lo (by omega) h.2.2)⟩
/-- Pages as stretches. -/
def ost (a : List Stx) (p : Int) : List Stx :=
  match a.getLast? with
  | some s => if s.From + s.Many = p then a.dropLast ++ [⟨s.From, s.Many + 1⟩] else a ++ [⟨p, 1⟩]
  | none => a ++ [⟨p, 1⟩]
theorem ost_snoc (a : List Stx) (s : Stx) (p : Int) : ost (a ++ [s]) p = if s.From + s.Many = p then a ++ [⟨s.From, s.Many + 1⟩] else (a ++ [s]) ++ [⟨p, 1⟩] := by
  unfold ost; rw [List.getLast?_concat]; simp only [List.dropLast_concat]
theorem ost_run (a : List Stx) (f : Int) (m : Int) : ∀ n : Nat, (iv (f + m) n).foldl ost (a ++ [⟨f, m⟩]) = a ++ [⟨f, m + n⟩]
  | 0 => by simp [iv]
  | n + 1 => by
    rw [iv_snoc, List.foldl_append, ost_run a f m n, List.foldl_cons, List.foldl_nil, ost_snoc, if_pos (show f + (m + n) = f + m + n by omega)]
    simp only [Int.natCast_add, Int.natCast_one, Int.add_assoc]
theorem ost_pgs {l : List Stx} : ∀ (n : Int) (a : List Stx), (∀ s, a.getLast? = some s → s.From + s.Many ≤ n) → Sep n l → (pgs l).foldl ost a = a ++ l := by
  induction l with
  | nil => intro n a _ _; simp [pgs_nil]
  | cons s l ih =>
    intro n a ha h
    have h1 := h.2.1
    have h0 : ost a s.From = a ++ [⟨s.From, 1⟩] := by
      unfold ost
      cases hl : a.getLast? with
      | none => rfl
      | some t =>
        have := ha t hl
        have := h.1
        simp only
        rw [if_neg (by omega)]
    rw [pgs_cons, show s.Many.toNat = (s.Many - 1).toNat + 1 by omega, iv_succ, List.cons_append, List.foldl_cons, List.foldl_append, h0, ost_run, ih (s.From + s.Many) _ (fun t ht => ?_) h.2.2]
    · rw [show (1 : Int) + ((s.Many - 1).toNat : Int) = s.Many by omega, List.append_assoc]; rfl
    · rw [List.getLast?_concat] at ht
      cases ht
      show s.From + (1 + ((s.Many - 1).toNat : Int)) ≤ _
      omega
def ofp (p : List Int) : List Stx := p.foldl ost []
theorem free_eq {pg : Int} {l m : List Stx} (h : Fine pg l) (hp : m.Perm l) (hs : m.Pairwise sfr) : ofp ((iv 0 pg.toNat).filter (unc l)) = gaps 0 (m ++ [⟨pg, 0⟩]) := by
  have hF := h.perm hp
  have ha := (dis_iff hp hs (fun s k => (h.ok s k).one) (fun s k => (h.ok s k).lo)).2 h.dis
  have h1 := h.p1
  have e := gaps_pgs hF.ok 0 (by omega) ha
  have hu : unc m = unc l := funext fun p => by
    unfold unc
    rw [Bool.eq_iff_iff, List.all_eq_true, List.all_eq_true]
    exact ⟨fun k s hs => k s (hp.mem_iff.2 hs), fun k s hs => k s (hp.mem_iff.1 hs)⟩
  rw [Int.sub_zero, hu] at e
  rw [← e]
  unfold ofp
  have := ost_pgs (l := gaps 0 (m ++ [⟨pg, 0⟩])) (0 - 1) [] (by simp) (gaps_sep (fun s k => (hF.ok s k).one) _ 0 ha)
  rw [this, List.nil_append]

/-! ### What is reserved -/
/-- Out, left, what lacks. -/
def tk : Int → List Stx → List Stx × List Stx × Int
  | m, [] => ([], [], m)
  | m, s :: l => if m ≤ 0 then ([], s :: l, m) else if m < s.Many then ([⟨s.From, m⟩], ⟨s.From + m, s.Many - m⟩ :: l, 0) else (⟨s.From, s.Many⟩ :: (tk (m - s.Many) l).1, (tk (m - s.Many) l).2)
theorem tk_many : ∀ {l : List Stx} {m : Int}, 0 ≤ m → (∀ s ∈ l, 1 ≤ s.Many) → 0 ≤ (tk m l).2.2 ∧ tot (tk m l).1 + (tk m l).2.2 = m ∧ tot (tk m l).1 + tot (tk m l).2.1 = tot l
  | [], m, h, _ => by simp [tk, tot, h]
  | s :: l, m, h, hm => by
    have h1 := hm s (by simp)
    rw [tk]
    split
    · have : m = 0 := by omega
      subst this; simp [tot]
    · split
      · simp only [tot]; omega
      · have ih := tk_many (l := l) (m := m - s.Many) (by omega) fun s h => hm s (by simp [h])
        simp only [tot]; omega
theorem tk_ok {pg : Int} : ∀ {l : List Stx} {m n : Int}, 0 ≤ m → (∀ s ∈ l, Ok pg s) → Asc n l → (∀ s ∈ (tk m l).1 ++ (tk m l).2.1, Ok pg s) ∧ Asc n ((tk m l).1 ++ (tk m l).2.1)
  | [], m, n, h, _, _ => by simp [tk, Asc]
  | s :: l, m, n, h, ho, ha => by
    have h0 := ho s (by simp)
    have h1 := h0.one
    have h2 := h0.fit
    have h3 := h0.hi
    have h4 := h0.lo
    have ho' : ∀ s ∈ l, Ok pg s := fun s h => ho s (by simp [h])
    rw [tk]
    split
    · exact ⟨by simpa using ho, by simpa using ha⟩
    · split
      · rename_i hm hs
        refine ⟨fun t ht => ?_, ?_⟩
        · simp only [List.cons_append, List.nil_append, List.mem_cons] at ht
          rcases ht with rfl | rfl | ht
          · exact ⟨h4, h3, by show 1 ≤ m; omega, by show m ≤ pg - s.From; omega⟩
          · exact ⟨by show 0 ≤ s.From + m; omega, by show s.From + m < pg; omega, by show 1 ≤ s.Many - m; omega, by show s.Many - m ≤ pg - (s.From + m); omega⟩
          · exact ho' t ht
        · show n ≤ s.From ∧ s.From + m ≤ s.From + m ∧ Asc (s.From + m + (s.Many - m)) l
          refine ⟨ha.1, Int.le_refl _, ?_⟩
          rw [show s.From + m + (s.Many - m) = s.From + s.Many by omega]
          exact ha.2
      · obtain ⟨k1, k2⟩ := tk_ok (l := l) (m := m - s.Many) (n := s.From + s.Many) (by omega) ho' ha.2
        refine ⟨fun t ht => ?_, ha.1, k2⟩
        rw [List.cons_append, List.mem_cons] at ht
        rcases ht with rfl | ht
        · exact h0
        · exact k1 t ht
theorem tk_len : ∀ {l : List Stx} {m : Int}, (tk m l).1.length ≤ l.length
  | [], m => by simp [tk]
  | s :: l, m => by
    have := tk_len (l := l) (m := m - s.Many)
    rw [tk]
    split
    · simp
    · split <;> simp <;> omega
theorem dis_of_pages {a b : Stx} (ha : 1 ≤ a.Many) (hb : 1 ≤ b.Many) (h : ∀ p, cov a p → cov b p → False) : Dis a b := by
  unfold Dis
  by_cases h1 : a.From + a.Many ≤ b.From
  · exact .inl h1
  · by_cases h2 : b.From + b.Many ≤ a.From
    · exact .inr h2
    · exfalso
      by_cases h3 : a.From ≤ b.From
      · exact h b.From ⟨h3, by omega⟩ ⟨by omega, by omega⟩
      · exact h a.From ⟨by omega, by omega⟩ ⟨by omega, by omega⟩
theorem gaps_ok {pg : Int} {l : List Stx} (ho : ∀ s ∈ l, Ok pg s) : ∀ n, 0 ≤ n → n ≤ pg → Asc n l → (∀ s ∈ gaps n (l ++ [⟨pg, 0⟩]), Ok pg s) ∧ tot (gaps n (l ++ [⟨pg, 0⟩])) + tot l = pg - n := by
  induction l with
  | nil =>
    intro n h0 hn _
    simp only [List.nil_append, gaps]
    by_cases h : n < pg
    · rw [if_pos h]
      refine ⟨fun s hs => ?_, by simp [tot]⟩
      rw [List.mem_singleton] at hs
      subst hs
      exact ⟨h0, h, by show 1 ≤ pg - n; omega, Int.le_refl _⟩
    · rw [if_neg h]; refine ⟨by simp, ?_⟩; simp [tot]; omega
  | cons s l ih =>
    intro n h0 hn ha
    have k0 := ho s (by simp)
    have k1 := k0.one
    have k2 := k0.fit
    have k3 := k0.lo
    have k4 := ha.1
    obtain ⟨i1, i2⟩ := ih (fun s h => ho s (by simp [h])) (s.From + s.Many) (by omega) (by omega) ha.2
    rw [List.cons_append, gaps, tot]
    by_cases h : n < s.From
    · rw [if_pos h, tot]
      refine ⟨fun t ht => ?_, by show s.From - n + _ + _ = _; omega⟩
      rcases List.mem_cons.1 ht with rfl | ht
      · exact ⟨h0, by show n < pg; omega, by show 1 ≤ s.From - n; omega, by show s.From - n ≤ pg - n; omega⟩
      · exact i1 t ht
    · rw [if_neg h]; exact ⟨i1, by omega⟩
/-- What is free: it may be, it lies in order, and with what is taken it is all. -/
theorem gaps_fine {pg : Int} {l m : List Stx} (h : Fine pg l) (hp : m.Perm l) (hs : m.Pairwise sfr) :
    Fine pg (gaps 0 (m ++ [⟨pg, 0⟩])) ∧ Asc 0 (gaps 0 (m ++ [⟨pg, 0⟩])) ∧ Fine pg (gaps 0 (m ++ [⟨pg, 0⟩]) ++ l) ∧ tot (gaps 0 (m ++ [⟨pg, 0⟩])) + tot l = pg := by
  have hF := h.perm hp
  have ha := (dis_iff hp hs (fun s k => (h.ok s k).one) (fun s k => (h.ok s k).lo)).2 h.dis
  have h1 := h.p1
  have e := gaps_pgs hF.ok 0 (by omega) ha
  obtain ⟨g1, g2⟩ := gaps_ok hF.ok 0 (by omega) (by omega) ha
  have hsep := sep_asc (gaps_sep (fun s k => (hF.ok s k).one) ⟨pg, 0⟩ 0 ha)
  have hd := asc_dis (fun s k => by have := (g1 s k).one; omega) 0 hsep
  rw [tot_perm hp, Int.sub_zero] at g2
  refine ⟨⟨h.p1, h.p2, g1, hd⟩, hsep, ⟨h.p1, h.p2, fun s hs => (List.mem_append.1 hs).elim (g1 s) (h.ok s), List.pairwise_append.2 ⟨hd, h.dis, fun a hA b hb => dis_of_pages (g1 a hA).one (h.ok b hb).one fun p c1 c2 => ?_⟩⟩, g2⟩
  have : p ∈ pgs (gaps 0 (m ++ [⟨pg, 0⟩])) := (mem_pgs fun s k => by have := (g1 s k).one; omega).2 ⟨a, hA, c1⟩
  rw [e, List.mem_filter] at this
  have h2 := List.all_eq_true.1 this.2 b (hp.mem_iff.2 hb)
  rw [decide_eq_true c2] at h2
  cases h2

/-! ### Numbers of pages -/
def idx : List Stx → Int → Option Int
  | [], _ => none
  | s :: l, p => if cov s p then some (p - s.From) else (idx l p).map fun i => s.Many + i
theorem idx_pgs {l : List Stx} (hm : ∀ s ∈ l, 0 ≤ s.Many) {p i : Int} (h : idx l p = some i) : 0 ≤ i ∧ (pgs l)[i.toNat]? = some p := by
  induction l generalizing i with
  | nil => cases h
  | cons s l ih =>
    have h0 := hm s (by simp)
    rw [idx] at h
    split at h
    · rename_i hc
      cases h
      unfold cov at hc
      refine ⟨by omega, ?_⟩
      rw [pgs_cons, List.getElem?_append_left (by rw [iv_len]; omega), iv_get (by omega)]
      congr 1; omega
    · cases hi : idx l p with
      | none => rw [hi] at h; cases h
      | some j =>
        rw [hi] at h
        cases h
        obtain ⟨k1, k2⟩ := ih (fun s h => hm s (by simp [h])) hi
        show 0 ≤ s.Many + j ∧ (pgs (s :: l))[(s.Many + j).toNat]? = some p
        refine ⟨by omega, ?_⟩
        rw [pgs_cons, List.getElem?_append_right (by rw [iv_len]; omega), iv_len, show (s.Many + j).toNat - s.Many.toNat = j.toNat by omega]
        exact k2
theorem idx_none {l : List Stx} {p : Int} : idx l p = none ↔ ∀ s ∈ l, ¬ cov s p := by
  induction l with
  | nil => simp [idx]
  | cons s l ih =>
    rw [idx]
    split
    · rename_i h; simp [h]
    · rename_i h
      simp only [Option.map_eq_none_iff, ih, List.mem_cons, forall_eq_or_imp, h, not_false_eq_true, true_and]
theorem idx_of {l : List Stx} (hm : ∀ s ∈ l, 0 ≤ s.Many) (hd : l.Pairwise Dis) {p : Int} {i : Nat} (h : (pgs l)[i]? = some p) : idx l p = some (i : Int) := by
  cases hi : idx l p with
  | none =>
    obtain ⟨s, h1, h2⟩ := (mem_pgs hm).1 (List.mem_of_getElem? h)
    exact absurd h2 (idx_none.1 hi s h1)
  | some j =>
    obtain ⟨k1, k2⟩ := idx_pgs hm hi
    have hn := pgs_nodup hm hd
    have hl := (List.getElem?_eq_some_iff.1 h)
    have hl2 := (List.getElem?_eq_some_iff.1 k2)
    obtain ⟨a1, a2⟩ := hl
    obtain ⟨b1, b2⟩ := hl2
    have : i = j.toNat := by
      rcases Nat.lt_trichotomy i j.toNat with h5 | h5 | h5
      · exact absurd (a2.trans b2.symm) (List.pairwise_iff_getElem.1 hn i j.toNat a1 b1 h5)
      · exact h5
      · exact absurd (b2.trans a2.symm) (List.pairwise_iff_getElem.1 hn j.toNat i b1 a1 h5)
    congr 1; omega
end Go.Proofs.YtjbgddpaclcjfaaDoor.Eng.A

/- Stretches: what the program's functions answer. -/
namespace Go.Proofs.YtjbgddpaclcjfaaDoor.Eng.A
set_option linter.unusedVariables false
set_option linter.unusedSimpArgs false
open Go.RowKit Go.Proofs.YtjbgddpaclcjfaaDoor.Plain Go.Proofs.YtjbgddpaclcjfaaDoor.Eng
open Classical in
noncomputable instance decFine (pg : Int) (l : List Stx) : Decidable (Fine pg l) := Classical.propDecidable _

theorem give16_eq {l : List Stx} {fl : Nat} (hl : l.length ≤ 5000) (hf : 5000 < fl) : F_give16 fl l = some l := by
  have h := lp_fo (l := l) (body := F_give16_b0 l) (fun i s => (s, (i : Int))) (fun s x => .inl (s ++ [x])) (fun s => s) (fun i s => s.length = i) (fl := fl) (s0 := []) rfl
    (fun i x s hx hI => by
      have hi := (List.getElem?_eq_some_iff.1 hx).1
      refine .inl ⟨_, rfl, ?_, by simp [hI]⟩
      unfold F_give16_b0
      dsimp only
      rw [dec_lt hi, ifb_1, ixb_n hx, grd_t ⟨by simp [hI]; omega, by simp [hI]; omega⟩, nat_wrap (by omega)])
    (fun s hI => by unfold F_give16_b0; dsimp only; rw [dec_ge, ifb_0]) (by omega)
  unfold F_give16
  rw [show (([] : List Stx), (0 : Int)) = (([] : List Stx), ((0 : Nat) : Int)) from rfl, h, bnd_s, fo_all, foldl_snoc]; rfl
theorem are16_eq {a b : List Stx} {fl : Nat} (ha : a.length ≤ 5000) (hb : b.length ≤ 5000) (hf : 5000 < fl) : F_are16 fl a b = some (decide (a = b)) := by
  unfold F_are16
  rw [ifb_dec]
  by_cases h : a.length = b.length
  · rw [if_neg (by omega)]
    have := lp_cmp (l := a) (m := b) (body := F_are16_b0 a b) (fun x y => (decide (x.From = y.From) && (decide (x.Many = y.Many) && true))) (fun x y => by cases x; cases y; simp) h (fl := fl) (fun t => rfl) (by omega) (by omega)
    rw [this, bnd_s]
    by_cases he : a = b
    · rw [if_pos he, decide_eq_true he]; rfl
    · rw [if_neg he, decide_eq_false he]; rfl
  · rw [if_pos (by omega), decide_eq_false (fun e => h (by rw [e]))]
theorem equalX_eq {a b : List Stx} {fl : Nat} (ha : a.length ≤ 5000) (hb : b.length ≤ 5000) (hf : 5000 < fl) : F_equalX fl a b = some (decide (a = b)) := by
  unfold F_equalX
  rw [ifb_dec]
  by_cases h : a.length = b.length
  · rw [if_neg (by omega)]
    have := lp_cmp (l := a) (m := b) (body := F_equalX_b0 a b) (fun x y => (decide (x.From = y.From) && (decide (x.Many = y.Many) && true))) (fun x y => by cases x; cases y; simp) h (fl := fl) (fun t => rfl) (by omega) (by omega)
    rw [this, bnd_s]
    by_cases he : a = b
    · rw [if_pos he, decide_eq_true he]; rfl
    · rw [if_neg he, decide_eq_false he]; rfl
  · rw [if_pos (by omega), decide_eq_false (fun e => h (by rw [e]))]
theorem srt_sfr (l : List Stx) : (srt l).Pairwise sfr := srt_asc l
theorem sorted_eq {l : List Stx} (hl : l.length ≤ 5000) : F_sorted l = some (srt l) := by
  unfold F_sorted
  rw [grd_t ⟨by omega, by omega⟩]

/-! ### Check -/
def okb (pg : Int) (x : Stx) : Bool := (((decide (x.From < 0)) || (decide (x.Many < 1))) || (decide (pg ≤ x.From))) || (decide ((IntKind.i64.wrap (pg - x.From)) < x.Many))
theorem okb_iff {pg : Int} {x : Stx} (h1 : 1 ≤ pg) (h2 : pg ≤ 1024) : okb pg x = false ↔ Ok pg x := by
  unfold okb
  by_cases c1 : x.From < 0
  · simp [c1]; exact fun h => by have := h.lo; omega
  by_cases c2 : x.Many < 1
  · simp [c2]; exact fun h => by have := h.one; omega
  by_cases c3 : pg ≤ x.From
  · simp [c3]; exact fun h => by have := h.hi; omega
  rw [decide_eq_false c1, decide_eq_false c2, decide_eq_false c3, wrapi (by omega) (by omega)]
  simp only [Bool.or_self, Bool.false_or, decide_eq_false_iff_not]
  exact ⟨fun h => ⟨by omega, by omega, by omega, by omega⟩, fun h => by have := h.fit; omega⟩
theorem asc_fo : ∀ (m : List Stx) (n : Int), (fo (fun n (x : Stx) => if x.From < n then .inr (.inl (some 1)) else .inl (x.From + x.Many)) (fun _ => (.inr () : Option Int ⊕ Unit)) n m = .inr () ∧ Asc n m) ∨ (fo (fun n (x : Stx) => if x.From < n then .inr (.inl (some 1)) else .inl (x.From + x.Many)) (fun _ => (.inr () : Option Int ⊕ Unit)) n m = .inl (some 1) ∧ ¬ Asc n m)
  | [], n => .inl ⟨rfl, trivial⟩
  | x :: m, n => by
    by_cases h : x.From < n
    · refine .inr ⟨fo_r (by rw [if_pos h]), fun ha => by have := ha.1; omega⟩
    · rw [fo_l (by rw [if_neg h])]
      rcases asc_fo m (x.From + x.Many) with ⟨h1, h2⟩ | ⟨h1, h2⟩
      · exact .inl ⟨h1, by omega, h2⟩
      · exact .inr ⟨h1, fun ha => h2 ha.2⟩
theorem xcheck_eq {l : List Stx} {pg : Int} {fl : Nat} (hl : l.length ≤ 5000) (hf : 5000 < fl) : F_xcheck fl l pg = some (if Fine pg l then none else some 1) := by
  unfold F_xcheck
  by_cases h0 : pg < 1 ∨ 1024 < pg ∨ pg < (l.length : Int)
  · rw [if_neg (fun h => by have := h.p1; have := h.p2; have := fine_tot h; omega)]
    rw [show ((decide (pg < 1) || decide (1024 < pg)) || decide (pg < (l.length : Int))) = true by simp; omega, ifb_1]
  · rw [show ((decide (pg < 1) || decide (1024 < pg)) || decide (pg < (l.length : Int))) = false by simp; omega, ifb_0]
    rw [lp_any (l := l) (body := F_xcheck_b0 l pg) (okb pg) (some 1) (fun i x hx => by
      have hi := (List.getElem?_eq_some_iff.1 hx).1
      unfold F_xcheck_b0
      rw [dec_lt hi, ifb_1, ixb_n hx, nat_wrap (by omega)]
      show ifb (okb pg x) _ _ = _
      cases okb pg x <;> rfl) (by unfold F_xcheck_b0; rw [dec_ge, ifb_0]) (by omega), bnd_s]
    by_cases ha : l.any (okb pg) = true
    · rw [if_pos ha, ocs_1, if_neg]
      intro h
      obtain ⟨x, hx, hb⟩ := List.any_eq_true.1 ha
      have := (okb_iff (by omega) (by omega)).2 (h.ok x hx)
      rw [this] at hb; cases hb
    · have hok : ∀ s ∈ l, Ok pg s := fun s hs => (okb_iff (by omega) (by omega)).1 (by
        cases h : okb pg s with
        | false => rfl
        | true => exact absurd (List.any_eq_true.2 ⟨s, hs, h⟩) ha)
      rw [if_neg ha, ocs_2, sorted_eq hl, bnd_s]
      have hp := srt_perm l
      have hokm : ∀ s ∈ srt l, Ok pg s := fun s hs => hok s (hp.mem_iff.1 hs)
      have hd := dis_iff hp (srt_sfr l) (fun s k => (hok s k).one) (fun s k => (hok s k).lo)
      have hln := hp.length_eq
      generalize srt l = m at *
      have hloop := lp_fo (l := m) (body := F_xcheck_b1 m) (fun i s => (s, (i : Int))) (fun n (x : Stx) => if x.From < n then .inr (.inl (some 1)) else .inl (x.From + x.Many)) (fun _ => (.inr () : Option Int ⊕ Unit)) (fun _ _ => True) (fl := fl) (s0 := 0) trivial
        (fun i x s hx _ => by
          have hi := (List.getElem?_eq_some_iff.1 hx).1
          have hx1 := hokm x (List.mem_of_getElem? hx)
          have a1 := hx1.fit; have a2 := hx1.lo; have a3 := hx1.hi; have a4 := hx1.one
          unfold F_xcheck_b1
          dsimp only
          rw [dec_lt hi, ifb_1, grd_t (belo hi), Int.toNat_natCast, ixb_n hx, ifb_dec]
          by_cases h : x.From < s
          · exact .inr ⟨_, by rw [if_pos h], by rw [if_pos h]⟩
          · refine .inl ⟨_, by rw [if_neg h], ?_, trivial⟩
            rw [if_neg h]
            unfold F_xend
            rw [bnd_s, nat_wrap (by omega), wrapi (by omega) (by omega)])
        (fun s _ => by unfold F_xcheck_b1; dsimp only; rw [dec_ge, ifb_0]) (by omega)
      rw [show ((0 : Int), (0 : Int)) = ((0 : Int), ((0 : Nat) : Int)) from rfl, hloop, bnd_s]
      rcases asc_fo m 0 with ⟨h1, h2⟩ | ⟨h1, h2⟩
      · rw [h1, ocs_2, if_pos ⟨by omega, by omega, hok, hd.1 h2⟩]
      · rw [h1, ocs_1, if_neg fun h => h2 (hd.2 h.dis)]

/-! ### Many, Page, Number -/
theorem fine_mem {pg : Int} {l : List Stx} (h : Fine pg l) {s : Stx} (hs : s ∈ l) : 0 ≤ s.From ∧ s.From < 1024 ∧ 1 ≤ s.Many ∧ s.Many ≤ 1024 ∧ s.From + s.Many ≤ 1024 ∧ s.From + s.Many ≤ pg := by
  have h1 := h.ok s hs
  have := h1.lo; have := h1.hi; have := h1.one; have := h1.fit; have := h.p2; have := h.p1
  omega
theorem tot_take {l : List Stx} {i : Nat} {x : Stx} (hx : l[i]? = some x) : tot (l.take (i + 1)) = tot (l.take i) + x.Many := by
  rw [List.take_add_one, hx, tot_append]; simp [tot]
theorem tot_nn {l : List Stx} (h : ∀ s ∈ l, 0 ≤ s.Many) : 0 ≤ tot l := by
  induction l with
  | nil => simp [tot]
  | cons s l ih =>
    have := ih fun s hs => h s (by simp [hs])
    have := h s (by simp)
    rw [tot]; omega
theorem tot_part {l : List Stx} {pg : Int} (h : Fine pg l) (i : Nat) : 0 ≤ tot (l.take i) ∧ tot (l.take i) ≤ 1024 := by
  have h1 := tot_append (l.take i) (l.drop i)
  rw [List.take_append_drop] at h1
  have h2 := (fine_tot h).1
  have hm : ∀ s ∈ l, 0 ≤ s.Many := fun s hs => by have := fine_mem h hs; omega
  have h3 := tot_nn (l := l.take i) fun s hs => hm s (List.mem_of_mem_take hs)
  have h4 := tot_nn (l := l.drop i) fun s hs => hm s (List.mem_of_mem_drop hs)
  have := h.p2
  omega
theorem foldl_tot : ∀ (l : List Stx) (n : Int), l.foldl (fun n s => n + s.Many) n = n + tot l
  | [], n => by simp [tot]
  | s :: l, n => by rw [List.foldl_cons, foldl_tot l, tot]; omega
theorem xMany_eq {l : List Stx} {fl : Nat} (hl : l.length ≤ 5000) (hf : 5000 < fl) : F_xMany fl l = some (if Fine 1024 l then tot l else 0) := by
  unfold F_xMany
  rw [xcheck_eq hl hf, bnd_s]
  by_cases h : Fine 1024 l
  · rw [if_pos h, if_pos h]
    have hloop := lp_fo (l := l) (body := F_xMany_b0 l) (fun i (s : Int) => (s, (i : Int))) (fun (s : Int) (x : Stx) => .inl (s + x.Many)) (fun s => s) (fun i s => s = tot (l.take i)) (fl := fl) (s0 := 0) rfl
      (fun i x s hx hI => by
        have hi := (List.getElem?_eq_some_iff.1 hx).1
        have hm := fine_mem h (List.mem_of_getElem? hx)
        have ht := tot_part h i
        refine .inl ⟨_, rfl, ?_, by rw [tot_take hx, hI]⟩
        unfold F_xMany_b0
        dsimp only
        rw [dec_lt hi, ifb_1, ixb_n hx, nat_wrap (by omega), wrapi (by omega) (by omega)])
      (fun s _ => by unfold F_xMany_b0; dsimp only; rw [dec_ge, ifb_0]) (by omega)
    rw [show ((0 : Int), (0 : Int)) = ((0 : Int), ((0 : Nat) : Int)) from rfl]
    show ifb false _ _ = _
    rw [ifb_0, hloop, bnd_s, fo_all, foldl_tot]; simp
  · rw [if_neg h, if_neg h]; rfl
theorem page_fo : ∀ (l : List Stx), (∀ s ∈ l, 0 ≤ s.Many) → ∀ n : Int, 0 ≤ n → fo (fun n (x : Stx) => if n < x.Many then .inr (.inl (x.From + n, none)) else .inl (n - x.Many)) (fun _ => (.inr () : (Int × Option Int) ⊕ Unit)) n l = match (pgs l)[n.toNat]? with | some p => .inl (p, none) | none => .inr ()
  | [], _, n, h => rfl
  | x :: l, hm, n, h => by
    have hx := hm x (by simp)
    rw [pgs_cons]
    by_cases hn : n < x.Many
    · rw [fo_r (by rw [if_pos hn]), List.getElem?_append_left (by rw [iv_len]; omega), iv_get (by omega), show x.From + ((n.toNat : Nat) : Int) = x.From + n by omega]
    · rw [fo_l (by rw [if_neg hn]), page_fo l (fun s hs => hm s (by simp [hs])) _ (by omega), List.getElem?_append_right (by rw [iv_len]; omega), iv_len, show (n - x.Many).toNat = n.toNat - x.Many.toNat by omega]
/-- Where the page of a number lies. -/
noncomputable def pageR (l : List Stx) (n : Int) : Int × Option Int :=
  if Fine 1024 l then (if n < 0 then (0, some 2) else match (pgs l)[n.toNat]? with | some p => (p, none) | none => (0, some 2)) else (0, some 1)
theorem xPage_eq {l : List Stx} {n : Int} {fl : Nat} (hl : l.length ≤ 5000) (hn : n < 9223372036854775808) (hf : 5000 < fl) : F_xPage fl l n = some (pageR l n) := by
  unfold F_xPage pageR
  rw [xcheck_eq hl hf, bnd_s]
  by_cases h : Fine 1024 l
  · rw [if_pos h, if_pos h]
    show ifb false _ _ = _
    rw [ifb_0, ifb_dec]
    by_cases hn0 : n < 0
    · rw [if_neg (by omega), if_pos hn0, bnd_s, ocs_2]
    · rw [if_pos (by omega), if_neg hn0]
      have hloop := lp_fo (l := l) (body := F_xPage_b0 l) (fun i (s : Int) => (s, (i : Int))) (fun n (x : Stx) => if n < x.Many then .inr (.inl (x.From + n, none)) else .inl (n - x.Many)) (fun _ => (.inr () : (Int × Option Int) ⊕ Unit)) (fun i s => 0 ≤ s ∧ s ≤ n) (fl := fl) (s0 := n) ⟨by omega, by omega⟩
        (fun i x s hx hI => by
          have hi := (List.getElem?_eq_some_iff.1 hx).1
          have hm := fine_mem h (List.mem_of_getElem? hx)
          unfold F_xPage_b0
          dsimp only
          rw [dec_lt hi, ifb_1, ixb_n hx, ifb_dec]
          by_cases hs : s < x.Many
          · exact .inr ⟨_, by rw [if_pos hs], by rw [if_pos hs, wrapi (by omega) (by omega)]⟩
          · exact .inl ⟨_, by rw [if_neg hs], by rw [if_neg hs, nat_wrap (by omega), wrapi (by omega) (by omega)], by omega, by omega⟩)
        (fun s _ => by unfold F_xPage_b0; dsimp only; rw [dec_ge, ifb_0]) (by omega)
      rw [show (n, (0 : Int)) = (n, ((0 : Nat) : Int)) from rfl, hloop, bnd_s, page_fo l (fun s hs => by have := fine_mem h hs; omega) n (by omega)]
      cases (pgs l)[n.toNat]? <;> rfl
  · rw [if_neg h, if_neg h]; rfl
theorem num_fo (p : Int) : ∀ (l : List Stx) (n : Int), fo (fun n (x : Stx) => if cov x p then .inr (.inl (n + p - x.From, none)) else .inl (n + x.Many)) (fun _ => (.inr () : (Int × Option Int) ⊕ Unit)) n l = match idx l p with | some i => .inl (n + i, none) | none => .inr ()
  | [], n => rfl
  | x :: l, n => by
    rw [idx]
    by_cases h : cov x p
    · rw [fo_r (by rw [if_pos h]), if_pos h, show n + p - x.From = n + (p - x.From) by omega]
    · rw [fo_l (by rw [if_neg h]), if_neg h, num_fo p l]
      cases idx l p with
      | none => rfl
      | some i => simp only [Option.map_some]; rw [show n + x.Many + i = n + (x.Many + i) by omega]
noncomputable def numR (l : List Stx) (p : Int) : Int × Option Int :=
  if Fine 1024 l then (match idx l p with | some i => (i, none) | none => (0, some 2)) else (0, some 1)
theorem xNumber_eq {l : List Stx} {p : Int} {fl : Nat} (hl : l.length ≤ 5000) (hf : 5000 < fl) : F_xNumber fl l p = some (numR l p) := by
  unfold F_xNumber numR
  rw [xcheck_eq hl hf, bnd_s]
  by_cases h : Fine 1024 l
  · rw [if_pos h, if_pos h]
    show ifb false _ _ = _
    rw [ifb_0]
    have hloop := lp_fo (l := l) (body := F_xNumber_b0 l p) (fun i (s : Int) => (s, (i : Int))) (fun n (x : Stx) => if cov x p then .inr (.inl (n + p - x.From, none)) else .inl (n + x.Many)) (fun _ => (.inr () : (Int × Option Int) ⊕ Unit)) (fun i s => s = tot (l.take i)) (fl := fl) (s0 := 0) rfl
      (fun i x s hx hI => by
        have hi := (List.getElem?_eq_some_iff.1 hx).1
        have hm := fine_mem h (List.mem_of_getElem? hx)
        have ht := tot_part h i
        have hxe : F_xend x = some (x.From + x.Many) := by unfold F_xend; rw [wrapi (by omega) (by omega)]
        have hb : F_xNumber_b0 l p (s, (i : Int)) = if cov x p then some (.inr (.inl (s + p - x.From, none))) else some (.inl (s + x.Many, ((i + 1 : Nat) : Int))) := by
          unfold F_xNumber_b0
          dsimp only
          rw [dec_lt hi, ifb_1, ixb_n hx, hxe]
          by_cases c1 : x.From ≤ p
          · rw [decide_eq_true c1]
            show bnd (some (x.From + x.Many)) _ = _
            rw [bnd_s, Bool.true_and, ifb_dec]
            by_cases c2 : p < x.From + x.Many
            · rw [if_pos c2, if_pos ⟨c1, c2⟩, wrapi (n := s + p) (by omega) (by omega), wrapi (n := s + p - x.From) (by omega) (by omega)]
            · rw [if_neg c2, if_neg (fun h => c2 h.2), nat_wrap (by omega), wrapi (by omega) (by omega)]
          · rw [decide_eq_false c1]
            show bnd (some default) _ = _
            rw [bnd_s, Bool.false_and, ifb_0, if_neg (fun h => c1 h.1), nat_wrap (by omega), wrapi (by omega) (by omega)]
        rw [hb]
        by_cases hc : cov x p
        · exact .inr ⟨_, by rw [if_pos hc], by rw [if_pos hc]⟩
        · exact .inl ⟨_, by rw [if_neg hc], by rw [if_neg hc], by rw [tot_take hx, hI]⟩)
      (fun s _ => by unfold F_xNumber_b0; dsimp only; rw [dec_ge, ifb_0]) (by omega)
    rw [show ((0 : Int), (0 : Int)) = ((0 : Int), ((0 : Nat) : Int)) from rfl, hloop, bnd_s, num_fo]
    cases idx l p with
    | none => rfl
    | some i => simp
  · rw [if_neg h, if_neg h]; rfl
end Go.Proofs.YtjbgddpaclcjfaaDoor.Eng.A

/- Stretches: what the document's functions answer. -/
namespace Go.Proofs.YtjbgddpaclcjfaaDoor.Eng.A
set_option linter.unusedVariables false
set_option linter.unusedSimpArgs false
open Go.RowKit Go.Proofs.YtjbgddpaclcjfaaDoor.Plain Go.Proofs.YtjbgddpaclcjfaaDoor.Eng

/-- How often each page is of a stretch. -/
def mkl (pg : Int) (l : List Stx) : List Int := (iv 0 pg.toNat).map fun p => if unc l p then 0 else 1
theorem mkl_len (pg : Int) (l : List Stx) : (mkl pg l).length = pg.toNat := by simp [mkl, iv_len]
theorem mkl_get {pg : Int} {l : List Stx} {i : Nat} (h : i < pg.toNat) : (mkl pg l)[i]? = some (if unc l (i : Int) then 0 else 1) := by
  unfold mkl
  rw [List.getElem?_map, iv_get h]
  simp
theorem unc_snoc (l : List Stx) (s : Stx) (p : Int) : unc (l ++ [s]) p = (unc l p && !decide (cov s p)) := by simp [unc]
theorem mkl_zero (pg f : Int) (l : List Stx) : mkl pg (l ++ [⟨f, 0⟩]) = mkl pg l := by
  unfold mkl
  apply List.map_congr_left
  intro p _
  rw [unc_snoc, show decide (cov ⟨f, 0⟩ p) = false from decide_eq_false fun h => by have h1 := h.1; have h2 := h.2; simp only at h1 h2; omega]
  simp
theorem mkl_set {pg f : Int} {k : Nat} {l : List Stx} (h0 : 0 ≤ f) (h : f + k < pg) : (mkl pg (l ++ [⟨f, k⟩])).set (f + k).toNat 1 = mkl pg (l ++ [⟨f, (k : Int) + 1⟩]) := by
  apply List.ext_getElem?
  intro i
  by_cases hi : i < pg.toNat
  · rw [mkl_get hi, List.getElem?_set]
    split
    · rename_i he
      rw [if_pos (by rw [mkl_len]; exact by omega)]
      rw [if_neg]
      rw [unc_snoc, show decide (cov ⟨f, (k : Int) + 1⟩ (i : Int)) = true from decide_eq_true ⟨by show f ≤ (i : Int); omega, by show (i : Int) < f + ((k : Int) + 1); omega⟩]
      simp
    · rename_i he
      rw [mkl_get hi, unc_snoc, unc_snoc]
      have : decide (cov ⟨f, (k : Int)⟩ (i : Int)) = decide (cov ⟨f, (k : Int) + 1⟩ (i : Int)) := by
        rw [Bool.eq_iff_iff, decide_eq_true_iff, decide_eq_true_iff]
        unfold cov
        simp only
        constructor <;> rintro ⟨a, b⟩ <;> exact ⟨a, by omega⟩
      rw [this]
  · rw [List.getElem?_eq_none (by rw [List.length_set, mkl_len]; omega), List.getElem?_eq_none (by rw [mkl_len]; omega)]

/-- One more stretch, if it may be. -/
def Nice (pg : Int) (l : List Stx) : Prop := (∀ s ∈ l, Ok pg s) ∧ l.Pairwise Dis
theorem nice_snoc {pg : Int} {l : List Stx} {s : Stx} : Nice pg (l ++ [s]) ↔ Nice pg l ∧ Ok pg s ∧ ∀ t ∈ l, Dis t s := by
  unfold Nice
  rw [List.pairwise_append]
  constructor
  · rintro ⟨h1, h2, _, h3⟩
    exact ⟨⟨fun t ht => h1 t (by simp [ht]), h2⟩, h1 s (by simp), fun t ht => h3 t ht s (by simp)⟩
  · rintro ⟨⟨h1, h2⟩, h3, h4⟩
    refine ⟨fun t ht => ?_, h2, by simp, fun t ht u hu => ?_⟩
    · rcases List.mem_append.1 ht with ht | ht
      · exact h1 t ht
      · simp at ht; subst ht; exact h3
    · simp at hu; subst hu; exact h4 t ht
theorem fine_iff {pg : Int} {l : List Stx} (h1 : 1 ≤ pg) (h2 : pg ≤ 1024) : Fine pg l ↔ Nice pg l := ⟨fun h => ⟨h.ok, h.dis⟩, fun h => ⟨h1, h2, h.1, h.2⟩⟩
theorem nice_take {pg : Int} {l : List Stx} (h : Nice pg l) (i : Nat) : Nice pg (l.take i) := ⟨fun s hs => h.1 s (List.mem_of_mem_take hs), h.2.sublist (List.take_sublist _ _)⟩
theorem marks_in {pg : Int} {d : List Stx} {x : Stx} {fl : Nat} (h1 : 1 ≤ pg) (h2 : pg ≤ 1024) (hd : Nice pg d) (a1 : 0 ≤ x.From) (a2 : x.From < pg) (a3 : 1 ≤ x.Many) (a4 : x.Many ≤ pg) (hf : 5000 < fl) :
    ∃ o, lp (F_r16marks_b1 pg x) fl (0, mkl pg d) = some o ∧ ((o = .inl ([], false) ∧ ¬ Nice pg (d ++ [x])) ∨ (o = .inr (mkl pg (d ++ [x])) ∧ Nice pg (d ++ [x]))) := by
  have h := lp_inv (body := F_r16marks_b1 pg x) (fun i (s : List Int) => ((i : Int), s)) (fun i s => s = mkl pg (d ++ [⟨x.From, (i : Int)⟩]) ∧ ∀ k : Nat, k < i → x.From + k < pg ∧ unc d (x.From + k) = true)
    (fun o => (o = .inl ([], false) ∧ ¬ Nice pg (d ++ [x])) ∨ (o = .inr (mkl pg (d ++ [x])) ∧ Nice pg (d ++ [x]))) (n := x.Many.toNat) (fl := fl) (s0 := mkl pg d) ⟨(mkl_zero pg x.From d).symm, fun k hk => by omega⟩
    (fun i s hi ⟨hI, hu⟩ => by
      have w1 : IntKind.i64.wrap (x.From + (i : Int)) = x.From + i := wrapi (by omega) (by omega)
      unfold F_r16marks_b1
      dsimp only
      rw [decide_eq_true (by omega : (i : Int) < x.Many), ifb_1, w1]
      by_cases hc : pg ≤ x.From + i
      · rw [decide_eq_true hc]
        rw [grd_t (by intro h; cases h), grd_t (by intro h; cases h), Bool.true_or, ifb_1]
        refine .inr ⟨_, rfl, .inl ⟨rfl, fun hn => ?_⟩⟩
        have := (nice_snoc.1 hn).2.1.fit
        omega
      · rw [decide_eq_false hc]
        have hlt : (x.From + i).toNat < pg.toNat := by omega
        have hb : Below (x.From + (i : Int)) ((List.replicate pg.toNat (0 : Int)).length) := ⟨by omega, by rw [List.length_replicate]; exact hlt⟩
        have hb2 : Below (((x.From + (i : Int)).toNat : Nat) : Int) s.length := ⟨by omega, by rw [hI, mkl_len]; simpa using hlt⟩
        have hg : s.getD (x.From + (i : Int)).toNat default = if unc d (x.From + i) then 0 else 1 := by
          rw [hI, List.getD_eq_getElem?_getD, mkl_get hlt, Option.getD_some, unc_snoc, show (((x.From + (i : Int)).toNat : Nat) : Int) = x.From + i by omega]
          rw [show decide (cov ⟨x.From, (i : Int)⟩ (x.From + i)) = false from decide_eq_false fun h => by have := h.2; simp only at this; omega]
          simp
        rw [grd_t (fun _ => hb), grd_t (fun _ => hb2), hg, Bool.false_or]
        by_cases hun : unc d (x.From + i) = true
        · rw [if_pos hun, decide_eq_false (by omega), ifb_0, grd_t hb, grd_t hb2]
          refine .inl ⟨_, by rw [nat_wrap (by omega)], ?_, fun k hk => ?_⟩
          · rw [hI, mkl_set a1 (by omega)]; rfl
          · by_cases hki : k < i
            · exact hu k hki
            · have : k = i := by omega
              subst this; exact ⟨by omega, hun⟩
        · rw [if_neg hun, decide_eq_true (by omega), ifb_1]
          refine .inr ⟨_, rfl, .inl ⟨rfl, fun hn => hun ?_⟩⟩
          obtain ⟨_, _, hdis⟩ := nice_snoc.1 hn
          refine List.all_eq_true.2 fun t ht => ?_
          rw [Bool.not_eq_true', decide_eq_false_iff_not]
          intro hcv
          have := hdis t ht
          unfold Dis at this; unfold cov at hcv
          omega)
    (fun s ⟨hI, hu⟩ => ⟨_, by
      unfold F_r16marks_b1
      dsimp only
      rw [decide_eq_false (by omega : ¬ ((x.Many.toNat : Nat) : Int) < x.Many), ifb_0], .inr ⟨by rw [hI, show ((x.Many.toNat : Nat) : Int) = x.Many by omega], by
        have hlast := (hu (x.Many.toNat - 1) (by omega)).1
        refine nice_snoc.2 ⟨hd, ⟨a1, a2, a3, by omega⟩, fun t ht => ?_⟩
        refine dis_of_pages (hd.1 t ht).one a3 fun p c1 c2 => ?_
        unfold cov at c1 c2
        have := List.all_eq_true.1 (hu (p - x.From).toNat (by omega)).2 t ht
        rw [show x.From + (((p - x.From).toNat : Nat) : Int) = p by omega, show decide (cov t p) = true from decide_eq_true c1] at this
        cases this⟩⟩) (by omega)
  exact h
theorem marks_eq {l : List Stx} {pg : Int} {fl : Nat} (hl : l.length ≤ 5000) (hf : 5000 < fl) : F_r16marks fl l pg = some (if Fine pg l then (mkl pg l, true) else ([], false)) := by
  unfold F_r16marks
  by_cases h0 : pg < 1 ∨ 1024 < pg
  · rw [if_neg (fun h => by have := h.p1; have := h.p2; omega)]
    rw [show (decide (pg < 1) || decide (1024 < pg)) = true by simp; omega, ifb_1]
  · rw [show (decide (pg < 1) || decide (1024 < pg)) = false by simp; omega, ifb_0, grd_t ⟨by omega, by omega, by omega⟩]
    have e0 : List.replicate pg.toNat (0 : Int) = mkl pg [] := by
      apply List.ext_getElem?
      intro i
      by_cases hi : i < pg.toNat
      · rw [mkl_get hi, List.getElem?_replicate, if_pos hi]; rfl
      · rw [List.getElem?_eq_none (by simp; omega), List.getElem?_eq_none (by rw [mkl_len]; omega)]
    obtain ⟨o, h1, h2⟩ := lp_inv (body := F_r16marks_b0 fl l pg) (fun i (s : List Int) => ((i : Int), s)) (fun i s => s = mkl pg (l.take i) ∧ Nice pg (l.take i))
      (fun o => (o = .inl ([], false) ∧ ¬ Nice pg l) ∨ (o = .inr (mkl pg l) ∧ Nice pg l)) (n := l.length) (fl := fl) (s0 := mkl pg []) ⟨rfl, by simp [Nice]⟩
      (fun i s hi ⟨hI, hN⟩ => by
        have hx := List.getElem?_eq_getElem hi
        have ht : l.take (i + 1) = l.take i ++ [l[i]] := by rw [List.take_add_one, hx]; rfl
        generalize l[i] = x at hx ht
        unfold F_r16marks_b0
        dsimp only
        rw [dec_lt hi, ifb_1, ixb_n hx]
        by_cases hb : x.From < 0 ∨ pg ≤ x.From ∨ x.Many < 1 ∨ pg < x.Many
        · rw [show ((((decide (x.From < 0)) || (decide (pg ≤ x.From))) || (decide (x.Many < 1))) || (decide (pg < x.Many))) = true by simp; omega, ifb_1, bnd_s, ocs_1]
          refine .inr ⟨_, rfl, .inl ⟨rfl, fun hn => ?_⟩⟩
          have q := hn.1 x (List.mem_of_getElem? hx)
          have := q.lo; have := q.hi; have := q.one; have := q.fit
          omega
        · rw [show ((((decide (x.From < 0)) || (decide (pg ≤ x.From))) || (decide (x.Many < 1))) || (decide (pg < x.Many))) = false by simp; omega, ifb_0]
          obtain ⟨o, q1, q2⟩ := marks_in (x := x) (by omega) (by omega) hN (by omega) (by omega) (by omega) (by omega) hf
          rw [hI, q1, bnd_s]
          rcases q2 with ⟨rfl, q3⟩ | ⟨rfl, q3⟩
          · rw [ocs_1]
            exact .inr ⟨_, rfl, .inl ⟨rfl, fun hn => q3 (by rw [← ht]; exact nice_take hn _)⟩⟩
          · rw [ocs_2, nat_wrap (by omega)]
            exact .inl ⟨_, rfl, by rw [ht], by rw [ht]; exact q3⟩)
      (fun s ⟨hI, hN⟩ => ⟨_, by unfold F_r16marks_b0; dsimp only; rw [dec_ge, ifb_0], .inr ⟨by rw [hI, List.take_length], by rwa [List.take_length] at hN⟩⟩) (by omega)
    have h1' : lp (F_r16marks_b0 fl l pg) fl (0, mkl pg []) = some o := h1
    rw [e0, h1', bnd_s]
    rcases h2 with ⟨rfl, h3⟩ | ⟨rfl, h3⟩
    · rw [ocs_1, if_neg fun h => h3 ((fine_iff (by omega) (by omega)).1 h)]
    · rw [ocs_2, grd_t (by rw [mkl_len, mkl_len]), if_pos ((fine_iff (by omega) (by omega)).2 h3)]
theorem may16_eq {l : List Stx} {pg : Int} {fl : Nat} (hl : l.length ≤ 5000) (hf : 5000 < fl) : F_r16May fl l pg = some (decide (Fine pg l)) := by
  unfold F_r16May
  rw [marks_eq hl hf, bnd_s]
  by_cases h : Fine pg l
  · rw [if_pos h, decide_eq_true h]
  · rw [if_neg h, decide_eq_false h]

/-! ### Pages -/
theorem pgs_take {l : List Stx} {i : Nat} {x : Stx} (hx : l[i]? = some x) : pgs (l.take (i + 1)) = pgs (l.take i) ++ iv x.From x.Many.toNat := by
  rw [List.take_add_one, hx, pgs_app]; simp [pgs]
theorem pages16_eq {l : List Stx} {fl : Nat} (hl : l.length ≤ 5000) (hf : 5000 < fl) : F_r16Pages fl l = some (if Fine 1024 l then pgs l else []) := by
  unfold F_r16Pages
  have hm := may16_eq (pg := 1024) hl hf
  by_cases h : Fine 1024 l
  · rw [if_pos h]
    rw [decide_eq_true h] at hm
    have hlen : ∀ i, ((pgs (l.take i)).length : Int) ≤ 1024 := fun i => by
      rw [pgs_len fun s hs => by have := fine_mem h (List.mem_of_mem_take hs); omega]
      exact (tot_part h i).2
    have hloop := lp_fo (l := l) (body := F_r16Pages_b0 fl l) (fun i (s : List Int) => (s, (i : Int))) (fun (s : List Int) (x : Stx) => .inl (s ++ iv x.From x.Many.toNat)) (fun s => s) (fun i s => s = pgs (l.take i)) (fl := fl) (s0 := []) rfl
      (fun i x s hx hI => by
        have hi := (List.getElem?_eq_some_iff.1 hx).1
        have hmm := fine_mem h (List.mem_of_getElem? hx)
        refine .inl ⟨_, rfl, ?_, by rw [pgs_take hx, hI]⟩
        unfold F_r16Pages_b0
        dsimp only
        rw [dec_lt hi]
        show bnd (F_r16May fl l 1024) _ = _
        rw [hm, bnd_s, Bool.true_and, ifb_1]
        have hin := lp_seq (body := F_r16Pages_b1 l (s, (i : Int))) (o := s ++ iv x.From x.Many.toNat) (fl := fl) (fun k => (s ++ iv x.From k, (k : Int))) (n := x.Many.toNat) (fun k hk => by
          unfold F_r16Pages_b1
          dsimp only
          rw [ixb_n hx, decide_eq_true (by omega : (k : Int) < x.Many), ifb_1, ixb_n hx]
          have h5 := hlen i
          rw [← hI] at h5
          rw [grd_t ⟨by simp [iv_len]; omega, by simp [iv_len]; omega⟩, nat_wrap (by omega), wrapi (by omega) (by omega), iv_snoc, List.append_assoc]) (by
          unfold F_r16Pages_b1
          dsimp only
          rw [ixb_n hx, decide_eq_false (by omega : ¬ ((x.Many.toNat : Nat) : Int) < x.Many), ifb_0]) (by omega)
        have hin' : lp (F_r16Pages_b1 l (s, (i : Int))) fl (s, 0) = some (s ++ iv x.From x.Many.toNat) := by
          have e : (s ++ iv x.From 0, ((0 : Nat) : Int)) = (s, (0 : Int)) := by simp [iv]
          rw [← e]; exact hin
        rw [hin', bnd_s, nat_wrap (by omega)])
      (fun s _ => by
        unfold F_r16Pages_b0
        dsimp only
        rw [dec_ge]
        show bnd (some default) _ = _
        rw [bnd_s, Bool.false_and, ifb_0]) (by omega)
    rw [show (([] : List Int), (0 : Int)) = (([] : List Int), ((0 : Nat) : Int)) from rfl, hloop, bnd_s, fo_all]
    congr 1
    have : ∀ (l : List Stx) (a : List Int), l.foldl (fun s (x : Stx) => s ++ iv x.From x.Many.toNat) a = a ++ pgs l := fun l => by
      induction l with
      | nil => simp [pgs_nil]
      | cons x l ih => intro a; rw [List.foldl_cons, ih, pgs_cons, List.append_assoc]
    rw [this]; simp
  · rw [if_neg h]
    rw [decide_eq_false h] at hm
    obtain ⟨m, rfl⟩ : ∃ m, fl = m + 1 := ⟨fl - 1, by omega⟩
    rw [lp_end (o := []), bnd_s]
    unfold F_r16Pages_b0
    dsimp only
    by_cases hl0 : (0 : Int) < (l.length : Int)
    · rw [decide_eq_true hl0]
      show bnd (F_r16May (m + 1) l 1024) _ = _
      rw [hm, bnd_s, Bool.true_and, ifb_0]
    · rw [decide_eq_false hl0]
      show bnd (some default) _ = _
      rw [bnd_s, Bool.false_and, ifb_0]
theorem pgs_few {l : List Stx} (h : Fine 1024 l) : (pgs l).length ≤ 1024 := by
  have := pgs_len (l := l) fun s hs => by have := fine_mem h hs; omega
  have := (fine_tot h).1
  omega
theorem page16_eq {l : List Stx} {n : Int} {fl : Nat} (hl : l.length ≤ 5000) (hf : 5000 < fl) : F_r16Page fl l n = some ((pageR l n).1, Er.numV (pageR l n).2) := by
  unfold F_r16Page pageR
  rw [may16_eq hl hf, bnd_s, pages16_eq hl hf]
  by_cases h : Fine 1024 l
  · rw [decide_eq_true h, if_pos h, if_pos h]
    show ifb false _ _ = _
    rw [ifb_0, bnd_s]
    by_cases h1 : n < 0
    · rw [decide_eq_true h1, Bool.true_or, ifb_1, if_pos h1]; rfl
    · rw [decide_eq_false h1, Bool.false_or, ifb_dec, if_neg h1]
      by_cases h2 : ((pgs l).length : Int) ≤ n
      · rw [if_pos h2, List.getElem?_eq_none (by omega)]; rfl
      · have hx : (pgs l)[n.toNat]? = some ((pgs l)[n.toNat]'(by omega)) := List.getElem?_eq_getElem (by omega)
        rw [if_neg h2, ixb_at (by omega) hx, hx]; rfl
  · rw [decide_eq_false h, if_neg h, if_neg h]; rfl
theorem number16_eq {l : List Stx} {p : Int} {fl : Nat} (hl : l.length ≤ 5000) (hf : 5000 < fl) : F_r16Number fl l p = some ((numR l p).1, Er.numV (numR l p).2) := by
  unfold F_r16Number numR
  rw [may16_eq hl hf, bnd_s, pages16_eq hl hf]
  by_cases h : Fine 1024 l
  · rw [decide_eq_true h, if_pos h, if_pos h]
    show ifb false _ _ = _
    rw [ifb_0, bnd_s]
    have hm : ∀ s ∈ l, 0 ≤ s.Many := fun s hs => by have := fine_mem h hs; omega
    have hpl := pgs_few h
    have hB : ∀ (i : Nat) x, (pgs l)[i]? = some x → F_r16Number_b0 p (pgs l) (i : Int) = if x = p then some (.inr (.inl ((i : Int), 0))) else some (.inl ((i + 1 : Nat) : Int)) := fun i x hx => by
      have hi := (List.getElem?_eq_some_iff.1 hx).1
      unfold F_r16Number_b0
      rw [dec_lt hi, ifb_1, ixb_n hx, ifb_dec, nat_wrap (by omega)]
    obtain ⟨o, h1, h2⟩ := lp_inv (body := F_r16Number_b0 p (pgs l)) (fun i (_ : Unit) => (i : Int)) (fun i _ => ∀ k, k < i → (pgs l)[k]? ≠ some p) (fun o => (∃ i : Nat, o = .inl ((i : Int), 0) ∧ (pgs l)[i]? = some p) ∨ (o = .inr () ∧ p ∉ pgs l)) (n := (pgs l).length) (fl := fl) (s0 := ()) (fun k hk => by omega)
      (fun i _ hi hI => by
        have hx := List.getElem?_eq_getElem hi
        rw [hB i _ hx]
        by_cases hp : (pgs l)[i] = p
        · rw [if_pos hp]; exact .inr ⟨_, rfl, .inl ⟨i, rfl, by rw [hx, hp]⟩⟩
        · rw [if_neg hp]
          refine .inl ⟨(), rfl, fun k hk => ?_⟩
          by_cases hki : k < i
          · exact hI k hki
          · have : k = i := by omega
            subst this
            rw [hx]; exact fun e => hp (Option.some.inj e))
      (fun _ hI => ⟨.inr (), by unfold F_r16Number_b0; rw [dec_ge, ifb_0], .inr ⟨rfl, fun hm => by
        obtain ⟨k, hk, he⟩ := List.mem_iff_getElem.1 hm
        exact hI k hk (by rw [List.getElem?_eq_getElem hk, he])⟩⟩) (by omega)
    have h1' : lp (F_r16Number_b0 p (pgs l)) fl 0 = some o := h1
    rw [h1', bnd_s]
    rcases h2 with ⟨i, rfl, h3⟩ | ⟨rfl, h3⟩
    · rw [ocs_1, idx_of hm h.dis h3]; rfl
    · rw [ocs_2]
      cases hi : idx l p with
      | none => rfl
      | some j => exact absurd (List.mem_of_getElem? (idx_pgs hm hi).2) h3
  · rw [decide_eq_false h, if_neg h, if_neg h]; rfl
end Go.Proofs.YtjbgddpaclcjfaaDoor.Eng.A

/- Stretches: what is left, and what is reserved. -/
namespace Go.Proofs.YtjbgddpaclcjfaaDoor.Eng.A
set_option linter.unusedVariables false
set_option linter.unusedSimpArgs false
open Go.RowKit Go.Proofs.YtjbgddpaclcjfaaDoor.Plain Go.Proofs.YtjbgddpaclcjfaaDoor.Eng Go.Proofs.YtjbgddpaclcjfaaDoor.Eng.Ha

/-! ### Free -/
theorem gaps_fo : ∀ (m : List Stx) (n : Int) (a : List Stx), fo (fun (s : List Stx × Int) (x : Stx) => (.inl (if s.2 < x.From then s.1 ++ [⟨s.2, x.From - s.2⟩] else s.1, x.From + x.Many) : (List Stx × Int) ⊕ List Stx)) (fun s => s.1) (a, n) m = a ++ gaps n m
  | [], n, a => by simp [fo, gaps]
  | x :: m, n, a => by
    rw [fo_l rfl, gaps_fo m, gaps]
    by_cases h : n < x.From
    · rw [if_pos h, if_pos h, List.append_assoc]; rfl
    · rw [if_neg h, if_neg h]
theorem gaps_len : ∀ (m : List Stx) (n : Int), (gaps n m).length ≤ m.length
  | [], n => by simp [gaps]
  | x :: m, n => by
    have := gaps_len m (x.From + x.Many)
    rw [gaps]; split <;> simp <;> omega
noncomputable def freeR (l : List Stx) (pg : Int) : List Stx × Option Int :=
  if Fine pg l then (gaps 0 (srt l ++ [⟨pg, 0⟩]), none) else ([], some 1)
theorem xFree_eq {l : List Stx} {pg : Int} {fl : Nat} (hl : l.length ≤ 4000) (hf : 5000 < fl) : F_xFree fl l pg = some (freeR l pg) := by
  unfold F_xFree freeR
  rw [xcheck_eq (by omega) hf, bnd_s]
  by_cases h : Fine pg l
  · rw [if_pos h, if_pos h]
    show ifb false _ _ = _
    rw [ifb_0, sorted_eq (by omega), bnd_s]
    have hln := srt_len l
    have hF := h.perm (srt_perm l)
    have h2 := h.p2; have h1 := h.p1
    generalize srt l = m at *
    rw [grd_t ⟨by simp; omega, by simp; omega⟩]
    have hmm : ∀ x ∈ m ++ [(⟨pg, 0⟩ : Stx)], 0 ≤ x.From ∧ x.From ≤ 1024 ∧ 0 ≤ x.Many ∧ x.From + x.Many ≤ 1024 := fun x hx => by
      rcases List.mem_append.1 hx with hx | hx
      · have := fine_mem hF hx; omega
      · simp at hx; subst hx; exact ⟨by show 0 ≤ pg; omega, h2, Int.le_refl _, by show pg + 0 ≤ 1024; omega⟩
    have hml : (m ++ [(⟨pg, 0⟩ : Stx)]).length ≤ 4001 := by simp; omega
    have hgl : ∀ a b : List Stx, a.length ≤ 4001 → a.length + 1 ≤ 5000 := fun a _ h => by omega
    have hfb : ∀ (x2 : List Stx) (t : List Stx × Int × Int), F_xFree_b0 pg x2 t = F_xFree_b0 pg x2 t := fun _ _ => rfl
    have hloop := lp_fo (l := m ++ [(⟨pg, 0⟩ : Stx)]) (body := F_xFree_b0 pg m) (fun i (s : List Stx × Int) => (s.1, s.2, (i : Int))) (fun (s : List Stx × Int) (x : Stx) => (.inl (if s.2 < x.From then s.1 ++ [⟨s.2, x.From - s.2⟩] else s.1, x.From + x.Many) : (List Stx × Int) ⊕ List Stx)) (fun s => s.1) (fun i s => s.1.length ≤ i ∧ 0 ≤ s.2 ∧ s.2 ≤ 1024) (fl := fl) (s0 := ([], 0)) ⟨by simp, by show (0 : Int) ≤ 0; omega, by show (0 : Int) ≤ 1024; omega⟩
      (fun i x s hx hI => by
        have hi := (List.getElem?_eq_some_iff.1 hx).1
        have hm := hmm x (List.mem_of_getElem? hx)
        obtain ⟨q1, q2, q3⟩ := hI
        refine .inl ⟨_, rfl, ?_, ?_, by show 0 ≤ x.From + x.Many; omega, by show x.From + x.Many ≤ 1024; omega⟩
        · unfold F_xFree_b0
          dsimp only
          rw [dec_lt hi, ifb_1, grd_t (belo hi), Int.toNat_natCast, ixb_n hx, ifb_dec]
          have hxe : F_xend x = some (x.From + x.Many) := by unfold F_xend; rw [wrapi (by omega) (by omega)]
          rw [hxe]
          by_cases h3 : s.2 < x.From
          · rw [if_pos h3, if_pos h3, grd_t ⟨by simp; omega, by simp; omega⟩, bnd_s, bnd_s, nat_wrap (by omega), wrapi (by omega) (by omega)]
          · rw [if_neg h3, if_neg h3, bnd_s, bnd_s, nat_wrap (by omega)]
        · show (if s.2 < x.From then s.1 ++ [⟨s.2, x.From - s.2⟩] else s.1).length ≤ i + 1
          split
          · simpa using q1
          · omega)
      (fun s _ => by unfold F_xFree_b0; dsimp only; rw [dec_ge, ifb_0]) (by omega)
    rw [show (([] : List Stx), (0 : Int), (0 : Int)) = (([] : List Stx), (0 : Int), ((0 : Nat) : Int)) from rfl, hloop, bnd_s, gaps_fo]; rfl
  · rw [if_neg h, if_neg h]; rfl
theorem ost_len (a : List Stx) (p : Int) : (ost a p).length ≤ a.length + 1 := by
  unfold ost
  cases h : a.getLast? with
  | none => simp
  | some s =>
    simp only
    split
    · simp
    · simp
theorem r16of_eq {p : List Int} {fl : Nat} (hp : ∀ x ∈ p, 0 ≤ x ∧ x ≤ 2000) (hl : p.length ≤ 4000) (hf : 5000 < fl) : F_r16of fl p = some (ofp p) := by
  unfold F_r16of
  have hloop := lp_fo (l := p) (body := F_r16of_b0 p) (fun i (s : List Stx) => (s.length, (i : Int), s)) (fun (s : List Stx) (x : Int) => (.inl (ost s x) : List Stx ⊕ (List Stx × Nat))) (fun s => (s, s.length)) (fun i s => s.length ≤ i ∧ ∀ t ∈ s, 0 ≤ t.From ∧ t.From ≤ 2000 ∧ 0 ≤ t.Many ∧ t.Many ≤ i) (fl := fl) (s0 := []) ⟨by simp, by simp⟩
    (fun i x s hx hI => by
      have hi := (List.getElem?_eq_some_iff.1 hx).1
      have hxx := hp x (List.mem_of_getElem? hx)
      obtain ⟨q1, q2⟩ := hI
      have hgd : p.getD i default = x := by rw [List.getD_eq_getElem?_getD, hx]; rfl
      refine .inl ⟨_, rfl, ?_, ?_, ?_⟩
      · unfold F_r16of_b0
        dsimp only
        rw [dec_lt hi, ifb_1]
        rcases List.eq_nil_or_concat s with rfl | ⟨a, t, rfl⟩
        · rw [show decide ((0 : Int) < ((([] : List Stx).length : Nat) : Int)) = false from rfl]
          rw [grd_t (by intro h; cases h), grd_t (by intro h; cases h), grd_t (by intro h; cases h), grd_t (by intro h; cases h), grd_t (by intro h; cases h), Bool.false_and, ifb_0, ixb_n hx, grd_t rfl, grd_t ⟨by simp, by simp⟩, bnd_s, nat_wrap (by omega)]
          rfl
        · rw [List.concat_eq_append] at q1 q2 ⊢
          have hlen : (a ++ [t]).length = a.length + 1 := by simp
          have w1 : IntKind.i64.wrap ((((a ++ [t]).length : Nat) : Int) - 1) = (a.length : Int) := by rw [hlen, wrapi (by omega) (by omega)]; omega
          rw [w1, Int.toNat_natCast, Int.toNat_natCast, decide_eq_true (by rw [hlen]; omega : (0 : Int) < (((a ++ [t]).length : Nat) : Int))]
          have hb : Below (a.length : Int) (a ++ [t]).length := belo (by rw [hlen]; omega)
          have ht : (a ++ [t])[a.length]? = some t := by simp
          have hgt : (a ++ [t]).getD a.length default = t := by rw [List.getD_eq_getElem?_getD, ht]; rfl
          have hqt := q2 t (by simp)
          rw [hlen] at q1
          rw [grd_t (fun _ => hb), grd_t (fun _ => hb), grd_t (fun _ => hb), grd_t (fun _ => hb), grd_t (fun _ => belo hi), hgt, hgd, wrapi (n := t.From + t.Many) (by omega) (by omega), Bool.true_and, ifb_dec, ost_snoc]
          by_cases he : t.From + t.Many = x
          · rw [if_pos he, if_pos he]
            show bnd (grd (Below ((a.length : Nat) : Int) _) _) _ = _
            rw [grd_t hb, Int.toNat_natCast, ixb_n ht, grd_t hb, ixb_n ht, bnd_s, nat_wrap (by omega), wrapi (by omega) (by omega)]
            have e1 : (a ++ [t]).set a.length ⟨t.From, t.Many + 1⟩ = a ++ [⟨t.From, t.Many + 1⟩] := by simp
            rw [e1, hlen]
            simp
          · rw [if_neg he, if_neg he, ixb_n hx, grd_t rfl, grd_t ⟨by rw [hlen]; simp; omega, by rw [hlen]; simp; omega⟩, bnd_s, nat_wrap (by omega)]
      · have := ost_len s x; omega
      · intro u hu
        unfold ost at hu
        cases hg : s.getLast? with
        | none =>
          rw [hg] at hu
          simp only [List.mem_append, List.mem_singleton] at hu
          rcases hu with hu | rfl
          · have := q2 u hu; omega
          · exact ⟨hxx.1, hxx.2, by show (0 : Int) ≤ 1; omega, by show (1 : Int) ≤ ((i + 1 : Nat) : Int); omega⟩
        | some t =>
          rw [hg] at hu
          simp only at hu
          have hqt := q2 t (List.mem_of_getLast? hg)
          split at hu
          · rcases List.mem_append.1 hu with hu | hu
            · have := q2 u (List.dropLast_subset _ hu); omega
            · simp at hu; subst hu
              exact ⟨hqt.1, hqt.2.1, by show 0 ≤ t.Many + 1; omega, by show t.Many + 1 ≤ ((i + 1 : Nat) : Int); omega⟩
          · rcases List.mem_append.1 hu with hu | hu
            · have := q2 u hu; omega
            · simp at hu; subst hu
              exact ⟨hxx.1, hxx.2, by show (0 : Int) ≤ 1; omega, by show (1 : Int) ≤ ((i + 1 : Nat) : Int); omega⟩)
    (fun s _ => by unfold F_r16of_b0; dsimp only; rw [dec_ge, ifb_0]) (by omega)
  rw [show (([] : List Stx).length, (0 : Int), ([] : List Stx)) = (([] : List Stx).length, ((0 : Nat) : Int), ([] : List Stx)) from rfl, hloop, bnd_s, fo_all]
  rw [grd_t rfl]; rfl
theorem filt_take {P : Int → Bool} {n i : Nat} (hi : i < n) : ((iv 0 n).take (i + 1)).filter P = ((iv 0 n).take i).filter P ++ (if P (i : Int) then [(i : Int)] else []) := by
  rw [List.take_add_one, iv_get hi, List.filter_append]
  congr 1
  simp only [Option.toList_some, Int.zero_add, List.filter_cons, List.filter_nil]
theorem free16_eq {l : List Stx} {pg : Int} {fl : Nat} (hl : l.length ≤ 4000) (hf : 5000 < fl) : F_r16Free fl l pg = some ((freeR l pg).1, Er.numV (freeR l pg).2) := by
  unfold F_r16Free freeR
  rw [marks_eq (by omega) hf, bnd_s]
  by_cases h : Fine pg l
  · rw [if_pos h, if_pos h]
    show ifb false _ _ = _
    rw [ifb_0]
    have h1 := h.p1; have h2 := h.p2
    have hml := mkl_len pg l
    have hloop := lp_fo (l := mkl pg l) (body := F_r16Free_b0 (mkl pg l, true)) (fun i (s : List Int) => (s, (i : Int))) (fun (s : List Int) (x : Int) => (.inl s : List Int ⊕ List Int)) (fun s => s) (fun _ _ => True) (fl := fl) (s0 := [])
    have hlp := lp_seq (body := F_r16Free_b0 (mkl pg l, true)) (o := ((iv 0 pg.toNat).filter (unc l))) (fl := fl) (fun i => (((iv 0 pg.toNat).take i).filter (unc l), (i : Int))) (n := pg.toNat) (fun i hi => by
      have hx := mkl_get (l := l) hi
      have hfl : (((iv 0 pg.toNat).take i).filter (unc l)).length ≤ 1024 := by
        have a1 := List.length_filter_le (unc l) ((iv 0 pg.toNat).take i)
        rw [List.length_take, iv_len] at a1; omega
      unfold F_r16Free_b0
      dsimp only
      rw [hml, dec_lt hi, ifb_1, ixb_n hx, ifb_dec, filt_take hi, nat_wrap (by omega)]
      by_cases hu : unc l (i : Int) = true
      · rw [if_pos hu, if_pos rfl, if_pos hu, grd_t ⟨by simp; omega, by simp; omega⟩, bnd_s]
      · rw [if_neg hu, if_neg (by omega), if_neg hu, bnd_s, List.append_nil]) (by
      unfold F_r16Free_b0
      dsimp only
      rw [hml, dec_ge, ifb_0, List.take_of_length_le (by rw [iv_len]; exact Nat.le_refl _)]) (by omega)
    have hlp' : lp (F_r16Free_b0 (mkl pg l, true)) fl ([], 0) = some ((iv 0 pg.toNat).filter (unc l)) := by
      rw [show (([] : List Int), (0 : Int)) = (((iv 0 pg.toNat).take 0).filter (unc l), ((0 : Nat) : Int)) by simp]; exact hlp
    rw [hlp', bnd_s, r16of_eq (fun x hx => by
      rw [List.mem_filter, mem_iv] at hx; omega) (by
      have a1 := List.length_filter_le (unc l) (iv 0 pg.toNat)
      rw [iv_len] at a1; omega) hf, bnd_s, free_eq h (srt_perm l) (srt_sfr l)]; rfl
  · rw [if_neg h, if_neg h]; rfl

/-! ### Reserve -/
theorem sfr_unique {l m : List Stx} (hp : m.Perm l) (hd : l.Pairwise Dis) (hm : ∀ s ∈ l, 1 ≤ s.Many) (h1 : l.Pairwise sfr) (h2 : m.Pairwise sfr) : m = l := by
  have hne : ∀ a ∈ l, ∀ b ∈ l, a.From = b.From → a = b := fun a ha b hb he => by
    obtain ⟨i, hi, rfl⟩ := List.mem_iff_getElem.1 ha
    obtain ⟨j, hj, rfl⟩ := List.mem_iff_getElem.1 hb
    rcases Nat.lt_trichotomy i j with h | h | h
    · have := List.pairwise_iff_getElem.1 hd i j hi hj h
      have q1 := hm _ (List.getElem_mem hi); have q2 := hm _ (List.getElem_mem hj)
      unfold Dis at this; omega
    · subst h; rfl
    · have := List.pairwise_iff_getElem.1 hd j i hj hi h
      have q1 := hm _ (List.getElem_mem hi); have q2 := hm _ (List.getElem_mem hj)
      unfold Dis at this; omega
  exact hp.eq_of_pairwise (fun a b ha hb h3 h4 => hne a (hp.mem_iff.1 ha) b hb (by unfold sfr at h3 h4; omega)) h2 h1
/-- What is reserved, what is left then; the error. -/
noncomputable def resR (l : List Stx) (n : Int) : List Stx × List Stx × Option Int :=
  open Classical in
  if Fine 1024 l ∧ l.Pairwise sfr ∧ 1 ≤ n then (if 0 < (tk n l).2.2 ∨ 8 < (tk n l).1.length then ([], [], some 7) else ((tk n l).1, (tk n l).2.1, none)) else ([], [], some 1)
theorem tk_zero (l : List Stx) {m : Int} (h : m ≤ 0) : tk m l = ([], l, m) := by
  cases l with
  | nil => rfl
  | cons s l => rw [tk, if_pos h]
theorem xres_lp {p0 : List Stx} {fl0 : Nat} (hp0 : p0.length ≤ 4000) : ∀ (rest : List Stx) (m : Int) (out A : List Stx) (fl : Nat), A.length + rest.length = p0.length → (∀ s ∈ rest, Ok 1024 s) → 0 ≤ m → m < 9223372036854775808 → out.length ≤ 8 → rest.length + 2 < fl →
    (0 < (tk m rest).2.2 ∨ 8 < out.length + (tk m rest).1.length) ∧ lp (F_xReserve_b0 p0) fl (m, out, A.length, A ++ rest) = some (.inl ([], [], some 7)) ∨
    ¬ (0 < (tk m rest).2.2 ∨ 8 < out.length + (tk m rest).1.length) ∧ ∃ row o, lp (F_xReserve_b0 p0) fl (m, out, A.length, A ++ rest) = some (.inr (out ++ (tk m rest).1, row, o)) ∧ row.length = p0.length ∧ row.drop o = (tk m rest).2.1
  | rest, m, out, A, fl, hlen, hok, hm0, hm1, hout, hfl => by
    obtain ⟨fl, rfl⟩ : ∃ k, fl = k + 1 := ⟨fl - 1, by omega⟩
    by_cases hm : 0 < m
    · cases rest with
      | nil =>
        refine .inl ⟨.inl (by simpa [tk] using hm), lp_end ?_⟩
        unfold F_xReserve_b0
        dsimp only
        rw [decide_eq_true hm, ifb_1, decide_eq_true (by simp at hlen; omega : ((p0.length - A.length : Nat) : Int) = 0), Bool.true_or, ifb_1]
      | cons s tl =>
        have hs := hok s (by simp)
        have a1 := hs.lo; have a2 := hs.hi; have a3 := hs.one; have a4 := hs.fit
        have hln : p0.length - A.length = tl.length + 1 := by simp at hlen; omega
        by_cases h8 : out.length = 8
        · refine .inl ⟨?_, lp_end ?_⟩
          · rw [tk, if_neg (by omega)]
            split
            · right; simp; omega
            · right; simp; omega
          · unfold F_xReserve_b0
            dsimp only
            rw [decide_eq_true hm, ifb_1, decide_eq_true (by omega : (out.length : Int) = 8), Bool.or_true, ifb_1]
        · have hget : (A ++ s :: tl)[A.length]? = some s := by simp
          have hset : ∀ z, (A ++ s :: tl).set A.length z = A ++ z :: tl := fun z => by simp
          have hgz : ∀ z : Stx, (A ++ z :: tl)[A.length]? = some z := fun z => by simp
          have step : F_xReserve_b0 p0 (m, out, A.length, A ++ s :: tl) = some (.inl (m - (if s.Many < m then s.Many else m), out ++ [⟨s.From, (if s.Many < m then s.Many else m)⟩], (if s.Many - (if s.Many < m then s.Many else m) = 0 then A.length + 1 else A.length), A ++ ⟨s.From + (if s.Many < m then s.Many else m), s.Many - (if s.Many < m then s.Many else m)⟩ :: tl)) := by
            unfold F_xReserve_b0
            dsimp only
            rw [decide_eq_true hm, ifb_1, hln, decide_eq_false (by omega : ¬ ((tl.length + 1 : Nat) : Int) = 0), decide_eq_false (by omega : ¬ (out.length : Int) = 8), Bool.or_false, ifb_0]
            simp only [Int.toNat_zero, Nat.add_zero]
            have hb0 : Below (0 : Int) (tl.length + 1) := ⟨Int.le_refl _, by show 0 < _; omega⟩
            rw [grd_t hb0, ixb_n hget]
            have hn : 0 < (if s.Many < m then s.Many else m) ∧ (if s.Many < m then s.Many else m) ≤ s.Many ∧ (if s.Many < m then s.Many else m) ≤ m := by split <;> omega
            generalize (if s.Many < m then s.Many else m) = n at hn ⊢
            rw [grd_t ⟨by simp; omega, by simp; omega⟩, grd_t hb0, grd_t (belo (by simp)), grd_t hb0, hset, ixb_n (hgz _), wrapi (n := s.From + n) (by omega) (by omega), wrapi (n := s.Many - n) (by omega) (by omega), wrapi (n := m - n) (by omega) (by omega), ifb_dec]
            dsimp only
            by_cases hz : s.Many - n = 0
            · rw [if_pos hz, if_pos hz, grd_t ⟨by omega, by show 1 ≤ _; omega⟩, bnd_s]; rfl
            · rw [if_neg hz, if_neg hz, bnd_s]
          rw [lp_go step]
          by_cases hsm : s.Many < m
          · rw [if_pos hsm, if_pos (by omega : s.Many - s.Many = 0)]
            have ih := xres_lp (p0 := p0) (fl0 := fl0) hp0 tl (m - s.Many) (out ++ [⟨s.From, s.Many⟩]) (A ++ [⟨s.From + s.Many, s.Many - s.Many⟩]) fl (by simp; omega) (fun t ht => hok t (by simp [ht])) (by omega) (by omega) (by simp; omega) (by simp at hfl; omega)
            have eA : (A ++ [(⟨s.From + s.Many, s.Many - s.Many⟩ : Stx)]).length = A.length + 1 := by simp
            have eB : (A ++ [(⟨s.From + s.Many, s.Many - s.Many⟩ : Stx)]) ++ tl = A ++ ⟨s.From + s.Many, s.Many - s.Many⟩ :: tl := by simp
            have eO : (out ++ [(⟨s.From, s.Many⟩ : Stx)]).length = out.length + 1 := by simp
            rw [eA, eB, eO] at ih
            have et : tk m (s :: tl) = (⟨s.From, s.Many⟩ :: (tk (m - s.Many) tl).1, (tk (m - s.Many) tl).2) := by rw [tk, if_neg (by omega), if_neg (by omega)]
            rw [et]
            dsimp only
            rw [show out.length + (⟨s.From, s.Many⟩ :: (tk (m - s.Many) tl).1).length = out.length + 1 + (tk (m - s.Many) tl).1.length by simp; omega]
            rcases ih with ⟨h1, h2⟩ | ⟨h1, row, o, h2, h3, h4⟩
            · exact .inl ⟨h1, h2⟩
            · exact .inr ⟨h1, row, o, by rw [h2, List.append_assoc]; rfl, h3, h4⟩
          · rw [if_neg hsm]
            obtain ⟨fl, rfl⟩ : ∃ k, fl = k + 1 := ⟨fl - 1, by simp at hfl; omega⟩
            have hend : ∀ row o, F_xReserve_b0 p0 (m - m, out ++ [⟨s.From, m⟩], o, row) = some (.inr (.inr (out ++ [⟨s.From, m⟩], row, o))) := fun row o => by
              unfold F_xReserve_b0
              dsimp only
              rw [decide_eq_false (by omega), ifb_0]
            rw [lp_end (hend _ _)]
            by_cases he : m = s.Many
            · have et : tk m (s :: tl) = (⟨s.From, s.Many⟩ :: (tk 0 tl).1, (tk 0 tl).2) := by rw [tk, if_neg (by omega), if_neg (by omega), show m - s.Many = 0 by omega]
              rw [et, tk_zero tl (by omega)]
              refine .inr ⟨by simp; omega, _, _, by rw [he], by simp; omega, ?_⟩
              rw [if_pos (by omega)]
              simp
            · have et : tk m (s :: tl) = ([⟨s.From, m⟩], ⟨s.From + m, s.Many - m⟩ :: tl, 0) := by rw [tk, if_neg (by omega), if_pos (by omega)]
              rw [et]
              refine .inr ⟨by simp; omega, _, _, rfl, by simp; omega, ?_⟩
              rw [if_neg (by omega)]
              simp
    · have h0 : m = 0 := by omega
      subst h0
      rw [tk_zero rest (by omega)]
      refine .inr ⟨by simp; omega, A ++ rest, A.length, ?_, by simp; omega, by simp⟩
      rw [List.append_nil]
      refine lp_end ?_
      unfold F_xReserve_b0
      dsimp only
      rw [decide_eq_false (by omega), ifb_0]
termination_by rest => rest.length
theorem xReserve_eq {l : List Stx} {n : Int} {fl : Nat} (hl : l.length ≤ 4000) (hn : n < 9223372036854775808) (hf : 5000 < fl) : F_xReserve fl l n = some (resR l n) := by
  unfold F_xReserve resR
  rw [xcheck_eq (by omega) hf, bnd_s]
  by_cases h : Fine 1024 l
  · rw [if_pos h]
    show ifb false _ _ = _
    rw [ifb_0, sorted_eq (by omega), bnd_s, equalX_eq (by omega) (by rw [srt_len]; omega) hf, bnd_s]
    by_cases hs : l.Pairwise sfr
    · rw [decide_eq_true (sfr_unique (srt_perm l) h.dis (fun s k => (h.ok s k).one) hs (srt_sfr l)).symm, Bool.not_true, Bool.false_or, ifb_dec]
      by_cases h1 : n < 1
      · rw [if_pos h1, if_neg (by omega)]
      · rw [if_neg h1, if_pos ⟨h, hs, by omega⟩, grd_t ⟨by omega, by omega⟩]
        have := xres_lp (p0 := l) (fl0 := fl) hl l n [] [] fl (by simp) h.ok (by omega) hn (by simp) (by omega)
        simp only [List.length_nil, List.nil_append, Nat.zero_add] at this
        rcases this with ⟨h2, h3⟩ | ⟨h2, row, o, h3, h4, h5⟩
        · rw [h3, bnd_s, ocs_1, if_pos h2]
        · rw [h3, bnd_s, ocs_2, if_neg h2]
          dsimp only
          rw [grd_t h4.symm, h5]
          have hd : (tk n l).2.1.length ≤ 4000 := by rw [← h5, List.length_drop]; omega
          unfold oCloneX
          rw [grd_t ⟨⟨by omega, by omega⟩, by omega⟩, bnd_s]
    · rw [decide_eq_false (fun e => hs (by rw [e]; exact srt_sfr l)), Bool.not_false, Bool.true_or, ifb_1, if_neg (fun q => hs q.2.1)]
  · rw [if_neg h, if_neg (fun q => h q.1)]; rfl
theorem r16_fo : ∀ (l : List Stx) (m : Int) (out left : List Stx), (∀ s ∈ l, 1 ≤ s.Many) → 0 ≤ m → fo (fun (t : Int × List Stx × List Stx) (x : Stx) => (.inl (t.1 - (if x.Many < t.1 then x.Many else t.1), (if 0 < (if x.Many < t.1 then x.Many else t.1) then t.2.1 ++ [⟨x.From, (if x.Many < t.1 then x.Many else t.1)⟩] else t.2.1), (if (if x.Many < t.1 then x.Many else t.1) < x.Many then t.2.2 ++ [⟨x.From + (if x.Many < t.1 then x.Many else t.1), x.Many - (if x.Many < t.1 then x.Many else t.1)⟩] else t.2.2)) : (Int × List Stx × List Stx) ⊕ (Int × List Stx × List Stx))) (fun t => t) (m, out, left) l = ((tk m l).2.2, out ++ (tk m l).1, left ++ (tk m l).2.1)
  | [], m, out, left, _, h => by simp [fo, tk]
  | s :: l, m, out, left, hm, h => by
    have h1 := hm s (by simp)
    have hm' : ∀ s ∈ l, 1 ≤ s.Many := fun s hs => hm s (by simp [hs])
    rw [fo_l rfl]
    by_cases h0 : m ≤ 0
    · have : m = 0 := by omega
      subst this
      dsimp only
      rw [if_neg (by omega : ¬ s.Many < 0), if_neg (by omega), if_pos (by omega), show (0 : Int) - 0 = 0 by omega, r16_fo l 0 out _ hm' (by omega), tk_zero l (by omega), tk_zero (s :: l) (by omega)]
      simp
    · by_cases h2 : m < s.Many
      · dsimp only
        rw [if_neg (by omega : ¬ s.Many < m), if_pos (by omega), if_pos h2, show m - m = 0 by omega, r16_fo l 0 _ _ hm' (by omega), tk_zero l (by omega), tk, if_neg h0, if_pos h2]
        simp
      · have e : (if s.Many < m then s.Many else m) = s.Many := by split <;> omega
        dsimp only
        rw [e, if_pos (by omega), if_neg (by omega), r16_fo l _ _ _ hm' (by omega), tk, if_neg h0, if_neg h2]
        simp
theorem tk_len2 : ∀ (l : List Stx) (m : Int), (tk m l).1.length + (tk m l).2.1.length ≤ l.length + 1
  | [], m => by simp [tk]
  | s :: l, m => by
    have := tk_len2 l (m - s.Many)
    rw [tk]
    split
    · simp
    · split <;> simp <;> omega
theorem sorted_any : ∀ (l : List Stx), (l.Pairwise sfr ↔ ∀ i : Nat, ∀ a b, l[i]? = some a → l[i + 1]? = some b → a.From ≤ b.From)
  | [] => by simp
  | [x] => by
    constructor
    · intro _ i a b h1 h2
      have := (List.getElem?_eq_some_iff.1 h2).1
      simp at this
    · intro _; simp
  | x :: y :: l => by
    have ih := sorted_any (y :: l)
    rw [List.pairwise_cons, ih]
    constructor
    · rintro ⟨h1, h2⟩ i a b ha hb
      cases i with
      | zero => simp at ha hb; subst ha; subst hb; exact h1 y (by simp)
      | succ i => exact h2 i a b (by simpa using ha) (by simpa using hb)
    · intro h
      have h2 : ∀ (i : Nat) (a b : Stx), (y :: l)[i]? = some a → (y :: l)[i + 1]? = some b → a.From ≤ b.From := fun i a b ha hb => h (i + 1) a b (by simpa using ha) (by simpa using hb)
      refine ⟨fun z hz => ?_, h2⟩
      have hxy : x.From ≤ y.From := h 0 x y (by simp) (by simp)
      rcases List.mem_cons.1 hz with rfl | hz
      · exact hxy
      · have := (List.pairwise_cons.1 (ih.2 h2)).1 z hz
        unfold sfr at *; omega
theorem r16Reserve_eq {l : List Stx} {n : Int} {fl : Nat} (hl : l.length ≤ 4000) (hn : n < 9223372036854775808) (hf : 5000 < fl) : F_r16Reserve fl l n = some ((resR l n).1, (resR l n).2.1, Er.numV (resR l n).2.2) := by
  unfold F_r16Reserve resR
  rw [may16_eq (by omega) hf, bnd_s]
  by_cases h : Fine 1024 l ∧ 1 ≤ n
  · rw [decide_eq_true h.1, Bool.not_true, Bool.false_or, decide_eq_false (by omega : ¬ n < 1), ifb_0]
    obtain ⟨o, h1, h2⟩ := lp_inv (body := F_r16Reserve_b0 l) (fun i (_ : Unit) => ((i + 1 : Nat) : Int)) (fun i _ => ∀ k, k < i → ∀ a b, l[k]? = some a → l[k + 1]? = some b → a.From ≤ b.From) (fun o => (o = .inl ([], [], 1) ∧ ¬ l.Pairwise sfr) ∨ (o = .inr () ∧ l.Pairwise sfr)) (n := l.length - 1) (fl := fl) (s0 := ()) (fun k hk => by omega)
      (fun i _ hi hI => by
        have hx := List.getElem?_eq_getElem (l := l) (i := i + 1) (by omega)
        have hy := List.getElem?_eq_getElem (l := l) (i := i) (by omega)
        generalize l[i + 1] = x at hx
        generalize l[i] = y at hy
        unfold F_r16Reserve_b0
        rw [dec_lt (by omega), ifb_1, ixb_n hx, show IntKind.i64.wrap (((i + 1 : Nat) : Int) - 1) = (i : Int) by rw [wrapi (by omega) (by omega)]; omega, ixb_n hy, ifb_dec, nat_wrap (by omega)]
        by_cases hc : x.From < y.From
        · rw [if_pos hc]
          exact .inr ⟨_, rfl, .inl ⟨rfl, fun hs => by have := (sorted_any l).1 hs i y x hy hx; omega⟩⟩
        · rw [if_neg hc]
          refine .inl ⟨(), rfl, fun k hk a b ha hb => ?_⟩
          by_cases hki : k < i
          · exact hI k hki a b ha hb
          · have : k = i := by omega
            subst this
            rw [hy] at ha; rw [hx] at hb
            cases ha; cases hb; omega)
      (fun _ hI => ⟨.inr (), by unfold F_r16Reserve_b0; rw [decide_eq_false (by omega : ¬ ((l.length - 1 + 1 : Nat) : Int) < (l.length : Int)), ifb_0], .inr ⟨rfl, (sorted_any l).2 fun i a b ha hb => hI i (by have := (List.getElem?_eq_some_iff.1 hb).1; omega) a b ha hb⟩⟩) (by omega)
    have h1' : lp (F_r16Reserve_b0 l) fl 1 = some o := h1
    rw [h1', bnd_s]
    rcases h2 with ⟨rfl, h3⟩ | ⟨rfl, h3⟩
    · rw [ocs_1, if_neg (fun q => h3 q.2.1)]; rfl
    · rw [ocs_2, if_pos ⟨h.1, h3, h.2⟩]
      have hloop := lp_fo (l := l) (body := F_r16Reserve_b1 l) (fun i (t : Int × List Stx × List Stx) => (t.1, t.2.1, t.2.2, (i : Int))) (fun (t : Int × List Stx × List Stx) (x : Stx) => (.inl (t.1 - (if x.Many < t.1 then x.Many else t.1), (if 0 < (if x.Many < t.1 then x.Many else t.1) then t.2.1 ++ [⟨x.From, (if x.Many < t.1 then x.Many else t.1)⟩] else t.2.1), (if (if x.Many < t.1 then x.Many else t.1) < x.Many then t.2.2 ++ [⟨x.From + (if x.Many < t.1 then x.Many else t.1), x.Many - (if x.Many < t.1 then x.Many else t.1)⟩] else t.2.2)) : (Int × List Stx × List Stx) ⊕ (Int × List Stx × List Stx))) (fun t => t) (fun i t => 0 ≤ t.1 ∧ t.1 ≤ n ∧ t.2.1.length ≤ i ∧ t.2.2.length ≤ i) (fl := fl) (s0 := (n, [], [])) ⟨by show 0 ≤ n; omega, Int.le_refl _, by simp, by simp⟩
        (fun i x t hx hI => by
          have hi := (List.getElem?_eq_some_iff.1 hx).1
          have hm := fine_mem h.1 (List.mem_of_getElem? hx)
          obtain ⟨q1, q2, q3, q4⟩ := hI
          have hk : 0 ≤ (if x.Many < t.1 then x.Many else t.1) ∧ (if x.Many < t.1 then x.Many else t.1) ≤ x.Many ∧ (if x.Many < t.1 then x.Many else t.1) ≤ t.1 := by split <;> omega
          refine .inl ⟨_, rfl, ?_, ?_⟩
          · unfold F_r16Reserve_b1
            dsimp only
            rw [dec_lt hi, ifb_1, ixb_n hx]
            generalize (if x.Many < t.1 then x.Many else t.1) = k at hk
            rw [ifb_dec, ifb_dec, wrapi (n := x.From + k) (by omega) (by omega), wrapi (n := x.Many - k) (by omega) (by omega), wrapi (n := t.1 - k) (by omega) (by omega), nat_wrap (by omega), grd_t ⟨by simp; omega, by simp; omega⟩, grd_t ⟨by simp; omega, by simp; omega⟩]
            by_cases c1 : 0 < k <;> by_cases c2 : k < x.Many <;> simp [c1, c2]
          · dsimp only
            generalize (if x.Many < t.1 then x.Many else t.1) = k at hk
            refine ⟨by omega, by omega, ?_, ?_⟩
            · split
              · simp; omega
              · omega
            · split
              · simp; omega
              · omega)
        (fun t _ => by unfold F_r16Reserve_b1; dsimp only; rw [dec_ge, ifb_0]) (by omega)
      have hl1 : lp (F_r16Reserve_b1 l) fl (n, [], [], 0) = _ := hloop
      rw [hl1, r16_fo l n [] [] (fun s hs => (h.1.ok s hs).one) (by omega), bnd_s]
      dsimp only
      rw [List.nil_append, List.nil_append]
      by_cases hq : 0 < (tk n l).2.2 ∨ 8 < (tk n l).1.length
      · rw [if_pos hq, show (decide (0 < (tk n l).2.2) || decide (8 < ((tk n l).1.length : Int))) = true by simp; omega, ifb_1]; rfl
      · rw [if_neg hq, show (decide (0 < (tk n l).2.2) || decide (8 < ((tk n l).1.length : Int))) = false by simp; omega, ifb_0]; rfl
  · rw [show (!decide (Fine 1024 l) || decide (n < 1)) = true by
      by_cases h2 : Fine 1024 l
      · rw [decide_eq_true h2]; simp; have : ¬ 1 ≤ n := fun q => h ⟨h2, q⟩; omega
      · rw [decide_eq_false h2]; rfl]
    rw [ifb_1, if_neg (fun q => h ⟨q.1, q.2.2⟩)]; rfl
end Go.Proofs.YtjbgddpaclcjfaaDoor.Eng.A

/- Stretches: the laws. -/
namespace Go.Proofs.YtjbgddpaclcjfaaDoor.Eng.A
set_option linter.unusedVariables false
set_option linter.unusedSimpArgs false
open Go.RowKit Go.Proofs.YtjbgddpaclcjfaaDoor.Plain Go.Proofs.YtjbgddpaclcjfaaDoor.Eng Go.Proofs.YtjbgddpaclcjfaaDoor.Eng.Ha

theorem gif_t {A : Type} [Inhabited A] (o : Option A) : gif true o = o := rfl
theorem beq_tt : (true == true) = true := rfl
theorem beq_ff : (false == false) = true := rfl
theorem give16_all {l : List Stx} {fl : Nat} (hl : l.length * 16 ≤ 140737488355328) (hf : l.length < fl) : F_give16 fl l = some l := by
  have h := lp_fo (l := l) (body := F_give16_b0 l) (fun i s => (s, (i : Int))) (fun s x => .inl (s ++ [x])) (fun s => s) (fun i s => s.length = i) (fl := fl) (s0 := []) rfl
    (fun i x s hx hI => by
      have hi := (List.getElem?_eq_some_iff.1 hx).1
      refine .inl ⟨_, rfl, ?_, by simp [hI]⟩
      unfold F_give16_b0
      dsimp only
      rw [dec_lt hi, ifb_1, ixb_n hx, grd_t ⟨by simp [hI]; omega, by simp [hI]; omega⟩, nat_wrap (by omega)])
    (fun s hI => by unfold F_give16_b0; dsimp only; rw [dec_ge, ifb_0]) hf
  unfold F_give16
  rw [show (([] : List Stx), (0 : Int)) = (([] : List Stx), ((0 : Nat) : Int)) from rfl, h, bnd_s, fo_all, foldl_snoc]; rfl
theorem xcheck_all {l : List Stx} {pg : Int} {fl : Nat} (hf : 5000 < fl) : F_xcheck fl l pg = some (if Fine pg l then none else some 1) := by
  by_cases hl : l.length ≤ 5000
  · exact xcheck_eq hl hf
  · rw [if_neg (fun h => by have := fine_tot h; have := h.p2; omega)]
    unfold F_xcheck
    rw [show ((decide (pg < 1) || decide (1024 < pg)) || decide (pg < (l.length : Int))) = true by simp; omega, ifb_1]
theorem xMany_all {l : List Stx} {fl : Nat} (hf : 5000 < fl) : F_xMany fl l = some (if Fine 1024 l then tot l else 0) := by
  by_cases hl : l.length ≤ 5000
  · exact xMany_eq hl hf
  · have hn : ¬ Fine 1024 l := fun h => by have := fine_tot h; omega
    unfold F_xMany
    rw [xcheck_all hf, if_neg hn, if_neg hn, bnd_s]; rfl

/-! ### What must come -/
def L0 : List Stx := [⟨0, 3⟩, ⟨5, 5⟩]
theorem L0_fine {pg : Int} (h1 : 10 ≤ pg) (h2 : pg ≤ 1024) : Fine pg L0 := ⟨by omega, h2, fun s hs => by
  simp only [L0, List.mem_cons, List.not_mem_nil, or_false] at hs
  rcases hs with rfl | rfl
  · exact ⟨by decide, by show (0 : Int) < pg; omega, by decide, by show (3 : Int) ≤ pg - 0; omega⟩
  · exact ⟨by decide, by show (5 : Int) < pg; omega, by decide, by show (5 : Int) ≤ pg - 5; omega⟩, by
  simp [L0, Dis]⟩
theorem L0_sfr : L0.Pairwise sfr := by simp [L0, sfr]
theorem L0_srt : srt L0 = L0 := sfr_unique (srt_perm L0) (L0_fine (pg := 1024) (by decide) (by decide)).dis (fun s k => ((L0_fine (pg := 1024) (by decide) (by decide)).ok s k).one) L0_sfr (srt_sfr L0)
theorem L0_F : Fine 1024 L0 := L0_fine (by decide) (by decide)
theorem L0_res : resR L0 4 = ([⟨0, 3⟩, ⟨5, 1⟩], [⟨6, 4⟩], none) := by
  unfold resR
  rw [if_pos ⟨L0_F, L0_sfr, by decide⟩, if_neg (by decide)]; rfl
theorem L0_p3 : pageR L0 3 = (5, none) := by unfold pageR; rw [if_pos L0_F, if_neg (by decide)]; rfl
theorem L0_p8 : pageR L0 8 = (0, some 2) := by unfold pageR; rw [if_pos L0_F, if_neg (by decide)]; rfl
theorem L0_n6 : numR L0 6 = (4, none) := by unfold numR; rw [if_pos L0_F]; rfl
theorem L0_free : freeR L0 12 = ([⟨3, 2⟩, ⟨10, 2⟩], none) := by
  unfold freeR
  rw [if_pos (L0_fine (by decide) (by decide)), L0_srt]; rfl
theorem sure16_eq {fl : Nat} (hf : 5000 < fl) : F_sure16 fl = some true := by
  unfold F_sure16
  have hl : L0.length ≤ 4000 := by decide
  rw [show ([(⟨0, 3⟩ : Stx), (⟨5, 5⟩ : Stx)] : (List Stx)) = L0 from rfl, xReserve_eq hl (by decide) hf, bnd_s, xPage_eq (by omega) (by decide) hf, bnd_s, xNumber_eq (by omega) hf, bnd_s, xPage_eq (by omega) (by decide) hf, bnd_s, xFree_eq hl hf, bnd_s, L0_res, L0_p3, L0_p8, L0_n6, L0_free, xMany_all hf, if_pos L0_F]
  decide

/-! ### ExtentTells -/
theorem isNone_if {p : Prop} [Decidable p] : (if p then (none : Option Int) else some 1).isNone = decide p := by by_cases h : p <;> simp [h]
theorem lTells_eq {l : List Stx} {p1 p2 : Int} {fl : Nat} (h2 : p2 < 9223372036854775808) (hf : 5000 < fl) : F_lExtentTells fl l p1 p2 = some true := by
  unfold F_lExtentTells
  by_cases h6 : 60 < l.length
  · rw [decide_eq_true (by omega), ifb_1, sure16_eq hf, bnd_s]
  · have hl : l.length ≤ 4000 := by omega
    rw [decide_eq_false (by omega), ifb_0, give16_eq (by omega) hf, bnd_s, xPage_eq (by omega) h2 hf, bnd_s, page16_eq (by omega) hf, bnd_s, xNumber_eq (by omega) hf, bnd_s, number16_eq (by omega) hf, bnd_s, xFree_eq hl hf, bnd_s, free16_eq hl hf, bnd_s, xReserve_eq hl h2 hf, bnd_s, r16Reserve_eq hl h2 hf, bnd_s, xcheck_all hf, bnd_s, may16_eq (by omega) hf, bnd_s, xMany_all hf, pages16_eq (by omega) hf, sure16_eq hf]
    have hfl : (freeR l p1).1.length ≤ 5000 := by
      unfold freeR
      by_cases hF : Fine p1 l
      · rw [if_pos hF]
        have := gaps_len (srt l ++ [⟨p1, 0⟩]) 0
        rw [List.length_append, srt_len] at this
        simp at this ⊢; omega
      · rw [if_neg hF]; simp
    have hr : (resR l p2).1.length ≤ 5000 ∧ (resR l p2).2.1.length ≤ 5000 := by
      have := tk_len2 l p2
      unfold resR
      split
      · split
        · simp
        · dsimp only; omega
      · simp
    have htot : (if Fine 1024 l then tot l else 0) = ((if Fine 1024 l then pgs l else []).length : Int) := by
      by_cases hF : Fine 1024 l
      · rw [if_pos hF, if_pos hF, pgs_len fun s hs => by have := fine_mem hF hs; omega]
      · rw [if_neg hF, if_neg hF]; rfl
    rw [isNone_if]
    have e1 : ∀ b : Bool, (b != b) = false := fun b => by cases b <;> rfl
    have e2 : (if Fine p1 l then (none : Option Int) else some 1).isSome = !decide (Fine p1 l) := by by_cases h : Fine p1 l <;> simp [h]
    have e3 : oNum16 (if Fine p1 l then (none : Option Int) else some 1) = some (if Fine p1 l then 0 else 1) := by by_cases h : Fine p1 l <;> simp [h, oNum16, Er.numV]
    rw [e1, e2, e3]
    have hx13 : gif ((false == false) && ((!decide (Fine p1 l)) == true)) (some (if Fine p1 l then (0 : Int) else 1)) = some (if Fine p1 l then default else 1) := by by_cases h : Fine p1 l <;> simp [h, gif]
    rw [hx13, bnd_s]
    have hx14 : (false || ((!decide (Fine p1 l)) && decide ((if Fine p1 l then (default : Int) else 1) ≠ 1))) = false := by by_cases h : Fine p1 l <;> simp [h]
    rw [hx14, beq_ff, gif_t, bnd_s, gif_t, bnd_s, decide_eq_false (by rw [htot]; simp), Bool.or_false, ifb_0]
    simp only [decide_true, Bool.and_true, Bool.true_and, beq_tt, gif_t, oNum16, bnd_s, are16_eq hfl hfl hf, are16_eq hr.1 hr.1 hf, are16_eq hr.2 hr.2 hf, are16_eq (a := l) (b := l) (by omega) (by omega) hf]
end Go.Proofs.YtjbgddpaclcjfaaDoor.Eng.A

/- Stretches: numbers and pages come back; what is free, and what is reserved. -/
namespace Go.Proofs.YtjbgddpaclcjfaaDoor.Eng.A
set_option linter.unusedVariables false
set_option linter.unusedSimpArgs false
open Go.RowKit Go.Proofs.YtjbgddpaclcjfaaDoor.Plain Go.Proofs.YtjbgddpaclcjfaaDoor.Eng Go.Proofs.YtjbgddpaclcjfaaDoor.Eng.Ha

theorem Fine.up {pg pg' : Int} {l : List Stx} (h : Fine pg l) (h1 : pg ≤ pg') (h2 : pg' ≤ 1024) : Fine pg' l :=
  ⟨by have := h.p1; omega, h2, fun s hs => by
    have k := h.ok s hs
    exact ⟨k.lo, by have := k.hi; omega, k.one, by have := k.fit; omega⟩, h.dis⟩
theorem tk_rest : ∀ (l : List Stx) (m : Int), 0 < (tk m l).2.2 → (tk m l).2.1 = []
  | [], m, _ => rfl
  | s :: l, m, h => by
    rw [tk] at h ⊢
    split at h
    · simp only at h; omega
    · rename_i hm
      rw [if_neg hm]
      split at h
      · simp only at h; omega
      · rename_i h2
        rw [if_neg h2]
        exact tk_rest l _ h
theorem pageR_at {l : List Stx} (h : Fine 1024 l) {i : Nat} (hi : (i : Int) < tot l) : ∃ p, (pgs l)[i]? = some p ∧ pageR l (i : Int) = (p, none) ∧ numR l p = ((i : Int), none) ∧ ∃ s ∈ l, cov s p := by
  have hm : ∀ s ∈ l, 0 ≤ s.Many := fun s hs => by have := fine_mem h hs; omega
  have hlen := pgs_len hm
  have hx : (pgs l)[i]? = some ((pgs l)[i]'(by omega)) := List.getElem?_eq_getElem (by omega)
  generalize (pgs l)[i]'(by omega) = p at hx
  refine ⟨p, hx, ?_, ?_, (mem_pgs hm).1 (List.mem_of_getElem? hx)⟩
  · unfold pageR
    rw [if_pos h, if_neg (by omega), Int.toNat_natCast, hx]
  · unfold numR
    rw [if_pos h, idx_of hm h.dis hx]
theorem tmod_lt {a n : Int} (ha : 0 ≤ a) (hn : 0 < n) : 0 ≤ a.tmod n ∧ a.tmod n < n := ⟨Int.tmod_nonneg _ ha, Int.tmod_lt_of_pos _ hn⟩
theorem lBack_eq {l : List Stx} {p1 p2 : Int} {fl : Nat} (hl16 : l.length * 16 ≤ 140737488355328) (h1 : 0 ≤ p1 ∧ p1 < 256) (h2 : 0 ≤ p2 ∧ p2 < 65536) (hf : 5000 < fl) (hf2 : l.length < fl) : F_lExtentBack fl l p1 p2 = some true := by
  unfold F_lExtentBack
  rw [wrapi (n := p1) (by omega) (by omega), wrapi (n := p2) (by omega) (by omega), wrapi (n := 1 + p1) (by omega) (by omega), give16_all hl16 hf2, bnd_s]
  obtain ⟨pg, hpg⟩ : ∃ pg, pg = 1 + p1 := ⟨_, rfl⟩
  rw [← hpg, xcheck_all hf, sure16_eq hf]
  by_cases h6 : 60 < l.length
  · rw [decide_eq_true (by omega)]; rfl
  rw [decide_eq_false (by omega), beq_ff, gif_t, bnd_s, Bool.false_or]
  by_cases hF : Fine pg l
  rotate_left
  · rw [if_neg hF]; rfl
  rw [if_pos hF]
  show ifb false _ _ = _
  rw [ifb_0, xMany_all hf, bnd_s]
  have hF1 : Fine 1024 l := hF.up (by omega) (by omega)
  rw [if_pos hF1]
  have ht := fine_tot hF
  have hml : ∀ s ∈ l, 0 ≤ s.Many := fun s hs => by have := fine_mem hF hs; omega
  have htn := tot_nn hml
  have hloop := lp_seq (body := F_lExtentBack_b0 fl p1 l (tot l)) (o := .inr ()) (fl := fl) (fun i => (i : Int)) (n := (tot l).toNat) (fun i hi => by
    obtain ⟨p, e1, e2, e3, s, hs, hc⟩ := pageR_at hF1 (i := i) (by omega)
    unfold F_lExtentBack_b0
    rw [decide_eq_true (by omega : (i : Int) < tot l), decide_eq_true (by omega : (i : Int) < 300), wrapi (n := p1) (by omega) (by omega), wrapi (n := 1 + p1) (by omega) (by omega), ← hpg, xPage_eq (by omega) (by omega) hf, bnd_s, e2, xNumber_eq (by omega) hf, bnd_s, e3]
    have hsm := fine_mem hF hs
    unfold cov at hc
    dsimp only
    rw [decide_eq_false (by simp), decide_eq_false (by omega : ¬ p < 0), decide_eq_false (by omega : ¬ pg ≤ p), nat_wrap (by omega)]; rfl) (by
    unfold F_lExtentBack_b0
    rw [decide_eq_false (by omega : ¬ (((tot l).toNat : Nat) : Int) < tot l), Bool.false_and, ifb_0]) (by omega)
  have hloop' : lp (F_lExtentBack_b0 fl p1 l (tot l)) fl 0 = some (.inr ()) := hloop
  rw [hloop', bnd_s, ocs_2, xFree_eq (by omega) hf, bnd_s]
  unfold freeR
  rw [if_pos hF]
  obtain ⟨g1, g2, g3, g4⟩ := gaps_fine hF (srt_perm l) (srt_sfr l)
  have hgl := gaps_len (srt l ++ [⟨pg, 0⟩]) 0
  rw [List.length_append, srt_len, List.length_singleton] at hgl
  generalize gaps 0 (srt l ++ [⟨pg, 0⟩]) = G at *
  have hG1 : Fine 1024 G := g1.up (by omega) (by omega)
  have hGm : ∀ s ∈ G, 1 ≤ s.Many := fun s hs => (g1.ok s hs).one
  dsimp only
  show ifb false _ _ = _
  rw [ifb_0, grd_t ⟨by simp; omega, by simp; omega⟩, grd_t ⟨by omega, by omega⟩, xcheck_all hf, if_pos g3, bnd_s]
  have htG := fine_tot g1
  have htGn := tot_nn (l := G) fun s hs => by have := hGm s hs; omega
  show bnd (gif true (F_xMany fl G)) _ = _
  rw [gif_t, xMany_all hf, if_pos hG1, bnd_s, wrapi (n := tot G + tot l) (by omega) (by omega), g4, decide_eq_false (by simp)]
  show ifb false _ _ = _
  rw [ifb_0, wrapi (n := pg + 1) (by omega) (by omega), grd_t (by omega)]
  have hmod := tmod_lt (a := p2) (n := pg + 1) h2.1 (by omega)
  rw [wrapi (n := 1 + p2.tmod (pg + 1)) (by omega) (by omega)]
  obtain ⟨want, hw⟩ : ∃ w, w = 1 + p2.tmod (pg + 1) := ⟨_, rfl⟩
  rw [← hw, xReserve_eq (by omega) (by omega) hf, bnd_s]
  unfold resR
  rw [if_pos ⟨hG1, asc_sorted (fun s hs => by have := hGm s hs; omega) 0 g2, by omega⟩]
  obtain ⟨t1, t2, t3⟩ := tk_many (l := G) (m := want) (by omega) hGm
  have tl := tk_len (l := G) (m := want)
  have tl2 := tk_len2 G want
  by_cases hfull : 0 < (tk want G).2.2 ∨ 8 < (tk want G).1.length
  · rw [if_pos hfull]
    show ifb true _ _ = _
    rw [ifb_1]
    show bnd (some 7) _ = _
    rw [bnd_s]
    show bnd (gif true _) _ = _
    rw [gif_t, bnd_s]
    have : (decide (tot G < want) || decide (8 < (G.length : Int))) = true := by
      rcases hfull with h | h
      · have := tk_rest G want h
        rw [this] at t3
        simp only [tot] at t3
        simp; omega
      · simp; omega
    rw [this]; rfl
  · rw [if_neg hfull]
    obtain ⟨k1, k2⟩ := tk_ok (l := G) (m := want) (n := 0) (by omega) g1.ok g2
    generalize hA : (tk want G).1 = a at *
    generalize hB : (tk want G).2.1 = b at *
    have hr0 : (tk want G).2.2 = 0 := by omega
    rw [hr0] at t2
    have hab : Fine pg (a ++ b) := ⟨by omega, by omega, k1, asc_dis (fun s hs => by have := (k1 s hs).one; omega) 0 k2⟩
    have hpd := List.pairwise_append.1 hab.dis
    have hFa : Fine 1024 a := Fine.up (pg := pg) ⟨by omega, by omega, fun s hs => k1 s (by simp [hs]), hpd.1⟩ (by omega) (by omega)
    have hFb : Fine 1024 b := Fine.up (pg := pg) ⟨by omega, by omega, fun s hs => k1 s (by simp [hs]), hpd.2.1⟩ (by omega) (by omega)
    show ifb false _ _ = _
    rw [ifb_0, xMany_all hf, if_pos hFa, bnd_s, show tot a = want by omega, decide_eq_true rfl]
    show bnd (gif true _) _ = _
    rw [gif_t, xMany_all hf, if_pos hFb, bnd_s]
    show bnd (gif true _) _ = _
    rw [gif_t, bnd_s, wrapi (n := tot G - want) (by omega) (by omega), decide_eq_true (by omega : tot b = tot G - want), decide_eq_true (by omega : (a.length : Int) ≤ 8)]
    show ifb true _ _ = _
    rw [ifb_1, grd_t ⟨by simp; omega, by simp; omega⟩, grd_t ⟨by omega, by omega⟩, xcheck_all hf, if_pos hab]; rfl
theorem lApart_eq {l : List Stx} {p1 p2 : Int} {fl : Nat} (hl16 : l.length * 16 ≤ 140737488355328) (h1 : 0 ≤ p1 ∧ p1 < 256) (h2 : 0 ≤ p2 ∧ p2 < 256) (hf : 5000 < fl) (hf2 : l.length < fl) : F_lExtentApart fl l p1 p2 = some true := by
  unfold F_lExtentApart
  rw [give16_all hl16 hf2, bnd_s, xMany_all hf, bnd_s, xcheck_all hf, sure16_eq hf, wrapi (n := p1) (by omega) (by omega), wrapi (n := p2) (by omega) (by omega)]
  by_cases h6 : 60 < l.length
  · rw [decide_eq_true (by omega)]; rfl
  rw [decide_eq_false (by omega), beq_ff, gif_t, bnd_s, Bool.false_or]
  by_cases hF : Fine 1024 l
  rotate_left
  · rw [if_neg hF, if_neg hF]; rfl
  rw [if_pos hF, if_pos hF]
  have hml : ∀ s ∈ l, 0 ≤ s.Many := fun s hs => by have := fine_mem hF hs; omega
  have htn := tot_nn hml
  by_cases h0 : tot l = 0
  · rw [decide_eq_true h0]; rfl
  rw [decide_eq_false h0]
  show ifb false _ _ = _
  rw [ifb_0, grd_t h0, grd_t h0]
  have m1 := tmod_lt (a := p1) (n := tot l) h1.1 (by omega)
  have m2 := tmod_lt (a := p2) (n := tot l) h2.1 (by omega)
  obtain ⟨i, hi⟩ : ∃ i : Nat, p1.tmod (tot l) = (i : Int) := ⟨(p1.tmod (tot l)).toNat, by omega⟩
  obtain ⟨k, hk⟩ : ∃ k : Nat, p2.tmod (tot l) = (k : Int) := ⟨(p2.tmod (tot l)).toNat, by omega⟩
  have htt := fine_tot hF
  rw [hi, hk, xPage_eq (by omega) (by omega) hf, bnd_s, xPage_eq (by omega) (by omega) hf, bnd_s]
  obtain ⟨p, e1, e2, _, _⟩ := pageR_at hF (i := i) (by omega)
  obtain ⟨q, e3, e4, _, _⟩ := pageR_at hF (i := k) (by omega)
  rw [e2, e4]
  have hpq : decide (p = q) = decide ((i : Int) = (k : Int)) := by
    rw [Bool.eq_iff_iff, decide_eq_true_iff, decide_eq_true_iff]
    constructor
    · rintro rfl
      have a1 := idx_of hml hF.dis e1
      have a2 := idx_of hml hF.dis e3
      rw [a1] at a2
      exact Option.some.inj a2
    · intro h
      have : i = k := by omega
      subst this
      rw [e1] at e3
      exact Option.some.inj e3
  dsimp only
  rw [hpq]
  have hbb : ∀ b : Bool, (b != b) = false := fun b => by cases b <;> rfl
  rw [hbb]
  show ifb false _ _ = _
  rw [ifb_0]
  have hloop := lp_fo (l := l) (body := F_lExtentApart_b0 l p1) (fun i (s : Bool) => (s, (i : Int))) (fun (s : Bool) (x : Stx) => (.inl (s || decide (cov x p1)) : Bool ⊕ Bool)) (fun s => s) (fun _ _ => True) (fl := fl) (s0 := false) trivial
    (fun i x s hx _ => by
      have hi := (List.getElem?_eq_some_iff.1 hx).1
      have hm := fine_mem hF (List.mem_of_getElem? hx)
      refine .inl ⟨_, rfl, ?_, trivial⟩
      unfold F_lExtentApart_b0
      dsimp only
      rw [dec_lt hi, ifb_1, grd_t (fun _ => belo hi), grd_t (fun _ => belo hi), grd_t (fun _ => belo hi), getD_n hx, nat_wrap (by omega), wrapi (n := p1) (by omega) (by omega), wrapi (n := x.From + x.Many) (by omega) (by omega)]
      have : (decide (x.From ≤ p1) && decide (p1 < x.From + x.Many)) = decide (cov x p1) := by
        rw [Bool.eq_iff_iff, Bool.and_eq_true, decide_eq_true_iff, decide_eq_true_iff, decide_eq_true_iff]; rfl
      rw [this])
    (fun s _ => by unfold F_lExtentApart_b0; dsimp only; rw [dec_ge, ifb_0]) (by omega)
  have hloop' : lp (F_lExtentApart_b0 l p1) fl (false, 0) = _ := hloop
  rw [hloop', bnd_s, xNumber_eq (by omega) hf, bnd_s, fo_all]
  have hany : ∀ (l : List Stx) (b : Bool), l.foldl (fun s x => s || decide (cov x p1)) b = (b || (idx l p1).isSome) := fun l => by
    induction l with
    | nil => intro b; simp [idx]
    | cons x l ih =>
      intro b
      rw [List.foldl_cons, ih, idx]
      by_cases h : cov x p1
      · rw [decide_eq_true h, if_pos h]; simp
      · rw [decide_eq_false h, if_neg h]; cases idx l p1 <;> simp
  rw [hany, Bool.false_or]
  unfold numR
  rw [if_pos hF]
  cases idx l p1 <;> rfl
end Go.Proofs.YtjbgddpaclcjfaaDoor.Eng.A
