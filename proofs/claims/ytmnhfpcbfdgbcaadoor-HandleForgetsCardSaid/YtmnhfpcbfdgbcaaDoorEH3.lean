/- Loops in plain Lean: what the laws share. -/
import Derived.Test.YtmnhfpcbfdgbcaaDoorEngX4
import Derived.Test.YtmnhfpcbfdgbcaaDoorEH2
import Derived.Test.YtmnhfpcbfdgbcaaDoorEX7
namespace Go.Proofs.YtmnhfpcbfdgbcaaDoor.Eng.A
set_option linter.unusedVariables false
set_option linter.unusedSimpArgs false
open Go.RowKit Go.Proofs.YtmnhfpcbfdgbcaaDoor.Eng

theorem lp_find {A : Type} {V : Type} {l : List A} {body : Int → Option (Int ⊕ (V ⊕ Unit))} (p : A → Bool) (v : Nat → V) {fl : Nat}
    (hb : ∀ (i : Nat) (x : A), l[i]? = some x → body (i : Int) = ifb (p x) (some (.inr (.inl (v i)))) (some (.inl ((i + 1 : Nat) : Int)))) (he : body (l.length : Int) = some (.inr (.inr ()))) (hf : l.length < fl) :
    (l.any p = false ∧ lp body fl 0 = some (.inr ())) ∨ (l.any p = true ∧ ∃ i, lp body fl 0 = some (.inl (v i))) := by
  have hn : ∀ (i : Nat) (x : A), l[i]? = some x → p x = false → body (i : Int) = some (.inl ((i + 1 : Nat) : Int)) := fun i x hx hp => by rw [hb i x hx, hp, ifb_0]
  cases ha : l.any p with
  | false => exact .inl ⟨rfl, lp_none (body := body) (fun i => ((i : Nat) : Int)) p ha hn he hf⟩
  | true =>
    obtain ⟨i, x, _, _, h3⟩ := lp_hit (body := body) (fun i => ((i : Nat) : Int)) p (fun i _ => Sum.inl (v i)) ha hn (fun i x hx hp => by rw [hb i x hx, hp, ifb_1]) hf
    exact .inr ⟨rfl, i, h3⟩
theorem lp_cmp {A : Type} [DecidableEq A] {l m : List A} {body : Int → Option (Int ⊕ (Bool ⊕ Unit))} (q : A → A → Bool) (hq : ∀ a b, q a b = true ↔ a = b) (hlm : l.length = m.length) {fl : Nat}
    (hb : ∀ t, body t = ifb (decide (t < (l.length : Int))) (ixb l t fun x => ixb m t fun y => ifb (!q x y) (some (.inr (.inl false))) (some (.inl (IntKind.i64.wrap (t + 1))))) (some (.inr (.inr ())))) (hl : l.length < 1000000000000000000) (hf : l.length < fl) :
    lp body fl 0 = some (if l = m then .inr () else .inl false) := by
  have hz : (l.zip m).length = l.length := by rw [List.length_zip]; omega
  have hany : (l.zip m).any (fun x => !q x.1 x.2) = false ↔ l = m := by
    clear hb hf hl hz
    induction l generalizing m with
    | nil => cases m <;> simp_all
    | cons a l ih =>
      cases m with
      | nil => simp at hlm
      | cons b m =>
        rw [List.zip_cons_cons, List.any_cons, Bool.or_eq_false_iff, ih (by simpa using hlm)]
        have := hq a b
        cases hc : q a b <;> simp_all
  rcases lp_find (l := l.zip m) (body := body) (fun x => !q x.1 x.2) (fun _ => false) (fl := fl) (fun i x hx => by
    have hi := (List.getElem?_eq_some_iff.1 hx).1
    rw [List.getElem?_zip_eq_some] at hx
    rw [hb, ifb_dec, if_pos (by omega), ixb_n hx.1, ixb_n hx.2, wrap_i64 (by omega)]; rfl) (by rw [hb, hz, ifb_dec, if_neg (by omega)]) (by omega) with ⟨h1, h2⟩ | ⟨h1, i, h2⟩
  · rw [h2, if_pos (hany.1 h1)]
  · rw [h2, if_neg (fun h => by rw [hany.2 h] at h1; cases h1)]
theorem getD_n {A : Type} [Inhabited A] {l : List A} {i : Nat} {x : A} (h : l[i]? = some x) : l.getD ((i : Int)).toNat default = x := by
  rw [List.getD_eq_getElem?_getD, Int.toNat_natCast, h]; rfl
theorem lp_inv {T O S : Type} {body : T → Option (T ⊕ O)} (mk : Nat → S → T) (I : Nat → S → Prop) (Q : O → Prop) {n fl : Nat} {s0 : S} (h0 : I 0 s0)
    (hs : ∀ i s, i < n → I i s → (∃ s', body (mk i s) = some (.inl (mk (i + 1) s')) ∧ I (i + 1) s') ∨ (∃ o, body (mk i s) = some (.inr o) ∧ Q o))
    (he : ∀ s, I n s → ∃ o, body (mk n s) = some (.inr o) ∧ Q o) (hf : n < fl) : ∃ o, lp body fl (mk 0 s0) = some o ∧ Q o := by
  have key : ∀ k i s fl, i + k = n → k < fl → I i s → ∃ o, lp body fl (mk i s) = some o ∧ Q o := by
    intro k
    induction k with
    | zero =>
      intro i s fl hi hf hI
      obtain ⟨m, rfl⟩ : ∃ m, fl = m + 1 := ⟨fl - 1, by omega⟩
      obtain rfl : i = n := by omega
      obtain ⟨o, h1, h2⟩ := he s hI
      exact ⟨o, by simp [lp, h1], h2⟩
    | succ k ih =>
      intro i s fl hi hf hI
      obtain ⟨m, rfl⟩ : ∃ m, fl = m + 1 := ⟨fl - 1, by omega⟩
      rcases hs i s (by omega) hI with ⟨s', h1, h2⟩ | ⟨o, h1, h2⟩
      · obtain ⟨o, h3, h4⟩ := ih (i + 1) s' m (by omega) (by omega) h2
        exact ⟨o, by simp only [lp, h1, bnd_s, ocs_1]; exact h3, h4⟩
      · exact ⟨o, by simp [lp, h1], h2⟩
  exact key n 0 s0 fl (by omega) hf h0
theorem belo {i n : Nat} (h : i < n) : Below (i : Int) n := ⟨by omega, by simpa using h⟩

theorem lp_go {T O : Type} {body : T → Option (T ⊕ O)} {m : Nat} {t u : T} (h : body t = some (.inl u)) : lp body (m + 1) t = lp body m u := by rw [lp, h]; rfl
theorem lp_end {T O : Type} {body : T → Option (T ⊕ O)} {m : Nat} {t : T} {o : O} (h : body t = some (.inr o)) : lp body (m + 1) t = some o := by rw [lp, h]; rfl
theorem wrapi {n : Int} (h : -9223372036854775808 ≤ n) (h2 : n < 9223372036854775808) : IntKind.i64.wrap n = n := wrap_i64 ⟨h, h2⟩

/-- Round after round over a list, by the part that is done. -/
theorem lp_take {A T O : Type} {l : List A} (st : List A → Nat → T) {body : T → Option (T ⊕ O)} {fl : Nat} {o : O}
    (hs : ∀ i x, l[i]? = some x → body (st (l.take i) i) = some (.inl (st (l.take i ++ [x]) (i + 1)))) (he : body (st l l.length) = some (.inr o)) (hf : l.length < fl) : lp body fl (st [] 0) = some o := by
  have := lp_seq (fun i => st (l.take i) i) (n := l.length) (body := body) (o := o) (fl := fl) (fun i hi => by
    rw [hs i _ (List.getElem?_eq_getElem hi), List.take_add_one, List.getElem?_eq_getElem hi]; rfl) (by rw [List.take_length]; exact he) hf
  simpa using this
end Go.Proofs.YtmnhfpcbfdgbcaaDoor.Eng.A

/- Handles: few elements sorted by insertion; a table's answers. -/
namespace Go.Proofs.YtmnhfpcbfdgbcaaDoor.Eng.A
open Go.RowKit Go.Proofs.YtmnhfpcbfdgbcaaDoor.Plain Go.Proofs.YtmnhfpcbfdgbcaaDoor.Eng Go.Proofs.YtmnhfpcbfdgbcaaDoor.Eng.Hb Go.Proofs.YtmnhfpcbfdgbcaaDoor.Eng.Hc Go.Proofs.YtmnhfpcbfdgbcaaDoor.Eng.Hd Go.Proofs.YtmnhfpcbfdgbcaaDoor.Eng.He Go.Proofs.YtmnhfpcbfdgbcaaDoor.Eng.Hf Go.Proofs.YtmnhfpcbfdgbcaaDoor.Eng.Hg Go.Proofs.YtmnhfpcbfdgbcaaDoor.Eng.Hh
theorem hcmp_eq (a b : Itm) : F_hcmp a b = some (if a.No < b.No then -1 else if b.No < a.No then 1 else 0) := by
  unfold F_hcmp F_cmp64 F_nan64
  simp only [bnd_s, ne_eq, not_true_eq_false, decide_false, ifb_0, ifb_dec]
  by_cases h : a.No < b.No
  · simp [h]
  · by_cases h2 : b.No < a.No <;> simp [h, h2]
def down : List Itm → Itm → List Itm → List Itm
  | [], x, B => x :: B
  | a :: R, x, B => if x.No < a.No then down R x (a :: B) else (a :: R).reverse ++ x :: B
theorem down_app (x : Itm) (C : List Itm) : ∀ (R B : List Itm), down R x (B ++ C) = down R x B ++ C
  | [], B => rfl
  | a :: R, B => by
    unfold down
    split
    · exact down_app x C R (a :: B)
    · simp
theorem down_perm (x : Itm) : ∀ (R B : List Itm), (down R x B).Perm (x :: (R ++ B))
  | [], B => .refl _
  | a :: R, B => by
    unfold down
    split
    · exact (down_perm x R (a :: B)).trans (List.Perm.cons _ List.perm_middle)
    · exact List.perm_middle.trans (List.Perm.cons _ ((List.reverse_perm _).append_right B))
abbrev UpI (l : List Itm) : Prop := l.Pairwise fun a b => a.No ≤ b.No
theorem down_up (x : Itm) : ∀ (R B : List Itm), UpI (R.reverse ++ B) → (∀ b ∈ B, x.No ≤ b.No) → UpI (down R x B)
  | [], B, h, hB => List.pairwise_cons.2 ⟨hB, h⟩
  | a :: R, B, h, hB => by
    unfold down
    split
    · next hlt =>
      refine down_up x R (a :: B) (by simpa using h) fun b hb => ?_
      rcases List.mem_cons.1 hb with rfl | hb
      · omega
      · exact hB b hb
    · next hge =>
      have h1 := List.pairwise_append.1 h
      refine List.pairwise_append.2 ⟨h1.1, List.pairwise_cons.2 ⟨hB, h1.2.1⟩, fun u hu v hv => ?_⟩
      rcases List.mem_cons.1 hv with rfl | hv
      · have h2 : u.No ≤ a.No := by
          rw [List.reverse_cons] at hu h1
          rcases List.mem_append.1 hu with hu | hu
          · exact (List.pairwise_append.1 h1.1).2.2 u hu a (by simp)
          · simp at hu; subst hu; omega
        omega
      · exact h1.2.2 u hu v hv
theorem down_len (x : Itm) (R B : List Itm) : (down R x B).length = R.length + B.length + 1 := by
  rw [(down_perm x R B).length_eq]; simp
theorem getD_at {l : List Itm} {n : Nat} {x : Itm} (h : l[n]? = some x) : l.getD n default = x := by simp [List.getD, h]
theorem hins1 (l0 : List Itm) (hn : l0.length ≤ 1000) (x : Itm) : ∀ (R B : List Itm) (fl : Nat), R.length + B.length + 1 = l0.length → R.length < fl → lp (F_hins_b1 l0 0) fl ((R.length : Int), R.reverse ++ x :: B) = some (down R x B)
  | [], B, fl, hl, hf => by
    obtain ⟨m, rfl⟩ : ∃ m, fl = m + 1 := ⟨fl - 1, by omega⟩
    refine lp_end ?_
    unfold F_hins_b1
    simp [grd, bnd, gif, ifb, down]
  | a :: R, B, fl, hl, hf => by
    obtain ⟨m, rfl⟩ : ∃ m, fl = m + 1 := ⟨fl - 1, by omega⟩
    simp only [List.length_cons] at hl hf
    have ih := hins1 l0 hn x R (a :: B) m (by simp; omega) (by omega)
    have w : IntKind.i64.wrap (((R.length + 1 : Nat) : Int) - 1) = (R.length : Int) := (wrapi (by omega) (by omega)).trans (by omega)
    have e1 : ((a :: R).reverse ++ x :: B)[R.length + 1]? = some x := by rw [List.getElem?_append_right (by simp)]; simp
    have e2 : ((a :: R).reverse ++ x :: B)[R.length]? = some a := by rw [List.getElem?_append_left (by simp)]; simp
    have hL : ((a :: R).reverse ++ x :: B).length = l0.length := by simp; omega
    have g1 := getD_at e1
    have g2 := getD_at e2
    have hs : (((a :: R).reverse ++ x :: B).set (R.length + 1) a).set R.length x = R.reverse ++ x :: a :: B := by
      rw [List.reverse_cons, List.append_assoc, List.set_append_right _ _ (by simp)]
      simp
    generalize hLL : (a :: R).reverse ++ x :: B = L at e1 e2 hL g1 g2 hs
    simp only [List.length_cons]
    have hd : decide ((0 : Int) < ((R.length + 1 : Nat) : Int)) = true := decide_eq_true (by omega)
    have b1 : Below ((R.length + 1 : Nat) : Int) l0.length := ⟨by omega, by omega⟩
    have b2 : Below ((R.length : Nat) : Int) l0.length := ⟨by omega, by omega⟩
    have hbody : F_hins_b1 l0 0 (((R.length + 1 : Nat) : Int), L) = if x.No < a.No then some (.inl ((R.length : Int), R.reverse ++ x :: a :: B)) else some (.inr L) := by
     unfold F_hins_b1
     simp only [hd, w]
     simp only [beq_self_eq_true, true_imp_iff, Int.toNat_natCast, hL, grd_t b1, grd_t b2, gif_1, g1, g2, hcmp_eq, bnd_s, Bool.true_and]
     by_cases hlt : x.No < a.No
     · have hb : decide ((if x.No < a.No then (-1 : Int) else if a.No < x.No then 1 else 0) < 0) = true := by rw [if_pos hlt]; decide
       rw [hb, ifb_1, ixb_n e2, ixb_n e1]
       simp only [List.length_set, hL, grd_t b1, grd_t b2, hs]
       rw [if_pos hlt]
     · have hb : decide ((if x.No < a.No then (-1 : Int) else if a.No < x.No then 1 else 0) < 0) = false := by rw [if_neg hlt]; split <;> decide
       rw [hb, ifb_0, if_neg hlt]
    by_cases hlt : x.No < a.No
    · rw [if_pos hlt] at hbody
      rw [lp_go hbody, show down (a :: R) x B = down R x (a :: B) from by rw [down, if_pos hlt]]
      exact ih
    · rw [if_neg hlt] at hbody
      rw [lp_end hbody, show down (a :: R) x B = (a :: R).reverse ++ x :: B from by rw [down, if_neg hlt], hLL]
def srt : List Itm → List Itm → List Itm
  | S, [] => S
  | S, x :: B => srt (down S.reverse x []) B
theorem srt_perm : ∀ (B S : List Itm), (srt S B).Perm (S ++ B)
  | [], S => by simp [srt]
  | x :: B, S => by
    unfold srt
    refine (srt_perm B _).trans (((down_perm x S.reverse []).append_right B).trans ?_)
    rw [List.append_nil]
    exact (List.Perm.cons _ ((List.reverse_perm S).append_right B)).trans List.perm_middle.symm
theorem srt_up : ∀ (B S : List Itm), UpI S → UpI (srt S B)
  | [], S, h => h
  | x :: B, S, h => by
    unfold srt
    exact srt_up B _ (down_up x S.reverse [] (by simpa using h) (by simp))
theorem hins0 (l0 : List Itm) (hn : l0.length ≤ 1000) (fl0 : Nat) (h0 : l0.length < fl0) : ∀ (B S : List Itm) (fl : Nat), S.length + B.length = l0.length → B.length < fl → lp (F_hins_b0 fl0 l0 0 (l0.length : Int)) fl ((S.length : Int), S ++ B) = some (srt S B)
  | [], S, fl, hl, hf => by
    obtain ⟨m, rfl⟩ : ∃ m, fl = m + 1 := ⟨fl - 1, by omega⟩
    simp only [List.length_nil, Nat.add_zero] at hl
    refine lp_end ?_
    unfold F_hins_b0
    simp only [hl]
    rw [decide_eq_false (by omega), ifb_0]
    simp [srt]
  | x :: B, S, fl, hl, hf => by
    obtain ⟨m, rfl⟩ : ∃ m, fl = m + 1 := ⟨fl - 1, by omega⟩
    simp only [List.length_cons] at hl hf
    have ih := hins0 l0 hn fl0 h0 B (down S.reverse x []) m (by rw [down_len]; simp; omega) (by omega)
    have h1 := hins1 l0 hn x S.reverse B fl0 (by simp; omega) (by simp; omega)
    rw [List.reverse_reverse, List.length_reverse, show B = [] ++ B from rfl, down_app] at h1
    rw [down_len] at ih
    rw [show ([] : List Itm) ++ B = B from rfl] at h1
    have hb : F_hins_b0 fl0 l0 0 (l0.length : Int) ((S.length : Int), S ++ x :: B) = some (.inl (((S.length + 1 : Nat) : Int), down S.reverse x [] ++ B)) := by
      unfold F_hins_b0
      simp only
      rw [decide_eq_true (by omega), ifb_1, h1, bnd_s, wrapi (by omega) (by omega)]
      simp
    rw [lp_go hb, show srt S (x :: B) = srt (down S.reverse x []) B from rfl, ← ih]
    simp
theorem hins_eq (l : List Itm) (hn : l.length ≤ 1000) (fl : Nat) (h0 : l.length < fl) : F_hins fl l 0 (l.length : Int) = some (srt [] l) := by
  unfold F_hins
  rw [wrapi (by omega) (by omega)]
  cases l with
  | nil =>
    obtain ⟨m, rfl⟩ : ∃ m, fl = m + 1 := ⟨fl - 1, by simp at h0; omega⟩
    exact lp_end rfl
  | cons x B => exact hins0 (x :: B) hn fl h0 B [x] fl (by simp; omega) (by simp at h0; omega)
theorem lenU_le (n : Int) (h0 : 0 ≤ n) (h : n ≤ 12) : ∃ k, F_lenU n = some k := by
  have key : ∀ m : Nat, m ≤ 12 → (F_lenU (m : Int)).isSome = true := by
    intro m hm
    have : m = 0 ∨ m = 1 ∨ m = 2 ∨ m = 3 ∨ m = 4 ∨ m = 5 ∨ m = 6 ∨ m = 7 ∨ m = 8 ∨ m = 9 ∨ m = 10 ∨ m = 11 ∨ m = 12 := by omega
    rcases this with h | h | h | h | h | h | h | h | h | h | h | h | h <;> subst h <;> decide +kernel
  obtain ⟨m, rfl⟩ : ∃ m : Nat, n = m := ⟨n.toNat, by omega⟩
  exact Option.isSome_iff_exists.1 (key m (by omega))
theorem hsort_eq (l : List Itm) (hn : l.length ≤ 12) (fl : Nat) (h0 : l.length < fl) : F_hsort fl l = some (srt [] l) := by
  obtain ⟨m, rfl⟩ : ∃ m, fl = m + 1 := ⟨fl - 1, by omega⟩
  unfold F_hsort
  rw [wrap_u64 (by omega)]
  obtain ⟨k, hk⟩ := lenU_le (l.length : Int) (by omega) (by omega)
  rw [hk, bnd_s]
  have hb : F_hpdq_b0 (m + 1) l 0 (l.length : Int) () = some (.inr (srt [] l)) := by
    unfold F_hpdq_b0
    rw [grd_t (by rw [show (l.length : Int) - 0 = l.length by omega, wrapi (by omega) (by omega)]; exact decide_eq_true (by omega)), hins_eq l (by omega) _ h0]
    rfl
  unfold F_hpdq
  rw [lp_end hb]
  rfl
end Go.Proofs.YtmnhfpcbfdgbcaaDoor.Eng.A

/- Handles: a table's functions, by what they answer. -/
namespace Go.Proofs.YtmnhfpcbfdgbcaaDoor.Eng.A
open Go.RowKit Go.Proofs.YtmnhfpcbfdgbcaaDoor.Plain Go.Proofs.YtmnhfpcbfdgbcaaDoor.Eng Go.Proofs.YtmnhfpcbfdgbcaaDoor.Eng.Hb Go.Proofs.YtmnhfpcbfdgbcaaDoor.Eng.Hc Go.Proofs.YtmnhfpcbfdgbcaaDoor.Eng.Hd Go.Proofs.YtmnhfpcbfdgbcaaDoor.Eng.He Go.Proofs.YtmnhfpcbfdgbcaaDoor.Eng.Hf Go.Proofs.YtmnhfpcbfdgbcaaDoor.Eng.Hg Go.Proofs.YtmnhfpcbfdgbcaaDoor.Eng.Hh Go.Proofs.YtmnhfpcbfdgbcaaDoor.Eng.Er Go.Proofs.YtmnhfpcbfdgbcaaDoor.Eng.Rd
abbrev HL := List ((Int × Int) × Itm)
/-- No key twice; each under its own name. -/
def OkH (H : HL) : Prop := (H.map (·.1)).Nodup ∧ ∀ e ∈ H, e.1 = (e.2.Who, e.2.No)
instance (H : HL) : Decidable (OkH H) := inferInstanceAs (Decidable (_ ∧ _))
def ofS (H : HL) (who : Int) : List Itm := srt [] (ofL H who)
def F_tof (fl : Nat) (H : HL) (who : Int) : Option (List Itm) := grd (OkH H ∧ H.length ≤ 1000000 ∧ (ofL H who).length ≤ 12 ∧ 12 < fl) (some (ofS H who))
theorem ofL_mem {H : HL} {who : Int} {x : Itm} (h : x ∈ ofL H who) : ∃ e ∈ H, e.1.1 = who ∧ e.2 = x := by
  unfold ofL at h
  obtain ⟨e, he, rfl⟩ := List.mem_map.1 h
  obtain ⟨h1, h2⟩ := List.mem_filter.1 he
  exact ⟨e, h1, of_decide_eq_true h2, rfl⟩
theorem ofL_inj {H : HL} (hH : OkH H) {who : Int} {x y : Itm} (hx : x ∈ ofL H who) (hy : y ∈ ofL H who) (h : x.No = y.No) : x = y := by
  obtain ⟨e, he, e1, rfl⟩ := ofL_mem hx
  obtain ⟨f, hf, f1, rfl⟩ := ofL_mem hy
  have h1 := hH.2 e he
  have h2 := hH.2 f hf
  have hk : e.1 = f.1 := by rw [h1] at e1; rw [h2] at f1; rw [h1, h2, h]; simp at e1 f1; rw [e1, f1]
  have : e = f := by
    have hn := hH.1
    obtain ⟨i, hi, rfl⟩ := List.mem_iff_getElem.1 he
    obtain ⟨j, hj, rfl⟩ := List.mem_iff_getElem.1 hf
    have := (List.getElem_inj (xs := H.map (·.1)) (h₀ := by simpa using hi) (h₁ := by simpa using hj) hn).1 (by simpa using hk)
    subst this; rfl
  rw [this]
theorem srt_uniq {l m : List Itm} (hp : l.Perm m) (hd : ∀ x ∈ l, ∀ y ∈ l, x.No = y.No → x = y) : srt [] l = srt [] m := by
  have p1 : (srt [] l).Perm l := srt_perm l []
  have p2 : (srt [] m).Perm m := srt_perm m []
  refine List.Perm.eq_of_pairwise (le := fun a b => a.No ≤ b.No) (fun a b ha hb h1 h2 => hd a (p1.subset ha) b (hp.symm.subset (p2.subset hb)) (by omega)) (srt_up l [] .nil) (srt_up m [] .nil) (p1.trans (hp.trans p2.symm))
theorem ofL_perm {vs H : HL} (h : vs.Perm H) (who : Int) : (ofL vs who).Perm (ofL H who) := (h.filter _).map _
theorem tof_h0 {fl : Nat} {H : HL} {who : Int} {R : List Itm} (h : F_tof fl H who = some R) : H.length ≤ 1000000 ∧ ∀ vs : HL, vs.Perm H → F_hsort fl (ofL vs who) = some R ∧ (ofL vs who).length = R.length := by
  obtain ⟨⟨h1, h2, h3, h4⟩, h5⟩ := grd_some h
  obtain rfl := some_of h5
  refine ⟨h2, fun vs hv => ?_⟩
  have hp := ofL_perm hv who
  have hl := hp.length_eq
  rw [hsort_eq _ (by omega) _ (by omega), srt_uniq hp fun x hx y hy => ofL_inj h1 (hp.subset hx) (hp.subset hy)]
  exact ⟨rfl, by rw [ofS, (srt_perm _ []).length_eq]; simpa using hl⟩
section
variable {fl : Nat} {s : St} {g1 g2 gT : Nat}
theorem ct_of {p0 : HL} {p1 : Int} {R : List Itm} (h0 : F_tof fl p0 p1 = some R) (hB1 : s.boxes[g1]? = some (MB K1 p0)) (hT : s.boxes[gT]? = some (TBx g1 g2)) : AC Go.Proofs.Tryd.prog 78 [ptr gT 0, pl (.int .u64 p1)] s (sl kItm none none R) s :=
  t_of (t := ⟨p0, []⟩) hB1 hT (tof_h0 h0).1 (tof_h0 h0).2
def F_tgive (fl : Nat) (t : Tbl) (x : Itm) : Option (Int × Option Int × Tbl) := bnd (F_tof fl t.H x.Who) fun R => some (hgive t x R)
theorem ct_give {p0 : Tbl} {p1 : Itm} {R : Int × Option Int × Tbl} (h0 : F_tgive fl p0 p1 = some R) (h12 : g1 ≠ g2) (hB1 : s.boxes[g1]? = some (MB K1 p0.H)) (hB2 : s.boxes[g2]? = some (MB K2 p0.N)) (hT : s.boxes[gT]? = some (TBx g1 g2)) : AC Go.Proofs.Tryd.prog 74 [ptr gT 0, agg (itC p1)] s (tup [pl (.int .u64 R.1), pl (errV R.2.1)]) ((s.upd g2 (MB K2 R.2.2.N)).upd g1 (MB K1 R.2.2.H)) := by
  obtain ⟨l, h1, h2⟩ := bnd_some h0
  obtain rfl := some_of h2
  exact t_give h12 hB1 hB2 hT (tof_h0 h1).1 (tof_h0 h1).2
def F_tget (H : HL) (who no : Int) : Option (Itm × Option Int) := some (hget H who no)
theorem ct_get {p0 : Tbl} {p1 p2 : Int} {R : Itm × Option Int} (h0 : F_tget p0.H p1 p2 = some R) (hB1 : s.boxes[g1]? = some (MB K1 p0.H)) (hB2 : s.boxes[g2]? = some (MB K2 p0.N)) (hT : s.boxes[gT]? = some (TBx g1 g2)) : AC Go.Proofs.Tryd.prog 75 [ptr gT 0, pl (.int .u64 p1), pl (.int .u64 p2)] s (tup [agg (itC R.1), pl (errV R.2)]) s := by
  obtain rfl := some_of h0
  exact t_get hB1 hB2 hT
def F_tdrop (H : HL) (who no : Int) : Option (Option Int × HL) := some ((hget H who no).2, mdel H (who, no))
theorem ct_drop {p0 : Tbl} {p1 p2 : Int} {R : Option Int × HL} (h0 : F_tdrop p0.H p1 p2 = some R) (hB1 : s.boxes[g1]? = some (MB K1 p0.H)) (hB2 : s.boxes[g2]? = some (MB K2 p0.N)) (hT : s.boxes[gT]? = some (TBx g1 g2)) : AC Go.Proofs.Tryd.prog 77 [ptr gT 0, pl (.int .u64 p1), pl (.int .u64 p2)] s (pl (errV R.1)) ((s.upd g2 (MB K2 p0.N)).upd g1 (MB K1 R.2)) := by
  obtain rfl := some_of h0
  rw [upd_self hB2]
  exact t_drop hB1 hB2 hT
def F_tforget (H : HL) (sp : Int) : Option HL := grd (OkH H) (some (H.filter fun z => decide (¬ z.2.Space = sp)))
theorem ct_forget {p0 : Tbl} {p1 : Int} {R : HL} (h0 : F_tforget p0.H p1 = some R) (h12 : g1 ≠ g2) (hB1 : s.boxes[g1]? = some (MB K1 p0.H)) (hB2 : s.boxes[g2]? = some (MB K2 p0.N)) (hT : s.boxes[gT]? = some (TBx g1 g2)) : AC Go.Proofs.Tryd.prog 73 [ptr gT 0, pl (.int .u64 p1)] s (pl (.tuple #[])) ((s.upd g2 (MB K2 p0.N)).upd g1 (MB K1 R)) := by
  obtain ⟨hk, h2⟩ := grd_some h0
  obtain rfl := some_of h2
  rw [upd_self hB2]
  refine ac_openM2 hB1 fun ls c hl hb => ⟨ls.filter fun z => decide (¬ z.1.2.Space = p1), by rw [filter_fst, hl], ?_, ?_⟩
  · exact born_filter hb _
  · have hnd : (ls.map fun z => z.1.1).Nodup := by
      have := hk.1
      rw [← hl, List.map_map] at this
      exact this
    have hne : gT ≠ g1 := mb_ne hB1 hT
    have h := t_forget_x (g2 := g2) (sp := p1) (upd_same hB1 : (s.upd g1 (MX K1 ls c)).boxes[g1]? = some (MX K1 ls c)) (upd_other hne hT) hb hnd
    rwa [Go.Proofs.YtmnhfpcbfdgbcaaDoor.Eng.upd_upd] at h
end
end Go.Proofs.YtmnhfpcbfdgbcaaDoor.Eng.A
