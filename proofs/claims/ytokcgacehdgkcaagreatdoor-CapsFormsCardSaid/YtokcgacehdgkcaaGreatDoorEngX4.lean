/- Plain mathematics: a number out of its bytes, as the document does it: the place of the last byte first, then from behind. -/
import Derived.Test.YtokcgacehdgkcaaGreatDoorEngX1
import Derived.Test.YtokcgacehdgkcaaGreatDoorEngX3
import Derived.IntWalk
namespace Go.Proofs.YtokcgacehdgkcaaGreatDoor.Plain
set_option linter.unusedVariables false
set_option linter.unusedSimpArgs false

/-- What bytes are worth, seven bits each. -/
def val : List Int → Nat
  | [] => 0
  | c :: t => (c % 128).toNat + 128 * val t
theorem val_lt : ∀ (l : List Int), val l < 128 ^ l.length
  | [] => by simp [val]
  | c :: t => by
    have h1 := val_lt t
    have h2 : (c % 128).toNat < 128 := by omega
    simp only [val, List.length_cons, Nat.pow_succ]
    omega
theorem val_snoc : ∀ (l : List Int) (c : Int), val (l ++ [c]) = val l + (c % 128).toNat * 128 ^ l.length
  | [], c => by simp [val]
  | d :: t, c => by
    have h := val_snoc t c
    simp only [List.cons_append, val, List.length_cons, Nat.pow_succ, h, Nat.mul_add]
    have e : 128 * ((c % 128).toNat * 128 ^ t.length) = (c % 128).toNat * (128 ^ t.length * 128) := by
      rw [Nat.mul_comm, Nat.mul_assoc]
    omega

/-- All of the first e bytes say that one follows. -/
def More (l : List Int) (e : Nat) : Prop := ∀ j, j < e → ∃ c, l[j]? = some c ∧ 128 ≤ c
theorem vget_more (l : List Int) (hb : Bts l) : ∀ e, e ≤ 9 → More l e → vget l = vgl (l.drop e) e (val (l.take e))
  | 0, _, _ => by simp [vget, val]
  | e + 1, he, hm => by
    have h1 := vget_more l hb e (by omega) (fun j hj => hm j (by omega))
    obtain ⟨c, hc, h128⟩ := hm e (by omega)
    obtain ⟨hlt, hce⟩ := List.getElem?_eq_some_iff.1 hc
    have hd : l.drop e = c :: l.drop (e + 1) := by rw [List.drop_eq_getElem_cons hlt, hce]
    have hr := hb c (hce ▸ List.getElem_mem hlt)
    rw [h1, hd, vgl, if_neg (by omega), if_neg (by omega), if_neg (by omega)]
    have ht : l.take (e + 1) = l.take e ++ [c] := by rw [List.take_succ_eq_append_getElem hlt, hce]
    rw [ht, val_snoc, List.length_take, Nat.min_eq_left (by omega)]
    have e1 : (c % 128).toNat = c.toNat - 128 := by omega
    rw [e1]

theorem vget_range10 {l : List Int} (hb : Bts l) (hm : More l 10) : vget l = (0, 0, some 2) := by
  rw [vget_more l hb 9 (by omega) (fun j hj => hm j (by omega))]
  obtain ⟨c, hc, h128⟩ := hm 9 (by omega)
  obtain ⟨hlt, hce⟩ := List.getElem?_eq_some_iff.1 hc
  rw [List.drop_eq_getElem_cons hlt, hce, vgl, if_pos (by omega)]
theorem vget_range9 {l : List Int} (hb : Bts l) (hm : More l 9) {c : Int} (hc : l[9]? = some c) (h : 1 < c) : vget l = (0, 0, some 2) := by
  rw [vget_more l hb 9 (by omega) hm]
  obtain ⟨hlt, hce⟩ := List.getElem?_eq_some_iff.1 hc
  rw [List.drop_eq_getElem_cons hlt, hce, vgl, if_pos (by omega)]
theorem vget_none {l : List Int} (hb : Bts l) (h9 : l.length ≤ 9) (hm : More l l.length) : vget l = (0, 0, some 6) := by
  rw [vget_more l hb l.length h9 hm, List.drop_eq_nil_of_le (Nat.le_refl _)]
  rfl
theorem vget_form {l : List Int} (hb : Bts l) {e : Nat} (h0 : 0 < e) (h9 : e ≤ 9) (hm : More l e) (hc : l[e]? = some 0) : vget l = (0, 0, some 3) := by
  rw [vget_more l hb e h9 hm]
  obtain ⟨hlt, hce⟩ := List.getElem?_eq_some_iff.1 hc
  rw [List.drop_eq_getElem_cons hlt, hce, vgl, if_neg (by omega), if_pos (by omega)]
theorem vget_val {l : List Int} (hb : Bts l) {e : Nat} (h9 : e ≤ 9) (hm : More l e) {c : Int} (hc : l[e]? = some c) (h1 : c < 128) (h2 : e = 9 → c ≤ 1) (h3 : 0 < e → c ≠ 0) : vget l = (val (l.take (e + 1)), e + 1, none) := by
  rw [vget_more l hb e h9 hm]
  obtain ⟨hlt, hce⟩ := List.getElem?_eq_some_iff.1 hc
  have hr := hb c (hce ▸ List.getElem_mem hlt)
  rw [List.drop_eq_getElem_cons hlt, hce, vgl, if_neg (by omega), if_neg (by omega), if_pos h1]
  rw [List.take_succ_eq_append_getElem hlt, hce, val_snoc, List.length_take, Nat.min_eq_left (by omega)]
  have e1 : (c % 128).toNat = c.toNat := by omega
  rw [e1]
theorem val_small {l : List Int} (h : l.length ≤ 9) : val l < 18446744073709551616 := by
  have h1 := val_lt l
  have h2 : 128 ^ l.length ≤ 128 ^ 9 := Nat.pow_le_pow_right (by omega) h
  omega
/-- The bytes of a number that fits: also each of its ends fits. -/
theorem val_fits {l : List Int} (hb : Bts l) {e : Nat} (h9 : e ≤ 9) {c : Int} (hc : l[e]? = some c) (h2 : e = 9 → c ≤ 1) (j : Nat) (hj : j ≤ e + 1) : val ((l.take (e + 1)).drop j) < 18446744073709551616 := by
  obtain ⟨hlt, hce⟩ := List.getElem?_eq_some_iff.1 hc
  by_cases h : (e + 1) - j ≤ 9
  · exact val_small (by simp; omega)
  · have h9' : e = 9 := by omega
    have h0 : j = 0 := by omega
    subst h0
    have hr := hb c (hce ▸ List.getElem_mem hlt)
    have hc1 := h2 h9'
    have hm : (c % 128).toNat ≤ 1 := by omega
    rw [List.drop_zero, List.take_succ_eq_append_getElem hlt, hce, val_snoc, List.length_take, Nat.min_eq_left (by omega)]
    have h3 := val_small (l := l.take e) (by simp; omega)
    have h1 := val_lt (l.take e)
    rw [List.length_take, Nat.min_eq_left (by omega)] at h1
    have h4 : (c % 128).toNat * 128 ^ e ≤ 1 * 128 ^ e := Nat.mul_le_mul_right _ hm
    subst h9'
    omega
theorem val_step {l : List Int} {e j : Nat} (hj : j < e + 1) {c : Int} (hc : l[j]? = some c) : val ((l.take (e + 1)).drop j) = (c % 128).toNat + 128 * val ((l.take (e + 1)).drop (j + 1)) := by
  obtain ⟨hlt, hce⟩ := List.getElem?_eq_some_iff.1 hc
  have hl : j < (l.take (e + 1)).length := by simp; omega
  rw [List.drop_eq_getElem_cons hl]
  simp [val, hce]
theorem vgl_err_ne : ∀ (l : List Int) (i v : Nat) {x n : Nat} {e : Int}, vgl l i v = (x, n, some e) → e ≠ 0
  | [], i, v, x, n, e, h => by simp [vgl] at h; omega
  | c :: t, i, v, x, n, e, h => by
    rw [vgl] at h
    by_cases h1 : i = 9 ∧ 1 < c
    · rw [if_pos h1] at h; simp at h; omega
    · rw [if_neg h1] at h
      by_cases h2 : c = 0 ∧ 0 < i
      · rw [if_pos h2] at h; simp at h; omega
      · rw [if_neg h2] at h
        by_cases h3 : c < 128
        · rw [if_pos h3] at h; simp at h
        · rw [if_neg h3] at h
          exact vgl_err_ne t (i + 1) _ h
theorem vget_err_ne {l : List Int} {x n : Nat} {e : Int} (h : vget l = (x, n, some e)) : e ≠ 0 := vgl_err_ne l 0 0 h
end Go.Proofs.YtokcgacehdgkcaaGreatDoor.Plain

/- The engine: functions read off the program, and how a walk takes them apart. -/
namespace Go.Proofs.YtokcgacehdgkcaaGreatDoor.Eng
open Go.RowKit

/-! ### The words of a function that is read off -/
def grd {R : Type} (c : Prop) [Decidable c] (k : Option R) : Option R := if c then k else none
def ltv {A R : Type} (v : A) (k : A → Option R) : Option R := k v
def bnd {A R : Type} (o : Option A) (k : A → Option R) : Option R := o.bind k
def ifb {R : Type} (b : Bool) (x y : Option R) : Option R := if b = true then x else y
def ocs {A B R : Type} (o : A ⊕ B) (f : A → Option R) (g : B → Option R) : Option R :=
  match o with
  | .inl a => f a
  | .inr b => g b
def ixb {A R : Type} (l : List A) (i : Int) (k : A → Option R) : Option R :=
  if 0 ≤ i then match l[i.toNat]? with
    | some x => k x
    | none => none
  else none
/-- Round after round, so many at most. -/
def lp {T O : Type} (body : T → Option (T ⊕ O)) : Nat → T → Option O
  | 0, _ => none
  | n + 1, t => bnd (body t) fun z => ocs z (fun u => lp body n u) fun o => some o
/-- What is asked under a condition. -/
def gif {A : Type} [Inhabited A] (b : Bool) (o : Option A) : Option A := if b = true then o else some default

variable {R A B : Type} {r : R}
theorem grd_some {c : Prop} [Decidable c] {k : Option R} (h : grd c k = some r) : c ∧ k = some r := by
  unfold grd at h
  by_cases hc : c
  · rw [if_pos hc] at h; exact ⟨hc, h⟩
  · rw [if_neg hc] at h; cases h
theorem bnd_some {o : Option A} {k : A → Option R} (h : bnd o k = some r) : ∃ x, o = some x ∧ k x = some r := by
  cases o with
  | none => cases h
  | some x => exact ⟨x, rfl, h⟩
theorem ifb_t {b : Bool} {x y : Option R} (h : ifb b x y = some r) (hb : b = true) : x = some r := by rw [ifb, if_pos hb] at h; exact h
theorem ifb_f {b : Bool} {x y : Option R} (h : ifb b x y = some r) (hb : b = false) : y = some r := by rw [ifb, if_neg (by rw [hb]; simp)] at h; exact h
theorem ocs_l {a : A} {f : A → Option R} {g : B → Option R} (h : ocs (.inl a) f g = some r) : f a = some r := h
theorem ocs_r {b : B} {f : A → Option R} {g : B → Option R} (h : ocs (.inr b) f g = some r) : g b = some r := h
theorem ixb_some {l : List A} {i : Int} {k : A → Option R} (h : ixb l i k = some r) : ∃ x, l[i.toNat]? = some x ∧ (0 ≤ i ∧ i.toNat < l.length ∧ i = ((i.toNat : Nat) : Int)) ∧ k x = some r := by
  unfold ixb at h
  by_cases hi : 0 ≤ i
  · rw [if_pos hi] at h
    cases hx : l[i.toNat]? with
    | none => rw [hx] at h; cases h
    | some x => rw [hx] at h; exact ⟨x, rfl, ⟨hi, (List.getElem?_eq_some_iff.1 hx).1, by omega⟩, h⟩
  · rw [if_neg hi] at h; cases h
theorem lp_some {T O : Type} {body : T → Option (T ⊕ O)} {n : Nat} {t : T} {o : O} (h : lp body n t = some o) : ∃ m z, n = m + 1 ∧ body t = some z ∧ ocs z (fun u => lp body m u) (fun o => some o) = some o := by
  cases n with
  | zero => cases h
  | succ m =>
    obtain ⟨z, h1, h2⟩ := bnd_some (show bnd (body t) _ = _ from h)
    exact ⟨m, z, rfl, h1, h2⟩
theorem gif_some [Inhabited A] {b : Bool} {o : Option A} {x : A} (h : gif b o = some x) (hb : b = true) : o = some x := by
  rw [gif, if_pos hb] at h; exact h
theorem some_of {a b : A} (h : some a = some b) : a = b := Option.some.inj h

/-! ### Small rules -/
section
variable {P : Program} {e : Env} {s s' : St} {o : Oper}
theorem opD_ple {p q : Pd} (hv : p = q) (h : OpD P o e s p s') : OpD P o e s q s' := hv ▸ h
end

/-- A weaker state, and what was made since forgotten. -/
def WkQ (n m : Nat) (s : St) (Q : Exit → Env → St → Prop) (x : Exit) (e : Env) (st : St) : Prop :=
  Q x e st ∨ ∃ (l : List (Nat × Pd)) (st2 : St), Holds e l ∧ (∀ p ∈ l.map (·.2), p.Bnd n m) ∧ n ≤ st.boxes.length ∧ m ≤ st.fr.length ∧
    st2.boxes.length = n ∧ st2.fr = st.fr.take m ∧ st2.stat = st.stat ∧
    (∀ (i : Nat) (C : Bx), st2.boxes[i]? = some C → ∃ B, st.boxes[i]? = some B ∧ (C = B ∧ (s.boxes[i]? = some B ∨ ∀ q ∈ B.cs, q.Bnd n m) ∨ (B.t = C.t ∧ LeL B.cs C.cs ∧ ∀ q ∈ C.cs, q.Bnd n m))) ∧ Q x (Env.of l) st2

theorem srel_wk {g : G} {s s2 : St} {w : World} (hs : SRel g s w) (hf : s2.fr = s.fr) (hst : s2.stat = s.stat) (hl : s2.boxes.length = s.boxes.length)
    (h : ∀ (i : Nat) (C : Bx), s2.boxes[i]? = some C → ∃ B, s.boxes[i]? = some B ∧ B.t = C.t ∧ LeL B.cs C.cs ∧ ∀ q ∈ C.cs, q.Bnd s.boxes.length s.fr.length) : SRel g s2 w := by
  refine ⟨by rw [hs.len, hl], hs.nd, fun i C hC => ?_, by rw [hf]; exact hs.ow, hs.sl, by rw [hst]; exact hs.st, by rw [hst]; exact hs.sb, hs.bz⟩
  obtain ⟨B, hB, ht, hle, hb⟩ := h i C hC
  obtain ⟨k, vs, e1, e2, e2c, e3, e4, e6⟩ := hs.bx i B hB
  refine ⟨k, vs, e1, e2.trans (ver_same ht), e2c.same ht, ?_, fun q hq => ⟨fun hn => (e4 q hq).1 (hn.elim (fun h1 => .inl fun h0 => h1 ?_) fun h1 => .inr (by rw [ver_same ht]; exact h1)), (e4 q hq).2⟩, fun q hq => ?_⟩
  · show Pds _ _ _ _
    have e3' : Pds g w B.cs (vs.toList.take B.cs.length) := e3
    rw [← hle.length]
    exact hle.pds e3'
  · have := hle.length
    rw [h0] at this
    exact List.length_eq_zero_iff.1 this.symm
  · rw [hl, hf]; exact hb q hq

theorem srel_bnd {g : G} {s : St} {w : World} (hs : SRel g s w) {i : Nat} {B : Bx} (hB : s.boxes[i]? = some B) : ∀ q ∈ B.cs, q.Bnd s.boxes.length s.fr.length := by
  obtain ⟨k, vs, _, _, _, _, _, h⟩ := hs.bx i B hB
  exact h

theorem aw_wkq {P : Program} {nt : Nat} {c : Code} {Q : Exit → Env → St → Prop} {e : Env} {s : St} (n m : Nat) (hn : s.boxes.length ≤ n) (hm : s.fr.length ≤ m) (h : AW P nt c (WkQ n m s Q) e s) : AW P nt c Q e s := by
  intro m0 r g a w he hs
  refine wpIn_mono (h m0 r g a w he hs) ?_
  rintro x a1 w1 ⟨e1, s1, g1, hq | ⟨l, st2, hH, hl, hn2, hm2, hlen, hfr, hst, hbx, hq⟩, hx, he1, hs1⟩
  · exact ⟨e1, s1, g1, hq, hx, he1, hs1⟩
  · have hs1' : SRel g1 ⟨st2.boxes ++ s1.boxes.drop n, s1.fr, s1.stat⟩ w1 := by
      refine srel_wk hs1 rfl rfl (by simp [hlen]; omega) fun i C hC => ?_
      by_cases hi : i < n
      · have hC' : st2.boxes[i]? = some C := by
          have : (st2.boxes ++ s1.boxes.drop n)[i]? = some C := hC
          rwa [List.getElem?_append_left (by omega)] at this
        obtain ⟨B, hB, h1 | ⟨h1, h2, h3⟩⟩ := hbx i C hC'
        · obtain ⟨rfl, _⟩ := h1
          exact ⟨C, hB, rfl, LeL.refl _, srel_bnd hs1 hB⟩
        · exact ⟨B, hB, h1, h2, fun q hq => (h3 q hq).up hn2 hm2⟩
      · have : (st2.boxes ++ s1.boxes.drop n)[i]? = some C := hC
        rw [List.getElem?_append_right (by omega), List.getElem?_drop, hlen, show n + (i - n) = i by omega] at this
        exact ⟨C, this, rfl, LeL.refl _, srel_bnd hs1 this⟩
    have hlen2 : (st2.boxes ++ s1.boxes.drop n).length = s1.boxes.length := by simp [hlen]; omega
    obtain ⟨g2, q1, q2, q3, q4⟩ := cut (s2 := st2) hs hx hs1' (by
      cases st2 with | mk b f t =>
      simp only at hfr hst hlen
      subst hfr; subst hst
      simp [hlen]) hn hm (by show n ≤ (st2.boxes ++ s1.boxes.drop n).length; omega) hm2 (fun i B hi hB => by
      have hB' : st2.boxes[i]? = some B := by
        have : (st2.boxes ++ s1.boxes.drop n)[i]? = some B := hB
        rwa [List.getElem?_append_left (by omega)] at this
      obtain ⟨D, hD, h1 | ⟨h1, h2, h3⟩⟩ := hbx i B hB'
      · obtain ⟨rfl, h2⟩ := h1; exact h2
      · exact .inr h3)
    have he2 := Holds.of hH he1
    exact ⟨Env.of l, st2, g2, hq, q1, ⟨he2.size, he2.defers.sub q4, fun t => q3 _ _ (of_bnd hl t) (he2.tmp t)⟩, q2⟩

theorem wk_no {n m : Nat} {s : St} {Q : Exit → Env → St → Prop} {x : Exit} {e : Env} {st : St} (h : Q x e st) : WkQ n m s Q x e st := .inl h

theorem wk_yes {s : St} {bs0 bs bs' : List Bx} {fs0 fs fs' : List Fr} {k j : Nat} {l : List (Nat × Pd)} {e : Env} {Q : Exit → Env → St → Prop} {x : Exit} (hH : Holds e l) (hl : ∀ p ∈ l.map (·.2), p.Bnd (s.boxes.length + k) (s.fr.length + j)) (hj : j ≤ fs.length)
    (hk' : BxLe (bs.take k) bs') (hkl : bs'.length = k) (hj' : fs.take j = fs') (hb : ∀ B ∈ bs', ∀ q ∈ B.cs, q.Bnd (s.boxes.length + k) (s.fr.length + j)) (hq : Q x (Env.of l) (s.ext bs' fs')) : WkQ (s.boxes.length + k) (s.fr.length + j) (s.ext bs0 fs0) Q x e (s.ext bs fs) := by
  subst hj'
  have hkb : k ≤ bs.length := by have := hk'.length; rw [hkl, List.length_take] at this; omega
  refine .inr ⟨l, s.ext bs' (fs.take j), hH, hl, ?_, ?_, ?_, ?_, rfl, fun i C hC => ?_, hq⟩
  · rw [ext_boxes_length]; omega
  · rw [ext_fr_length]; omega
  · rw [ext_boxes_length, hkl]
  · simp only [St.ext, List.take_length_add_append]
  · by_cases h1 : i < s.boxes.length
    · simp only [St.ext, List.getElem?_append_left h1] at hC ⊢
      exact ⟨C, hC, .inl ⟨rfl, .inl hC⟩⟩
    · simp only [St.ext, List.getElem?_append_right (Nat.le_of_not_lt h1)] at hC ⊢
      obtain ⟨B, hB, ht, hle⟩ := hk'.get _ C hC
      rw [List.getElem?_take] at hB
      split at hB
      · exact ⟨B, hB, .inr ⟨ht, hle, hb C (List.mem_of_getElem? hC)⟩⟩
      · cases hB
end Go.Proofs.YtokcgacehdgkcaaGreatDoor.Eng

/- The engine: small things for printed walks. -/
namespace Go.Proofs.YtokcgacehdgkcaaGreatDoor.Eng
open Go.RowKit

/-! Lists that are written out. -/
section
variable {α β : Type}
theorem na (l : List α) : [] ++ l = l := rfl
theorem nb (a : α) (l m : List α) : (a :: l) ++ m = a :: (l ++ m) := rfl
theorem nc (f : α → β) (a : α) (l : List α) : (a :: l).map f = f a :: l.map f := rfl
theorem nd (f : α → β) : [].map f = [] := rfl
theorem nf (a b : α) (l : List α) : (a :: l).set 0 b = b :: l := rfl
theorem ng (a b : α) (l : List α) (n : Nat) : (a :: l).set (n + 1) b = a :: l.set n b := rfl
theorem nh (a : α) (l : List α) (n : Nat) : (a :: l).take (n + 1) = a :: l.take n := rfl
theorem ni (l : List α) : l.take 0 = [] := List.take_zero
theorem nj (a : α) (l : List α) (n : Nat) : (a :: l).drop (n + 1) = l.drop n := rfl
theorem nk (l : List α) : l.drop 0 = l := rfl
theorem nl (l : List α) : l ++ [] = l := List.append_nil l
theorem nm (n : Nat) : ([] : List α).drop n = [] := List.drop_nil
end
def Fits (b n : Nat) : Prop := n * b ≤ 140737488355328 ∧ n ≤ 9223372036854775807
instance (b n : Nat) : Decidable (Fits b n) := inferInstanceAs (Decidable (_ ∧ _))
def Below (i : Int) (n : Nat) : Prop := 0 ≤ i ∧ i.toNat < n
instance (i : Int) (n : Nat) : Decidable (Below i n) := inferInstanceAs (Decidable (_ ∧ _))
def UpTo (i : Int) (n : Nat) : Prop := 0 ≤ i ∧ i.toNat ≤ n
instance (i : Int) (n : Nat) : Decidable (UpTo i n) := inferInstanceAs (Decidable (_ ∧ _))
def Btw (i j : Int) (n : Nat) : Prop := 0 ≤ i ∧ i ≤ j ∧ j.toNat ≤ n
instance (i j : Int) (n : Nat) : Decidable (Btw i j n) := inferInstanceAs (Decidable (_ ∧ _))
theorem Below.eq {i : Int} {n : Nat} (h : Below i n) : i = ((i.toNat : Nat) : Int) := by have := h.1; omega
theorem UpTo.eq {i : Int} {n : Nat} (h : UpTo i n) : i = ((i.toNat : Nat) : Int) := by have := h.1; omega
theorem Btw.le {i j : Int} {n : Nat} (h : Btw i j n) : i.toNat ≤ j.toNat := by have := h.1; have := h.2.1; omega

/-- What its elements stand for speaks of nothing that is local. -/
def KB {α : Type} (k : Kn α) : Prop := ∀ (x : α) (n m : Nat), ∀ p ∈ k.cs x, p.Bnd n m
section
variable {α : Type} {k : Kn α}
theorem kbl (h : KB k) (l : List α) (n m : Nat) : ∀ x ∈ l, ∀ p ∈ k.cs x, p.Bnd n m := fun x _ => h x n m
theorem sl_b (h : KB k) {nl : Option Bool} {l : List α} {n m : Nat} : (sl k none nl l).Bnd n m := sl_bnd (kbl h l n m)
theorem kb_I (i : IntKind) : KB (kI i) := fun x n m p hp => by simp [kI] at hp; subst hp; exact pl_bnd _ _ _
theorem kb_S : KB kS := fun x n m p hp => by simp [kS] at hp; subst hp; exact pl_bnd _ _ _
end
variable {P : Program} {e : Env} {s : St} {dst : Option Tmp} {ty : TypeId} {pos : String} {after : Array Edge} {guard : Option (Nat × Bool)}
theorem wk_yes2 {s : St} {bs0 bs bs1 bs' : List Bx} {fs0 fs fs' : List Fr} {k j : Nat} {l : List (Nat × Pd)} {e : Env} {Q : Exit → Env → St → Prop} {x : Exit} (hH : Holds e l) (hl : ∀ p ∈ l.map (·.2), p.Bnd (s.boxes.length + k) (s.fr.length + j)) (hj : j ≤ fs.length)
    (hk0 : bs.take k = bs1) (hk' : BxLe bs1 bs') (hkl : bs'.length = k) (hj' : fs.take j = fs') (hb : ∀ B ∈ bs', ∀ q ∈ B.cs, q.Bnd (s.boxes.length + k) (s.fr.length + j)) (hq : Q x (Env.of l) (s.ext bs' fs')) : WkQ (s.boxes.length + k) (s.fr.length + j) (s.ext bs0 fs0) Q x e (s.ext bs fs) :=
  wk_yes hH hl hj (hk0 ▸ hk') hkl hj' hb hq
end Go.Proofs.YtokcgacehdgkcaaGreatDoor.Eng

/- The engine: results, each of its own. -/
namespace Go.Proofs.YtokcgacehdgkcaaGreatDoor.Eng
open Go.RowKit

def oneRes (r : ResultVar) (tmps : Array Value) : Sem Value :=
  match r with
  | .tmp t => pure (tmps.getD t undef)
  | .cell a t => do loadVar t (← asAddr (tmps.getD a undef))
def ResIt (P : Program) (e : Env) (s : St) (r : ResultVar) (p : Pd) : Prop :=
  ∀ (g : G) (a : Act) (w : World), (∀ t, (e t).h g w (a.tmps.getD t undef)) → SRel g s w → ∃ v, (oneRes r a.tmps).run P w = .ok v w ∧ p.h g w v
section
variable {P : Program} {e : Env} {s : St} {fn : Func}
theorem it_tmp {t : Tmp} {p : Pd} (hp : Env.ev e (.tmp t) = p) : ResIt P e s (.tmp t) p := fun _ a w ha _ => ⟨_, rfl, by rw [← hp]; exact ha t⟩
theorem run_oneRes_cell {a : Tmp} {ty : TypeId} {tmps : Array Value} {A : Addr} {v : Value} {w : World} (h : tmps.getD a undef = .pointer (some A)) (hl : (loadVar ty A).run P w = .ok v w) : (oneRes (.cell a ty) tmps).run P w = .ok v w := by
  simp only [oneRes, h, asAddr]
  simpa using hl
theorem it_cellA {a : Tmp} {ty : TypeId} {n b : Nat} {B : Bx} (hag : aggT P ty = some true) (hsz : sizeT P ty = some n) (ha : Env.ev e (.tmp a) = ptr b 0) (hB : s.boxes[b]? = some B) (hl : B.cs.length = n) (hT : Nat.blt B.t HOT = true := by rfl) : ResIt P e s (.cell a ty) (agg B.cs) := by
  intro g ac w hac hs
  have h1 := hac a
  rw [show e a = ptr b 0 from ha] at h1
  obtain ⟨k, vs, hv, h3, h4⟩ : ∃ k vs, ac.tmps.getD a undef = .pointer (some ⟨k, 0, none⟩) ∧ (B.cs ≠ [] → w.heap[k]? = some (.cells vs B.t (0, 0))) ∧ PdsP g w B.cs vs.toList := by
    by_cases hne : B.cs = []
    · obtain ⟨_, k, _, _, hv, _⟩ := h1
      exact ⟨k, #[], hv, fun h => absurd hne h, by rw [hne]; trivial⟩
    · obtain ⟨e0, k, vs, hv, hk, hb, h3, _, h4, _⟩ := ptv_at hs h1 hB (ver_plain hT) hne
      rw [obj_cells hT] at h3
      exact ⟨k, vs, hv, fun _ => h3, h4⟩
  have h4 : Pds g w B.cs (vs.toList.take B.cs.length) := h4
  have hc : ∀ j v, (vs.toList.take B.cs.length)[j]? = some v → w.cell? ((⟨k, 0, none⟩ : Addr).add j) = some v := by
    intro j v hj
    have hne : B.cs ≠ [] := fun h => by rw [h] at hj; simp at hj
    rw [List.getElem?_take_of_lt (by have := (List.getElem?_eq_some_iff.1 hj).1; rw [List.length_take] at this; omega)] at hj
    rw [Addr.add_lit, Nat.zero_add, box_cell (g := g) (h3 hne)]
    simpa using hj
  have hlv := run_loadVar_agg hag hsz (cs := vs.toList.take B.cs.length) (by rw [h4.length, hl]) hc
  exact ⟨_, run_oneRes_cell hv hlv, _, rfl, by simpa using h4⟩
def ResL (P : Program) (e : Env) (s : St) : List ResultVar → List Pd → Prop
  | [], [] => True
  | r :: rs, p :: ps => ResIt P e s r p ∧ ResL P e s rs ps
  | _, _ => False
theorem results_eq (fn : Func) (tmps : Array Value) : results fn tmps = (do let vs ← fn.results.mapM fun r => oneRes r tmps; pure (if h : vs.size = 1 then vs[0] else .tuple vs)) := by
  unfold results
  congr 1
theorem run_mapM {g : G} {a : Act} {w : World} (ha : ∀ t, (e t).h g w (a.tmps.getD t undef)) (hs : SRel g s w) : ∀ {rs : List ResultVar} {ps : List Pd}, ResL P e s rs ps → ∃ vs : List Value, (rs.mapM fun r => oneRes r a.tmps).run P w = .ok vs w ∧ Pds g w ps vs
  | [], [], _ => ⟨[], rfl, trivial⟩
  | r :: rs, p :: ps, ⟨h1, h2⟩ => by
    obtain ⟨v, e1, e2⟩ := h1 g a w ha hs
    obtain ⟨vs, e3, e4⟩ := run_mapM ha hs h2
    refine ⟨v :: vs, ?_, e2, e4⟩
    simp only [List.mapM_cons, Sem.run_bind, e1]
    show ((List.mapM (fun r => oneRes r a.tmps) rs).run P w).andThen _ = _
    rw [e3]; rfl
  | [], _ :: _, h => h.elim
  | _ :: _, [], h => h.elim
theorem res_list {rs : List ResultVar} {ps : List Pd} (h : fn.results = rs.toArray) (hl : Nat.beq ps.length 1 = false) (hL : ResL P e s rs ps) : Res P fn e s (tup ps) := by
  intro g a w ha hs
  obtain ⟨vs, e1, e2⟩ := run_mapM ha hs hL
  refine ⟨.tuple vs.toArray, ?_, _, rfl, by simpa using e2⟩
  rw [results_eq, h, List.mapM_toArray]
  simp only [map_eq_pure_bind, bind_assoc, pure_bind, Sem.run_bind, e1]
  have hv : vs.toArray.size ≠ 1 := by
    have := e2.length
    simp only [List.size_toArray]
    intro h1
    rw [← this, h1] at hl; cases hl
  show Sem.run P (pure (if h : vs.toArray.size = 1 then vs.toArray[0] else Value.tuple vs.toArray)) w = _
  rw [dif_neg hv]; rfl
theorem res_one {r : ResultVar} {p : Pd} (h : fn.results = #[r]) (hi : ResIt P e s r p) : Res P fn e s p := by
  intro g a w ha hs
  obtain ⟨v, e1, e2⟩ := hi g a w ha hs
  refine ⟨v, ?_, e2⟩
  rw [results_eq, h]
  simp [e1]
end

/-- What holds behind a piece of code, told. -/
theorem aw_mid {P : Program} {nt : Nat} {c : Code} {Q : Exit → Env → St → Prop} {e : Env} {s : St} (J : Env → St → Prop) (h : AW P nt c (Then J Q) e s) (h2 : ∀ e s, J e s → Q .normal e s) : AW P nt c Q e s :=
  h.mono fun x e s hq => by
    cases x with
    | normal => exact h2 e s hq
    | exit i => exact hq
    | goto l => exact hq
    | ret => exact hq
    | panic c => exact hq
    | outgrown => exact hq

/-! ### A function value that is called; some conversions -/
section
variable {P : Program} {e : Env} {s : St} {dst : Option Tmp} {ty : TypeId} {pos : String} {after : Array Edge} {guard : Option (Nat × Bool)} {bs bs' : List Bx} {fs fs' : List Fr}
/-- A row that was made takes an older one's place: nothing of the older one stands behind what is its own now. -/
theorem opD_adopt {o : Oper} {α : Type} {k : Kn α} {te : TypeId} {nl : Option Bool} {l : List α} {m j n0 : Nat} (hkb : KB k) (h : OpD P o e (s.ext bs fs) (sl k (some (s.fr.length + m)) nl l) (s.ext bs (fs ++ [⟨te, k.sz, l.length⟩]))) (hm : fs.length = m)
    (hj : fs[j]? = some ⟨te, k.sz, n0⟩) (hn : n0 ≤ l.length) (h' : fs.set j ⟨te, k.sz, l.length⟩ = fs') : OpD P o e (s.ext bs fs) (sl k (some (s.fr.length + j)) nl l) (s.ext bs fs') := by
  subst hm; subst h'
  intro g a w next Q ha hs hnx
  refine h g a w next Q ha hs fun v g1 w1 hp hx hs1 => ?_
  have hjl : j < fs.length := (List.getElem?_eq_some_iff.1 hj).1
  let M := s.fr.length + fs.length
  let J := s.fr.length + j
  let g2 : G := ⟨g1.sld, g1.box, fun b => match g1.own b with | some (i, c) => if i = M then some (J, c) else some (i, c) | none => none, g1.base⟩
  have hidl : ∀ b id c, g.own b = some (id, c) → id < M := fun b id c ho => by
    obtain ⟨f, cs, h1, _⟩ := hs.ow b id c ho
    have := (List.getElem?_eq_some_iff.1 h1).1
    rw [ext_fr_length] at this; exact this
  have e1 : ∀ b id c, id ≠ M → g1.own b = some (id, c) → g2.own b = some (id, c) := fun b id c hne ho => by
    show (match g1.own b with | some (i, c) => if i = M then some (J, c) else some (i, c) | none => none) = _
    rw [ho]; simp [hne]
  have e2 : ∀ b c, g1.own b = some (M, c) → g2.own b = some (J, c) := fun b c ho => by
    show (match g1.own b with | some (i, c) => if i = M then some (J, c) else some (i, c) | none => none) = _
    rw [ho]; simp
  have e3 : ∀ b id c, g2.own b = some (id, c) → (id ≠ M ∧ g1.own b = some (id, c)) ∨ (id = J ∧ g1.own b = some (M, c)) := fun b id c ho => by
    have ho' : (match g1.own b with | some (i, c) => if i = M then some (J, c) else some (i, c) | none => none) = some (id, c) := ho
    cases h1 : g1.own b with
    | none => rw [h1] at ho'; cases ho'
    | some i =>
      obtain ⟨i, c2⟩ := i
      rw [h1] at ho'
      simp only at ho'
      by_cases hi : i = M
      · rw [if_pos hi] at ho'
        simp only [Option.some.injEq, Prod.mk.injEq] at ho'
        exact .inr ⟨ho'.1.symm, by rw [hi, ho'.2]⟩
      · rw [if_neg hi] at ho'
        simp only [Option.some.injEq, Prod.mk.injEq] at ho'
        exact .inl ⟨by rw [← ho'.1]; exact hi, by rw [ho'.1, ho'.2]⟩
  have hk : ∀ (p : Pd) (n : Nat) (v : Value), p.Bnd n M → p.h g1 w1 v → p.h g2 w1 v := fun p n v hb hh => hb g1 g2 w1 v ⟨rfl, rfl⟩ (fun _ _ _ h => h) (fun b id c hid ho => e1 b id c (by omega) ho) hh
  have hx2 : Ext g w g2 w1 := by
    refine ⟨hx.os, hx.tape, hx.output, hx.size, hx.sld, hx.cell, hx.box, hx.boxf, fun b i hi => ?_, fun b i hi => ?_, hx.block, hx.base, hx.oth⟩
    · obtain ⟨id, c⟩ := i
      have := hidl b id c hi
      exact e1 b id c (by omega) (hx.own b _ hi)
    · obtain ⟨id, c⟩ := i
      rcases e3 b id c hi with ⟨_, h1⟩ | ⟨_, h1⟩
      · exact hx.fresh b _ h1
      · rcases hx.fresh b _ h1 with h2 | h2
        · have := hidl b _ _ h2; omega
        · exact .inr h2
  have hfM : (s.ext bs (fs ++ [⟨te, k.sz, l.length⟩])).fr[M]? = some ⟨te, k.sz, l.length⟩ := by
    show (s.fr ++ (fs ++ [_]))[M]? = _
    rw [← List.append_assoc, List.getElem?_append_right (by simp [M])]; simp [M]
  have hf1 : ∀ id, id < M → (s.ext bs (fs ++ [⟨te, k.sz, l.length⟩])).fr[id]? = (s.ext bs fs).fr[id]? := fun id hid => by
    show (s.fr ++ (fs ++ [_]))[id]? = (s.fr ++ fs)[id]?
    rw [← List.append_assoc, List.getElem?_append_left (by simpa [M] using hid)]
  have hf2 : (s.ext bs (fs.set j ⟨te, k.sz, l.length⟩)).fr = (s.ext bs fs).fr.set J ⟨te, k.sz, l.length⟩ := by
    show s.fr ++ fs.set j _ = (s.fr ++ fs).set (s.fr.length + j) _
    rw [List.set_append_right _ _ (by omega), Nat.add_sub_cancel_left]
  have hfJ : (s.ext bs fs).fr[J]? = some ⟨te, k.sz, n0⟩ := loc_fr hj
  have hJM : J < M := by show s.fr.length + j < s.fr.length + fs.length; omega
  refine hnx v g2 w1 ?_ hx2 ?_
  · obtain ⟨A, c, hv, h1, h2, h3, h4, h5⟩ := hp
    refine ⟨A, c, hv, h1, h2, h3, fun hne => ?_, fun id hid => ?_⟩
    · obtain ⟨b, off, hb, hc⟩ := h4 hne
      refine ⟨b, off, hb, fun i x hi q p hq => ?_⟩
      obtain ⟨h6, c2, h7, h8⟩ := hc i x hi q p hq
      exact ⟨h6, c2, h7, hk p 0 c2 (hkb x 0 M p (List.mem_of_getElem? hq)) h8⟩
    · cases hid
      rcases h5 _ rfl with h6 | ⟨b, hb, ho⟩
      · exact .inl h6
      · exact .inr ⟨b, hb, e2 b c ho⟩
  · refine ⟨hs1.len, hs1.nd, fun i B hB => ?_, fun b id c ho => ?_, hs1.sl, ?_, hs1.sb, hs1.bz⟩
    · have hB0 : (s.ext bs fs).boxes[i]? = some B := hB
      obtain ⟨q, vs, h1, h2, h2c, h3, h4, h6⟩ := hs1.bx i B hB
      have hbd := srel_bnd hs hB0
      rw [ext_fr_length] at hbd
      refine ⟨q, vs, h1, h2, h2c, ?_, fun k hk => ⟨(h4 k hk).1, ?_, (h4 k hk).2.2⟩, ?_⟩
      · exact PdsP.bnd (g := g1) (g' := g2) (n := (s.ext bs fs).boxes.length) (m := M) ⟨rfl, rfl⟩ (fun _ _ _ h => h) (fun b id c hid ho => e1 b id c (by omega) ho) hbd h3
      · show (match g1.own k with | some (i, c) => if i = M then some (J, c) else some (i, c) | none => none) = none
        rw [(h4 k hk).2.1]
      · intro p hp2
        have := hbd p hp2
        rw [ext_fr_length, List.length_set]; exact this
    · rcases e3 b id c ho with ⟨hne, h1⟩ | ⟨rfl, h1⟩
      · obtain ⟨f, cs, h2, h3, h4, h5⟩ := hs1.ow b id c h1
        have hlt : id < M := by
          have := (List.getElem?_eq_some_iff.1 h2).1
          rw [ext_fr_length, List.length_append, List.length_singleton] at this
          omega
        rw [hf1 id hlt] at h2
        by_cases hid : id = J
        · subst hid
          rw [hfJ] at h2; cases h2
          refine ⟨⟨te, k.sz, l.length⟩, cs, ?_, h3, h4, Nat.le_trans h5 (Nat.mul_le_mul_right _ hn)⟩
          rw [hf2, List.getElem?_set_self (by rw [ext_fr_length]; exact hJM)]
        · refine ⟨f, cs, ?_, h3, h4, h5⟩
          rw [hf2, List.getElem?_set_ne (Ne.symm hid)]; exact h2
      · obtain ⟨f, cs, h2, h3, h4, h5⟩ := hs1.ow b M c h1
        rw [hfM] at h2; cases h2
        refine ⟨⟨te, k.sz, l.length⟩, cs, ?_, h3, h4, h5⟩
        rw [hf2, List.getElem?_set_self (by rw [ext_fr_length]; exact hJM)]
    · exact (hs1.sb g1 g2 w1 .nilFunc ⟨rfl, rfl⟩ (fun _ _ h => absurd h (Nat.not_lt_zero _)) (fun _ _ _ h => absurd h (Nat.not_lt_zero _)) hs1.st)
end
end Go.Proofs.YtokcgacehdgkcaaGreatDoor.Eng

/- The engine: variables counted from a number that is named. -/
namespace Go.Proofs.YtokcgacehdgkcaaGreatDoor.Eng
open Go.RowKit
theorem loc_getN {s : St} {N : Nat} (hN : s.boxes.length = N) {bs : List Bx} {fs : List Fr} {i : Nat} {B : Bx} (h : bs[i]? = some B) : (s.ext bs fs).boxes[N + i]? = some B := hN ▸ loc_get h
section
variable {P : Program} {e : Env} {s : St} {N : Nat} {dst : Option Tmp} {ty : TypeId} {pos : String} {after : Array Edge} {guard : Option (Nat × Bool)} {bs bs' : List Bx} {fs fs' : List Fr}
theorem boxAN (hN : s.boxes.length = N) {t : TypeId} {x : Operand} {ps : List Pd} {n : Nat} (hx : e.ev x = agg ps) (hb : ∀ p ∈ ps, p.Bnd (N + n) (s.fr ++ fs).length) (hn : bs.length = n) (h' : bs ++ [⟨t, ps⟩] = bs') (hT : Nat.blt t HOT = true := by rfl) :
    OpD P ⟨dst, .box t x, ty, pos, after, guard⟩ e (s.ext bs fs) (ptr (N + n) 0) (s.ext bs' fs) := by subst hN; exact opD_boxA (hT := hT) hx hb hn h'
theorem allocN (hN : s.boxes.length = N) {t : TypeId} {zs : List Value} {n : Nat} (hz : zeroT P t = some zs) (hn : bs.length = n) (h' : bs ++ [⟨t, zs.map pl⟩] = bs') (hT : Nat.blt t HOT = true := by rfl) :
    OpD P ⟨dst, .alloc t, ty, pos, after, guard⟩ e (s.ext bs fs) (ptr (N + n) 0) (s.ext bs' fs) := by subst hN; exact opD_allocX (hT := hT) hz hn h'
theorem storeON (hN : s.boxes.length = N) {t : TypeId} {x y : Operand} {i off : Nat} {B : Bx} {p : Pd} {cs' : List Pd} (hn : sizeT P t = some 1) (hx : e.ev x = ptr (N + i) off) (hy : (e.ev y).le p) (h1 : p.One) (hB : bs[i]? = some B) (hl : off < B.cs.length) (hb : p.Bnd (N + bs.length) (s.fr ++ fs).length)
    (hc : B.cs.set off p = cs') (h' : bs.set i ⟨B.t, cs'⟩ = bs') (hT : Nat.blt B.t HOT = true := by rfl) : OpD P ⟨dst, .store t x y, ty, pos, after, guard⟩ e (s.ext bs fs) any (s.ext bs' fs) := by subst hN; exact opD_storeO (hT := hT) hn hx hy h1 hB hl (by rw [List.length_append]; exact hb) hc h'
theorem storeAN (hN : s.boxes.length = N) {t : TypeId} {n : Nat} {x y : Operand} {i off : Nat} {B : Bx} {ps cs' : List Pd} (hn : sizeT P t = some n) (hx : e.ev x = ptr (N + i) off) (hy : e.ev y = agg ps) (h1 : ∀ p ∈ ps, p.One) (hB : bs[i]? = some B) (hps : ps.length = n) (hl : off + n ≤ B.cs.length) (hne : B.cs ≠ [])
    (hb : ∀ p ∈ ps, p.Bnd (N + bs.length) (s.fr ++ fs).length) (hc : B.cs.take off ++ ps ++ B.cs.drop (off + n) = cs') (h' : bs.set i ⟨B.t, cs'⟩ = bs') (hT : Nat.blt B.t HOT = true := by rfl) : OpD P ⟨dst, .store t x y, ty, pos, after, guard⟩ e (s.ext bs fs) any (s.ext bs' fs) := by subst hN; exact opD_storeA (hT := hT) hn hx hy h1 hB hps hl hne (by rw [List.length_append]; exact hb) hc h'
theorem callLN (hN : s.boxes.length = N) {f : FuncId} {xs : List Operand} {ats : Array TypeId} {ps : List Pd} {i : Nat} {B B' : Bx} {p : Pd} (hf : hasText P f = true) (hc : ∀ s g, s.boxes[g]? = some B → AC P f (ptr g 0 :: ps) s p (s.upd g B')) (hB : bs[i]? = some B) (hx : Args e xs (ptr (N + i) 0 :: ps)) (h' : bs.set i B' = bs') :
    OpD P ⟨dst, .call { callee := .value (.func f), args := xs.toArray, argTypes := ats }, ty, pos, after, guard⟩ e (s.ext bs fs) p (s.ext bs' fs) := by subst hN; exact opD_callL hf hc hB hx h'
theorem callNN (hN : s.boxes.length = N) {f : FuncId} {xs : List Operand} {ats : Array TypeId} {ps : List Pd} {B : Bx} {n : Nat} (hf : hasText P f = true) (hc : ∀ s, AC P f ps s (ptr s.boxes.length 0) (s.ext [B] [])) (hx : Args e xs ps) (hn : bs.length = n) (h' : bs ++ [B] = bs') :
    OpD P ⟨dst, .call { callee := .value (.func f), args := xs.toArray, argTypes := ats }, ty, pos, after, guard⟩ e (s.ext bs fs) (ptr (N + n) 0) (s.ext bs' fs) := by subst hN; exact opD_callN hf hc hx hn h'
end
theorem wk_yesN {s : St} {N : Nat} (hN : s.boxes.length = N) {bs0 bs bs1 bs' : List Bx} {fs0 fs fs' : List Fr} {k j : Nat} {l : List (Nat × Pd)} {e : Env} {Q : Exit → Env → St → Prop} {x : Exit} (hH : Holds e l) (hl : ∀ p ∈ l.map (·.2), p.Bnd (N + k) (s.fr.length + j)) (hj : j ≤ fs.length)
    (hk0 : bs.take k = bs1) (hk' : BxLe bs1 bs') (hkl : bs'.length = k) (hj' : fs.take j = fs') (hb : ∀ B ∈ bs', ∀ q ∈ B.cs, q.Bnd (N + k) (s.fr.length + j)) (hq : Q x (Env.of l) (s.ext bs' fs')) : WkQ (N + k) (s.fr.length + j) (s.ext bs0 fs0) Q x e (s.ext bs fs) := by
  subst hN; exact wk_yes2 hH hl hj hk0 hk' hkl hj' hb hq
theorem aw_wkN {P : Program} {nt : Nat} {c : Code} {Q : Exit → Env → St → Prop} {e : Env} {s : St} {N : Nat} (hN : s.boxes.length = N) {bs : List Bx} {fs : List Fr} (n m : Nat) (hn : Nat.ble bs.length n = true) (hm : Nat.ble fs.length m = true) (h : AW P nt c (WkQ (N + n) (s.fr.length + m) (s.ext bs fs) Q) e (s.ext bs fs)) : AW P nt c Q e (s.ext bs fs) :=
  aw_wkq _ _ (by rw [ext_boxes_length, hN]; have := Nat.le_of_ble_eq_true hn; omega) (by rw [ext_fr_length]; have := Nat.le_of_ble_eq_true hm; omega) h
/-! ### Bytes of a text -/
def byteAt (s : ByteArray) (i : Int) : Int := (bytesOf s).getD i.toNat 0
theorem opD_index_str {P : Program} {e : Env} {s : St} {dst : Option Tmp} {ty : TypeId} {pos : String} {after : Array Edge} {guard : Option (Nat × Bool)} {t : TypeId} {x ix : Operand} {u : ByteArray} {k : IntKind} {n : Int} (ht : P.underlying t = some .string) (hx : e.ev x = pl (.string u)) (hi : e.ev ix = pl (.int k n)) (h : Below n u.size) :
    OpD P ⟨dst, .index t x ix, ty, pos, after, guard⟩ e s (pl (.int .u8 (byteAt u n))) s := by
  refine opD_index_plain hx hi fun w => ?_
  have h2 : n.toNat < u.size := h.2
  have hb : u[n.toNat]? = some u[n.toNat] := getElem?_pos u n.toNat h2
  have hn0 := h.1
  have hr := run_index_string w t u k n ht
  rw [dif_pos ⟨h.1, by omega⟩] at hr
  rw [hr]
  have : byteAt u n = ((u[n.toNat]).toNat : Int) := by
    unfold byteAt bytesOf
    rw [List.getD_eq_getElem?_getD, List.getElem?_map]
    have h3 : u.data.toList[n.toNat]? = some u[n.toNat] := by
      rw [Array.getElem?_toList]
      exact (Array.getElem?_eq_getElem (by exact h2)).trans rfl
    rw [h3]; rfl
  rw [this]

/-! ### Two objects -/
section
variable {P : Program} {ops : Array Oper} {KD : List Tr → Env → St → Prop} {l : List Oper} {acc : List Tr} {e : Env} {s : St} {dst : Option Tmp} {ty : TypeId} {pos : String} {after : Array Edge} {guard : Option (Nat × Bool)}
theorem dtlG1 {t : TypeId} {x : Operand} {m off : Nat} {B : Bx} {p : Pd} (ht : aggT P t = some false) (hx : e.ev x = ptr m off) (hB : s.boxes[m]? = some B) (hp : B.cs[off]? = some p) (hw : Wants ops ⟨dst, .load t x, ty, pos, after, guard⟩ e true)
    (h : DT P ops KD l (e.put dst p) s (acc ++ [⟨.load, p, s, fun s' => s'.boxes[m]? = some B⟩])) (hT : Nat.blt B.t HOT = true := by rfl) : DT P ops KD (⟨dst, .load t x, ty, pos, after, guard⟩ :: l) e s acc :=
  dtl p (fun s' => s'.boxes[m]? = some B) hw (fun s' hs' => opD_load_one (hT := hT) ht hx hs' hp) h
end
theorem fill_nil {place : Nat → Option (Nat × Nat)} {ps : List Pd} : fillP place ps [] = some ps := rfl
theorem fill_step {place : Nat → Option (Nat × Nat)} {ps ps' qs rs : List Pd} {i off size : Nat} {rest : List (Nat × List Pd)} (hp : place i = some (off, size)) (hl : qs.length = size) (hb : Nat.ble (off + size) ps.length = true) (hs : ps.take off ++ qs ++ ps.drop (off + size) = ps') (h : fillP place ps' rest = some rs) : fillP place ps ((i, qs) :: rest) = some rs := by
  subst hs
  rw [fillP, hp]
  simp only
  rw [if_pos ⟨hl, Nat.le_of_ble_eq_true hb⟩]; exact h
section
variable {P : Program} {e : Env} {s : St} {dst : Option Tmp} {ty : TypeId} {pos : String} {after : Array Edge} {guard : Option (Nat × Bool)} {bs : List Bx} {fs fs' : List Fr}
/-- A literal is a row of one's own: nothing stands behind its end. -/
theorem opD_buildOwn {α : Type} {k : Kn α} {t te : TypeId} {n m : Nat} {parts : List (Nat × Operand)} {qss : List (Nat × List Pd)} {zs : List Value} (l : List α) (ht : P.underlying t = some (.slice te)) (hsz : sizeT P te = some k.sz) (hz : zeroT P te = some zs) (hn : n * k.sz ≤ 16777216) (hl : l.length = n)
    (hp : Parts e parts qss) (hzl : zs.length = k.sz) (hf : fillP (fun i => some (i * k.sz, k.sz)) ((List.replicate n zs).flatten.map pl) qss = some (flat k l)) (hm : fs.length = m) (h' : fs ++ [⟨te, k.sz, l.length⟩] = fs') :
    OpD P ⟨dst, .buildSlice t n parts.toArray, ty, pos, after, guard⟩ e (s.ext bs fs) (sl k (some (s.fr.length + m)) none l) (s.ext bs fs') := by
  refine opD_fr (F := ⟨te, k.sz, l.length⟩) ?_ h'
  exact opD_le (opD_buildSliceO (some (s.fr.length + m)) l ht hsz hz hn hl hp hzl hf) (sl_nl _ _ _ _)
end

/-! ### Loads under a condition, in a drawn region -/
theorem eqn {P : Program} {t : TypeId} {fs : Array Field} {xs ys : Array Value} {w : World} {r : Bool} {d : Nat} (hu : P.underlying t = some (.struct fs)) (hp : P.stoodInHeld t = false) (h : (Op.eqFields d xs ys fs.toList).run P w = .ok r w) : (Op.equalIn (d + 1) t (.agg xs) (.agg ys)).run P w = .ok r w := by
  have hf : P.fieldsOf t = fs := by simp [Program.fieldsOf, hu]
  have h1 := run_equalIn_struct w d t xs ys (by rw [hf]; exact hu) hp
  rw [hf, h] at h1
  exact h1
end Go.Proofs.YtokcgacehdgkcaaGreatDoor.Eng

/- Plain laws about the functions that were read off. -/
namespace Go.Proofs.YtokcgacehdgkcaaGreatDoor.Eng
open Go.RowKit

section
variable {R A B T O : Type}
@[simp] theorem bnd_s (a : A) (k : A → Option R) : bnd (some a) k = k a := rfl
@[simp] theorem ltv_s (a : A) (k : A → Option R) : ltv a k = k a := rfl
@[simp] theorem ifb_1 (x y : Option R) : ifb true x y = x := rfl
@[simp] theorem ifb_0 (x y : Option R) : ifb false x y = y := rfl
@[simp] theorem ocs_1 (a : A) (f : A → Option R) (g : B → Option R) : ocs (.inl a) f g = f a := rfl
@[simp] theorem ocs_2 (b : B) (f : A → Option R) (g : B → Option R) : ocs (.inr b) f g = g b := rfl
theorem grd_t {c : Prop} [Decidable c] (h : c) (k : Option R) : grd c k = k := by unfold grd; rw [if_pos h]
@[simp] theorem gif_1 [Inhabited A] (o : Option A) : gif true o = o := rfl
@[simp] theorem gif_0 [Inhabited A] (o : Option A) : gif false o = some default := rfl
theorem gif_s [Inhabited A] (b : Bool) (a : A) : gif b (some a) = some (if b = true then a else default) := by cases b <;> rfl
theorem ixb_at {l : List A} {i : Int} {x : A} (h0 : 0 ≤ i) (h : l[i.toNat]? = some x) (k : A → Option R) : ixb l i k = k x := by
  unfold ixb; rw [if_pos h0, h]
theorem ixb_n {l : List A} {n : Nat} {x : A} (h : l[n]? = some x) (k : A → Option R) : ixb l (n : Int) k = k x := ixb_at (by omega) (by simpa using h) k
theorem wrap_u64 {n : Int} (h : 0 ≤ n ∧ n < 18446744073709551616) : IntKind.u64.wrap n = n := IntWalk.u64_in _ (by omega)
theorem wrap_i64 {n : Int} (h : -9223372036854775808 ≤ n ∧ n < 9223372036854775808) : IntKind.i64.wrap n = n := IntWalk.i64_in _ (by omega)
theorem wrap_u8 {n : Int} (h : 0 ≤ n ∧ n < 256) : IntKind.u8.wrap n = n := IntWalk.u8_in _ (by omega)
end
end Go.Proofs.YtokcgacehdgkcaaGreatDoor.Eng
