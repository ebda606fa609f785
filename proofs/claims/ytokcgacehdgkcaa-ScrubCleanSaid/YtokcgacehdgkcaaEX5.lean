/- The engine: the orders of a drawn region, told apart. -/
import Derived.Test.YtokcgacehdgkcaaEngX4
namespace Go.Proofs.Ytokcgacehdgkcaa.Eng
open Go Go.RowKit
set_option linter.unusedVariables false
set_option linter.unusedSimpArgs false

/-! ### Two regions alike but for their edges and the order in which they are written -/
/-! ### One more edge -/
/-! ### Two neighbours in the other order -/
/-! ### At the level of a walk -/
end Go.Proofs.Ytokcgacehdgkcaa.Eng

/- The engine: rows that are written in place. They lie in a box that has a version. -/
namespace Go.Proofs.Ytokcgacehdgkcaa.Eng
open Go.RowKit

def hot (te r : Nat) : TypeId := te + HOT * r
theorem hot_ver {te r : Nat} {cs : List Pd} (h : Nat.blt te HOT = true) : (⟨hot te r, cs⟩ : Bx).ver = r := by
  have h1 : te < HOT := Eq.mp Nat.blt_eq h
  show (te + HOT * r) / HOT = r
  rw [Nat.add_mul_div_left _ _ (by decide), Nat.div_eq_of_lt h1]; omega
theorem hot_mod {te r : Nat} (h : Nat.blt te HOT = true) : hot te r % HOT = te := by
  have h1 : te < HOT := Eq.mp Nat.blt_eq h
  show (te + HOT * r) % HOT = te
  rw [Nat.add_mul_mod_self_left, Nat.mod_eq_of_lt h1]
theorem hot_obj {te r : Nat} {cs : List Pd} (h : Nat.blt te HOT = true) (hr : 2 ≤ r) (vs : Array Value) : (⟨hot te r, cs⟩ : Bx).obj vs = .cells vs te (0, 0) := by
  have h1 : (hot te r) / HOT = r := hot_ver (cs := cs) h
  have h2 := hot_mod (r := r) h
  have h3 : Nat.beq r 1 = false := by
    cases hh : Nat.beq r 1 with
    | false => rfl
    | true => have := Nat.eq_of_beq_eq_true hh; omega
  unfold Bx.obj
  simp only [h1, h2, h3]; rfl

/-- A slice of the cells of a box: the box's version, where it begins, how many, and how many cells an element has. -/
def hsl (b r off n sz : Nat) : Pd := ⟨fun g _ v => ∃ e A c, g.box[b]? = some e ∧ r ≤ e.ver ∧ v = .slice A n c ∧ n ≤ c ∧ (A = none → c = 0) ∧ (e.ver = r → (e.blk = none ∧ c = 0) ∨ ∃ k, e.blk = some k ∧ A = some ⟨k, off, none⟩ ∧ off + c * sz = e.cnt), by
  rintro g w g' w' v hx ⟨e, A, c, h1, h2, h3, h4, h5, h6⟩
  obtain ⟨e', q1, q2, q3⟩ := hx.box b e h1
  refine ⟨e', A, c, q1, Nat.le_trans h2 q2, h3, h4, h5, fun h => ?_⟩
  have : e.ver = e'.ver := by omega
  have q4 := q3 this
  subst q4
  exact h6 h⟩
theorem hsl_bnd {b r off n sz N : Nat} (m : Nat) (h : b < N) : (hsl b r off n sz).Bnd N m := fun _ _ _ _ _ hb _ ⟨e, A, c, h1, h2⟩ => ⟨e, A, c, hb b e h h1, h2⟩
theorem one_hsl (b r off n sz : Nat) : (hsl b r off n sz).One := fun _ _ _ ⟨_, _, _, _, _, hv, _⟩ => by rw [hv]; rfl

section
variable {P : Program} {e : Env} {s : St} {dst : Option Tmp} {ty : TypeId} {pos : String} {after : Array Edge} {guard : Option (Nat × Bool)} {bs bs' : List Bx} {fs fs' : List Fr}

end

section
variable {P : Program} {e : Env} {s : St} {dst : Option Tmp} {ty : TypeId} {pos : String} {after : Array Edge} {guard : Option (Nat × Bool)} {bs bs' : List Bx} {fs fs' : List Fr}
theorem flatKB {α : Type} {k : Kn α} {l : List α} {n m : Nat} (hkb : ∀ x n m, ∀ p ∈ k.cs x, p.Bnd n m) : ∀ p ∈ flat k l, p.Bnd n m := fun p hp => by
  simp only [flat, List.mem_flatMap] at hp
  obtain ⟨x, _, hx⟩ := hp
  exact hkb x n m p hx
end

/-! ### Sealed: from here on nobody writes it -/
def SealOk {α : Type} (k : Kn α) (l : List α) (b r : Nat) (p q : Pd) : Prop :=
  ∀ g w v, (∃ e, g.box[b]? = some e ∧ e.ver = r ∧ (∀ kk, e.blk = some kk → SlCells k l g w kk 0) ∧ (l ≠ [] → e.blk ≠ none)) → p.h g w v → q.h g w v
theorem seal_same {α : Type} {k : Kn α} {l : List α} {b r : Nat} (p : Pd) : SealOk k l b r p p := fun _ _ _ _ h => h
theorem seal_sl {α : Type} {k : Kn α} {l : List α} {b r : Nat} : SealOk k l b r (hsl b r 0 l.length k.sz) (sl k none none l) := by
  rintro g w v ⟨e, h1, h2, h3, h4⟩ ⟨e', A, c, q1, q2, q3, q4, q5, q6⟩
  rw [h1] at q1; cases q1
  refine ⟨A, c, q3, q4, (fun _ h => by cases h), q5, fun hne => ?_, fun _ h => by cases h⟩
  rcases q6 h2 with ⟨h5, _⟩ | ⟨kk, h5, h6, _⟩
  · exact absurd h5 (h4 hne)
  · exact ⟨kk, 0, h6, h3 kk h5⟩
def SealL {α : Type} (k : Kn α) (l : List α) (b r : Nat) : List Pd → List Pd → Prop
  | [], [] => True
  | p :: ps, q :: qs => SealOk k l b r p q ∧ SealL k l b r ps qs
  | _, _ => False
theorem SealL.refl {α : Type} {k : Kn α} {l : List α} {b r : Nat} : ∀ ps : List Pd, SealL k l b r ps ps
  | [] => trivial
  | p :: ps => ⟨seal_same p, SealL.refl ps⟩
theorem SealL.len {α : Type} {k : Kn α} {l : List α} {b r : Nat} : ∀ {ps qs : List Pd}, SealL k l b r ps qs → ps.length = qs.length
  | [], [], _ => rfl
  | _ :: _, _ :: _, h => by simp [SealL.len h.2]
  | [], _ :: _, h => h.elim
  | _ :: _, [], h => h.elim
theorem SealL.pds {α : Type} {k : Kn α} {l : List α} {b r : Nat} {g : G} {w : World} (hs : ∃ e, g.box[b]? = some e ∧ e.ver = r ∧ (∀ kk, e.blk = some kk → SlCells k l g w kk 0) ∧ (l ≠ [] → e.blk ≠ none)) : ∀ {ps qs : List Pd} {vs : List Value}, SealL k l b r ps qs → Pds g w ps vs → Pds g w qs vs
  | [], [], [], _, h => h
  | _ :: _, _ :: _, _ :: _, ⟨h1, h2⟩, ⟨h3, h4⟩ => ⟨h1 _ _ _ hs h3, SealL.pds hs h2 h4⟩
  | [], [], _ :: _, _, h => h.elim
  | _ :: _, _ :: _, [], _, h => h.elim
  | [], _ :: _, _, h, _ => h.elim
  | _ :: _, [], _, h, _ => h.elim
def SealBs {α : Type} (k : Kn α) (l : List α) (b r : Nat) : Nat → List Bx → List Bx → Prop
  | _, [], [] => True
  | 0, B :: bs, C :: cs => C = ⟨B.t + HOT, []⟩ ∧ B.cs = flat k l ∧ SealBs k l b r (bs.length + 1) bs cs
  | n + 1, B :: bs, C :: cs => B.t = C.t ∧ SealL k l b r B.cs C.cs ∧ SealBs k l b r n bs cs
  | _, _, _ => False
theorem SealBs.len {α : Type} {k : Kn α} {l : List α} {b r : Nat} : ∀ {n : Nat} {bs cs : List Bx}, SealBs k l b r n bs cs → bs.length = cs.length
  | _, [], [], _ => rfl
  | 0, _ :: _, _ :: _, h => by simp [SealBs.len h.2.2]
  | _ + 1, _ :: _, _ :: _, h => by simp [SealBs.len h.2.2]
  | _, [], _ :: _, h => by cases ‹Nat› <;> exact h.elim
  | 0, _ :: _, [], h => h.elim
  | _ + 1, _ :: _, [], h => h.elim
theorem SealBs.get {α : Type} {k : Kn α} {l : List α} {b r : Nat} : ∀ {n : Nat} {bs cs : List Bx}, SealBs k l b r n bs cs → ∀ (j : Nat) (C : Bx), cs[j]? = some C → ∃ B, bs[j]? = some B ∧ (j = n ∧ C = ⟨B.t + HOT, []⟩ ∧ B.cs = flat k l ∨ j ≠ n ∧ B.t = C.t ∧ SealL k l b r B.cs C.cs)
  | _, [], [], _, j, C, hC => by simp at hC
  | 0, B :: bs, D :: cs, h, 0, C, hC => by simp at hC; subst hC; exact ⟨B, rfl, .inl ⟨rfl, h.1, h.2.1⟩⟩
  | 0, B :: bs, D :: cs, h, j + 1, C, hC => by
    simp at hC
    obtain ⟨B', h1, h2 | h2⟩ := SealBs.get h.2.2 j C hC
    · have := (List.getElem?_eq_some_iff.1 h1).1; omega
    · exact ⟨B', by simpa using h1, .inr ⟨by omega, h2.2⟩⟩
  | n + 1, B :: bs, D :: cs, h, 0, C, hC => by simp at hC; subst hC; exact ⟨B, rfl, .inr ⟨by omega, h.1, h.2.1⟩⟩
  | n + 1, B :: bs, D :: cs, h, j + 1, C, hC => by
    simp at hC
    obtain ⟨B', h1, h2 | h2⟩ := SealBs.get h.2.2 j C hC
    · exact ⟨B', by simpa using h1, .inl ⟨by omega, h2.2⟩⟩
    · exact ⟨B', by simpa using h1, .inr ⟨by omega, h2.2⟩⟩
  | n, [], _ :: _, h, _, _, _ => by cases n <;> exact h.elim
  | 0, _ :: _, [], h, _, _, _ => h.elim
  | _ + 1, _ :: _, [], h, _, _, _ => h.elim
def SealE {α : Type} (k : Kn α) (l : List α) (b r : Nat) (e : Env) : List (Nat × Pd) → Prop
  | [] => True
  | (t, q) :: r' => SealOk k l b r (e t) q ∧ SealE k l b r e r'
theorem SealE.of {α : Type} {k : Kn α} {l : List α} {b r : Nat} {e : Env} {g : G} {w : World} {tm : Nat → Value} (hs : ∃ e, g.box[b]? = some e ∧ e.ver = r ∧ (∀ kk, e.blk = some kk → SlCells k l g w kk 0) ∧ (l ≠ [] → e.blk ≠ none)) (he : ∀ t, (e t).h g w (tm t)) : ∀ {L : List (Nat × Pd)}, SealE k l b r e L → ∀ t, (Env.of L t).h g w (tm t)
  | [], _, t => by rw [of_nil]; trivial
  | (u, q) :: L, h, t => by
    by_cases htu : t = u
    · subst htu; rw [of_same]; exact h.1 g w _ hs (he t)
    · rw [of_ne _ _ _ _ htu]; exact SealE.of hs he h.2 t

theorem aw_seal {P : Program} {nt : Nat} {c : Code} {Q : Exit → Env → St → Prop} {e : Env} {s : St} {bs bs' : List Bx} {fs : List Fr} {α : Type} {k : Kn α} {l : List α} {N i r te : Nat} (hN : s.boxes.length = N) (L : List (Nat × Pd)) (hi : bs[i]? = some ⟨hot te r, flat k l⟩) (hte : Nat.blt te HOT = true) (hr : 2 ≤ r) (hev : r % 2 = 0) (hz : 0 < k.sz)
    (hbs : SealBs k l (N + i) r i bs bs') (hb : ∀ B ∈ bs', ∀ q ∈ B.cs, q.Bnd (N + bs'.length) (s.fr.length + fs.length)) (hL : SealE k l (N + i) r e L) (h : AW P nt c Q (Env.of L) (s.ext bs' fs)) : AW P nt c Q e (s.ext bs fs) := by
  subst hN
  intro m1 r1 g a w he hs
  have hlen := hbs.len
  obtain ⟨ee, vs, h1, h2, h3, h4, h5, h6⟩ := hs.bx (s.boxes.length + i) _ (loc_get hi)
  rw [hot_ver hte] at h2
  let g1 : G := ⟨fun x => max (g.sld x) (if ee.blk = some x then (flat k l).length else 0), g.box, g.own, g.base⟩
  let g' : G := ⟨g1.sld, g.box.set (s.boxes.length + i) ⟨ee.blk, r + 1, ee.cnt⟩, g.own, g.base⟩
  have hgs : ∀ x, ee.blk ≠ some x → g'.sld x = g.sld x := fun x hx => by
    show max (g.sld x) (if ee.blk = some x then _ else 0) = _
    rw [if_neg hx]; omega
  have hgk : ∀ x, ee.blk = some x → (flat k l).length ≤ g'.sld x := fun x hx => by
    show _ ≤ max (g.sld x) (if ee.blk = some x then _ else 0)
    rw [if_pos hx]; omega
  have hx0 : Ext g w g1 w := ⟨rfl, rfl, rfl, Nat.le_refl _, fun b => Nat.le_max_left _ _, fun _ _ _ => rfl, fun _ e h => ⟨e, h, Nat.le_refl _, fun _ => rfl⟩, fun _ h => .inl h, fun _ _ h => h, fun _ _ h => .inl h, fun _ _ _ _ _ => rfl, rfl, fun _ _ h _ _ => h⟩
  have hil : s.boxes.length + i < g.box.length := (List.getElem?_eq_some_iff.1 h1).1
  have hset : ∀ j f, (g.box.set (s.boxes.length + i) ⟨ee.blk, r + 1, ee.cnt⟩)[j]? = some f → (j = s.boxes.length + i ∧ f = ⟨ee.blk, r + 1, ee.cnt⟩) ∨ (j ≠ s.boxes.length + i ∧ g.box[j]? = some f) := fun j f hf => by
    by_cases hj : j = s.boxes.length + i
    · rw [hj, List.getElem?_set_self hil] at hf; cases hf; exact .inl ⟨hj, rfl⟩
    · rw [List.getElem?_set_ne (Ne.symm hj)] at hf; exact .inr ⟨hj, hf⟩
  have hx1 : Ext g1 w g' w := by
    refine ⟨rfl, rfl, rfl, Nat.le_refl _, fun _ => Nat.le_refl _, fun _ _ _ => rfl, fun j f hf => ?_, fun q hq => ?_, fun _ _ h => h, fun _ _ h => .inl h, fun _ _ _ _ _ => rfl, rfl, fun _ _ h _ _ => h⟩
    · replace hf : g.box[j]? = some f := hf
      by_cases hj : j = s.boxes.length + i
      · subst hj
        rw [h1] at hf; cases hf
        exact ⟨_, List.getElem?_set_self hil, by show ee.ver ≤ r + 1; omega, fun hh => by have : ee.ver = r + 1 := hh; omega⟩
      · exact ⟨f, by show (g.box.set _ _)[j]? = _; rw [List.getElem?_set_ne (Ne.symm hj)]; exact hf, Nat.le_refl _, fun _ => rfl⟩
    · obtain ⟨j, f, hf, hfq⟩ := hq
      rcases hset j f hf with ⟨q1, rfl⟩ | ⟨q1, q2⟩
      · exact .inl ⟨_, ee, h1, hfq⟩
      · exact .inl ⟨j, f, q2, hfq⟩
  have hx := hx0.trans hx1
  have hseal : ∃ e, g1.box[s.boxes.length + i]? = some e ∧ e.ver = r ∧ (∀ kk, e.blk = some kk → SlCells k l g1 w kk 0) ∧ (l ≠ [] → e.blk ≠ none) := by
    refine ⟨ee, h1, h2, fun kk hk => slCells_of_flat fun q p hq => ?_, fun hne hk => ?_⟩
    · obtain ⟨v, q1, q2⟩ := h4.get q p hq
      have hq2 := (List.getElem?_eq_some_iff.1 hq).1
      have := hgk kk hk
      unfold Cont at h3
      rw [hk, hot_obj hte hr] at h3
      refine ⟨by have : g1.sld kk = g'.sld kk := rfl; omega, v, ?_, p.mono hx0 q2⟩
      rw [Nat.zero_add, box_cell (g := g) h3.1]; simpa using q1
    · unfold Cont at h3
      rw [hk] at h3
      have := h4.len
      rw [h3.1] at this
      simp only [flat_length, List.size_toArray, List.length_nil] at this
      have h7 : 0 < l.length := List.length_pos_iff.2 hne
      have := Nat.mul_pos h7 hz
      simp at *
      omega
  have hS : SRel g' (s.ext bs' fs) w := by
    refine ⟨by show (g.box.set _ _).length = _; rw [List.length_set, ext_boxes_length, ← hlen, ← ext_boxes_length s bs fs]; exact hs.len, ?_, fun j C hC => ?_, fun b id c ho => ?_, fun b hn => ?_, s.stat.mono hx hs.st, hs.sb, hs.bz⟩
    · intro a b e1 e2 q q1 q2 q3 q4
      rcases hset a e1 q1 with ⟨q5, rfl⟩ | ⟨q5, q6⟩ <;> rcases hset b e2 q2 with ⟨q7, rfl⟩ | ⟨q7, q8⟩
      · rw [q5, q7]
      · exact absurd (hs.nd _ b ee e2 q h1 q8 q3 q4) (Ne.symm q7)
      · exact absurd (hs.nd _ a ee e1 q h1 q6 q4 q3) (Ne.symm q5)
      · exact hs.nd a b e1 e2 q q6 q8 q3 q4
    · have hother : ∀ (f : BE) q, g.box[j]? = some f → j ≠ s.boxes.length + i → f.blk = some q → g'.sld q = g.sld q := fun f q hf hj hq => hgs q fun hk => hj (hs.nd j _ f ee q hf h1 hq hk)
      by_cases hj : j < s.boxes.length
      · have hC' : (s.ext bs fs).boxes[j]? = some C := by
          simp only [St.ext, List.getElem?_append_left hj] at hC ⊢; exact hC
        obtain ⟨f, us, q1, q2, q3, q4, q5, q6⟩ := hs.bx j C hC'
        exact ⟨f, us, by show (g.box.set _ _)[j]? = _; rw [List.getElem?_set_ne (by omega)]; exact q1, q2, q3, q4.mono hx, fun q hq => by rw [hother f q q1 (by omega) hq]; exact q5 q hq, by rw [ext_boxes_length, ← hlen, ← ext_boxes_length s bs fs]; exact q6⟩
      · simp only [St.ext, List.getElem?_append_right (Nat.le_of_not_lt hj)] at hC
        obtain ⟨B, hB, hd | hd⟩ := hbs.get _ C hC
        · obtain ⟨r1, r2, r3⟩ := hd
          have hji : j = s.boxes.length + i := by omega
          subst hji
          rw [Nat.add_sub_cancel_left] at hB
          rw [hi] at hB; cases hB
          subst r2
          have hv1 : (⟨hot te r + HOT, []⟩ : Bx) = ⟨hot te (r + 1), []⟩ := by unfold hot; rw [Nat.mul_add, Nat.mul_one, Nat.add_assoc]
          rw [show (⟨(⟨hot te r, flat k l⟩ : Bx).t + HOT, []⟩ : Bx) = ⟨hot te (r + 1), []⟩ from hv1]
          refine ⟨_, vs, List.getElem?_set_self hil, (hot_ver hte).symm, ?_, trivial, fun q hq => ⟨fun h0 => ?_, (h5 q hq).2⟩, fun p hp => by cases hp⟩
          · unfold Cont at h3 ⊢
            cases hk : ee.blk with
            | none => rw [hk] at h3; exact h3
            | some kk => rw [hk] at h3; exact ⟨by rw [hot_obj hte (by omega)]; rw [hot_obj hte hr] at h3; exact h3.1, fun _ => h3.2 (by rw [hot_ver hte]; exact hr)⟩
          · rcases h0 with h0 | ⟨_, h0⟩
            · exact absurd rfl h0
            · rw [hot_ver hte] at h0; omega
        · obtain ⟨r1, r2, r3⟩ := hd
          have hB' : (s.ext bs fs).boxes[j]? = some B := by
            simp only [St.ext, List.getElem?_append_right (Nat.le_of_not_lt hj)]; exact hB
          obtain ⟨f, us, q1, q2, q3, q4, q5, q6⟩ := hs.bx j B hB'
          refine ⟨f, us, by show (g.box.set _ _)[j]? = _; rw [List.getElem?_set_ne (by omega)]; exact q1, q2.trans (ver_same r2), q3.same r2, ?_, fun q hq => ?_, ?_⟩
          · show Pds _ _ _ _
            rw [← r3.len]
            exact Pds.mono hx1 (r3.pds hseal (q4.mono hx0))
          · rw [hother f q q1 (by omega) hq]
            refine ⟨fun hn => (q5 q hq).1 (hn.elim (fun h0 => .inl fun h7 => h0 ?_) fun h1 => .inr (by rw [ver_same r2]; exact h1)), (q5 q hq).2⟩
            have := r3.len
            rw [h7] at this
            exact List.length_eq_zero_iff.1 this.symm
          · rw [ext_boxes_length, ext_fr_length]
            exact hb C (List.mem_of_getElem? hC)
    · obtain ⟨f, cs, q1, q2, q3, q4⟩ := hs.ow b id c ho
      refine ⟨f, cs, q1, q2, q3, ?_⟩
      rw [hgs b fun hk => ?_]
      · exact q4
      · have := (h5 b hk).2.1
        rw [show g.own b = some (id, c) from ho] at this; cases this
    · by_cases hk : ee.blk = some b
      · exact h3.lt hk
      · rw [hgs b hk] at hn; exact hs.sl b hn
  refine wpIn_mono (h m1 r1 g' a w ⟨he.size, he.defers.mono hx, fun t => (Env.of L t).mono hx1 (SealE.of hseal (fun t => (e t).mono hx0 (he.tmp t)) hL t)⟩ hS) ?_
  rintro x a1 w1 ⟨e1, s1, g1, hq, hx1, he1, hs1⟩
  exact ⟨e1, s1, g1, hq, hx.trans hx1, he1, hs1⟩
end Go.Proofs.Ytokcgacehdgkcaa.Eng

/- The engine: rows in place: more operations. -/
namespace Go.Proofs.Ytokcgacehdgkcaa.Eng
open Go.RowKit

section
variable {P : Program} {e : Env} {s : St} {N : Nat} {dst : Option Tmp} {ty : TypeId} {pos : String} {after : Array Edge} {guard : Option (Nat × Bool)} {bs bs' : List Bx} {fs fs' : List Fr}

theorem ones_flat {α : Type} {k : Kn α} {l : List α} : ∀ p ∈ flat k l, p.One := fun p hp => by
  simp only [flat, List.mem_flatMap] at hp
  obtain ⟨x, _, hx⟩ := hp
  exact k.one x p hx
/-! ### Slices of a row in place -/
/-! ### A row of the caller's -/
theorem seal_e {α : Type} {k : Kn α} {l : List α} {b r t : Nat} {p q : Pd} (h : Env.ev e (.tmp t) = p) (h2 : SealOk k l b r p q) : SealOk k l b r (e t) q := by
  have h : e t = p := h
  rw [h]; exact h2
end
end Go.Proofs.Ytokcgacehdgkcaa.Eng

/- The engine: arrays. -/
namespace Go.Proofs.Ytokcgacehdgkcaa.Eng
open Go.RowKit Go.ChangeShapes Go.WideShapes

theorem cellsN {e : Env} {x : Operand} {α : Type} {k : Kn α} (hx : e.ev x = pl (.slice none 0 0)) : CellsOf (e.ev x) [sl k none none ([] : List α)] := by
  rw [hx]; exact fun g w v h => cellsOf_one (one_sl _ _ _ _) g w v (sl_nl _ _ _ _ g w v (nil_le k none g w v h))
theorem flat_at {α : Type} {k : Kn α} (h : k.sz = 1) {l : List α} {i : Nat} {x : α} {p : Pd} (hx : l[i]? = some x) (hp : k.cs x = [p]) : (flat k l)[i * 1]? = some p := by
  have := flat_get k l i 0 (by omega)
  rw [h, Nat.add_zero, hx] at this
  rw [this]
  simp [hp]
theorem flat_at0 {α : Type} {k : Kn α} (h : k.sz = 1) {l : List α} {i : Nat} {x : α} {p : Pd} (hx : l[i]? = some x) (hp : k.cs x = [p]) : (flat k l)[0 + i * 1]? = some p := by
  rw [Nat.zero_add]; exact flat_at h hx hp
theorem flat_set {α : Type} {k : Kn α} (h : k.sz = 1) {x : α} {p : Pd} (hp : k.cs x = [p]) : ∀ (l : List α) (i : Nat), (flat k l).set i p = flat k (l.set i x)
  | [], i => by simp [flat]
  | a :: l, 0 => by
    have ha := k.len a
    rw [h] at ha
    obtain ⟨q, hq⟩ := List.length_eq_one_iff.1 ha
    simp [flat, hq, hp]
  | a :: l, i + 1 => by
    have ha := k.len a
    rw [h] at ha
    obtain ⟨q, hq⟩ := List.length_eq_one_iff.1 ha
    have := flat_set h hp l i
    simp only [flat] at this ⊢
    simp [hq, this]
theorem flat_len1 {α : Type} {k : Kn α} (h : k.sz = 1) {l : List α} {n : Nat} (hl : l.length = n) : (flat k l).length = n := by rw [flat_length, h, Nat.mul_one, hl]
theorem flat_rep {α : Type} {k : Kn α} {x : α} {p : Pd} (hp : k.cs x = [p]) : ∀ n, flat k (List.replicate n x) = List.replicate n p
  | 0 => rfl
  | n + 1 => by rw [List.replicate_succ, List.replicate_succ, ← flat_rep hp n]; simp [flat, hp]

section
variable {P : Program} {e : Env} {s : St} {N : Nat} {dst : Option Tmp} {ty : TypeId} {pos : String} {after : Array Edge} {guard : Option (Nat × Bool)} {bs bs' : List Bx} {fs fs' : List Fr}
theorem allocFN (hN : s.boxes.length = N) {α : Type} {k : Kn α} {x0 : α} {t : TypeId} {z : Value} {n m : Nat} (hz : zeroT P t = some (List.replicate m z)) (hk : k.cs x0 = [pl z]) (hn : bs.length = n) (h' : bs ++ [⟨t, flat k (List.replicate m x0)⟩] = bs') (hT : Nat.blt t HOT = true := by rfl) :
    OpD P ⟨dst, .alloc t, ty, pos, after, guard⟩ e (s.ext bs fs) (ptr (N + n) 0) (s.ext bs' fs) := by
  subst h'
  exact allocN (hT := hT) hN hz hn (by rw [flat_rep hk]; simp)
theorem boxFN (hN : s.boxes.length = N) {α : Type} {k : Kn α} {l : List α} {t : TypeId} {x : Operand} {ps : List Pd} {n : Nat} (hx : e.ev x = agg ps) (hps : ps = flat k l) (hkb : KB k) (hn : bs.length = n) (h' : bs ++ [⟨t, flat k l⟩] = bs') (hT : Nat.blt t HOT = true := by rfl) :
    OpD P ⟨dst, .box t x, ty, pos, after, guard⟩ e (s.ext bs fs) (ptr (N + n) 0) (s.ext bs' fs) := by
  subst hps
  exact boxAN (hT := hT) hN hx (flatKB hkb) hn h'
theorem storeFN (hN : s.boxes.length = N) {α : Type} {k : Kn α} {l : List α} {t bt : TypeId} {x y : Operand} {b i : Nat} {z : α} {p : Pd} (hn : sizeT P t = some 1) (hx : e.ev x = ptr (N + b) (0 + i * 1)) (hy : (e.ev y).le p) (h1 : p.One) (hk1 : k.sz = 1) (hB : bs[b]? = some ⟨bt, flat k l⟩) (hi : i < l.length) (hk : k.cs z = [p]) (hkb : KB k)
    (h' : bs.set b ⟨bt, flat k (l.set i z)⟩ = bs') (hT : Nat.blt bt HOT = true := by rfl) : OpD P ⟨dst, .store t x y, ty, pos, after, guard⟩ e (s.ext bs fs) any (s.ext bs' fs) :=
  storeON (hT := hT) hN hn hx hy h1 hB (by show 0 + i * 1 < (flat k l).length; rw [flat_length, hk1]; omega) (hkb z _ _ p (by rw [hk]; simp)) (by show (flat k l).set (0 + i * 1) p = _; rw [Nat.zero_add, Nat.mul_one]; exact flat_set hk1 hk l i) h'
theorem loadFN {α : Type} {k : Kn α} {l : List α} {t bt : TypeId} {x : Operand} {b n : Nat} (ht : aggT P t = some true) (hn : sizeT P t = some n) (hx : e.ev x = ptr b 0) (hB : s.boxes[b]? = some ⟨bt, flat k l⟩) (hk1 : k.sz = 1) (hl : l.length = n) (hT : Nat.blt bt HOT = true := by rfl) :
    OpD P ⟨dst, .load t x, ty, pos, after, guard⟩ e s (agg (flat k l)) s :=
  opD_load_aggX (hT := hT) ht hn hx hB (by show 0 + n ≤ (flat k l).length; rw [flat_len1 hk1 hl]; omega) (by show ((flat k l).drop 0).take n = _; rw [List.drop_zero, List.take_of_length_le]; rw [flat_len1 hk1 hl]; exact Nat.le_refl _)
theorem nat_lt {n m : Nat} (h : Below ((n : Nat) : Int) m) : n < m := by have := h.2; simpa using this
theorem storeWF (hN : s.boxes.length = N) {α : Type} {k : Kn α} {l l2 : List α} {t bt : TypeId} {x y : Operand} {b n : Nat} (hn : sizeT P t = some n) (hx : e.ev x = ptr (N + b) 0) (hy : e.ev y = agg (flat k l2)) (hk1 : k.sz = 1) (hB : bs[b]? = some ⟨bt, flat k l⟩) (h0 : l.length = n) (h2 : l2.length = n) (hpos : 0 < n) (hkb : KB k)
    (h' : bs.set b ⟨bt, flat k l2⟩ = bs') (hT : Nat.blt bt HOT = true := by rfl) : OpD P ⟨dst, .store t x y, ty, pos, after, guard⟩ e (s.ext bs fs) any (s.ext bs' fs) :=
  storeAN (hT := hT) hN hn hx hy ones_flat hB (flat_len1 hk1 h2) (by show 0 + n ≤ (flat k l).length; rw [flat_len1 hk1 h0]; omega) (by show flat k l ≠ []; intro h; have := flat_len1 hk1 h0; rw [h] at this; simp at this; omega) (flatKB hkb)
    (by show (flat k l).take 0 ++ flat k l2 ++ (flat k l).drop (0 + n) = flat k l2; rw [List.take_zero, List.nil_append, List.drop_eq_nil_of_le (by rw [flat_len1 hk1 h0]; omega), List.append_nil]) h'
theorem nat_ix {α : Type} {l : List α} {n : Nat} {x : α} (h : l[((n : Nat) : Int).toNat]? = some x) : l[n]? = some x := by simpa using h
theorem opD_complU {xt : TypeId} {k : IntKind} {n r : Int} {x : Operand} (hs : k.signed = false) (hx : e.ev x = pl (.int k n)) (hr : bits BinOp.xor k k.max n = r) : OpD P ⟨dst, .unOp .xor xt x, ty, pos, after, guard⟩ e s (pl (.int k r)) s :=
  opD_un hx (fun w => by subst hr; simp [go_sem, hs, Op.unary])
/-- A row that was made, and is read alone. -/
theorem opD_makeS {α : Type} {k : Kn α} {x0 : α} {t te : TypeId} {x y : Operand} {k1 k2 : IntKind} {i1 i2 : Int} {n by_ : Nat} {z : Value} (ht : P.underlying t = some (.slice te)) (hel : elT P te = some (1, by_)) (hz : zeroT P te = some [z]) (hk1 : k.sz = 1) (hk : k.cs x0 = [pl z])
    (hx : e.ev x = pl (.int k1 i1)) (hy : e.ev y = pl (.int k2 i2)) (h1 : i1 = (n : Int)) (h2 : i2 = (n : Int)) (hb : n * by_ ≤ 140737488355328) (hb2 : n ≤ 140737488355328) :
    OpD P ⟨dst, .makeSlice t x y, ty, pos, after, guard⟩ e s (sl k none (some false) (List.replicate n x0)) s :=
  opD_value fun g a w ha hs => by
    subst h1; subst h2
    have e1 : a.eval x = .int k1 n := by have := ha x (by simp [Op.operands]); rw [hx] at this; exact this
    have e2 : a.eval y = .int k2 n := by have := ha y (by simp [Op.operands]); rw [hy] at this; exact this
    obtain ⟨i, z', hi, hzz, hzs, hsz, hby⟩ := elT_spec hel
    have hzc : z'.cells = #[z] := by
      unfold zeroT at hz
      rw [hi] at hz
      simp only [Option.bind_some, hzz, Option.map_some, Option.some.injEq] at hz
      exact Array.toList_inj.1 hz
    have hbig : (i.bytes : Int) * (n : Int) ≤ 281474976710656 := by
      have h3 : (by_ : Int) * (n : Int) = ((n * by_ : Nat) : Int) := by rw [Int.natCast_mul, Int.mul_comm]
      rw [hby, h3]; omega
    have hrun := run_make (P := P) w t te i z' ht hi hzz k1 k2 (n : Int) (n : Int) (by omega) (Int.le_refl _) hbig (by omega)
    simp only [Int.toNat_natCast] at hrun
    have hcells : (madeCells z'.cells (n * i.size)).toList = List.replicate n z := by rw [hzc, hsz, Nat.mul_one]; exact toList_madeCells_one z n
    have hN := new_alloc w (.cells (madeCells z'.cells (n * i.size)) te)
    refine ⟨.slice (some ⟨w.heap.size, 0, none⟩) n n, g.addRow w.heap.size (n * 1) none, w.alloc (.cells (madeCells z'.cells (n * i.size)) te), ?_, ?_, ext_new hs hN _ _, srel_new hs hN (FrLe.refl _) (fun _ _ h => by cases h)⟩
    · show (Sem.bind (Instr.makeSlice t (a.eval x) (a.eval y)) fun v => Sem.pure (Next.value v)).run P w = _
      rw [e1, e2]
      exact run_v hrun
    · refine ⟨some ⟨w.heap.size, 0, none⟩, n, by rw [List.length_replicate], by simp, (fun b hb => by cases hb; rfl), (fun h => by cases h), fun hne => ⟨w.heap.size, 0, rfl, ?_⟩, fun _ h => by cases h⟩
      refine slCells_new (vs := List.replicate n z) (ext_new hs hN _ _) ?_ (alloc_heap_new w _) (fun j v hj => ?_) ?_
      · rw [flat_rep hk]
        have := pds_pl g w (List.replicate n z)
        simpa using this
      · rw [← hcells] at hj; simpa using hj
      · rw [flat_rep hk, List.length_replicate]; simp [G.addRow]
end

/-! ### An array as an argument -/
def kV {α : Type} (n : Nat) (k : Kn α) : Kn { l : List α // l.length = n } := ⟨n * k.sz, fun x => flat k x.1, fun x => by rw [flat_length, x.2], fun x p hp => ones_flat p hp⟩
theorem openk_array {α : Type} {P : Program} {t e : TypeId} {n : Nat} {k : Kn α} {Wf : α → Prop} (ht : P.underlying t = some (.array n e)) (hc : P.cellsOf e = k.sz) (hct : P.cellsOf t = n * k.sz) (he : OpensK P e k Wf) :
    OpensK P t (kV n k) (fun x => ∀ a ∈ x.1, Wf a) := by
  intro H enc w fuel cs x h hlt
  obtain ⟨xs, m, rfl, rfl, hl, hx, hel⟩ := DataW.trod_array ht h
  have hlen : cs.length = n * k.sz := hl.trans hct
  have hwt : ∀ i (hi : i < xs.length), Light P e xs[i].1 := fun i hi q hq => hlt q (by
    have := weights_mem_all (P := P) (e := e) (List.mem_map.2 ⟨_, List.getElem_mem hi, rfl⟩ : xs[i].1 ∈ xs.map (·.1)) q hq
    simpa [DataW.weights, ht] using this)
  have key : ∀ j, j ≤ n → ∃ l : List α, l.length = j ∧ Pds (G0 w) w (flat k l) (cs.take (j * k.sz)) ∧ ∀ a ∈ l, Wf a := by
    intro j
    induction j with
    | zero => intro _; exact ⟨[], rfl, by simp [flat, Pds], fun a ha => by cases ha⟩
    | succ j ih =>
      intro hj
      obtain ⟨l, h1, h2, h3⟩ := ih (by omega)
      have h0 := hel j (by omega)
      rw [List.getElem?_eq_getElem (by omega), hc] at h0
      obtain ⟨a, ha, wa⟩ := he _ enc w m _ _ h0 (hwt _ _)
      refine ⟨l ++ [a], by simp [h1], ?_, fun b hb => ?_⟩
      · rw [flat_append, Nat.add_mul, Nat.one_mul, List.take_add]
        exact h2.append (by simpa [flat] using ha)
      · rcases List.mem_append.1 hb with hb | hb
        · exact h3 b hb
        · rw [List.mem_singleton.1 hb]; exact wa
  obtain ⟨l, h1, h2, h3⟩ := key n (Nat.le_refl _)
  refine ⟨⟨l, h1⟩, ?_, h3⟩
  rw [List.take_of_length_le (by omega)] at h2
  exact h2
end Go.Proofs.Ytokcgacehdgkcaa.Eng
