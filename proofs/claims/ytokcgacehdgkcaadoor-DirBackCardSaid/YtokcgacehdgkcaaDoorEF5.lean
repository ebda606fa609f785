/- Who sees whom, in plain Lean: what the matrix's functions answer. -/
import Derived.Test.YtokcgacehdgkcaaDoorEF1
import Derived.Test.YtokcgacehdgkcaaDoorEE5
import Derived.Test.YtokcgacehdgkcaaDoorEF3
import Derived.Test.YtokcgacehdgkcaaDoorEX6
namespace Go.Proofs.YtokcgacehdgkcaaDoor.Eng.A
set_option linter.unusedVariables false
set_option linter.unusedSimpArgs false
open Go.RowKit Go.Proofs.YtokcgacehdgkcaaDoor.Plain Go.Proofs.YtokcgacehdgkcaaDoor.Eng

theorem w16 {n : Nat} (h : n < 65536) : IntKind.u16.wrap (n : Int) = (n : Int) := by
  simp only [IntKind.wrap, IntKind.bits, IntKind.signed]; simp; omega
theorem and16 {a b : Nat} (ha : a < 65536) (hb : b < 65536) : bits BinOp.and .u16 (a : Int) (b : Int) = ((a &&& b : Nat) : Int) := by
  show IntKind.u16.wrap (BitVec.toNat (BitVec.ofInt 16 (a : Int) &&& BitVec.ofInt 16 (b : Int))) = _
  rw [BitVec.toNat_and, BitVec.ofInt_natCast, BitVec.ofInt_natCast, BitVec.toNat_ofNat, BitVec.toNat_ofNat, Nat.mod_eq_of_lt (by simpa using ha), Nat.mod_eq_of_lt (by simpa using hb)]
  exact w16 (Nat.lt_of_le_of_lt Nat.and_le_left ha)
theorem or16 {a b : Nat} (ha : a < 65536) (hb : b < 65536) : bits BinOp.or .u16 (a : Int) (b : Int) = ((a ||| b : Nat) : Int) := by
  show IntKind.u16.wrap (BitVec.toNat (BitVec.ofInt 16 (a : Int) ||| BitVec.ofInt 16 (b : Int))) = _
  rw [BitVec.toNat_or, BitVec.ofInt_natCast, BitVec.ofInt_natCast, BitVec.toNat_ofNat, BitVec.toNat_ofNat, Nat.mod_eq_of_lt (by simpa using ha), Nat.mod_eq_of_lt (by simpa using hb)]
  exact w16 (Nat.or_lt_two_pow (n := 16) ha hb)
theorem andn16 {a b : Nat} (ha : a < 65536) (hb : b < 65536) : bits BinOp.andNot .u16 (a : Int) (b : Int) = ((a &&& (65536 - (b + 1)) : Nat) : Int) := by
  show IntKind.u16.wrap (BitVec.toNat (BitVec.ofInt 16 (a : Int) &&& ~~~ BitVec.ofInt 16 (b : Int))) = _
  rw [BitVec.toNat_and, BitVec.toNat_not, BitVec.ofInt_natCast, BitVec.ofInt_natCast, BitVec.toNat_ofNat, BitVec.toNat_ofNat, Nat.mod_eq_of_lt (by simpa using ha), Nat.mod_eq_of_lt (by simpa using hb)]
  rw [show 2 ^ 16 - 1 - b = 65536 - (b + 1) by omega]
  exact w16 (Nat.lt_of_le_of_lt Nat.and_le_left ha)
theorem mbit_eq {b : Nat} (h : b < 16) : F_mbit (b : Int) = some ((2 ^ b : Nat) : Int) := by
  have : ∀ b : Fin 16, F_mbit (b.val : Int) = some ((2 ^ b.val : Nat) : Int) := by decide
  exact this ⟨b, h⟩
theorem p16 {b : Nat} (h : b < 16) : 2 ^ b < 65536 := (Nat.pow_lt_pow_right (by decide) h : 2 ^ b < 2 ^ 16)
theorem and_pow (n b : Nat) : n &&& 2 ^ b = if n.testBit b = true then 2 ^ b else 0 := by
  apply Nat.eq_of_testBit_eq
  intro i
  rw [Nat.testBit_and, Nat.testBit_two_pow]
  by_cases h : b = i
  · subst h; cases hb : n.testBit b <;> simp [Nat.testBit_two_pow_self]
  · rw [decide_eq_false h, Bool.and_false]; split
    · rw [Nat.testBit_two_pow, decide_eq_false h]
    · exact (Nat.zero_testBit i).symm
theorem and_ne {n b : Nat} (hn : n < 65536) (hb : b < 16) : decide (bits BinOp.and .u16 (n : Int) ((2 ^ b : Nat) : Int) ≠ 0) = n.testBit b := by
  rw [and16 hn (p16 hb), and_pow]
  have : 2 ^ b ≠ 0 := by have := Nat.two_pow_pos b; omega
  cases n.testBit b with
  | false => simp
  | true => rw [if_pos rfl]; exact decide_eq_true (fun h => this (by omega))

def MB (m : List Int) (a b : Nat) : Bool := (m.getD a 0).toNat.testBit b
structure MOk (m : List Int) : Prop where
  len : m.length = 16
  rng : ∀ x ∈ m, 0 ≤ x ∧ x < 65536
def Sym (m : List Int) : Prop := ∀ a, a < 16 → ∀ b, b < 16 → MB m a b = MB m b a ∧ MB m a a = false
instance (m : List Int) : Decidable (Sym m) := by unfold Sym; infer_instance
theorem MOk.row {m : List Int} (h : MOk m) {a : Nat} (ha : a < 16) : ∃ n : Nat, m[a]? = some (n : Int) ∧ n < 65536 ∧ (∀ b, MB m a b = n.testBit b) ∧ m.getD a default = (n : Int) := by
  have hx : m[a]? = some (m[a]'(by rw [h.len]; exact ha)) := List.getElem?_eq_getElem _
  have hr := h.rng _ (List.mem_of_getElem? hx)
  generalize m[a]'(by rw [h.len]; exact ha) = x at hx hr
  obtain ⟨n, rfl⟩ := Int.eq_ofNat_of_zero_le hr.1
  refine ⟨n, hx, by omega, fun b => ?_, ?_⟩
  · unfold MB; rw [List.getD_eq_getElem?_getD, hx]; rfl
  · rw [List.getD_eq_getElem?_getD, hx]; rfl
theorem MOk.set {m : List Int} (h : MOk m) (a n : Nat) (hn : n < 65536) : MOk (m.set a (n : Int)) := ⟨by rw [List.length_set]; exact h.len, fun x hx => by
  rcases List.mem_or_eq_of_mem_set hx with hx | rfl
  · exact h.rng x hx
  · omega⟩
theorem MB_set {m : List Int} {a n c d : Nat} (hl : m.length = 16) (ha : a < 16) : MB (m.set a (n : Int)) c d = if c = a then n.testBit d else MB m c d := by
  unfold MB
  rw [List.getD_eq_getElem?_getD]
  by_cases h : c = a
  · subst h; rw [if_pos rfl, List.getElem?_set_self (by omega)]; rfl
  · rw [if_neg h, List.getElem?_set_ne (Ne.symm h), ← List.getD_eq_getElem?_getD]
theorem MB_big {m : List Int} (h : MOk m) {a b : Nat} (hb : 16 ≤ b) : MB m a b = false := by
  by_cases ha : a < 16
  · obtain ⟨n, _, hn, h2, _⟩ := h.row ha
    rw [h2, Nat.testBit_lt_two_pow (Nat.lt_of_lt_of_le hn (Nat.pow_le_pow_right (by decide) hb : 2 ^ 16 ≤ 2 ^ b))]
  · unfold MB
    rw [List.getD_eq_getElem?_getD, List.getElem?_eq_none (by rw [h.len]; omega)]
    exact Nat.zero_testBit b
theorem M_ext {m m' : List Int} (h : MOk m) (h' : MOk m') (he : ∀ a, a < 16 → ∀ b, b < 16 → MB m a b = MB m' a b) : m = m' := by
  apply List.ext_getElem?
  intro a
  by_cases ha : a < 16
  · obtain ⟨n, h1, _, h2, _⟩ := h.row ha
    obtain ⟨n', h1', _, h2', _⟩ := h'.row ha
    rw [h1, h1']
    congr 2
    apply Nat.eq_of_testBit_eq
    intro b
    rw [← h2, ← h2']
    by_cases hb : b < 16
    · exact he a ha b hb
    · rw [MB_big h (by omega), MB_big h' (by omega)]
  · rw [List.getElem?_eq_none (by rw [h.len]; omega), List.getElem?_eq_none (by rw [h'.len]; omega)]
def bad (m : List Int) (a b : Nat) : Bool := (MB m a b != MB m b a) || (decide (a = b) && MB m a a)
theorem b1_eq {m : List Int} (h : MOk m) {a b : Nat} (ha : a < 16) (hb : b < 16) : F_mCheck_b1 m (a : Int) (b : Int) = if bad m a b = true then some (.inr (.inl (some 1))) else some (.inl ((b + 1 : Nat) : Int)) := by
  obtain ⟨x, h1, h2, h3, h4⟩ := h.row ha
  obtain ⟨y, k1, k2, k3, k4⟩ := h.row hb
  have l1 : Below ((((a : Int)).toNat : Nat) : Int) m.length := by rw [h.len, Int.toNat_natCast]; exact belo ha
  unfold F_mCheck_b1
  rw [decide_eq_true (by omega : (b : Int) < 16), ifb_1, grd_t (belo ha), ixb_n (show m[((a : Int)).toNat]? = some (x : Int) from h1), mbit_eq hb, bnd_s, grd_t (belo hb), ixb_n (show m[((b : Int)).toNat]? = some (y : Int) from k1), mbit_eq ha, bnd_s, and_ne h2 hb, and_ne k2 ha, ← h3, ← k3]
  rw [grd_t (fun _ => belo ha), grd_t (fun _ => l1), gif_s, bnd_s, nat_wrap (by omega)]
  unfold bad
  by_cases hab : a = b
  · subst hab
    rw [decide_eq_true (rfl : (a : Int) = (a : Int)), decide_eq_true (rfl : a = a), Bool.true_and, Bool.true_and]
    have e : (MB m a a != MB m a a) = false := bne_self_eq_false _
    rw [e, Bool.false_or, Bool.false_or]
    rw [if_pos (show (false == false && true == true) = true from rfl), show ((a : Int)).toNat = a from rfl, h4, and_ne h2 ha, ← h3]
    cases MB m a a <;> rfl
  · rw [decide_eq_false (by omega : ¬ (a : Int) = (b : Int)), decide_eq_false hab, Bool.false_and, Bool.false_and, Bool.or_false]
    cases (MB m a b != MB m b a) <;> rfl
theorem lp_range {O : Type} {n : Nat} {body : Int → Option (Int ⊕ (O ⊕ Unit))} (p : Nat → Bool) (v : O) {fl : Nat}
    (hb : ∀ i : Nat, i < n → body (i : Int) = if p i = true then some (.inr (.inl v)) else some (.inl ((i + 1 : Nat) : Int))) (he : body (n : Int) = some (.inr (.inr ()))) (hf : n < fl) :
    lp body fl 0 = some (if (List.range n).any p = true then .inl v else .inr ()) :=
  lp_any (l := List.range n) p v (fun i x hx => by
    have hi := (List.getElem?_eq_some_iff.1 hx).1
    rw [List.length_range] at hi
    rw [List.getElem?_range hi] at hx; cases hx
    exact hb i hi) (by rw [List.length_range]; exact he) (by rw [List.length_range]; exact hf)
theorem mCheck_eq {m : List Int} {fl : Nat} (h : MOk m) (hf : 16 < fl) : F_mCheck fl m = some (if Sym m then none else some 1) := by
  have hin : ∀ a : Nat, a < 16 → lp (F_mCheck_b1 m (a : Int)) fl 0 = some (if (List.range 16).any (bad m a) = true then .inl (some 1) else .inr ()) := fun a ha =>
    lp_range (bad m a) (some 1) (fun b hb => b1_eq h ha hb) (by unfold F_mCheck_b1; rw [decide_eq_false (by omega), ifb_0]) hf
  have hout : lp (F_mCheck_b0 fl m) fl 0 = some (if (List.range 16).any (fun a => (List.range 16).any (bad m a)) = true then .inl (some 1) else .inr ()) :=
    lp_range (fun a => (List.range 16).any (bad m a)) (some 1) (fun a ha => by
      unfold F_mCheck_b0
      rw [decide_eq_true (by omega), ifb_1, hin a ha, bnd_s, nat_wrap (by omega)]
      split <;> rfl) (by unfold F_mCheck_b0; rw [decide_eq_false (by omega), ifb_0]) hf
  unfold F_mCheck
  rw [hout, bnd_s]
  have key : (List.range 16).any (fun a => (List.range 16).any (bad m a)) = true ↔ ¬ Sym m := by
    rw [List.any_eq_true]
    constructor
    · rintro ⟨a, ha, h1⟩ hs
      rw [List.any_eq_true] at h1
      obtain ⟨b, hb, h2⟩ := h1
      rw [List.mem_range] at ha hb
      have := hs a ha b hb
      unfold bad at h2
      rw [this.1, this.2, bne_self_eq_false, Bool.and_false] at h2
      cases h2
    · intro hs
      apply Classical.byContradiction
      intro hn
      refine hs fun a ha b hb => ?_
      have h1 : ∀ c, c < 16 → bad m a c = false := fun c hc => by
        cases he : bad m a c with
        | false => rfl
        | true => exact absurd ⟨a, List.mem_range.2 ha, List.any_eq_true.2 ⟨c, List.mem_range.2 hc, he⟩⟩ hn
      have h2 := h1 b hb
      have h3 := h1 a ha
      unfold bad at h2 h3
      rw [Bool.or_eq_false_iff] at h2 h3
      rw [decide_eq_true rfl, Bool.true_and] at h3
      exact ⟨by simpa using h2.1, h3.2⟩
  by_cases hs : Sym m
  · rw [if_pos hs, if_neg (by rw [key]; exact fun h => h hs)]; rfl
  · rw [if_neg hs, if_pos (key.2 hs)]; rfl
theorem mplace_eq (p : Int) : F_mplace p = some (decide (0 ≤ p) && decide (p < 16)) := rfl
theorem mtwo_eq {m : List Int} {fl a b : Nat} (h : MOk m) (hs : Sym m) (ha : a < 16) (hb : b < 16) (hab : a ≠ b) (hf : 16 < fl) : F_mtwo fl m (a : Int) (b : Int) = some none := by
  unfold F_mtwo
  rw [grd_t h.len, mCheck_eq h hf, if_pos hs, bnd_s, mplace_eq, mplace_eq, decide_eq_true (by omega : 0 ≤ (a : Int)), decide_eq_true (by omega : (a : Int) < 16), decide_eq_true (by omega : 0 ≤ (b : Int)), decide_eq_true (by omega : (b : Int) < 16), decide_eq_false (by omega : ¬ (a : Int) = (b : Int))]
  rfl
theorem mSees_eq {m : List Int} {fl a b : Nat} (h : MOk m) (hs : Sym m) (ha : a < 16) (hb : b < 16) (hf : 16 < fl) : F_mSees fl m (a : Int) (b : Int) = some (decide (a = b) || MB m a b) := by
  obtain ⟨x, h1, h2, h3, h4⟩ := h.row ha
  have l1 : Below ((((a : Int)).toNat : Nat) : Int) m.length := by rw [h.len, Int.toNat_natCast]; exact belo ha
  unfold F_mSees
  rw [grd_t h.len, mCheck_eq h hf, if_pos hs, bnd_s, mplace_eq, mplace_eq, decide_eq_true (by omega : 0 ≤ (a : Int)), decide_eq_true (by omega : (a : Int) < 16), decide_eq_true (by omega : 0 ≤ (b : Int)), decide_eq_true (by omega : (b : Int) < 16), mbit_eq hb]
  show grd _ (grd _ _) = _
  rw [grd_t (fun _ => belo ha), grd_t (fun _ => l1), gif_s, bnd_s]
  by_cases hab : a = b
  · subst hab; simp
  · rw [decide_eq_false (by omega : ¬ (a : Int) = (b : Int)), decide_eq_false hab]
    show some (true && (false || decide (bits BinOp.and .u16 (m.getD ((a : Int)).toNat default) ((2 ^ b : Nat) : Int) ≠ 0))) = _
    rw [show ((a : Int)).toNat = a from rfl, h4, and_ne h2 hb, ← h3]; rfl
theorem or_bit {n b c : Nat} : (n ||| 2 ^ b).testBit c = (n.testBit c || decide (b = c)) := by rw [Nat.testBit_or, Nat.testBit_two_pow]
theorem andn_bit {n b c : Nat} (hb : b < 16) (hn : n < 65536) : (n &&& (65536 - (2 ^ b + 1))).testBit c = (n.testBit c && !decide (b = c)) := by
  rw [Nat.testBit_and, show 65536 - (2 ^ b + 1) = 2 ^ 16 - (2 ^ b + 1) from rfl, Nat.testBit_two_pow_sub_succ (p16 hb), Nat.testBit_two_pow]
  by_cases hc : c < 16
  · rw [decide_eq_true hc, Bool.true_and]
  · have : n.testBit c = false := Nat.testBit_lt_two_pow (Nat.lt_of_lt_of_le hn (Nat.pow_le_pow_right (by decide) (by omega) : 2 ^ 16 ≤ 2 ^ c))
    rw [this, Bool.false_and, Bool.false_and]
/-- Two places see one another from now on, or not any more. -/
theorem mSet_ok {m m' : List Int} {a b : Nat} {f : Bool → Bool} (h : MOk m) (hs : Sym m) (h' : MOk m') (hab : a ≠ b) (he : ∀ c, c < 16 → ∀ d, d < 16 → MB m' c d = if (c = a ∧ d = b) ∨ (c = b ∧ d = a) then f (MB m c d) else MB m c d) : Sym m' := fun c hc d hd => by
  rw [he c hc d hd, he d hd c hc, he c hc c hc, (hs c hc d hd).1]
  refine ⟨?_, ?_⟩
  · by_cases h1 : (c = a ∧ d = b) ∨ (c = b ∧ d = a)
    · rw [if_pos h1, if_pos (by omega)]
    · rw [if_neg h1, if_neg (by omega)]
  · rw [if_neg (by omega)]; exact (hs c hc d hd).2
theorem mOpen_eq {m : List Int} {fl a b : Nat} (h : MOk m) (hs : Sym m) (ha : a < 16) (hb : b < 16) (hab : a ≠ b) (hf : 16 < fl) : ∃ m', F_mOpen fl m (a : Int) (b : Int) = some (m', none) ∧ MOk m' ∧ Sym m' ∧ ∀ c, c < 16 → ∀ d, d < 16 → MB m' c d = if (c = a ∧ d = b) ∨ (c = b ∧ d = a) then true else MB m c d := by
  obtain ⟨x, h1, h2, h3, h4⟩ := h.row ha
  obtain ⟨y, k1, k2, k3, k4⟩ := h.row hb
  have l1 : Below ((((a : Int)).toNat : Nat) : Int) m.length := by rw [h.len, Int.toNat_natCast]; exact belo ha
  have o1 : x ||| 2 ^ b < 65536 := Nat.or_lt_two_pow (n := 16) h2 (p16 hb)
  have o2 : y ||| 2 ^ a < 65536 := Nat.or_lt_two_pow (n := 16) k2 (p16 ha)
  have g1 := h.set a _ o1
  have g2 := g1.set b _ o2
  have q : (m.set a ((x ||| 2 ^ b : Nat) : Int))[b]? = some (y : Int) := by rw [List.getElem?_set_ne hab]; exact k1
  have hMB : ∀ c, c < 16 → ∀ d, d < 16 → MB ((m.set a ((x ||| 2 ^ b : Nat) : Int)).set b ((y ||| 2 ^ a : Nat) : Int)) c d = if (c = a ∧ d = b) ∨ (c = b ∧ d = a) then true else MB m c d := fun c hc d hd => by
    rw [MB_set g1.len hb, MB_set h.len ha, or_bit, or_bit, ← h3, ← k3]
    by_cases hcb : c = b
    · subst hcb
      rw [if_pos rfl]
      by_cases hd : a = d
      · subst hd; rw [if_pos (by omega)]; simp
      · rw [if_neg (by omega)]; simp [hd]
    · rw [if_neg hcb]
      by_cases hca : c = a
      · subst hca
        rw [if_pos rfl]
        by_cases hd : b = d
        · subst hd; rw [if_pos (by omega)]; simp
        · rw [if_neg (by omega)]; simp [hd]
      · rw [if_neg hca, if_neg (by omega)]
  refine ⟨_, ?_, g2, mSet_ok (f := fun _ => true) h hs g2 hab hMB, hMB⟩
  unfold F_mOpen
  rw [grd_t h.len, mtwo_eq h hs ha hb hab hf, bnd_s]
  show ifb false _ _ = _
  rw [ifb_0, grd_t (belo ha), ixb_n (show m[((a : Int)).toNat]? = some (x : Int) from h1), mbit_eq hb, bnd_s, grd_t (belo ha), grd_t l1, grd_t (belo hb), or16 h2 (p16 hb), show ((a : Int)).toNat = a from rfl, show ((b : Int)).toNat = b from rfl, ixb_n q, mbit_eq ha, bnd_s, grd_t (belo hb), grd_t (by rw [g1.len]; exact belo hb), or16 k2 (p16 ha), grd_t g2.len, grd_t List.length_replicate, grd_t g2.len, grd_t g2.len]
theorem mClose_eq {m : List Int} {fl a b : Nat} (h : MOk m) (hs : Sym m) (ha : a < 16) (hb : b < 16) (hab : a ≠ b) (hf : 16 < fl) : ∃ m', F_mClose fl m (a : Int) (b : Int) = some (m', none) ∧ MOk m' ∧ Sym m' ∧ ∀ c, c < 16 → ∀ d, d < 16 → MB m' c d = if (c = a ∧ d = b) ∨ (c = b ∧ d = a) then false else MB m c d := by
  obtain ⟨x, h1, h2, h3, h4⟩ := h.row ha
  obtain ⟨y, k1, k2, k3, k4⟩ := h.row hb
  have l1 : Below ((((a : Int)).toNat : Nat) : Int) m.length := by rw [h.len, Int.toNat_natCast]; exact belo ha
  have o1 : x &&& (65536 - (2 ^ b + 1)) < 65536 := Nat.lt_of_le_of_lt Nat.and_le_left h2
  have o2 : y &&& (65536 - (2 ^ a + 1)) < 65536 := Nat.lt_of_le_of_lt Nat.and_le_left k2
  have g1 := h.set a _ o1
  have g2 := g1.set b _ o2
  have q : (m.set a ((x &&& (65536 - (2 ^ b + 1)) : Nat) : Int))[b]? = some (y : Int) := by rw [List.getElem?_set_ne hab]; exact k1
  have hMB : ∀ c, c < 16 → ∀ d, d < 16 → MB ((m.set a ((x &&& (65536 - (2 ^ b + 1)) : Nat) : Int)).set b ((y &&& (65536 - (2 ^ a + 1)) : Nat) : Int)) c d = if (c = a ∧ d = b) ∨ (c = b ∧ d = a) then false else MB m c d := fun c hc d hd => by
    rw [MB_set g1.len hb, MB_set h.len ha, andn_bit hb h2, andn_bit ha k2, ← h3, ← k3]
    by_cases hcb : c = b
    · subst hcb
      rw [if_pos rfl]
      by_cases hd : a = d
      · subst hd; rw [if_pos (by omega)]; simp
      · rw [if_neg (by omega)]; simp [hd]
    · rw [if_neg hcb]
      by_cases hca : c = a
      · subst hca
        rw [if_pos rfl]
        by_cases hd : b = d
        · subst hd; rw [if_pos (by omega)]; simp
        · rw [if_neg (by omega)]; simp [hd]
      · rw [if_neg hca, if_neg (by omega)]
  refine ⟨_, ?_, g2, mSet_ok (f := fun _ => false) h hs g2 hab hMB, hMB⟩
  unfold F_mClose
  rw [grd_t h.len, mtwo_eq h hs ha hb hab hf, bnd_s]
  show ifb false _ _ = _
  rw [ifb_0, grd_t (belo ha), ixb_n (show m[((a : Int)).toNat]? = some (x : Int) from h1), mbit_eq hb, bnd_s, grd_t (belo ha), grd_t l1, grd_t (belo hb), andn16 h2 (p16 hb), show ((a : Int)).toNat = a from rfl, show ((b : Int)).toNat = b from rfl, ixb_n q, mbit_eq ha, bnd_s, grd_t (belo hb), grd_t (by rw [g1.len]; exact belo hb), andn16 k2 (p16 ha), grd_t g2.len, grd_t List.length_replicate, grd_t g2.len, grd_t g2.len]
theorem mLeave_eq {m : List Int} {fl a : Nat} (h : MOk m) (hs : Sym m) (ha : a < 16) (hf : 16 < fl) : ∃ m', F_mLeave fl m (a : Int) = some (m', none) ∧ MOk m' ∧ Sym m' ∧ ∀ c, c < 16 → ∀ d, d < 16 → MB m' c d = if c = a ∨ d = a then false else MB m c d := by
  have g0 : MOk (m.set a (0 : Int)) := h.set a 0 (by decide)
  have l1 : Below ((((a : Int)).toNat : Nat) : Int) m.length := by rw [h.len, Int.toNat_natCast]; exact belo ha
  have hl : ∃ o : List Int, lp (F_mLeave_b0 (a : Int)) fl ((0 : Int), m.set a (0 : Int)) = some o ∧ (MOk o ∧ ∀ c, c < 16 → ∀ d, d < 16 → MB o c d = if c < 16 ∧ d = a then false else MB (m.set a (0 : Int)) c d) :=
    lp_inv (body := F_mLeave_b0 (a : Int)) (fun i s => ((i : Int), s)) (fun i o => MOk o ∧ ∀ c, c < 16 → ∀ d, d < 16 → MB o c d = if c < i ∧ d = a then false else MB (m.set a (0 : Int)) c d) (fun o => MOk o ∧ ∀ c, c < 16 → ∀ d, d < 16 → MB o c d = if c < 16 ∧ d = a then false else MB (m.set a (0 : Int)) c d) (n := 16)
      ⟨g0, fun c _ d _ => by rw [if_neg (by omega)]⟩
      (fun i o hi ⟨ho, he⟩ => by
        obtain ⟨x, h1, h2, h3, h4⟩ := ho.row hi
        have o1 : x &&& (65536 - (2 ^ a + 1)) < 65536 := Nat.lt_of_le_of_lt Nat.and_le_left h2
        have l2 : Below ((((i : Int)).toNat : Nat) : Int) o.length := by rw [ho.len, Int.toNat_natCast]; exact belo hi
        refine .inl ⟨o.set i ((x &&& (65536 - (2 ^ a + 1)) : Nat) : Int), ?_, ho.set i _ o1, fun c hc d hd => ?_⟩
        · unfold F_mLeave_b0
          dsimp only
          rw [decide_eq_true (by omega : (i : Int) < 16), ifb_1, grd_t (belo hi), ixb_n (show o[((i : Int)).toNat]? = some (x : Int) from h1), mbit_eq ha, bnd_s, grd_t (belo hi), grd_t l2, andn16 h2 (p16 ha), nat_wrap (by omega)]; rfl
        · rw [MB_set ho.len hi, andn_bit ha h2, ← h3, he i hi d hd, he c hc d hd]
          by_cases hci : c = i
          · subst hci
            rw [if_pos rfl, if_neg (by omega)]
            by_cases hda : a = d
            · subst hda; rw [if_pos (by omega)]; simp
            · rw [if_neg (by omega)]; simp [hda]
          · rw [if_neg hci]
            by_cases h5 : c < i ∧ d = a
            · rw [if_pos h5, if_pos (by omega)]
            · rw [if_neg h5, if_neg (by omega)])
      (fun o ho => ⟨o, by unfold F_mLeave_b0; dsimp only; rw [decide_eq_false (by omega), ifb_0], ho⟩) hf
  obtain ⟨o, e1, ho, he⟩ := hl
  have hMB : ∀ c, c < 16 → ∀ d, d < 16 → MB o c d = if c = a ∨ d = a then false else MB m c d := fun c hc d hd => by
    rw [he c hc d hd, show (0 : Int) = ((0 : Nat) : Int) from rfl, MB_set h.len ha, Nat.zero_testBit]
    by_cases h1 : d = a
    · rw [if_pos ⟨hc, h1⟩, if_pos (.inr h1)]
    · rw [if_neg (by omega)]
      by_cases h2 : c = a
      · rw [if_pos h2, if_pos (.inl h2)]
      · rw [if_neg h2, if_neg (by omega)]
  refine ⟨o, ?_, ho, fun c hc d hd => ?_, hMB⟩
  · unfold F_mLeave
    rw [grd_t h.len, mCheck_eq h hf, if_pos hs, bnd_s, mplace_eq, decide_eq_true (by omega : 0 ≤ (a : Int)), decide_eq_true (by omega : (a : Int) < 16)]
    simp only [Option.isSome_none, beq_self_eq_true, gif_1, bnd_s, Bool.and_self, Bool.not_true, Bool.or_self, ifb_0]
    rw [grd_t (belo ha), grd_t l1, show ((a : Int)).toNat = a from rfl, e1, bnd_s, grd_t ho.len, grd_t List.length_replicate, grd_t ho.len, grd_t ho.len]
  · rw [hMB c hc d hd, hMB d hd c hc, hMB c hc c hc, (hs c hc d hd).1]
    refine ⟨?_, ?_⟩
    · by_cases h1 : c = a ∨ d = a
      · rw [if_pos h1, if_pos h1.symm]
      · rw [if_neg h1, if_neg (fun h => h1 h.symm)]
    · split
      · rfl
      · exact (hs c hc d hd).2
end Go.Proofs.YtokcgacehdgkcaaDoor.Eng.A

/- Directories in plain Lean: what the program's functions answer. -/
namespace Go.Proofs.YtokcgacehdgkcaaDoor.Eng.A
set_option linter.unusedVariables false
set_option linter.unusedSimpArgs false
open Go.RowKit Go.Proofs.YtokcgacehdgkcaaDoor.Plain Go.Proofs.YtokcgacehdgkcaaDoor.Eng Go.Proofs.YtokcgacehdgkcaaDoor.Eng.Ha

/-! ### Lists -/
theorem flat_set {α β : Type} (f : α → List β) : ∀ (L : List α) (i : Nat) (x y : α), L[i]? = some x → ((L.set i y).flatMap f ++ f x).Perm (L.flatMap f ++ f y)
  | [], i, x, y, h => by simp at h
  | a :: L, 0, x, y, h => by
    simp at h; subst h
    rw [List.set_cons_zero, List.flatMap_cons, List.flatMap_cons]
    refine List.perm_append_comm.trans ?_
    rw [List.append_assoc]
    exact List.Perm.append_left _ List.perm_append_comm
  | a :: L, i + 1, x, y, h => by
    rw [List.set_cons_succ, List.flatMap_cons, List.flatMap_cons, List.append_assoc, List.append_assoc]
    exact (flat_set f L i x y (by simpa using h)).append_left _
theorem aset_set {α : Type} {n i : Nat} {d x : α} {l : List α} (h : l.length = n) : aset n d l i x = l.set i x := by unfold aset; rw [nrm_eq h]
theorem getD_at {α : Type} {i : Nat} {d x : α} {l : List α} (h : l[i]? = some x) : l.getD i d = x := by rw [List.getD_eq_getElem?_getD, h]; rfl
theorem at_len {α : Type} {i : Nat} {d : α} {l : List α} (h : i < l.length) : l[i]? = some (l.getD i d) := by rw [List.getD_eq_getElem?_getD, List.getElem?_eq_getElem h]; rfl
theorem set_getD {α : Type} {i j : Nat} {d x : α} {l : List α} (h : i < l.length) : (l.set i x).getD j d = if j = i then x else l.getD j d := by
  rw [List.getD_eq_getElem?_getD]
  by_cases hj : j = i
  · subst hj; rw [if_pos rfl, List.getElem?_set_self h]; rfl
  · rw [if_neg hj, List.getElem?_set_ne (Ne.symm hj), ← List.getD_eq_getElem?_getD]
theorem set_same {α : Type} {i : Nat} {d : α} {l : List α} (h : i < l.length) : l.set i (l.getD i d) = l := by
  apply List.ext_getElem?
  intro j
  by_cases hj : j = i
  · subst hj; rw [List.getElem?_set_self h, ← at_len h]
  · rw [List.getElem?_set_ne (Ne.symm hj)]
/-- The first one of some numbers. -/
theorem lp_first {O : Type} {n : Nat} {body : Int → Option (Int ⊕ (O ⊕ Unit))} (p : Nat → Bool) (v : Nat → O) {fl : Nat}
    (hb : ∀ i : Nat, i < n → body (i : Int) = if p i = true then some (.inr (.inl (v i))) else some (.inl ((i + 1 : Nat) : Int))) (he : body (n : Int) = some (.inr (.inr ()))) (hf : n < fl) :
    (lp body fl 0 = some (.inr ()) ∧ ∀ i, i < n → p i = false) ∨ ∃ i : Nat, i < n ∧ lp body fl 0 = some (.inl (v i)) ∧ p i = true ∧ ∀ j, j < i → p j = false := by
  have := lp_inv (body := body) (fun i (_ : Unit) => (i : Int)) (fun i _ => ∀ j, j < i → p j = false) (fun o => (o = .inr () ∧ ∀ i, i < n → p i = false) ∨ ∃ i : Nat, i < n ∧ o = .inl (v i) ∧ p i = true ∧ ∀ j, j < i → p j = false) (n := n) (fl := fl) (s0 := ()) (fun j hj => by omega)
    (fun i _ hi hI => by
      rw [hb i hi]
      cases hp : p i with
      | true => exact .inr ⟨_, rfl, .inr ⟨i, hi, rfl, hp, hI⟩⟩
      | false => exact .inl ⟨(), rfl, fun j hj => by
          by_cases h : j = i
          · subst h; exact hp
          · exact hI j (by omega)⟩)
    (fun _ hI => ⟨_, he, .inl ⟨rfl, hI⟩⟩) hf
  obtain ⟨o, h1, h2⟩ := this
  rcases h2 with ⟨rfl, h3⟩ | ⟨i, h3, rfl, h4⟩
  · exact .inl ⟨h1, h3⟩
  · exact .inr ⟨i, h3, h1, h4⟩

/-! ### Tenants -/
def nob (t : Tenant) : Bool := ((decide (t.ID = 0)) && (decide (t.Gen = 0))) && (decide ((t.Ext.length : Int) = 0))
theorem nob_iff {t : Tenant} : nob t = true ↔ t = ⟨0, 0, []⟩ := by
  obtain ⟨a, b, c⟩ := t
  unfold nob
  simp only [Bool.and_eq_true, decide_eq_true_eq, Tenant.mk.injEq]
  constructor
  · rintro ⟨⟨h1, h2⟩, h3⟩; exact ⟨h1, h2, List.eq_nil_of_length_eq_zero (by omega)⟩
  · rintro ⟨rfl, rfl, rfl⟩; exact ⟨⟨rfl, rfl⟩, rfl⟩
structure MayT (g : Int) (t : Tenant) : Prop where
  id1 : 1 ≤ t.ID
  id2 : t.ID ≤ 4611686018427387904
  g1 : 1 ≤ t.Gen
  g2 : t.Gen ≤ g
  few : t.Ext.length ≤ 8
  fine : Fine 1024 t.Ext
  many : 3 ≤ tot t.Ext
open Classical in
noncomputable instance decMayT (g : Int) (t : Tenant) : Decidable (MayT g t) := Classical.propDecidable _
theorem MayT.not_nob {g : Int} {t : Tenant} (h : MayT g t) : nob t = false := by
  cases hn : nob t with
  | false => rfl
  | true => rw [nob_iff] at hn; subst hn; have := h.id1; exact absurd this (by decide)
theorem dmay_eq {fl : Nat} {d : Dir} {t : Tenant} (hf : 5000 < fl) : F_dmay fl d t = some (decide (MayT d.Gen t)) := by
  unfold F_dmay
  rw [xMany_all hf, gif_s, bnd_s]
  congr 1
  by_cases h : MayT d.Gen t
  · rw [decide_eq_true h, decide_eq_true h.id1, decide_eq_true h.id2, decide_eq_true h.g1, decide_eq_true h.g2, decide_eq_true (by have := h.few; omega : (t.Ext.length : Int) ≤ 8), if_pos h.fine]
    exact decide_eq_true h.many
  · rw [decide_eq_false h]
    apply Bool.eq_false_iff.2
    intro hc
    simp only [Bool.and_eq_true, decide_eq_true_eq, beq_iff_eq] at hc
    obtain ⟨⟨⟨⟨⟨c1, c2⟩, c3⟩, c4⟩, c5⟩, c6⟩ := hc
    rw [if_pos ⟨⟨⟨⟨c1, c2⟩, c3⟩, c4⟩, c5⟩] at c6
    by_cases hF : Fine 1024 t.Ext
    · rw [if_pos hF] at c6
      exact h ⟨c1, c2, c3, c4, by omega, hF, c6⟩
    · rw [if_neg hF] at c6; omega

/-! ### Directories -/
/-- A directory's tenants and rows: sixteen. -/
abbrev ll (d : Dir) : List Tenant := nrm 16 (default : Tenant) d.L
abbrev mm (d : Dir) : List Int := nrm 16 (0 : Int) d.M
theorem ll_len (d : Dir) : (ll d).length = 16 := nrm_len
theorem mm_len (d : Dir) : (mm d).length = 16 := nrm_len
theorem mm_at {d : Dir} {i : Nat} (h : i < 16) : d.M.getD i 0 = (mm d).getD i 0 := (getD_at (nrm_at h)).symm
theorem ll_at {d : Dir} {i : Nat} (h : i < 16) : d.L.getD i default = (ll d).getD i default := (getD_at (nrm_at h)).symm
def ten (d : Dir) (i : Nat) : Tenant := (ll d).getD i default
def tk0 (d : Dir) : List Stx := ⟨0, 4⟩ :: (ll d).flatMap (·.Ext)
structure WF (d : Dir) : Prop where
  m : MOk (mm d)
  s : 0 ≤ d.Seq
  g : 0 ≤ d.Gen
structure Good (d : Dir) (i : Nat) : Prop where
  emp : nob (ten d i) = true → (mm d).getD i 0 = 0
  may : nob (ten d i) = false → MayT d.Gen (ten d i)
  dst : ∀ j, j < i → nob (ten d i) = false → nob (ten d j) = false → (ten d j).ID ≠ (ten d i).ID
structure OkD (d : Dir) : Prop where
  p1 : 8 ≤ d.Pages
  p2 : d.Pages ≤ 1024
  s2 : d.Seq ≤ 4611686018427387904
  g2 : d.Gen ≤ 4611686018427387904
  sy : Sym (mm d)
  good : ∀ i, i < 16 → Good d i
  fine : Fine d.Pages (tk0 d)
open Classical in
noncomputable instance decOkD (d : Dir) : Decidable (OkD d) := Classical.propDecidable _
theorem Good.few {d : Dir} {i : Nat} (h : Good d i) : (ten d i).Ext.length ≤ 8 := by
  cases hn : nob (ten d i) with
  | true => rw [nob_iff.1 hn]; exact Nat.zero_le _
  | false => exact (h.may hn).few
theorem flat_few {L : List Tenant} (h : ∀ t ∈ L, t.Ext.length ≤ 8) : (L.flatMap (·.Ext)).length ≤ 8 * L.length := by
  induction L with
  | nil => simp
  | cons a L ih =>
    rw [List.flatMap_cons, List.length_append, List.length_cons]
    have := ih fun t ht => h t (by simp [ht])
    have := h a (by simp)
    omega
theorem WF.at {d : Dir} (h : WF d) {i : Nat} (hi : i < 16) : (ll d)[i]? = some (ten d i) := at_len (by rw [ll_len d]; exact hi)
theorem WF.few {d : Dir} (h : WF d) (hg : ∀ i, i < 16 → (ten d i).Ext.length ≤ 8) : ∀ t ∈ (ll d), t.Ext.length ≤ 8 := fun t ht => by
  obtain ⟨i, hi⟩ := List.getElem?_of_mem ht
  have hl := (List.getElem?_eq_some_iff.1 hi).1
  rw [ll_len d] at hl
  rw [h.at hl] at hi
  cases hi; exact hg i hl
theorem dtaken_eq {d : Dir} {fl : Nat} (h : WF d) (hg : ∀ i, i < 16 → (ten d i).Ext.length ≤ 8) (hf : 16 < fl) : F_dtaken fl d = some (tk0 d) := by
  have hl := lp_fo (l := (ll d)) (body := F_dtaken_b0 d) (fun i s => (s, (i : Int))) (fun s x => .inl (s ++ x.Ext)) (fun s => s) (fun i s => s.length ≤ 1 + 8 * i) (fl := fl) (s0 := [⟨0, 4⟩]) (by simp)
    (fun i x s hx hI => by
      have hi := (List.getElem?_eq_some_iff.1 hx).1
      rw [ll_len d] at hi
      have hx8 := h.few hg x (List.mem_of_getElem? hx)
      refine .inl ⟨_, rfl, ?_, by rw [List.length_append]; omega⟩
      unfold F_dtaken_b0
      dsimp only
      rw [decide_eq_true (by omega : (i : Int) < 16), ifb_1, grd_t (belo hi), ixb_n hx, grd_t ⟨by omega, by omega⟩, nat_wrap (by omega)])
    (fun s hI => by unfold F_dtaken_b0; dsimp only; rw [ll_len d, decide_eq_false (by omega), ifb_0]) (by rw [ll_len d]; exact hf)
  unfold F_dtaken
  rw [show ((([(⟨0, 4⟩ : Stx)] : (List Stx)), (0 : Int))) = (([(⟨0, 4⟩ : Stx)] : List Stx), ((0 : Nat) : Int)) from rfl, hl, bnd_s, fo_all]
  congr 1
  have : ∀ (L : List Tenant) (s : List Stx), L.foldl (fun s x => s ++ x.Ext) s = s ++ L.flatMap (·.Ext) := by
    intro L
    induction L with
    | nil => intro s; simp
    | cons a L ih => intro s; rw [List.foldl_cons, ih, List.flatMap_cons, List.append_assoc]
  rw [this]; rfl
theorem dCheck_eq {d : Dir} {fl : Nat} (h : WF d) (hf : 5000 < fl) : F_dCheck fl d = some (if OkD d then none else some 1) := by
  unfold F_dCheck
  rw [mCheck_eq h.m (by omega), gif_s, bnd_s]
  by_cases hA : (8 ≤ d.Pages ∧ d.Pages ≤ 1024 ∧ d.Seq ≤ 4611686018427387904 ∧ d.Gen ≤ 4611686018427387904) ∧ Sym (mm d)
  rotate_left
  · rw [if_neg (fun k : OkD d => hA ⟨⟨k.p1, k.p2, k.s2, k.g2⟩, k.sy⟩)]
    have : (((((decide (d.Pages < 8)) || (decide (1024 < d.Pages))) || (decide (4611686018427387904 < d.Seq))) || (decide (4611686018427387904 < d.Gen))) || (if ((((decide (d.Pages < 8)) || (decide (1024 < d.Pages))) || (decide (4611686018427387904 < d.Seq))) || (decide (4611686018427387904 < d.Gen))) == false then (if Sym (mm d) then none else some (1 : Int)) else default).isSome) = true := by
      cases hc : ((((decide (d.Pages < 8)) || (decide (1024 < d.Pages))) || (decide (4611686018427387904 < d.Seq))) || (decide (4611686018427387904 < d.Gen))) with
      | true => rfl
      | false =>
        simp only [Bool.or_eq_false_iff, decide_eq_false_iff_not] at hc
        rw [if_pos (by rfl), if_neg (fun k => hA ⟨by omega, k⟩)]; rfl
    rw [this, ifb_1]
  obtain ⟨⟨a1, a2, a3, a4⟩, a5⟩ := hA
  rw [decide_eq_false (by omega : ¬ d.Pages < 8), decide_eq_false (by omega : ¬ 1024 < d.Pages), decide_eq_false (by omega : ¬ 4611686018427387904 < d.Seq), decide_eq_false (by omega : ¬ 4611686018427387904 < d.Gen), if_pos a5]
  show ifb false _ _ = _
  rw [ifb_0]
  have hl := lp_inv (body := F_dCheck_b0 fl d) (fun i s => ((i : Int), s)) (fun i s => (∀ j, j < i → Good d j) ∧ ∀ id, (s id).getD false = true ↔ ∃ j, j < i ∧ nob (ten d j) = false ∧ (ten d j).ID = id)
    (fun o => (∃ s, o = .inr s ∧ ∀ j, j < 16 → Good d j) ∨ (o = .inl (some 1) ∧ ∃ j, j < 16 ∧ ¬ Good d j)) (n := 16) (fl := fl) (s0 := fnil)
    ⟨(fun j hj => by omega), fun id => ⟨(fun k => by cases k), (fun ⟨j, hj, _⟩ => by omega)⟩⟩
    (fun i s hi ⟨hg, hs⟩ => by
      have hb : F_dCheck_b0 fl d ((i : Int), s) = bnd (ifb (nob (ten d i)) (ifb (decide ((mm d).getD i 0 ≠ 0)) (some (.inl (some 1))) (some (.inr s))) (ifb (!decide (MayT d.Gen (ten d i)) || (s (ten d i).ID).getD false) (some (.inl (some 1))) (some (.inr (fset s (ten d i).ID true))))) fun z_5 => ocs z_5 (fun q => some (.inr (.inl q))) fun z => some (.inl (((i + 1 : Nat) : Int), z)) := by
        unfold F_dCheck_b0
        dsimp only
        rw [decide_eq_true (by omega : (i : Int) < 16), ifb_1, grd_t (belo hi), ixb_n (h.at hi), show F_tnone (ten d i) = some (nob (ten d i)) from rfl, bnd_s, grd_t (belo hi), dmay_eq hf, bnd_s, nat_wrap (by omega), Int.toNat_natCast, mm_at hi]
      rw [hb]
      cases hn : nob (ten d i) with
      | true =>
        rw [ifb_1]
        by_cases hm : (mm d).getD i 0 = 0
        · rw [decide_eq_false (by exact fun k => k hm), ifb_0]
          refine .inl ⟨s, rfl, fun j hj => ?_, fun id => ?_⟩
          · by_cases hji : j = i
            · subst hji; exact ⟨fun _ => hm, (fun k => by rw [hn] at k; cases k), (fun _ _ k => by rw [hn] at k; cases k)⟩
            · exact hg j (by omega)
          · rw [hs id]
            constructor
            · rintro ⟨j, h1, h2⟩; exact ⟨j, by omega, h2⟩
            · rintro ⟨j, h1, h2, h3⟩
              by_cases hji : j = i
              · subst hji; rw [hn] at h2; cases h2
              · exact ⟨j, by omega, h2, h3⟩
        · rw [decide_eq_true hm, ifb_1]
          exact .inr ⟨_, rfl, .inr ⟨rfl, i, hi, fun k => hm (k.emp hn)⟩⟩
      | false =>
        rw [ifb_0]
        by_cases hm : MayT d.Gen (ten d i)
        · rw [decide_eq_true hm]
          cases hse : (s (ten d i).ID).getD false with
          | true =>
            obtain ⟨j, h1, h2, h3⟩ := (hs _).1 hse
            exact .inr ⟨_, rfl, .inr ⟨rfl, i, hi, fun k => k.dst j h1 hn h2 h3⟩⟩
          | false =>
            refine .inl ⟨_, rfl, fun j hj => ?_, fun id => ?_⟩
            · by_cases hji : j = i
              · subst hji
                exact ⟨(fun k => by rw [hn] at k; cases k), fun _ => hm, (fun k hk _ h2 h3 => by rw [(hs _).2 ⟨k, hk, h2, h3⟩] at hse; cases hse)⟩
              · exact hg j (by omega)
            · have hfs : fset s (ten d i).ID true id = if (ten d i).ID = id then some true else s id := rfl
              rw [hfs]
              by_cases hid : (ten d i).ID = id
              · rw [if_pos hid]; exact ⟨fun _ => ⟨i, by omega, hn, hid⟩, fun _ => rfl⟩
              · rw [if_neg hid, hs id]
                constructor
                · rintro ⟨j, h1, h2⟩; exact ⟨j, by omega, h2⟩
                · rintro ⟨j, h1, h2, h3⟩
                  by_cases hji : j = i
                  · subst hji; exact absurd h3 hid
                  · exact ⟨j, by omega, h2, h3⟩
        · rw [decide_eq_false hm]
          exact .inr ⟨_, rfl, .inr ⟨rfl, i, hi, fun k => hm (k.may hn)⟩⟩)
    (fun s ⟨hg, _⟩ => ⟨_, by unfold F_dCheck_b0; dsimp only; rw [decide_eq_false (by omega), ifb_0], .inl ⟨s, rfl, hg⟩⟩) (by omega)
  obtain ⟨o, e1, e2⟩ := hl
  rw [show ((0 : Int), (fnil : (Int → Option Bool))) = (((0 : Nat) : Int), fnil) from rfl, e1, bnd_s]
  rcases e2 with ⟨s, rfl, hg⟩ | ⟨rfl, j, hj, hn⟩
  · show bnd (F_dtaken fl d) _ = _
    rw [dtaken_eq h (fun i hi => (hg i hi).few) (by omega), bnd_s, xcheck_all hf, bnd_s]
    by_cases hF : Fine d.Pages (tk0 d)
    · rw [if_pos hF, if_pos ⟨a1, a2, a3, a4, a5, hg, hF⟩]
    · rw [if_neg hF, if_neg (fun k : OkD d => hF k.fine)]
  · rw [if_neg (fun k : OkD d => hn (k.good j hj))]; rfl

theorem OkD.few {d : Dir} (h : OkD d) : ∀ i, i < 16 → (ten d i).Ext.length ≤ 8 := fun i hi => (h.good i hi).few
theorem OkD.taken {d : Dir} {fl : Nat} (h : OkD d) (w : WF d) (hf : 16 < fl) : F_dtaken fl d = some (tk0 d) := dtaken_eq w h.few hf
theorem dTaken_eq {d : Dir} {fl : Nat} (w : WF d) (hf : 5000 < fl) : F_dTaken fl d = some (if OkD d then tk0 d else []) := by
  unfold F_dTaken
  rw [dCheck_eq w hf, bnd_s]
  by_cases h : OkD d
  · rw [if_pos h, if_pos h, h.taken w (by omega)]; rfl
  · rw [if_neg h, if_neg h]; rfl
theorem ixId_eq {d : Dir} {id : Int} {fl : Nat} (w : WF d) (hf : 16 < fl) : (F_ixId fl (ll d) id = some (-1) ∧ ∀ i, i < 16 → (ten d i).ID ≠ id) ∨ ∃ i : Nat, i < 16 ∧ F_ixId fl (ll d) id = some (i : Int) ∧ (ten d i).ID = id ∧ ∀ j, j < i → (ten d j).ID ≠ id := by
  have := lp_first (n := 16) (body := F_ixId_b0 (ll d) id) (fl := fl) (fun i => decide ((ten d i).ID = id)) (fun i => (i : Int)) (fun i hi => by
    unfold F_ixId_b0
    rw [ll_len d, decide_eq_true (by omega : (i : Int) < ((16 : Nat) : Int)), ifb_1, ixb_n (w.at hi), show F_place1 (ten d i) id = some (decide ((ten d i).ID = id)) from rfl, bnd_s, nat_wrap (by omega)]; rfl)
    (by unfold F_ixId_b0; rw [ll_len d, decide_eq_false (by omega), ifb_0]) hf
  unfold F_ixId
  rcases this with ⟨h1, h2⟩ | ⟨i, h1, h2, h3, h4⟩
  · rw [h1]; exact .inl ⟨rfl, fun i hi => of_decide_eq_false (h2 i hi)⟩
  · rw [h2]; exact .inr ⟨i, h1, rfl, of_decide_eq_true h3, fun j hj => of_decide_eq_false (h4 j hj)⟩
theorem ixNone_eq {d : Dir} {fl : Nat} (w : WF d) (hf : 16 < fl) : (F_ixNone fl (ll d) = some (-1) ∧ ∀ i, i < 16 → nob (ten d i) = false) ∨ ∃ i : Nat, i < 16 ∧ F_ixNone fl (ll d) = some (i : Int) ∧ nob (ten d i) = true ∧ ∀ j, j < i → nob (ten d j) = false := by
  have := lp_first (n := 16) (body := F_ixNone_b0 (ll d)) (fl := fl) (fun i => nob (ten d i)) (fun i => (i : Int)) (fun i hi => by
    unfold F_ixNone_b0
    rw [ll_len d, decide_eq_true (by omega : (i : Int) < ((16 : Nat) : Int)), ifb_1, ixb_n (w.at hi), show F_tnone (ten d i) = some (nob (ten d i)) from rfl, bnd_s, nat_wrap (by omega)]; rfl)
    (by unfold F_ixNone_b0; rw [ll_len d, decide_eq_false (by omega), ifb_0]) hf
  unfold F_ixNone
  rcases this with ⟨h1, h2⟩ | ⟨i, h1, h2, h3, h4⟩
  · rw [h1]; exact .inl ⟨rfl, h2⟩
  · rw [h2]; exact .inr ⟨i, h1, rfl, h3, h4⟩
theorem place_bad {d : Dir} {id : Int} {fl : Nat} (w : WF d) (hf : 5000 < fl) (h : ¬ (OkD d ∧ id ≠ 0)) : F_dPlace fl d id = some (0, some 1) := by
  unfold F_dPlace
  rw [dCheck_eq w hf, bnd_s]
  by_cases k : OkD d
  · rw [if_pos k, decide_eq_true (Classical.byContradiction fun q => h ⟨k, q⟩)]; rfl
  · rw [if_neg k]; rfl
/-- Where one is. -/
theorem place_any {d : Dir} {id : Int} {fl : Nat} (w : WF d) (h : OkD d) (h0 : id ≠ 0) (hf : 5000 < fl) : (F_dPlace fl d id = some (0, some 6) ∧ ∀ i, i < 16 → (ten d i).ID ≠ id) ∨ ∃ i : Nat, i < 16 ∧ F_dPlace fl d id = some ((i : Int), none) ∧ (ten d i).ID = id ∧ nob (ten d i) = false := by
  unfold F_dPlace
  rw [dCheck_eq w hf, bnd_s, if_pos h, decide_eq_false h0]
  show (ifb false _ _ = _ ∧ _) ∨ ∃ i : Nat, i < 16 ∧ ifb false _ _ = _ ∧ _
  rw [ifb_0]
  rcases ixId_eq (id := id) w (by omega : 16 < fl) with ⟨h1, h2⟩ | ⟨i, h1, h2, h3, h4⟩
  · rw [h1]; exact .inl ⟨rfl, h2⟩
  · rw [h2, bnd_s, decide_eq_false (by omega), ifb_0]
    refine .inr ⟨i, h1, rfl, h3, ?_⟩
    cases hn : nob (ten d i) with
    | false => rfl
    | true => rw [nob_iff.1 hn] at h3; exact absurd h3.symm h0
theorem OkD.uniq {d : Dir} (h : OkD d) {id : Int} (h0 : id ≠ 0) {i j : Nat} (hi : i < 16) (hj : j < 16) (h1 : (ten d i).ID = id) (h2 : (ten d j).ID = id) : i = j := by
  have ne : ∀ k, (ten d k).ID = id → nob (ten d k) = false := fun k hk => by
    cases hn : nob (ten d k) with
    | false => rfl
    | true => rw [nob_iff.1 hn] at hk; exact absurd hk.symm h0
  apply Classical.byContradiction
  intro hne
  rcases Nat.lt_or_gt_of_ne hne with hl | hl
  · exact (h.good j hj).dst i hl (ne j h2) (ne i h1) (h1.trans h2.symm)
  · exact (h.good i hi).dst j hl (ne i h1) (ne j h2) (h2.trans h1.symm)
theorem place_at {d : Dir} {id : Int} {fl i : Nat} (w : WF d) (h : OkD d) (h0 : id ≠ 0) (hf : 5000 < fl) (hi : i < 16) (h1 : (ten d i).ID = id) : F_dPlace fl d id = some ((i : Int), none) := by
  rcases place_any w h h0 hf with ⟨_, h2⟩ | ⟨j, hj, h2, h3, _⟩
  · exact absurd h1 (h2 i hi)
  · rw [h2, h.uniq h0 hi hj h1 h3]
theorem place_no {d : Dir} {id : Int} {fl : Nat} (w : WF d) (h : OkD d) (h0 : id ≠ 0) (hf : 5000 < fl) (h1 : ∀ i, i < 16 → (ten d i).ID ≠ id) : F_dPlace fl d id = some (0, some 6) := by
  rcases place_any w h h0 hf with ⟨h2, _⟩ | ⟨j, hj, h2, h3, _⟩
  · exact h2
  · exact absurd h3 (h1 j hj)
theorem dcopied_eq {d : Dir} {fl : Nat} (w : WF d) (h : ∀ i, i < 16 → (ten d i).Ext.length ≤ 8) (hf : 16 < fl) : F_dcopied fl d = some ({ d with L := ll d } : Dir) := by
  have hr : ∀ (e : Dir) (i : Nat), i < 16 → ll e = ll d → F_dcopied_b0 ((i : Int), e) = some (.inl (((i + 1 : Nat) : Int), ({ e with L := ll d } : Dir))) := fun e i hi he => by
    have h8 := h i hi
    unfold ten at h8
    unfold F_dcopied_b0 oCloneX
    dsimp only
    rw [decide_eq_true (by omega : (i : Int) < 16), ifb_1, grd_t (belo hi), Int.toNat_natCast, ll_at hi, he, grd_t ⟨⟨by omega, by omega⟩, by omega⟩, bnd_s, grd_t (belo hi), nat_wrap (by omega)]
    have e1 : (⟨((ll d).getD i default).ID, ((ll d).getD i default).Gen, ((ll d).getD i default).Ext⟩ : Tenant) = (ll d).getD i default := rfl
    rw [e1]
    unfold aset
    rw [show nrm 16 (default : Tenant) e.L = ll d from he, set_same (by rw [ll_len]; exact hi)]
  have hl := lp_seq (body := F_dcopied_b0) (o := ({ d with L := ll d } : Dir)) (fl := fl) (fun i => ((i : Int), if i = 0 then d else ({ d with L := ll d } : Dir))) (n := 16) (fun i hi => by
    rw [if_neg (Nat.succ_ne_zero i)]
    by_cases h0 : i = 0
    · rw [if_pos h0, hr d i hi rfl]
    · rw [if_neg h0, hr _ i hi (nrm_nrm)])
    (by unfold F_dcopied_b0; dsimp only; rw [decide_eq_false (by omega), ifb_0]; rfl) hf
  unfold F_dcopied
  rw [show ((0 : Int), d) = (((0 : Nat) : Int), if (0 : Nat) = 0 then d else ({ d with L := ll d } : Dir)) from rfl, hl]; rfl
theorem dnext_eq {d : Dir} {fl : Nat} (w : WF d) (h : ∀ i, i < 16 → (ten d i).Ext.length ≤ 8) (hf : 16 < fl) : F_dnext fl d = some (if 4611686018427387904 ≤ d.Seq then ((default : Dir), some 2) else (({ d with L := ll d, Seq := d.Seq + 1 } : Dir), none)) := by
  unfold F_dnext
  rw [ifb_dec]
  by_cases hs : 4611686018427387904 ≤ d.Seq
  · rw [if_pos hs, if_pos hs]
  · have h0 := w.s
    rw [if_neg hs, if_neg hs, dcopied_eq w h hf, bnd_s, wrap_u64 (by dsimp only; omega)]
theorem tk_cov : ∀ {l : List Stx} {m : Int} {a : Stx} {p : Int}, (∀ s ∈ l, 1 ≤ s.Many) → a ∈ (tk m l).1 → cov a p → ∃ s ∈ l, cov s p
  | [], m, a, p, _, h, _ => by simp [tk] at h
  | s :: l, m, a, p, hm, h, hc => by
    rw [tk] at h
    split at h
    · simp at h
    · split at h
      · simp at h; subst h
        rename_i h1 h2
        exact ⟨s, by simp, by unfold cov at hc ⊢; simp only at hc; omega⟩
      · rcases List.mem_cons.1 h with rfl | h
        · exact ⟨s, by simp, hc⟩
        · obtain ⟨t, h1, h2⟩ := tk_cov (fun s hs => hm s (by simp [hs])) h hc
          exact ⟨t, by simp [h1], h2⟩
/-- What is reserved. -/
noncomputable def rsv (d : Dir) (n : Int) : List Stx × Option Int := if (resR (freeR (tk0 d) d.Pages).1 n).2.2.isSome = true then ([], some 7) else ((resR (freeR (tk0 d) d.Pages).1 n).1, none)
theorem tk0_few {d : Dir} (w : WF d) (h : OkD d) : (tk0 d).length ≤ 200 := by
  unfold tk0
  have := flat_few (w.few h.few)
  rw [ll_len d] at this
  rw [List.length_cons]; omega
theorem dreserve_eq {d : Dir} {n : Int} {fl : Nat} (w : WF d) (h : OkD d) (hn : n < 9223372036854775808) (hf : 5000 < fl) : F_dreserve fl d n = some (rsv d n) := by
  have h1 := tk0_few w h
  have h2 : (freeR (tk0 d) d.Pages).2 = none := by unfold freeR; rw [if_pos h.fine]
  have h3 : (freeR (tk0 d) d.Pages).1.length ≤ 4000 := by
    unfold freeR
    rw [if_pos h.fine]
    refine Nat.le_trans (gaps_len _ _) ?_
    rw [List.length_append, (srt_perm (tk0 d)).length_eq]
    simp; omega
  unfold F_dreserve rsv
  rw [h.taken w (by omega), bnd_s, xFree_eq (by omega) hf, bnd_s, h2]
  show ifb false _ _ = _
  rw [ifb_0, xReserve_eq h3 hn hf, bnd_s]
  cases (resR (freeR (tk0 d) d.Pages).1 n).2.2.isSome <;> rfl
theorem rsv_ok {d : Dir} {n : Int} {l : List Stx} (h : OkD d) (hr : rsv d n = (l, none)) : Fine d.Pages (l ++ tk0 d) ∧ tot l = n ∧ l.length ≤ 8 ∧ 1 ≤ n ∧ Fine 1024 l := by
  unfold rsv at hr
  split at hr
  · cases hr
  · rename_i hh
    have hl := congrArg Prod.fst hr
    simp only at hl
    have hg := gaps_fine h.fine (srt_perm (tk0 d)) (srt_sfr (tk0 d))
    have hfr : (freeR (tk0 d) d.Pages).1 = gaps 0 (srt (tk0 d) ++ [⟨d.Pages, 0⟩]) := by unfold freeR; rw [if_pos h.fine]
    rw [hfr] at hl hh
    generalize gaps 0 (srt (tk0 d) ++ [⟨d.Pages, 0⟩]) = fr at hg hl hh
    obtain ⟨g1, g2, g3, g4⟩ := hg
    unfold resR at hl hh
    split at hh
    rotate_left
    · exact absurd rfl hh
    · rename_i hc
      rw [if_pos hc] at hl
      split at hh
      · exact absurd rfl hh
      · rename_i hc2
        rw [if_neg hc2] at hl
        simp only at hl
        have h1 : ∀ s ∈ fr, 1 ≤ s.Many := fun s hs => (g1.ok s hs).one
        obtain ⟨t1, t2, t3⟩ := tk_many (l := fr) (m := n) (by have := hc.2.2; omega) h1
        obtain ⟨t4, t5⟩ := tk_ok (pg := d.Pages) (l := fr) (m := n) (n := 0) (by have := hc.2.2; omega) g1.ok g2
        rw [hl] at t2 t4 t5 hc2
        have hd := asc_dis (fun s hs => by have := (t4 s hs).one; omega) 0 t5
        have hok : ∀ s ∈ l, Ok d.Pages s := fun s hs => t4 s (List.mem_append.2 (.inl hs))
        have hpw : l.Pairwise Dis := (List.pairwise_append.1 hd).1
        have htn : (tk n fr).2.2 = 0 := by omega
        refine ⟨⟨h.fine.p1, h.fine.p2, fun s hs => (List.mem_append.1 hs).elim (hok s) (h.fine.ok s), List.pairwise_append.2 ⟨hpw, h.fine.dis, fun a ha b hb => ?_⟩⟩, by omega, by omega, hc.2.2, ⟨by decide, by decide, fun s hs => ?_, hpw⟩⟩
        · refine dis_of_pages (hok a ha).one (h.fine.ok b hb).one fun p c1 c2 => ?_
          -- a page of a is one of what is free
          have hfree : ∃ s ∈ fr, cov s p := tk_cov h1 (hl ▸ ha) c1
          obtain ⟨s, hs, c3⟩ := hfree
          have := (List.pairwise_append.1 g3.dis).2.2 s hs b hb
          unfold Dis at this
          unfold cov at c2 c3
          omega
        · have k := hok s hs
          have := h.p2
          exact ⟨k.lo, by have := k.hi; omega, k.one, by have := k.fit; omega⟩
end Go.Proofs.YtokcgacehdgkcaaDoor.Eng.A

/- Directories in plain Lean: tenants come, go, grow and are joined. -/
namespace Go.Proofs.YtokcgacehdgkcaaDoor.Eng.A
set_option linter.unusedVariables false
set_option linter.unusedSimpArgs false
open Go.RowKit Go.Proofs.YtokcgacehdgkcaaDoor.Plain Go.Proofs.YtokcgacehdgkcaaDoor.Eng Go.Proofs.YtokcgacehdgkcaaDoor.Eng.Ha

theorem ten_set {d : Dir} {i j : Nat} {t : Tenant} {s g p : Int} {m : List Int} (hi : i < 16) (hj : j < 16) : ten ⟨s, g, p, (ll d).set i t, m⟩ j = if j = i then t else ten d j := by
  have e : ll ⟨s, g, p, (ll d).set i t, m⟩ = (ll d).set i t := nrm_eq (by rw [List.length_set]; exact ll_len d)
  unfold ten
  rw [e, set_getD (by rw [ll_len]; exact hi)]
theorem tk_set {d : Dir} {i : Nat} {t : Tenant} {s g p : Int} {m : List Int} (hi : i < 16) : (tk0 ⟨s, g, p, (ll d).set i t, m⟩ ++ (ten d i).Ext).Perm (tk0 d ++ t.Ext) := by
  have e : ll ⟨s, g, p, (ll d).set i t, m⟩ = (ll d).set i t := nrm_eq (by rw [List.length_set]; exact ll_len d)
  unfold tk0
  rw [e, List.cons_append, List.cons_append]
  exact (flat_set (·.Ext) (ll d) i (ten d i) t (at_len (by rw [ll_len]; exact hi))).cons _
theorem row0 {m : List Int} (h : MOk m) {i : Nat} (hi : i < 16) : m.getD i 0 = 0 ↔ ∀ b, b < 16 → MB m i b = false := by
  obtain ⟨n, h1, h2, h3, h4⟩ := h.row hi
  rw [getD_at h1]
  constructor
  · intro h b _
    rw [h3, show n = 0 by omega, Nat.zero_testBit]
  · intro hb
    have : n = 0 := by
      apply Nat.eq_of_testBit_eq
      intro b
      rw [Nat.zero_testBit, ← h3]
      by_cases h : b < 16
      · exact hb b h
      · exact MB_big (by assumption) (by omega)
    omega
/-- A directory with another tenant at a place. -/
theorem set_ok {d : Dir} (w : WF d) (h : OkD d) {i : Nat} (hi : i < 16) {t : Tenant} {m : List Int} {g s : Int} (hs0 : 0 ≤ s) (hs : s ≤ 4611686018427387904) (hg0 : d.Gen ≤ g) (hg : g ≤ 4611686018427387904) (hm : MOk (nrm 16 (0 : Int) m)) (sy : Sym (nrm 16 (0 : Int) m))
    (e1 : nob t = true → (nrm 16 (0 : Int) m).getD i 0 = 0) (e2 : ∀ j, j < 16 → j ≠ i → nob (ten d j) = true → (nrm 16 (0 : Int) m).getD j 0 = 0)
    (my : nob t = false → MayT g t) (ds : nob t = false → ∀ j, j < 16 → j ≠ i → nob (ten d j) = false → (ten d j).ID ≠ t.ID) (fn : Fine d.Pages (tk0 ⟨s, g, d.Pages, (ll d).set i t, m⟩)) :
    WF ⟨s, g, d.Pages, (ll d).set i t, m⟩ ∧ OkD ⟨s, g, d.Pages, (ll d).set i t, m⟩ := by
  have em : mm ⟨s, g, d.Pages, (ll d).set i t, m⟩ = nrm 16 (0 : Int) m := rfl
  have hT : ∀ j, j < 16 → ten ⟨s, g, d.Pages, (ll d).set i t, m⟩ j = if j = i then t else ten d j := fun j hj => ten_set hi hj
  refine ⟨⟨by rw [em]; exact hm, hs0, ?_⟩, ⟨h.p1, h.p2, hs, hg, by rw [em]; exact sy, fun j hj => ?_, fn⟩⟩
  · show 0 ≤ g
    have := w.g; omega
  · refine ⟨fun hn => ?_, fun hn => ?_, fun k hk hn hnk => ?_⟩
    · rw [hT j hj] at hn
      rw [em]
      by_cases hji : j = i
      · subst hji; rw [if_pos rfl] at hn; exact e1 hn
      · rw [if_neg hji] at hn; exact e2 j hj hji hn
    · rw [hT j hj] at hn ⊢
      by_cases hji : j = i
      · rw [if_pos hji] at hn ⊢; exact my hn
      · rw [if_neg hji] at hn ⊢
        have k := (h.good j hj).may hn
        exact ⟨k.id1, k.id2, k.g1, Int.le_trans k.g2 hg0, k.few, k.fine, k.many⟩
    · rw [hT j hj] at hn
      rw [hT k (by omega)] at hnk
      rw [hT j hj, hT k (by omega)]
      by_cases hji : j = i
      · subst hji
        rw [if_pos rfl] at hn
        rw [if_neg (by omega)] at hnk
        rw [if_pos rfl, if_neg (by omega)]
        exact ds hn k (by omega) (by omega) hnk
      · rw [if_neg hji] at hn
        rw [if_neg hji]
        by_cases hki : k = i
        · subst hki
          rw [if_pos rfl] at hnk
          rw [if_pos rfl]
          exact (ds hnk j hj hji hn).symm
        · rw [if_neg hki] at hnk
          rw [if_neg hki]
          exact (h.good j hj).dst k hk hn hnk
/-! ### One comes -/
def mkC (d : Dir) (i : Nat) (id : Int) (l : List Stx) : Dir := ⟨d.Seq + 1, d.Gen + 1, d.Pages, (ll d).set i ⟨id, d.Gen + 1, l⟩, d.M⟩
structure CreOk (d : Dir) (id n : Int) (i : Nat) (l : List Stx) : Prop where
  hi : i < 16
  e : nob (ten d i) = true
  id1 : 1 ≤ id
  id2 : id ≤ 4611686018427387904
  n1 : 3 ≤ n
  nw : ∀ j, j < 16 → (ten d j).ID ≠ id
  r : rsv d n = (l, none)
  g : d.Gen < 4611686018427387904
  s : d.Seq < 4611686018427387904
theorem CreOk.ok {d : Dir} {id n : Int} {i : Nat} {l : List Stx} (w : WF d) (h : OkD d) (c : CreOk d id n i l) : WF (mkC d i id l) ∧ OkD (mkC d i id l) := by
  obtain ⟨r1, r2, r3, r4, r5⟩ := rsv_ok h c.r
  have w1 := w.s
  have w2 := w.g
  have hmay : MayT (d.Gen + 1) ⟨id, d.Gen + 1, l⟩ := ⟨c.id1, c.id2, by show 1 ≤ d.Gen + 1; omega, Int.le_refl _, r3, r5, by show 3 ≤ tot l; rw [r2]; exact c.n1⟩
  have c1 := c.s
  have c2 := c.g
  refine set_ok w h c.hi (by omega) (by omega) (by omega) (by omega) w.m h.sy (fun k => by rw [hmay.not_nob] at k; cases k) (fun j hj _ hn => (h.good j hj).emp hn) (fun _ => hmay) (fun _ j hj _ _ => c.nw j hj) ?_
  have hp := tk_set (d := d) (t := ⟨id, d.Gen + 1, l⟩) (s := d.Seq + 1) (g := d.Gen + 1) (p := d.Pages) (m := d.M) c.hi
  rw [nob_iff.1 c.e] at hp
  simp only [List.append_nil] at hp
  exact r1.perm (hp.trans List.perm_append_comm)
theorem create_any {d : Dir} {id n : Int} {fl : Nat} (w : WF d) (h : OkD d) (hn : n < 9223372036854775808) (hf : 5000 < fl) : ∃ r, F_dCreate fl d id n = some r ∧ ((∃ e, r.2 = some e) ∨ ∃ i l, CreOk d id n i l ∧ r = (mkC d i id l, none)) := by
  unfold F_dCreate
  rw [dCheck_eq w hf, bnd_s, if_pos h]
  by_cases hA : 1 ≤ id ∧ id ≤ 4611686018427387904 ∧ 3 ≤ n ∧ n ≤ 1024
  rotate_left
  · have : (((((none : Option Int).isSome || (decide (id < 1))) || (decide (4611686018427387904 < id))) || (decide (n < 3))) || (decide (1024 < n))) = true := by
      simp only [Option.isSome_none, Bool.false_or, Bool.or_eq_true, decide_eq_true_eq]; omega
    rw [this, ifb_1]; exact ⟨_, rfl, .inl ⟨_, rfl⟩⟩
  obtain ⟨a1, a2, a3, a4⟩ := hA
  rw [decide_eq_false (by omega : ¬ id < 1), decide_eq_false (by omega : ¬ 4611686018427387904 < id), decide_eq_false (by omega : ¬ n < 3), decide_eq_false (by omega : ¬ 1024 < n)]
  show ∃ r, ifb false _ _ = _ ∧ _
  rw [ifb_0]
  rcases place_any w h (show id ≠ 0 by omega) hf with ⟨h1, h2⟩ | ⟨j, hj, h1, _⟩
  rotate_left
  · rw [h1]; exact ⟨_, rfl, .inl ⟨_, rfl⟩⟩
  rw [h1, bnd_s, dreserve_eq w h hn hf]
  show ∃ r, ifb false _ _ = _ ∧ _
  rw [ifb_0]
  rcases ixNone_eq w (by omega : 16 < fl) with ⟨h3, h4⟩ | ⟨i, hi, h3, h4, h5⟩
  · rw [h3]; exact ⟨_, rfl, .inl ⟨_, rfl⟩⟩
  rw [h3, bnd_s, bnd_s, decide_eq_false (by omega : ¬ (i : Int) < 0), Bool.false_or, dnext_eq w h.few (by omega)]
  obtain ⟨⟨l, e⟩, hr⟩ : ∃ r, rsv d n = r := ⟨_, rfl⟩
  rw [hr]
  cases e with
  | some e => exact ⟨_, rfl, .inl ⟨_, rfl⟩⟩
  | none =>
    by_cases hg : 4611686018427387904 ≤ d.Gen
    · rw [decide_eq_true hg]; exact ⟨_, rfl, .inl ⟨_, rfl⟩⟩
    · rw [decide_eq_false hg]
      show ∃ r, ifb false _ _ = _ ∧ _
      rw [ifb_0, bnd_s]
      by_cases hs : 4611686018427387904 ≤ d.Seq
      · rw [if_pos hs]; exact ⟨_, rfl, .inl ⟨_, rfl⟩⟩
      · rw [if_neg hs]
        have := w.g
        show ∃ r, ifb false _ _ = _ ∧ _
        rw [ifb_0, grd_t (belo hi)]
        dsimp only
        rw [wrap_u64 (by omega), Int.toNat_natCast]
        refine ⟨_, rfl, .inr ⟨i, l, ⟨hi, h4, a1, a2, a3, h2, hr, by omega, by omega⟩, ?_⟩⟩
        rw [aset_set (ll_len d)]; rfl

theorem Fine.sub {pg : Int} {l m : List Stx} (h : Fine pg l) (hs : m.Sublist l) : Fine pg m := ⟨h.p1, h.p2, fun s k => h.ok s (hs.subset k), h.dis.sublist hs⟩
theorem Fine.left {pg : Int} {l m : List Stx} (h : Fine pg (l ++ m)) : Fine pg l := h.sub (List.sublist_append_left _ _)
theorem sub_flat {α β : Type} (f : α → List β) : ∀ (L : List α) (i : Nat) (x : α), L[i]? = some x → (f x).Sublist (L.flatMap f)
  | [], i, x, h => by simp at h
  | a :: L, 0, x, h => by simp at h; subst h; rw [List.flatMap_cons]; exact List.sublist_append_left _ _
  | a :: L, i + 1, x, h => by rw [List.flatMap_cons]; exact (sub_flat f L i x (by simpa using h)).trans (List.sublist_append_right _ _)
theorem ext_sub {d : Dir} {i : Nat} (hi : i < 16) : (ten d i).Ext.Sublist (tk0 d) := (sub_flat (·.Ext) (ll d) i (ten d i) (at_len (by rw [ll_len]; exact hi))).trans (List.sublist_cons_self _ _)
theorem OkD.ext {d : Dir} (h : OkD d) {i : Nat} (hi : i < 16) : Fine 1024 (ten d i).Ext := (h.fine.sub (ext_sub hi)).up h.p2 (by decide)
/-! ### One goes -/
def mkD (d : Dir) (i : Nat) (m : List Int) : Dir := ⟨d.Seq + 1, d.Gen, d.Pages, (ll d).set i ⟨0, 0, []⟩, m⟩
theorem delete_at {d : Dir} {id : Int} {i fl : Nat} (w : WF d) (h : OkD d) (h0 : id ≠ 0) (hi : i < 16) (h1 : (ten d i).ID = id) (hf : 5000 < fl) : ∃ m, MOk m ∧ Sym m ∧ (∀ c, c < 16 → ∀ e, e < 16 → MB m c e = if c = i ∨ e = i then false else MB (mm d) c e) ∧ F_dDelete fl d id = some (if 4611686018427387904 ≤ d.Seq then ((default : Dir), some 2) else (mkD d i m, none)) := by
  obtain ⟨m, e1, e2, e3, e4⟩ := mLeave_eq w.m h.sy hi (by omega : 16 < fl)
  refine ⟨m, e2, e3, e4, ?_⟩
  unfold F_dDelete
  rw [place_at w h h0 hf hi h1, bnd_s]
  show ifb false _ _ = _
  rw [ifb_0, dnext_eq w h.few (by omega), bnd_s]
  by_cases hs : 4611686018427387904 ≤ d.Seq
  · rw [if_pos hs, if_pos hs]; rfl
  · rw [if_neg hs, if_neg hs]
    show ifb false _ _ = _
    rw [ifb_0, grd_t (belo hi)]
    dsimp only
    rw [e1, bnd_s, grd_t e2.len, Int.toNat_natCast, aset_set (ll_len d)]; rfl
theorem delete_no {d : Dir} {id : Int} {fl : Nat} (w : WF d) (h : OkD d) (h0 : id ≠ 0) (h1 : ∀ i, i < 16 → (ten d i).ID ≠ id) (hf : 5000 < fl) : F_dDelete fl d id = some ((default : Dir), some 6) := by
  unfold F_dDelete
  rw [place_no w h h0 hf h1]; rfl
theorem mkD_ok {d : Dir} {i : Nat} {m : List Int} (w : WF d) (h : OkD d) (hi : i < 16) (hs : d.Seq < 4611686018427387904) (hm : MOk m) (sy : Sym m) (he : ∀ c, c < 16 → ∀ e, e < 16 → MB m c e = if c = i ∨ e = i then false else MB (mm d) c e) : WF (mkD d i m) ∧ OkD (mkD d i m) := by
  have w1 := w.s
  have en := nrm_eq (d := (0 : Int)) hm.len
  refine set_ok w h hi (by omega) (by omega) (Int.le_refl _) h.g2 (by rw [en]; exact hm) (by rw [en]; exact sy) (fun _ => ?_) (fun j hj hji hn => ?_) (fun k => by cases k) (fun k => by cases k) ?_
  · rw [en, row0 hm hi]
    exact fun b hb => by rw [he i hi b hb, if_pos (.inl rfl)]
  · rw [en, row0 hm hj]
    have := (row0 w.m hj).1 ((h.good j hj).emp hn)
    exact fun b hb => by rw [he j hj b hb, this b hb]; split <;> rfl
  · have hp := tk_set (d := d) (t := ⟨0, 0, []⟩) (s := d.Seq + 1) (g := d.Gen) (p := d.Pages) (m := m) hi
    simp only [List.append_nil] at hp
    exact (h.fine.perm hp).left
/-! ### One grows -/
def mkG (d : Dir) (i : Nat) (l : List Stx) : Dir := ⟨d.Seq + 1, d.Gen, d.Pages, (ll d).set i ⟨(ten d i).ID, (ten d i).Gen, (ten d i).Ext ++ l⟩, d.M⟩
structure GroOk (d : Dir) (id n : Int) (i : Nat) (l : List Stx) : Prop where
  hi : i < 16
  e : nob (ten d i) = false
  hid : (ten d i).ID = id
  id0 : id ≠ 0
  n1 : 1 ≤ n
  r : rsv d n = (l, none)
  few : l.length + (ten d i).Ext.length ≤ 8
  s : d.Seq < 4611686018427387904
theorem GroOk.fine {d : Dir} {id n : Int} {i : Nat} {l : List Stx} (w : WF d) (h : OkD d) (c : GroOk d id n i l) : Fine d.Pages (tk0 (mkG d i l)) := by
  obtain ⟨r1, r2, r3, r4, r5⟩ := rsv_ok h c.r
  have hp := tk_set (d := d) (t := ⟨(ten d i).ID, (ten d i).Gen, (ten d i).Ext ++ l⟩) (s := d.Seq + 1) (g := d.Gen) (p := d.Pages) (m := d.M) c.hi
  have hp2 : (tk0 (mkG d i l) ++ (ten d i).Ext).Perm ((l ++ tk0 d) ++ (ten d i).Ext) := by
    refine hp.trans ?_
    refine (List.Perm.append_left (tk0 d) List.perm_append_comm).trans ?_
    rw [← List.append_assoc]
    exact List.Perm.append_right _ List.perm_append_comm
  exact r1.perm ((List.perm_append_right_iff _).1 hp2)
theorem GroOk.ok {d : Dir} {id n : Int} {i : Nat} {l : List Stx} (w : WF d) (h : OkD d) (c : GroOk d id n i l) : WF (mkG d i l) ∧ OkD (mkG d i l) ∧ Fine 1024 ((ten d i).Ext ++ l) := by
  obtain ⟨r1, r2, r3, r4, r5⟩ := rsv_ok h c.r
  have w1 := w.s
  have c1 := c.s
  have hfn := c.fine w h
  have hsub : Fine 1024 ((ten d i).Ext ++ l) := by
    have e := ten_set (d := d) (t := ⟨(ten d i).ID, (ten d i).Gen, (ten d i).Ext ++ l⟩) (s := d.Seq + 1) (g := d.Gen) (p := d.Pages) (m := d.M) c.hi c.hi
    rw [if_pos rfl] at e
    have := ext_sub (d := mkG d i l) c.hi
    rw [show ten (mkG d i l) i = _ from e] at this
    exact (hfn.sub this).up h.p2 (by decide)
  have k := (h.good i c.hi).may c.e
  have hmay : MayT d.Gen ⟨(ten d i).ID, (ten d i).Gen, (ten d i).Ext ++ l⟩ := ⟨k.id1, k.id2, k.g1, k.g2, by have := c.few; simp; omega, hsub, by show 3 ≤ tot _; rw [tot_append]; have := k.many; omega⟩
  obtain ⟨o1, o2⟩ := set_ok w h c.hi (s := d.Seq + 1) (g := d.Gen) (m := d.M) (by omega) (by omega) (Int.le_refl _) h.g2 w.m h.sy (fun q => by rw [hmay.not_nob] at q; cases q) (fun j hj _ hn => (h.good j hj).emp hn) (fun _ => hmay)
    (fun _ j hj hji hn q => by
      have := h.uniq (id := (ten d i).ID) (by have := k.id1; omega) hj c.hi q rfl
      exact hji this) hfn
  exact ⟨o1, o2, hsub⟩
theorem grow_any {d : Dir} {id n : Int} {fl : Nat} (w : WF d) (h : OkD d) (hn : n < 9223372036854775808) (hf : 5000 < fl) : ∃ r, F_dGrow fl d id n = some r ∧ ((∃ e, r.2 = some e) ∨ ∃ i l, GroOk d id n i l ∧ r = (mkG d i l, none)) := by
  unfold F_dGrow
  rw [dCheck_eq w hf, bnd_s, if_pos h]
  by_cases hA : 1 ≤ n ∧ n ≤ 1024
  rotate_left
  · have : (((none : Option Int).isSome || (decide (n < 1))) || (decide (1024 < n))) = true := by
      simp only [Option.isSome_none, Bool.false_or, Bool.or_eq_true, decide_eq_true_eq]; omega
    rw [this, ifb_1]; exact ⟨_, rfl, .inl ⟨_, rfl⟩⟩
  obtain ⟨a3, a4⟩ := hA
  rw [decide_eq_false (by omega : ¬ n < 1), decide_eq_false (by omega : ¬ 1024 < n)]
  show ∃ r, ifb false _ _ = _ ∧ _
  rw [ifb_0]
  by_cases h0 : id = 0
  · rw [place_bad w hf (fun k => k.2 h0)]; exact ⟨_, rfl, .inl ⟨_, rfl⟩⟩
  rcases place_any w h h0 hf with ⟨h1, h2⟩ | ⟨i, hi, h1, h2, h3⟩
  · rw [h1]; exact ⟨_, rfl, .inl ⟨_, rfl⟩⟩
  rw [h1, bnd_s]
  show ∃ r, ifb false _ _ = _ ∧ _
  rw [ifb_0, dreserve_eq w h hn hf, bnd_s]
  obtain ⟨⟨l, e⟩, hr⟩ : ∃ r, rsv d n = r := ⟨_, rfl⟩
  rw [hr, grd_t (fun _ => belo hi)]
  cases e with
  | some e => exact ⟨_, rfl, .inl ⟨_, rfl⟩⟩
  | none =>
    obtain ⟨r1, r2, r3, r4, r5⟩ := rsv_ok h hr
    have h8 := h.few i hi
    dsimp only
    rw [Int.toNat_natCast, ll_at hi, show (ll d).getD i default = ten d i from rfl, wrap_i64 (by omega)]
    by_cases hl : 8 < (l.length : Int) + ((ten d i).Ext.length : Int)
    · rw [decide_eq_true hl]; exact ⟨_, rfl, .inl ⟨_, rfl⟩⟩
    · rw [decide_eq_false hl]
      show ∃ r, ifb false _ _ = _ ∧ _
      rw [ifb_0, grd_t hi, dnext_eq w h.few (by omega), bnd_s]
      by_cases hs : 4611686018427387904 ≤ d.Seq
      · rw [if_pos hs]; exact ⟨_, rfl, .inl ⟨_, rfl⟩⟩
      · rw [if_neg hs]
        show ∃ r, ifb false _ _ = _ ∧ _
        rw [ifb_0, grd_t (belo hi)]
        dsimp only
        rw [show (ll d).getD i default = ten d i from rfl, grd_t ⟨by omega, by omega⟩, grd_t (belo hi)]
        refine ⟨_, rfl, .inr ⟨i, l, ⟨hi, h3, h2, h0, a3, hr, by omega, by omega⟩, ?_⟩⟩
        rw [aset_set (ll_len d)]; rfl
/-! ### Two see one another -/
def mkL (d : Dir) (m : List Int) : Dir := ⟨d.Seq + 1, d.Gen, d.Pages, ll d, m⟩
structure LinOk (d : Dir) (a b : Int) (see : Bool) (i k : Nat) (m : List Int) : Prop where
  hi : i < 16
  hk : k < 16
  ne : i ≠ k
  ia : (ten d i).ID = a
  kb : (ten d k).ID = b
  ni : nob (ten d i) = false
  nk : nob (ten d k) = false
  hm : MOk m
  sy : Sym m
  mb : ∀ c, c < 16 → ∀ e, e < 16 → MB m c e = if (c = i ∧ e = k) ∨ (c = k ∧ e = i) then see else MB (mm d) c e
  s : d.Seq < 4611686018427387904
theorem LinOk.ok {d : Dir} {a b : Int} {see : Bool} {i k : Nat} {m : List Int} (w : WF d) (h : OkD d) (c : LinOk d a b see i k m) : WF (mkL d m) ∧ OkD (mkL d m) := by
  have w1 := w.s
  have c1 := c.s
  have en := nrm_eq (d := (0 : Int)) c.hm.len
  have es : (ll d).set i (ten d i) = ll d := set_same (by rw [ll_len]; exact c.hi)
  have et : tk0 (mkL d m) = tk0 d := by unfold tk0 mkL ll; dsimp only; rw [nrm_nrm]
  have := set_ok w h c.hi (t := ten d i) (s := d.Seq + 1) (g := d.Gen) (m := m) (by omega) (by omega) (Int.le_refl _) h.g2 (by rw [en]; exact c.hm) (by rw [en]; exact c.sy) (fun q => by rw [c.ni] at q; cases q) (fun j hj hji hn => by
      rw [en, row0 c.hm hj]
      have h1 := (row0 w.m hj).1 ((h.good j hj).emp hn)
      have h2 : j ≠ k := fun q => by subst q; rw [c.nk] at hn; cases hn
      exact fun b hb => by rw [c.mb j hj b hb, if_neg (by omega)]; exact h1 b hb)
    (fun hn => (h.good i c.hi).may hn) (fun hn j hj hji hnj q => by
      have := h.uniq (id := (ten d i).ID) (by have := ((h.good i c.hi).may hn).id1; omega) hj c.hi q rfl
      exact hji this) (by rw [es]; exact (et ▸ h.fine : Fine d.Pages (tk0 (mkL d m))))
  rw [es] at this
  exact this
theorem link_any {d : Dir} {a b : Int} {see : Bool} {fl : Nat} (w : WF d) (h : OkD d) (ha : a ≠ 0) (hb : b ≠ 0) (hf : 5000 < fl) : ∃ r, F_dLink fl d a b see = some r ∧ ((∃ e, r.2 = some e) ∨ ∃ i k m, LinOk d a b see i k m ∧ r = (mkL d m, none)) := by
  unfold F_dLink
  rcases place_any w h ha hf with ⟨h1, h2⟩ | ⟨i, hi, h1, h2, h3⟩
  · rw [h1]; exact ⟨_, rfl, .inl ⟨_, rfl⟩⟩
  rw [h1, bnd_s]
  show ∃ r, ifb false _ _ = _ ∧ _
  rw [ifb_0]
  rcases place_any w h hb hf with ⟨k1, k2⟩ | ⟨k, hk, k1, k2, k3⟩
  · rw [k1]; exact ⟨_, rfl, .inl ⟨_, rfl⟩⟩
  rw [k1, bnd_s]
  show ∃ r, ifb false _ _ = _ ∧ _
  rw [ifb_0]
  dsimp only
  by_cases hik : i = k
  · rw [decide_eq_true (by omega : (i : Int) = (k : Int))]; exact ⟨_, rfl, .inl ⟨_, rfl⟩⟩
  rw [decide_eq_false (by omega : ¬ (i : Int) = (k : Int)), ifb_0, dnext_eq w h.few (by omega), bnd_s]
  by_cases hs : 4611686018427387904 ≤ d.Seq
  · rw [if_pos hs]; exact ⟨_, rfl, .inl ⟨_, rfl⟩⟩
  rw [if_neg hs]
  show ∃ r, ifb false _ _ = _ ∧ _
  rw [ifb_0]
  dsimp only
  cases see with
  | true =>
    obtain ⟨m, e1, e2, e3, e4⟩ := mOpen_eq w.m h.sy hi hk hik (by omega : 16 < fl)
    rw [ifb_1, e1, bnd_s, grd_t e2.len]
    exact ⟨_, rfl, .inr ⟨i, k, m, ⟨hi, hk, hik, h2, k2, h3, k3, e2, e3, e4, by omega⟩, rfl⟩⟩
  | false =>
    obtain ⟨m, e1, e2, e3, e4⟩ := mClose_eq w.m h.sy hi hk hik (by omega : 16 < fl)
    rw [ifb_0, e1, bnd_s, grd_t e2.len]
    exact ⟨_, rfl, .inr ⟨i, k, m, ⟨hi, hk, hik, h2, k2, h3, k3, e2, e3, e4, by omega⟩, rfl⟩⟩
/-! ### Who sees whom -/
theorem sees_at {d : Dir} {a b : Int} {i k fl : Nat} (w : WF d) (h : OkD d) (ha : a ≠ 0) (hb : b ≠ 0) (hi : i < 16) (hk : k < 16) (h1 : (ten d i).ID = a) (h2 : (ten d k).ID = b) (hf : 5000 < fl) : F_dSees fl d a b = some (decide (i = k) || MB (mm d) i k) := by
  unfold F_dSees
  rw [place_at w h ha hf hi h1, place_at w h hb hf hk h2, bnd_s]
  show ifb false _ _ = _
  rw [ifb_0, bnd_s]
  dsimp only
  rw [mSees_eq w.m h.sy hi hk (by omega)]; rfl
theorem sees_no {d : Dir} {a b : Int} {fl : Nat} (w : WF d) (h : OkD d) (ha : a ≠ 0) (h1 : ∀ i, i < 16 → (ten d i).ID ≠ a) (hf : 5000 < fl) : F_dSees fl d a b = some false := by
  unfold F_dSees
  rw [place_no w h ha hf h1]; rfl
theorem sees_none {d : Dir} {a b : Int} {fl : Nat} (w : WF d) (h : OkD d) (ha : a ≠ 0) (hb : b ≠ 0) (h1 : ∀ i, i < 16 → (ten d i).ID ≠ b) (hf : 5000 < fl) : F_dSees fl d a b = some false := by
  unfold F_dSees
  rcases place_any w h ha hf with ⟨e1, _⟩ | ⟨i, hi, e1, _, _⟩
  · rw [e1]; rfl
  · rw [e1, place_no w h hb hf h1]; rfl
end Go.Proofs.YtokcgacehdgkcaaDoor.Eng.A

/- Directories in plain Lean: what must come whatever the input is. -/
namespace Go.Proofs.YtokcgacehdgkcaaDoor.Eng.A
set_option linter.unusedVariables false
set_option linter.unusedSimpArgs false
open Go.RowKit Go.Proofs.YtokcgacehdgkcaaDoor.Plain Go.Proofs.YtokcgacehdgkcaaDoor.Eng Go.Proofs.YtokcgacehdgkcaaDoor.Eng.Ha Go.Proofs.YtokcgacehdgkcaaDoor.Eng.Er

theorem rsv_calc {d : Dir} {n : Int} {l fr : List Stx} (h : OkD d) (ht : tk0 d = l) (hs : l.Pairwise sfr) (hfr : gaps 0 (l ++ [⟨d.Pages, 0⟩]) = fr) (hn : 1 ≤ n) : rsv d n = if 0 < (tk n fr).2.2 ∨ 8 < (tk n fr).1.length then ([], some 7) else ((tk n fr).1, none) := by
  subst ht
  have hF := h.fine
  have hsrt : srt (tk0 d) = tk0 d := sfr_unique (srt_perm _) hF.dis (fun s k => (hF.ok s k).one) hs (srt_sfr _)
  obtain ⟨g1, g2, g3, g4⟩ := gaps_fine hF (srt_perm (tk0 d)) (srt_sfr (tk0 d))
  unfold rsv
  have e : (freeR (tk0 d) d.Pages).1 = fr := by unfold freeR; rw [if_pos hF, hsrt, hfr]
  rw [hsrt, hfr] at g1 g2
  have hp : Fine 1024 fr ∧ fr.Pairwise sfr ∧ 1 ≤ n := ⟨g1.up h.p2 (by decide), asc_sorted (fun s k => by have := (g1.ok s k).one; omega) 0 g2, hn⟩
  rw [e]
  unfold resR
  rw [if_pos hp]
  by_cases hc : 0 < (tk n fr).2.2 ∨ 8 < (tk n fr).1.length
  · rw [if_pos hc, if_pos hc]; rfl
  · rw [if_neg hc, if_neg hc]; rfl
theorem create_at {d : Dir} {id n : Int} {i fl : Nat} {l : List Stx} (w : WF d) (h : OkD d) (c : CreOk d id n i l) (hn : n ≤ 1024) (hi : ∀ j, j < i → nob (ten d j) = false) (hf : 5000 < fl) : F_dCreate fl d id n = some (mkC d i id l, none) := by
  have c1 := c.id1
  have c2 := c.id2
  have c3 := c.n1
  have c4 := c.g
  have c5 := c.s
  have := w.g
  unfold F_dCreate
  rw [dCheck_eq w hf, bnd_s, if_pos h, decide_eq_false (by omega : ¬ id < 1), decide_eq_false (by omega : ¬ 4611686018427387904 < id), decide_eq_false (by omega : ¬ n < 3), decide_eq_false (by omega : ¬ 1024 < n)]
  show ifb false _ _ = _
  rw [ifb_0, place_no w h (by omega) hf c.nw, bnd_s, dreserve_eq w h (by omega) hf, c.r]
  show ifb false _ _ = _
  rw [ifb_0]
  rcases ixNone_eq w (by omega : 16 < fl) with ⟨h3, h4⟩ | ⟨k, hk, h3, h4, h5⟩
  · have := h4 i c.hi; rw [c.e] at this; cases this
  obtain rfl : k = i := by
    apply Classical.byContradiction
    intro hne
    rcases Nat.lt_or_gt_of_ne hne with hl | hl
    · have := hi k hl; rw [h4] at this; cases this
    · have := h5 i hl; rw [c.e] at this; cases this
  rw [h3, bnd_s, bnd_s, decide_eq_false (by omega : ¬ (k : Int) < 0), decide_eq_false (by omega : ¬ 4611686018427387904 ≤ d.Gen), dnext_eq w h.few (by omega)]
  show ifb false _ _ = _
  rw [ifb_0, bnd_s, if_neg (by omega)]
  show ifb false _ _ = _
  rw [ifb_0, grd_t (belo hk)]
  dsimp only
  rw [wrap_u64 (by omega), Int.toNat_natCast, aset_set (ll_len d)]; rfl
theorem create_twice {d : Dir} {id n : Int} {i fl : Nat} (w : WF d) (h : OkD d) (h1 : 1 ≤ id) (h2 : id ≤ 4611686018427387904) (h3 : 3 ≤ n) (h4 : n ≤ 1024) (hi : i < 16) (hid : (ten d i).ID = id) (hf : 5000 < fl) : F_dCreate fl d id n = some ((default : Dir), some 13) := by
  unfold F_dCreate
  rw [dCheck_eq w hf, bnd_s, if_pos h, decide_eq_false (by omega : ¬ id < 1), decide_eq_false (by omega : ¬ 4611686018427387904 < id), decide_eq_false (by omega : ¬ n < 3), decide_eq_false (by omega : ¬ 1024 < n)]
  show ifb false _ _ = _
  rw [ifb_0, place_at w h (by omega) hf hi hid]; rfl
theorem create_full {d : Dir} {id n : Int} {fl : Nat} (w : WF d) (h : OkD d) (h1 : 1 ≤ id) (h2 : id ≤ 4611686018427387904) (h3 : 3 ≤ n) (h4 : n ≤ 1024) (hid : ∀ j, j < 16 → (ten d j).ID ≠ id) (hr : rsv d n = ([], some 7)) (hf : 5000 < fl) : F_dCreate fl d id n = some ((default : Dir), some 7) := by
  unfold F_dCreate
  rw [dCheck_eq w hf, bnd_s, if_pos h, decide_eq_false (by omega : ¬ id < 1), decide_eq_false (by omega : ¬ 4611686018427387904 < id), decide_eq_false (by omega : ¬ n < 3), decide_eq_false (by omega : ¬ 1024 < n)]
  show ifb false _ _ = _
  rw [ifb_0, place_no w h (by omega) hf hid, bnd_s, dreserve_eq w h (by omega) hf, hr]
  show ifb false _ _ = _
  rw [ifb_0]
  rcases ixNone_eq w (by omega : 16 < fl) with ⟨h3, h4⟩ | ⟨k, hk, h3, h4, h5⟩
  · rw [h3]; rfl
  · rw [h3, bnd_s, bnd_s, decide_eq_false (by omega : ¬ (k : Int) < 0)]; rfl
theorem link_at {d : Dir} {a b : Int} {i k fl : Nat} (w : WF d) (h : OkD d) (ha : a ≠ 0) (hb : b ≠ 0) (hi : i < 16) (hk : k < 16) (hik : i ≠ k) (h1 : (ten d i).ID = a) (h2 : (ten d k).ID = b) (hs : d.Seq < 4611686018427387904) (hf : 5000 < fl) : ∃ m, LinOk d a b true i k m ∧ F_dLink fl d a b true = some (mkL d m, none) := by
  obtain ⟨m, e1, e2, e3, e4⟩ := mOpen_eq w.m h.sy hi hk hik (by omega : 16 < fl)
  have nn : ∀ j, (ten d j).ID ≠ 0 → nob (ten d j) = false := fun j hj => by
    cases hn : nob (ten d j) with
    | false => rfl
    | true => rw [nob_iff.1 hn] at hj; exact absurd rfl hj
  refine ⟨m, ⟨hi, hk, hik, h1, h2, nn i (by rw [h1]; exact ha), nn k (by rw [h2]; exact hb), e2, e3, e4, hs⟩, ?_⟩
  unfold F_dLink
  rw [place_at w h ha hf hi h1, bnd_s]
  show ifb false _ _ = _
  rw [ifb_0, place_at w h hb hf hk h2, bnd_s]
  show ifb false _ _ = _
  rw [ifb_0]
  dsimp only
  rw [decide_eq_false (by omega : ¬ (i : Int) = (k : Int)), ifb_0, dnext_eq w h.few (by omega), bnd_s, if_neg (by omega)]
  show ifb false _ _ = _
  rw [ifb_0]
  dsimp only
  rw [ifb_1, e1, bnd_s, grd_t e2.len]; rfl

/-! ### An empty one -/
def D0 (p : Int) : Dir := ⟨0, 0, p, [], []⟩
theorem ten_D0 (p : Int) (i : Nat) : ten (D0 p) i = ⟨0, 0, []⟩ := by
  unfold ten ll D0
  by_cases h : i < 16
  · rw [getD_at (nrm_at h)]; rfl
  · rw [List.getD_eq_getElem?_getD, List.getElem?_eq_none (by rw [nrm_len]; omega)]; rfl
theorem mm_D0 (p : Int) : mm (D0 p) = List.replicate 16 0 := rfl
theorem D0_ok {p : Int} (h1 : 8 ≤ p) (h2 : p ≤ 1024) : WF (D0 p) ∧ OkD (D0 p) := by
  have hz : ∀ a b, MB (mm (D0 p)) a b = false := fun a b => by
    unfold MB
    rw [mm_D0, List.getD_eq_getElem?_getD]
    by_cases h : a < 16
    · rw [List.getElem?_replicate, if_pos h]; exact Nat.zero_testBit b
    · rw [List.getElem?_eq_none (by rw [List.length_replicate]; omega)]; exact Nat.zero_testBit b
  have hm : MOk (mm (D0 p)) := ⟨mm_len _, fun x hx => by rw [mm_D0] at hx; rw [List.eq_of_mem_replicate hx]; decide⟩
  refine ⟨⟨hm, Int.le_refl _, Int.le_refl _⟩, ⟨h1, h2, (by show (0 : Int) ≤ _; decide), (by show (0 : Int) ≤ _; decide), fun a ha b hb => by rw [hz, hz, hz]; exact ⟨rfl, rfl⟩, fun i hi => ?_, ?_⟩⟩
  · refine ⟨fun _ => ?_, (fun k => by rw [ten_D0] at k; cases k), (fun j _ k _ => by rw [ten_D0] at k; cases k)⟩
    rw [mm_D0, List.getD_eq_getElem?_getD, List.getElem?_replicate, if_pos hi]; rfl
  · have e : tk0 (D0 p) = [⟨0, 4⟩] := by
      unfold tk0
      have : (ll (D0 p)).flatMap (·.Ext) = [] := rfl
      rw [this]
    rw [e]
    refine ⟨(by show 1 ≤ p; omega), h2, fun s hs => ?_, List.pairwise_singleton _ _⟩
    rw [List.mem_singleton] at hs; subst hs
    exact ⟨Int.le_refl _, by show (0 : Int) < p; omega, by decide, by show (4 : Int) ≤ p - 0; omega⟩
theorem sure32_eq {fl : Nat} (hf : 5000 < fl) : F_l32sure fl = some true := by
  obtain ⟨w0, h0⟩ := D0_ok (p := 40) (by decide) (by decide)
  -- the first
  have r0 : rsv (D0 40) 5 = ([⟨4, 5⟩], none) := by
    rw [rsv_calc (l := [⟨0, 4⟩]) (fr := [⟨4, 36⟩]) h0 rfl (List.pairwise_singleton _ _) (by decide) (by decide), if_neg (by decide)]; rfl
  have c0 : CreOk (D0 40) 7 5 0 [⟨4, 5⟩] := ⟨by decide, by rw [ten_D0]; rfl, by decide, by decide, by decide, fun j _ => by rw [ten_D0]; decide, r0, by decide, by decide⟩
  have e1 := create_at w0 h0 c0 (by decide) (fun j hj => absurd hj (Nat.not_lt_zero _)) hf
  obtain ⟨w1, h1⟩ := c0.ok w0 h0
  have t1 : ∀ j, j < 16 → ten (mkC (D0 40) 0 7 [⟨4, 5⟩]) j = if j = 0 then ⟨7, 1, [⟨4, 5⟩]⟩ else ⟨0, 0, []⟩ := fun j hj => by
    unfold mkC; rw [ten_set (by decide) hj, ten_D0]; rfl
  have k1 : tk0 (mkC (D0 40) 0 7 [⟨4, 5⟩]) = [⟨0, 4⟩, ⟨4, 5⟩] := rfl
  have g1 : (mkC (D0 40) 0 7 [⟨4, 5⟩]).Seq = 1 ∧ (mkC (D0 40) 0 7 [⟨4, 5⟩]).Gen = 1 ∧ (mkC (D0 40) 0 7 [⟨4, 5⟩]).Pages = 40 := ⟨rfl, rfl, rfl⟩
  have em1 : mm (mkC (D0 40) 0 7 [⟨4, 5⟩]) = List.replicate 16 0 := rfl
  generalize mkC (D0 40) 0 7 [⟨4, 5⟩] = d1 at *
  -- the second
  have r1 : rsv d1 6 = ([⟨9, 6⟩], none) := by
    rw [rsv_calc (fr := [⟨9, 31⟩]) h1 k1 (by simp [sfr]) (by rw [g1.2.2]; decide) (by decide), if_neg (by decide)]; rfl
  have c1 : CreOk d1 8 6 1 [⟨9, 6⟩] := ⟨by decide, by rw [t1 1 (by decide)]; rfl, by decide, by decide, by decide, fun j hj => by rw [t1 j hj]; split <;> decide, r1, by rw [g1.2.1]; decide, by rw [g1.1]; decide⟩
  have e2 := create_at w1 h1 c1 (by decide) (fun j hj => (by
    obtain rfl : j = 0 := (by omega)
    rw [t1 0 (by decide)]; rfl)) hf
  obtain ⟨w2, h2⟩ := c1.ok w1 h1
  have t2 : ∀ j, j < 16 → ten (mkC d1 1 8 [⟨9, 6⟩]) j = if j = 1 then ⟨8, 2, [⟨9, 6⟩]⟩ else if j = 0 then ⟨7, 1, [⟨4, 5⟩]⟩ else ⟨0, 0, []⟩ := fun j hj => by
    unfold mkC; rw [ten_set (by decide) hj, t1 j hj, g1.2.1]; rfl
  have k2 : (tk0 (mkC d1 1 8 [⟨9, 6⟩])).Perm [⟨0, 4⟩, ⟨4, 5⟩, ⟨9, 6⟩] := by
    have := tk_set (d := d1) (i := 1) (t := ⟨8, d1.Gen + 1, [⟨9, 6⟩]⟩) (s := d1.Seq + 1) (g := d1.Gen + 1) (p := d1.Pages) (m := d1.M) (by decide)
    rw [t1 1 (by decide), k1] at this
    unfold mkC
    simpa using this
  have g2 : (mkC d1 1 8 [⟨9, 6⟩]).Seq = 2 ∧ (mkC d1 1 8 [⟨9, 6⟩]).Gen = 2 ∧ (mkC d1 1 8 [⟨9, 6⟩]).Pages = 40 := by unfold mkC; dsimp only; rw [g1.1, g1.2.1, g1.2.2]; exact ⟨rfl, rfl, rfl⟩
  generalize mkC d1 1 8 [⟨9, 6⟩] = d2 at *
  have e3 := place_at (fl := fl) w2 h2 (show (8 : Int) ≠ 0 by decide) hf (show 1 < 16 by decide) (by rw [t2 1 (by decide)]; rfl)
  -- joined
  obtain ⟨m, l2, e4⟩ := link_at (fl := fl) w2 h2 (show (7 : Int) ≠ 0 by decide) (show (8 : Int) ≠ 0 by decide) (show 0 < 16 by decide) (show 1 < 16 by decide) (by decide) (by rw [t2 0 (by decide)]; rfl) (by rw [t2 1 (by decide)]; rfl) (by rw [g2.1]; decide) hf
  obtain ⟨w4, h4⟩ := l2.ok w2 h2
  have t4 : ∀ j, ten (mkL d2 m) j = ten d2 j := fun j => by unfold ten mkL ll; dsimp only; rw [nrm_nrm]
  have k4 : tk0 (mkL d2 m) = tk0 d2 := by unfold tk0 mkL ll; dsimp only; rw [nrm_nrm]
  have m4 : mm (mkL d2 m) = m := nrm_eq l2.hm.len
  have g4 : (mkL d2 m).Seq = 3 ∧ (mkL d2 m).Gen = 2 ∧ (mkL d2 m).Pages = 40 := by unfold mkL; dsimp only; rw [g2.1, g2.2.1, g2.2.2]; exact ⟨rfl, rfl, rfl⟩
  have i4 : (ten (mkL d2 m) 0).ID = 7 := by rw [t4, t2 0 (by decide)]; rfl
  have i5 : (ten (mkL d2 m) 1).ID = 8 := by rw [t4, t2 1 (by decide)]; rfl
  have i6 : ∀ j, j < 16 → (ten (mkL d2 m) j).ID ≠ 9 := fun j hj => by rw [t4, t2 j hj]; split <;> (try split) <;> decide
  rw [← k4] at k2
  have e5 := create_twice (n := 5) (fl := fl) w4 h4 (show (1 : Int) ≤ 7 by decide) (by decide) (by decide) (by decide) (show 0 < 16 by decide) i4 hf
  have e8 := sees_at (fl := fl) w4 h4 (show (7 : Int) ≠ 0 by decide) (show (8 : Int) ≠ 0 by decide) (show 0 < 16 by decide) (show 1 < 16 by decide) i4 i5 hf
  have e9 := sees_none (fl := fl) (b := 9) w4 h4 (show (7 : Int) ≠ 0 by decide) (by decide) i6 hf
  have e10 := dTaken_eq (fl := fl) w4 hf
  rw [if_pos h4] at e10
  have hb : MB (mm (mkL d2 m)) 0 1 = true := by rw [m4, l2.mb 0 (by decide) 1 (by decide)]; rfl
  rw [hb, Bool.or_true] at e8
  generalize mkL d2 m = d4 at *
  have hlen : (tk0 d4).length = 3 := k2.length_eq
  have r4 : rsv d4 900 = ([], some 7) := by
    obtain ⟨q, hq⟩ : ∃ q, rsv d4 900 = q := ⟨_, rfl⟩
    obtain ⟨l, e⟩ := q
    cases e with
    | none =>
      obtain ⟨r1, r2, _⟩ := rsv_ok h4 hq
      have := (fine_tot r1).1
      rw [tot_append, r2, tot_perm k2, g4.2.2] at this
      exact absurd this (by decide)
    | some e =>
      rw [hq]
      unfold rsv at hq
      split at hq
      · cases hq; rfl
      · cases hq
  have e6 := create_full (fl := fl) w4 h4 (show (1 : Int) ≤ 9 by decide) (by decide) (by decide) (by decide) i6 r4 hf
  unfold F_l32sure
  rw [show ({ (default : Dir) with Pages := 40 } : Dir) = D0 40 from rfl, e1, bnd_s, e2, bnd_s, e3, bnd_s, e4, bnd_s, e5, bnd_s, e6, bnd_s]
  dsimp only
  rw [g4.1, g4.2.1, e8, e9, e10]
  show some (decide (((tk0 d4).length : Int) = 3)) = some true
  rw [hlen]; rfl
end Go.Proofs.YtokcgacehdgkcaaDoor.Eng.A

/- Directories in plain Lean: however tenants come, go, grow and are joined. -/
namespace Go.Proofs.YtokcgacehdgkcaaDoor.Eng.A
set_option linter.unusedVariables false
set_option linter.unusedSimpArgs false
open Go.RowKit Go.Proofs.YtokcgacehdgkcaaDoor.Plain Go.Proofs.YtokcgacehdgkcaaDoor.Eng Go.Proofs.YtokcgacehdgkcaaDoor.Eng.Ha Go.Proofs.YtokcgacehdgkcaaDoor.Eng.Er

theorem bnd_inr {A B R : Type} {T : Option (A ⊕ B)} {K : A ⊕ B → Option R} (Q : Option R → Prop) (P : B → Prop) (h : ∃ z, T = some (.inr z) ∧ P z) (h2 : ∀ z, P z → Q (K (.inr z))) : Q (bnd T K) := by
  obtain ⟨z, rfl, hp⟩ := h
  exact h2 z hp
theorem z10_eq (k : Int) : (ifb (decide (k = 0)) (some (decide (k = 0))) (ifb (decide (k = 1)) (some (decide (k = 1))) (some (decide (k = 2))))) = some (decide (k = 0 ∨ k = 1 ∨ k = 2)) := by
  by_cases h0 : k = 0
  · rw [decide_eq_true h0, decide_eq_true (show k = 0 ∨ k = 1 ∨ k = 2 from .inl h0)]; rfl
  · rw [decide_eq_false h0]
    by_cases h1 : k = 1
    · rw [decide_eq_true h1, decide_eq_true (show k = 0 ∨ k = 1 ∨ k = 2 from .inr (.inl h1))]; rfl
    · rw [decide_eq_false h1]
      by_cases h2 : k = 2
      · rw [decide_eq_true h2, decide_eq_true (show k = 0 ∨ k = 1 ∨ k = 2 from .inr (.inr h2))]; rfl
      · rw [decide_eq_false h2, decide_eq_false (by omega)]; rfl
theorem byte_at {x : List Int} (h : ∀ a ∈ x, 0 ≤ a ∧ a < 256) (k : Nat) : 0 ≤ x.getD k 0 ∧ x.getD k 0 < 256 := by
  rw [List.getD_eq_getElem?_getD]
  cases hk : x[k]? with
  | none => exact ⟨Int.le_refl _, by decide⟩
  | some a => exact h a (List.mem_of_getElem? hk)
structure Inv (p : Int) (i : Nat) (gens : List Int) (d : Dir) : Prop where
  w : WF d
  h : OkD d
  p : d.Pages = p
  g : ∀ g ∈ gens, g ≤ d.Gen
  n : gens.length ≤ i
structure Got (gens : List Int) (d : Dir) (g' : List Int) (x : Dir) : Prop where
  w : WF x
  h : OkD x
  p : x.Pages = d.Pages
  s : x.Seq = d.Seq + 1
  g : ∀ g ∈ g', g ≤ x.Gen
  n : g'.length ≤ gens.length + 1
theorem create_part {fl i : Nat} {gens x5 : List Int} {d : Dir} {id n : Int} {p : Int} (v : Inv p i gens d) (hi : i < 60) (hid : id = IntKind.u64.wrap (1 + IntKind.u64.wrap ((x5.getD 1 (0 : Int)).tmod 20))) (h1 : 1 ≤ id ∧ id ≤ 20) (hn : 0 ≤ n ∧ n < 256) (hf : 5000 < fl) :
    ∃ z : List Int × Option Int × Dir, (bnd (F_dCreate fl d id n) fun x_11 => ifb x_11.2.isSome (some (.inr (gens, x_11.2, x_11.1))) (bnd (F_dPlace fl x_11.1 id) fun x_12 => grd ((x_12.2.isSome == false) = true → Below x_12.1 16) <| bnd (gif (x_12.2.isSome == false) (F_xMany fl ((x_11.1.L.getD x_12.1.toNat (default : Tenant)).Ext))) fun x_13 => ifb (x_12.2.isSome || (decide (x_13 ≠ n))) (some (.inl false)) (bnd (lp (F_l32DirApart_b1 (gens, (i : Int), d) x_11 x_12) fl 0) fun z_14 => ocs z_14 (fun qz_14_0 => some (.inl qz_14_0)) fun z_14_0 => grd (Below x_12.1 16) <| grd (Fits 8 (gens.length + ([(x_11.1.L.getD x_12.1.toNat (default : Tenant)).Gen] : (List Int)).length)) <| lp (F_l32DirApart_b2 fl (gens, (i : Int), d) x5 x_11 x_12) fl 1))) = some (.inr z) ∧ ((∃ e, z.2.1 = some e) ∧ z.1 = gens ∨ z.2.1 = none ∧ Got gens d z.1 z.2.2) := by
  obtain ⟨⟨x, e⟩, hr, hc⟩ := create_any (id := id) (n := n) v.w v.h (by omega) hf
  rw [hr, bnd_s]
  rcases hc with ⟨e', he⟩ | ⟨k, l, c, he⟩
  · obtain rfl : e = some e' := he
    exact ⟨_, rfl, .inl ⟨⟨e', rfl⟩, rfl⟩⟩
  · cases he
    obtain ⟨wx, hx⟩ := c.ok v.w v.h
    obtain ⟨r1, r2, r3, r4, r5⟩ := rsv_ok v.h c.r
    have hk := c.hi
    have tk : ten (mkC d k id l) k = ⟨id, d.Gen + 1, l⟩ := by unfold mkC; rw [ten_set hk hk, if_pos rfl]
    have tL : (mkC d k id l).L.getD k default = ⟨id, d.Gen + 1, l⟩ := by rw [ll_at hk]; exact tk
    have hid0 : id ≠ 0 := by omega
    show ∃ z : List Int × Option Int × Dir, ifb false _ _ = _ ∧ _
    rw [ifb_0, place_at wx hx hid0 hf hk (by rw [tk]), bnd_s, grd_t (fun _ => belo hk)]
    dsimp only
    rw [Int.toNat_natCast, tL, xMany_all hf, if_pos r5, r2]
    show ∃ z : List Int × Option Int × Dir, ifb (false || decide (n ≠ n)) _ _ = _ ∧ _
    rw [decide_eq_false (fun q => q rfl), Bool.or_false, ifb_0]
    have l1 : lp (F_l32DirApart_b1 (gens, (i : Int), d) (mkC d k id l, none) ((k : Int), none)) fl 0 = some (.inr ()) := by
      have := lp_any (l := gens) (body := F_l32DirApart_b1 (gens, (i : Int), d) (mkC d k id l, none) ((k : Int), none)) (fun _ => false) false (fl := fl) (fun j y hy => by
        have hj := (List.getElem?_eq_some_iff.1 hy).1
        have hn := v.n
        unfold F_l32DirApart_b1
        dsimp only
        rw [decide_eq_true (by omega : (j : Int) < (gens.length : Int)), ifb_1, ixb_n hy, grd_t (belo hk), Int.toNat_natCast, tL, decide_eq_false (by have := v.g y (List.mem_of_getElem? hy); show ¬ y = d.Gen + 1; omega), ifb_0, nat_wrap (by omega)]; rfl)
        (by unfold F_l32DirApart_b1; dsimp only; rw [dec_ge, ifb_0]) (by have := v.n; omega)
      rw [this, if_neg (by simp)]
    rw [l1, bnd_s]
    show ∃ z : List Int × Option Int × Dir, grd _ (grd _ _) = _ ∧ _
    rw [grd_t (belo hk), grd_t ⟨by have := v.n; simp; omega, by have := v.n; simp; omega⟩]
    have hsee : ∀ who : Int, 1 ≤ who → who ≠ id → F_dSees fl (mkC d k id l) who id = some false := fun who hw hne => by
      rcases place_any (fl := fl) wx hx (show who ≠ 0 by omega) hf with ⟨_, q2⟩ | ⟨j, hj, _, q2, _⟩
      · exact sees_no wx hx (by omega) q2 hf
      · rw [sees_at wx hx (by omega) hid0 hj hk q2 (by rw [tk]) hf]
        have hjk : j ≠ k := fun q => by subst q; rw [tk] at q2; exact hne q2.symm
        have hrow := (row0 v.w.m hk).1 ((v.h.good k hk).emp c.e) j hj
        rw [decide_eq_false hjk, Bool.false_or, show mm (mkC d k id l) = mm d from rfl, (v.h.sy j hj k hk).1, hrow]
    have l2 : lp (F_l32DirApart_b2 fl (gens, (i : Int), d) x5 (mkC d k id l, none) ((k : Int), none)) fl 1 = some (.inr (gens ++ [d.Gen + 1], none, mkC d k id l)) := by
      refine lp_seq (body := F_l32DirApart_b2 fl (gens, (i : Int), d) x5 (mkC d k id l, none) ((k : Int), none)) (fun j => ((j + 1 : Nat) : Int)) (n := 20) (fun j hj => ?_) ?_ (by omega)
      · unfold F_l32DirApart_b2
        rw [← hid, decide_eq_true (by omega : ((j + 1 : Nat) : Int) ≤ 20), ifb_1, wrap_u64 (by omega)]
        by_cases hw : ((j + 1 : Nat) : Int) = id
        · rw [decide_eq_false (fun q => q hw)]; rfl
        · rw [decide_eq_true hw]
          dsimp only
          rw [hsee _ (by omega) hw]; rfl
      · unfold F_l32DirApart_b2
        rw [decide_eq_false (by omega), ifb_0]
        dsimp only
        rw [Int.toNat_natCast, tL]
    refine ⟨_, l2, .inr ⟨rfl, wx, hx, rfl, rfl, fun g hg => ?_, by rw [List.length_append]; exact Nat.le_refl _⟩⟩
    show g ≤ d.Gen + 1
    rcases List.mem_append.1 hg with hg | hg
    · have := v.g g hg; omega
    · rw [List.mem_singleton] at hg; omega
theorem apart_step {fl i : Nat} {p1 : List (List Int)} {gens x : List Int} {d : Dir} {p : Int} (v : Inv p i gens d) (hi : i < 60) (hx : p1[i]? = some x) (hb : ∀ a ∈ x, 0 ≤ a ∧ a < 256) (hf : 5000 < fl) :
    ∃ s' : List Int × Dir, F_l32DirApart_b0 fl p1 (gens, (i : Int), d) = some (.inl (s'.1, ((i + 1 : Nat) : Int), s'.2)) ∧ Inv p (i + 1) s'.1 s'.2 := by
  have hl := (List.getElem?_eq_some_iff.1 hx).1
  have b0 := byte_at hb 0
  have b1 := tmod_lt (n := 20) (byte_at hb 1).1 (by decide)
  have b2 := tmod_lt (n := 20) (byte_at hb 2).1 (by decide)
  have b3 := byte_at hb 3
  obtain ⟨id, hid⟩ : ∃ id, id = IntKind.u64.wrap (1 + IntKind.u64.wrap ((x.getD 1 (0 : Int)).tmod 20)) := ⟨_, rfl⟩
  obtain ⟨ot, hot⟩ : ∃ ot, ot = IntKind.u64.wrap (1 + IntKind.u64.wrap ((x.getD 2 (0 : Int)).tmod 20)) := ⟨_, rfl⟩
  have i1 : 1 ≤ id ∧ id ≤ 20 := by rw [hid, wrap_u64 (n := (x.getD 1 0).tmod 20) (by omega), wrap_u64 (by omega)]; omega
  have i2 : 1 ≤ ot ∧ ot ≤ 20 := by rw [hot, wrap_u64 (n := (x.getD 2 0).tmod 20) (by omega), wrap_u64 (by omega)]; omega
  unfold F_l32DirApart_b0
  dsimp only
  rw [decide_eq_true (by omega : (i : Int) < (p1.length : Int)), decide_eq_true (by omega : (i : Int) < 60)]
  show ∃ s' : List Int × Dir, ifb true _ _ = _ ∧ _
  rw [ifb_1, ixb_n hx, ixb_n hx, ixb_n hx, ixb_n hx, z10_eq, bnd_s, ← hid, ← hot, wrap_i64 (n := x.getD 3 0) (by omega)]
  generalize hk : (x.getD 0 (0 : Int)).tmod 6 = k
  generalize hn : x.getD 3 (0 : Int) = n at *
  refine bnd_inr (fun (o : Option (((List Int) × Int × Dir) ⊕ ((Bool) ⊕ (Dir)))) => ∃ s' : List Int × Dir, o = some (.inl (s'.1, ((i + 1 : Nat) : Int), s'.2)) ∧ Inv p (i + 1) s'.1 s'.2) (fun z : List Int × Dir => Inv p (i + 1) z.1 z.2) ?_ (fun z hz => ⟨z, by rw [nat_wrap (by omega)]; rfl, hz⟩)
  refine bnd_inr (fun (o : Option (Bool ⊕ (List Int × Dir))) => ∃ z : List Int × Dir, o = some (.inr z) ∧ Inv p (i + 1) z.1 z.2) (fun z : List Int × Option Int × Dir => (∃ e, z.2.1 = some e) ∧ z.1 = gens ∨ z.2.1 = none ∧ Got gens d z.1 z.2.2) ?_ ?_
  · by_cases hA : k = 0 ∨ k = 1 ∨ k = 2
    · rw [decide_eq_true hA, ifb_1]
      exact create_part v hi hid i1 b3 hf
    · rw [decide_eq_false hA, ifb_0]
      by_cases h3 : k = 3
      · rw [decide_eq_true h3, ifb_1]
        rcases place_any (fl := fl) v.w v.h (show id ≠ 0 by omega) hf with ⟨_, q2⟩ | ⟨j, hj, _, q2, _⟩
        · rw [delete_no v.w v.h (by omega) q2 hf]
          exact ⟨_, rfl, .inl ⟨⟨_, rfl⟩, rfl⟩⟩
        · obtain ⟨m, e1, e2, e3, e4⟩ := delete_at v.w v.h (show id ≠ 0 by omega) hj q2 hf
          rw [e4, bnd_s]
          by_cases hs : 4611686018427387904 ≤ d.Seq
          · rw [if_pos hs]; exact ⟨_, rfl, .inl ⟨⟨_, rfl⟩, rfl⟩⟩
          · rw [if_neg hs]
            obtain ⟨o1, o2⟩ := mkD_ok v.w v.h hj (by omega) e1 e2 e3
            exact ⟨_, rfl, .inr ⟨rfl, o1, o2, rfl, rfl, v.g, Nat.le_succ _⟩⟩
      · rw [decide_eq_false h3, ifb_0]
        by_cases h4 : k = 4
        · rw [decide_eq_true h4, ifb_1]
          obtain ⟨⟨y, e⟩, hr, hc⟩ := grow_any (id := id) (n := n) v.w v.h (by omega) hf
          rw [hr, bnd_s]
          rcases hc with ⟨e', he⟩ | ⟨q, l, c, he⟩
          · exact ⟨_, rfl, .inl ⟨⟨e', he⟩, rfl⟩⟩
          · cases he
            obtain ⟨o1, o2, _⟩ := c.ok v.w v.h
            exact ⟨_, rfl, .inr ⟨rfl, o1, o2, rfl, rfl, v.g, Nat.le_succ _⟩⟩
        · rw [decide_eq_false h4, ifb_0]
          obtain ⟨⟨y, e⟩, hr, hc⟩ := link_any (a := id) (b := ot) (see := decide (0 < n.tmod 3)) v.w v.h (by omega) (by omega) hf
          rw [hr, bnd_s]
          rcases hc with ⟨e', he⟩ | ⟨q, r, m, c, he⟩
          · obtain rfl : e = some e' := he
            exact ⟨_, rfl, .inl ⟨⟨e', rfl⟩, rfl⟩⟩
          · cases he
            obtain ⟨o1, o2⟩ := c.ok v.w v.h
            have tt : ∀ j, ten (mkL d m) j = ten d j := fun j => by unfold ten mkL ll; dsimp only; rw [nrm_nrm]
            have em : mm (mkL d m) = m := nrm_eq c.hm.len
            dsimp only
            rw [sees_at o1 o2 (show id ≠ 0 by omega) (show ot ≠ 0 by omega) c.hi c.hk (by rw [tt]; exact c.ia) (by rw [tt]; exact c.kb) hf, em, c.mb q c.hi r c.hk, if_pos (.inl ⟨rfl, rfl⟩), decide_eq_false c.ne]
            show ∃ z : List Int × Option Int × Dir, ifb ((decide (0 < n.tmod 3)) != (decide (0 < n.tmod 3))) _ _ = _ ∧ _
            rw [bne_self_eq_false, ifb_0]
            exact ⟨_, rfl, .inr ⟨rfl, o1, o2, rfl, rfl, v.g, Nat.le_succ _⟩⟩
  · rintro ⟨g', e, y⟩ (⟨⟨e', he⟩, hg⟩ | ⟨he, c⟩)
    · obtain rfl : e = some e' := he
      obtain rfl : g' = gens := hg
      exact ⟨_, rfl, v.w, v.h, v.p, v.g, Nat.le_succ_of_le v.n⟩
    · obtain rfl : e = none := he
      have hs := v.h.s2
      have hs0 := v.w.s
      have cw := c.w
      have ch := c.h
      have cp := c.p
      have cs := c.s
      dsimp only at cw ch cp cs
      show ∃ z : List Int × Dir, bnd (F_dCheck fl y) _ = _ ∧ _
      rw [dCheck_eq cw hf, if_pos ch, bnd_s, dTaken_eq cw hf, if_pos ch, wrap_u64 (by omega), cs, decide_eq_false (fun q => q rfl)]
      show ∃ z : List Int × Dir, bnd (F_xcheck fl (tk0 y) d.Pages) _ = _ ∧ _
      rw [xcheck_all hf, if_pos (cp ▸ ch.fine), bnd_s]
      exact ⟨(g', y), rfl, cw, ch, cp.trans v.p, c.g, by have := c.n; have := v.n; show g'.length ≤ i + 1; dsimp only at *; omega⟩
theorem dirApart_eq {fl : Nat} {p0 : Int} {p1 : List (List Int)} (h0 : 0 ≤ p0 ∧ p0 < 65536) (hb : ∀ x ∈ p1, ∀ a ∈ x, 0 ≤ a ∧ a < 256) (hf : 5000 < fl) : F_l32DirApart fl p0 p1 = some true := by
  have b := tmod_lt (n := 500) h0.1 (by decide)
  obtain ⟨w0, o0⟩ := D0_ok (p := 8 + p0.tmod 500) (by omega) (by omega)
  obtain ⟨o, e1, e2⟩ := lp_inv (body := F_l32DirApart_b0 fl p1) (fun i (s : List Int × Dir) => (s.1, (i : Int), s.2)) (fun i s => Inv (8 + p0.tmod 500) i s.1 s.2) (fun o => ∃ d, o = .inr d) (n := min p1.length 60) (fl := fl) (s0 := ([], D0 (8 + p0.tmod 500)))
    ⟨w0, o0, rfl, (fun g hg => by cases hg), Nat.le_refl _⟩
    (fun i s hi v => by
      have hl : i < p1.length := by omega
      obtain ⟨s', q1, q2⟩ := apart_step (fl := fl) v (by omega) (List.getElem?_eq_getElem hl) (hb _ (List.getElem_mem hl)) hf
      exact .inl ⟨s', q1, q2⟩)
    (fun s v => by
      refine ⟨.inr s.2, ?_, s.2, rfl⟩
      unfold F_l32DirApart_b0
      dsimp only
      have : ((decide (((min p1.length 60 : Nat) : Int) < (p1.length : Int))) && (decide (((min p1.length 60 : Nat) : Int) < 60))) = false := by
        rw [Bool.and_eq_false_iff, decide_eq_false_iff_not, decide_eq_false_iff_not]; omega
      rw [this, ifb_0]) (by omega)
  obtain ⟨d, rfl⟩ := e2
  unfold F_l32DirApart
  rw [wrap_i64 (n := p0.tmod 500) (by omega), wrap_i64 (by omega), show (([] : List Int), (0 : Int), ({ (default : Dir) with Pages := 8 + p0.tmod 500 } : Dir)) = (([] : List Int), ((0 : Nat) : Int), D0 (8 + p0.tmod 500)) from rfl, e1, bnd_s]
  show bnd (F_l32sure fl) _ = _
  rw [sure32_eq hf, bnd_s]
end Go.Proofs.YtokcgacehdgkcaaDoor.Eng.A

/- Directories in plain Lean: a tenant that comes and goes again; one that grew. -/
namespace Go.Proofs.YtokcgacehdgkcaaDoor.Eng.A
set_option linter.unusedVariables false
set_option linter.unusedSimpArgs false
open Go.RowKit Go.Proofs.YtokcgacehdgkcaaDoor.Plain Go.Proofs.YtokcgacehdgkcaaDoor.Eng Go.Proofs.YtokcgacehdgkcaaDoor.Eng.Ha Go.Proofs.YtokcgacehdgkcaaDoor.Eng.Er

/-- Left at once with the right answer, or gone on. -/
theorem bnd_or {A R : Type} {T : Option (R ⊕ A)} {K : A → Option R} {a : A} {r : R} (h : T = some (.inl r) ∨ T = some (.inr a)) (h2 : True → K a = some r) : bnd T (fun z => ocs z (fun q => some q) K) = some r := by
  rcases h with rfl | rfl
  · rfl
  · exact h2 trivial
theorem give32_eq {l : List Stx} {fl : Nat} (hl : l.length * 16 ≤ 140737488355328) (hf : l.length < fl) : F_l32giveExt fl l = some l := by
  have h := lp_fo (l := l) (body := F_l32giveExt_b0 l) (fun i s => (s, (i : Int))) (fun s x => .inl (s ++ [x])) (fun s => s) (fun i s => s.length = i) (fl := fl) (s0 := []) rfl
    (fun i x s hx hI => by
      have hi := (List.getElem?_eq_some_iff.1 hx).1
      refine .inl ⟨_, rfl, ?_, by simp [hI]⟩
      unfold F_l32giveExt_b0
      dsimp only
      rw [dec_lt hi, ifb_1, ixb_n hx, grd_t ⟨by simp [hI]; omega, by simp [hI]; omega⟩, nat_wrap (by omega)])
    (fun s hI => by unfold F_l32giveExt_b0; dsimp only; rw [dec_ge, ifb_0]) hf
  unfold F_l32giveExt
  rw [show (([] : List Stx), (0 : Int)) = (([] : List Stx), ((0 : Nat) : Int)) from rfl, h, bnd_s, fo_all, foldl_snoc]; rfl
def gd (p : Dirr) : Dir := ⟨p.Seq, p.Gen, p.Pages, nrm 16 (default : Tenant) p.L, p.M⟩
theorem giveDir_eq {p : Dirr} {fl : Nat} (hl : ∀ i, i < 16 → (p.L.getD i (default : Tenant)).Ext.length * 16 ≤ 140737488355328 ∧ (p.L.getD i (default : Tenant)).Ext.length < fl) (hf : 16 < fl) : F_l32giveDir fl p = some (gd p) := by
  obtain ⟨o, e1, e2⟩ := lp_inv (body := F_l32giveDir_b0 fl p) (fun i (s : List Tenant) => ((i : Int), (⟨p.Seq, p.Gen, p.Pages, s, p.M⟩ : Dir))) (fun i s => (i = 0 ∨ s.length = 16) ∧ ∀ j, j < i → s.getD j (default : Tenant) = p.L.getD j (default : Tenant)) (fun o => o = gd p) (n := 16) (fl := fl) (s0 := [])
    ⟨.inl rfl, fun j hj => absurd hj (Nat.not_lt_zero _)⟩
    (fun i s hi ⟨h1, h2⟩ => by
      refine .inl ⟨aset 16 (default : Tenant) s i (p.L.getD i (default : Tenant)), ?_, .inr aset_len, fun j hj => ?_⟩
      · unfold F_l32giveDir_b0
        dsimp only
        rw [decide_eq_true (by omega : (i : Int) < 16), ifb_1, grd_t (belo hi), grd_t (belo hi), grd_t (belo hi), Int.toNat_natCast, give32_eq (hl i hi).1 (hl i hi).2, bnd_s, grd_t (belo hi), nat_wrap (by omega)]
      · by_cases hji : j = i
        · subst hji; exact aset_eq hi
        · rw [aset_ne (Ne.symm hji) (by omega)]; exact h2 j (by omega))
    (fun s ⟨h1, h2⟩ => by
      refine ⟨_, by unfold F_l32giveDir_b0; dsimp only; rw [decide_eq_false (by omega), ifb_0], ?_⟩
      have hlen : s.length = 16 := h1.elim (fun h => by cases h) id
      have : s = nrm 16 (default : Tenant) p.L := by
        apply List.ext_getElem?
        intro j
        by_cases hj : j < 16
        · rw [nrm_at hj, at_len (by omega : j < s.length), h2 j hj]
        · rw [List.getElem?_eq_none (by omega), List.getElem?_eq_none (by rw [nrm_len]; omega)]
      rw [this]; rfl) hf
  subst e2
  unfold F_l32giveDir
  rw [show ((0 : Int), ({ (default : Dir) with Seq := p.Seq, Gen := p.Gen, Pages := p.Pages, M := p.M } : Dir)) = (((0 : Nat) : Int), (⟨p.Seq, p.Gen, p.Pages, [], p.M⟩ : Dir)) from rfl, e1]; rfl
theorem bigDir_eq {p : Dirr} {fl : Nat} (hf : 16 < fl) : ∃ b, F_l32bigDir fl p = some b := by
  have := lp_range (n := 16) (body := F_l32bigDir_b0 p) (fun i => decide (20 < (((p.L.getD i (default : Tenant)).Ext).length : Int))) true (fl := fl) (fun i hi => by
    unfold F_l32bigDir_b0
    rw [decide_eq_true (by omega : (i : Int) < 16), ifb_1, grd_t (belo hi), Int.toNat_natCast, nat_wrap (by omega)]
    cases decide (20 < (((p.L.getD i (default : Tenant)).Ext).length : Int)) <;> rfl) (by unfold F_l32bigDir_b0; rw [decide_eq_false (by omega), ifb_0]) hf
  unfold F_l32bigDir
  rw [this]
  split
  · exact ⟨_, rfl⟩
  · exact ⟨_, rfl⟩
theorem free_tot {d : Dir} (h : OkD d) : ∃ fr, freeR (tk0 d) d.Pages = (fr, none) ∧ Fine 1024 fr ∧ tot fr + tot (tk0 d) = d.Pages := by
  obtain ⟨g1, g2, g3, g4⟩ := gaps_fine h.fine (srt_perm (tk0 d)) (srt_sfr (tk0 d))
  exact ⟨_, by unfold freeR; rw [if_pos h.fine], g1.up h.p2 (by decide), g4⟩
theorem free_eq' {d : Dir} {fl : Nat} {fr : List Stx} {p : Int} (w : WF d) (h : OkD d) (hp : p = d.Pages) (hr : freeR (tk0 d) d.Pages = (fr, none)) (hf : 5000 < fl) : F_xFree fl (tk0 d) p = some (fr, none) := by
  have := tk0_few w h
  rw [hp, xFree_eq (by omega) hf, hr]
theorem dirBack_eq {p : Dirr} {a : Ask} {fl : Nat} (hl : ∀ i, i < 16 → (p.L.getD i (default : Tenant)).Ext.length * 16 ≤ 140737488355328 ∧ (p.L.getD i (default : Tenant)).Ext.length < fl) (hm : MOk p.M) (hs : 0 ≤ p.Seq) (hg : 0 ≤ p.Gen) (hA : 0 ≤ a.A) (hP : a.Pages < 9223372036854775808) (hf : 5000 < fl) : F_l32DirBack fl p a = some true := by
  obtain ⟨b, hb⟩ := bigDir_eq (p := p) (fl := fl) (by omega)
  have hw : WF (gd p) := ⟨by show MOk (nrm 16 (0 : Int) p.M); rw [nrm_eq hm.len]; exact hm, hs, hg⟩
  unfold F_l32DirBack
  rw [giveDir_eq hl (by omega), bnd_s, hb, bnd_s, sure32_eq hf]
  generalize gd p = x at hw
  rw [dCheck_eq hw hf, gif_s, bnd_s]
  cases b with
  | true => rfl
  | false =>
  rw [Bool.false_or]
  by_cases h : OkD x
  rotate_left
  · rw [if_neg h]; rfl
  rw [if_pos h]
  show ifb false _ _ = _
  have hs2 := h.s2
  have hg2 := h.g2
  have ws := hw.s
  have wg := hw.g
  obtain ⟨fr, f1, f2, f3⟩ := free_tot h
  rw [ifb_0, dTaken_eq hw hf, if_pos h, bnd_s, free_eq' hw h rfl f1 hf, bnd_s]
  show ifb false _ _ = _
  rw [ifb_0]
  obtain ⟨⟨y, e⟩, hr, hc⟩ := create_any (id := a.A) (n := a.Pages) hw h hP hf
  rw [hr, bnd_s]
  -- what the first part leaves
  refine bnd_or (a := ()) ?_ ?_
  · rcases hc with ⟨e', he⟩ | ⟨k, l, c, he⟩
    · obtain rfl : e = some e' := he
      exact .inr rfl
    · cases he
      obtain ⟨wy, hy⟩ := c.ok hw h
      have hk := c.hi
      have id0 : a.A ≠ 0 := by have := c.id1; omega
      have tk : ten (mkC x k a.A l) k = ⟨a.A, x.Gen + 1, l⟩ := by unfold mkC; rw [ten_set hk hk, if_pos rfl]
      obtain ⟨m, m1, m2, m3, m4⟩ := delete_at wy hy id0 hk (by rw [tk]) hf
      rw [show ((mkC x k a.A l, (none : Option Int)).2.isNone) = true from rfl, ifb_1, m4, bnd_s]
      by_cases hq : 4611686018427387904 ≤ (mkC x k a.A l).Seq
      · have hq' : 4611686018427387904 ≤ x.Seq + 1 := hq
        rw [if_pos hq, wrap_u64 (n := x.Seq + 2) (by omega)]
        refine .inl ?_
        show bnd (oNum32 (some 2)) _ = _
        rw [show oNum32 (some 2) = some 2 from rfl, bnd_s, decide_eq_true (by omega : (4611686018427387904 : Int) < x.Seq + 2)]; rfl
      · have hq' : ¬ 4611686018427387904 ≤ x.Seq + 1 := hq
        rw [if_neg hq]
        obtain ⟨wz, hz⟩ := mkD_ok wy hy hk (by omega) m1 m2 m3
        have zs : (mkD (mkC x k a.A l) k m).Seq = x.Seq + 2 := by show x.Seq + 1 + 1 = x.Seq + 2; omega
        have zg : (mkD (mkC x k a.A l) k m).Gen = x.Gen + 1 := rfl
        have zp : (mkD (mkC x k a.A l) k m).Pages = x.Pages := rfl
        have em : m = mm x := M_ext m1 hw.m fun c1 h1 c2 h2 => by
          rw [m3 c1 h1 c2 h2]
          have hrow := (row0 hw.m hk).1 ((h.good k hk).emp c.e)
          have e0 : mm (mkC x k a.A l) = mm x := rfl
          split
          · rename_i hor
            rcases hor with rfl | rfl
            · rw [hrow c2 h2]
            · rw [(h.sy c1 h1 c2 h2).1, hrow c1 h1]
          · rw [e0]
        have zt : ∀ j, j < 16 → ten (mkD (mkC x k a.A l) k m) j = ten x j := fun j hj => by
          unfold mkD
          rw [ten_set hk hj]
          by_cases hjk : j = k
          · subst hjk; rw [if_pos rfl, nob_iff.1 c.e]
          · rw [if_neg hjk]; unfold mkC; rw [ten_set hk hj, if_neg hjk]
        have zk : (tk0 (mkD (mkC x k a.A l) k m)).Perm (tk0 x) := by
          have p1 := tk_set (d := mkC x k a.A l) (t := ⟨0, 0, []⟩) (s := (mkC x k a.A l).Seq + 1) (g := (mkC x k a.A l).Gen) (p := (mkC x k a.A l).Pages) (m := m) hk
          rw [tk] at p1
          have p2 := tk_set (d := x) (t := ⟨a.A, x.Gen + 1, l⟩) (s := x.Seq + 1) (g := x.Gen + 1) (p := x.Pages) (m := x.M) hk
          rw [nob_iff.1 c.e] at p2
          simp only [List.append_nil] at p1 p2
          exact (List.perm_append_right_iff _).1 (p1.trans p2)
        have zM : nrm 16 (0 : Int) (mkD (mkC x k a.A l) k m).M = nrm 16 (0 : Int) x.M := by
          show nrm 16 (0 : Int) m = mm x
          rw [nrm_eq m1.len, em]
        generalize mkD (mkC x k a.A l) k m = z at *
        obtain ⟨fz, z1, z2, z3⟩ := free_tot hz
        rw [tot_perm zk, zp] at z3
        refine .inr ?_
        show bnd (oNum32 none) _ = _
        rw [show oNum32 none = some 0 from rfl, bnd_s, decide_eq_false (by decide : ¬ (0 : Int) = 2), Bool.false_and, ifb_0, dTaken_eq wz hf, if_pos hz, bnd_s, free_eq' wz hz rfl z1 hf, bnd_s, wrap_u64 (n := x.Seq + 2) (by omega), wrap_u64 (n := x.Gen + 1) (by omega), zs, zg, decide_eq_false (fun q => q rfl), decide_eq_false (fun q => q rfl), grd_t (fun _ => nrm_len), grd_t (fun _ => nrm_len), zM, decide_eq_true rfl, xMany_all hf, xMany_all hf, if_pos z2, if_pos f2, gif_s, bnd_s, gif_s, bnd_s]
        show ifb (decide (tot fz ≠ tot fr)) _ _ = _
        rw [decide_eq_false (fun q => q (by omega)), ifb_0]
        have := lp_range (n := 16) (body := F_l32DirBack_b0 fl x (z, none)) (fun _ => false) false (fl := fl) (fun i hi => by
          unfold F_l32DirBack_b0
          dsimp only
          rw [decide_eq_true (by omega : (i : Int) < 16), ifb_1, Int.toNat_natCast, ll_at hi, ll_at hi, show (ll z).getD i default = ten z i from rfl, show (ll x).getD i default = ten x i from rfl, zt i hi, decide_eq_false (fun q => q rfl), decide_eq_false (fun q => q rfl), grd_t (belo hi), grd_t (belo hi), grd_t (fun _ => belo hi), grd_t (fun _ => belo hi), grd_t (fun _ => belo hi), xMany_all hf, gif_s, bnd_s, grd_t (fun _ => belo hi), bnd_s, decide_eq_false (fun q => q rfl), nat_wrap (by omega)]; rfl)
          (by unfold F_l32DirBack_b0; rw [decide_eq_false (by omega), ifb_0]) (by omega)
        rw [this, if_neg (by simp)]
  · intro _
    obtain ⟨⟨z, e2⟩, hr2, hc2⟩ := grow_any (id := a.A) (n := a.Pages) hw h hP hf
    rw [hr2]
    rcases hc2 with ⟨e', he⟩ | ⟨k, l, c, he⟩
    · obtain rfl : e2 = some e' := he
      by_cases h0 : a.A = 0
      · rw [place_bad hw hf (fun q => q.2 h0)]; rfl
      · rcases place_any (fl := fl) hw h h0 hf with ⟨q1, _⟩ | ⟨j, hj, q1, _, _⟩
        · rw [q1]; rfl
        · rw [q1]; rfl
    · cases he
      have hk := c.hi
      obtain ⟨wz, hz, h4⟩ := c.ok hw h
      obtain ⟨r1, r2, r3, r4, r5⟩ := rsv_ok h c.r
      have tz : ten (mkG x k l) k = ⟨(ten x k).ID, (ten x k).Gen, (ten x k).Ext ++ l⟩ := by unfold mkG; rw [ten_set hk hk, if_pos rfl]
      have hx4 := h.ext hk
      have t4 := fine_tot hx4
      have t5 := fine_tot r5
      have h8 := h.few k hk
      rw [place_at hw h c.id0 hf hk c.hid, bnd_s, bnd_s]
      show ifb false _ _ = _
      rw [ifb_0]
      dsimp only
      rw [Int.toNat_natCast, ll_at hk, ll_at hk, show (ll (mkG x k l)).getD k default = ten (mkG x k l) k from rfl, show (ll x).getD k default = ten x k from rfl, tz]
      dsimp only
      rw [grd_t (fun _ => belo hk), xMany_all hf, if_pos h4, xMany_all hf, if_pos hx4]
      show grd _ (bnd (some (tot (ten x k).Ext)) _) = _
      rw [grd_t (fun _ => belo hk), bnd_s, tot_append, r2, wrap_i64 (by omega), decide_eq_false (fun q => q rfl)]
      show ifb false _ _ = _
      rw [ifb_0, grd_t (belo hk), grd_t (belo hk), decide_eq_false (by rw [List.length_append]; omega), ifb_0]
      have := lp_any (l := (ten x k).Ext) (body := F_l32DirBack_b1 x ((k : Int), none) (mkG x k l, none)) (fun _ => false) false (fl := fl) (fun i s hi => by
        have hil := (List.getElem?_eq_some_iff.1 hi).1
        have hi2 : ((ten x k).Ext ++ l)[i]? = some s := by rw [List.getElem?_append_left hil]; exact hi
        unfold F_l32DirBack_b1
        dsimp only
        rw [grd_t (belo hk), Int.toNat_natCast, ll_at hk, ll_at hk, show (ll (mkG x k l)).getD k default = ten (mkG x k l) k from rfl, show (ll x).getD k default = ten x k from rfl, tz]
        dsimp only
        rw [dec_lt hil, ifb_1, grd_t (belo hk), ixb_n hi2, grd_t (belo hk), ixb_n hi, decide_eq_true rfl, decide_eq_true rfl, nat_wrap (by omega)]; rfl)
        (by
          unfold F_l32DirBack_b1
          dsimp only
          rw [grd_t (belo hk), Int.toNat_natCast, ll_at hk, show (ll x).getD k default = ten x k from rfl, dec_ge, ifb_0]) (by omega)
      rw [this, if_neg (by simp)]; rfl
end Go.Proofs.YtokcgacehdgkcaaDoor.Eng.A
