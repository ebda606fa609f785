/- Loops in plain Lean: what the laws share. -/
import Derived.Test.YtokcgacehdgkcaaEngX4
import Derived.Test.YtokcgacehdgkcaaEA2
import Derived.Test.YtokcgacehdgkcaaEA3
import Derived.Test.YtokcgacehdgkcaaEA5
namespace Go.Proofs.Ytokcgacehdgkcaa.Eng.A
set_option linter.unusedVariables false
set_option linter.unusedSimpArgs false
open Go.RowKit Go.Proofs.Ytokcgacehdgkcaa.Eng

theorem getD_n {A : Type} [Inhabited A] {l : List A} {i : Nat} {x : A} (h : l[i]? = some x) : l.getD ((i : Int)).toNat default = x := by
  rw [List.getD_eq_getElem?_getD, Int.toNat_natCast, h]; rfl
theorem lp_inv {T O S : Type} {body : T → Option (T ⊕ O)} (mk : Nat → S → T) (I : Nat → S → Prop) (Q : O → Prop) {n fl : Nat} {s0 : S} (h0 : I 0 s0)
    (hs : ∀ i s, i < n → I i s → (∃ s', body (mk i s) = some (.inl (mk (i + 1) s')) ∧ I (i + 1) s') ∨ (∃ o, body (mk i s) = some (.inr o) ∧ Q o))
    (he : ∀ s, I n s → ∃ o, body (mk n s) = some (.inr o) ∧ Q o) (hf : n < fl) : ∃ o, lp body fl (mk 0 s0) = some o ∧ Q o := by
  have key : ∀ k i s fl, i + k = n → k < fl → I i s → ∃ o, lp body fl (mk i s) = some o ∧ Q o := by
    intro k
    induction k with
    | zero =>
      intro i s fl hi hf hI
      obtain ⟨m, rfl⟩ : ∃ m, fl = m + 1 := ⟨fl - 1, by omega⟩
      obtain rfl : i = n := by omega
      obtain ⟨o, h1, h2⟩ := he s hI
      exact ⟨o, by simp [lp, h1], h2⟩
    | succ k ih =>
      intro i s fl hi hf hI
      obtain ⟨m, rfl⟩ : ∃ m, fl = m + 1 := ⟨fl - 1, by omega⟩
      rcases hs i s (by omega) hI with ⟨s', h1, h2⟩ | ⟨o, h1, h2⟩
      · obtain ⟨o, h3, h4⟩ := ih (i + 1) s' m (by omega) (by omega) h2
        exact ⟨o, by simp only [lp, h1, bnd_s, ocs_1]; exact h3, h4⟩
      · exact ⟨o, by simp [lp, h1], h2⟩
  exact key n 0 s0 fl (by omega) hf h0
theorem belo {i n : Nat} (h : i < n) : Below (i : Int) n := ⟨by omega, by simpa using h⟩

theorem wrapi {n : Int} (h : -9223372036854775808 ≤ n) (h2 : n < 9223372036854775808) : IntKind.i64.wrap n = n := wrap_i64 ⟨h, h2⟩

end Go.Proofs.Ytokcgacehdgkcaa.Eng.A

/- Loops over a list, in plain Lean: by a step that goes on, or ends. -/
namespace Go.Proofs.Ytokcgacehdgkcaa.Eng.A
set_option linter.unusedVariables false
set_option linter.unusedSimpArgs false
open Go.RowKit Go.Proofs.Ytokcgacehdgkcaa.Eng

theorem nat_wrap {n : Nat} (h : n < 1000000000000000000) : IntKind.i64.wrap ((n : Int) + 1) = ((n + 1 : Nat) : Int) := by rw [wrapi (by omega) (by omega)]; omega
end Go.Proofs.Ytokcgacehdgkcaa.Eng.A

/- The plain laws of the scrub: bits, sums, loops. -/
namespace Go.Proofs.Ytokcgacehdgkcaa.Eng.A
set_option linter.unusedVariables false
set_option linter.unusedSimpArgs false
open Go.RowKit Go.Proofs.Ytokcgacehdgkcaa.Plain Go.Proofs.Ytokcgacehdgkcaa.Eng Go.Proofs.Ytokcgacehdgkcaa.Eng.Pk Go.Proofs.Ytokcgacehdgkcaa.Eng.Rd


/- BITS -/
theorem w32 {n : Nat} (h : n < 4294967296) : IntKind.u32.wrap (n : Int) = (n : Int) := by
  simp only [IntKind.wrap, IntKind.bits, IntKind.signed]; simp; omega
theorem xor32 {a b : Nat} (ha : a < 4294967296) (hb : b < 4294967296) : bits BinOp.xor .u32 (a : Int) (b : Int) = ((a ^^^ b : Nat) : Int) := by
  show IntKind.u32.wrap (BitVec.toNat (BitVec.ofInt 32 (a : Int) ^^^ BitVec.ofInt 32 (b : Int))) = _
  rw [BitVec.toNat_xor, BitVec.ofInt_natCast, BitVec.ofInt_natCast, BitVec.toNat_ofNat, BitVec.toNat_ofNat, Nat.mod_eq_of_lt (by simpa using ha), Nat.mod_eq_of_lt (by simpa using hb)]
  exact w32 (Nat.xor_lt_two_pow (n := 32) ha hb)
theorem and32 {a b : Nat} (ha : a < 4294967296) (hb : b < 4294967296) : bits BinOp.and .u32 (a : Int) (b : Int) = ((a &&& b : Nat) : Int) := by
  show IntKind.u32.wrap (BitVec.toNat (BitVec.ofInt 32 (a : Int) &&& BitVec.ofInt 32 (b : Int))) = _
  rw [BitVec.toNat_and, BitVec.ofInt_natCast, BitVec.ofInt_natCast, BitVec.toNat_ofNat, BitVec.toNat_ofNat, Nat.mod_eq_of_lt (by simpa using ha), Nat.mod_eq_of_lt (by simpa using hb)]
  exact w32 (Nat.lt_of_le_of_lt Nat.and_le_left ha)
theorem or63 {a b : Nat} (ha : a < 65536) (hb : b < 65536) : bits BinOp.or .i64 (a : Int) (b : Int) = ((a ||| b : Nat) : Int) := by
  show IntKind.i64.wrap (BitVec.toNat (BitVec.ofInt 64 (a : Int) ||| BitVec.ofInt 64 (b : Int))) = _
  rw [BitVec.toNat_or, BitVec.ofInt_natCast, BitVec.ofInt_natCast, BitVec.toNat_ofNat, BitVec.toNat_ofNat, Nat.mod_eq_of_lt (by omega), Nat.mod_eq_of_lt (by omega)]
  have := Nat.or_lt_two_pow (n := 16) ha hb
  exact wrap_i64 (by omega)
theorem or_add {a b : Nat} (hb : b < 256) : a * 256 ||| b = a * 256 + b := by
  have := Nat.two_pow_add_eq_or_of_lt (i := 8) hb a
  rw [Nat.mul_comm a 256]; exact this.symm
theorem or_by {a b : Int} (ha : 0 ≤ a ∧ a < 256) (hb : 0 ≤ b ∧ b < 256) : bits BinOp.or .i64 (IntKind.i64.wrap ((IntKind.i64.wrap a) * 2 ^ (8 : Int).toNat)) (IntKind.i64.wrap b) = 256 * a + b := by
  obtain ⟨x, rfl⟩ := Int.eq_ofNat_of_zero_le ha.1
  obtain ⟨y, rfl⟩ := Int.eq_ofNat_of_zero_le hb.1
  have e : ((x : Int)) * 2 ^ (8 : Int).toNat = ((x * 256 : Nat) : Int) := by
    show (x : Int) * 2 ^ 8 = _; omega
  rw [wrap_i64 (n := (x : Int)) (by omega), e, wrap_i64 (by omega), wrap_i64 (by omega), or63 (by omega) (by omega), or_add (by omega)]
  omega

/- THE SUM -/
def st (v : Nat) : Nat := if v % 2 = 1 then (v / 2) ^^^ 2197175160 else v / 2
theorem st_lin (a b : Nat) : st (a ^^^ b) = st a ^^^ st b := by
  have h1 : (a ^^^ b) / 2 = a / 2 ^^^ b / 2 := Nat.xor_div_two
  have h2 : (a ^^^ b) % 2 = (a % 2 + b % 2) % 2 := by
    have := @Nat.xor_mod_two_eq_one a b; omega
  unfold st
  rw [h1, h2]
  rcases Nat.mod_two_eq_zero_or_one a with ha | ha <;> rcases Nat.mod_two_eq_zero_or_one b with hb | hb <;> simp only [ha, hb] <;> simp
  · rw [Nat.xor_assoc]
  · rw [Nat.xor_assoc, Nat.xor_assoc, Nat.xor_comm (b / 2)]
  · rw [Nat.xor_assoc (a / 2), ← Nat.xor_assoc 2197175160, Nat.xor_comm 2197175160, Nat.xor_assoc (b / 2), Nat.xor_self, Nat.xor_zero]
theorem st_lt {v : Nat} (h : v < 4294967296) : st v < 4294967296 := by
  unfold st; split
  · exact Nat.xor_lt_two_pow (n := 32) (by omega) (by decide)
  · omega
def sts : Nat → Nat → Nat
  | 0, v => v
  | n + 1, v => st (sts n v)
theorem sts_lt {v : Nat} (h : v < 4294967296) : ∀ n, sts n v < 4294967296
  | 0 => h
  | n + 1 => st_lt (sts_lt h n)
theorem sts_lin (a b : Nat) : ∀ n, sts n (a ^^^ b) = sts n a ^^^ sts n b
  | 0 => rfl
  | n + 1 => by rw [sts, sts_lin a b n, st_lin]; rfl
theorem sts_add (v : Nat) (m : Nat) : ∀ n, sts (n + m) v = sts n (sts m v)
  | 0 => by rw [Nat.zero_add]; rfl
  | n + 1 => by rw [Nat.add_right_comm]; exact congrArg st (sts_add v m n)
theorem st_even (q : Nat) : st (2 * q) = q := by unfold st; rw [if_neg (by omega)]; omega
theorem sts16 (q : Nat) : sts 4 (16 * q) = q := by
  simp only [sts]
  rw [show 16 * q = 2 * (2 * (2 * (2 * q))) by omega, st_even, st_even, st_even, st_even]
def tab : List Int := [0, 274646895, 549293790, 820201905, 1098587580, 1361435347, 1640403810, 1905808397, 2197175160, 2460548119, 2722870694, 2987750089, 3280807620, 3553878443, 3811616794, 4084100981]
theorem tab_at : ∀ r, r < 16 → tab[r]? = some ((sts 4 r : Nat) : Int) := by decide +kernel
theorem half_eq {v : Nat} (h : v < 4294967296) : F_chalf (v : Int) = some ((sts 4 v : Nat) : Int) := by
  have hr : v % 16 < 16 := Nat.mod_lt _ (by decide)
  have e : bits BinOp.and .u32 (v : Int) 15 = ((v % 16 : Nat) : Int) := by
    rw [show (15 : Int) = ((15 : Nat) : Int) from rfl, and32 h (by decide)]
    have : v &&& (2 ^ 4 - 1) = v % 2 ^ 4 := Nat.and_two_pow_sub_one_eq_mod ..
    exact congrArg Int.ofNat this
  unfold F_chalf
  rw [e, grd_t (by decide), grd_t (by decide), grd_t (belo hr)]
  rw [Int.toNat_natCast]
  refine (ixb_n (tab_at _ hr) _).trans ?_
  have e2 : (v : Int) / 2 ^ (4 : Int).toNat = ((v / 16 : Nat) : Int) := by
    show (v : Int) / 2 ^ 4 = _; omega
  have hs := sts_lt (v := v % 16) (by omega) 4
  rw [e2, xor32 (by omega) hs]
  have e3 : v = 16 * (v / 16) ^^^ (v % 16) := by
    have h1 := Nat.two_pow_add_eq_or_of_lt (i := 4) hr (v / 16)
    have h2 : 16 * (v / 16) ^^^ (v % 16) = 2 ^ 4 * (v / 16) + v % 16 := by
      apply Nat.eq_of_testBit_eq
      intro j
      rw [Nat.testBit_xor, Nat.testBit_two_pow_mul_add _ hr]
      rw [show (16 : Nat) = 2 ^ 4 from rfl, Nat.testBit_two_pow_mul]
      by_cases hj : j < 4
      · rw [if_pos hj]; simp [show ¬ 4 ≤ j by omega]
      · rw [if_neg hj, Nat.testBit_lt_two_pow (x := v % 16) (Nat.lt_of_lt_of_le hr (Nat.pow_le_pow_right (n := 2) (by decide) (by omega : 4 ≤ j)))]
        simp [show 4 ≤ j by omega]
    omega
  conv => rhs; rw [e3]
  rw [sts_lin, sts16]
theorem full_xor {v : Nat} (h : v < 4294967296) : 4294967295 ^^^ v = 4294967295 - v := by
  apply Nat.eq_of_testBit_eq
  intro j
  have h1 := Nat.testBit_two_pow_sub_succ (n := 32) (x := v) h j
  rw [show 4294967295 - v = 2 ^ 32 - (v + 1) by omega, h1, Nat.testBit_xor, show (4294967295 : Nat) = 2 ^ 32 - 1 from rfl, Nat.testBit_two_pow_sub_one]
  by_cases hj : j < 32
  · simp [hj]
  · rw [Nat.testBit_lt_two_pow (x := v) (Nat.lt_of_lt_of_le h (Nat.pow_le_pow_right (n := 2) (by decide) (by omega : 32 ≤ j)))]; simp [hj]
def Bts (l : List Int) : Prop := ∀ x ∈ l, 0 ≤ x ∧ x < 256
def crc1 (s : Nat) (x : Int) : Nat := sts 8 (s ^^^ x.toNat)
theorem crc1_lt {s : Nat} {x : Int} (h : s < 4294967296) (hx : 0 ≤ x ∧ x < 256) : crc1 s x < 4294967296 := sts_lt (Nat.xor_lt_two_pow (n := 32) h (by omega)) 8
def crcN (l : List Int) : Nat := 4294967295 - l.foldl crc1 4294967295
theorem crc_fold_lt {l : List Int} (h : Bts l) : ∀ {s : Nat}, s < 4294967296 → l.foldl crc1 s < 4294967296 := by
  induction l with
  | nil => intro s hs; exact hs
  | cons a l ih => intro s hs; exact ih (fun x hx => h x (by simp [hx])) (crc1_lt hs (h a (by simp)))
theorem crcN_lt (l : List Int) : crcN l < 4294967296 := by unfold crcN; omega
theorem csum_eq {l : List Int} {fl : Nat} (hb : Bts l) (hl : l.length < 1000000) (hf : l.length < fl) : F_csum fl l = some ((crcN l : Nat) : Int) := by
  unfold F_csum F_cmore
  have h := lp_list (l := l) (fun i s => (((s : Nat) : Int), (i : Int))) (body := F_cmore_b0 l) crc1 (fun s => ((s : Nat) : Int)) 4294967295 (fl := fl) (fun i s => s < 4294967296) (by decide)
    (fun i x s hx hI => by
      have hi := (List.getElem?_eq_some_iff.1 hx).1
      have hxb := hb x (List.mem_of_getElem? hx)
      refine ⟨?_, crc1_lt hI hxb⟩
      obtain ⟨y, rfl⟩ := Int.eq_ofNat_of_zero_le hxb.1
      have hxl : s ^^^ y < 4294967296 := Nat.xor_lt_two_pow (n := 32) hI (by omega)
      unfold F_cmore_b0
      dsimp only
      rw [ifb_dec, if_pos (by omega), ixb_n hx, w32 (by omega), xor32 hI (by omega), half_eq hxl, bnd_s, half_eq (sts_lt hxl 4), bnd_s, wrap_i64 (by omega), ← sts_add]
      rfl)
    (fun s hI => by unfold F_cmore_b0; dsimp only; rw [ifb_dec, if_neg (by omega)]) hf
  rw [show (bits BinOp.xor .u32 (IntKind.u32.max) 0, (0 : Int)) = (((4294967295 : Nat) : Int), ((0 : Nat) : Int)) by decide, h, bnd_s, bnd_s]
  have hl := crc_fold_lt hb (s := 4294967295) (by decide)
  rw [show (IntKind.u32.max) = ((4294967295 : Nat) : Int) by decide, xor32 (by decide) hl, full_xor hl]
  rfl
theorem rmore_eq {l : List Int} {fl : Nat} (hb : Bts l) (hl : l.length < 1000000) (hf : l.length < fl) (hf2 : 8 < fl) : F_rmore fl 0 l = some ((crcN l : Nat) : Int) := by
  unfold F_rmore
  have hin : ∀ v : Nat, v < 4294967296 → lp F_rmore_b1 fl ((v : Int), (0 : Int)) = some ((sts 8 v : Nat) : Int) := fun v hv => by
    refine lp_seq (fun i => (((sts i v : Nat) : Int), (i : Int))) (n := 8) (fun i hi => ?_) (by unfold F_rmore_b1; dsimp only; rw [ifb_dec, if_neg (by decide)]) hf2
    have hs := sts_lt hv i
    unfold F_rmore_b1
    dsimp only
    have e1 : ((sts i v : Nat) : Int).tmod 2 = ((sts i v % 2 : Nat) : Int) := by rw [Int.tmod_eq_emod_of_nonneg (by omega)]; omega
    have e2 : ((sts i v : Nat) : Int).tdiv 2 = ((sts i v / 2 : Nat) : Int) := by rw [Int.tdiv_eq_ediv_of_nonneg (by omega)]; omega
    rw [ifb_dec, if_pos (by omega), e1, e2, w32 (by omega), show (2197175160 : Int) = ((2197175160 : Nat) : Int) from rfl, xor32 (by omega) (by decide), wrap_i64 (by omega), ifb_dec]
    rw [show sts (i + 1) v = st (sts i v) from rfl]
    unfold st
    split
    · rw [if_pos (by omega), bnd_s]; rfl
    · rw [if_neg (by omega), bnd_s]; rfl
  have h := lp_list (l := l) (fun i s => (((s : Nat) : Int), (i : Int))) (body := F_rmore_b0 fl l) crc1 (fun s => ((s : Nat) : Int)) 4294967295 (fl := fl) (fun i s => s < 4294967296) (by decide)
    (fun i x s hx hI => by
      have hi := (List.getElem?_eq_some_iff.1 hx).1
      have hxb := hb x (List.mem_of_getElem? hx)
      refine ⟨?_, crc1_lt hI hxb⟩
      obtain ⟨y, rfl⟩ := Int.eq_ofNat_of_zero_le hxb.1
      have hxl : s ^^^ y < 4294967296 := Nat.xor_lt_two_pow (n := 32) hI (by omega)
      unfold F_rmore_b0
      dsimp only
      rw [ifb_dec, if_pos (by omega), ixb_n hx, w32 (by omega), xor32 hI (by omega), hin _ hxl, bnd_s, wrap_i64 (by omega)]
      rfl)
    (fun s hI => by unfold F_rmore_b0; dsimp only; rw [ifb_dec, if_neg (by omega)]) hf
  rw [show (IntKind.u32.wrap (4294967295 - 0), (0 : Int)) = (((4294967295 : Nat) : Int), ((0 : Nat) : Int)) by decide, h, bnd_s]
  have hl := crc_fold_lt hb (s := 4294967295) (by decide)
  rw [show (4294967295 : Int) - ((List.foldl crc1 4294967295 l : Nat) : Int) = ((crcN l : Nat) : Int) by unfold crcN; omega, w32 (crcN_lt l)]
end Go.Proofs.Ytokcgacehdgkcaa.Eng.A

/- The scrub: pages that are opened, the used ones. -/
namespace Go.Proofs.Ytokcgacehdgkcaa.Eng.A
set_option linter.unusedVariables false
set_option linter.unusedSimpArgs false
open Go.RowKit Go.Proofs.Ytokcgacehdgkcaa.Plain Go.Proofs.Ytokcgacehdgkcaa.Eng Go.Proofs.Ytokcgacehdgkcaa.Eng.Pk Go.Proofs.Ytokcgacehdgkcaa.Eng.Rd

theorem bts_sub {l m : List Int} (h : Bts l) (hm : ∀ x ∈ m, x ∈ l) : Bts m := fun x hx => h x (hm x hx)
theorem bts_take {l : List Int} (h : Bts l) (n : Nat) : Bts (l.take n) := bts_sub h fun _ hx => List.mem_of_mem_take hx
theorem bts_drop {l : List Int} (h : Bts l) (n : Nat) : Bts (l.drop n) := bts_sub h fun _ hx => List.mem_of_mem_drop hx
theorem upto {i n : Nat} (h : i ≤ n) : UpTo (i : Int) n := ⟨by omega, by omega⟩
theorem btwI {a b : Int} {n : Nat} (h0 : 0 ≤ a) (h1 : a ≤ b) (h2 : b ≤ n) : Btw a b n := by unfold Btw; omega
theorem beloI {i : Int} {n : Nat} (h0 : 0 ≤ i) (h1 : i < n) : Below i n := by unfold Below; omega
theorem grd_i {R : Type} {p c : Prop} [Decidable (p → c)] (h : c) (k : Option R) : grd (p → c) k = k := grd_t (fun _ => h) k
theorem or64n {a b : Nat} (ha : a < 72057594037927936) (hb : b < 256) : bits BinOp.or .u64 (IntKind.u64.wrap ((a : Int) * 2 ^ (8 : Int).toNat)) (IntKind.u64.wrap (b : Int)) = ((256 * a + b : Nat) : Int) := by
  have e : (a : Int) * 2 ^ (8 : Int).toNat = ((a * 256 : Nat) : Int) := by
    show (a : Int) * 2 ^ 8 = _; omega
  rw [e, wrap_u64 (by omega), wrap_u64 (by omega), bits_or_u64_nat _ _ (by omega) (by omega), or_add hb]
  omega
def get4 (a b c d : Int) : Int := 16777216 * a + 65536 * b + 256 * c + d
theorem iget4 {a b c d : Int} (ha : 0 ≤ a ∧ a < 256) (hb : 0 ≤ b ∧ b < 256) (hc : 0 ≤ c ∧ c < 256) (hd : 0 ≤ d ∧ d < 256) {fl : Nat} (hf : 10 < fl) : F_iget fl [a, b, c, d] = some (get4 a b c d, none) := by
  obtain ⟨x, rfl⟩ := Int.eq_ofNat_of_zero_le ha.1
  obtain ⟨y, rfl⟩ := Int.eq_ofNat_of_zero_le hb.1
  obtain ⟨z, rfl⟩ := Int.eq_ofNat_of_zero_le hc.1
  obtain ⟨u, rfl⟩ := Int.eq_ofNat_of_zero_le hd.1
  let f : Nat → Int → Nat := fun s x => 256 * s + x.toNat
  have h := lp_list (l := [(x : Int), y, z, u]) (fun i s => (((s : Nat) : Int), (i : Int))) (body := F_iget_b0 [(x : Int), y, z, u]) f (fun s => ((s : Nat) : Int)) 0 (fl := fl) (fun i s => i ≤ 4 ∧ s < 256 ^ i) (by decide)
    (fun i v s hv hI => by
      have hi := (List.getElem?_eq_some_iff.1 hv).1
      have hi4 : i < 4 := hi
      have hvb : 0 ≤ v ∧ v < 256 := by
        have := List.mem_of_getElem? hv
        simp only [List.mem_cons, List.not_mem_nil, or_false] at this
        rcases this with rfl | rfl | rfl | rfl <;> assumption
      obtain ⟨w, rfl⟩ := Int.eq_ofNat_of_zero_le hvb.1
      have hle : 256 ^ i ≤ 256 ^ 3 := Nat.pow_le_pow_right (by decide) (by omega)
      have hlt : s < 16777216 := Nat.lt_of_lt_of_le hI.2 hle
      refine ⟨?_, by omega, ?_⟩
      · unfold F_iget_b0
        dsimp only
        rw [ifb_dec, if_pos (by omega), ixb_n hv, or64n (by omega) (by omega), wrap_i64 (by omega)]
        rfl
      · show 256 * s + w < 256 ^ (i + 1)
        rw [Nat.pow_succ]; have := hI.2; omega)
    (fun s hI => by unfold F_iget_b0; dsimp only; rw [ifb_dec, if_neg (by omega)]) (by simp; omega)
  unfold F_iget
  rw [show ((decide (([(x : Int), y, z, u].length : Int) = 0)) || (decide (8 < ([(x : Int), y, z, u].length : Int)))) = false by rfl, ifb_0]
  rw [show (((0 : Int), (0 : Int))) = (((0 : Nat) : Int), ((0 : Nat) : Int)) by rfl, h, bnd_s]
  have : [(x : Int), y, z, u].foldl f 0 = 256 * (256 * (256 * (256 * 0 + x) + y) + z) + u := rfl
  rw [this]
  unfold get4
  have e : (((256 * (256 * (256 * (256 * 0 + x) + y) + z) + u : Nat)) : Int) = 16777216 * (x : Int) + 65536 * y + 256 * z + u := by omega
  rw [e]
theorem last4 {l : List Int} (h : 4 ≤ l.length) : ∃ a b c d, l.drop (l.length - 4) = [a, b, c, d] := by
  have hl : (l.drop (l.length - 4)).length = 4 := by rw [List.length_drop]; omega
  match h2 : l.drop (l.length - 4), hl with
  | [a, b, c, d], _ => exact ⟨a, b, c, d, rfl⟩
def okS (l : List Int) : Bool := decide (4 ≤ l.length) && (match l.drop (l.length - 4) with | [a, b, c, d] => decide (get4 a b c d = (crcN (l.take (l.length - 4)) : Int)) | _ => false)
theorem cis_eq {l : List Int} {fl : Nat} (hb : Bts l) (hl : l.length < 1000000) (hf : l.length < fl) (hf2 : 10 < fl) : F_cis fl l = some (okS l) := by
  unfold F_cis
  by_cases h4 : 4 ≤ l.length
  · rw [wrap_i64 (by omega), ifb_dec, if_neg (by omega)]
    have e : ((l.length : Int) - 4) = ((l.length - 4 : Nat) : Int) := by omega
    rw [e, Int.toNat_natCast, grd_t (upto (by omega))]
    obtain ⟨a, b, c, d, h⟩ := last4 h4
    have hbd := bts_drop hb (l.length - 4)
    rw [h] at hbd ⊢
    have ha := hbd a (by simp); have hbb := hbd b (by simp); have hc := hbd c (by simp); have hd := hbd d (by simp)
    rw [iget4 ha hbb hc hd hf2, bnd_s]
    dsimp only
    rw [show ((none : Option Int).isNone == true) = true from rfl, grd_t (fun _ => (upto (by omega))), gif_1]
    rw [csum_eq (bts_take hb _) (by rw [List.length_take]; omega) (by rw [List.length_take]; omega), bnd_s]
    have hw : IntKind.u32.wrap (get4 a b c d) = get4 a b c d := by
      have : get4 a b c d = (((get4 a b c d).toNat : Nat) : Int) := by unfold get4; omega
      rw [this]; exact w32 (by unfold get4; omega)
    rw [hw]
    unfold okS
    rw [h]
    simp [h4]
  · rw [wrap_i64 (by omega), ifb_dec, if_pos (by omega)]
    unfold okS; simp [h4]
def nz (l : List Int) : Bool := l.any fun x => decide (x ≠ 0)
theorem blank_eq {l : List Int} {fl : Nat} (hl : l.length < 1000000) (hf : l.length < fl) : F_blank fl l = some (!nz l) := by
  have hb : ∀ (i : Nat) x, l[i]? = some x → F_idxB_b0 l (i : Int) = if x ≠ 0 then some (.inr (.inl (i : Int))) else some (.inl ((i + 1 : Nat) : Int)) := fun i x hx => by
    have hi := (List.getElem?_eq_some_iff.1 hx).1
    unfold F_idxB_b0 F_blk1
    rw [ifb_dec, if_pos (by omega), ixb_n hx, bnd_s, ifb_dec, wrap_i64 (by omega)]; rfl
  obtain ⟨o, h1, h2⟩ := lp_inv (body := F_idxB_b0 l) (fun i (_ : Unit) => (i : Int)) (fun i _ => nz (l.take i) = false) (fun o => (o = .inr () ∧ nz l = false) ∨ (∃ i : Nat, o = .inl (i : Int)) ∧ nz l = true) (n := l.length) (fl := fl) (s0 := ()) rfl
    (fun i _ hi hI => by
      have hx := List.getElem?_eq_getElem hi
      rw [hb i _ hx]
      by_cases h0 : l[i] = 0
      · rw [if_neg (by simpa using h0)]
        refine .inl ⟨(), rfl, ?_⟩
        unfold nz at hI ⊢
        rw [List.take_add_one, hx, List.any_append, hI]; simp [h0]
      · rw [if_pos h0]
        refine .inr ⟨_, rfl, .inr ⟨⟨i, rfl⟩, ?_⟩⟩
        exact List.any_eq_true.2 ⟨l[i], List.getElem_mem hi, by simpa using h0⟩)
    (fun _ hI => ⟨.inr (), by unfold F_idxB_b0; rw [ifb_dec, if_neg (by omega)], .inl ⟨rfl, by simpa using hI⟩⟩) hf
  unfold F_blank F_hasB F_idxB
  have h1' : lp (F_idxB_b0 l) fl 0 = some o := h1
  rw [h1', bnd_s]
  rcases h2 with ⟨rfl, h⟩ | ⟨⟨i, rfl⟩, h⟩
  · rw [ocs_2, h]; rfl
  · rw [ocs_1, h, bnd_s, bnd_s, decide_eq_true (by omega : (0 : Int) ≤ (i : Int))]
def num (l : List Int) : Nat := 256 * (l.getD 2 0).toNat + (l.getD 3 0).toNat
def okP (l : List Int) : Bool := decide (l.length = 512) && (okS l && (decide (1 ≤ l.getD 0 0 ∧ l.getD 0 0 ≤ 5 ∧ l.getD 1 0 = 0 ∧ num l ≤ 504) && !nz ((l.take 508).drop (4 + num l))))
theorem sopen_eq {l : List Int} {fl : Nat} (hb : Bts l) (hf : 600 < fl) : ∃ r, F_sopen fl l = some r ∧ r.2.2.isSome = !okP l := by
  unfold F_sopen okP
  rw [ifb_dec]
  by_cases hl : l.length = 512
  · rw [if_neg (by omega), cis_eq hb (by omega) (by omega) (by omega), bnd_s]
    cases hk : okS l with
    | false => exact ⟨_, rfl, by simp⟩
    | true =>
      have g0 := List.getElem?_eq_getElem (l := l) (i := 0) (by omega)
      have g1 := List.getElem?_eq_getElem (l := l) (i := 1) (by omega)
      have g2 := List.getElem?_eq_getElem (l := l) (i := 2) (by omega)
      have g3 := List.getElem?_eq_getElem (l := l) (i := 3) (by omega)
      have b0 := hb _ (List.mem_of_getElem? g0)
      have b2 := hb _ (List.mem_of_getElem? g2)
      have b3 := hb _ (List.mem_of_getElem? g3)
      have d0 : l.getD 0 0 = l[0] := by rw [List.getD_eq_getElem?_getD, g0]; rfl
      have d1 : l.getD 1 0 = l[1] := by rw [List.getD_eq_getElem?_getD, g1]; rfl
      have d2 : l.getD 2 0 = l[2] := by rw [List.getD_eq_getElem?_getD, g2]; rfl
      have d3 : l.getD 3 0 = l[3] := by rw [List.getD_eq_getElem?_getD, g3]; rfl
      have hn : (256 : Int) * l[2] + l[3] = ((num l : Nat) : Int) := by unfold num; rw [d2, d3]; omega
      have hn2 : num l < 65536 := by omega
      rw [Bool.not_true, ifb_0]
      rw [ixb_at (i := 2) (by decide) g2, ixb_at (i := 3) (by decide) g3, ixb_at (i := 0) (by decide) g0]
      simp only [or_by b2 b3, hn]
      unfold F_kinded
      rw [bnd_s]
      have e1 : l.getD (1 : Int).toNat default = l[1] := by rw [List.getD_eq_getElem?_getD]; show (l[1]?).getD _ = _; rw [g1]; rfl
      rw [grd_i (beloI (by omega) (by omega)), e1, d0, d1]
      have e4 : IntKind.i64.wrap (4 + (num l : Int)) = ((4 + num l : Nat) : Int) := by rw [wrap_i64 (by omega)]; omega
      rw [e4, Int.toNat_natCast]
      by_cases hbad : (1 : Int) ≤ l[0] ∧ l[0] ≤ 5 ∧ l[1] = 0 ∧ num l ≤ 504
      · have hc : ((!((decide ((1 : Int) ≤ l[0])) && (decide (l[0] ≤ 5)))) || (decide (l[1] ≠ 0)) || (decide (504 < (num l : Int)))) = false := by
          rw [decide_eq_true hbad.1, decide_eq_true hbad.2.1, decide_eq_false (by simpa using hbad.2.2.1), decide_eq_false (by omega)]; rfl
        rw [hc, show (false == false) = true from rfl]
        rw [grd_i (btwI (by omega) (by omega) (by omega)), gif_1]
        rw [show ((508 : Int)).toNat = 508 from rfl, blank_eq (by rw [List.length_drop, List.length_take]; omega) (by rw [List.length_drop, List.length_take]; omega), bnd_s]
        rw [decide_eq_true hbad]
        cases hz : nz ((l.take 508).drop (4 + num l)) with
        | true => exact ⟨_, rfl, by simp⟩
        | false =>
          rw [Bool.not_false, Bool.or_eq_false_iff.2 ⟨rfl, by decide⟩, ifb_0]
          rw [ixb_at (i := 0) (by decide) g0, grd_t (btwI (by omega) (by omega) (by omega))]
          unfold oClone
          rw [grd_t ⟨by constructor <;> simp [hl] <;> omega, by simp [hl]; omega⟩, bnd_s]
          exact ⟨_, rfl, by simp [hl]⟩
      · have hc : ((!((decide ((1 : Int) ≤ l[0])) && (decide (l[0] ≤ 5)))) || (decide (l[1] ≠ 0)) || (decide (504 < (num l : Int)))) = true := by
          cases hq : ((!((decide ((1 : Int) ≤ l[0])) && (decide (l[0] ≤ 5)))) || (decide (l[1] ≠ 0)) || (decide (504 < (num l : Int)))) with
          | true => rfl
          | false =>
            refine absurd ?_ hbad
            simp at hq
            omega
        rw [hc, show (true == false) = false from rfl, grd_t (fun h => by cases h), gif_0, bnd_s, Bool.true_or, ifb_1]
        rw [decide_eq_false hbad]
        exact ⟨_, rfl, by simp⟩
  · rw [if_pos (by omega)]
    exact ⟨_, rfl, by simp [hl]⟩
end Go.Proofs.Ytokcgacehdgkcaa.Eng.A

/- The scrub: the document's page, the used ones, what is dirty, clean, and behind loads. -/
namespace Go.Proofs.Ytokcgacehdgkcaa.Eng.A
set_option linter.unusedVariables false
set_option linter.unusedSimpArgs false
open Go.RowKit Go.Proofs.Ytokcgacehdgkcaa.Plain Go.Proofs.Ytokcgacehdgkcaa.Eng Go.Proofs.Ytokcgacehdgkcaa.Eng.Pk Go.Proofs.Ytokcgacehdgkcaa.Eng.Rd

theorem wu {w v : Nat} (h : w ≤ v) (hv : (v : Int) < 18446744073709551616) : IntKind.u64.wrap (w : Int) = (w : Int) := wrap_u64 (by omega)
theorem andp (v k : Nat) : v &&& 2 ^ k = if v.testBit k = true then 2 ^ k else 0 := by
  apply Nat.eq_of_testBit_eq
  intro j
  rw [Nat.testBit_and, Nat.testBit_two_pow]
  by_cases hj : k = j
  · subst hj
    cases hv : v.testBit k <;> simp
  · cases hv : v.testBit k <;> simp [hj]
/- THE USED ONES -/
structure Used (u : List Int) : Prop where
  len : u.length = 16
  u64 : ∀ x ∈ u, 0 ≤ x ∧ x < 18446744073709551616
def has (u : List Int) (i : Nat) : Bool := decide (i < 1024) && ((u.getD (i / 64) 0).toNat).testBit (i % 64)
theorem bhas_eq {u : List Int} (h : Used u) {i : Nat} (hi : i < 1000000) : F_bhas u (i : Int) = some (has u i) := by
  unfold F_bhas F_bmay has
  rw [bnd_s]
  by_cases h4 : i < 1024
  · have hm : ((decide ((0 : Int) ≤ (i : Int))) && (decide ((i : Int) < 1024))) = true := by rw [decide_eq_true (by omega), decide_eq_true (by omega)]; rfl
    have e : (i : Int) / 2 ^ (6 : Int).toNat = ((i / 64 : Nat) : Int) := by show (i : Int) / 2 ^ 6 = _; omega
    have hl := h.len
    have hx := List.getElem?_eq_getElem (l := u) (i := i / 64) (by omega)
    have hxb := h.u64 _ (List.mem_of_getElem? hx)
    rw [hm, e, Int.toNat_natCast, grd_i (belo (by omega)), grd_i (belo (by omega)), show (true == true) = true from rfl, gif_1]
    have hd : u.getD (i / 64) default = u[i / 64] := by rw [List.getD_eq_getElem?_getD, hx]; rfl
    have hd0 : u.getD (i / 64) 0 = u[i / 64] := by rw [List.getD_eq_getElem?_getD, hx]; rfl
    rw [hd, hd0]
    generalize u[i / 64] = x at hxb
    obtain ⟨v, rfl⟩ := Int.eq_ofNat_of_zero_le hxb.1
    have hk : i % 64 < 64 := Nat.mod_lt _ (by decide)
    have ea : bits BinOp.and .u64 (IntKind.u64.wrap (i : Int)) 63 = ((i % 64 : Nat) : Int) := by
      rw [wrap_u64 (by omega), show (63 : Int) = ((63 : Nat) : Int) from rfl, bits_and_u64_nat _ _ (by omega) (by decide)]
      exact congrArg Int.ofNat (Nat.and_two_pow_sub_one_eq_mod i 6)
    unfold F_bbit
    rw [ea, grd_t (upto (by omega)), bnd_s, Int.toNat_natCast]
    have hp : 2 ^ (i % 64) < 18446744073709551616 := Nat.pow_lt_pow_right (a := 2) (n := 64) (by decide) hk
    have e2 : (1 : Int) * 2 ^ (i % 64) = ((2 ^ (i % 64) : Nat) : Int) := by simp
    rw [e2, wu (v := 18446744073709551615) (by omega) (by decide), bits_and_u64_nat _ _ (by omega) hp, andp, Int.toNat_natCast, decide_eq_true h4, Bool.true_and, Bool.true_and]
    cases v.testBit (i % 64) with
    | true => simp; have := Nat.two_pow_pos (i % 64); omega
    | false => simp
  · have hm : ((decide ((0 : Int) ≤ (i : Int))) && (decide ((i : Int) < 1024))) = false := by rw [decide_eq_false (p := (i : Int) < 1024) (by omega), Bool.and_false]
    rw [hm, grd_t (fun h => by cases h), grd_t (fun h => by cases h), show (false == true) = false from rfl, gif_0, bnd_s, decide_eq_false h4]
    rfl
end Go.Proofs.Ytokcgacehdgkcaa.Eng.A

/- The scrub: what is dirty, clean, and behind loads. -/
namespace Go.Proofs.Ytokcgacehdgkcaa.Eng.A
set_option linter.unusedVariables false
set_option linter.unusedSimpArgs false
open Go.RowKit Go.Proofs.Ytokcgacehdgkcaa.Plain Go.Proofs.Ytokcgacehdgkcaa.Eng Go.Proofs.Ytokcgacehdgkcaa.Eng.Pk Go.Proofs.Ytokcgacehdgkcaa.Eng.Rd

structure Pgs (p : List (List Int)) : Prop where
  few : p.length ≤ 60
  short : ∀ l ∈ p, l.length ≤ 600
  bytes : ∀ l ∈ p, Bts l
theorem pgs_at {p : List (List Int)} (h : Pgs p) {i : Nat} {l : List Int} (hl : p[i]? = some l) : l.length ≤ 600 ∧ Bts l := ⟨h.short l (List.mem_of_getElem? hl), h.bytes l (List.mem_of_getElem? hl)⟩
def pg (p : List (List Int)) (i : Nat) : List Int := p.getD i []
theorem pg_at {p : List (List Int)} {i : Nat} (h : i < p.length) : p[i]? = some (pg p i) := by
  unfold pg; rw [List.getD_eq_getElem?_getD, List.getElem?_eq_getElem h]; rfl
theorem pg_d {p : List (List Int)} {i : Nat} (h : i < p.length) : p.getD ((i : Int)).toNat default = pg p i := getD_n (pg_at h)
/-- The pages from 2 on, up to n. -/
def dl (p : List (List Int)) (u : List Int) (n : Nat) : List Int := ((List.range n).filter fun j => !has u (j + 2) && nz (pg p (j + 2))).map fun j => ((j + 2 : Nat) : Int)
theorem dl_succ (p : List (List Int)) (u : List Int) (n : Nat) : dl p u (n + 1) = dl p u n ++ (if (!has u (n + 2) && nz (pg p (n + 2))) = true then [((n + 2 : Nat) : Int)] else []) := by
  unfold dl
  rw [List.range_succ, List.filter_append, List.map_append]
  congr 1
  rw [List.filter_cons]
  split <;> simp
theorem dl_n {p : List (List Int)} {u : List Int} {n : Nat} (h : (!has u (n + 2) && nz (pg p (n + 2))) = false) : dl p u (n + 1) = dl p u n := by rw [dl_succ, h]; simp
theorem dl_y {p : List (List Int)} {u : List Int} {n : Nat} (h : (!has u (n + 2) && nz (pg p (n + 2))) = true) : dl p u (n + 1) = dl p u n ++ [((n + 2 : Nat) : Int)] := by rw [dl_succ, h]; rfl
theorem dl_len (p : List (List Int)) (u : List Int) (n : Nat) : (dl p u n).length ≤ n := by
  unfold dl
  rw [List.length_map]
  exact Nat.le_trans (List.length_filter_le _ _) (by simp)
theorem app_ok {l : List Int} {x : Int} {n : Nat} (h : l.length ≤ n) (hn : n ≤ 1000) : grd (Fits 8 (l.length + ([x] : List Int).length)) (some (l ++ [x])) = some (l ++ [x]) := grd_t (by constructor <;> simp <;> omega) _
theorem sdirty_eq {p : List (List Int)} {u : List Int} (hp : Pgs p) (hu : Used u) {fl : Nat} (hf : 2000 < fl) : F_sdirty fl p u = some (dl p u (p.length - 2)) := by
  have h6 := hp.few
  obtain ⟨o, h1, h2⟩ := lp_inv (body := F_sdirty_b0 fl p u) (fun i (s : List Int) => (s, ((i + 2 : Nat) : Int))) (fun i s => s = dl p u i) (fun o => o = dl p u (p.length - 2)) (n := p.length - 2) (fl := fl) (s0 := []) rfl
    (fun i s hi hI => by
      subst hI
      left
      refine ⟨dl p u (i + 1), ?_, rfl⟩
      have hx := pg_at (p := p) (i := i + 2) (by omega)
      have hg := pgs_at hp hx
      have e : ((i + 2 : Nat) : Int) + 1 = ((i + 1 + 2 : Nat) : Int) := by omega
      unfold F_sdirty_b0
      dsimp only
      rw [ifb_dec, if_pos (by omega), grd_t hu.len, bhas_eq hu (by omega), bnd_s, grd_i (belo (by omega)), pg_d (by omega), blank_eq (by omega) (by omega), gif_s, bnd_s, wrap_i64 (by omega), e]
      have hd := dl_len p u i
      cases hh : has u (i + 2) <;> cases hz : nz (pg p (i + 2))
      · rw [dl_n (by rw [hh, hz]; rfl)]; rfl
      · rw [dl_y (by rw [hh, hz]; rfl)]; exact (bnd_eq (app_ok hd (by omega)) _).trans rfl
      · rw [dl_n (by rw [hh, hz]; rfl)]; rfl
      · rw [dl_n (by rw [hh, hz]; rfl)]; rfl)
    (fun s hI => ⟨s, by
      unfold F_sdirty_b0
      dsimp only
      rw [ifb_dec, if_neg (by omega)], hI⟩) (by omega)
  have h1' : lp (F_sdirty_b0 fl p u) fl (([] : List Int), 2) = some o := h1
  unfold F_sdirty
  rw [h1', bnd_s, h2]
/-- All used ones up to n are right. -/
def okU (p : List (List Int)) (u : List Int) (n : Nat) : Bool := (List.range n).all fun j => !has u (j + 2) || okP (pg p (j + 2))
theorem okU_succ (p : List (List Int)) (u : List Int) (n : Nat) : okU p u (n + 1) = (okU p u n && (!has u (n + 2) || okP (pg p (n + 2)))) := by
  unfold okU; rw [List.range_succ, List.all_append]; simp
theorem okU_bad {p : List (List Int)} {u : List Int} {i n : Nat} (hi : i < n) (h1 : has u (i + 2) = true) (h2 : okP (pg p (i + 2)) = false) : okU p u n = false := by
  unfold okU
  rw [List.all_eq_false]
  exact ⟨i, List.mem_range.2 hi, by rw [h1, h2]; decide⟩
def cl (p : List (List Int)) (u : List Int) : Bool := okU p u (p.length - 2) && decide ((dl p u (p.length - 2)).length = 0)
theorem sclean_eq {p : List (List Int)} {u : List Int} (hp : Pgs p) (hu : Used u) {fl : Nat} (hf : 2000 < fl) : F_sclean fl p u = some (cl p u) := by
  have h6 := hp.few
  obtain ⟨o, h1, h2⟩ := lp_inv (body := F_sclean_b0 fl p u) (fun i (_ : Unit) => ((i + 2 : Nat) : Int)) (fun i s => okU p u i = true) (fun o => o = if okU p u (p.length - 2) = true then .inr () else .inl false) (n := p.length - 2) (fl := fl) (s0 := ()) rfl
    (fun i s hi hI => by
      have hx := pg_at (p := p) (i := i + 2) (by omega)
      have hg := pgs_at hp hx
      unfold F_sclean_b0
      rw [ifb_dec, if_pos (by omega), grd_t hu.len, bhas_eq hu (by omega), bnd_s, wrap_i64 (by omega)]
      cases hh : has u (i + 2) with
      | false =>
        left
        refine ⟨(), ?_, by rw [okU_succ, hI, hh]; rfl⟩
        rw [Bool.not_false, ifb_1, bnd_s, ocs_2]
        rfl
      | true =>
        obtain ⟨r, hr, hr2⟩ := sopen_eq (fl := fl) hg.2 (by omega)
        rw [Bool.not_true, ifb_0, ixb_n hx, hr, bnd_s, hr2]
        cases ho : okP (pg p (i + 2)) with
        | false =>
          right
          refine ⟨.inl false, by rw [Bool.not_false, ifb_1, bnd_s, ocs_1], ?_⟩
          rw [okU_bad hi hh ho]; rfl
        | true =>
          left
          refine ⟨(), ?_, by rw [okU_succ, hI, hh, ho]; rfl⟩
          rw [Bool.not_true, ifb_0, bnd_s, ocs_2]
          rfl)
    (fun s hI => ⟨.inr (), by
      unfold F_sclean_b0
      rw [ifb_dec, if_neg (by omega)], by rw [hI]; rfl⟩) (by omega)
  have h1' : lp (F_sclean_b0 fl p u) fl 2 = some o := h1
  unfold F_sclean cl
  rw [h1', bnd_s, h2]
  cases okU p u (p.length - 2) with
  | false => rfl
  | true =>
    rw [if_pos rfl, ocs_2, grd_t hu.len, sdirty_eq hp hu hf, bnd_s, Bool.true_and]
    exact congrArg some (decide_eq_decide.2 (by omega))
end Go.Proofs.Ytokcgacehdgkcaa.Eng.A

/- The scrub: what stands behind loads; the law. -/
namespace Go.Proofs.Ytokcgacehdgkcaa.Eng.A
set_option linter.unusedVariables false
set_option linter.unusedSimpArgs false
open Go.RowKit Go.Proofs.Ytokcgacehdgkcaa.Plain Go.Proofs.Ytokcgacehdgkcaa.Eng Go.Proofs.Ytokcgacehdgkcaa.Eng.Pk Go.Proofs.Ytokcgacehdgkcaa.Eng.Rd

def nc (l : List Int) : Nat := l.countP fun x => decide (x ≠ 0)
theorem nc_snoc (l : List Int) (x : Int) : nc (l ++ [x]) = nc l + (if x ≠ 0 then 1 else 0) := by
  unfold nc; rw [List.countP_append, List.countP_singleton]; simp
theorem nc_le (l : List Int) : nc l ≤ l.length := List.countP_le_length
/-- What stands behind the load of a page. -/
def tl (l : List Int) : List Int := (l.take 508).drop (4 + num l)
def use (p : List (List Int)) (u : List Int) (i : Nat) : Bool := has u (i + 2) && decide ((pg p (i + 2)).length = 512)
def sa (p : List (List Int)) (u : List Int) : Nat → Nat
  | 0 => 0
  | i + 1 => sa p u i + (if use p u i = true then (tl (pg p (i + 2))).length else 0)
def sw (p : List (List Int)) (u : List Int) : Nat → Nat
  | 0 => 0
  | i + 1 => sw p u i + (if use p u i = true then nc (tl (pg p (i + 2))) else 0)
theorem tl_le (l : List Int) : (tl l).length ≤ 504 := by unfold tl; rw [List.length_drop, List.length_take]; omega
theorem sa_le (p : List (List Int)) (u : List Int) : ∀ i, sa p u i ≤ 504 * i
  | 0 => by simp [sa]
  | i + 1 => by have := sa_le p u i; have := tl_le (pg p (i + 2)); rw [sa]; split <;> omega
theorem sw_le (p : List (List Int)) (u : List Int) : ∀ i, sw p u i ≤ 504 * i
  | 0 => by simp [sw]
  | i + 1 => by have := sw_le p u i; have := tl_le (pg p (i + 2)); have := nc_le (tl (pg p (i + 2))); rw [sw]; split <;> omega
theorem sin_eq {l : List Int} {a w fl : Nat} (hl : l.length ≤ 504) (ha : a ≤ 100000) (hw : w ≤ 100000) (hf : 2000 < fl) : lp (F_sslack_b1 l) fl ((a : Int), (w : Int), 0) = some (((a + l.length : Nat) : Int), ((w + nc l : Nat) : Int)) := by
  obtain ⟨o, h1, h2⟩ := lp_inv (body := F_sslack_b1 l) (fun i (s : Nat × Nat) => ((s.1 : Int), (s.2 : Int), (i : Int))) (fun i s => s = (a + i, w + nc (l.take i)) ) (fun o => o = (((a + l.length : Nat) : Int), ((w + nc l : Nat) : Int))) (n := l.length) (fl := fl) (s0 := (a, w)) rfl
    (fun i s hi hI => by
      subst hI
      left
      have hx := List.getElem?_eq_getElem hi
      refine ⟨(a + (i + 1), w + nc (l.take (i + 1))), ?_, rfl⟩
      have hn := nc_le (l.take i)
      rw [List.length_take] at hn
      have hs := nc_snoc (l.take i) l[i]
      rw [List.take_add_one, hx, Option.toList_some, hs]
      unfold F_sslack_b1
      dsimp only
      rw [ifb_dec, if_pos (by omega), ixb_n hx, ifb_dec, wrap_i64 (by omega), wrap_i64 (by omega), wrap_i64 (by omega)]
      by_cases h0 : l[i] = 0
      · rw [if_neg (by simpa using h0), bnd_s, if_neg (by simpa using h0)]; rfl
      · rw [if_pos h0, bnd_s, if_pos h0]; rfl)
    (fun s hI => ⟨_, by
      unfold F_sslack_b1
      dsimp only
      rw [ifb_dec, if_neg (by omega)], by rw [hI, List.take_length]⟩) (by omega)
  have h1' : lp (F_sslack_b1 l) fl ((a : Int), (w : Int), 0) = some o := h1
  rw [h1', h2]
theorem num_at {l : List Int} (hl : l.length = 512) (hb : Bts l) : ∃ x y, l[2]? = some x ∧ l[3]? = some y ∧ (0 ≤ x ∧ x < 256) ∧ (0 ≤ y ∧ y < 256) ∧ (256 : Int) * x + y = ((num l : Nat) : Int) ∧ num l < 65536 := by
  have g2 := List.getElem?_eq_getElem (l := l) (i := 2) (by omega)
  have g3 := List.getElem?_eq_getElem (l := l) (i := 3) (by omega)
  have b2 := hb _ (List.mem_of_getElem? g2)
  have b3 := hb _ (List.mem_of_getElem? g3)
  have d2 : l.getD 2 0 = l[2] := by rw [List.getD_eq_getElem?_getD, g2]; rfl
  have d3 : l.getD 3 0 = l[3] := by rw [List.getD_eq_getElem?_getD, g3]; rfl
  have hn : (256 : Int) * l[2] + l[3] = ((num l : Nat) : Int) := by unfold num; rw [d2, d3]; omega
  exact ⟨_, _, g2, g3, b2, b3, hn, by omega⟩
theorem behind_eq {l : List Int} (hl : l.length = 512) (hb : Bts l) : F_behind l = some (tl l) := by
  obtain ⟨x, y, g2, g3, b2, b3, hn, hn2⟩ := num_at hl hb
  unfold F_behind tl
  rw [ixb_at (i := 2) (by decide) g2, ixb_at (i := 3) (by decide) g3]
  simp only [or_by b2 b3, hn]
  have e : IntKind.i64.wrap ((l.length : Int) - 4) = 508 := by rw [hl]; decide
  rw [e]
  by_cases h5 : 504 < num l
  · rw [if_pos (by omega)]
    rw [show IntKind.i64.wrap (4 + 504) = 508 by decide, grd_t (btwI (by decide) (by decide) (by omega))]
    rw [show ((508 : Int)).toNat = 508 from rfl, List.drop_eq_nil_of_le (by rw [List.length_take]; omega), List.drop_eq_nil_of_le (by rw [List.length_take]; omega)]
  · rw [if_neg (by omega), wrap_i64 (by omega), grd_t (btwI (by omega) (by omega) (by omega))]
    rw [show (4 + (num l : Int)).toNat = 4 + num l by omega]; rfl
theorem sslack_eq {p : List (List Int)} {u : List Int} (hp : Pgs p) (hu : Used u) {fl : Nat} (hf : 2000 < fl) : F_sslack fl p u = some ((sa p u (p.length - 2) : Int), (sw p u (p.length - 2) : Int)) := by
  have h6 := hp.few
  obtain ⟨o, h1, h2⟩ := lp_inv (body := F_sslack_b0 fl p u) (fun i (s : Nat × Nat) => ((s.1 : Int), (s.2 : Int), ((i + 2 : Nat) : Int))) (fun i s => s = (sa p u i, sw p u i)) (fun o => o = ((sa p u (p.length - 2) : Int), (sw p u (p.length - 2) : Int))) (n := p.length - 2) (fl := fl) (s0 := (0, 0)) rfl
    (fun i s hi hI => by
      subst hI
      left
      refine ⟨(sa p u (i + 1), sw p u (i + 1)), ?_, rfl⟩
      have hx := pg_at (p := p) (i := i + 2) (by omega)
      have hg := pgs_at hp hx
      have ha := sa_le p u i
      have hw := sw_le p u i
      have e : ((i + 2 : Nat) : Int) + 1 = ((i + 1 + 2 : Nat) : Int) := by omega
      unfold F_sslack_b0
      dsimp only
      rw [ifb_dec, if_pos (by omega), grd_t hu.len, bhas_eq hu (by omega), bnd_s, grd_i (belo (by omega)), pg_d (by omega), wrap_i64 (by omega), e]
      rw [sa, sw]
      by_cases hh : use p u i = true
      · rw [if_pos hh, if_pos hh]
        unfold use at hh
        rw [Bool.and_eq_true, decide_eq_true_eq] at hh
        rw [hh.1, decide_eq_false (by omega), Bool.not_true, Bool.or_false, ifb_0, ixb_n hx, behind_eq hh.2 hg.2, bnd_s]
        rw [sin_eq (tl_le _) (by omega) (by omega) hf, bnd_s]
      · rw [if_neg hh, if_neg hh]
        have hc : ((!has u (i + 2)) || (decide (((pg p (i + 2)).length : Int) ≠ 512))) = true := by
          unfold use at hh
          cases hu2 : has u (i + 2) with
          | false => rfl
          | true =>
            rw [hu2, Bool.true_and, decide_eq_true_eq] at hh
            rw [decide_eq_true (by omega)]; rfl
        rw [hc, ifb_1, bnd_s]
        rfl)
    (fun s hI => ⟨_, by
      unfold F_sslack_b0
      dsimp only
      rw [ifb_dec, if_neg (by omega)], by rw [hI]⟩) (by omega)
  have h1' : lp (F_sslack_b0 fl p u) fl (0, 0, 2) = some o := h1
  unfold F_sslack
  rw [h1', bnd_s, h2]
end Go.Proofs.Ytokcgacehdgkcaa.Eng.A

/- The scrub: the law ScrubTells. -/
namespace Go.Proofs.Ytokcgacehdgkcaa.Eng.A
set_option linter.unusedVariables false
set_option linter.unusedSimpArgs false
open Go.RowKit Go.Proofs.Ytokcgacehdgkcaa.Plain Go.Proofs.Ytokcgacehdgkcaa.Eng Go.Proofs.Ytokcgacehdgkcaa.Eng.Pk Go.Proofs.Ytokcgacehdgkcaa.Eng.Rd

instance (l : List Int) : Decidable (Bts l) := inferInstanceAs (Decidable (∀ x ∈ l, _))
def P0 : List (List Int) := [[], [], List.replicate 512 0, [1]]
def U0 : List Int := [0, 0, 0, 0, 0, 0, 0, 0, 0, 0, 0, 0, 0, 0, 0, 0]
def U4 : List Int := [15, 0, 0, 0, 0, 0, 0, 0, 0, 0, 0, 0, 0, 0, 0, 0]
theorem P0_ok : Pgs P0 := ⟨by decide, by decide +kernel, by decide +kernel⟩
theorem P3_ok : Pgs (P0.take 3) := ⟨by decide, by decide +kernel, by decide +kernel⟩
theorem U0_ok : Used U0 := ⟨rfl, by decide⟩
theorem U4_ok : Used U4 := ⟨rfl, by decide⟩
set_option maxRecDepth 100000 in
theorem below4 {fl : Nat} (hf : 100 < fl) : F_bbelow fl 4 = some U4 := by
  have h := lp_seq (body := F_bbelow_b0 4) (o := U4) (fl := fl) (fun i => ((i : Int), if i = 0 then U0 else U4)) (n := 16) (fun i hi => by
    have : ∀ i : Nat, i < 16 → F_bbelow_b0 4 ((i : Int), if i = 0 then U0 else U4) = some (.inl (((i + 1 : Nat) : Int), if i + 1 = 0 then U0 else U4)) := by decide +kernel
    exact this i hi) (by decide +kernel) (by omega)
  have h' : lp (F_bbelow_b0 4) fl (0, (List.replicate 16 (0 : Int))) = some U4 := h
  unfold F_bbelow
  rw [h', bnd_s]; rfl
theorem d0 : dl P0 U0 (P0.length - 2) = [3] := by decide +kernel
theorem c0 : cl P0 U0 = false := by decide +kernel
theorem c3 : cl (P0.take 3) U0 = true := by decide +kernel
theorem c4 : cl P0 U4 = false := by unfold cl; rw [okU_bad (i := 1) (by decide) (by decide) (by decide)]; rfl
theorem a4 : sa P0 U4 (P0.length - 2) = 504 := by decide +kernel
theorem w4 : sw P0 U4 (P0.length - 2) = 0 := by decide +kernel
theorem sure22_eq {fl : Nat} (hf : 2000 < fl) : F_sure22 fl = some true := by
  unfold F_sure22
  rw [show ([[], [], (List.replicate 512 (0 : Int)), ([1] : (List Int))] : (List (List Int))) = P0 from rfl, show (List.replicate 16 (0 : Int)) = U0 from rfl]
  rw [show ((3 : Int)).toNat = 3 from rfl]
  rw [sdirty_eq P0_ok U0_ok hf, bnd_s, d0, below4 (by omega), bnd_s, sslack_eq P0_ok U4_ok hf, bnd_s, a4, w4, sclean_eq P0_ok U0_ok hf, sclean_eq P3_ok U0_ok hf, c0, c3]
  have e4 := sclean_eq P0_ok U4_ok hf
  rw [c4] at e4
  show bnd (F_sclean fl P0 U4) (fun x_7 => some ((((true && !x_7) && decide (((504 : Nat) : Int) = 504)) && decide (((0 : Nat) : Int) = 0)))) = _
  rw [e4]; rfl
end Go.Proofs.Ytokcgacehdgkcaa.Eng.A

/- The scrub: sealed pages. -/
namespace Go.Proofs.Ytokcgacehdgkcaa.Eng.A
set_option linter.unusedVariables false
set_option linter.unusedSimpArgs false
open Go.RowKit Go.Proofs.Ytokcgacehdgkcaa.Plain Go.Proofs.Ytokcgacehdgkcaa.Eng Go.Proofs.Ytokcgacehdgkcaa.Eng.Pk Go.Proofs.Ytokcgacehdgkcaa.Eng.Rd

def hd4 (l : List Int) : List Int := [1, 0, ((l.length / 256 : Nat) : Int), ((l.length % 256 : Nat) : Int)]
def bod (l : List Int) : List Int := hd4 l ++ l ++ List.replicate (504 - l.length) 0
def sum4 (c : Nat) : List Int := [((c / 16777216 : Nat) : Int), ((c / 65536 % 256 : Nat) : Int), ((c / 256 % 256 : Nat) : Int), ((c % 256 : Nat) : Int)]
def sealP (l : List Int) : List Int := bod l ++ sum4 (crcN (bod l))
theorem bod_len {l : List Int} (h : l.length ≤ 504) : (bod l).length = 508 := by unfold bod hd4; simp; omega
theorem sealP_len {l : List Int} (h : l.length ≤ 504) : (sealP l).length = 512 := by unfold sealP sum4; rw [List.length_append, bod_len h]; rfl
theorem bod_bts {l : List Int} (h : l.length ≤ 504) (hb : Bts l) : Bts (bod l) := fun x hx => by
  unfold bod hd4 at hx
  rw [List.mem_append, List.mem_append] at hx
  rcases hx with (hx | hx) | hx
  · simp only [List.mem_cons, List.not_mem_nil, or_false] at hx
    rcases hx with rfl | rfl | rfl | rfl <;> omega
  · exact hb x hx
  · rw [List.eq_of_mem_replicate hx]; decide
theorem sum4_bts {c : Nat} (h : c < 4294967296) : Bts (sum4 c) := fun x hx => by
  unfold sum4 at hx
  simp only [List.mem_cons, List.not_mem_nil, or_false] at hx
  rcases hx with rfl | rfl | rfl | rfl <;> omega
theorem sealP_bts {l : List Int} (h : l.length ≤ 504) (hb : Bts l) : Bts (sealP l) := fun x hx => by
  unfold sealP at hx
  exact (List.mem_append.1 hx).elim (bod_bts h hb x) (sum4_bts (crcN_lt _) x)
theorem rseal_eq {l : List Int} {fl : Nat} (h : l.length ≤ 504) (hb : Bts l) (hf : 2000 < fl) : F_rseal fl 1 l = some (sealP l, 0) := by
  have e1 : ((l.length : Int)).tdiv 256 = ((l.length / 256 : Nat) : Int) := by rw [Int.tdiv_eq_ediv_of_nonneg (by omega)]; omega
  have e2 : ((l.length : Int)).tmod 256 = ((l.length % 256 : Nat) : Int) := by rw [Int.tmod_eq_emod_of_nonneg (by omega)]; omega
  have hl := lp_seq (body := F_rseal_b0) (o := bod l) (fl := fl) (fun i => hd4 l ++ l ++ List.replicate i 0) (n := 504 - l.length) (fun i hi => by
    have hlen : (hd4 l ++ l ++ List.replicate i (0 : Int)).length = 4 + l.length + i := by unfold hd4; simp; omega
    unfold F_rseal_b0
    rw [hlen, decide_eq_true (by omega), ifb_1, grd_t ⟨by simp; omega, by simp; omega⟩]
    rw [List.append_assoc, ← List.replicate_succ'])
    (by
      have hlen : (hd4 l ++ l ++ List.replicate (504 - l.length) (0 : Int)).length = 508 := bod_len h
      unfold F_rseal_b0
      rw [hlen, decide_eq_false (by omega), ifb_0]; rfl) (by omega)
  have hc := crcN_lt (bod l)
  unfold F_rseal
  rw [decide_eq_false (by decide : ¬ (1 : Int) < 1), decide_eq_false (by decide : ¬ (5 : Int) < 1), decide_eq_false (by omega : ¬ 504 < (l.length : Int)), e1, e2, wrap_i64 (by omega), wrap_u8 (by omega), wrap_u8 (by omega)]
  show ifb false _ _ = _
  rw [ifb_0, ifb_0, grd_t ⟨by simp; omega, by simp; omega⟩, show ([1, 0, ((l.length / 256 : Nat) : Int), ((l.length % 256 : Nat) : Int)] : List Int) ++ l = hd4 l ++ l ++ List.replicate 0 0 by simp [hd4], hl, bnd_s, rmore_eq (bod_bts h hb) (by rw [bod_len h]; decide) (by rw [bod_len h]; omega) (by omega), bnd_s]
  generalize hcc : crcN (bod l) = c at hc
  have f1 : ((c : Int)).tdiv 16777216 = ((c / 16777216 : Nat) : Int) := by rw [Int.tdiv_eq_ediv_of_nonneg (by omega)]; omega
  have f2 : ((c : Int)).tdiv 65536 = ((c / 65536 : Nat) : Int) := by rw [Int.tdiv_eq_ediv_of_nonneg (by omega)]; omega
  have f3 : ((c : Int)).tdiv 256 = ((c / 256 : Nat) : Int) := by rw [Int.tdiv_eq_ediv_of_nonneg (by omega)]; omega
  have f4 : ((c : Int)).tmod 256 = ((c % 256 : Nat) : Int) := by rw [Int.tmod_eq_emod_of_nonneg (by omega)]; omega
  have f5 : (((c / 65536 : Nat) : Int)).tmod 256 = ((c / 65536 % 256 : Nat) : Int) := by rw [Int.tmod_eq_emod_of_nonneg (by omega)]; omega
  have f6 : (((c / 256 : Nat) : Int)).tmod 256 = ((c / 256 % 256 : Nat) : Int) := by rw [Int.tmod_eq_emod_of_nonneg (by omega)]; omega
  rw [f1, f2, f3, f4, w32 (by omega), w32 (by omega), w32 (by omega), f5, f6, wrap_u8 (by omega), wrap_u8 (by omega), wrap_u8 (by omega), wrap_u8 (by omega), grd_t ⟨by rw [bod_len h]; simp, by rw [bod_len h]; simp⟩]
  unfold sealP
  rw [hcc]; rfl
theorem seal_take {l : List Int} (h : l.length ≤ 504) : (sealP l).take 508 = bod l := by unfold sealP; rw [← bod_len h, List.take_left]
theorem seal_drop {l : List Int} (h : l.length ≤ 504) : (sealP l).drop 508 = sum4 (crcN (bod l)) := by unfold sealP; rw [← bod_len h, List.drop_left]
theorem seal_num {l : List Int} (h : l.length ≤ 504) : num (sealP l) = l.length := by
  unfold num sealP bod hd4
  simp [List.getD_eq_getElem?_getD]
  omega
theorem seal_tl {l : List Int} (h : l.length ≤ 504) : tl (sealP l) = List.replicate (504 - l.length) 0 := by
  unfold tl
  rw [seal_take h, seal_num h]
  unfold bod
  rw [List.drop_left' (by unfold hd4; simp; omega)]
theorem nz_rep (n : Nat) : nz (List.replicate n 0) = false := by
  unfold nz
  rw [List.any_eq_false]
  intro x hx
  rw [List.eq_of_mem_replicate hx]; decide
theorem nc_rep (n : Nat) : nc (List.replicate n 0) = 0 := by
  unfold nc
  rw [List.countP_eq_zero]
  intro x hx
  rw [List.eq_of_mem_replicate hx]; decide
theorem seal_ok {l : List Int} (h : l.length ≤ 504) (hb : Bts l) : okP (sealP l) = true := by
  have hc := crcN_lt (bod l)
  have h1 : okS (sealP l) = true := by
    unfold okS
    rw [sealP_len h, show 512 - 4 = 508 from rfl, seal_drop h, seal_take h]
    unfold sum4
    show (decide (4 ≤ 512) && decide (get4 _ _ _ _ = _)) = true
    rw [Bool.and_eq_true]
    exact ⟨rfl, decide_eq_true (by unfold get4; omega)⟩
  unfold okP
  have ht := seal_tl h
  unfold tl at ht
  rw [h1, ht, nz_rep, sealP_len h, seal_num h, decide_eq_true rfl, Bool.not_false, Bool.and_true, Bool.true_and, Bool.true_and]
  refine decide_eq_true ⟨?_, ?_, ?_, h⟩
  · show 1 ≤ (sealP l).getD 0 0; unfold sealP bod hd4; simp
  · show (sealP l).getD 0 0 ≤ 5; unfold sealP bod hd4; simp
  · unfold sealP bod hd4; simp
end Go.Proofs.Ytokcgacehdgkcaa.Eng.A

/- The scrub: the law ScrubClean. -/
namespace Go.Proofs.Ytokcgacehdgkcaa.Eng.A
set_option linter.unusedVariables false
set_option linter.unusedSimpArgs false
open Go.RowKit Go.Proofs.Ytokcgacehdgkcaa.Plain Go.Proofs.Ytokcgacehdgkcaa.Eng Go.Proofs.Ytokcgacehdgkcaa.Eng.Pk Go.Proofs.Ytokcgacehdgkcaa.Eng.Rd

def Z512 : List Int := List.replicate 512 0
structure GoodP (u : List Int) (k : Nat) (x : List Int) : Prop where
  len : x.length = 512
  bts : Bts x
  used : has u k = true → okP x = true ∧ nc (tl x) = 0
  free : has u k = false → x = Z512
theorem z512_bts : Bts Z512 := fun x hx => by rw [List.eq_of_mem_replicate hx]; decide
theorem good_seal {u l : List Int} {k : Nat} (hk : has u k = true) (h : l.length ≤ 504) (hb : Bts l) : GoodP u k (sealP l) :=
  ⟨sealP_len h, sealP_bts h hb, fun _ => ⟨seal_ok h hb, (by rw [seal_tl h, nc_rep])⟩, (fun q => by rw [hk] at q; cases q)⟩
theorem good_z {u : List Int} {k : Nat} (hk : has u k = false) : GoodP u k Z512 :=
  ⟨List.length_replicate, z512_bts, (fun q => by rw [hk] at q; cases q), fun _ => rfl⟩
structure Made (u : List Int) (m : Nat) (w : List (List Int)) : Prop where
  len : w.length = m + 2
  p0 : w[0]? = some []
  p1 : w[1]? = some []
  pgm : ∀ j, j < m → ∃ x, w[j + 2]? = some x ∧ GoodP u (j + 2) x
theorem Made.at {u : List Int} {m : Nat} {w : List (List Int)} (h : Made u m w) {j : Nat} (hj : j < m) : GoodP u (j + 2) (pg w (j + 2)) := by
  obtain ⟨x, h1, h2⟩ := h.pgm j hj
  have : pg w (j + 2) = x := by unfold pg; rw [List.getD_eq_getElem?_getD, h1]; rfl
  rw [this]; exact h2
theorem Made.pgs {u : List Int} {m : Nat} {w : List (List Int)} (h : Made u m w) (hm : m ≤ 40) : Pgs w := by
  have key : ∀ l ∈ w, l.length ≤ 600 ∧ Bts l := fun l hl => by
    obtain ⟨i, hi⟩ := List.getElem?_of_mem hl
    have hlt := (List.getElem?_eq_some_iff.1 hi).1
    have e : Bts ([] : List Int) := fun x hx => by cases hx
    rcases i with _ | _ | i
    · rw [h.p0] at hi; cases hi; exact ⟨by decide, e⟩
    · rw [h.p1] at hi; cases hi; exact ⟨by decide, e⟩
    · obtain ⟨x, h1, h2⟩ := h.pgm i (by rw [h.len] at hlt; omega)
      rw [h1] at hi; cases hi
      exact ⟨by rw [h2.len]; decide, h2.bts⟩
  exact ⟨by rw [h.len]; omega, fun l hl => (key l hl).1, fun l hl => (key l hl).2⟩
theorem made_lp {p0 : List (List Int)} {u : List Int} {fl : Nat} (hu : Used u) (hb : ∀ l ∈ p0, Bts l) (hf : 2000 < fl) : ∃ w, lp (F_sCleanL_b0 fl p0 u) fl (([[], []] : (List (List Int))), 0) = some (.inr w) ∧ Made u (min p0.length 40) w := by
  obtain ⟨o, e1, w, e2, e3⟩ := lp_inv (body := F_sCleanL_b0 fl p0 u) (fun i (v : List (List Int)) => (v, (i : Int))) (fun i v => Made u i v) (fun o => ∃ w, o = .inr w ∧ Made u (min p0.length 40) w) (n := min p0.length 40) (fl := fl) (s0 := [[], []])
    ⟨rfl, rfl, rfl, fun j hj => absurd hj (Nat.not_lt_zero _)⟩
    (fun i v hi hI => by
      have hl : i < p0.length := by omega
      have hx := List.getElem?_eq_getElem hl
      have hbx := hb _ (List.getElem_mem hl)
      generalize p0[i] = x at hx hbx
      have hvl := hI.len
      have hgo : ∀ z, GoodP u (i + 2) z → Made u (i + 1) (v ++ [z]) := fun z hz => by
        refine ⟨by rw [List.length_append, hvl]; rfl, by rw [List.getElem?_append_left (by omega)]; exact hI.p0, by rw [List.getElem?_append_left (by omega)]; exact hI.p1, fun j hj => ?_⟩
        by_cases hji : j = i
        · subst hji
          exact ⟨z, by rw [List.getElem?_append_right (by omega), hvl, Nat.sub_self]; rfl, hz⟩
        · obtain ⟨y, h1, h2⟩ := hI.pgm j (by omega)
          exact ⟨y, by rw [List.getElem?_append_left (by omega)]; exact h1, h2⟩
      have hF : ∀ z, grd (Fits 24 (v.length + ([z] : (List (List Int))).length)) (some (.inl ((v ++ ([z] : (List (List Int)))), IntKind.i64.wrap ((i : Int) + 1))) : Option (((List (List Int)) × Int) ⊕ ((Bool) ⊕ ((List (List Int)))))) = some (.inl (v ++ [z], ((i + 1 : Nat) : Int))) := fun z => by
        rw [grd_t ⟨by simp; omega, by simp; omega⟩, nat_wrap (by omega)]
      have key : ∃ z, F_sCleanL_b0 fl p0 u (v, (i : Int)) = some (.inl (v ++ [z], ((i + 1 : Nat) : Int))) ∧ GoodP u (i + 2) z := by
        unfold F_sCleanL_b0
        dsimp only
        rw [decide_eq_true (by omega : (i : Int) < (p0.length : Int)), decide_eq_true (by omega : (i : Int) < 40), Bool.and_self, ifb_1, grd_t hu.1, show IntKind.i64.wrap ((i : Int) + 2) = ((i + 2 : Nat) : Int) by rw [wrap_i64 (by omega)]; omega, bhas_eq hu (by omega), bnd_s]
        cases hh : has u (i + 2) with
        | true =>
          have hmin : (if 504 < (x.length : Int) then 504 else (x.length : Int)) = ((min x.length 504 : Nat) : Int) := by split <;> omega
          rw [ifb_1, ixb_n hx, ixb_n hx, hmin, grd_t ⟨by omega, by rw [Int.toNat_natCast]; omega⟩, Int.toNat_natCast]
          have hlt : (x.take (min x.length 504)).length ≤ 504 := by rw [List.length_take]; omega
          rw [rseal_eq hlt (bts_take hbx _) hf, bnd_s]
          refine ⟨sealP (x.take (min x.length 504)), ?_, good_seal hh hlt (bts_take hbx _)⟩
          show grd _ _ = _
          exact hF _
        | false =>
          rw [ifb_0, bnd_s]
          refine ⟨Z512, ?_, good_z hh⟩
          show grd _ _ = _
          exact hF _
      obtain ⟨z, h1, h2⟩ := key
      exact .inl ⟨v ++ [z], h1, hgo z h2⟩)
    (fun v hI => by
      refine ⟨.inr v, ?_, v, rfl, hI⟩
      unfold F_sCleanL_b0
      dsimp only
      have : ((decide (((min p0.length 40 : Nat) : Int) < (p0.length : Int))) && (decide (((min p0.length 40 : Nat) : Int) < 40))) = false := by
        rw [Bool.and_eq_false_iff, decide_eq_false_iff_not, decide_eq_false_iff_not]; omega
      rw [this, ifb_0]) (by omega)
  subst e2
  exact ⟨w, e1, e3⟩
theorem made_sw {u : List Int} {m : Nat} {w : List (List Int)} (h : Made u m w) : ∀ i, i ≤ m → sw w u i = 0
  | 0, _ => rfl
  | i + 1, hi => by
    rw [sw, made_sw h i (by omega)]
    split
    · rename_i hu
      unfold use at hu
      rw [Bool.and_eq_true] at hu
      rw [((h.at (by omega)).used hu.1).2]
    · rfl
theorem made_okU {u : List Int} {m : Nat} {w : List (List Int)} (h : Made u m w) : okU w u m = true := by
  unfold okU
  rw [List.all_eq_true]
  intro j hj
  rw [List.mem_range] at hj
  cases hh : has u (j + 2) with
  | true => rw [((h.at hj).used hh).1]; rfl
  | false => rfl
theorem made_dl {u : List Int} {m : Nat} {w : List (List Int)} (h : Made u m w) : dl w u m = [] := by
  unfold dl
  rw [List.map_eq_nil_iff, List.filter_eq_nil_iff]
  intro j hj
  rw [List.mem_range] at hj
  cases hh : has u (j + 2) with
  | true => simp
  | false =>
    rw [(h.at hj).free hh]
    unfold Z512
    rw [nz_rep]; simp
theorem filt_one {m a : Nat} {p : Nat → Bool} (ha : a < m) (hp : ∀ j, j < m → p j = decide (j = a)) : (List.range m).filter p = [a] := by
  induction m with
  | zero => omega
  | succ m ih =>
    rw [List.range_succ, List.filter_append]
    by_cases h : a = m
    · subst h
      have : (List.range a).filter p = [] := List.filter_eq_nil_iff.2 fun j hj => by
        rw [List.mem_range] at hj
        rw [hp j (by omega)]; simp; omega
      rw [this, List.filter_cons, hp a (by omega)]; simp
    · rw [ih (by omega) fun j hj => hp j (by omega), List.filter_cons, hp m (by omega)]
      simp [Ne.symm h]
theorem set_pg {w : List (List Int)} {n j : Nat} {z : List Int} (hn : n < w.length) : pg (w.set n z) j = if j = n then z else pg w j := by
  unfold pg
  rw [List.getD_eq_getElem?_getD, List.getD_eq_getElem?_getD]
  by_cases h : j = n
  · subst h; rw [if_pos rfl, List.getElem?_set_self hn]; rfl
  · rw [if_neg h, List.getElem?_set_ne (Ne.symm h)]
theorem nz_set {b : Int} {k : Nat} (hk : k < 512) (hb : b ≠ 0) : nz (Z512.set k b) = true := by
  unfold nz
  rw [List.any_eq_true]
  exact ⟨b, List.mem_of_getElem? (List.getElem?_set_self (by rw [show Z512.length = 512 from List.length_replicate]; exact hk)), by simp [hb]⟩
theorem nx_in {x : Int} {m : Nat} (hx : 0 ≤ x ∧ x < 256) (hm : m ≤ 40) : ∃ n0 : Nat, nxC x ((m + 2 : Nat) : Int) = (n0 : Int) ∧ 2 ≤ n0 ∧ n0 < 1000 := by
  unfold nxC
  rw [wrap_i64 (n := x) (by omega), show (((m + 2 : Nat) : Int) - 2) = (m : Int) by omega, wrap_i64 (n := (m : Int)) (by omega)]
  have hM : 0 < (if (m : Int) > 1 then (m : Int) else 1) ∧ (if (m : Int) > 1 then (m : Int) else 1) ≤ 40 := by split <;> omega
  generalize (if (m : Int) > 1 then (m : Int) else 1) = M at hM
  have h1 := Int.tmod_nonneg M hx.1
  have h2 := Int.tmod_lt_of_pos x hM.1
  rw [wrap_i64 (by omega)]
  exact ⟨(2 + x.tmod M).toNat, by omega, by omega, by omega⟩
theorem sCleanL_eq {p0 : List (List Int)} {u p2 : List Int} {fl : Nat} (hu : Used u) (hb : ∀ l ∈ p0, Bts l) (h2 : p2.length = 2) (hb2 : Bts p2) (hf : 2000 < fl) : F_sCleanL fl p0 u p2 = some true := by
  obtain ⟨w, e1, hw⟩ := made_lp (fl := fl) hu hb hf
  obtain ⟨at_, by_, rfl⟩ : ∃ a b, p2 = [a, b] := by
    match p2, h2 with
    | [a, b], _ => exact ⟨a, b, rfl⟩
  have ha := hb2 at_ (by simp)
  have hby := hb2 by_ (by simp)
  have hm : min p0.length 40 ≤ 40 := Nat.min_le_right _ _
  have hp := hw.pgs hm
  obtain ⟨n0, n1, n2, n3⟩ := nx_in (x := at_) ha hm
  have hs := sure22_eq hf
  have hlen := hw.len
  have hl2 : w.length - 2 = min p0.length 40 := by omega
  unfold F_sCleanL
  rw [grd_t ⟨by decide, by decide⟩, show (((0 : Int).toNat : Nat) : Int) = ((0 : Nat) : Int) from rfl, ixb_n (x := at_) rfl, grd_t ⟨by decide, by decide⟩, show (((1 : Int).toNat : Nat) : Int) = ((1 : Nat) : Int) from rfl, ixb_n (x := by_) rfl, e1, bnd_s]
  show grd _ _ = _
  rw [grd_t hu.1, sslack_eq hp hu hf, bnd_s, grd_t hu.1, sclean_eq hp hu hf, bnd_s, hl2, made_sw hw _ (Nat.le_refl _)]
  have hcl : cl w u = true := by
    unfold cl
    rw [hl2, made_okU hw, made_dl hw]; rfl
  rw [hcl, grd_t (fun _ => hu.1), sdirty_eq hp hu hf, hl2, made_dl hw, show ((!true) == false) = true from rfl, gif_1, bnd_s]
  show ifb false _ _ = _
  rw [ifb_0]
  have hM : (if (IntKind.i64.wrap ((w.length : Int) - 2)) > 1 then IntKind.i64.wrap ((w.length : Int) - 2) else 1) ≠ 0 := by
    rw [wrap_i64 (by omega)]; split <;> omega
  have hnx : (IntKind.i64.wrap (2 + ((IntKind.i64.wrap at_).tmod (if (IntKind.i64.wrap ((w.length : Int) - 2)) > 1 then IntKind.i64.wrap ((w.length : Int) - 2) else 1)))) = (n0 : Int) := by rw [hlen]; exact n1
  rw [grd_t hM, grd_t (fun _ => hu.1), hnx, bhas_eq hu (by omega), gif_s, bnd_s]
  by_cases hc : (w.length : Int) ≤ (n0 : Int)
  · rw [decide_eq_true hc, hs]; rfl
  rw [decide_eq_false hc]
  cases hh : has u n0 with
  | true => rw [hs]; rfl
  | false =>
  by_cases hb0 : by_ = 0
  · rw [decide_eq_true hb0, hs]; rfl
  rw [decide_eq_false hb0]
  show ifb false _ _ = _
  have hn : n0 < w.length := by omega
  have hz : pg w n0 = Z512 := by
    have := (hw.at (j := n0 - 2) (by omega)).free
    rw [show n0 - 2 + 2 = n0 by omega] at this
    exact this hh
  have hwn : w[n0]? = some Z512 := by rw [pg_at hn, hz]
  have hk : by_.toNat < 512 := by omega
  have hbt : by_ = ((by_.toNat : Nat) : Int) := by omega
  have hzk : Z512[by_.toNat]? = some 0 := by unfold Z512; rw [List.getElem?_replicate, if_pos hk]
  rw [ifb_0, ixb_n hwn, wrap_i64 (n := by_) (by omega)]
  have hix : ∀ {R : Type} (k : Int → Option R), ixb Z512 by_ k = k 0 := fun k => by
    have := ixb_n hzk k
    rw [← hbt] at this; exact this
  rw [hix, grd_t hu.1, Int.toNat_natCast]
  have hp' : Pgs (w.set n0 (Z512.set by_.toNat by_)) := by
    have hz' : (Z512.set by_.toNat by_).length ≤ 600 ∧ Bts (Z512.set by_.toNat by_) := ⟨by rw [List.length_set, show Z512.length = 512 from List.length_replicate]; omega, fun x hx => by
      rcases List.mem_or_eq_of_mem_set hx with hx | rfl
      · exact z512_bts x hx
      · exact hby⟩
    refine ⟨by rw [List.length_set]; exact hp.few, fun l hl => ?_, fun l hl => ?_⟩
    · rcases List.mem_or_eq_of_mem_set hl with hl | rfl
      · exact hp.short l hl
      · exact hz'.1
    · rcases List.mem_or_eq_of_mem_set hl with hl | rfl
      · exact hp.bytes l hl
      · exact hz'.2
  have hdl : dl (w.set n0 (Z512.set by_.toNat by_)) u (min p0.length 40) = [(n0 : Int)] := by
    unfold dl
    rw [filt_one (a := n0 - 2) (by omega) (fun j hj => ?_)]
    · show [((n0 - 2 + 2 : Nat) : Int)] = _
      rw [show n0 - 2 + 2 = n0 by omega]
    · rw [set_pg hn]
      by_cases hjn : j = n0 - 2
      · subst hjn
        rw [show n0 - 2 + 2 = n0 by omega, if_pos rfl, hh, nz_set hk hb0, decide_eq_true rfl]; rfl
      · rw [if_neg (by omega), decide_eq_false hjn]
        cases hj2 : has u (j + 2) with
        | true => rfl
        | false =>
          rw [(hw.at hj).free hj2]
          unfold Z512
          rw [nz_rep]; rfl
  have hl3 : (w.set n0 (Z512.set by_.toNat by_)).length - 2 = min p0.length 40 := by rw [List.length_set]; exact hl2
  have hcl' : cl (w.set n0 (Z512.set by_.toNat by_)) u = false := by
    unfold cl
    rw [hl3, hdl, Bool.and_eq_false_iff]; exact .inr rfl
  rw [sdirty_eq hp' hu hf, bnd_s, hl3, hdl, grd_t (fun _ => ⟨Int.le_refl _, Nat.zero_lt_one⟩), grd_t (fun _ => hu.1), sclean_eq hp' hu hf, hcl', hs]
  show bnd (gif ((true && decide ((n0 : Int) = (n0 : Int))) == true) (some false)) _ = _
  have hg : ([(n0 : Int)] : List Int).getD (Int.toNat 0) default = (n0 : Int) := rfl
  rw [decide_eq_true (rfl : (n0 : Int) = (n0 : Int)), hg, decide_eq_true (rfl : (n0 : Int) = (n0 : Int))]; rfl
/-- What the law answers, the program answers. -/
theorem c_sCleanW {p0 : List (List Int)} {u p2 : List Int} {fl : Nat} (hu : Used u) (hb : ∀ l ∈ p0, Bts l) (h2 : p2.length = 2) (hb2 : Bts p2) (hf : 2000 < fl) (h0 : F_sCleanL fl p0 u p2 = some true) : Pure Go.Proofs.Try.prog 3 [sl (kR (kI .u8)) none none p0, agg (flat (kI .u64) u), agg (flat (kI .u8) p2)] (pl (.bool true)) := by
  obtain ⟨w, e1, hw⟩ := made_lp (fl := fl) hu hb hf
  have hx0 : ∃ xx, p2[0]? = some xx := ⟨_, List.getElem?_eq_getElem (by omega)⟩
  obtain ⟨xx, hx0⟩ := hx0
  have ha := hb2 xx (List.mem_of_getElem? hx0)
  obtain ⟨n0, n1, n2, n3⟩ := nx_in (x := xx) ha (Nat.min_le_right p0.length 40)
  rw [← hw.len] at n1
  by_cases hc : (w.length : Int) ≤ nxC xx w.length ∨ F_bhas u (nxC xx w.length) = some true
  · refine c_sCleanA (fun w' x' hx' hw' => ?_) h0
    rw [e1] at hw'
    have e5 : w' = w := by
      have := Option.some.inj hw'
      injection this with h; exact h.symm
    have e6 : x' = xx := Option.some.inj (hx'.symm.trans hx0)
    subst e5; subst e6
    exact hc
  · rw [n1] at hc
    have hb := bhas_eq hu (i := n0) (by omega)
    refine c_sCleanB hx0 e1 n1 (by omega) n2 ?_ h0
    cases hh : has u n0 with
    | true => exact absurd (.inr (by rw [hb, hh])) hc
    | false => rw [hb, hh]
end Go.Proofs.Ytokcgacehdgkcaa.Eng.A
