/- The plain laws of the scrub: bits, sums, loops. -/
import Derived.Test.YtmnhfpcbfdgbcaaEA3
import Derived.Test.YtmnhfpcbfdgbcaaEngX4
import Derived.Laws.Bits64
import Derived.Laws.Bits64b
namespace Go.Proofs.Ytmnhfpcbfdgbcaa.Eng.A
set_option linter.unusedVariables false
set_option linter.unusedSimpArgs false
open Go.RowKit Go.Proofs.Ytmnhfpcbfdgbcaa.Plain Go.Proofs.Ytmnhfpcbfdgbcaa.Eng Go.Proofs.Ytmnhfpcbfdgbcaa.Eng.Pk Go.Proofs.Ytmnhfpcbfdgbcaa.Eng.Rd

/-- A loop that keeps an invariant, and may stop early. -/
theorem lp_inv {T O S : Type} {body : T → Option (T ⊕ O)} (mk : Nat → S → T) (I : Nat → S → Prop) (Q : O → Prop) {n fl : Nat} {s0 : S} (h0 : I 0 s0)
    (hs : ∀ i s, i < n → I i s → (∃ s', body (mk i s) = some (.inl (mk (i + 1) s')) ∧ I (i + 1) s') ∨ (∃ o, body (mk i s) = some (.inr o) ∧ Q o))
    (he : ∀ s, I n s → ∃ o, body (mk n s) = some (.inr o) ∧ Q o) (hf : n < fl) : ∃ o, lp body fl (mk 0 s0) = some o ∧ Q o := by
  have key : ∀ k i s fl, i + k = n → k < fl → I i s → ∃ o, lp body fl (mk i s) = some o ∧ Q o := by
    intro k
    induction k with
    | zero =>
      intro i s fl hi hf hI
      obtain ⟨m, rfl⟩ : ∃ m, fl = m + 1 := ⟨fl - 1, by omega⟩
      obtain rfl : i = n := by omega
      obtain ⟨o, h1, h2⟩ := he s hI
      exact ⟨o, by simp [lp, h1], h2⟩
    | succ k ih =>
      intro i s fl hi hf hI
      obtain ⟨m, rfl⟩ : ∃ m, fl = m + 1 := ⟨fl - 1, by omega⟩
      rcases hs i s (by omega) hI with ⟨s', h1, h2⟩ | ⟨o, h1, h2⟩
      · obtain ⟨o, h3, h4⟩ := ih (i + 1) s' m (by omega) (by omega) h2
        exact ⟨o, by simp only [lp, h1, bnd_s, ocs_1]; exact h3, h4⟩
      · exact ⟨o, by simp [lp, h1], h2⟩
  exact key n 0 s0 fl (by omega) hf h0
theorem belo {i n : Nat} (h : i < n) : Below (i : Int) n := ⟨by omega, by simpa using h⟩

/- BITS -/
theorem w32 {n : Nat} (h : n < 4294967296) : IntKind.u32.wrap (n : Int) = (n : Int) := by
  simp only [IntKind.wrap, IntKind.bits, IntKind.signed]; simp; omega
theorem xor32 {a b : Nat} (ha : a < 4294967296) (hb : b < 4294967296) : bits BinOp.xor .u32 (a : Int) (b : Int) = ((a ^^^ b : Nat) : Int) := by
  show IntKind.u32.wrap (BitVec.toNat (BitVec.ofInt 32 (a : Int) ^^^ BitVec.ofInt 32 (b : Int))) = _
  rw [BitVec.toNat_xor, BitVec.ofInt_natCast, BitVec.ofInt_natCast, BitVec.toNat_ofNat, BitVec.toNat_ofNat, Nat.mod_eq_of_lt (by simpa using ha), Nat.mod_eq_of_lt (by simpa using hb)]
  exact w32 (Nat.xor_lt_two_pow (n := 32) ha hb)
theorem and32 {a b : Nat} (ha : a < 4294967296) (hb : b < 4294967296) : bits BinOp.and .u32 (a : Int) (b : Int) = ((a &&& b : Nat) : Int) := by
  show IntKind.u32.wrap (BitVec.toNat (BitVec.ofInt 32 (a : Int) &&& BitVec.ofInt 32 (b : Int))) = _
  rw [BitVec.toNat_and, BitVec.ofInt_natCast, BitVec.ofInt_natCast, BitVec.toNat_ofNat, BitVec.toNat_ofNat, Nat.mod_eq_of_lt (by simpa using ha), Nat.mod_eq_of_lt (by simpa using hb)]
  exact w32 (Nat.lt_of_le_of_lt Nat.and_le_left ha)
theorem or63 {a b : Nat} (ha : a < 65536) (hb : b < 65536) : bits BinOp.or .i64 (a : Int) (b : Int) = ((a ||| b : Nat) : Int) := by
  show IntKind.i64.wrap (BitVec.toNat (BitVec.ofInt 64 (a : Int) ||| BitVec.ofInt 64 (b : Int))) = _
  rw [BitVec.toNat_or, BitVec.ofInt_natCast, BitVec.ofInt_natCast, BitVec.toNat_ofNat, BitVec.toNat_ofNat, Nat.mod_eq_of_lt (by omega), Nat.mod_eq_of_lt (by omega)]
  have := Nat.or_lt_two_pow (n := 16) ha hb
  exact wrap_i64 (by omega)
theorem or_add {a b : Nat} (hb : b < 256) : a * 256 ||| b = a * 256 + b := by
  have := Nat.two_pow_add_eq_or_of_lt (i := 8) hb a
  rw [Nat.mul_comm a 256]; exact this.symm
theorem or_by {a b : Int} (ha : 0 ≤ a ∧ a < 256) (hb : 0 ≤ b ∧ b < 256) : bits BinOp.or .i64 (IntKind.i64.wrap ((IntKind.i64.wrap a) * 2 ^ (8 : Int).toNat)) (IntKind.i64.wrap b) = 256 * a + b := by
  obtain ⟨x, rfl⟩ := Int.eq_ofNat_of_zero_le ha.1
  obtain ⟨y, rfl⟩ := Int.eq_ofNat_of_zero_le hb.1
  have e : ((x : Int)) * 2 ^ (8 : Int).toNat = ((x * 256 : Nat) : Int) := by
    show (x : Int) * 2 ^ 8 = _; omega
  rw [wrap_i64 (n := (x : Int)) (by omega), e, wrap_i64 (by omega), wrap_i64 (by omega), or63 (by omega) (by omega), or_add (by omega)]
  omega

/- THE SUM -/
def st (v : Nat) : Nat := if v % 2 = 1 then (v / 2) ^^^ 2197175160 else v / 2
theorem st_lin (a b : Nat) : st (a ^^^ b) = st a ^^^ st b := by
  have h1 : (a ^^^ b) / 2 = a / 2 ^^^ b / 2 := Nat.xor_div_two
  have h2 : (a ^^^ b) % 2 = (a % 2 + b % 2) % 2 := by
    have := @Nat.xor_mod_two_eq_one a b; omega
  unfold st
  rw [h1, h2]
  rcases Nat.mod_two_eq_zero_or_one a with ha | ha <;> rcases Nat.mod_two_eq_zero_or_one b with hb | hb <;> simp only [ha, hb] <;> simp
  · rw [Nat.xor_assoc]
  · rw [Nat.xor_assoc, Nat.xor_assoc, Nat.xor_comm (b / 2)]
  · rw [Nat.xor_assoc (a / 2), ← Nat.xor_assoc 2197175160, Nat.xor_comm 2197175160, Nat.xor_assoc (b / 2), Nat.xor_self, Nat.xor_zero]
theorem st_lt {v : Nat} (h : v < 4294967296) : st v < 4294967296 := by
  unfold st; split
  · exact Nat.xor_lt_two_pow (n := 32) (by omega) (by decide)
  · omega
def sts : Nat → Nat → Nat
  | 0, v => v
  | n + 1, v => st (sts n v)
theorem sts_lt {v : Nat} (h : v < 4294967296) : ∀ n, sts n v < 4294967296
  | 0 => h
  | n + 1 => st_lt (sts_lt h n)
theorem sts_lin (a b : Nat) : ∀ n, sts n (a ^^^ b) = sts n a ^^^ sts n b
  | 0 => rfl
  | n + 1 => by rw [sts, sts_lin a b n, st_lin]; rfl
theorem sts_add (v : Nat) (m : Nat) : ∀ n, sts (n + m) v = sts n (sts m v)
  | 0 => by rw [Nat.zero_add]; rfl
  | n + 1 => by rw [Nat.add_right_comm]; exact congrArg st (sts_add v m n)
theorem st_even (q : Nat) : st (2 * q) = q := by unfold st; rw [if_neg (by omega)]; omega
theorem sts16 (q : Nat) : sts 4 (16 * q) = q := by
  simp only [sts]
  rw [show 16 * q = 2 * (2 * (2 * (2 * q))) by omega, st_even, st_even, st_even, st_even]
def tab : List Int := [0, 274646895, 549293790, 820201905, 1098587580, 1361435347, 1640403810, 1905808397, 2197175160, 2460548119, 2722870694, 2987750089, 3280807620, 3553878443, 3811616794, 4084100981]
theorem tab_at : ∀ r, r < 16 → tab[r]? = some ((sts 4 r : Nat) : Int) := by decide +kernel
theorem half_eq {v : Nat} (h : v < 4294967296) : F_chalf (v : Int) = some ((sts 4 v : Nat) : Int) := by
  have hr : v % 16 < 16 := Nat.mod_lt _ (by decide)
  have e : bits BinOp.and .u32 (v : Int) 15 = ((v % 16 : Nat) : Int) := by
    rw [show (15 : Int) = ((15 : Nat) : Int) from rfl, and32 h (by decide)]
    have : v &&& (2 ^ 4 - 1) = v % 2 ^ 4 := Nat.and_two_pow_sub_one_eq_mod ..
    exact congrArg Int.ofNat this
  unfold F_chalf
  rw [e, grd_t (by decide), grd_t (by decide), grd_t (belo hr)]
  rw [Int.toNat_natCast]
  refine (ixb_n (tab_at _ hr) _).trans ?_
  have e2 : (v : Int) / 2 ^ (4 : Int).toNat = ((v / 16 : Nat) : Int) := by
    show (v : Int) / 2 ^ 4 = _; omega
  have hs := sts_lt (v := v % 16) (by omega) 4
  rw [e2, xor32 (by omega) hs]
  have e3 : v = 16 * (v / 16) ^^^ (v % 16) := by
    have h1 := Nat.two_pow_add_eq_or_of_lt (i := 4) hr (v / 16)
    have h2 : 16 * (v / 16) ^^^ (v % 16) = 2 ^ 4 * (v / 16) + v % 16 := by
      apply Nat.eq_of_testBit_eq
      intro j
      rw [Nat.testBit_xor, Nat.testBit_two_pow_mul_add _ hr]
      rw [show (16 : Nat) = 2 ^ 4 from rfl, Nat.testBit_two_pow_mul]
      by_cases hj : j < 4
      · rw [if_pos hj]; simp [show ¬ 4 ≤ j by omega]
      · rw [if_neg hj, Nat.testBit_lt_two_pow (x := v % 16) (Nat.lt_of_lt_of_le hr (Nat.pow_le_pow_right (n := 2) (by decide) (by omega : 4 ≤ j)))]
        simp [show 4 ≤ j by omega]
    omega
  conv => rhs; rw [e3]
  rw [sts_lin, sts16]
theorem full_xor {v : Nat} (h : v < 4294967296) : 4294967295 ^^^ v = 4294967295 - v := by
  apply Nat.eq_of_testBit_eq
  intro j
  have h1 := Nat.testBit_two_pow_sub_succ (n := 32) (x := v) h j
  rw [show 4294967295 - v = 2 ^ 32 - (v + 1) by omega, h1, Nat.testBit_xor, show (4294967295 : Nat) = 2 ^ 32 - 1 from rfl, Nat.testBit_two_pow_sub_one]
  by_cases hj : j < 32
  · simp [hj]
  · rw [Nat.testBit_lt_two_pow (x := v) (Nat.lt_of_lt_of_le h (Nat.pow_le_pow_right (n := 2) (by decide) (by omega : 32 ≤ j)))]; simp [hj]
def Bts (l : List Int) : Prop := ∀ x ∈ l, 0 ≤ x ∧ x < 256
def crc1 (s : Nat) (x : Int) : Nat := sts 8 (s ^^^ x.toNat)
theorem crc1_lt {s : Nat} {x : Int} (h : s < 4294967296) (hx : 0 ≤ x ∧ x < 256) : crc1 s x < 4294967296 := sts_lt (Nat.xor_lt_two_pow (n := 32) h (by omega)) 8
def crcN (l : List Int) : Nat := 4294967295 - l.foldl crc1 4294967295
theorem crc_fold_lt {l : List Int} (h : Bts l) : ∀ {s : Nat}, s < 4294967296 → l.foldl crc1 s < 4294967296 := by
  induction l with
  | nil => intro s hs; exact hs
  | cons a l ih => intro s hs; exact ih (fun x hx => h x (by simp [hx])) (crc1_lt hs (h a (by simp)))
theorem crcN_lt (l : List Int) : crcN l < 4294967296 := by unfold crcN; omega
theorem csum_eq {l : List Int} {fl : Nat} (hb : Bts l) (hl : l.length < 1000000) (hf : l.length < fl) : F_csum fl l = some ((crcN l : Nat) : Int) := by
  unfold F_csum F_cmore
  have h := lp_list (l := l) (fun i s => (((s : Nat) : Int), (i : Int))) (body := F_cmore_b0 l) crc1 (fun s => ((s : Nat) : Int)) 4294967295 (fl := fl) (fun i s => s < 4294967296) (by decide)
    (fun i x s hx hI => by
      have hi := (List.getElem?_eq_some_iff.1 hx).1
      have hxb := hb x (List.mem_of_getElem? hx)
      refine ⟨?_, crc1_lt hI hxb⟩
      obtain ⟨y, rfl⟩ := Int.eq_ofNat_of_zero_le hxb.1
      have hxl : s ^^^ y < 4294967296 := Nat.xor_lt_two_pow (n := 32) hI (by omega)
      unfold F_cmore_b0
      dsimp only
      rw [ifb_dec, if_pos (by omega), ixb_n hx, w32 (by omega), xor32 hI (by omega), half_eq hxl, bnd_s, half_eq (sts_lt hxl 4), bnd_s, wrap_i64 (by omega), ← sts_add]
      rfl)
    (fun s hI => by unfold F_cmore_b0; dsimp only; rw [ifb_dec, if_neg (by omega)]) hf
  rw [show (bits BinOp.xor .u32 (IntKind.u32.max) 0, (0 : Int)) = (((4294967295 : Nat) : Int), ((0 : Nat) : Int)) by decide, h, bnd_s, bnd_s]
  have hl := crc_fold_lt hb (s := 4294967295) (by decide)
  rw [show (IntKind.u32.max) = ((4294967295 : Nat) : Int) by decide, xor32 (by decide) hl, full_xor hl]
  rfl
theorem rmore_eq {l : List Int} {fl : Nat} (hb : Bts l) (hl : l.length < 1000000) (hf : l.length < fl) (hf2 : 8 < fl) : F_rmore fl 0 l = some ((crcN l : Nat) : Int) := by
  unfold F_rmore
  have hin : ∀ v : Nat, v < 4294967296 → lp F_rmore_b1 fl ((v : Int), (0 : Int)) = some ((sts 8 v : Nat) : Int) := fun v hv => by
    refine lp_seq (fun i => (((sts i v : Nat) : Int), (i : Int))) (n := 8) (fun i hi => ?_) (by unfold F_rmore_b1; dsimp only; rw [ifb_dec, if_neg (by decide)]) hf2
    have hs := sts_lt hv i
    unfold F_rmore_b1
    dsimp only
    have e1 : ((sts i v : Nat) : Int).tmod 2 = ((sts i v % 2 : Nat) : Int) := by rw [Int.tmod_eq_emod_of_nonneg (by omega)]; omega
    have e2 : ((sts i v : Nat) : Int).tdiv 2 = ((sts i v / 2 : Nat) : Int) := by rw [Int.tdiv_eq_ediv_of_nonneg (by omega)]; omega
    rw [ifb_dec, if_pos (by omega), e1, e2, w32 (by omega), show (2197175160 : Int) = ((2197175160 : Nat) : Int) from rfl, xor32 (by omega) (by decide), wrap_i64 (by omega), ifb_dec]
    rw [show sts (i + 1) v = st (sts i v) from rfl]
    unfold st
    split
    · rw [if_pos (by omega), bnd_s]; rfl
    · rw [if_neg (by omega), bnd_s]; rfl
  have h := lp_list (l := l) (fun i s => (((s : Nat) : Int), (i : Int))) (body := F_rmore_b0 fl l) crc1 (fun s => ((s : Nat) : Int)) 4294967295 (fl := fl) (fun i s => s < 4294967296) (by decide)
    (fun i x s hx hI => by
      have hi := (List.getElem?_eq_some_iff.1 hx).1
      have hxb := hb x (List.mem_of_getElem? hx)
      refine ⟨?_, crc1_lt hI hxb⟩
      obtain ⟨y, rfl⟩ := Int.eq_ofNat_of_zero_le hxb.1
      have hxl : s ^^^ y < 4294967296 := Nat.xor_lt_two_pow (n := 32) hI (by omega)
      unfold F_rmore_b0
      dsimp only
      rw [ifb_dec, if_pos (by omega), ixb_n hx, w32 (by omega), xor32 hI (by omega), hin _ hxl, bnd_s, wrap_i64 (by omega)]
      rfl)
    (fun s hI => by unfold F_rmore_b0; dsimp only; rw [ifb_dec, if_neg (by omega)]) hf
  rw [show (IntKind.u32.wrap (4294967295 - 0), (0 : Int)) = (((4294967295 : Nat) : Int), ((0 : Nat) : Int)) by decide, h, bnd_s]
  have hl := crc_fold_lt hb (s := 4294967295) (by decide)
  rw [show (4294967295 : Int) - ((List.foldl crc1 4294967295 l : Nat) : Int) = ((crcN l : Nat) : Int) by unfold crcN; omega, w32 (crcN_lt l)]
end Go.Proofs.Ytmnhfpcbfdgbcaa.Eng.A

/- The scrub: pages that are opened, the used ones. -/
namespace Go.Proofs.Ytmnhfpcbfdgbcaa.Eng.A
set_option linter.unusedVariables false
set_option linter.unusedSimpArgs false
open Go.RowKit Go.Proofs.Ytmnhfpcbfdgbcaa.Plain Go.Proofs.Ytmnhfpcbfdgbcaa.Eng Go.Proofs.Ytmnhfpcbfdgbcaa.Eng.Pk Go.Proofs.Ytmnhfpcbfdgbcaa.Eng.Rd

theorem bts_sub {l m : List Int} (h : Bts l) (hm : ∀ x ∈ m, x ∈ l) : Bts m := fun x hx => h x (hm x hx)
theorem bts_take {l : List Int} (h : Bts l) (n : Nat) : Bts (l.take n) := bts_sub h fun _ hx => List.mem_of_mem_take hx
theorem bts_drop {l : List Int} (h : Bts l) (n : Nat) : Bts (l.drop n) := bts_sub h fun _ hx => List.mem_of_mem_drop hx
theorem upto {i n : Nat} (h : i ≤ n) : UpTo (i : Int) n := ⟨by omega, by omega⟩
theorem btwI {a b : Int} {n : Nat} (h0 : 0 ≤ a) (h1 : a ≤ b) (h2 : b ≤ n) : Btw a b n := by unfold Btw; omega
theorem beloI {i : Int} {n : Nat} (h0 : 0 ≤ i) (h1 : i < n) : Below i n := by unfold Below; omega
theorem grd_i {R : Type} {p c : Prop} [Decidable (p → c)] (h : c) (k : Option R) : grd (p → c) k = k := grd_t (fun _ => h) k
theorem getD_n {A : Type} [Inhabited A] {l : List A} {i : Nat} {x : A} (h : l[i]? = some x) : l.getD ((i : Int)).toNat default = x := by
  rw [List.getD_eq_getElem?_getD, Int.toNat_natCast, h]; rfl
theorem or64n {a b : Nat} (ha : a < 72057594037927936) (hb : b < 256) : bits BinOp.or .u64 (IntKind.u64.wrap ((a : Int) * 2 ^ (8 : Int).toNat)) (IntKind.u64.wrap (b : Int)) = ((256 * a + b : Nat) : Int) := by
  have e : (a : Int) * 2 ^ (8 : Int).toNat = ((a * 256 : Nat) : Int) := by
    show (a : Int) * 2 ^ 8 = _; omega
  rw [e, wrap_u64 (by omega), wrap_u64 (by omega), bits_or_u64_nat _ _ (by omega) (by omega), or_add hb]
  omega
def get4 (a b c d : Int) : Int := 16777216 * a + 65536 * b + 256 * c + d
theorem iget4 {a b c d : Int} (ha : 0 ≤ a ∧ a < 256) (hb : 0 ≤ b ∧ b < 256) (hc : 0 ≤ c ∧ c < 256) (hd : 0 ≤ d ∧ d < 256) {fl : Nat} (hf : 10 < fl) : F_iget fl [a, b, c, d] = some (get4 a b c d, none) := by
  obtain ⟨x, rfl⟩ := Int.eq_ofNat_of_zero_le ha.1
  obtain ⟨y, rfl⟩ := Int.eq_ofNat_of_zero_le hb.1
  obtain ⟨z, rfl⟩ := Int.eq_ofNat_of_zero_le hc.1
  obtain ⟨u, rfl⟩ := Int.eq_ofNat_of_zero_le hd.1
  let f : Nat → Int → Nat := fun s x => 256 * s + x.toNat
  have h := lp_list (l := [(x : Int), y, z, u]) (fun i s => (((s : Nat) : Int), (i : Int))) (body := F_iget_b0 [(x : Int), y, z, u]) f (fun s => ((s : Nat) : Int)) 0 (fl := fl) (fun i s => i ≤ 4 ∧ s < 256 ^ i) (by decide)
    (fun i v s hv hI => by
      have hi := (List.getElem?_eq_some_iff.1 hv).1
      have hi4 : i < 4 := hi
      have hvb : 0 ≤ v ∧ v < 256 := by
        have := List.mem_of_getElem? hv
        simp only [List.mem_cons, List.not_mem_nil, or_false] at this
        rcases this with rfl | rfl | rfl | rfl <;> assumption
      obtain ⟨w, rfl⟩ := Int.eq_ofNat_of_zero_le hvb.1
      have hle : 256 ^ i ≤ 256 ^ 3 := Nat.pow_le_pow_right (by decide) (by omega)
      have hlt : s < 16777216 := Nat.lt_of_lt_of_le hI.2 hle
      refine ⟨?_, by omega, ?_⟩
      · unfold F_iget_b0
        dsimp only
        rw [ifb_dec, if_pos (by omega), ixb_n hv, or64n (by omega) (by omega), wrap_i64 (by omega)]
        rfl
      · show 256 * s + w < 256 ^ (i + 1)
        rw [Nat.pow_succ]; have := hI.2; omega)
    (fun s hI => by unfold F_iget_b0; dsimp only; rw [ifb_dec, if_neg (by omega)]) (by simp; omega)
  unfold F_iget
  rw [show ((decide (([(x : Int), y, z, u].length : Int) = 0)) || (decide (8 < ([(x : Int), y, z, u].length : Int)))) = false by rfl, ifb_0]
  rw [show (((0 : Int), (0 : Int))) = (((0 : Nat) : Int), ((0 : Nat) : Int)) by rfl, h, bnd_s]
  have : [(x : Int), y, z, u].foldl f 0 = 256 * (256 * (256 * (256 * 0 + x) + y) + z) + u := rfl
  rw [this]
  unfold get4
  have e : (((256 * (256 * (256 * (256 * 0 + x) + y) + z) + u : Nat)) : Int) = 16777216 * (x : Int) + 65536 * y + 256 * z + u := by omega
  rw [e]
theorem last4 {l : List Int} (h : 4 ≤ l.length) : ∃ a b c d, l.drop (l.length - 4) = [a, b, c, d] := by
  have hl : (l.drop (l.length - 4)).length = 4 := by rw [List.length_drop]; omega
  match h2 : l.drop (l.length - 4), hl with
  | [a, b, c, d], _ => exact ⟨a, b, c, d, rfl⟩
def okS (l : List Int) : Bool := decide (4 ≤ l.length) && (match l.drop (l.length - 4) with | [a, b, c, d] => decide (get4 a b c d = (crcN (l.take (l.length - 4)) : Int)) | _ => false)
theorem cis_eq {l : List Int} {fl : Nat} (hb : Bts l) (hl : l.length < 1000000) (hf : l.length < fl) (hf2 : 10 < fl) : F_cis fl l = some (okS l) := by
  unfold F_cis
  by_cases h4 : 4 ≤ l.length
  · rw [wrap_i64 (by omega), ifb_dec, if_neg (by omega)]
    have e : ((l.length : Int) - 4) = ((l.length - 4 : Nat) : Int) := by omega
    rw [e, Int.toNat_natCast, grd_t (upto (by omega))]
    obtain ⟨a, b, c, d, h⟩ := last4 h4
    have hbd := bts_drop hb (l.length - 4)
    rw [h] at hbd ⊢
    have ha := hbd a (by simp); have hbb := hbd b (by simp); have hc := hbd c (by simp); have hd := hbd d (by simp)
    rw [iget4 ha hbb hc hd hf2, bnd_s]
    dsimp only
    rw [show ((none : Option Int).isNone == true) = true from rfl, grd_t (fun _ => (upto (by omega))), gif_1]
    rw [csum_eq (bts_take hb _) (by rw [List.length_take]; omega) (by rw [List.length_take]; omega), bnd_s]
    have hw : IntKind.u32.wrap (get4 a b c d) = get4 a b c d := by
      have : get4 a b c d = (((get4 a b c d).toNat : Nat) : Int) := by unfold get4; omega
      rw [this]; exact w32 (by unfold get4; omega)
    rw [hw]
    unfold okS
    rw [h]
    simp [h4]
  · rw [wrap_i64 (by omega), ifb_dec, if_pos (by omega)]
    unfold okS; simp [h4]
theorem u8n {n : Int} (h : 0 ≤ n ∧ n < 256) : IntKind.u8.wrap n = n := wrap_u8 h
theorem ris_eq {l : List Int} {fl : Nat} (hb : Bts l) (hl : l.length < 1000000) (hf : l.length < fl) (hf2 : 10 < fl) : F_ris fl l = some (okS l) := by
  unfold F_ris
  rw [ifb_dec]
  by_cases h4 : 4 ≤ l.length
  · rw [if_neg (by omega), wrap_i64 (by omega)]
    have e : ((l.length : Int) - 4) = ((l.length - 4 : Nat) : Int) := by omega
    rw [e, Int.toNat_natCast, grd_t (upto (by omega))]
    rw [rmore_eq (bts_take hb _) (by rw [List.length_take]; omega) (by rw [List.length_take]; omega) (by omega), bnd_s]
    obtain ⟨a, b, c, d, h⟩ := last4 h4
    have hg : ∀ j x, [a, b, c, d][j]? = some x → l[l.length - 4 + j]? = some x := fun j x hx => by rw [← h, List.getElem?_drop] at hx; exact hx
    have h0 := hg 0 a rfl; have h1 := hg 1 b rfl; have h2 := hg 2 c rfl; have h3 := hg 3 d rfl
    have hbd := bts_drop hb (l.length - 4)
    rw [h] at hbd
    have ha := hbd a (by simp); have hbb := hbd b (by simp); have hc := hbd c (by simp); have hd := hbd d (by simp)
    have hn : crcN (l.take (l.length - 4)) < 4294967296 := crcN_lt _
    unfold okS
    rw [h]
    dsimp only
    generalize crcN (l.take (l.length - 4)) = N at hn ⊢
    rw [ixb_n (by simpa using h0)]
    have e1 : IntKind.i64.wrap (((l.length - 4 : Nat) : Int) + 1) = ((l.length - 4 + 1 : Nat) : Int) := by rw [wrap_i64 (by omega)]; omega
    have e2 : IntKind.i64.wrap (((l.length - 4 : Nat) : Int) + 2) = ((l.length - 4 + 2 : Nat) : Int) := by rw [wrap_i64 (by omega)]; omega
    have e3 : IntKind.i64.wrap (((l.length - 4 : Nat) : Int) + 3) = ((l.length - 4 + 3 : Nat) : Int) := by rw [wrap_i64 (by omega)]; omega
    rw [e1, e2, e3, grd_t (fun _ => belo (by omega)), grd_t (fun _ => belo (by omega)), grd_t (fun _ => belo (by omega)), getD_n h1, getD_n h2, getD_n h3]
    have f0 : IntKind.u8.wrap (IntKind.u32.wrap ((N : Int).tdiv 16777216)) = ((N / 16777216 : Nat) : Int) := by
      rw [show (N : Int).tdiv 16777216 = ((N / 16777216 : Nat) : Int) by rw [Int.tdiv_eq_ediv_of_nonneg (by omega)]; omega, w32 (by omega), wrap_u8 (by omega)]
    have f1 : IntKind.u8.wrap ((IntKind.u32.wrap ((N : Int).tdiv 65536)).tmod 256) = ((N / 65536 % 256 : Nat) : Int) := by
      rw [show (N : Int).tdiv 65536 = ((N / 65536 : Nat) : Int) by rw [Int.tdiv_eq_ediv_of_nonneg (by omega)]; omega, w32 (by omega), Int.tmod_eq_emod_of_nonneg (by omega), wrap_u8 (by omega)]; omega
    have f2 : IntKind.u8.wrap ((IntKind.u32.wrap ((N : Int).tdiv 256)).tmod 256) = ((N / 256 % 256 : Nat) : Int) := by
      rw [show (N : Int).tdiv 256 = ((N / 256 : Nat) : Int) by rw [Int.tdiv_eq_ediv_of_nonneg (by omega)]; omega, w32 (by omega), Int.tmod_eq_emod_of_nonneg (by omega), wrap_u8 (by omega)]; omega
    have f3 : IntKind.u8.wrap ((N : Int).tmod 256) = ((N % 256 : Nat) : Int) := by
      rw [Int.tmod_eq_emod_of_nonneg (by omega), wrap_u8 (by omega)]; omega
    rw [f0, f1, f2, f3]
    have hh : (a = ((N / 16777216 : Nat) : Int) ∧ b = ((N / 65536 % 256 : Nat) : Int) ∧ c = ((N / 256 % 256 : Nat) : Int) ∧ d = ((N % 256 : Nat) : Int)) ↔ get4 a b c d = (N : Int) := by
      unfold get4
      constructor
      · rintro ⟨r1, r2, r3, r4⟩; omega
      · intro r
        refine ⟨?_, ?_, ?_, ?_⟩ <;> omega
    congr 1
    by_cases hq : get4 a b c d = (N : Int)
    · obtain ⟨r1, r2, r3, r4⟩ := hh.2 hq
      rw [decide_eq_true r1, decide_eq_true r2, decide_eq_true r3, decide_eq_true r4, decide_eq_true hq, decide_eq_true h4]
      rfl
    · rw [decide_eq_false hq, Bool.and_false]
      by_cases r1 : a = ((N / 16777216 : Nat) : Int)
      · by_cases r2 : b = ((N / 65536 % 256 : Nat) : Int)
        · by_cases r3 : c = ((N / 256 % 256 : Nat) : Int)
          · have r4 : ¬ d = ((N % 256 : Nat) : Int) := fun r4 => hq (hh.1 ⟨r1, r2, r3, r4⟩)
            rw [decide_eq_false r4, Bool.and_false]
          · rw [decide_eq_false r3, Bool.and_false]; rfl
        · rw [decide_eq_false r2, Bool.and_false]; rfl
      · rw [decide_eq_false r1]; rfl
  · rw [if_pos (by omega)]
    unfold okS; simp [h4]
/- BLANK -/
def nz (l : List Int) : Bool := l.any fun x => decide (x ≠ 0)
theorem blank_eq {l : List Int} {fl : Nat} (hl : l.length < 1000000) (hf : l.length < fl) : F_blank fl l = some (!nz l) := by
  have hb : ∀ (i : Nat) x, l[i]? = some x → F_idxB_b0 l (i : Int) = if x ≠ 0 then some (.inr (.inl (i : Int))) else some (.inl ((i + 1 : Nat) : Int)) := fun i x hx => by
    have hi := (List.getElem?_eq_some_iff.1 hx).1
    unfold F_idxB_b0 F_blk1
    rw [ifb_dec, if_pos (by omega), ixb_n hx, bnd_s, ifb_dec, wrap_i64 (by omega)]; rfl
  obtain ⟨o, h1, h2⟩ := lp_inv (body := F_idxB_b0 l) (fun i (_ : Unit) => (i : Int)) (fun i _ => nz (l.take i) = false) (fun o => (o = .inr () ∧ nz l = false) ∨ (∃ i : Nat, o = .inl (i : Int)) ∧ nz l = true) (n := l.length) (fl := fl) (s0 := ()) rfl
    (fun i _ hi hI => by
      have hx := List.getElem?_eq_getElem hi
      rw [hb i _ hx]
      by_cases h0 : l[i] = 0
      · rw [if_neg (by simpa using h0)]
        refine .inl ⟨(), rfl, ?_⟩
        unfold nz at hI ⊢
        rw [List.take_add_one, hx, List.any_append, hI]; simp [h0]
      · rw [if_pos h0]
        refine .inr ⟨_, rfl, .inr ⟨⟨i, rfl⟩, ?_⟩⟩
        exact List.any_eq_true.2 ⟨l[i], List.getElem_mem hi, by simpa using h0⟩)
    (fun _ hI => ⟨.inr (), by unfold F_idxB_b0; rw [ifb_dec, if_neg (by omega)], .inl ⟨rfl, by simpa using hI⟩⟩) hf
  unfold F_blank F_hasB F_idxB
  have h1' : lp (F_idxB_b0 l) fl 0 = some o := h1
  rw [h1', bnd_s]
  rcases h2 with ⟨rfl, h⟩ | ⟨⟨i, rfl⟩, h⟩
  · rw [ocs_2, h]; rfl
  · rw [ocs_1, h, bnd_s, bnd_s, decide_eq_true (by omega : (0 : Int) ≤ (i : Int))]
theorem rblank_eq {l : List Int} {fl : Nat} (hl : l.length < 1000000) (hf : l.length < fl) : F_rblank fl l = some (!nz l) := by
  have hb : ∀ (i : Nat) x, l[i]? = some x → F_rblank_b0 l (i : Int) = if x ≠ 0 then some (.inr (.inl false)) else some (.inl ((i + 1 : Nat) : Int)) := fun i x hx => by
    have hi := (List.getElem?_eq_some_iff.1 hx).1
    unfold F_rblank_b0
    rw [ifb_dec, if_pos (by omega), ixb_n hx, ifb_dec, wrap_i64 (by omega)]; rfl
  obtain ⟨o, h1, h2⟩ := lp_inv (body := F_rblank_b0 l) (fun i (_ : Unit) => (i : Int)) (fun i _ => nz (l.take i) = false) (fun o => (o = .inr () ∧ nz l = false) ∨ (o = .inl false) ∧ nz l = true) (n := l.length) (fl := fl) (s0 := ()) rfl
    (fun i _ hi hI => by
      have hx := List.getElem?_eq_getElem hi
      rw [hb i _ hx]
      by_cases h0 : l[i] = 0
      · rw [if_neg (by simpa using h0)]
        refine .inl ⟨(), rfl, ?_⟩
        unfold nz at hI ⊢
        rw [List.take_add_one, hx, List.any_append, hI]; simp [h0]
      · rw [if_pos h0]
        refine .inr ⟨_, rfl, .inr ⟨rfl, ?_⟩⟩
        exact List.any_eq_true.2 ⟨l[i], List.getElem_mem hi, by simpa using h0⟩)
    (fun _ hI => ⟨.inr (), by unfold F_rblank_b0; rw [ifb_dec, if_neg (by omega)], .inl ⟨rfl, by simpa using hI⟩⟩) hf
  unfold F_rblank
  have h1' : lp (F_rblank_b0 l) fl 0 = some o := h1
  rw [h1', bnd_s]
  rcases h2 with ⟨rfl, h⟩ | ⟨rfl, h⟩
  · rw [ocs_2, h]; rfl
  · rw [ocs_1, h]; rfl
/- A PAGE -/
def num (l : List Int) : Nat := 256 * (l.getD 2 0).toNat + (l.getD 3 0).toNat
def okP (l : List Int) : Bool := decide (l.length = 512) && (okS l && (decide (1 ≤ l.getD 0 0 ∧ l.getD 0 0 ≤ 5 ∧ l.getD 1 0 = 0 ∧ num l ≤ 504) && !nz ((l.take 508).drop (4 + num l))))
theorem sopen_eq {l : List Int} {fl : Nat} (hb : Bts l) (hf : 600 < fl) : ∃ r, F_sopen fl l = some r ∧ r.2.2.isSome = !okP l := by
  unfold F_sopen okP
  rw [ifb_dec]
  by_cases hl : l.length = 512
  · rw [if_neg (by omega), cis_eq hb (by omega) (by omega) (by omega), bnd_s]
    cases hk : okS l with
    | false => exact ⟨_, rfl, by simp⟩
    | true =>
      have g0 := List.getElem?_eq_getElem (l := l) (i := 0) (by omega)
      have g1 := List.getElem?_eq_getElem (l := l) (i := 1) (by omega)
      have g2 := List.getElem?_eq_getElem (l := l) (i := 2) (by omega)
      have g3 := List.getElem?_eq_getElem (l := l) (i := 3) (by omega)
      have b0 := hb _ (List.mem_of_getElem? g0)
      have b2 := hb _ (List.mem_of_getElem? g2)
      have b3 := hb _ (List.mem_of_getElem? g3)
      have d0 : l.getD 0 0 = l[0] := by rw [List.getD_eq_getElem?_getD, g0]; rfl
      have d1 : l.getD 1 0 = l[1] := by rw [List.getD_eq_getElem?_getD, g1]; rfl
      have d2 : l.getD 2 0 = l[2] := by rw [List.getD_eq_getElem?_getD, g2]; rfl
      have d3 : l.getD 3 0 = l[3] := by rw [List.getD_eq_getElem?_getD, g3]; rfl
      have hn : (256 : Int) * l[2] + l[3] = ((num l : Nat) : Int) := by unfold num; rw [d2, d3]; omega
      have hn2 : num l < 65536 := by omega
      rw [Bool.not_true, ifb_0]
      rw [ixb_at (i := 2) (by decide) g2, ixb_at (i := 3) (by decide) g3, ixb_at (i := 0) (by decide) g0]
      simp only [or_by b2 b3, hn]
      unfold F_kinded
      rw [bnd_s]
      have e1 : l.getD (1 : Int).toNat default = l[1] := by rw [List.getD_eq_getElem?_getD]; show (l[1]?).getD _ = _; rw [g1]; rfl
      rw [grd_i (beloI (by omega) (by omega)), e1, d0, d1]
      have e4 : IntKind.i64.wrap (4 + (num l : Int)) = ((4 + num l : Nat) : Int) := by rw [wrap_i64 (by omega)]; omega
      rw [e4, Int.toNat_natCast]
      by_cases hbad : (1 : Int) ≤ l[0] ∧ l[0] ≤ 5 ∧ l[1] = 0 ∧ num l ≤ 504
      · have hc : ((!((decide ((1 : Int) ≤ l[0])) && (decide (l[0] ≤ 5)))) || (decide (l[1] ≠ 0)) || (decide (504 < (num l : Int)))) = false := by
          rw [decide_eq_true hbad.1, decide_eq_true hbad.2.1, decide_eq_false (by simpa using hbad.2.2.1), decide_eq_false (by omega)]; rfl
        rw [hc, show (false == false) = true from rfl]
        rw [grd_i (btwI (by omega) (by omega) (by omega)), gif_1]
        rw [show ((508 : Int)).toNat = 508 from rfl, blank_eq (by rw [List.length_drop, List.length_take]; omega) (by rw [List.length_drop, List.length_take]; omega), bnd_s]
        rw [decide_eq_true hbad]
        cases hz : nz ((l.take 508).drop (4 + num l)) with
        | true => exact ⟨_, rfl, by simp⟩
        | false =>
          rw [Bool.not_false, Bool.or_eq_false_iff.2 ⟨rfl, by decide⟩, ifb_0]
          rw [ixb_at (i := 0) (by decide) g0, grd_t (btwI (by omega) (by omega) (by omega))]
          unfold oClone
          rw [grd_t ⟨by constructor <;> simp [hl] <;> omega, by simp [hl]; omega⟩, bnd_s]
          exact ⟨_, rfl, by simp [hl]⟩
      · have hc : ((!((decide ((1 : Int) ≤ l[0])) && (decide (l[0] ≤ 5)))) || (decide (l[1] ≠ 0)) || (decide (504 < (num l : Int)))) = true := by
          cases hq : ((!((decide ((1 : Int) ≤ l[0])) && (decide (l[0] ≤ 5)))) || (decide (l[1] ≠ 0)) || (decide (504 < (num l : Int)))) with
          | true => rfl
          | false =>
            refine absurd ?_ hbad
            simp at hq
            omega
        rw [hc, show (true == false) = false from rfl, grd_t (fun h => by cases h), gif_0, bnd_s, Bool.true_or, ifb_1]
        rw [decide_eq_false hbad]
        exact ⟨_, rfl, by simp⟩
  · rw [if_pos (by omega)]
    exact ⟨_, rfl, by simp [hl]⟩
end Go.Proofs.Ytmnhfpcbfdgbcaa.Eng.A

/- The scrub: the document's page, the used ones, what is dirty, clean, and behind loads. -/
namespace Go.Proofs.Ytmnhfpcbfdgbcaa.Eng.A
set_option linter.unusedVariables false
set_option linter.unusedSimpArgs false
open Go.RowKit Go.Proofs.Ytmnhfpcbfdgbcaa.Plain Go.Proofs.Ytmnhfpcbfdgbcaa.Eng Go.Proofs.Ytmnhfpcbfdgbcaa.Eng.Pk Go.Proofs.Ytmnhfpcbfdgbcaa.Eng.Rd

theorem wn {a b : Int} (ha : 0 ≤ a ∧ a < 256) (hb : 0 ≤ b ∧ b < 256) {n : Nat} (h : (256 : Int) * a + b = (n : Int)) : IntKind.i64.wrap ((IntKind.i64.wrap (256 * (IntKind.i64.wrap a))) + (IntKind.i64.wrap b)) = (n : Int) := by
  rw [wrap_i64 (n := a) (by omega), wrap_i64 (n := b) (by omega), wrap_i64 (n := 256 * a) (by omega), wrap_i64 (by omega), h]
theorem ropen_lp {l : List Int} {n fl : Nat} (hl : l.length = 512) (hn : n ≤ 504) (hf : 600 < fl) : lp (F_ropen_b0 l) fl (((4 + n : Nat) : Int)) = some (if nz ((l.take 508).drop (4 + n)) = true then .inl (0, [], 3) else .inr ()) := by
  have hb : ∀ (i : Nat) x, i < 508 → l[i]? = some x → F_ropen_b0 l (i : Int) = if x ≠ 0 then some (.inr (.inl (0, [], 3))) else some (.inl ((i + 1 : Nat) : Int)) := fun i x hi hx => by
    unfold F_ropen_b0
    rw [ifb_dec, if_pos (by omega), ixb_n hx, ifb_dec, wrap_i64 (by omega)]; rfl
  have hll : ((l.take 508).drop (4 + n)).length = 504 - n := by rw [List.length_drop, List.length_take]; omega
  obtain ⟨o, h1, h2⟩ := lp_inv (body := F_ropen_b0 l) (fun i (_ : Unit) => ((4 + n + i : Nat) : Int)) (fun i _ => nz (((l.take 508).drop (4 + n)).take i) = false) (fun o => o = if nz ((l.take 508).drop (4 + n)) = true then .inl (0, [], 3) else .inr ()) (n := 504 - n) (fl := fl) (s0 := ()) rfl
    (fun i _ hi hI => by
      have hx := List.getElem?_eq_getElem (l := (l.take 508).drop (4 + n)) (i := i) (by omega)
      have hx2 : l[4 + n + i]? = some ((l.take 508).drop (4 + n))[i] := by
        rw [← hx, List.getElem?_drop, List.getElem?_take, if_pos (by omega)]
      generalize ((l.take 508).drop (4 + n))[i]'(by omega) = x at hx hx2
      rw [hb _ _ (by omega) hx2]
      by_cases h0 : x = 0
      · rw [if_neg (by simpa using h0)]
        refine .inl ⟨(), rfl, ?_⟩
        unfold nz at hI ⊢
        rw [List.take_add_one, hx, List.any_append, hI]; simp [h0]
      · rw [if_pos h0]
        refine .inr ⟨_, rfl, ?_⟩
        rw [if_pos]
        exact List.any_eq_true.2 ⟨x, List.mem_of_getElem? hx, by simpa using h0⟩)
    (fun _ hI => ⟨.inr (), by unfold F_ropen_b0; rw [ifb_dec, if_neg (by omega)], by
      rw [← hll, List.take_length] at hI; rw [hI]; rfl⟩) (by omega)
  have h1' : lp (F_ropen_b0 l) fl (((4 + n : Nat) : Int)) = some o := h1
  rw [h1', h2]
theorem ropen_eq {l : List Int} {fl : Nat} (hb : Bts l) (hl6 : l.length ≤ 600) (hf : 700 < fl) : ∃ r, F_ropen fl l = some r ∧ decide (r.2.2 ≠ 0) = !okP l := by
  unfold F_ropen okP
  rw [ifb_dec]
  by_cases hl : l.length = 512
  · rw [if_neg (by omega), ris_eq hb (by omega) (by omega) (by omega), bnd_s]
    cases hk : okS l with
    | false => exact ⟨_, rfl, by simp⟩
    | true =>
      have g0 := List.getElem?_eq_getElem (l := l) (i := 0) (by omega)
      have g1 := List.getElem?_eq_getElem (l := l) (i := 1) (by omega)
      have g2 := List.getElem?_eq_getElem (l := l) (i := 2) (by omega)
      have g3 := List.getElem?_eq_getElem (l := l) (i := 3) (by omega)
      have b0 := hb _ (List.mem_of_getElem? g0)
      have b2 := hb _ (List.mem_of_getElem? g2)
      have b3 := hb _ (List.mem_of_getElem? g3)
      have d0 : l.getD 0 0 = l[0] := by rw [List.getD_eq_getElem?_getD, g0]; rfl
      have d1 : l.getD 1 0 = l[1] := by rw [List.getD_eq_getElem?_getD, g1]; rfl
      have d2 : l.getD 2 0 = l[2] := by rw [List.getD_eq_getElem?_getD, g2]; rfl
      have d3 : l.getD 3 0 = l[3] := by rw [List.getD_eq_getElem?_getD, g3]; rfl
      have hn : (256 : Int) * l[2] + l[3] = ((num l : Nat) : Int) := by unfold num; rw [d2, d3]; omega
      have hn2 : num l < 65536 := by omega
      rw [Bool.not_true, ifb_0]
      rw [ixb_at (i := 2) (by decide) g2, ixb_at (i := 3) (by decide) g3, ixb_at (i := 0) (by decide) g0]
      simp only [wn b2 b3 hn]
      have e0 : l.getD (0 : Int).toNat default = l[0] := by rw [List.getD_eq_getElem?_getD]; show (l[0]?).getD _ = _; rw [g0]; rfl
      have e1 : l.getD (1 : Int).toNat default = l[1] := by rw [List.getD_eq_getElem?_getD]; show (l[1]?).getD _ = _; rw [g1]; rfl
      rw [grd_i (beloI (by omega) (by omega)), grd_i (beloI (by omega) (by omega)), e0, e1, d0, d1]
      have e4 : IntKind.i64.wrap (4 + (num l : Int)) = ((4 + num l : Nat) : Int) := by rw [wrap_i64 (by omega)]; omega
      rw [e4, Int.toNat_natCast]
      by_cases hbad : (1 : Int) ≤ l[0] ∧ l[0] ≤ 5 ∧ l[1] = 0 ∧ num l ≤ 504
      · have hc : ((((decide (l[0] < 1)) || (decide ((5 : Int) < l[0]))) || (decide (l[1] ≠ 0))) || (decide (504 < (num l : Int)))) = false := by
          rw [decide_eq_false (by omega), decide_eq_false (by omega), decide_eq_false (by simpa using hbad.2.2.1), decide_eq_false (by omega)]; rfl
        rw [hc, ifb_0, ropen_lp hl hbad.2.2.2 (by omega), bnd_s, decide_eq_true hbad]
        cases hz : nz ((l.take 508).drop (4 + num l)) with
        | true => exact ⟨_, rfl, by simp⟩
        | false =>
          rw [if_neg (by decide), ocs_2, ixb_at (i := 0) (by decide) g0, grd_t (btwI (by omega) (by omega) (by omega))]
          exact ⟨_, rfl, by simp [hl]⟩
      · have hc : ((((decide (l[0] < 1)) || (decide ((5 : Int) < l[0]))) || (decide (l[1] ≠ 0))) || (decide (504 < (num l : Int)))) = true := by
          cases hq : ((((decide (l[0] < 1)) || (decide ((5 : Int) < l[0]))) || (decide (l[1] ≠ 0))) || (decide (504 < (num l : Int)))) with
          | true => rfl
          | false =>
            refine absurd ?_ hbad
            simp at hq
            omega
        rw [hc, ifb_1, decide_eq_false hbad]
        exact ⟨_, rfl, by simp⟩
  · rw [if_pos (by omega)]
    exact ⟨_, rfl, by simp [hl]⟩

theorem td2 (w : Nat) : (w : Int).tdiv 2 = ((w / 2 : Nat) : Int) := by rw [Int.tdiv_eq_ediv_of_nonneg (by omega)]; omega
theorem tm2 (w : Nat) : (w : Int).tmod 2 = ((w % 2 : Nat) : Int) := by rw [Int.tmod_eq_emod_of_nonneg (by omega)]; omega
theorem wu {w v : Nat} (h : w ≤ v) (hv : (v : Int) < 18446744073709551616) : IntKind.u64.wrap (w : Int) = (w : Int) := wrap_u64 (by omega)
theorem andp (v k : Nat) : v &&& 2 ^ k = if v.testBit k = true then 2 ^ k else 0 := by
  apply Nat.eq_of_testBit_eq
  intro j
  rw [Nat.testBit_and, Nat.testBit_two_pow]
  by_cases hj : k = j
  · subst hj
    cases hv : v.testBit k <;> simp
  · cases hv : v.testBit k <;> simp [hj]
/- THE USED ONES -/
structure Used (u : List Int) : Prop where
  len : u.length = 16
  u64 : ∀ x ∈ u, 0 ≤ x ∧ x < 18446744073709551616
def has (u : List Int) (i : Nat) : Bool := decide (i < 1024) && ((u.getD (i / 64) 0).toNat).testBit (i % 64)
theorem bhas_eq {u : List Int} (h : Used u) {i : Nat} (hi : i < 1000000) : F_bhas u (i : Int) = some (has u i) := by
  unfold F_bhas F_bmay has
  rw [bnd_s]
  by_cases h4 : i < 1024
  · have hm : ((decide ((0 : Int) ≤ (i : Int))) && (decide ((i : Int) < 1024))) = true := by rw [decide_eq_true (by omega), decide_eq_true (by omega)]; rfl
    have e : (i : Int) / 2 ^ (6 : Int).toNat = ((i / 64 : Nat) : Int) := by show (i : Int) / 2 ^ 6 = _; omega
    have hl := h.len
    have hx := List.getElem?_eq_getElem (l := u) (i := i / 64) (by omega)
    have hxb := h.u64 _ (List.mem_of_getElem? hx)
    rw [hm, e, Int.toNat_natCast, grd_i (belo (by omega)), grd_i (belo (by omega)), show (true == true) = true from rfl, gif_1]
    have hd : u.getD (i / 64) default = u[i / 64] := by rw [List.getD_eq_getElem?_getD, hx]; rfl
    have hd0 : u.getD (i / 64) 0 = u[i / 64] := by rw [List.getD_eq_getElem?_getD, hx]; rfl
    rw [hd, hd0]
    generalize u[i / 64] = x at hxb
    obtain ⟨v, rfl⟩ := Int.eq_ofNat_of_zero_le hxb.1
    have hk : i % 64 < 64 := Nat.mod_lt _ (by decide)
    have ea : bits BinOp.and .u64 (IntKind.u64.wrap (i : Int)) 63 = ((i % 64 : Nat) : Int) := by
      rw [wrap_u64 (by omega), show (63 : Int) = ((63 : Nat) : Int) from rfl, bits_and_u64_nat _ _ (by omega) (by decide)]
      exact congrArg Int.ofNat (Nat.and_two_pow_sub_one_eq_mod i 6)
    unfold F_bbit
    rw [ea, grd_t (upto (by omega)), bnd_s, Int.toNat_natCast]
    have hp : 2 ^ (i % 64) < 18446744073709551616 := Nat.pow_lt_pow_right (a := 2) (n := 64) (by decide) hk
    have e2 : (1 : Int) * 2 ^ (i % 64) = ((2 ^ (i % 64) : Nat) : Int) := by simp
    rw [e2, wu (v := 18446744073709551615) (by omega) (by decide), bits_and_u64_nat _ _ (by omega) hp, andp, Int.toNat_natCast, decide_eq_true h4, Bool.true_and, Bool.true_and]
    cases v.testBit (i % 64) with
    | true => simp; have := Nat.two_pow_pos (i % 64); omega
    | false => simp
  · have hm : ((decide ((0 : Int) ≤ (i : Int))) && (decide ((i : Int) < 1024))) = false := by rw [decide_eq_false (p := (i : Int) < 1024) (by omega), Bool.and_false]
    rw [hm, grd_t (fun h => by cases h), grd_t (fun h => by cases h), show (false == true) = false from rfl, gif_0, bnd_s, decide_eq_false h4]
    rfl
theorem rof_eq {u : List Int} (h : Used u) {fl : Nat} (hf : 2000 < fl) : ∃ L, F_rof fl u = some L ∧ L.length = 1024 ∧ ∀ i, i < 1024 → L[i]? = some (has u i) := by
  have hl := h.len
  obtain ⟨o, h1, h2⟩ := lp_inv (body := F_rof_b0 fl u) (fun i (s : List Bool) => ((i : Int), s)) (fun i s => i ≤ 1024 ∧ s.length = 1024 ∧ ∀ j, j < i → s[j]? = some (has u j)) (fun L => L.length = 1024 ∧ ∀ i, i < 1024 → L[i]? = some (has u i)) (n := 1024) (fl := fl) (s0 := List.replicate 1024 false) ⟨by omega, List.length_replicate .., fun j hj => by omega⟩
    (fun i s hi hI => by
      left
      refine ⟨s.set i (has u i), ?_, by omega, by rw [List.length_set]; exact hI.2.1, fun j hj => ?_⟩
      · unfold F_rof_b0
        dsimp only
        have hx := List.getElem?_eq_getElem (l := u) (i := i / 64) (by omega)
        have hxb := h.u64 _ (List.mem_of_getElem? hx)
        have hd0 : u.getD (i / 64) 0 = u[i / 64] := by rw [List.getD_eq_getElem?_getD, hx]; rfl
        have et : (i : Int).tdiv 64 = ((i / 64 : Nat) : Int) := by rw [Int.tdiv_eq_ediv_of_nonneg (by omega)]; omega
        have em : (i : Int).tmod 64 = ((i % 64 : Nat) : Int) := by rw [Int.tmod_eq_emod_of_nonneg (by omega)]; omega
        rw [ifb_dec, if_pos (by omega), et, wrap_i64 (by omega), grd_t (belo (by omega)), Int.toNat_natCast, ixb_n hx]
        generalize u[i / 64] = x at hxb hd0
        obtain ⟨v, rfl⟩ := Int.eq_ofNat_of_zero_le hxb.1
        have hin := lp_seq (body := F_rof_b1 ((i : Int), s)) (o := ((v / 2 ^ (i % 64) : Nat) : Int)) (fl := fl) (fun k => (((v / 2 ^ k : Nat) : Int), (k : Int))) (n := i % 64) (fun k hk => by
          unfold F_rof_b1
          dsimp only
          have hle : v / 2 ^ k ≤ v := Nat.div_le_self _ _
          have e2 : ((v / 2 ^ k : Nat) : Int).tdiv 2 = ((v / 2 ^ (k + 1) : Nat) : Int) := by rw [td2, Nat.pow_succ, ← Nat.div_div_eq_div_mul]
          have hle2 : v / 2 ^ (k + 1) ≤ v := Nat.div_le_self _ _
          rw [em, ifb_dec, if_pos (by omega), e2, wu hle2 hxb.2, wrap_i64 (by omega)]
          rfl) (by unfold F_rof_b1; dsimp only; rw [em, ifb_dec, if_neg (by omega)]) (by omega)
        have e00 : (((v / 2 ^ 0 : Nat) : Int), ((0 : Nat) : Int)) = (((v : Nat) : Int), (0 : Int)) := by rw [Nat.pow_zero, Nat.div_one]; rfl
        rw [e00] at hin
        rw [hin, bnd_s, grd_t (beloI (by omega) (by omega)), Int.toNat_natCast, grd_t (belo (by omega)), bnd_s, wrap_i64 (by omega)]
        have hb : decide ((((v / 2 ^ (i % 64) : Nat) : Int).tmod 2) = 1) = has u i := by
          unfold has
          rw [hd0, Int.toNat_natCast, decide_eq_true hi, Bool.true_and, Nat.testBit_eq_decide_div_mod_eq, tm2]
          exact decide_eq_decide.2 (by omega)
        rw [hb]; rfl
      · rw [List.getElem?_set]
        by_cases hij : i = j
        · subst hij; rw [if_pos rfl, if_pos (by omega)]
        · rw [if_neg hij]; exact hI.2.2 j (by omega))
    (fun s hI => ⟨s, by unfold F_rof_b0; dsimp only; rw [ifb_dec, if_neg (by omega)], hI.2.1, hI.2.2⟩) (by omega)
  refine ⟨o, ?_, h2⟩
  unfold F_rof
  have h1' : lp (F_rof_b0 fl u) fl (0, List.replicate 1024 (false : Bool)) = some o := h1
  rw [h1', bnd_s, grd_t h2.1, grd_t (List.length_replicate ..), grd_t h2.1, grd_t h2.1]
end Go.Proofs.Ytmnhfpcbfdgbcaa.Eng.A

/- The scrub: what is dirty, clean, and behind loads. -/
namespace Go.Proofs.Ytmnhfpcbfdgbcaa.Eng.A
set_option linter.unusedVariables false
set_option linter.unusedSimpArgs false
open Go.RowKit Go.Proofs.Ytmnhfpcbfdgbcaa.Plain Go.Proofs.Ytmnhfpcbfdgbcaa.Eng Go.Proofs.Ytmnhfpcbfdgbcaa.Eng.Pk Go.Proofs.Ytmnhfpcbfdgbcaa.Eng.Rd

structure Pgs (p : List (List Int)) : Prop where
  few : p.length ≤ 60
  short : ∀ l ∈ p, l.length ≤ 600
  bytes : ∀ l ∈ p, Bts l
theorem pgs_at {p : List (List Int)} (h : Pgs p) {i : Nat} {l : List Int} (hl : p[i]? = some l) : l.length ≤ 600 ∧ Bts l := ⟨h.short l (List.mem_of_getElem? hl), h.bytes l (List.mem_of_getElem? hl)⟩
def pg (p : List (List Int)) (i : Nat) : List Int := p.getD i []
theorem pg_at {p : List (List Int)} {i : Nat} (h : i < p.length) : p[i]? = some (pg p i) := by
  unfold pg; rw [List.getD_eq_getElem?_getD, List.getElem?_eq_getElem h]; rfl
theorem pg_d {p : List (List Int)} {i : Nat} (h : i < p.length) : p.getD ((i : Int)).toNat default = pg p i := getD_n (pg_at h)
/-- The pages from 2 on, up to n. -/
def dl (p : List (List Int)) (u : List Int) (n : Nat) : List Int := ((List.range n).filter fun j => !has u (j + 2) && nz (pg p (j + 2))).map fun j => ((j + 2 : Nat) : Int)
theorem dl_succ (p : List (List Int)) (u : List Int) (n : Nat) : dl p u (n + 1) = dl p u n ++ (if (!has u (n + 2) && nz (pg p (n + 2))) = true then [((n + 2 : Nat) : Int)] else []) := by
  unfold dl
  rw [List.range_succ, List.filter_append, List.map_append]
  congr 1
  rw [List.filter_cons]
  split <;> simp
theorem dl_n {p : List (List Int)} {u : List Int} {n : Nat} (h : (!has u (n + 2) && nz (pg p (n + 2))) = false) : dl p u (n + 1) = dl p u n := by rw [dl_succ, h]; simp
theorem dl_y {p : List (List Int)} {u : List Int} {n : Nat} (h : (!has u (n + 2) && nz (pg p (n + 2))) = true) : dl p u (n + 1) = dl p u n ++ [((n + 2 : Nat) : Int)] := by rw [dl_succ, h]; rfl
theorem dl_len (p : List (List Int)) (u : List Int) (n : Nat) : (dl p u n).length ≤ n := by
  unfold dl
  rw [List.length_map]
  exact Nat.le_trans (List.length_filter_le _ _) (by simp)
theorem app_ok {l : List Int} {x : Int} {n : Nat} (h : l.length ≤ n) (hn : n ≤ 1000) : grd (Fits 8 (l.length + ([x] : List Int).length)) (some (l ++ [x])) = some (l ++ [x]) := grd_t (by constructor <;> simp <;> omega) _
theorem sdirty_eq {p : List (List Int)} {u : List Int} (hp : Pgs p) (hu : Used u) {fl : Nat} (hf : 2000 < fl) : F_sdirty fl p u = some (dl p u (p.length - 2)) := by
  have h6 := hp.few
  obtain ⟨o, h1, h2⟩ := lp_inv (body := F_sdirty_b0 fl p u) (fun i (s : List Int) => (s, ((i + 2 : Nat) : Int))) (fun i s => s = dl p u i) (fun o => o = dl p u (p.length - 2)) (n := p.length - 2) (fl := fl) (s0 := []) rfl
    (fun i s hi hI => by
      subst hI
      left
      refine ⟨dl p u (i + 1), ?_, rfl⟩
      have hx := pg_at (p := p) (i := i + 2) (by omega)
      have hg := pgs_at hp hx
      have e : ((i + 2 : Nat) : Int) + 1 = ((i + 1 + 2 : Nat) : Int) := by omega
      unfold F_sdirty_b0
      dsimp only
      rw [ifb_dec, if_pos (by omega), grd_t hu.len, bhas_eq hu (by omega), bnd_s, grd_i (belo (by omega)), pg_d (by omega), blank_eq (by omega) (by omega), gif_s, bnd_s, wrap_i64 (by omega), e]
      have hd := dl_len p u i
      cases hh : has u (i + 2) <;> cases hz : nz (pg p (i + 2))
      · rw [dl_n (by rw [hh, hz]; rfl)]; rfl
      · rw [dl_y (by rw [hh, hz]; rfl)]; exact (bnd_eq (app_ok hd (by omega)) _).trans rfl
      · rw [dl_n (by rw [hh, hz]; rfl)]; rfl
      · rw [dl_n (by rw [hh, hz]; rfl)]; rfl)
    (fun s hI => ⟨s, by
      unfold F_sdirty_b0
      dsimp only
      rw [ifb_dec, if_neg (by omega)], hI⟩) (by omega)
  have h1' : lp (F_sdirty_b0 fl p u) fl (([] : List Int), 2) = some o := h1
  unfold F_sdirty
  rw [h1', bnd_s, h2]
theorem rdirty_eq {p : List (List Int)} {u : List Int} (hp : Pgs p) (hu : Used u) {fl : Nat} (hf : 2000 < fl) : F_rdirty fl p u = some (dl p u (p.length - 2)) := by
  have h6 := hp.few
  obtain ⟨L, hL, hL1, hL2⟩ := rof_eq hu hf
  obtain ⟨o, h1, h2⟩ := lp_inv (body := F_rdirty_b0 fl p L) (fun i (s : List Int) => (s, ((i + 2 : Nat) : Int))) (fun i s => s = dl p u i) (fun o => o = dl p u (p.length - 2)) (n := p.length - 2) (fl := fl) (s0 := []) rfl
    (fun i s hi hI => by
      subst hI
      left
      refine ⟨dl p u (i + 1), ?_, rfl⟩
      have hx := pg_at (p := p) (i := i + 2) (by omega)
      have hg := pgs_at hp hx
      have e : ((i + 2 : Nat) : Int) + 1 = ((i + 1 + 2 : Nat) : Int) := by omega
      unfold F_rdirty_b0
      dsimp only
      rw [ifb_dec, if_pos (by omega), decide_eq_false (p := (1023 : Int) < ((i + 2 : Nat) : Int)) (by omega), Bool.false_or, grd_i (beloI (by omega) (by omega)), grd_i (beloI (by omega) (by rw [hL1]; omega)), grd_i (belo (by omega)), getD_n (hL2 _ (by omega)), pg_d (by omega), rblank_eq (by omega) (by omega), gif_s, bnd_s, wrap_i64 (by omega), e]
      have hd := dl_len p u i
      cases hh : has u (i + 2) <;> cases hz : nz (pg p (i + 2))
      · rw [dl_n (by rw [hh, hz]; rfl)]; rfl
      · rw [dl_y (by rw [hh, hz]; rfl)]; exact (bnd_eq (app_ok hd (by omega)) _).trans rfl
      · rw [dl_n (by rw [hh, hz]; rfl)]; rfl
      · rw [dl_n (by rw [hh, hz]; rfl)]; rfl)
    (fun s hI => ⟨s, by
      unfold F_rdirty_b0
      dsimp only
      rw [ifb_dec, if_neg (by omega)], hI⟩) (by omega)
  have h1' : lp (F_rdirty_b0 fl p L) fl (([] : List Int), 2) = some o := h1
  unfold F_rdirty
  rw [grd_t hu.len, hL, bnd_s, grd_t (List.length_replicate ..), grd_t hL1, h1', bnd_s, h2]
/-- All used ones up to n are right. -/
def okU (p : List (List Int)) (u : List Int) (n : Nat) : Bool := (List.range n).all fun j => !has u (j + 2) || okP (pg p (j + 2))
theorem okU_succ (p : List (List Int)) (u : List Int) (n : Nat) : okU p u (n + 1) = (okU p u n && (!has u (n + 2) || okP (pg p (n + 2)))) := by
  unfold okU; rw [List.range_succ, List.all_append]; simp
theorem okU_bad {p : List (List Int)} {u : List Int} {i n : Nat} (hi : i < n) (h1 : has u (i + 2) = true) (h2 : okP (pg p (i + 2)) = false) : okU p u n = false := by
  unfold okU
  rw [List.all_eq_false]
  exact ⟨i, List.mem_range.2 hi, by rw [h1, h2]; decide⟩
def cl (p : List (List Int)) (u : List Int) : Bool := okU p u (p.length - 2) && decide ((dl p u (p.length - 2)).length = 0)
theorem sclean_eq {p : List (List Int)} {u : List Int} (hp : Pgs p) (hu : Used u) {fl : Nat} (hf : 2000 < fl) : F_sclean fl p u = some (cl p u) := by
  have h6 := hp.few
  obtain ⟨o, h1, h2⟩ := lp_inv (body := F_sclean_b0 fl p u) (fun i (_ : Unit) => ((i + 2 : Nat) : Int)) (fun i s => okU p u i = true) (fun o => o = if okU p u (p.length - 2) = true then .inr () else .inl false) (n := p.length - 2) (fl := fl) (s0 := ()) rfl
    (fun i s hi hI => by
      have hx := pg_at (p := p) (i := i + 2) (by omega)
      have hg := pgs_at hp hx
      unfold F_sclean_b0
      rw [ifb_dec, if_pos (by omega), grd_t hu.len, bhas_eq hu (by omega), bnd_s, wrap_i64 (by omega)]
      cases hh : has u (i + 2) with
      | false =>
        left
        refine ⟨(), ?_, by rw [okU_succ, hI, hh]; rfl⟩
        rw [Bool.not_false, ifb_1, bnd_s, ocs_2]
        rfl
      | true =>
        obtain ⟨r, hr, hr2⟩ := sopen_eq (fl := fl) hg.2 (by omega)
        rw [Bool.not_true, ifb_0, ixb_n hx, hr, bnd_s, hr2]
        cases ho : okP (pg p (i + 2)) with
        | false =>
          right
          refine ⟨.inl false, by rw [Bool.not_false, ifb_1, bnd_s, ocs_1], ?_⟩
          rw [okU_bad hi hh ho]; rfl
        | true =>
          left
          refine ⟨(), ?_, by rw [okU_succ, hI, hh, ho]; rfl⟩
          rw [Bool.not_true, ifb_0, bnd_s, ocs_2]
          rfl)
    (fun s hI => ⟨.inr (), by
      unfold F_sclean_b0
      rw [ifb_dec, if_neg (by omega)], by rw [hI]; rfl⟩) (by omega)
  have h1' : lp (F_sclean_b0 fl p u) fl 2 = some o := h1
  unfold F_sclean cl
  rw [h1', bnd_s, h2]
  cases okU p u (p.length - 2) with
  | false => rfl
  | true =>
    rw [if_pos rfl, ocs_2, grd_t hu.len, sdirty_eq hp hu hf, bnd_s, Bool.true_and]
    exact congrArg some (decide_eq_decide.2 (by omega))
theorem rclean_eq {p : List (List Int)} {u : List Int} (hp : Pgs p) (hu : Used u) {fl : Nat} (hf : 2000 < fl) : F_rclean fl p u = some (cl p u) := by
  have h6 := hp.few
  obtain ⟨L, hL, hL1, hL2⟩ := rof_eq hu hf
  obtain ⟨o, h1, h2⟩ := lp_inv (body := F_rclean_b0 fl p L) (fun i (_ : Unit) => ((i + 2 : Nat) : Int)) (fun i s => okU p u i = true) (fun o => o = if okU p u (p.length - 2) = true then .inr () else .inl false) (n := p.length - 2) (fl := fl) (s0 := ()) rfl
    (fun i s hi hI => by
      have hx := pg_at (p := p) (i := i + 2) (by omega)
      have hg := pgs_at hp hx
      obtain ⟨r, hr, hr2⟩ := ropen_eq (fl := fl) hg.2 hg.1 (by omega)
      unfold F_rclean_b0
      rw [decide_eq_true (p := ((i + 2 : Nat) : Int) < (p.length : Int)) (by omega), decide_eq_true (p := ((i + 2 : Nat) : Int) < 1024) (by omega), Bool.true_and, ifb_1, ixb_n hx, hr, bnd_s, grd_t (beloI (by omega) (by omega)), Int.toNat_natCast, ixb_n (hL2 _ (by omega)), hr2, wrap_i64 (by omega)]
      cases hh : has u (i + 2) with
      | false =>
        left
        exact ⟨(), rfl, by rw [okU_succ, hI, hh]; rfl⟩
      | true =>
        cases ho : okP (pg p (i + 2)) with
        | false =>
          right
          refine ⟨.inl false, rfl, ?_⟩
          rw [okU_bad hi hh ho]; rfl
        | true =>
          left
          exact ⟨(), rfl, by rw [okU_succ, hI, hh, ho]; rfl⟩)
    (fun s hI => ⟨.inr (), by
      unfold F_rclean_b0
      rw [decide_eq_false (p := ((p.length - 2 + 2 : Nat) : Int) < (p.length : Int)) (by omega), Bool.false_and, ifb_0], by rw [hI]; rfl⟩) (by omega)
  have h1' : lp (F_rclean_b0 fl p L) fl 2 = some o := h1
  unfold F_rclean cl
  rw [grd_t hu.len, hL, bnd_s, grd_t (List.length_replicate ..), grd_t hL1, h1', bnd_s, h2]
  cases okU p u (p.length - 2) with
  | false => rfl
  | true =>
    rw [if_pos rfl, ocs_2, grd_t hu.len, rdirty_eq hp hu hf, bnd_s, Bool.true_and]
    exact congrArg some (decide_eq_decide.2 (by omega))
end Go.Proofs.Ytmnhfpcbfdgbcaa.Eng.A

/- The scrub: what stands behind loads; the law. -/
namespace Go.Proofs.Ytmnhfpcbfdgbcaa.Eng.A
set_option linter.unusedVariables false
set_option linter.unusedSimpArgs false
open Go.RowKit Go.Proofs.Ytmnhfpcbfdgbcaa.Plain Go.Proofs.Ytmnhfpcbfdgbcaa.Eng Go.Proofs.Ytmnhfpcbfdgbcaa.Eng.Pk Go.Proofs.Ytmnhfpcbfdgbcaa.Eng.Rd

def nc (l : List Int) : Nat := l.countP fun x => decide (x ≠ 0)
theorem nc_snoc (l : List Int) (x : Int) : nc (l ++ [x]) = nc l + (if x ≠ 0 then 1 else 0) := by
  unfold nc; rw [List.countP_append, List.countP_singleton]; simp
theorem nc_le (l : List Int) : nc l ≤ l.length := List.countP_le_length
/-- What stands behind the load of a page. -/
def tl (l : List Int) : List Int := (l.take 508).drop (4 + num l)
def use (p : List (List Int)) (u : List Int) (i : Nat) : Bool := has u (i + 2) && decide ((pg p (i + 2)).length = 512)
def sa (p : List (List Int)) (u : List Int) : Nat → Nat
  | 0 => 0
  | i + 1 => sa p u i + (if use p u i = true then (tl (pg p (i + 2))).length else 0)
def sw (p : List (List Int)) (u : List Int) : Nat → Nat
  | 0 => 0
  | i + 1 => sw p u i + (if use p u i = true then nc (tl (pg p (i + 2))) else 0)
theorem tl_le (l : List Int) : (tl l).length ≤ 504 := by unfold tl; rw [List.length_drop, List.length_take]; omega
theorem sa_le (p : List (List Int)) (u : List Int) : ∀ i, sa p u i ≤ 504 * i
  | 0 => by simp [sa]
  | i + 1 => by have := sa_le p u i; have := tl_le (pg p (i + 2)); rw [sa]; split <;> omega
theorem sw_le (p : List (List Int)) (u : List Int) : ∀ i, sw p u i ≤ 504 * i
  | 0 => by simp [sw]
  | i + 1 => by have := sw_le p u i; have := tl_le (pg p (i + 2)); have := nc_le (tl (pg p (i + 2))); rw [sw]; split <;> omega
theorem sin_eq {l : List Int} {a w fl : Nat} (hl : l.length ≤ 504) (ha : a ≤ 100000) (hw : w ≤ 100000) (hf : 2000 < fl) : lp (F_sslack_b1 l) fl ((a : Int), (w : Int), 0) = some (((a + l.length : Nat) : Int), ((w + nc l : Nat) : Int)) := by
  obtain ⟨o, h1, h2⟩ := lp_inv (body := F_sslack_b1 l) (fun i (s : Nat × Nat) => ((s.1 : Int), (s.2 : Int), (i : Int))) (fun i s => s = (a + i, w + nc (l.take i)) ) (fun o => o = (((a + l.length : Nat) : Int), ((w + nc l : Nat) : Int))) (n := l.length) (fl := fl) (s0 := (a, w)) rfl
    (fun i s hi hI => by
      subst hI
      left
      have hx := List.getElem?_eq_getElem hi
      refine ⟨(a + (i + 1), w + nc (l.take (i + 1))), ?_, rfl⟩
      have hn := nc_le (l.take i)
      rw [List.length_take] at hn
      have hs := nc_snoc (l.take i) l[i]
      rw [List.take_add_one, hx, Option.toList_some, hs]
      unfold F_sslack_b1
      dsimp only
      rw [ifb_dec, if_pos (by omega), ixb_n hx, ifb_dec, wrap_i64 (by omega), wrap_i64 (by omega), wrap_i64 (by omega)]
      by_cases h0 : l[i] = 0
      · rw [if_neg (by simpa using h0), bnd_s, if_neg (by simpa using h0)]; rfl
      · rw [if_pos h0, bnd_s, if_pos h0]; rfl)
    (fun s hI => ⟨_, by
      unfold F_sslack_b1
      dsimp only
      rw [ifb_dec, if_neg (by omega)], by rw [hI, List.take_length]⟩) (by omega)
  have h1' : lp (F_sslack_b1 l) fl ((a : Int), (w : Int), 0) = some o := h1
  rw [h1', h2]
theorem num_at {l : List Int} (hl : l.length = 512) (hb : Bts l) : ∃ x y, l[2]? = some x ∧ l[3]? = some y ∧ (0 ≤ x ∧ x < 256) ∧ (0 ≤ y ∧ y < 256) ∧ (256 : Int) * x + y = ((num l : Nat) : Int) ∧ num l < 65536 := by
  have g2 := List.getElem?_eq_getElem (l := l) (i := 2) (by omega)
  have g3 := List.getElem?_eq_getElem (l := l) (i := 3) (by omega)
  have b2 := hb _ (List.mem_of_getElem? g2)
  have b3 := hb _ (List.mem_of_getElem? g3)
  have d2 : l.getD 2 0 = l[2] := by rw [List.getD_eq_getElem?_getD, g2]; rfl
  have d3 : l.getD 3 0 = l[3] := by rw [List.getD_eq_getElem?_getD, g3]; rfl
  have hn : (256 : Int) * l[2] + l[3] = ((num l : Nat) : Int) := by unfold num; rw [d2, d3]; omega
  exact ⟨_, _, g2, g3, b2, b3, hn, by omega⟩
theorem behind_eq {l : List Int} (hl : l.length = 512) (hb : Bts l) : F_behind l = some (tl l) := by
  obtain ⟨x, y, g2, g3, b2, b3, hn, hn2⟩ := num_at hl hb
  unfold F_behind tl
  rw [ixb_at (i := 2) (by decide) g2, ixb_at (i := 3) (by decide) g3]
  simp only [or_by b2 b3, hn]
  have e : IntKind.i64.wrap ((l.length : Int) - 4) = 508 := by rw [hl]; decide
  rw [e]
  by_cases h5 : 504 < num l
  · rw [if_pos (by omega)]
    rw [show IntKind.i64.wrap (4 + 504) = 508 by decide, grd_t (btwI (by decide) (by decide) (by omega))]
    rw [show ((508 : Int)).toNat = 508 from rfl, List.drop_eq_nil_of_le (by rw [List.length_take]; omega), List.drop_eq_nil_of_le (by rw [List.length_take]; omega)]
  · rw [if_neg (by omega), wrap_i64 (by omega), grd_t (btwI (by omega) (by omega) (by omega))]
    rw [show (4 + (num l : Int)).toNat = 4 + num l by omega]; rfl
theorem sslack_eq {p : List (List Int)} {u : List Int} (hp : Pgs p) (hu : Used u) {fl : Nat} (hf : 2000 < fl) : F_sslack fl p u = some ((sa p u (p.length - 2) : Int), (sw p u (p.length - 2) : Int)) := by
  have h6 := hp.few
  obtain ⟨o, h1, h2⟩ := lp_inv (body := F_sslack_b0 fl p u) (fun i (s : Nat × Nat) => ((s.1 : Int), (s.2 : Int), ((i + 2 : Nat) : Int))) (fun i s => s = (sa p u i, sw p u i)) (fun o => o = ((sa p u (p.length - 2) : Int), (sw p u (p.length - 2) : Int))) (n := p.length - 2) (fl := fl) (s0 := (0, 0)) rfl
    (fun i s hi hI => by
      subst hI
      left
      refine ⟨(sa p u (i + 1), sw p u (i + 1)), ?_, rfl⟩
      have hx := pg_at (p := p) (i := i + 2) (by omega)
      have hg := pgs_at hp hx
      have ha := sa_le p u i
      have hw := sw_le p u i
      have e : ((i + 2 : Nat) : Int) + 1 = ((i + 1 + 2 : Nat) : Int) := by omega
      unfold F_sslack_b0
      dsimp only
      rw [ifb_dec, if_pos (by omega), grd_t hu.len, bhas_eq hu (by omega), bnd_s, grd_i (belo (by omega)), pg_d (by omega), wrap_i64 (by omega), e]
      rw [sa, sw]
      by_cases hh : use p u i = true
      · rw [if_pos hh, if_pos hh]
        unfold use at hh
        rw [Bool.and_eq_true, decide_eq_true_eq] at hh
        rw [hh.1, decide_eq_false (by omega), Bool.not_true, Bool.or_false, ifb_0, ixb_n hx, behind_eq hh.2 hg.2, bnd_s]
        rw [sin_eq (tl_le _) (by omega) (by omega) hf, bnd_s]
      · rw [if_neg hh, if_neg hh]
        have hc : ((!has u (i + 2)) || (decide (((pg p (i + 2)).length : Int) ≠ 512))) = true := by
          unfold use at hh
          cases hu2 : has u (i + 2) with
          | false => rfl
          | true =>
            rw [hu2, Bool.true_and, decide_eq_true_eq] at hh
            rw [decide_eq_true (by omega)]; rfl
        rw [hc, ifb_1, bnd_s]
        rfl)
    (fun s hI => ⟨_, by
      unfold F_sslack_b0
      dsimp only
      rw [ifb_dec, if_neg (by omega)], by rw [hI]⟩) (by omega)
  have h1' : lp (F_sslack_b0 fl p u) fl (0, 0, 2) = some o := h1
  unfold F_sslack
  rw [h1', bnd_s, h2]
theorem rin_eq {p : List (List Int)} {t : Int × Int × Int} {x y : Int} {l : List Int} {i a w fl : Nat} (hl : l.length = 512) (hb : Bts l) (ht : t.2.2 = (i : Int)) (hx : p[i]? = some l) (h2 : l[2]? = some x) (h3 : l[3]? = some y) (ha : a ≤ 100000) (hw : w ≤ 100000) (hf : 2000 < fl) :
    lp (F_rslack_b1 p t x y) fl ((a : Int), (w : Int), 4) = some (((a + (tl l).length : Nat) : Int), ((w + nc (tl l) : Nat) : Int)) := by
  obtain ⟨x', y', g2, g3, b2, b3, hn, hn2⟩ := num_at hl hb
  obtain rfl : x' = x := by rw [h2] at g2; exact (Option.some.inj g2).symm
  obtain rfl : y' = y := by rw [h3] at g3; exact (Option.some.inj g3).symm
  let P : Nat → List Int := fun k => (l.take (4 + k)).drop (4 + num l)
  have hP0 : P 0 = [] := List.drop_eq_nil_of_le (by rw [List.length_take]; omega)
  have hPlen : ∀ k, (P k).length ≤ k := fun k => by show ((l.take (4 + k)).drop (4 + num l)).length ≤ k; rw [List.length_drop, List.length_take]; omega
  have hPs : ∀ k v, l[4 + k]? = some v → P (k + 1) = P k ++ if num l ≤ k then [v] else [] := fun k v hv => by
    have hk := (List.getElem?_eq_some_iff.1 hv).1
    show (l.take (4 + (k + 1))).drop (4 + num l) = (l.take (4 + k)).drop (4 + num l) ++ _
    rw [show 4 + (k + 1) = 4 + k + 1 by omega, List.take_add_one, hv, List.drop_append, List.length_take]
    congr 1
    split
    · rw [show 4 + num l - min (4 + k) l.length = 0 by omega]; rfl
    · rw [List.drop_eq_nil_of_le]; simp; omega
  obtain ⟨o, h1, h2⟩ := lp_inv (body := F_rslack_b1 p t x' y') (fun k (s : Nat × Nat) => ((s.1 : Int), (s.2 : Int), ((4 + k : Nat) : Int))) (fun k s => s = (a + (P k).length, w + nc (P k))) (fun o => o = (((a + (tl l).length : Nat) : Int), ((w + nc (tl l) : Nat) : Int))) (n := 504) (fl := fl) (s0 := (a, w)) (by rw [hP0]; rfl)
    (fun k s hk hI => by
      subst hI
      left
      have hv := List.getElem?_eq_getElem (l := l) (i := 4 + k) (by omega)
      refine ⟨(a + (P (k + 1)).length, w + nc (P (k + 1))), ?_, rfl⟩
      have hn1 := nc_le (P k)
      have hl1 := hPlen k
      have e5 : IntKind.i64.wrap (((4 + k : Nat) : Int) + 1) = ((4 + (k + 1) : Nat) : Int) := by rw [wrap_i64 (by omega)]; omega
      unfold F_rslack_b1
      dsimp only
      rw [ifb_dec, if_pos (by omega), wn b2 b3 hn, wrap_i64 (n := 4 + (num l : Int)) (by omega), e5, ifb_dec, hPs k _ hv]
      by_cases hk2 : num l ≤ k
      · rw [if_pos (by omega), if_pos hk2, ht, ixb_n hx, ixb_n hv, ifb_dec, nc_snoc, List.length_append, wrap_i64 (by omega), wrap_i64 (by omega)]
        by_cases h0 : l[4 + k] = 0
        · rw [if_neg (by simpa using h0), bnd_s, if_neg (by simpa using h0)]; rfl
        · rw [if_pos h0, bnd_s, if_pos h0]; rfl
      · rw [if_neg (by omega), if_neg hk2, bnd_s, List.append_nil])
    (fun s hI => ⟨_, by
      unfold F_rslack_b1
      dsimp only
      rw [ifb_dec, if_neg (by omega)], by rw [hI]; rfl⟩) (by omega)
  have h1' : lp (F_rslack_b1 p t x' y') fl ((a : Int), (w : Int), 4) = some o := h1
  rw [h1', h2]
theorem rslack_eq {p : List (List Int)} {u : List Int} (hp : Pgs p) (hu : Used u) {fl : Nat} (hf : 2000 < fl) : F_rslack fl p u = some ((sa p u (p.length - 2) : Int), (sw p u (p.length - 2) : Int)) := by
  have h6 := hp.few
  obtain ⟨L, hL, hL1, hL2⟩ := rof_eq hu hf
  obtain ⟨o, h1, h2⟩ := lp_inv (body := F_rslack_b0 fl p L) (fun i (s : Nat × Nat) => ((s.1 : Int), (s.2 : Int), ((i + 2 : Nat) : Int))) (fun i s => s = (sa p u i, sw p u i)) (fun o => o = ((sa p u (p.length - 2) : Int), (sw p u (p.length - 2) : Int))) (n := p.length - 2) (fl := fl) (s0 := (0, 0)) rfl
    (fun i s hi hI => by
      subst hI
      left
      refine ⟨(sa p u (i + 1), sw p u (i + 1)), ?_, rfl⟩
      have hx := pg_at (p := p) (i := i + 2) (by omega)
      have hg := pgs_at hp hx
      have ha := sa_le p u i
      have hw := sw_le p u i
      have e : ((i + 2 : Nat) : Int) + 1 = ((i + 1 + 2 : Nat) : Int) := by omega
      unfold F_rslack_b0
      dsimp only
      rw [decide_eq_true (p := ((i + 2 : Nat) : Int) < (p.length : Int)) (by omega), decide_eq_true (p := ((i + 2 : Nat) : Int) < 1024) (by omega), Bool.true_and, ifb_1, grd_t (beloI (by omega) (by omega)), Int.toNat_natCast, ixb_n (hL2 _ (by omega)), grd_i (belo (by omega)), wrap_i64 (by omega), e]
      have hpd : p.getD (i + 2) default = pg p (i + 2) := rfl
      rw [hpd, sa, sw]
      by_cases hh : use p u i = true
      · rw [if_pos hh, if_pos hh]
        unfold use at hh
        rw [Bool.and_eq_true, decide_eq_true_eq] at hh
        obtain ⟨x, y, g2, g3, _⟩ := num_at hh.2 hg.2
        rw [hh.1, decide_eq_false (by omega), Bool.not_true, Bool.or_false, ifb_0, ixb_n hx, ixb_at (i := 2) (by decide) g2, ixb_n hx, ixb_at (i := 3) (by decide) g3]
        rw [rin_eq hh.2 hg.2 rfl hx g2 g3 (by omega) (by omega) hf, bnd_s]
      · rw [if_neg hh, if_neg hh]
        have hc : ((!has u (i + 2)) || (decide (((pg p (i + 2)).length : Int) ≠ 512))) = true := by
          unfold use at hh
          cases hu2 : has u (i + 2) with
          | false => rfl
          | true =>
            rw [hu2, Bool.true_and, decide_eq_true_eq] at hh
            rw [decide_eq_true (by omega)]; rfl
        rw [hc, ifb_1, bnd_s]
        rfl)
    (fun s hI => ⟨_, by
      unfold F_rslack_b0
      dsimp only
      rw [decide_eq_false (p := ((p.length - 2 + 2 : Nat) : Int) < (p.length : Int)) (by omega), Bool.false_and, ifb_0], by rw [hI]⟩) (by omega)
  have h1' : lp (F_rslack_b0 fl p L) fl (0, 0, 2) = some o := h1
  unfold F_rslack
  rw [grd_t hu.len, hL, bnd_s, grd_t (List.length_replicate ..), grd_t hL1, h1', bnd_s, h2]
end Go.Proofs.Ytmnhfpcbfdgbcaa.Eng.A

/- The scrub: the law ScrubTells. -/
namespace Go.Proofs.Ytmnhfpcbfdgbcaa.Eng.A
set_option linter.unusedVariables false
set_option linter.unusedSimpArgs false
open Go.RowKit Go.Proofs.Ytmnhfpcbfdgbcaa.Plain Go.Proofs.Ytmnhfpcbfdgbcaa.Eng Go.Proofs.Ytmnhfpcbfdgbcaa.Eng.Pk Go.Proofs.Ytmnhfpcbfdgbcaa.Eng.Rd

instance (l : List Int) : Decidable (Bts l) := inferInstanceAs (Decidable (∀ x ∈ l, _))
def P0 : List (List Int) := [[], [], List.replicate 512 0, [1]]
def U0 : List Int := [0, 0, 0, 0, 0, 0, 0, 0, 0, 0, 0, 0, 0, 0, 0, 0]
def U4 : List Int := [15, 0, 0, 0, 0, 0, 0, 0, 0, 0, 0, 0, 0, 0, 0, 0]
theorem P0_ok : Pgs P0 := ⟨by decide, by decide +kernel, by decide +kernel⟩
theorem P3_ok : Pgs (P0.take 3) := ⟨by decide, by decide +kernel, by decide +kernel⟩
theorem U0_ok : Used U0 := ⟨rfl, by decide⟩
theorem U4_ok : Used U4 := ⟨rfl, by decide⟩
set_option maxRecDepth 100000 in
theorem below4 {fl : Nat} (hf : 100 < fl) : F_bbelow fl 4 = some U4 := by
  have h := lp_seq (body := F_bbelow_b0 4) (o := U4) (fl := fl) (fun i => ((i : Int), if i = 0 then U0 else U4)) (n := 16) (fun i hi => by
    have : ∀ i : Nat, i < 16 → F_bbelow_b0 4 ((i : Int), if i = 0 then U0 else U4) = some (.inl (((i + 1 : Nat) : Int), if i + 1 = 0 then U0 else U4)) := by decide +kernel
    exact this i hi) (by decide +kernel) (by omega)
  have h' : lp (F_bbelow_b0 4) fl (0, (List.replicate 16 (0 : Int))) = some U4 := h
  unfold F_bbelow
  rw [h', bnd_s]; rfl
theorem d0 : dl P0 U0 (P0.length - 2) = [3] := by decide +kernel
theorem c0 : cl P0 U0 = false := by decide +kernel
theorem c3 : cl (P0.take 3) U0 = true := by decide +kernel
theorem c4 : cl P0 U4 = false := by unfold cl; rw [okU_bad (i := 1) (by decide) (by decide) (by decide)]; rfl
theorem a4 : sa P0 U4 (P0.length - 2) = 504 := by decide +kernel
theorem w4 : sw P0 U4 (P0.length - 2) = 0 := by decide +kernel
theorem sure22_eq {fl : Nat} (hf : 2000 < fl) : F_sure22 fl = some true := by
  unfold F_sure22
  rw [show ([[], [], (List.replicate 512 (0 : Int)), ([1] : (List Int))] : (List (List Int))) = P0 from rfl, show ([0, 0, 0, 0, 0, 0, 0, 0, 0, 0, 0, 0, 0, 0, 0, 0] : List Int) = U0 from rfl]
  rw [show ((3 : Int)).toNat = 3 from rfl]
  rw [sdirty_eq P0_ok U0_ok hf, bnd_s, d0, below4 (by omega), bnd_s, sslack_eq P0_ok U4_ok hf, bnd_s, a4, w4, sclean_eq P0_ok U0_ok hf, sclean_eq P3_ok U0_ok hf, c0, c3]
  have e4 := sclean_eq P0_ok U4_ok hf
  rw [c4] at e4
  show bnd (F_sclean fl P0 U4) (fun x_7 => some ((((true && !x_7) && decide (((504 : Nat) : Int) = 504)) && decide (((0 : Nat) : Int) = 0)))) = _
  rw [e4]; rfl
theorem sTells_eq {p : List (List Int)} {u : List Int} (hu : Used u) (hb : ∀ l ∈ p, Bts l) {fl : Nat} (hf : 2000 < fl) : F_sTells fl p u = some true := by
  have hs := sure22_eq hf
  unfold F_sTells
  rw [ifb_dec]
  by_cases h6 : p.length ≤ 60
  · rw [if_neg (by omega)]
    have hB : ∀ (i : Nat) x, p[i]? = some x → F_sTells_b0 fl p (i : Int) = if 600 < x.length then some (.inr (.inl true)) else some (.inl ((i + 1 : Nat) : Int)) := fun i x hx => by
      have hi := (List.getElem?_eq_some_iff.1 hx).1
      unfold F_sTells_b0
      rw [ifb_dec, if_pos (by omega), ixb_n hx, ifb_dec, hs, bnd_s, wrap_i64 (by omega)]
      by_cases h7 : 600 < x.length
      · rw [if_pos (by omega), if_pos h7]
      · rw [if_neg (by omega), if_neg h7]; rfl
    obtain ⟨o, h1, h2⟩ := lp_inv (body := F_sTells_b0 fl p) (fun i (_ : Unit) => (i : Int)) (fun i _ => ∀ l ∈ p.take i, l.length ≤ 600) (fun o => o = .inl true ∨ (o = .inr () ∧ ∀ l ∈ p, l.length ≤ 600)) (n := p.length) (fl := fl) (s0 := ()) (by simp)
      (fun i _ hi hI => by
        have hx := List.getElem?_eq_getElem hi
        rw [hB i _ hx]
        by_cases h7 : 600 < p[i].length
        · rw [if_pos h7]; exact .inr ⟨_, rfl, .inl rfl⟩
        · rw [if_neg h7]
          refine .inl ⟨(), rfl, fun l hl => ?_⟩
          rw [List.take_add_one, hx, List.mem_append] at hl
          rcases hl with hl | hl
          · exact hI l hl
          · simp at hl; subst hl; omega)
      (fun _ hI => ⟨.inr (), by unfold F_sTells_b0; rw [ifb_dec, if_neg (by omega)], .inr ⟨rfl, by simpa using hI⟩⟩) (by omega)
    have h1' : lp (F_sTells_b0 fl p) fl 0 = some o := h1
    rw [h1', bnd_s]
    rcases h2 with rfl | ⟨rfl, h7⟩
    · rfl
    · have hp : Pgs p := ⟨h6, h7, hb⟩
      rw [ocs_2, grd_t hu.len, sdirty_eq hp hu hf, bnd_s, grd_t hu.len, rdirty_eq hp hu hf, bnd_s, decide_eq_false (by simp), ifb_0]
      have hd := dl_len p u (p.length - 2)
      have hl : lp (F_sTells_b1 (dl p u (p.length - 2)) (dl p u (p.length - 2))) fl ((0 : Nat) : Int) = some (.inr ()) := by
        generalize dl p u (p.length - 2) = D at hd
        refine lp_seq (fun i => ((i : Nat) : Int)) (n := D.length) (fun i hi => ?_) ?_ (by omega)
        · have hx := List.getElem?_eq_getElem hi
          unfold F_sTells_b1
          rw [ifb_dec, if_pos (by omega), ixb_n hx, ixb_n hx, decide_eq_false (by simp), ifb_0, wrap_i64 (by omega)]; rfl
        · unfold F_sTells_b1
          rw [ifb_dec, if_neg (by omega)]
      have hl' : lp (F_sTells_b1 (dl p u (p.length - 2)) (dl p u (p.length - 2))) fl 0 = some (.inr ()) := hl
      rw [hl', bnd_s, ocs_2, grd_t hu.len, sslack_eq hp hu hf, bnd_s, grd_t hu.len, rslack_eq hp hu hf, bnd_s, grd_t hu.len, sclean_eq hp hu hf, bnd_s, grd_t hu.len, rclean_eq hp hu hf, bnd_s, hs]
      simp
  · rw [if_pos (by omega), hs, bnd_s]
end Go.Proofs.Ytmnhfpcbfdgbcaa.Eng.A
