/- varint.Get by its contract. -/
import Derived.Test.YtmnhfpcbfdgbcaaDoorNum06
namespace Go.Proofs.YtmnhfpcbfdgbcaaDoor.Hand
set_option linter.unusedVariables false
set_option linter.unusedSimpArgs false
open Go.RowKit Go.Proofs.YtmnhfpcbfdgbcaaDoorW.PrintWords Go.Proofs.YtmnhfpcbfdgbcaaDoorW.PrintLast Go.Proofs.YtmnhfpcbfdgbcaaDoorW.PrintMore Go.Proofs.YtmnhfpcbfdgbcaaDoor.Plain

theorem drop_cons {l : List Int} {i : Nat} (h : i < l.length) : ∃ c, rd l i = c ∧ l.drop i = c :: l.drop (i + 1) ∧ c ∈ l := by
  refine ⟨l[i], ?_, List.drop_eq_getElem_cons h, List.getElem_mem h⟩
  simp [rd, List.getD, h]

theorem u64_wrap_nat {n : Nat} (h : n < 18446744073709551616) : IntKind.u64.wrap (n : Int) = (n : Int) := by
  simp only [IntKind.wrap, IntKind.bits, IntKind.signed]
  simp
  omega
theorem andnot128 (ch : Int) (h0 : 0 ≤ ch) (h1 : ch < 256) : bits BinOp.andNot .u8 ch 128 = ch % 128 := by
  have h : ∀ m, m < 256 → bits BinOp.andNot .u8 ((m : Nat) : Int) 128 = (m : Int) % 128 := by decide +kernel
  obtain ⟨n, rfl⟩ := Int.eq_ofNat_of_zero_le h0
  exact h n (by omega)

theorem or_low (v x i : Nat) (hv : v < 2 ^ i) (hx : v + x * 2 ^ i < 18446744073709551616) : bits BinOp.or .u64 (v : Int) ((x * 2 ^ i : Nat) : Int) = ((v + x * 2 ^ i : Nat) : Int) := by
  have h : v ||| x * 2 ^ i = v + x * 2 ^ i := by
    have := Nat.two_pow_add_eq_or_of_lt hv x
    rw [Nat.or_comm, Nat.mul_comm, ← this]; omega
  show IntKind.u64.wrap (BitVec.toNat (BitVec.ofInt 64 (v : Int) ||| BitVec.ofInt 64 ((x * 2 ^ i : Nat) : Int))) = _
  have hv2 : v < 18446744073709551616 := by omega
  have hx2 : x * 2 ^ i < 18446744073709551616 := by omega
  rw [BitVec.toNat_or, BitVec.ofInt_natCast, BitVec.ofInt_natCast, BitVec.toNat_ofNat, BitVec.toNat_ofNat, Nat.mod_eq_of_lt (by simpa using hv2), Nat.mod_eq_of_lt (by simpa using hx2), h]
  exact u64_wrap_nat hx
theorem ret3_of {a a' b b' : Int} {o o' : Value} (h1 : a = a') (h2 : b = b') (h3 : o = o') : Ending.returned (.tuple #[.int .u64 a, .int .i64 b, o]) = .returned (.tuple #[.int .u64 a', .int .i64 b', o']) := by rw [h1, h2, h3]
theorem pow128 (i : Nat) : 2 ^ (7 * i) = 128 ^ i := by rw [Nat.pow_mul]
theorem vshift (v i : Nat) (x : Nat) (hv : v < 128 ^ i) (hx : x < 128) (hs : v + x * 128 ^ i < 18446744073709551616) :
    bits BinOp.or .u64 (v : Int) (IntKind.u64.wrap (IntKind.u64.wrap ((x : Nat) : Int) * 2 ^ (7 * i))) = ((v + x * 128 ^ i : Nat) : Int) := by
  rw [u64_wrap_nat (show x < 18446744073709551616 by omega)]
  have e : ((x : Nat) : Int) * 2 ^ (7 * i) = ((x * 2 ^ (7 * i) : Nat) : Int) := by simp
  rw [e, pow128, u64_wrap_nat (by omega), ← pow128]
  exact or_low v x (7 * i) (by rw [pow128]; exact hv) (by rw [pow128]; exact hs)
theorem vstep (v i : Nat) (ch : Int) (h0 : 128 ≤ ch) (h1 : ch < 256) (hi : i < 9) (hv : v < 128 ^ i) (hi2 : i ≤ 9) :
    bits BinOp.or .u64 (v : Int) (IntKind.u64.wrap (IntKind.u64.wrap (bits BinOp.andNot .u8 ch 128) * 2 ^ (7 * i))) = ((v + (ch.toNat - 128) * 128 ^ i : Nat) : Int) := by
  obtain ⟨n, rfl⟩ := Int.eq_ofNat_of_zero_le (show 0 ≤ ch by omega)
  have e : ((n : Nat) : Int) % 128 = ((n - 128 : Nat) : Int) := by omega
  rw [andnot128 _ (by omega) h1, e, Int.toNat_natCast]
  refine vshift v i (n - 128) hv (by omega) ?_
  have h3 : (n - 128) * 128 ^ i ≤ 127 * 128 ^ i := Nat.mul_le_mul_right _ (by omega)
  have h4 : 128 ^ (i + 1) ≤ 128 ^ 9 := Nat.pow_le_pow_right (by omega) (by omega)
  rw [Nat.pow_succ] at h4
  omega
theorem vstep_last (v i : Nat) (ch : Int) (h0 : 0 ≤ ch) (h1 : ch < 128) (hv : v < 128 ^ i) (hi : i ≤ 9) (h9 : i = 9 → ch ≤ 1) :
    bits BinOp.or .u64 (v : Int) (IntKind.u64.wrap (IntKind.u64.wrap (bits BinOp.andNot .u8 ch 128) * 2 ^ (7 * i))) = ((v + ch.toNat * 128 ^ i : Nat) : Int) := by
  obtain ⟨n, rfl⟩ := Int.eq_ofNat_of_zero_le h0
  have e : ((n : Nat) : Int) % 128 = ((n : Nat) : Int) := by omega
  rw [andnot128 _ (by omega) (by omega), e, Int.toNat_natCast]
  refine vshift v i n hv (by omega) ?_
  by_cases hi9 : i = 9
  · subst hi9
    have : n ≤ 1 := by have := h9 rfl; omega
    have h3 : n * 128 ^ 9 ≤ 1 * 128 ^ 9 := Nat.mul_le_mul_right _ this
    omega
  · have h3 : n * 128 ^ i ≤ 127 * 128 ^ i := Nat.mul_le_mul_right _ (by omega)
    have h4 : 128 ^ (i + 1) ≤ 128 ^ 9 := Nat.pow_le_pow_right (by omega) (by omega)
    rw [Nat.pow_succ] at h4
    omega
theorem vbound (v i : Nat) (ch : Int) (h0 : 128 ≤ ch) (h1 : ch < 256) (hv : v < 128 ^ i) : v + (ch.toNat - 128) * 128 ^ i < 128 ^ (i + 1) := by
  have h3 : (ch.toNat - 128) * 128 ^ i ≤ 127 * 128 ^ i := Nat.mul_le_mul_right _ (by omega)
  rw [Nat.pow_succ]
  omega

set_option maxHeartbeats 4000000 in
set_option maxRecDepth 100000 in
theorem varint_get (A : Option Addr) (c : Nat) (l : List Int) (w : World) (hr : Kd.C (Kd.int .u8) w A l.length l) (hc : l.length ≤ c) (hb : Bts l) :
    Calls Tryd.prog 88 #[.slice A l.length c] w fun e w' => e = .returned (.tuple #[.int .u64 (vget l).1, .int .i64 (vget l).2.1, errV (vget l).2.2]) ∧ Drawn0 w w' := by
  have HR := Aside0.mk hr
  have HB := Aside0.mk hb
  clear hr hb
  go_enter Tryd.func88, Tryd.ntmps88
  go_wp2
  go_loopg [5, 10] l.length (fun kq v5 v10 w' => ∃ (i v : Nat), v5 = .int .u64 v ∧ v10 = .int .i64 i ∧ Aside0 (kq + i = l.length) ∧ i ≤ 9 ∧ Aside0 (v < 128 ^ i) ∧ Aside0 (vgl (l.drop i) i v = vget l) ∧ Drawn0 w w')
  case atStart => exact ⟨0, 0, rfl, rfl, ⟨by omega⟩, by omega, ⟨by omega⟩, ⟨rfl⟩, Drawn0.refl _⟩
  case round =>
    obtain ⟨i, v, rfl, rfl, HK, hi, HV, HE, ⟨m, rfl⟩⟩ := hrel
    by_cases hlt : i < l.length
    · obtain ⟨ch, hch, hd, hmem⟩ := drop_cons hlt
      have hc0 := (HB.out ch hmem).1
      have hc1 := (HB.out ch hmem).2
      obtain ⟨ad, ea, hcell⟩ := Kd.at_int HR.out i (by omega) (by omega)
      subst ea
      rw [hch, Int.toNat_natCast] at hcell
      have HD := Aside0.mk hd
      clear hd hch hmem
      obtain ⟨b1, hb1⟩ : ∃ b, (((i : Nat) : Int) == 9) = b := ⟨_, rfl⟩
      obtain ⟨b2, hb2⟩ : ∃ b, decide (1 < ch) = b := ⟨_, rfl⟩
      obtain ⟨b3, hb3⟩ : ∃ b, (ch == 0) = b := ⟨_, rfl⟩
      obtain ⟨b5, hb5⟩ : ∃ b, decide (ch < 128) = b := ⟨_, rfl⟩
      have HS : Aside0 (vgl (ch :: l.drop (i + 1)) i v = vget l) := ⟨by rw [← HD.out]; exact HE.out⟩
      have hb4 : (0 < i) ∨ ¬ 0 < i := Decidable.em _
      cases b1 <;> cases b2 <;> cases b3 <;> cases b5 <;> rcases hb4 with hb4 | hb4
      all_goals
        have e1 := hb1; have e2 := hb2; have e3 := hb3; have e5 := hb5
        simp only [beq_eq_false_iff_ne, beq_iff_eq, decide_eq_true_eq, decide_eq_false_iff_not] at e1 e2 e3 e5
        first
          | (exfalso; omega)
          | (have E : Aside0 (_ ∧ _ ∧ _ ∧ _) := ⟨e1, e2, e3, e5⟩
             clear e1 e2 e3 e5
             go_wp2
             first
               | (go_ret3; refine ⟨?_, by repeat (first | exact Drawn0.refl _ | apply Drawn0.step)⟩; obtain ⟨e1, e2, e3, e5⟩ := E.out; rw [← HS.out]; refine ret3_of ?_ ?_ ?_ <;> first | (rw [vgl, if_pos (by omega)]; rfl) | (rw [vgl, if_neg (by omega), if_pos (by omega)]; rfl) | (rw [vgl, if_neg (by omega), if_neg (by omega), if_pos (by omega)]; first | rfl | exact vstep_last v i ch (by omega) (by omega) HV.out (by omega) (by omega)))
               | (go_roundg (gk - 1); (case measure => have := HK.out; omega); (case rel => obtain ⟨e1, e2, e3, e5⟩ := E.out; exact ⟨i + 1, v + (ch.toNat - 128) * 128 ^ i, congrArg (Value.int .u64) (vstep v i ch (by omega) (by omega) (by omega) HV.out (by omega)), by go_num, ⟨by have := HK.out; omega⟩, by omega, ⟨vbound v i ch (by omega) (by omega) HV.out⟩, ⟨by rw [← HS.out]; rw [vgl, if_neg (by omega), if_neg (by omega), if_neg (by omega)]⟩, by repeat (first | exact Drawn0.refl _ | apply Drawn0.step)⟩)))
    · have HN : Aside0 (vget l = (0, 0, some 6)) := ⟨by rw [← HE.out, List.drop_eq_nil_of_le (by omega)]; rfl⟩
      go_wp2
      go_ret3
      refine ⟨?_, by repeat (first | exact Drawn0.refl _ | apply Drawn0.step)⟩
      rw [HN.out]
      rfl
end Go.Proofs.YtmnhfpcbfdgbcaaDoor.Hand
