/- Digits and numbers of the document, in plain Lean. -/
import Derived.Test.YtokcgacehdgkcaaGreatDoorEC5
namespace Go.Proofs.YtokcgacehdgkcaaGreatDoor.Eng.A
set_option linter.unusedVariables false
set_option linter.unusedSimpArgs false
open Go.RowKit Go.Proofs.YtokcgacehdgkcaaGreatDoor.Plain Go.Proofs.YtokcgacehdgkcaaGreatDoor.Eng Go.Proofs.YtokcgacehdgkcaaGreatDoor.Eng.Pk Go.Proofs.YtokcgacehdgkcaaGreatDoor.Eng.Rd Go.Lib

def isDg (c : UInt8) : Bool := decide (48 ≤ c.toNat) && decide (c.toNat ≤ 57)
def valU : Nat → List UInt8 → Nat
  | n, [] => n
  | n, c :: l => valU (10 * n + (c.toNat - 48)) l
theorem valU_app : ∀ (l : List UInt8) (n : Nat) (c : UInt8), valU n (l ++ [c]) = 10 * valU n l + (c.toNat - 48)
  | [], n, c => rfl
  | x :: l, n, c => by rw [List.cons_append]; exact valU_app l _ c
theorem dg_nat {k : Nat} (hk : k < 10) : (UInt8.ofNat (48 + k)).toNat = 48 + k := u8_nat (by omega)
theorem dec_val : ∀ u, valU 0 (decDigits u) = u := by
  intro u
  induction u using Nat.strongRecOn with
  | _ u ih =>
    by_cases h : u < 10
    · rw [decDigits, dif_pos h]
      show 10 * 0 + ((UInt8.ofNat (48 + u)).toNat - 48) = u
      rw [dg_nat h]; omega
    · rw [decDigits, dif_neg h, valU_app, ih (u / 10) (by omega), dg_nat (by omega)]; omega
theorem dec_all : ∀ u, (decDigits u).all isDg = true := by
  intro u
  have hd : ∀ k, k < 10 → isDg (UInt8.ofNat (48 + k)) = true := fun k hk => by unfold isDg; rw [dg_nat hk]; simp; omega
  induction u using Nat.strongRecOn with
  | _ u ih =>
    by_cases h : u < 10
    · rw [decDigits, dif_pos h, List.all_cons, hd u h]; rfl
    · rw [decDigits, dif_neg h]; simp only [List.all_append, ih (u / 10) (by omega), List.all_cons, List.all_nil, hd _ (show u % 10 < 10 by omega)]; rfl
theorem dec_head : ∀ u, 1 ≤ u → ∀ c, (decDigits u).head? = some c → c ≠ 48 := by
  intro u
  induction u using Nat.strongRecOn with
  | _ u ih =>
    intro hu c hc
    by_cases h : u < 10
    · rw [decDigits, dif_pos h] at hc
      simp only [List.head?_cons, Option.some.injEq] at hc
      subst hc
      intro e
      have := congrArg UInt8.toNat e
      rw [dg_nat h] at this
      have h48 : (48 : UInt8).toNat = 48 := rfl
      omega
    · rw [decDigits, dif_neg h] at hc
      have hne := dec_ne (u / 10)
      rw [show (decDigits (u / 10) ++ [UInt8.ofNat (48 + u % 10)]).head? = (decDigits (u / 10)).head? by cases hd : decDigits (u / 10) with | nil => exact absurd hd hne | cons x m => rfl] at hc
      exact ih (u / 10) (by omega) (by omega) c hc
theorem ofNat_dg {c : UInt8} (h : isDg c = true) : UInt8.ofNat (48 + (c.toNat - 48)) = c := by
  unfold isDg at h
  simp only [Bool.and_eq_true, decide_eq_true_eq] at h
  rw [show 48 + (c.toNat - 48) = c.toNat by omega]
  simp
theorem val_pos : ∀ (l : List UInt8) (n : Nat), 1 ≤ n → 1 ≤ valU n l
  | [], n, h => h
  | c :: l, n, h => val_pos l _ (by omega)
/-- A text of digits without needless noughts is its number's. -/
theorem dec_canon : ∀ (k : Nat) (l : List UInt8), l.length = k + 1 → l.all isDg = true → (1 < l.length → ∀ c, l.head? = some c → c ≠ 48) → decDigits (valU 0 l) = l := by
  intro k
  induction k with
  | zero =>
    intro l hl ha _
    match l, hl with
    | [c], _ =>
      have hc : isDg c = true := by simpa using ha
      have h2 := hc
      unfold isDg at h2
      simp only [Bool.and_eq_true, decide_eq_true_eq] at h2
      show decDigits (10 * 0 + (c.toNat - 48)) = [c]
      rw [show 10 * 0 + (c.toNat - 48) = c.toNat - 48 by omega, decDigits, dif_pos (by omega), ofNat_dg hc]
  | succ k ih =>
    intro l hl ha hh
    rcases List.eq_nil_or_concat l with h | ⟨m, c, rfl⟩
    · subst h; simp at hl
    · rw [List.concat_eq_append] at *
      have hm : m.length = k + 1 := by simpa using hl
      have hc : isDg c = true := by
        have := List.all_eq_true.1 ha c (by simp); exact this
      have h2 := hc
      unfold isDg at h2
      simp only [Bool.and_eq_true, decide_eq_true_eq] at h2
      have hma : m.all isDg = true := List.all_eq_true.2 fun x hx => List.all_eq_true.1 ha x (by simp [hx])
      obtain ⟨x, m', rfl⟩ : ∃ x m', m = x :: m' := by
        cases m with
        | nil => simp at hm
        | cons x m' => exact ⟨x, m', rfl⟩
      have hx : x ≠ 48 := hh (by simp) x (by simp)
      have hxd : isDg x = true := List.all_eq_true.1 hma x (by simp)
      have hx1 : 49 ≤ x.toNat := by
        unfold isDg at hxd
        simp only [Bool.and_eq_true, decide_eq_true_eq] at hxd
        have : x.toNat ≠ 48 := fun e => hx (UInt8.toNat_inj.1 e)
        omega
      have hv : 1 ≤ valU 0 (x :: m') := val_pos m' _ (by omega)
      have hi := ih (x :: m') hm hma (fun _ y hy => by simp only [List.head?_cons, Option.some.injEq] at hy; subst hy; exact hx)
      rw [valU_app]
      generalize valU 0 (x :: m') = v at hv hi
      rw [decDigits, dif_neg (by omega), show (10 * v + (c.toNat - 48)) / 10 = v by omega, hi, show (10 * v + (c.toNat - 48)) % 10 = c.toNat - 48 by omega, ofNat_dg hc]
theorem val_lt : ∀ (l : List UInt8) (n k : Nat), l.all isDg = true → n < 10 ^ k → valU n l < 10 ^ (k + l.length)
  | [], n, k, _, h => h
  | c :: l, n, k, ha, h => by
    have hc : isDg c = true := List.all_eq_true.1 ha c (by simp)
    unfold isDg at hc
    simp only [Bool.and_eq_true, decide_eq_true_eq] at hc
    have := val_lt l (10 * n + (c.toNat - 48)) (k + 1) (List.all_eq_true.2 fun x hx => List.all_eq_true.1 ha x (by simp [hx])) (by rw [Nat.pow_succ]; omega)
    rw [show k + (c :: l).length = k + 1 + l.length by simp; omega]
    exact this
end Go.Proofs.YtokcgacehdgkcaaGreatDoor.Eng.A

/- The document's loops over digits, in plain Lean. -/
namespace Go.Proofs.YtokcgacehdgkcaaGreatDoor.Eng.A
set_option linter.unusedVariables false
set_option linter.unusedSimpArgs false
open Go.RowKit Go.Proofs.YtokcgacehdgkcaaGreatDoor.Plain Go.Proofs.YtokcgacehdgkcaaGreatDoor.Eng Go.Proofs.YtokcgacehdgkcaaGreatDoor.Eng.Pk Go.Proofs.YtokcgacehdgkcaaGreatDoor.Eng.Rd Go.Lib

/-! ### digits -/
def D10 : ByteArray := ⟨#[48, 49, 50, 51, 52, 53, 54, 55, 56, 57]⟩
theorem d10 : ∀ k : Fin 10, (D10.extract k.val (k.val + 1)).data.toList = [UInt8.ofNat (48 + k.val)] := by decide
theorem d10' {k : Nat} (hk : k < 10) : (D10.extract k (k + 1)).data.toList = [UInt8.ofNat (48 + k)] := d10 ⟨k, hk⟩
theorem ba_empty {l : List UInt8} (h : l ≠ []) : (decide ((⟨l.toArray⟩ : ByteArray) = (⟨#[]⟩ : ByteArray))) = false := by
  refine decide_eq_false fun e => h ?_
  have := congrArg (fun b => b.data.toList) e
  simpa using this
theorem rdig_round {n : Nat} {l : List UInt8} (h : 0 < n ∨ l = []) (hn : n < 18446744073709551616) (hl : l.length < 1000) :
    F_rdig_b0 ((n : Int), (⟨l.toArray⟩ : ByteArray)) = some (.inl (((n / 10 : Nat) : Int), (⟨(UInt8.ofNat (48 + n % 10) :: l).toArray⟩ : ByteArray))) := by
  unfold F_rdig_b0
  dsimp only
  have hc : ((decide ((0 : Int) < (n : Int))) || (decide ((⟨l.toArray⟩ : ByteArray) = (⟨#[]⟩ : ByteArray)))) = true := by
    rcases h with h | h
    · rw [decide_eq_true (by omega)]; rfl
    · subst h; simp
  have hm : ((n : Int)).tmod 10 = ((n % 10 : Nat) : Int) := by rw [Int.tmod_eq_emod_of_nonneg (by omega)]; omega
  have hd : ((n : Int)).tdiv 10 = ((n / 10 : Nat) : Int) := by rw [Int.tdiv_eq_ediv_of_nonneg (by omega)]; omega
  have hw : IntKind.u64.wrap (((n % 10 : Nat) : Int) + 1) = ((n % 10 + 1 : Nat) : Int) := by rw [IntKind.wrap_u64]; omega
  have hw2 : IntKind.u64.wrap ((n / 10 : Nat) : Int) = ((n / 10 : Nat) : Int) := by rw [IntKind.wrap_u64]; omega
  rw [hc, ifb_1, hm, hd, hw, hw2, Int.toNat_natCast, Int.toNat_natCast]
  have he := d10' (k := n % 10) (by omega)
  have hsz : (D10.extract (n % 10) (n % 10 + 1)).size = 1 := by
    show (D10.extract (n % 10) (n % 10 + 1)).data.size = 1
    rw [← Array.length_toList, he]; rfl
  have hs2 : (⟨l.toArray⟩ : ByteArray).size = l.length := by show l.toArray.size = _; simp
  rw [grd_t ⟨by omega, by omega, by rw [show (⟨#[48, 49, 50, 51, 52, 53, 54, 55, 56, 57]⟩ : ByteArray).size = 10 from rfl]; omega⟩, grd_t (by rw [show (⟨#[48, 49, 50, 51, 52, 53, 54, 55, 56, 57]⟩ : ByteArray) = D10 from rfl, hsz, hs2]; omega)]
  congr 3
  apply ba_eq
  rw [show (⟨#[48, 49, 50, 51, 52, 53, 54, 55, 56, 57]⟩ : ByteArray) = D10 from rfl]
  rw [ByteArray.data_append, Array.toList_append, he]
  rfl
theorem rdig_go : ∀ (k n : Nat) (l : List UInt8) (fl : Nat), n < 10 ^ k → n < 18446744073709551616 → l.length + k < 1000 → k + 1 ≤ fl → (1 ≤ n) → lp F_rdig_b0 fl ((n : Int), (⟨l.toArray⟩ : ByteArray)) = some ⟨(decDigits n ++ l).toArray⟩
  | 0, n, l, fl, h, _, _, _, h1 => by simp at h; omega
  | k + 1, n, l, fl, h, hn, hl, hf, h1 => by
    obtain ⟨fl, rfl⟩ : ∃ m, fl = m + 1 := ⟨fl - 1, by omega⟩
    rw [lp_go (rdig_round (.inl h1) hn (by omega))]
    by_cases h10 : n < 10
    · obtain ⟨fl, rfl⟩ : ∃ m, fl = m + 1 := ⟨fl - 1, by omega⟩
      rw [show n / 10 = 0 by omega, lp_end (o := (⟨(UInt8.ofNat (48 + n % 10) :: l).toArray⟩ : ByteArray)) (by
        unfold F_rdig_b0
        dsimp only
        rw [ba_empty (by simp), decide_eq_false (by omega)]; rfl)]
      rw [decDigits, dif_pos h10, show n % 10 = n by omega]; rfl
    · rw [rdig_go k (n / 10) _ fl (by rw [Nat.pow_succ] at h; omega) (by omega) (by simp; omega) (by omega) (by omega)]
      conv => rhs; rw [decDigits, dif_neg h10]
      simp
theorem rdig_eq {n fl : Nat} (hn : n < 10 ^ 20) (hn2 : n < 18446744073709551616) (hf : 22 ≤ fl) : F_rdig fl (n : Int) = some ⟨(decDigits n).toArray⟩ := by
  unfold F_rdig
  by_cases h : 1 ≤ n
  · have := rdig_go 20 n [] fl hn hn2 (by simp) (by omega) h
    rw [List.append_nil] at this
    rw [show (⟨#[]⟩ : ByteArray) = ⟨([] : List UInt8).toArray⟩ from rfl, this]; rfl
  · obtain rfl : n = 0 := by omega
    obtain ⟨fl, rfl⟩ : ∃ m, fl = m + 2 := ⟨fl - 2, by omega⟩
    have h0 := rdig_round (n := 0) (l := []) (.inr rfl) (by omega) (by simp)
    rw [show (⟨#[]⟩ : ByteArray) = ⟨([] : List UInt8).toArray⟩ from rfl, lp_go h0, lp_end (o := (⟨(UInt8.ofNat (48 + 0 % 10) :: ([] : List UInt8)).toArray⟩ : ByteArray)) (by
        unfold F_rdig_b0
        dsimp only
        rw [ba_empty (by simp)]; rfl)]
    rw [decDigits, dif_pos (by omega)]; rfl
end Go.Proofs.YtokcgacehdgkcaaGreatDoor.Eng.A

/- The document's numbers and references out of a text, in plain Lean. -/
namespace Go.Proofs.YtokcgacehdgkcaaGreatDoor.Eng.A
set_option linter.unusedVariables false
set_option linter.unusedSimpArgs false
open Go.RowKit Go.Proofs.YtokcgacehdgkcaaGreatDoor.Plain Go.Proofs.YtokcgacehdgkcaaGreatDoor.Eng Go.Proofs.YtokcgacehdgkcaaGreatDoor.Eng.Pk Go.Proofs.YtokcgacehdgkcaaGreatDoor.Eng.Rd Go.Lib

theorem bytesOf_get {s : ByteArray} {i : Nat} {c : UInt8} (h : s.data.toList[i]? = some c) : byteAt s (i : Int) = (c.toNat : Int) := by
  unfold byteAt bytesOf
  rw [Int.toNat_natCast, List.getD_eq_getElem?_getD, List.getElem?_map, h]; rfl
theorem size_list (s : ByteArray) : s.size = s.data.toList.length := by show s.data.size = _; simp
/-- A number of digits: is it one, and which. -/
def numL (l : List UInt8) : Int × Bool := if (1 ≤ l.length ∧ l.length ≤ 19 ∧ (1 < l.length → ∀ c, l.head? = some c → c ≠ 48)) ∧ l.all isDg = true then ((valU 0 l : Nat), true) else (0, false)
def stepU (n : Nat) (c : UInt8) : Nat ⊕ ((Int × Bool) ⊕ Int) := if isDg c = true then .inl (10 * n + (c.toNat - 48)) else .inr (.inl (0, false))
theorem fo_stepU (l : List UInt8) : ∀ (n : Nat), fo stepU (fun n => (.inr (n : Int) : (Int × Bool) ⊕ Int)) n l = if l.all isDg = true then .inr ((valU n l : Nat) : Int) else .inl (0, false) := by
  induction l with
  | nil => intro n; rw [fo_nil, List.all_nil]; rfl
  | cons c l ih =>
    intro n
    cases hc : isDg c with
    | true =>
      rw [fo_l (show stepU n c = .inl (10 * n + (c.toNat - 48)) from if_pos hc), ih, List.all_cons, hc, Bool.true_and]
      rfl
    | false =>
      rw [fo_r (show stepU n c = .inr (.inl (0, false)) from if_neg (by rw [hc]; decide)), List.all_cons, hc, Bool.false_and]
      rfl
theorem rnumb_eq {s : ByteArray} {fl : Nat} (hs : s.size ≤ 100) (hf : 101 < fl) : F_rnumb fl s = some (numL s.data.toList) := by
  have hsz := size_list s
  unfold F_rnumb
  generalize hL : s.data.toList = L at hsz
  have hg : (((((decide ((s.size : Int) < 1)) || (decide (19 < (s.size : Int)))) == false) && ((decide (1 < (s.size : Int))) == true)) = true → Below 0 s.size) := by
    intro h
    simp only [Bool.and_eq_true, beq_iff_eq, decide_eq_true_eq] at h
    exact ⟨by omega, by have := h.2; simp; omega⟩
  rw [grd_t hg]
  have hlen : L.length = s.size := hsz.symm
  by_cases h1 : 1 ≤ L.length
  · by_cases h2 : L.length ≤ 19
    · obtain ⟨c, hc⟩ : ∃ c, L[0]? = some c := ⟨L[0], List.getElem?_eq_getElem (by omega)⟩
      have hb : byteAt s 0 = (c.toNat : Int) := bytesOf_get (i := 0) (by rw [hL]; exact hc)
      have hh : L.head? = some c := by rw [List.head?_eq_getElem?]; exact hc
      rw [hb, decide_eq_false (show ¬ (s.size : Int) < 1 by omega), decide_eq_false (show ¬ (19 : Int) < (s.size : Int) by omega)]
      by_cases h3 : 1 < L.length ∧ c = 48
      · rw [decide_eq_true (show (1 : Int) < (s.size : Int) by omega), decide_eq_true (show (c.toNat : Int) = 48 by rw [h3.2]; rfl)]
        have : numL L = (0, false) := by
          unfold numL; rw [if_neg]; rintro ⟨⟨_, _, h⟩, _⟩; exact h h3.1 c hh h3.2
        rw [this]; rfl
      · have hA : ((decide ((1 : Int) < (s.size : Int))) && (decide ((c.toNat : Int) = 48))) = false := by
          rw [Bool.and_eq_false_iff]
          by_cases h4 : 1 < L.length
          · right
            refine decide_eq_false fun e => h3 ⟨h4, UInt8.toNat_inj.1 ?_⟩
            have h48 : (48 : UInt8).toNat = 48 := rfl
            omega
          · left; exact decide_eq_false (by omega)
        rw [hA, Bool.or_false, Bool.or_false, ifb_0]
        have hlp : lp (F_rnumb_b0 s) fl ((((0 : Nat) : Int)), (((0 : Nat) : Int))) = some (fo stepU (fun n => .inr (n : Int)) 0 L) := by
          refine lp_fo (l := L) (fun i (n : Nat) => (((n : Nat) : Int), ((i : Nat) : Int))) stepU (fun n => .inr (n : Int)) (fun i n => n < 10 ^ i) (by simp) ?_ ?_ (by omega)
          · intro i x n hx hI
            have hi := (List.getElem?_eq_some_iff.1 hx).1
            have hb : byteAt s (i : Int) = (x.toNat : Int) := bytesOf_get (by rw [hL]; exact hx)
            have hbl : Below (i : Int) s.size := ⟨by omega, by simp; omega⟩
            unfold F_rnumb_b0
            dsimp only
            rw [hb, decide_eq_true (show (i : Int) < (s.size : Int) by omega), ifb_1, grd_t hbl, grd_t (fun _ => hbl)]
            cases hd : isDg x with
            | false =>
              right
              refine ⟨.inl (0, false), by unfold stepU; rw [hd]; rfl, ?_⟩
              have : ((decide ((x.toNat : Int) < 48)) || (decide ((57 : Int) < (x.toNat : Int)))) = true := by
                unfold isDg at hd
                rw [Bool.and_eq_false_iff] at hd
                rw [Bool.or_eq_true]
                rcases hd with hd | hd
                · left; exact decide_eq_true (by have := of_decide_eq_false hd; omega)
                · right; exact decide_eq_true (by have := of_decide_eq_false hd; omega)
              rw [this]; rfl
            | true =>
              left
              have hd' := hd
              unfold isDg at hd'
              simp only [Bool.and_eq_true, decide_eq_true_eq] at hd'
              have hp : 10 ^ i ≤ 10 ^ 18 := Nat.pow_le_pow_right (by decide) (by omega)
              have hnb : n < 10 ^ 18 := Nat.lt_of_lt_of_le hI hp
              refine ⟨10 * n + (x.toNat - 48), by unfold stepU; rw [hd]; rfl, ?_, by rw [Nat.pow_succ]; omega⟩
              rw [decide_eq_false (show ¬ (x.toNat : Int) < 48 by omega), decide_eq_false (show ¬ (57 : Int) < (x.toNat : Int) by omega), Bool.or_false, ifb_0, grd_t hbl]
              have w1 : IntKind.u64.wrap (10 * (n : Int)) = 10 * (n : Int) := by rw [IntKind.wrap_u64]; omega
              have w2 : IntKind.u8.wrap ((x.toNat : Int) - 48) = (x.toNat : Int) - 48 := by rw [IntKind.wrap_u8]; omega
              have w3 : IntKind.u64.wrap ((x.toNat : Int) - 48) = (x.toNat : Int) - 48 := by rw [IntKind.wrap_u64]; omega
              have w4 : IntKind.u64.wrap (10 * (n : Int) + ((x.toNat : Int) - 48)) = ((10 * n + (x.toNat - 48) : Nat) : Int) := by rw [IntKind.wrap_u64]; omega
              have w5 : IntKind.i64.wrap ((i : Int) + 1) = ((i + 1 : Nat) : Int) := by rw [IntKind.wrap_i64]; omega
              rw [w1, w2, w3, w4, w5]
          · intro n hI
            unfold F_rnumb_b0
            dsimp only
            rw [hlen, decide_eq_false (by omega), ifb_0]
        rw [show ((0 : Int), (0 : Int)) = ((((0 : Nat) : Int)), (((0 : Nat) : Int))) from rfl, hlp, fo_stepU, bnd_s]
        unfold numL
        have hn : 1 ≤ L.length ∧ L.length ≤ 19 ∧ (1 < L.length → ∀ c, L.head? = some c → c ≠ 48) := ⟨h1, h2, fun h c' hc' => by
          rw [hh] at hc'; cases hc'; exact fun e => h3 ⟨h, e⟩⟩
        cases ha : L.all isDg with
        | true => rw [if_pos rfl, if_pos ⟨hn, rfl⟩]; rfl
        | false => rw [if_neg (by simp), if_neg (by simp)]; rfl
    · rw [decide_eq_true (show (19 : Int) < (s.size : Int) by omega), Bool.or_true, Bool.true_or, ifb_1]
      unfold numL; rw [if_neg (by omega)]
  · rw [decide_eq_true (show (s.size : Int) < 1 by omega), Bool.true_or, Bool.true_or, ifb_1]
    unfold numL; rw [if_neg (by omega)]
/-- What is a number is its digits. -/
theorem numL_true {l : List UInt8} {v : Int} (h : numL l = (v, true)) : ∃ u : Nat, v = u ∧ u < 10 ^ 19 ∧ l = decDigits u := by
  unfold numL at h
  split at h
  · rename_i hc
    cases h
    obtain ⟨⟨h1, h2, h3⟩, h4⟩ := hc
    refine ⟨valU 0 l, rfl, ?_, (dec_canon (l.length - 1) l (by omega) h4 h3).symm⟩
    have := val_lt l 0 0 h4 (by decide)
    exact Nat.lt_of_lt_of_le this (Nat.pow_le_pow_right (by decide) (by omega))
  · cases h
theorem numL_dec {u : Nat} (hu : u < 10 ^ 19) : numL (decDigits u) = ((u : Int), true) := by
  unfold numL
  have h1 : 1 ≤ (decDigits u).length := by
    have := dec_ne u
    cases hd : decDigits u with
    | nil => exact absurd hd this
    | cons x m => simp
  have hz : 1 < (decDigits u).length → ∀ c, (decDigits u).head? = some c → c ≠ 48 := by
    intro h c hc
    by_cases h0 : 1 ≤ u
    · exact dec_head u h0 c hc
    · obtain rfl : u = 0 := by omega
      rw [decDigits, dif_pos (by omega)] at h
      simp at h
  rw [if_pos ⟨⟨h1, dec_len 18 u hu, hz⟩, dec_all u⟩, dec_val]
end Go.Proofs.YtokcgacehdgkcaaGreatDoor.Eng.A

/- References as texts, and back, of the document, in plain Lean. -/
namespace Go.Proofs.YtokcgacehdgkcaaGreatDoor.Eng.A
set_option linter.unusedVariables false
set_option linter.unusedSimpArgs false
open Go.RowKit Go.Proofs.YtokcgacehdgkcaaGreatDoor.Plain Go.Proofs.YtokcgacehdgkcaaGreatDoor.Eng Go.Proofs.YtokcgacehdgkcaaGreatDoor.Eng.Pk Go.Proofs.YtokcgacehdgkcaaGreatDoor.Eng.Rd Go.Lib

theorem rNamed_eq (r : Rf) : F_rNamed r = some (mayB r) := by
  unfold F_rNamed mayB slB
  rw [show decide (0 < r.Gen) = decide (1 ≤ r.Gen) from decide_eq_decide.2 (by omega)]
theorem rName_yes {r : Rf} {fl : Nat} (h : mayB r = true) (hf : 22 ≤ fl) : F_rName fl r = some (nameR r.Slot.toNat r.Gen.toNat, 0) := by
  obtain ⟨⟨h1, h2⟩, h3, h4⟩ := mayB_iff.1 h
  have s1 : (⟨(decDigits r.Slot.toNat).toArray⟩ : ByteArray).size ≤ 2 := dec_size (k := 1) (by omega)
  have s2 : (⟨(decDigits r.Gen.toNat).toArray⟩ : ByteArray).size ≤ 20 := dec_size (k := 19) (by omega)
  have s3 : (⟨#[46]⟩ : ByteArray).size = 1 := rfl
  have e1 : IntKind.u64.wrap r.Slot = ((r.Slot.toNat : Nat) : Int) := by rw [IntKind.wrap_u64]; omega
  have e2 : F_rdig fl r.Gen = some ⟨(decDigits r.Gen.toNat).toArray⟩ := by
    conv => lhs; rw [show r.Gen = ((r.Gen.toNat : Nat) : Int) by omega]
    exact rdig_eq (by omega) (by omega) hf
  unfold F_rName
  rw [rNamed_eq, bnd_s, h, e1, rdig_eq (by omega) (by omega) hf]
  simp only [Bool.not_true, ifb_0, bnd_s]
  rw [grd_t (by omega), e2, bnd_s, grd_t (by rw [ByteArray.size_append]; omega)]
  rfl
theorem rName_no {r : Rf} {fl : Nat} (h : mayB r = false) : F_rName fl r = some (⟨#[]⟩, 1) := by
  unfold F_rName; rw [rNamed_eq, bnd_s, h]; rfl
theorem cname_no {r : Rf} (h : mayB r = false) : F_cname r = some (⟨#[]⟩, some 1) := by
  unfold F_cname; rw [cmay_eq, bnd_s, h]; rfl
/-- Is a text a reference's? -/
def NoRef (s : ByteArray) : Prop := ∀ u v : Nat, u < 64 → 1 ≤ v → v ≤ 4611686018427387904 → s ≠ nameR u v
theorem cutB_size (s : ByteArray) (c : UInt8) : (cutB s c).1.size ≤ s.size ∧ (cutB s c).2.1.size ≤ s.size := by
  have he : (ByteArray.empty).size = 0 := rfl
  unfold cutB
  split
  · simp only [ByteArray.size_extract]; omega
  · simp only [he]; omega
theorem cparse_no {s : ByteArray} (hs : s.size ≤ 100) (h : NoRef s) : F_cparse s = some (⟨0, 0⟩, some 3) := by
  have hz := cutB_size s 46
  unfold F_cparse F_Cut
  rw [grd_t ⟨by omega, rfl⟩, bnd_s]
  generalize cutB s 46 = x at hz
  unfold F_ParseUint
  rw [grd_t ⟨by omega, rfl, .inl rfl⟩, bnd_s]
  generalize puR ((8 : Int).toNat) x.1 = y
  cases hy : y.2 with
  | true => rfl
  | false =>
    rw [ifb_0, grd_t ⟨by omega, rfl, .inr rfl⟩, bnd_s]
    generalize puR ((64 : Int).toNat) x.2.1 = z
    cases hz2 : z.2 with
    | true => rfl
    | false =>
      rw [ifb_0, cmay_eq, bnd_s]
      generalize hr : (⟨IntKind.i64.wrap y.1, z.1⟩ : Rf) = r
      cases hm : mayB r with
      | false => simp [gif, bnd, ifb]
      | true =>
        rw [cnm_eq hm]
        obtain ⟨⟨h1, h2⟩, h3, h4⟩ := mayB_iff.1 hm
        have hne : nameR r.Slot.toNat r.Gen.toNat ≠ s := fun e => h r.Slot.toNat r.Gen.toNat (by omega) (by omega) (by omega) e.symm
        simp [gif, bnd, ifb, hne]
theorem lp_skip {O : Type} {body : Int → Option (Int ⊕ O)} : ∀ (i fl j : Nat), (∀ k, k < i → body (((j + k : Nat)) : Int) = some (.inl ((j + k + 1 : Nat) : Int))) → lp body (i + fl) ((j : Nat) : Int) = lp body fl ((j + i : Nat) : Int)
  | 0, fl, j, _ => by rw [Nat.zero_add, Nat.add_zero]
  | i + 1, fl, j, h => by
    have h0 := h 0 (by omega)
    rw [Nat.add_zero] at h0
    rw [show i + 1 + fl = (i + fl) + 1 by omega, lp_go h0]
    have := lp_skip i fl (j + 1) (fun k hk => by
      have := h (k + 1) (by omega)
      rw [show j + 1 + k = j + (k + 1) by omega]; exact this)
    rw [this, show j + 1 + i = j + (i + 1) by omega]
theorem rParse_step {s : ByteArray} {fl i : Nat} {c : UInt8} (hs : s.size ≤ 100) (hc : s.data.toList[i]? = some c) (h : c ≠ 46) : F_rParse_b0 fl s (i : Int) = some (.inl ((i + 1 : Nat) : Int)) := by
  have hi := (List.getElem?_eq_some_iff.1 hc).1
  rw [← size_list] at hi
  unfold F_rParse_b0
  rw [decide_eq_true (show (i : Int) < (s.size : Int) by omega), ifb_1, grd_t ⟨by omega, by rw [Int.toNat_natCast]; omega⟩, bytesOf_get hc, decide_eq_true (show (c.toNat : Int) ≠ 46 from fun e => h (UInt8.toNat_inj.1 (by have h46 : (46 : UInt8).toNat = 46 := rfl; omega))), ifb_1]
  rw [show IntKind.i64.wrap ((i : Int) + 1) = ((i + 1 : Nat) : Int) by rw [IntKind.wrap_i64]; omega]
/-- What the document says of the two parts. -/
def outR (a b : Int × Bool) : Rf × Int := if ((((!a.2) || (!b.2)) || (decide (63 < a.1))) || (decide (b.1 < 1))) || (decide (4611686018427387904 < b.1)) then (⟨0, 0⟩, 3) else (⟨IntKind.i64.wrap a.1, b.1⟩, 0)
theorem rParse_dot {s : ByteArray} {fl i : Nat} (hs : s.size ≤ 100) (hf : 300 < fl) (hc : s.data.toList[i]? = some 46) (hb : ∀ k : Nat, k < i → s.data.toList[k]? ≠ some 46) :
    F_rParse fl s = some (outR (numL (s.data.toList.take i)) (numL (s.data.toList.drop (i + 1)))) := by
  have hi := (List.getElem?_eq_some_iff.1 hc).1
  have hsl := size_list s
  have hlp : lp (F_rParse_b0 fl s) fl ((0 : Nat) : Int) = lp (F_rParse_b0 fl s) (fl - i) ((0 + i : Nat) : Int) := by
    have := lp_skip (body := F_rParse_b0 fl s) i (fl - i) 0 (fun k hk => by
      obtain ⟨c, hk2⟩ : ∃ c, s.data.toList[k]? = some c := ⟨_, List.getElem?_eq_getElem (by omega)⟩
      rw [Nat.zero_add]
      exact rParse_step hs hk2 (fun e => hb k hk (e ▸ hk2)))
    rw [show i + (fl - i) = fl by omega] at this
    exact this
  have e1 : (s.extract 0 ((i : Int)).toNat).data.toList = s.data.toList.take i := by rw [Int.toNat_natCast]; simp [ByteArray.data_extract]
  have w1 : IntKind.i64.wrap ((i : Int) + 1) = ((i + 1 : Nat) : Int) := by rw [IntKind.wrap_i64]; omega
  have e2 : (s.extract (((i + 1 : Nat) : Int)).toNat s.size).data.toList = s.data.toList.drop (i + 1) := by
    rw [Int.toNat_natCast]
    have hd : s.size = s.data.size := rfl
    rw [hd]; simp [ByteArray.data_extract]
    exact List.take_of_length_le (by rw [List.length_drop, ← hsl]; exact Nat.le_refl _)
  have z1 : (s.extract 0 ((i : Int)).toNat).size ≤ 100 := by rw [ByteArray.size_extract]; omega
  have z2 : (s.extract (((i + 1 : Nat) : Int)).toNat s.size).size ≤ 100 := by rw [ByteArray.size_extract]; omega
  have hbody : F_rParse_b0 fl s ((i : Nat) : Int) = some (.inr (.inl (outR (numL (s.data.toList.take i)) (numL (s.data.toList.drop (i + 1)))))) := by
    unfold F_rParse_b0
    rw [decide_eq_true (show (i : Int) < (s.size : Int) by omega), ifb_1, grd_t ⟨by omega, by rw [Int.toNat_natCast]; omega⟩, bytesOf_get hc, decide_eq_false (show ¬ (((46 : UInt8).toNat : Int) ≠ 46) from fun h => h rfl), ifb_0, grd_t ⟨by omega, by rw [Int.toNat_natCast]; omega⟩, rnumb_eq z1 (by omega), bnd_s, w1, grd_t ⟨by omega, by rw [Int.toNat_natCast]; omega⟩, rnumb_eq z2 (by omega), bnd_s, e1, e2]
    generalize numL (s.data.toList.take i) = a
    generalize numL (s.data.toList.drop (i + 1)) = b
    unfold outR
    cases (((((!a.2) || (!b.2)) || (decide (63 < a.1))) || (decide (b.1 < 1))) || (decide (4611686018427387904 < b.1))) <;> rfl
  unfold F_rParse
  rw [show (0 : Int) = ((0 : Nat) : Int) from rfl, hlp, Nat.zero_add]
  obtain ⟨m, hm⟩ : ∃ m, fl - i = m + 1 := ⟨fl - i - 1, by omega⟩
  rw [hm, lp_end hbody]
  rfl
theorem rParse_none {s : ByteArray} {fl : Nat} (hs : s.size ≤ 100) (hf : 300 < fl) (hb : ∀ k : Nat, s.data.toList[k]? ≠ some 46) : F_rParse fl s = some (⟨0, 0⟩, 3) := by
  have hsl := size_list s
  have hlp : lp (F_rParse_b0 fl s) fl ((0 : Nat) : Int) = lp (F_rParse_b0 fl s) (fl - s.size) ((0 + s.size : Nat) : Int) := by
    have := lp_skip (body := F_rParse_b0 fl s) s.size (fl - s.size) 0 (fun k hk => by
      obtain ⟨c, hk2⟩ : ∃ c, s.data.toList[k]? = some c := ⟨_, List.getElem?_eq_getElem (by omega)⟩
      rw [Nat.zero_add]
      exact rParse_step hs hk2 (fun e => hb k (e ▸ hk2)))
    rw [show s.size + (fl - s.size) = fl by omega] at this
    exact this
  unfold F_rParse
  rw [show (0 : Int) = ((0 : Nat) : Int) from rfl, hlp, Nat.zero_add]
  obtain ⟨m, hm⟩ : ∃ m, fl - s.size = m + 1 := ⟨fl - s.size - 1, by omega⟩
  rw [hm, lp_end (o := .inr ()) (by unfold F_rParse_b0; rw [decide_eq_false (by omega), ifb_0])]
  rfl
theorem first_dot (l : List UInt8) : (∀ k : Nat, l[k]? ≠ some 46) ∨ ∃ i : Nat, l[i]? = some 46 ∧ ∀ k : Nat, k < i → l[k]? ≠ some 46 := by
  have hge := indexByte_ge l 46
  by_cases h : indexByte l 46 = -1
  · exact .inl (indexByte_none h)
  · right
    obtain ⟨i, hi⟩ : ∃ i : Nat, indexByte l 46 = (i : Int) := ⟨(indexByte l 46).toNat, by omega⟩
    exact ⟨i, indexByte_some hi⟩
theorem rParse_no {s : ByteArray} {fl : Nat} (hs : s.size ≤ 100) (hf : 300 < fl) (h : NoRef s) : F_rParse fl s = some (⟨0, 0⟩, 3) := by
  rcases first_dot s.data.toList with hn | ⟨i, h1, h2⟩
  · exact rParse_none hs hf hn
  · rw [rParse_dot hs hf h1 h2]
    unfold outR
    rw [if_pos]
    apply Classical.byContradiction
    intro hc
    rw [Bool.not_eq_true] at hc
    simp only [Bool.or_eq_false_iff, Bool.not_eq_false', decide_eq_false_iff_not] at hc
    obtain ⟨⟨⟨⟨a1, b1⟩, c1⟩, c2⟩, c3⟩ := hc
    obtain ⟨u, u1, u2, u3⟩ := numL_true (l := s.data.toList.take i) (v := (numL (s.data.toList.take i)).1) (Prod.ext rfl a1)
    obtain ⟨v, v1, v2, v3⟩ := numL_true (l := s.data.toList.drop (i + 1)) (v := (numL (s.data.toList.drop (i + 1))).1) (Prod.ext rfl b1)
    refine h u v (by omega) (by omega) (by omega) (ba_eq ?_)
    rw [nameR_list, ← u3, ← v3]
    have hi := (List.getElem?_eq_some_iff.1 h1)
    obtain ⟨hi1, hi2⟩ := hi
    rw [← hi2, ← List.drop_eq_getElem_cons hi1, List.take_append_drop]
theorem rParse_yes {u v fl : Nat} (hu : u < 64) (h1 : 1 ≤ v) (h2 : v ≤ 4611686018427387904) (hf : 300 < fl) : F_rParse fl (nameR u v) = some (⟨(u : Int), (v : Int)⟩, 0) := by
  have hs := nameR_size (s := u) (g := v) hu (by omega)
  have hl := nameR_list u v
  have hi : indexByte (nameR u v).data.toList 46 = ((decDigits u).length : Int) := by rw [hl]; exact idx_app (dec_dig u)
  obtain ⟨k1, k2⟩ := indexByte_some hi
  rw [rParse_dot (by omega) hf k1 k2, hl, show (decDigits u ++ 46 :: decDigits v).take (decDigits u).length = decDigits u by simp, show (decDigits u ++ 46 :: decDigits v).drop ((decDigits u).length + 1) = decDigits v by simp, numL_dec (by omega), numL_dec (by omega)]
  unfold outR
  have hw : IntKind.i64.wrap (u : Int) = (u : Int) := by rw [IntKind.wrap_i64]; omega
  rw [if_neg, hw]
  simp
  omega
end Go.Proofs.YtokcgacehdgkcaaGreatDoor.Eng.A

/- CapsForms: what may be, and bytes, in plain Lean. -/
namespace Go.Proofs.YtokcgacehdgkcaaGreatDoor.Eng.A
set_option linter.unusedVariables false
set_option linter.unusedSimpArgs false
open Go.RowKit Go.Proofs.YtokcgacehdgkcaaGreatDoor.Plain Go.Proofs.YtokcgacehdgkcaaGreatDoor.Eng Go.Proofs.YtokcgacehdgkcaaGreatDoor.Eng.Pk Go.Proofs.YtokcgacehdgkcaaGreatDoor.Eng.Rd

theorem r27_eq {x : Scp} (h : 0 ≤ x.Rights) : F_r27May x = some (scpB x) := by
  unfold F_r27May scpB
  rw [show decide (1 ≤ x.Rights) = decide (x.Rights ≠ 0) from decide_eq_decide.2 (by omega)]
theorem rMay_eq {n : Int} {c : Cap} (hc : CapOk c) : F_rMay n c = some (okB n c) := by
  unfold F_rMay okB
  have hK : ((((decide (n < 0)) || (decide (63 < n))) || (decide (c.Gen < 1))) || (decide (4611686018427387904 < c.Gen))) = !((slB n && decide (1 ≤ c.Gen)) && decide (c.Gen ≤ LAST)) := by
    unfold slB
    by_cases h : (0 ≤ n ∧ n < 64) ∧ 1 ≤ c.Gen ∧ c.Gen ≤ 4611686018427387904
    · obtain ⟨⟨a, b⟩, d, e⟩ := h
      rw [decide_eq_false (show ¬ n < 0 by omega), decide_eq_false (show ¬ 63 < n by omega), decide_eq_false (show ¬ c.Gen < 1 by omega), decide_eq_false (show ¬ 4611686018427387904 < c.Gen by omega), decide_eq_true a, decide_eq_true b, decide_eq_true d, decide_eq_true (show c.Gen ≤ LAST from e)]; rfl
    · have h1 : ((((decide (n < 0)) || (decide (63 < n))) || (decide (c.Gen < 1))) || (decide (4611686018427387904 < c.Gen))) = true := by
        simp only [Bool.or_eq_true, decide_eq_true_eq]; omega
      have h2 : (((decide (0 ≤ n)) && (decide (n < 64))) && decide (1 ≤ c.Gen) && decide (c.Gen ≤ LAST)) = false := by
        rw [← Bool.not_eq_true]
        simp only [Bool.and_eq_true, decide_eq_true_eq]
        intro hh
        exact h ⟨hh.1.1, hh.1.2, hh.2⟩
      rw [h1, h2]; rfl
  rw [hK]
  cases hk : ((slB n && decide (1 ≤ c.Gen)) && decide (c.Gen ≤ LAST)) with
  | false => rfl
  | true =>
    rw [Bool.not_true, ifb_0]
    cases hl : c.Live with
    | false =>
      rw [Bool.not_false, ifb_1]
      unfold nilC
      rw [hl]
      simp only [Bool.true_and, Bool.and_true, Bool.and_assoc, decide_true, if_neg (show ¬ (false = true) by decide)]
    | true =>
      rw [Bool.not_true, ifb_0, rNamed_eq, r27_eq hc.rig.1]
      simp only [if_true, Bool.true_and]
      have hr : rootB c n = (mayB c.From && (if n = 0 then (decide (c.From.Slot = 0)) && (decide (c.From.Gen = c.Gen)) else decide (c.From.Slot ≠ n))) := by
        unfold rootB
        by_cases h0 : n = 0
        · subst h0
          rw [if_pos rfl]
          cases mayB c.From <;> cases decide (c.From.Slot = 0) <;> simp
        · rw [if_neg h0]
          cases mayB c.From <;> by_cases h1 : c.From.Slot = n <;> simp [h0, h1]
      rw [hr]
      have hd : decide (c.Holder ≤ LAST) = !decide (4611686018427387904 < c.Holder) := by
        by_cases h : c.Holder ≤ LAST
        · rw [decide_eq_true h, decide_eq_false (show ¬ 4611686018427387904 < c.Holder from by have : c.Holder ≤ 4611686018427387904 := h; omega)]; rfl
        · rw [decide_eq_false h, decide_eq_true (show 4611686018427387904 < c.Holder from by have : ¬ c.Holder ≤ 4611686018427387904 := h; omega)]; rfl
      rw [hd]
      generalize decide (4611686018427387904 < c.Holder) = H
      generalize mayB c.From = M
      generalize scpB c.Scope = X
      cases H <;> cases M <;> cases X <;> simp [gif, bnd, ifb]
      all_goals (by_cases h0 : n = 0 <;> simp [h0])
theorem fits1 {n : Nat} (h : n ≤ 1000000) : Fits 1 n := ⟨by omega, by omega⟩
theorem rEnc_eq {n : Int} {c : Cap} (hc : CapOk c) : F_rEnc n c = some (if okB n c = true then (encC c, 0) else ([], 1)) := by
  unfold F_rEnc
  rw [rMay_eq hc, bnd_s]
  cases hk : okB n c with
  | false => rfl
  | true =>
    simp only [if_true, Bool.not_true, ifb_0]
    have hv : ∀ {k : Int}, U64 k → 1 ≤ (vb k.toNat).length ∧ (vb k.toNat).length ≤ 10 := fun hk => vb_len10 (u64_nat hk)
    have a1 := hv hc.gen; have a2 := hv hc.hold; have a3 := hv hc.fgen
    rw [oNum_t (by unfold Wrd; simp) hc.gen, bnd_s]
    cases hl : c.Live with
    | false =>
      simp only [Bool.not_false, ifb_1]
      rw [grd_t (fits1 (by simp; omega))]
      unfold encC
      rw [if_neg (by rw [hl]; simp)]
      simp
    | true =>
      obtain ⟨-, -, -, hs, -, hp, -⟩ := okB_live hk hl
      have a4 := vb_len10 (n := (bytesOf c.Scope.Prefix).length) (by rw [bytesOf_length]; omega)
      simp only [Bool.not_true, ifb_0]
      rw [grd_t (fits1 (by simp; omega)), oNum_t (by unfold Wrd; simp; omega) hc.hold, bnd_s, grd_t (fits1 (by simp; omega)), oNum_t (by unfold Wrd; simp; omega) hc.fgen, bnd_s,
        oBytes_t (by unfold Wrd; simp only [List.length_append, List.length_cons, List.length_nil, bytesOf_length]; omega), bnd_s, grd_t (fits1 (by simp only [List.length_append, List.length_cons, List.length_nil, bsB, bytesOf_length] at *; omega))]
      unfold encC
      rw [if_pos hl, show IntKind.u8.wrap c.From.Slot = c.From.Slot by rw [IntKind.wrap_u8]; omega]
      simp
/-! ### Decoding -/
theorem vget_nil : (vget []).2.2 ≠ none := by decide
/-- A wrong reader has no bytes left. -/
def WFr (x : List Int × Bool) : Prop := x.2 = true → x.1 = []
theorem num_wf {m : Nat} {x : List Int × Bool} (h : WFr x) : rdNum m x.1 x.2 = rdNum m x.1 false ∧ WFr (rdNum m x.1 x.2).2 := by
  obtain ⟨l, b⟩ := x
  unfold rdNum
  by_cases hc : (vget l).2.2 = none ∧ (vget l).1 ≤ m
  · rw [if_pos hc, if_pos hc]
    cases b with
    | false => exact ⟨rfl, fun h => by cases h⟩
    | true =>
      have : l = [] := h rfl
      subst this; exact absurd hc.1 vget_nil
  · rw [if_neg hc, if_neg hc]; exact ⟨rfl, fun _ => rfl⟩
theorem byte_wf {x : List Int × Bool} (h : WFr x) : rdByte x.1 x.2 = rdByte x.1 false ∧ WFr (rdByte x.1 x.2).2 := by
  obtain ⟨l, b⟩ := x
  cases b with
  | false =>
    refine ⟨rfl, fun h => ?_⟩
    cases l with
    | nil => rfl
    | cons y t => simp [rdByte] at h
  | true =>
    have : l = [] := h rfl
    subst this; exact ⟨rfl, fun _ => rfl⟩
theorem bytes_wf {m : Nat} {x : List Int × Bool} (h : WFr x) : rdBytes m x.1 x.2 = rdBytes m x.1 false ∧ WFr (rdBytes m x.1 x.2).2 := by
  obtain ⟨h1, h2⟩ := num_wf (m := m) h
  refine ⟨by unfold rdBytes; rw [h1], ?_⟩
  unfold rdBytes
  split
  · intro hw
    have := h2 hw
    show List.drop _ _ = []
    rw [this]; simp
  · exact fun _ => rfl
theorem wf_A (l : List Int) : WFr (rA l).2 := (num_wf (m := MX) (x := (l, false)) (fun h => by cases h)).2
theorem wf_V (l : List Int) : WFr (rV l).2 := (byte_wf (wf_A l)).2
end Go.Proofs.YtokcgacehdgkcaaGreatDoor.Eng.A

/- CapsForms, in plain Lean. -/
namespace Go.Proofs.YtokcgacehdgkcaaGreatDoor.Eng.A
set_option linter.unusedVariables false
set_option linter.unusedSimpArgs false
open Go.RowKit Go.Proofs.YtokcgacehdgkcaaGreatDoor.Plain Go.Proofs.YtokcgacehdgkcaaGreatDoor.Eng Go.Proofs.YtokcgacehdgkcaaGreatDoor.Eng.Pk Go.Proofs.YtokcgacehdgkcaaGreatDoor.Eng.Rd

theorem parC_ok {l : List Int} (hb : Bts l) (hl : l.length ≤ 1000000) : CapOk (parC l).1 := by
  have hr : RdOk (⟨l, false⟩ : Rdr) := ⟨hb, by show l.length ≤ _; omega⟩
  have r1 : RdOk (rdr (rA l).2) := rdok_num hr MX
  have r2 : RdOk (rdr (rV l).2) := rdok_byte r1
  have hu : ∀ {k : Nat} {l : List Int} {b : Bool}, U64 (((rdNum MX l b).1 : Nat) : Int) := fun {k l b} => by
    have := num_lim MX l b; rw [mxI] at this; exact ⟨this.1, by omega⟩
  unfold parC
  split
  · unfold parL
    dsimp only
    have r3 := rdok_num r2 MX
    have r4 := rdok_byte r3
    have r5 := rdok_num r4 MX
    have r6 := rdok_bytes r5 (40 : Int).toNat
    have s0 := byte_rg r3 (rdNum MX (rdr (rV l).2).b_ (rdr (rV l).2).wrong_).2.2
    have w0 := byte_rg r6 (rdBytes (40 : Int).toNat (rdr (rdNum MX (rdr (rdByte (rdr (rdNum MX (rdr (rV l).2).b_ (rdr (rV l).2).wrong_).2).b_ (rdr (rdNum MX (rdr (rV l).2).b_ (rdr (rV l).2).wrong_).2).wrong_).2).b_ (rdr (rdByte (rdr (rdNum MX (rdr (rV l).2).b_ (rdr (rV l).2).wrong_).2).b_ (rdr (rdNum MX (rdr (rV l).2).b_ (rdr (rV l).2).wrong_).2).wrong_).2).wrong_).2).b_ (rdr (rdNum MX (rdr (rdByte (rdr (rdNum MX (rdr (rV l).2).b_ (rdr (rV l).2).wrong_).2).b_ (rdr (rdNum MX (rdr (rV l).2).b_ (rdr (rV l).2).wrong_).2).wrong_).2).b_ (rdr (rdByte (rdr (rdNum MX (rdr (rV l).2).b_ (rdr (rV l).2).wrong_).2).b_ (rdr (rdNum MX (rdr (rV l).2).b_ (rdr (rV l).2).wrong_).2).wrong_).2).wrong_).2).wrong_).2.2
    refine ⟨hu (k := 0), hu (k := 0), hu (k := 0), ?_, w0⟩
    show I64 (IntKind.i64.wrap (rdByte (rdNum MX (rdr (rV l).2).b_ (rdr (rV l).2).wrong_).2.1 (rdNum MX (rdr (rV l).2).b_ (rdr (rV l).2).wrong_).2.2).1)
    have s0' : 0 ≤ (rdByte (rdNum MX (rdr (rV l).2).b_ (rdr (rV l).2).wrong_).2.1 (rdNum MX (rdr (rV l).2).b_ (rdr (rV l).2).wrong_).2.2).1 ∧ (rdByte (rdNum MX (rdr (rV l).2).b_ (rdr (rV l).2).wrong_).2.1 (rdNum MX (rdr (rV l).2).b_ (rdr (rV l).2).wrong_).2.2).1 < 256 := s0
    rw [IntKind.wrap_i64]
    exact ⟨by omega, by omega⟩
  · exact ⟨hu (k := 0), show U64 0 by decide, show U64 0 by decide, show I64 0 by decide, show (0 : Int) ≤ 0 ∧ (0 : Int) < 256 by decide⟩
theorem rDec_eq {n : Int} {l : List Int} (hb : Bts l) (hl : l.length ≤ 1000000) (hn : slB n = true) : F_rDec n l = some (if goodC n l then ((parC l).1, 0) else (zeroC, 3)) := by
  have hr : RdOk (⟨l, false⟩ : Rdr) := ⟨hb, by show l.length ≤ _; omega⟩
  have hcap := parC_ok hb hl
  have hn' : 0 ≤ n ∧ n < 64 := by unfold slB at hn; simpa using hn
  unfold F_rDec
  rw [decide_eq_false (show ¬ n < 0 by omega), decide_eq_false (show ¬ 63 < n by omega), Bool.or_false, ifb_0, oDNum_t hr (by decide), bnd_s]
  have h1 : RdOk (rdr (rA l).2) := rdok_num hr MX
  have h2 : RdOk (rdr (rV l).2) := rdok_byte h1
  show bnd (oDByte (rdr (rA l).2)) _ = _
  have hbv : oDByte (rdr (rA l).2) = some (rdr (rV l).2, (rV l).1) := by
    show some (rdr (rdByte (rA l).2.1 false).2, (rdByte (rA l).2.1 false).1) = _
    rw [← (byte_wf (wf_A l)).1]; rfl
  rw [hbv, bnd_s]
  have hE : (ifb ((decide ((rV l).1 = 1)) && (!(rdr (rV l).2).wrong_)) (bnd (oDNum (rdr (rV l).2) 4611686018427387904) fun x_4 => bnd (oDByte x_4.1) fun x_5 => bnd (oDNum x_5.1 4611686018427387904) fun x_6 => bnd (oDBytes x_6.1 40) fun x_7 => bnd (oDByte x_7.1) fun x_8 => some (x_8.1, (⟨(rA l).1, (decide ((rV l).1 = 1)), x_4.2, (⟨IntKind.i64.wrap (x_5.2), x_6.2⟩ : Rf), (⟨(strOf x_7.2), x_8.2⟩ : Scp)⟩ : Cap))) (some (rdr (rV l).2, (⟨(rA l).1, (decide ((rV l).1 = 1)), 0, (⟨0, 0⟩ : Rf), (⟨(⟨#[]⟩ : ByteArray), 0⟩ : Scp)⟩ : Cap)))) = some ((parC l).2, (parC l).1) := by
    unfold parC
    by_cases hv : (rV l).1 = 1
    · have hw : (rV l).2.2 = false := by
        have wA := wf_A l
        unfold rV rdByte at hv ⊢
        generalize (rA l).2 = x at wA hv
        obtain ⟨y, b⟩ := x
        cases y with
        | nil => simp at hv
        | cons a t =>
          cases b with
          | false => rfl
          | true => have := wA rfl; cases this
      have wV := wf_V l
      rw [if_pos hv, decide_eq_true hv, show (rdr (rV l).2).wrong_ = false from hw, Bool.not_false, Bool.and_true, ifb_1, oDNum_t h2 (by decide), bnd_s]
      have e1 := num_wf (m := MX) wV
      rw [show rdNum (4611686018427387904 : Int).toNat (rdr (rV l).2).b_ false = rdNum MX (rdr (rV l).2).b_ (rdr (rV l).2).wrong_ from e1.1.symm]
      have h3 := rdok_num h2 MX
      unfold parL
      have W3 : WFr (rdNum MX (rdr (rV l).2).b_ (rdr (rV l).2).wrong_).2 := e1.2
      generalize rdNum MX (rdr (rV l).2).b_ (rdr (rV l).2).wrong_ = H at h3 W3
      dsimp only
      have e2 := byte_wf W3
      rw [show oDByte (rdr H.2) = some (rdr (rdByte H.2.1 H.2.2).2, (rdByte H.2.1 H.2.2).1) by rw [e2.1]; rfl, bnd_s]
      have h4 := rdok_byte h3
      have W4 : WFr (rdByte H.2.1 H.2.2).2 := e2.2
      have h4' : RdOk (rdr (rdByte H.2.1 H.2.2).2) := h4
      generalize rdByte H.2.1 H.2.2 = Y at h4' W4
      dsimp only
      have e3 := num_wf (m := MX) W4
      rw [oDNum_t h4' (by decide), bnd_s, show rdNum (4611686018427387904 : Int).toNat (rdr Y.2).b_ false = rdNum MX Y.2.1 Y.2.2 from e3.1.symm]
      have h5 : RdOk (rdr (rdNum MX Y.2.1 Y.2.2).2) := rdok_num h4' MX
      have W5 := e3.2
      generalize rdNum MX Y.2.1 Y.2.2 = Z at h5 W5
      dsimp only
      have e4 := bytes_wf (m := (40 : Int).toNat) W5
      rw [oDBytes_t h5 (by decide), bnd_s, show rdBytes (40 : Int).toNat (rdr Z.2).b_ false = rdBytes (40 : Int).toNat Z.2.1 Z.2.2 from e4.1.symm]
      have W6 := e4.2
      generalize rdBytes (40 : Int).toNat Z.2.1 Z.2.2 = K at W6
      dsimp only
      have e5 := byte_wf W6
      rw [show oDByte (rdr K.2) = some (rdr (rdByte K.2.1 K.2.2).2, (rdByte K.2.1 K.2.2).1) by rw [e5.1]; rfl, bnd_s]
    · rw [if_neg hv, decide_eq_false hv, Bool.false_and, ifb_0]
  have hE' := congrArg (fun o => bnd o (fun z_3 : Rdr × Cap => bnd (gif ((z_3.1.wrong_ || (decide (1 < (rV l).1))) == false) (oDDone z_3.1)) fun x_9 => bnd (gif (((z_3.1.wrong_ || (decide (1 < (rV l).1))) || (!x_9)) == false) (F_rMay n z_3.2)) fun x_10 => ifb (((z_3.1.wrong_ || (decide (1 < (rV l).1))) || (!x_9)) || (!x_10)) (some (zeroC, (3 : Int))) (some (z_3.2, 0)))) hE
  refine Eq.trans hE' ?_
  rw [bnd_s, rMay_eq hcap]
  have hdone : oDDone (parC l).2 = some (!(parC l).2.wrong_ && decide (((parC l).2.b_.length : Int) = 0)) := rfl
  rw [hdone]
  dsimp only
  by_cases hv : 1 < (rV l).1
  · rw [show (if goodC n l then ((parC l).1, (0 : Int)) else (zeroC, 3)) = (zeroC, 3) from if_neg (fun h => h.1 hv)]
    simp [gif, bnd, ifb, hv]
  · cases hw : (parC l).2.wrong_ with
    | true =>
      rw [show (if goodC n l then ((parC l).1, (0 : Int)) else (zeroC, 3)) = (zeroC, 3) from if_neg (fun h => by have := h.2.1; unfold rdDone at this; rw [if_pos (.inl hw)] at this; cases this)]
      simp [gif, bnd, ifb, hv]
    | false =>
      by_cases hbe : (parC l).2.b_ = []
      · cases hk : okB n (parC l).1 with
        | false =>
          rw [show (if goodC n l then ((parC l).1, (0 : Int)) else (zeroC, 3)) = (zeroC, 3) from if_neg (fun h => by rw [h.2.2] at hk; cases hk)]
          simp [gif, bnd, ifb, hv, hbe]
        | true =>
          have hg : goodC n l := ⟨hv, by rw [hw, hbe]; rfl, hk⟩
          rw [show (if goodC n l then ((parC l).1, (0 : Int)) else (zeroC, 3)) = ((parC l).1, 0) from if_pos hg]
          simp [gif, bnd, ifb, hv, hbe]
      · rw [show (if goodC n l then ((parC l).1, (0 : Int)) else (zeroC, 3)) = (zeroC, 3) from if_neg (fun h => by have := h.2.1; unfold rdDone at this; rw [if_pos (.inr hbe)] at this; cases this)]
        simp [gif, bnd, ifb, hv, hbe]
theorem dec_both {n : Int} {l : List Int} (hb : Bts l) (hl : l.length ≤ 1000000) : ∃ c e, F_cdec n l = some (c, e) ∧ F_rDec n l = some (c, Er.numV e) := by
  cases hn : slB n with
  | true =>
    rw [cdec_eq hb hl hn, rDec_eq hb hl hn]
    by_cases hg : goodC n l
    · rw [if_pos hg, if_pos hg]; exact ⟨_, none, rfl, rfl⟩
    · rw [if_neg hg, if_neg hg]; exact ⟨_, some 3, rfl, rfl⟩
  | false =>
    refine ⟨zeroC, some 1, ?_, ?_⟩
    · unfold F_cdec; rw [cslot_eq, hn]; rfl
    · have hn' : ¬ (0 ≤ n ∧ n < 64) := fun h => by unfold slB at hn; simp only [Bool.and_eq_false_iff, decide_eq_false_iff_not] at hn; omega
      unfold F_rDec
      rw [show ((decide (n < 0)) || (decide (63 < n))) = true by simp only [Bool.or_eq_true, decide_eq_true_eq]; omega]
      rfl
theorem enc_both {n : Int} {c : Cap} (hc : CapOk c) : ∃ bs e, F_cenc n c = some (bs, e) ∧ F_rEnc n c = some (bs, Er.numV e) := by
  rw [cenc_eq hc, rEnc_eq hc]
  cases okB n c with
  | true => exact ⟨_, none, rfl, rfl⟩
  | false => exact ⟨_, some 1, rfl, rfl⟩
theorem name_both {r : Rf} {fl : Nat} (hf : 300 < fl) : ∃ t e, F_cname r = some (t, e) ∧ F_rName fl r = some (t, Er.numV e) := by
  cases h : mayB r with
  | true => exact ⟨_, none, cname_eq h, rName_yes h (by omega)⟩
  | false => exact ⟨_, some 1, cname_no h, rName_no h⟩
theorem parse_both {s : ByteArray} {fl : Nat} (hs : s.size ≤ 100) (hf : 300 < fl) : ∃ r e, F_cparse s = some (r, e) ∧ F_rParse fl s = some (r, Er.numV e) := by
  by_cases h : NoRef s
  · exact ⟨_, some 3, cparse_no hs h, rParse_no hs hf h⟩
  · unfold NoRef at h
    obtain ⟨u, v, h1, h2, h3, rfl⟩ : ∃ u v : Nat, u < 64 ∧ 1 ≤ v ∧ v ≤ 4611686018427387904 ∧ s = nameR u v := by
      apply Classical.byContradiction
      intro hn
      exact h fun u v a b c e => hn ⟨u, v, a, b, c, e⟩
    have hm : mayB (⟨(u : Int), (v : Int)⟩ : Rf) = true := mayB_iff.2 ⟨⟨by simp, by simp; omega⟩, by simp; omega, by simp; omega⟩
    have := cparse_eq hm
    simp only [Int.toNat_natCast] at this
    exact ⟨_, none, this, rParse_yes h1 h2 h3 hf⟩
theorem capsForms_eq {n : Int} {c : Cap} {p : List ByteArray} {fl : Nat} (hc : CapOk c) (hf : 300 < fl) : F_l28CapsForms fl n c p = some true := by
  unfold F_l28CapsForms
  rw [grd_t ⟨by decide, by decide⟩, ixb_n (n := (0 : Int).toNat) (x := p.getD 0 (⟨#[]⟩ : ByteArray)) rfl, grd_t ⟨by decide, by decide⟩, ixb_n (n := (1 : Int).toNat) (x := p.getD 1 (⟨#[]⟩ : ByteArray)) rfl]
  generalize p.getD 0 (⟨#[]⟩ : ByteArray) = b
  generalize p.getD 1 (⟨#[]⟩ : ByteArray) = s
  cases hD : (((decide (200 < ((bytesOf b).length : Int))) || (decide (60 < (s.size : Int)))) || (decide (100 < (c.Scope.Prefix.size : Int)))) with
  | true => rw [ifb_1, sure28_eq, bnd_s]
  | false =>
    simp only [Bool.or_eq_false_iff, decide_eq_false_iff_not] at hD
    obtain ⟨⟨d1, d2⟩, d3⟩ := hD
    obtain ⟨bs, e1, k1, k2⟩ := enc_both (n := n) hc
    obtain ⟨x, e2, k3, k4⟩ := dec_both (n := n) (bytesOf_bts b) (by omega)
    obtain ⟨t, e3, k5, k6⟩ := name_both (r := c.From) hf
    obtain ⟨r, e4, k7, k8⟩ := parse_both (s := s) (fl := fl) (by omega) hf
    have g : ∀ c : Cap, F_l28giveCap c = some c := fun _ => rfl
    have o : ∀ e, oNum28 e = some (Er.numV e) := fun _ => rfl
    rw [ifb_0, g, bnd_s, k1, bnd_s, k2, bnd_s, k3, bnd_s, k4, bnd_s, k5, bnd_s, k6, bnd_s, k7, bnd_s, k8, bnd_s]
    simp only [g, o, cchk_eq, rMay_eq hc, sure28_eq, gif_s, bnd_s]
    cases hk : okB n c <;> simp [hk]
end Go.Proofs.YtokcgacehdgkcaaGreatDoor.Eng.A
