/- Bytes and readers, in plain Lean. -/
import Derived.Test.YtmnhfpcbfdgbcaaDoorEU1
import Derived.Test.YtmnhfpcbfdgbcaaDoorEngX4
import Derived.Test.YtmnhfpcbfdgbcaaDoorER4
import Derived.Laws.Bits64
namespace Go.Proofs.YtmnhfpcbfdgbcaaDoor.Eng.A
set_option linter.unusedVariables false
set_option linter.unusedSimpArgs false
open Go.RowKit Go.Proofs.YtmnhfpcbfdgbcaaDoor.Plain Go.Proofs.YtmnhfpcbfdgbcaaDoor.Eng Go.Proofs.YtmnhfpcbfdgbcaaDoor.Eng.Pk Go.Proofs.YtmnhfpcbfdgbcaaDoor.Eng.Rd

theorem oNum_t {l : List Int} {n : Int} (h : Wrd l.length) (h2 : U64 n) : oNum l n = some (l ++ vb n.toNat) := grd_t ⟨h, h2⟩ _
theorem oByte_t {l : List Int} {n : Int} (h : Wrd l.length) : oByte l n = some (l ++ [n]) := grd_t h _
def bsB (m : List Int) : List Int := vb m.length ++ m
theorem oBytes_t {l m : List Int} (h : Wrd (l.length + m.length)) : oBytes l m = some (l ++ bsB m) := grd_t h _
theorem u64_nat {n : Int} (h : U64 n) : n.toNat < 18446744073709551616 := by have := h.1; have := h.2; omega
theorem vb_le {n : Int} (h : U64 n) : (vb n.toNat).length ≤ 10 := (vb_len10 (u64_nat h)).2
theorem bsB_le {m : List Int} (h : m.length ≤ 100000) : (bsB m).length ≤ 100010 := by
  unfold bsB; rw [List.length_append]
  have := (vb_len10 (n := m.length) (by omega)).2; omega
theorem foldl_app {A : Type} (f : A → List Int) : ∀ (l : List A) (s : List Int), l.foldl (fun s c => s ++ f c) s = s ++ l.flatMap f
  | [], s => by simp
  | a :: l, s => by simp [foldl_app f l]
theorem num_sub (m : Nat) (l : List Int) (b : Bool) : ∃ k, (rdNum m l b).2.1 = l.drop k := by
  unfold rdNum; split
  · exact ⟨_, rfl⟩
  · exact ⟨l.length, by simp⟩
theorem byte_sub (l : List Int) (b : Bool) : ∃ k, (rdByte l b).2.1 = l.drop k := ⟨1, by simp [rdByte]⟩
theorem bytes_sub (m : Nat) (l : List Int) (b : Bool) : ∃ k, (rdBytes m l b).2.1 = l.drop k := by
  unfold rdBytes; split
  · obtain ⟨k, hk⟩ := num_sub m l b
    exact ⟨_, by rw [hk, List.drop_drop]⟩
  · exact ⟨l.length, by simp⟩
theorem rdok_sub {r : Rdr} (h : RdOk r) {l : List Int} {b : Bool} (hl : ∃ k, l = r.b_.drop k) : RdOk ⟨l, b⟩ := by
  obtain ⟨k, rfl⟩ := hl
  exact ⟨h.1.drop k, by have := h.2; show (r.b_.drop k).length ≤ _; rw [List.length_drop]; omega⟩
theorem rdok_num {r : Rdr} (h : RdOk r) (m : Nat) : RdOk (rdr (rdNum m r.b_ r.wrong_).2) := rdok_sub h (num_sub _ _ _)
theorem rdok_byte {r : Rdr} (h : RdOk r) : RdOk (rdr (rdByte r.b_ r.wrong_).2) := rdok_sub h (byte_sub _ _)
theorem rdok_bytes {r : Rdr} (h : RdOk r) (m : Nat) : RdOk (rdr (rdBytes m r.b_ r.wrong_).2) := rdok_sub h (bytes_sub _ _ _)
theorem byte_rg {r : Rdr} (h : RdOk r) (b : Bool) : 0 ≤ (rdByte r.b_ b).1 ∧ (rdByte r.b_ b).1 < 256 := by
  obtain ⟨l, w⟩ := r
  cases l with
  | nil => simp [rdByte]
  | cons c t => exact h.1 c (List.mem_cons_self)
theorem oRNum_t {r : Rdr} (h : RdOk r) {m : Int} (hm : U64 m) : oRNum r m = some (((rdNum m.toNat r.b_ r.wrong_).1 : Int), rdr (rdNum m.toNat r.b_ r.wrong_).2) := grd_t ⟨h, hm⟩ _
theorem oRBytes_t {r : Rdr} (h : RdOk r) {m : Int} (hm : I64 m) : oRBytes r m = some ((rdBytes m.toNat r.b_ r.wrong_).1, rdr (rdBytes m.toNat r.b_ r.wrong_).2) := grd_t ⟨h, hm⟩ _
theorem oDNum_t {r : Rdr} (h : RdOk r) {m : Int} (hm : U64 m) : oDNum r m = some (rdr (rdNum m.toNat r.b_ false).2, ((rdNum m.toNat r.b_ false).1 : Int)) := grd_t ⟨h, hm⟩ _
theorem oDBytes_t {r : Rdr} (h : RdOk r) {m : Int} (hm : I64 m) : oDBytes r m = some (rdr (rdBytes m.toNat r.b_ false).2, (rdBytes m.toNat r.b_ false).1) := grd_t ⟨h, hm⟩ _
theorem rdok_f {r : Rdr} (h : RdOk r) : RdOk ⟨r.b_, false⟩ := ⟨h.1, h.2⟩
theorem strOf_sz {m : Nat} {l : List Int} (h : l.length ≤ m) : (strOf l).size ≤ m := by rw [strOf_size]; exact h
theorem num_lim (m : Nat) (l : List Int) (b : Bool) : 0 ≤ (((rdNum m l b).1 : Nat) : Int) ∧ (((rdNum m l b).1 : Nat) : Int) ≤ (m : Int) := by
  have := (rdNum_le m l b).1; omega
theorem num_back {n : Int} {m : Nat} (h : U64 n) (hm : n ≤ (m : Int)) (t : List Int) : rdNum m (vb n.toNat ++ t) false = (n.toNat, t, false) := rdNum_vb (u64_nat h) (by have := h.1; omega) t false
theorem bytes_back {s : ByteArray} {m : Nat} (h : s.size ≤ m) (hm : m < 18446744073709551616) (t : List Int) : rdBytes m (bsB (bytesOf s) ++ t) false = (bytesOf s, t, false) := by
  unfold bsB; rw [List.append_assoc]
  exact rdBytes_vb (by rw [bytesOf_length]; exact h) (by rw [bytesOf_length]; omega) false
theorem str_eq {a b : List Int} (ha : Bts a) (hb : Bts b) : strOf a = strOf b ↔ a = b := ⟨fun h => by rw [← bytesOf_strOf ha, ← bytesOf_strOf hb, h], fun h => by rw [h]⟩

/-! ### Numbers have one form -/
theorem vgl_canon : ∀ (l : List Int) (i v : Nat) {x n : Nat}, Bts l → vgl l i v = (x, n, none) → ∃ m, x = v + m * 128 ^ i ∧ l.take (n - i) = vb m ∧ (0 < i → 0 < m) ∧ i < n
  | [], i, v, x, n, _, h => by simp [vgl] at h
  | c :: t, i, v, x, n, hb, h => by
    have hc := hb c (List.mem_cons_self)
    rw [vgl] at h
    split at h
    · simp at h
    · split at h
      · simp at h
      · rename_i h1 h2
        split at h
        · rename_i h3
          simp only [Prod.mk.injEq, and_true] at h
          obtain ⟨rfl, rfl⟩ := h
          refine ⟨c.toNat, rfl, ?_, fun hi => by omega, by omega⟩
          rw [show i + 1 - i = 1 by omega, List.take_succ_cons, List.take_zero, vb_small (by omega)]
          congr 1; omega
        · rename_i h3
          obtain ⟨m, e1, e2, e3, e4⟩ := vgl_canon t (i + 1) _ (fun y hy => hb y (List.mem_cons_of_mem _ hy)) h
          have hm := e3 (by omega)
          refine ⟨m * 128 + (c.toNat - 128), ?_, ?_, fun _ => by omega, by omega⟩
          · rw [e1, Nat.pow_succ, Nat.add_mul, Nat.mul_assoc, Nat.mul_comm 128 (128 ^ i)]; omega
          · rw [show n - i = (n - (i + 1)) + 1 by omega, List.take_succ_cons, e2, vb_big (n := m * 128 + (c.toNat - 128)) (by omega)]
            congr 1
            · have : (m * 128 + (c.toNat - 128)) % 128 = c.toNat - 128 := by omega
              rw [this]; omega
            · congr 1; omega
theorem vget_canon {l : List Int} {x n : Nat} (hb : Bts l) (h : vget l = (x, n, none)) : l = vb x ++ l.drop n := by
  obtain ⟨m, e1, e2, _, _⟩ := vgl_canon l 0 0 hb h
  have : x = m := by simpa using e1
  subst this
  rw [Nat.sub_zero] at e2
  rw [← e2, List.take_append_drop]
theorem num_canon {m : Nat} {l : List Int} {b : Bool} (hb : Bts l) (h : (rdNum m l b).2.2 = false) : b = false ∧ l = vb (rdNum m l b).1 ++ (rdNum m l b).2.1 ∧ (rdNum m l b).1 ≤ m := by
  unfold rdNum at h ⊢
  split at h
  · rename_i hc
    rw [if_pos hc]
    refine ⟨h, ?_, hc.2⟩
    rcases hv : vget l with ⟨x, n, o⟩
    rw [hv] at hc
    obtain rfl : o = none := hc.1
    exact vget_canon hb hv
  · simp at h
theorem byte_canon {l : List Int} {b : Bool} (h : (rdByte l b).2.2 = false) : b = false ∧ l = (rdByte l b).1 :: (rdByte l b).2.1 := by
  cases l with
  | nil => simp [rdByte] at h
  | cons c t => simp [rdByte] at h ⊢; exact h
theorem bytes_canon {m : Nat} {l : List Int} {b : Bool} (hb : Bts l) (h : (rdBytes m l b).2.2 = false) : b = false ∧ l = bsB (rdBytes m l b).1 ++ (rdBytes m l b).2.1 ∧ (rdBytes m l b).1.length ≤ m := by
  have hle := (rdBytes_le m l b).1
  unfold rdBytes at h hle ⊢
  split at h
  · rename_i hc
    rw [if_pos hc] at hle ⊢
    obtain ⟨h1, h2, h3⟩ := num_canon hb h
    refine ⟨h1, ?_, hle⟩
    show l = bsB (List.take _ _) ++ List.drop _ _
    unfold bsB
    rw [List.length_take, Nat.min_eq_left hc, List.append_assoc, List.take_append_drop]
    exact h2
  · simp at h
end Go.Proofs.YtmnhfpcbfdgbcaaDoor.Eng.A

/- Replies, in plain Lean: lists looked through; the check. -/
namespace Go.Proofs.YtmnhfpcbfdgbcaaDoor.Eng.A
set_option linter.unusedVariables false
set_option linter.unusedSimpArgs false
open Go.RowKit Go.Proofs.YtmnhfpcbfdgbcaaDoor.Plain Go.Proofs.YtmnhfpcbfdgbcaaDoor.Eng Go.Proofs.YtmnhfpcbfdgbcaaDoor.Eng.Pk Go.Proofs.YtmnhfpcbfdgbcaaDoor.Eng.Rd

section
variable {A B : Type}
/-- A list looked through for a first element of a kind. -/
theorem lp_find {V : Type} {l : List A} {body : Int → Option (Int ⊕ (V ⊕ Unit))} (p : A → Bool) (v : Nat → V) {fl : Nat}
    (hb : ∀ (i : Nat) (x : A), l[i]? = some x → body (i : Int) = ifb (p x) (some (.inr (.inl (v i)))) (some (.inl ((i + 1 : Nat) : Int)))) (he : body (l.length : Int) = some (.inr (.inr ()))) (hf : l.length < fl) :
    (l.any p = false ∧ lp body fl 0 = some (.inr ())) ∨ (l.any p = true ∧ ∃ i, lp body fl 0 = some (.inl (v i))) := by
  have hn : ∀ (i : Nat) (x : A), l[i]? = some x → p x = false → body (i : Int) = some (.inl ((i + 1 : Nat) : Int)) := fun i x hx hp => by rw [hb i x hx, hp, ifb_0]
  cases ha : l.any p with
  | false => exact .inl ⟨rfl, lp_none (body := body) (fun i => ((i : Nat) : Int)) p ha hn he hf⟩
  | true =>
    obtain ⟨i, x, _, _, h3⟩ := lp_hit (body := body) (fun i => ((i : Nat) : Int)) p (fun i _ => Sum.inl (v i)) ha hn (fun i x hx hp => by rw [hb i x hx, hp, ifb_1]) hf
    exact .inr ⟨rfl, i, h3⟩
theorem lp_find2 {V : Type} {l : List A} {body : Int → Option (Int ⊕ (V ⊕ Unit))} (p : A → Bool) (v : Int → V) {fl : Nat}
    (hb : ∀ t, body t = ifb (decide (t < (l.length : Int))) (ixb l t fun x => ifb (p x) (some (.inr (.inl (v t)))) (some (.inl (IntKind.i64.wrap (t + 1))))) (some (.inr (.inr ())))) (hl : l.length < 1000000000000000000) (hf : l.length < fl) :
    (l.any p = false ∧ lp body fl 0 = some (.inr ())) ∨ (l.any p = true ∧ ∃ i : Nat, lp body fl 0 = some (.inl (v i))) :=
  lp_find p (fun i => v i) (fun i x hx => by
    have hi := (List.getElem?_eq_some_iff.1 hx).1
    rw [hb, ifb_dec, if_pos (by omega), ixb_n hx, wrap_i64 (by omega)]; rfl) (by rw [hb, ifb_dec, if_neg (by omega)]) hf
/-- Two lists of one length, compared. -/
theorem lp_cmp [DecidableEq A] {l m : List A} {body : Int → Option (Int ⊕ (Bool ⊕ Unit))} (q : A → A → Bool) (hq : ∀ a b, q a b = true ↔ a = b) (hlm : l.length = m.length) {fl : Nat}
    (hb : ∀ t, body t = ifb (decide (t < (l.length : Int))) (ixb l t fun x => ixb m t fun y => ifb (!q x y) (some (.inr (.inl false))) (some (.inl (IntKind.i64.wrap (t + 1))))) (some (.inr (.inr ())))) (hl : l.length < 1000000000000000000) (hf : l.length < fl) :
    lp body fl 0 = some (if l = m then .inr () else .inl false) := by
  have hz : (l.zip m).length = l.length := by rw [List.length_zip]; omega
  have hany : (l.zip m).any (fun x => !q x.1 x.2) = false ↔ l = m := by
    clear hb hf hl hz
    induction l generalizing m with
    | nil => cases m <;> simp_all
    | cons a l ih =>
      cases m with
      | nil => simp at hlm
      | cons b m =>
        rw [List.zip_cons_cons, List.any_cons, Bool.or_eq_false_iff, ih (by simpa using hlm)]
        have := hq a b
        cases hc : q a b <;> simp_all
  rcases lp_find (l := l.zip m) (body := body) (fun x => !q x.1 x.2) (fun _ => false) (fl := fl) (fun i x hx => by
    have hi := (List.getElem?_eq_some_iff.1 hx).1
    rw [List.getElem?_zip_eq_some] at hx
    rw [hb, ifb_dec, if_pos (by omega), ixb_n hx.1, ixb_n hx.2, wrap_i64 (by omega)]; rfl) (by rw [hb, hz, ifb_dec, if_neg (by omega)]) (by omega) with ⟨h1, h2⟩ | ⟨h1, i, h2⟩
  · rw [h2, if_pos (hany.1 h1)]
  · rw [h2, if_neg (fun h => by rw [hany.2 h] at h1; cases h1)]
end

structure RpOk (q : Rpl) : Prop where
  code : I64 q.Code
  n : U64 q.N
  refs : ∀ f ∈ q.Refs, I64 f.Slot ∧ U64 f.Gen
  lines : ∀ x ∈ q.Lines, U64 x.Seq ∧ U64 x.Who ∧ (0 ≤ x.What ∧ x.What < 256) ∧ (0 ≤ x.Code ∧ x.Code < 65536)
def badE (e : Ent) : Bool := (decide (40 < (e.Key.size : Int))) || (decide (2048 < (e.Value.size : Int)))
def badF (f : Rf) : Bool := ((decide (f.Slot < 0)) || (decide (64 ≤ f.Slot))) || (decide (4611686018427387904 < f.Gen))
def badL (x : Lin) : Bool := ((decide (4611686018427387904 < x.Seq)) || (decide (4611686018427387904 < x.Who))) || (decide (40 < (x.Key.size : Int)))
def mayR (q : Rpl) : Bool :=
  !(((((decide (q.Code < 0)) || (decide (65535 < q.Code))) || (decide (4611686018427387904 < q.N))) || (decide (2048 < (q.Value.size : Int)))) || ((decide (64 < (q.Rows.length : Int))) || q.Rows.any badE) || ((decide (64 < (q.Refs.length : Int))) || q.Refs.any badF) || ((decide (32 < (q.Lines.length : Int))) || q.Lines.any badL))
structure MayR (q : Rpl) : Prop where
  code : 0 ≤ q.Code ∧ q.Code ≤ 65535
  n : q.N ≤ 4611686018427387904
  value : q.Value.size ≤ 2048
  rowsN : q.Rows.length ≤ 64
  refsN : q.Refs.length ≤ 64
  linesN : q.Lines.length ≤ 32
  rows : ∀ e ∈ q.Rows, e.Key.size ≤ 40 ∧ e.Value.size ≤ 2048
  refs : ∀ f ∈ q.Refs, (0 ≤ f.Slot ∧ f.Slot < 64) ∧ f.Gen ≤ 4611686018427387904
  lines : ∀ x ∈ q.Lines, x.Seq ≤ 4611686018427387904 ∧ x.Who ≤ 4611686018427387904 ∧ x.Key.size ≤ 40
theorem mayR_iff {q : Rpl} : mayR q = true ↔ MayR q := by
  unfold mayR
  simp only [Bool.not_eq_true', Bool.or_eq_false_iff, decide_eq_false_iff_not, List.any_eq_false, badE, badF, badL, Bool.or_eq_true, decide_eq_true_eq]
  constructor
  · rintro ⟨⟨⟨⟨⟨⟨a1, a2⟩, a3⟩, a4⟩, a5, a6⟩, a7, a8⟩, a9, a10⟩
    exact ⟨by omega, by omega, by omega, by omega, by omega, by omega, fun e he => by have := a6 e he; omega, fun e he => by have := a8 e he; omega, fun e he => by have := a10 e he; omega⟩
  · rintro ⟨b1, b2, b3, b4, b5, b6, b7, b8, b9⟩
    exact ⟨⟨⟨⟨⟨⟨by omega, by omega⟩, by omega⟩, by omega⟩, by omega, fun e he => by have := b7 e he; omega⟩, by omega, fun e he => by have := b8 e he; omega⟩, by omega, fun e he => by have := b9 e he; omega⟩
theorem hasE_eq {l : List Ent} {fl : Nat} (hl : l.length < 1000000000000000000) (hf : l.length < fl) : F_hasE fl l = some (l.any badE) := by
  unfold F_hasE F_idxE
  rcases lp_find2 (l := l) (body := F_idxE_b0 l) badE (fun t => t) (fl := fl) (fun t => rfl) hl hf with ⟨h1, h2⟩ | ⟨h1, i, h2⟩
  · rw [h2, h1]; rfl
  · rw [h2, h1]; simp
theorem hasF_eq {l : List Rf} {fl : Nat} (hl : l.length < 1000000000000000000) (hf : l.length < fl) : F_hasF fl l = some (l.any badF) := by
  unfold F_hasF F_idxF
  rcases lp_find2 (l := l) (body := F_idxF_b0 l) badF (fun t => t) (fl := fl) (fun t => rfl) hl hf with ⟨h1, h2⟩ | ⟨h1, i, h2⟩
  · rw [h2, h1]; rfl
  · rw [h2, h1]; simp
theorem hasL_eq {l : List Lin} {fl : Nat} (hl : l.length < 1000000000000000000) (hf : l.length < fl) : F_hasL fl l = some (l.any badL) := by
  unfold F_hasL F_idxL
  rcases lp_find2 (l := l) (body := F_idxL_b0 l) badL (fun t => t) (fl := fl) (fun t => rfl) hl hf with ⟨h1, h2⟩ | ⟨h1, i, h2⟩
  · rw [h2, h1]; rfl
  · rw [h2, h1]; simp
theorem rcheck_eq {q : Rpl} {fl : Nat} (hf : 64 < fl) : F_rcheck fl q = some (if mayR q = true then none else some 1) := by
  unfold F_rcheck mayR
  generalize hA : ((((decide (q.Code < 0)) || (decide (65535 < q.Code))) || (decide (4611686018427387904 < q.N))) || (decide (2048 < (q.Value.size : Int)))) = A
  cases A with
  | true => rfl
  | false =>
    rw [ifb_0, Bool.false_or]
    by_cases h1 : 64 < (q.Rows.length : Int)
    · simp [h1]
    simp only [h1, decide_false, BEq.rfl, gif_1, Bool.false_or, hasE_eq (l := q.Rows) (fl := fl) (by omega) (by omega), bnd_s]
    cases q.Rows.any badE with
    | true => rfl
    | false =>
      rw [ifb_0, Bool.false_or]
      by_cases h2 : 64 < (q.Refs.length : Int)
      · simp [h2]
      simp only [h2, decide_false, BEq.rfl, gif_1, Bool.false_or, hasF_eq (l := q.Refs) (fl := fl) (by omega) (by omega), bnd_s]
      cases q.Refs.any badF with
      | true => rfl
      | false =>
        rw [ifb_0, Bool.false_or]
        by_cases h3 : 32 < (q.Lines.length : Int)
        · simp [h3]
        simp only [h3, decide_false, BEq.rfl, gif_1, Bool.false_or, hasL_eq (l := q.Lines) (fl := fl) (by omega) (by omega), bnd_s]
        cases q.Lines.any badL <;> rfl
theorem getD_n {A : Type} [Inhabited A] {l : List A} {i : Nat} {x : A} (h : l[i]? = some x) : l.getD ((i : Int)).toNat default = x := by
  rw [List.getD_eq_getElem?_getD, Int.toNat_natCast, h]; rfl
theorem badF_eq (x : Rf) : (((decide (x.Slot < 0)) || (decide (63 < x.Slot))) || (decide (4611686018427387904 < x.Gen))) = badF x := by
  unfold badF
  have : decide (63 < x.Slot) = decide (64 ≤ x.Slot) := by
    by_cases h : 63 < x.Slot
    · simp [h]; omega
    · simp [h]; omega
  rw [this]
theorem belo {i n : Nat} (h : i < n) : Below (i : Int) n := ⟨by omega, by simpa using h⟩
theorem rmay_eq {q : Rpl} {fl : Nat} (hf : 64 < fl) : F_rmay fl q = some (mayR q) := by
  unfold F_rmay mayR
  generalize hA : ((((decide (q.Code < 0)) || (decide (65535 < q.Code))) || (decide (4611686018427387904 < q.N))) || (decide (2048 < (q.Value.size : Int)))) = A
  cases A with
  | true => rfl
  | false =>
    rw [Bool.false_or]
    by_cases h1 : 64 < (q.Rows.length : Int)
    · simp [h1]
    by_cases h2 : 64 < (q.Refs.length : Int)
    · simp [h2]
    by_cases h3 : 32 < (q.Lines.length : Int)
    · simp [h3]
    simp only [h1, h2, h3, decide_false, Bool.or_false, Bool.false_or, ifb_0]
    rcases lp_find (l := q.Rows) (body := F_rmay_b0 q) badE (fun _ => false) (fl := fl) (fun i x hx => by
      have hi := (List.getElem?_eq_some_iff.1 hx).1
      unfold F_rmay_b0
      rw [ifb_dec, if_pos (by omega), ixb_n hx, grd_t (fun _ => belo hi), getD_n hx, wrap_i64 (by omega)]; rfl) (by unfold F_rmay_b0; rw [ifb_dec, if_neg (by omega)]) (by omega) with ⟨e1, e2⟩ | ⟨e1, i, e2⟩
    · rw [e1, e2]
      simp only [bnd_s, ocs_2, Bool.false_or]
      rcases lp_find (l := q.Refs) (body := F_rmay_b1 q) badF (fun _ => false) (fl := fl) (fun i x hx => by
        have hi := (List.getElem?_eq_some_iff.1 hx).1
        unfold F_rmay_b1
        rw [ifb_dec, if_pos (by omega), ixb_n hx, grd_t (fun _ => belo hi), grd_t (fun _ => belo hi), getD_n hx, wrap_i64 (by omega), badF_eq]; rfl) (by unfold F_rmay_b1; rw [ifb_dec, if_neg (by omega)]) (by omega) with ⟨f1, f2⟩ | ⟨f1, i, f2⟩
      · rw [f1, f2]
        simp only [bnd_s, ocs_2, Bool.false_or]
        rcases lp_find (l := q.Lines) (body := F_rmay_b2 q) badL (fun _ => false) (fl := fl) (fun i x hx => by
          have hi := (List.getElem?_eq_some_iff.1 hx).1
          unfold F_rmay_b2
          rw [ifb_dec, if_pos (by omega), ixb_n hx, grd_t (fun _ => belo hi), grd_t (fun _ => belo hi), getD_n hx, wrap_i64 (by omega)]; rfl) (by unfold F_rmay_b2; rw [ifb_dec, if_neg (by omega)]) (by omega) with ⟨g1, g2⟩ | ⟨g1, i, g2⟩
        · rw [g1, g2]; rfl
        · rw [g1, g2]; rfl
      · rw [f1, f2]; rfl
    · rw [e1, e2]; rfl

/-! ### Compared -/
def qE (a b : Ent) : Bool := (decide (a.Key = b.Key) && (decide (a.Value = b.Value) && true))
def qF (a b : Rf) : Bool := (decide (a.Slot = b.Slot) && (decide (a.Gen = b.Gen) && true))
def qL (a b : Lin) : Bool := (decide (a.Seq = b.Seq) && (decide (a.Who = b.Who) && (decide (a.What = b.What) && (decide (a.Code = b.Code) && (decide (a.Key = b.Key) && true)))))
theorem qE_iff (a b : Ent) : qE a b = true ↔ a = b := by obtain ⟨x, y⟩ := a; obtain ⟨z, w⟩ := b; simp [qE]
theorem qF_iff (a b : Rf) : qF a b = true ↔ a = b := by obtain ⟨x, y⟩ := a; obtain ⟨z, w⟩ := b; simp [qF]
theorem qL_iff (a b : Lin) : qL a b = true ↔ a = b := by obtain ⟨x, y, u, v, k⟩ := a; obtain ⟨z, w, u', v', k'⟩ := b; simp [qL]
theorem eqlE_eq {l m : List Ent} {fl : Nat} (hl : l.length < 1000000000000000000) (hf : l.length < fl) : F_eqlE fl l m = some (decide (l = m)) := by
  unfold F_eqlE
  rw [ifb_dec]
  by_cases h : l.length = m.length
  · rw [if_neg (by omega), lp_cmp (body := F_eqlE_b0 l m) qE qE_iff h (fun t => rfl) hl hf]
    by_cases e : l = m <;> simp [e]
  · rw [if_pos (by omega), decide_eq_false (fun e => h (by rw [e]))]
theorem eqlF_eq {l m : List Rf} {fl : Nat} (hl : l.length < 1000000000000000000) (hf : l.length < fl) : F_eqlF fl l m = some (decide (l = m)) := by
  unfold F_eqlF
  rw [ifb_dec]
  by_cases h : l.length = m.length
  · rw [if_neg (by omega), lp_cmp (body := F_eqlF_b0 l m) qF qF_iff h (fun t => rfl) hl hf]
    by_cases e : l = m <;> simp [e]
  · rw [if_pos (by omega), decide_eq_false (fun e => h (by rw [e]))]
theorem eqlL_eq {l m : List Lin} {fl : Nat} (hl : l.length < 1000000000000000000) (hf : l.length < fl) : F_eqlL fl l m = some (decide (l = m)) := by
  unfold F_eqlL
  rw [ifb_dec]
  by_cases h : l.length = m.length
  · rw [if_neg (by omega), lp_cmp (body := F_eqlL_b0 l m) qL qL_iff h (fun t => rfl) hl hf]
    by_cases e : l = m <;> simp [e]
  · rw [if_pos (by omega), decide_eq_false (fun e => h (by rw [e]))]
/-- A size that a machine can hold, and more. -/
def Cap (q : Rpl) (fl : Nat) : Prop := (q.Rows.length < fl ∧ q.Refs.length < fl ∧ q.Lines.length < fl) ∧ (q.Rows.length * 32 ≤ 140737488355328 ∧ q.Refs.length * 16 ≤ 140737488355328 ∧ q.Lines.length * 40 ≤ 140737488355328)
theorem rsame_eq {a b : Rpl} {fl : Nat} (h : Cap a fl) : F_rsame fl a b = some (decide (a = b)) := by
  obtain ⟨⟨h1, h2, h3⟩, h4, h5, h6⟩ := h
  unfold F_rsame
  simp only [eqlE_eq (l := a.Rows) (m := b.Rows) (fl := fl) (by omega) h1, eqlF_eq (l := a.Refs) (m := b.Refs) (fl := fl) (by omega) h2, eqlL_eq (l := a.Lines) (m := b.Lines) (fl := fl) (by omega) h3, gif_s, bnd_s]
  congr 1
  obtain ⟨c, n, f, v, r, s, l⟩ := a
  obtain ⟨c', n', f', v', r', s', l'⟩ := b
  simp only [Rpl.mk.injEq, Bool.decide_and]
  have hf : (f == f') = decide (f = f') := by cases f <;> cases f' <;> rfl
  rw [hf]
  cases decide (c = c') <;> cases decide (n = n') <;> cases decide (f = f') <;> cases decide (v = v') <;> cases decide (r = r') <;> cases decide (s = s') <;> cases decide (l = l') <;> rfl
theorem foldl_snoc {A : Type} : ∀ (l s : List A), l.foldl (fun s x => s ++ [x]) s = s ++ l
  | [], s => by simp
  | a :: l, s => by rw [List.foldl_cons, foldl_snoc l]; simp
theorem lp_copy {A : Type} {l : List A} {n : Nat} {body : Int × List A → Option ((Int × List A) ⊕ List A)} {fl : Nat}
    (hb : ∀ t, body t = ifb (decide (t.1 < (l.length : Int))) (ixb l t.1 fun x => grd (Fits n (t.2.length + ([x] : List A).length)) <| some (.inl (IntKind.i64.wrap (t.1 + 1), (t.2 ++ [x])))) (some (.inr t.2))) (hl : l.length * n ≤ 140737488355328) (hl2 : l.length < 1000000000000000000) (hf : l.length < fl) : lp body fl (0, []) = some l := by
  have := lp_list (l := l) (fun i s => ((i : Int), s)) (body := body) (fun s x => s ++ [x]) (fun s => s) [] (fl := fl) (fun i s => s.length = i) rfl
    (fun i x s hx hI => by
      have hi := (List.getElem?_eq_some_iff.1 hx).1
      refine ⟨?_, by rw [List.length_append, hI]; rfl⟩
      rw [hb, ifb_dec, if_pos (by show (i : Int) < _; omega), ixb_n hx, grd_t, wrap_i64 (by omega)]
      · rfl
      · refine ⟨?_, by simp; omega⟩
        have : (i + 1) * n ≤ l.length * n := Nat.mul_le_mul_right _ (by omega)
        rw [hI]; show (i + 1) * n ≤ _; omega)
    (fun s hI => by rw [hb, ifb_dec, if_neg (by show ¬ (l.length : Int) < _; omega)]) hf
  rw [foldl_snoc, List.nil_append] at this
  exact this
theorem rgive_eq {a : Rpl} {fl : Nat} (h : Cap a fl) : F_rgive fl a = some a := by
  obtain ⟨⟨h1, h2, h3⟩, h4, h5, h6⟩ := h
  unfold F_rgive
  rw [lp_copy (l := a.Rows) (n := 32) (body := F_rgive_b0 a) (fun t => rfl) h4 (by omega) h1, bnd_s, lp_copy (l := a.Refs) (n := 16) (body := F_rgive_b1 a) (fun t => rfl) h5 (by omega) h2, bnd_s, lp_copy (l := a.Lines) (n := 40) (body := F_rgive_b2 a) (fun t => rfl) h6 (by omega) h3, bnd_s]
theorem ris_eq {a b : Rpl} {fl : Nat} (h : Cap a fl) (hb : Cap b fl) : F_ris fl a b = some (decide (a = b)) := by
  obtain ⟨⟨h1, h2, h3⟩, h4, h5, h6⟩ := h
  unfold F_ris
  rw [rgive_eq hb, bnd_s]
  by_cases e1 : a.Rows.length = b.Rows.length
  · by_cases e2 : a.Refs.length = b.Refs.length
    · by_cases e3 : a.Lines.length = b.Lines.length
      · rw [lp_cmp (body := F_ris_b0 a b) qE qE_iff e1 (fun t => rfl) (by omega) h1, lp_cmp (body := F_ris_b1 a b) qF qF_iff e2 (fun t => rfl) (by omega) h2, lp_cmp (body := F_ris_b2 a b) qL qL_iff e3 (fun t => rfl) (by omega) h3]
        simp only [e1, e2, e3, ne_eq, not_true_eq_false, decide_false, Bool.or_false]
        obtain ⟨c, n, f, v, r, s, l⟩ := a
        obtain ⟨c', n', f', v', r', s', l'⟩ := b
        have hfn : (f != f') = decide (¬ f = f') := by cases f <;> cases f' <;> rfl
        simp only [Rpl.mk.injEq, hfn]
        by_cases x1 : c = c' <;> by_cases x2 : n = n' <;> by_cases x3 : f = f' <;> by_cases x4 : v = v' <;> by_cases x5 : r = r' <;> by_cases x6 : s = s' <;> by_cases x7 : l = l' <;> simp [x1, x2, x3, x4, x5, x6, x7]
      · have : decide ((a.Lines.length : Int) ≠ b.Lines.length) = true := by simp; omega
        rw [this, Bool.or_true, ifb_1, decide_eq_false (fun e => e3 (by rw [e]))]
    · have : decide ((a.Refs.length : Int) ≠ b.Refs.length) = true := by simp; omega
      rw [this, Bool.or_true, Bool.true_or, ifb_1, decide_eq_false (fun e => e2 (by rw [e]))]
  · have : decide ((a.Rows.length : Int) ≠ b.Rows.length) = true := by simp; omega
    rw [this, Bool.or_true, Bool.true_or, Bool.true_or, ifb_1, decide_eq_false (fun e => e1 (by rw [e]))]
theorem cap_small {a : Rpl} {fl : Nat} (h1 : a.Rows.length ≤ 64) (h2 : a.Refs.length ≤ 64) (h3 : a.Lines.length ≤ 64) (hf : 64 < fl) : Cap a fl := by
  unfold Cap; omega
end Go.Proofs.YtmnhfpcbfdgbcaaDoor.Eng.A

/- Replies, in plain Lean: bytes, and reading them. -/
namespace Go.Proofs.YtmnhfpcbfdgbcaaDoor.Eng.A
set_option linter.unusedVariables false
set_option linter.unusedSimpArgs false
open Go.RowKit Go.Proofs.YtmnhfpcbfdgbcaaDoor.Plain Go.Proofs.YtmnhfpcbfdgbcaaDoor.Eng Go.Proofs.YtmnhfpcbfdgbcaaDoor.Eng.Pk Go.Proofs.YtmnhfpcbfdgbcaaDoor.Eng.Rd

/-! ### Bytes -/
def encE (e : Ent) : List Int := bsB (bytesOf e.Key) ++ bsB (bytesOf e.Value)
def encF (f : Rf) : List Int := f.Slot :: vb f.Gen.toNat
def encL (x : Lin) : List Int := vb x.Seq.toNat ++ (vb x.Who.toNat ++ (x.What :: (vb x.Code.toNat ++ bsB (bytesOf x.Key))))
def flg (b : Bool) : Int := if b = true then 1 else 0
/-- A reply's bytes, its flag's byte as it is. -/
def encB (q : Rpl) (f : Int) : List Int := vb q.Code.toNat ++ (vb q.N.toNat ++ (f :: (bsB (bytesOf q.Value) ++ (vb q.Rows.length ++ (q.Rows.flatMap encE ++ (vb q.Refs.length ++ (q.Refs.flatMap encF ++ (vb q.Lines.length ++ q.Lines.flatMap encL))))))))
def encR (q : Rpl) : List Int := encB q (flg q.Found)
theorem bs_le {s : ByteArray} {n : Nat} (h : s.size ≤ n) (hn : n ≤ 3000) : (bsB (bytesOf s)).length ≤ n + 10 := by
  unfold bsB
  rw [List.length_append, bytesOf_length]
  have := (vb_len10 (n := s.size) (by omega)).2
  omega
theorem vbn_le {n : Nat} (h : n ≤ 1000) : (vb n).length ≤ 10 := (vb_len10 (by omega)).2
theorem flat_le {A : Type} {f : A → List Int} {n : Nat} : ∀ l : List A, (∀ c ∈ l, (f c).length ≤ n) → (l.flatMap f).length ≤ l.length * n
  | [], _ => by simp
  | c :: l, h => by
    rw [List.flatMap_cons, List.length_append, List.length_cons, Nat.add_mul]
    have := h c (by simp); have := flat_le l (fun c hc => h c (by simp [hc])); omega
section
variable {q : Rpl} (ok : RpOk q) (m : MayR q)
include m
theorem encE_le : ∀ e ∈ q.Rows, (encE e).length ≤ 2108 := fun e he => by
  have h := m.rows e he
  unfold encE
  have := bs_le h.1 (by decide); have := bs_le h.2 (by decide)
  rw [List.length_append]; omega
include ok
omit m in
theorem encF_le : ∀ f ∈ q.Refs, (encF f).length ≤ 11 := fun f hf => by
  unfold encF
  have := vb_le (ok.refs f hf).2
  rw [List.length_cons]; omega
theorem encL_le : ∀ x ∈ q.Lines, (encL x).length ≤ 81 := fun x hx => by
  obtain ⟨h1, h2, h3, h4⟩ := ok.lines x hx
  have := vb_le h1; have := vb_le h2; have := vb_le (n := x.Code) ⟨h4.1, by omega⟩
  have := bs_le (m.lines x hx).2.2 (by decide)
  unfold encL
  simp only [List.length_append, List.length_cons]; omega
theorem encB_le (f : Int) : (encB q f).length ≤ 200000 := by
  have h1 := flat_le q.Rows (encE_le m); have h2 := flat_le q.Refs (encF_le ok); have h3 := flat_le q.Lines (encL_le ok m)
  have h4 : q.Rows.length * 2108 ≤ 64 * 2108 := Nat.mul_le_mul_right _ m.rowsN
  have h5 : q.Refs.length * 11 ≤ 64 * 11 := Nat.mul_le_mul_right _ m.refsN
  have h6 : q.Lines.length * 81 ≤ 32 * 81 := Nat.mul_le_mul_right _ m.linesN
  have := vb_le (n := q.Code) ⟨m.code.1, by have := m.code.2; omega⟩; have := vb_le ok.n; have := bs_le m.value (by decide)
  have := vbn_le (n := q.Rows.length) (by have := m.rowsN; omega); have := vbn_le (n := q.Refs.length) (by have := m.refsN; omega); have := vbn_le (n := q.Lines.length) (by have := m.linesN; omega)
  unfold encB
  simp only [List.length_append, List.length_cons]; omega
omit ok m in
/-- A loop that adds each element's bytes. -/
theorem lp_add {A : Type} {l : List A} (e : A → List Int) {n : Nat} {body : List Int × Int → Option ((List Int × Int) ⊕ List Int)} {fl : Nat} {s0 : List Int} (h0 : s0.length ≤ 200000) (hn : ∀ x ∈ l, (e x).length ≤ n) (hln : l.length * n ≤ 200000) (hl : l.length < 1000)
    (hb : ∀ (i : Nat) x (s : List Int), l[i]? = some x → s.length ≤ 400000 → body (s, (i : Int)) = some (.inl (s ++ e x, ((i + 1 : Nat) : Int)))) (he : ∀ s, body (s, (l.length : Int)) = some (.inr s)) (hf : l.length < fl) : lp body fl (s0, 0) = some (s0 ++ l.flatMap e) := by
  have := lp_list (l := l) (fun i s => (s, (i : Int))) (body := body) (fun s x => s ++ e x) (fun s => s) s0 (fl := fl) (fun i s => s.length ≤ s0.length + i * n) (by simp)
    (fun i x s hx hI => by
      have hi := (List.getElem?_eq_some_iff.1 hx).1
      have hm : i * n ≤ l.length * n := Nat.mul_le_mul_right _ (by omega)
      refine ⟨hb i x s hx (by omega), ?_⟩
      have := hn x (List.mem_of_getElem? hx)
      rw [List.length_append, Nat.add_mul]; omega)
    (fun s hI => he s) hf
  rw [foldl_app] at this
  exact this
omit ok m in
theorem inN {n : Int} (h : 0 ≤ n) (h2 : n < 1000000) : IntKind.u64.wrap n = n ∧ U64 n := ⟨wrap_u64 ⟨h, by omega⟩, h, by omega⟩
omit ok m in
theorem lenN (n : Nat) : ((n : Int)).toNat = n := Int.toNat_natCast n
theorem renc_eq {fl : Nat} (hf : 64 < fl) : F_renc fl q = some (encR q, none) := by
  have hc := m.code
  have hr := m.rowsN; have hs := m.refsN; have hl := m.linesN
  have g1 := flat_le q.Rows (encE_le m); have g2 := flat_le q.Refs (encF_le ok)
  have h4 : q.Rows.length * 2108 ≤ 64 * 2108 := Nat.mul_le_mul_right _ m.rowsN
  have h5 : q.Refs.length * 11 ≤ 64 * 11 := Nat.mul_le_mul_right _ m.refsN
  have h6 : q.Lines.length * 81 ≤ 32 * 81 := Nat.mul_le_mul_right _ m.linesN
  have j1 := vb_le (n := q.Code) ⟨m.code.1, by omega⟩; have j2 := vb_le ok.n; have j3 := bs_le m.value (by decide)
  have j4 := vbn_le (n := q.Rows.length) (by omega); have j5 := vbn_le (n := q.Refs.length) (by omega)
  have j6 := vbn_le (n := q.Lines.length) (by omega)
  unfold F_renc
  rw [rcheck_eq hf, mayR_iff.2 m, if_pos rfl, bnd_s]
  simp only [Option.isSome_none, ifb_0]
  rw [(inN hc.1 (by omega)).1, oNum_t (by decide) (inN hc.1 (by omega)).2, bnd_s, List.nil_append, oNum_t (by unfold Wrd; omega) ok.n, bnd_s]
  have hflag : F_flag q.Found = some (flg q.Found) := by unfold F_flag flg; cases q.Found <;> rfl
  rw [hflag, bnd_s, oByte_t (by unfold Wrd; rw [List.length_append]; omega), bnd_s]
  have hv : (bytesOf q.Value).length ≤ 2048 := by rw [bytesOf_length]; exact m.value
  rw [oBytes_t (by unfold Wrd; simp only [List.length_append, List.length_cons, List.length_nil]; omega), bnd_s, (inN (n := (q.Rows.length : Int)) (by omega) (by omega)).1, oNum_t (by unfold Wrd; simp only [List.length_append, List.length_cons, List.length_nil]; omega) (inN (n := (q.Rows.length : Int)) (by omega) (by omega)).2, bnd_s, lenN]
  generalize hz : ((vb q.Code.toNat ++ vb q.N.toNat ++ [flg q.Found]) ++ bsB (bytesOf q.Value)) ++ vb q.Rows.length = z0
  have lz : z0.length ≤ 3000 := by rw [← hz]; simp only [List.length_append, List.length_cons, List.length_nil]; omega
  rw [lp_add (l := q.Rows) encE (n := 2108) (by omega) (encE_le m) (by omega) (by omega) (fun i x s hx hs => by
    have hi := (List.getElem?_eq_some_iff.1 hx).1
    have h := m.rows x (List.mem_of_getElem? hx)
    unfold F_renc_b0
    dsimp only
    have := bs_le h.1 (by decide)
    rw [ifb_dec, if_pos (by show (i : Int) < _; omega), ixb_n hx, oBytes_t (by unfold Wrd; rw [bytesOf_length]; omega), bnd_s, oBytes_t (by unfold Wrd; rw [bytesOf_length, List.length_append]; omega), bnd_s, wrap_i64 (by omega), List.append_assoc]; rfl)
    (fun s => by unfold F_renc_b0; rw [ifb_dec, if_neg (by show ¬ (q.Rows.length : Int) < _; omega)]) (by omega), bnd_s]
  rw [(inN (n := (q.Refs.length : Int)) (by omega) (by omega)).1, oNum_t (by unfold Wrd; rw [List.length_append]; omega) (inN (n := (q.Refs.length : Int)) (by omega) (by omega)).2, bnd_s, lenN]
  rw [lp_add (l := q.Refs) encF (n := 11) (by simp only [List.length_append]; omega) (encF_le ok) (by omega) (by omega) (fun i x s hx hs => by
    have hi := (List.getElem?_eq_some_iff.1 hx).1
    have h := m.refs x (List.mem_of_getElem? hx)
    have h2 := (ok.refs x (List.mem_of_getElem? hx)).2
    unfold F_renc_b1
    dsimp only
    rw [ifb_dec, if_pos (by show (i : Int) < _; omega), ixb_n hx, oByte_t (by unfold Wrd; omega), bnd_s, oNum_t (by unfold Wrd; rw [List.length_append]; simp; omega) h2, bnd_s, wrap_i64 (by omega), wrap_u8 (by omega), List.append_assoc]; rfl)
    (fun s => by unfold F_renc_b1; rw [ifb_dec, if_neg (by show ¬ (q.Refs.length : Int) < _; omega)]) (by omega), bnd_s]
  rw [(inN (n := (q.Lines.length : Int)) (by omega) (by omega)).1, oNum_t (by unfold Wrd; simp only [List.length_append]; omega) (inN (n := (q.Lines.length : Int)) (by omega) (by omega)).2, bnd_s, lenN]
  rw [lp_add (l := q.Lines) encL (n := 81) (by simp only [List.length_append]; omega) (encL_le ok m) (by omega) (by omega) (fun i x s hx hs => by
    have hi := (List.getElem?_eq_some_iff.1 hx).1
    have h := m.lines x (List.mem_of_getElem? hx)
    obtain ⟨k1, k2, k3, k4⟩ := ok.lines x (List.mem_of_getElem? hx)
    have i1 := vb_le k1; have i2 := vb_le k2
    have k5 := inN k4.1 (by omega)
    have i3 := vb_le k5.2
    unfold F_renc_b2
    dsimp only
    rw [ifb_dec, if_pos (by show (i : Int) < _; omega), ixb_n hx, oNum_t (by unfold Wrd; omega) k1, bnd_s, oNum_t (by unfold Wrd; simp only [List.length_append]; omega) k2, bnd_s, oByte_t (by unfold Wrd; simp only [List.length_append]; omega), bnd_s, k5.1, oNum_t (by unfold Wrd; simp only [List.length_append, List.length_cons, List.length_nil]; omega) k5.2, bnd_s, oBytes_t (by unfold Wrd; rw [bytesOf_length]; simp only [List.length_append, List.length_cons, List.length_nil]; omega), bnd_s, wrap_i64 (by omega)]
    simp [encL])
    (fun s => by unfold F_renc_b2; rw [ifb_dec, if_neg (by show ¬ (q.Lines.length : Int) < _; omega)]) (by omega), bnd_s]
  rw [← hz]
  simp [encR, encB]
theorem renc2_eq {fl : Nat} (hf : 64 < fl) : F_renc2 fl q = some (encR q, 0) := by
  have hc := m.code
  have hr := m.rowsN; have hs := m.refsN; have hl := m.linesN
  have g1 := flat_le q.Rows (encE_le m); have g2 := flat_le q.Refs (encF_le ok)
  have h4 : q.Rows.length * 2108 ≤ 64 * 2108 := Nat.mul_le_mul_right _ m.rowsN
  have h5 : q.Refs.length * 11 ≤ 64 * 11 := Nat.mul_le_mul_right _ m.refsN
  have h6 : q.Lines.length * 81 ≤ 32 * 81 := Nat.mul_le_mul_right _ m.linesN
  have j1 := vb_le (n := q.Code) ⟨m.code.1, by omega⟩; have j2 := vb_le ok.n; have j3 := bs_le m.value (by decide)
  have j4 := vbn_le (n := q.Rows.length) (by omega); have j5 := vbn_le (n := q.Refs.length) (by omega)
  have j6 := vbn_le (n := q.Lines.length) (by omega)
  unfold F_renc2
  rw [rmay_eq hf, mayR_iff.2 m, bnd_s]
  simp only [Bool.not_true, ifb_0]
  rw [(inN hc.1 (by omega)).1, oNum_t (by decide) (inN hc.1 (by omega)).2, bnd_s, List.nil_append, oNum_t (by unfold Wrd; omega) ok.n, bnd_s]
  have hFit : ∀ (z : List Int) (c : Int), z.length ≤ 1000000 → Fits 1 (z.length + ([c] : List Int).length) := fun z c h => by unfold Fits; simp; omega
  have hflag : (ifb q.Found (grd (Fits 1 ((vb q.Code.toNat ++ vb q.N.toNat).length + ([1] : List Int).length)) <| some ((vb q.Code.toNat ++ vb q.N.toNat) ++ ([1] : List Int))) (grd (Fits 1 ((vb q.Code.toNat ++ vb q.N.toNat).length + ([0] : List Int).length)) <| some ((vb q.Code.toNat ++ vb q.N.toNat) ++ ([0] : List Int)))) = some ((vb q.Code.toNat ++ vb q.N.toNat) ++ [flg q.Found]) := by
    rw [grd_t (hFit _ 1 (by rw [List.length_append]; omega)), grd_t (hFit _ 0 (by rw [List.length_append]; omega))]
    cases q.Found <;> rfl
  rw [hflag, bnd_s]
  have hv : (bytesOf q.Value).length ≤ 2048 := by rw [bytesOf_length]; exact m.value
  rw [oBytes_t (by unfold Wrd; simp only [List.length_append, List.length_cons, List.length_nil]; omega), bnd_s, (inN (n := (q.Rows.length : Int)) (by omega) (by omega)).1, oNum_t (by unfold Wrd; simp only [List.length_append, List.length_cons, List.length_nil]; omega) (inN (n := (q.Rows.length : Int)) (by omega) (by omega)).2, bnd_s, lenN]
  generalize hz : ((vb q.Code.toNat ++ vb q.N.toNat ++ [flg q.Found]) ++ bsB (bytesOf q.Value)) ++ vb q.Rows.length = z0
  have lz : z0.length ≤ 3000 := by rw [← hz]; simp only [List.length_append, List.length_cons, List.length_nil]; omega
  rw [lp_add (l := q.Rows) encE (n := 2108) (by omega) (encE_le m) (by omega) (by omega) (fun i x s hx hs => by
    have hi := (List.getElem?_eq_some_iff.1 hx).1
    have h := m.rows x (List.mem_of_getElem? hx)
    unfold F_renc2_b0
    dsimp only
    have := bs_le h.1 (by decide)
    rw [ifb_dec, if_pos (by show (i : Int) < _; omega), ixb_n hx, oBytes_t (by unfold Wrd; rw [bytesOf_length]; omega), bnd_s, ixb_n hx, oBytes_t (by unfold Wrd; rw [bytesOf_length, List.length_append]; omega), bnd_s, wrap_i64 (by omega), List.append_assoc]; rfl)
    (fun s => by unfold F_renc2_b0; rw [ifb_dec, if_neg (by show ¬ (q.Rows.length : Int) < _; omega)]) (by omega), bnd_s]
  rw [(inN (n := (q.Refs.length : Int)) (by omega) (by omega)).1, oNum_t (by unfold Wrd; rw [List.length_append]; omega) (inN (n := (q.Refs.length : Int)) (by omega) (by omega)).2, bnd_s, lenN]
  rw [lp_add (l := q.Refs) encF (n := 11) (by simp only [List.length_append]; omega) (encF_le ok) (by omega) (by omega) (fun i x s hx hs => by
    have hi := (List.getElem?_eq_some_iff.1 hx).1
    have h := m.refs x (List.mem_of_getElem? hx)
    have h2 := (ok.refs x (List.mem_of_getElem? hx)).2
    unfold F_renc2_b1
    dsimp only
    rw [ifb_dec, if_pos (by show (i : Int) < _; omega), ixb_n hx, grd_t (hFit s _ (by omega)), ixb_n hx, oNum_t (by unfold Wrd; rw [List.length_append]; simp; omega) h2, bnd_s, wrap_i64 (by omega), wrap_u8 (by omega), List.append_assoc]; rfl)
    (fun s => by unfold F_renc2_b1; rw [ifb_dec, if_neg (by show ¬ (q.Refs.length : Int) < _; omega)]) (by omega), bnd_s]
  rw [(inN (n := (q.Lines.length : Int)) (by omega) (by omega)).1, oNum_t (by unfold Wrd; simp only [List.length_append]; omega) (inN (n := (q.Lines.length : Int)) (by omega) (by omega)).2, bnd_s, lenN]
  rw [lp_add (l := q.Lines) encL (n := 81) (by simp only [List.length_append]; omega) (encL_le ok m) (by omega) (by omega) (fun i x s hx hs => by
    have hi := (List.getElem?_eq_some_iff.1 hx).1
    have h := m.lines x (List.mem_of_getElem? hx)
    obtain ⟨k1, k2, k3, k4⟩ := ok.lines x (List.mem_of_getElem? hx)
    have i1 := vb_le k1; have i2 := vb_le k2
    have k5 := inN k4.1 (by omega)
    have i3 := vb_le k5.2
    unfold F_renc2_b2
    dsimp only
    rw [ifb_dec, if_pos (by show (i : Int) < _; omega), ixb_n hx, oNum_t (by unfold Wrd; omega) k1, bnd_s, oNum_t (by unfold Wrd; simp only [List.length_append]; omega) k2, bnd_s, grd_t (hFit _ _ (by simp only [List.length_append]; omega)), k5.1, oNum_t (by unfold Wrd; simp only [List.length_append, List.length_cons, List.length_nil]; omega) k5.2, bnd_s, oBytes_t (by unfold Wrd; rw [bytesOf_length]; simp only [List.length_append, List.length_cons, List.length_nil]; omega), bnd_s, wrap_i64 (by omega)]
    simp [encL])
    (fun s => by unfold F_renc2_b2; rw [ifb_dec, if_neg (by show ¬ (q.Lines.length : Int) < _; omega)]) (by omega), bnd_s]
  rw [← hz]
  simp [encR, encB]
end
theorem renc_no {q : Rpl} (m : ¬ MayR q) {fl : Nat} (hf : 64 < fl) : F_renc fl q = some ([], some 1) := by
  unfold F_renc
  rw [rcheck_eq hf, if_neg (fun h => m (mayR_iff.1 h))]; rfl
theorem renc2_no {q : Rpl} (m : ¬ MayR q) {fl : Nat} (hf : 64 < fl) : F_renc2 fl q = some ([], 1) := by
  unfold F_renc2
  have : mayR q = false := by cases h : mayR q with | true => exact absurd (mayR_iff.1 h) m | false => rfl
  rw [rmay_eq hf, this]; rfl
end Go.Proofs.YtmnhfpcbfdgbcaaDoor.Eng.A

/- Replies, in plain Lean: reading. -/
namespace Go.Proofs.YtmnhfpcbfdgbcaaDoor.Eng.A
set_option linter.unusedVariables false
set_option linter.unusedSimpArgs false
open Go.RowKit Go.Proofs.YtmnhfpcbfdgbcaaDoor.Plain Go.Proofs.YtmnhfpcbfdgbcaaDoor.Eng Go.Proofs.YtmnhfpcbfdgbcaaDoor.Eng.Pk Go.Proofs.YtmnhfpcbfdgbcaaDoor.Eng.Rd

/-! ### Two ways to read -/
structure Rds where
  num : Nat → Rdr → Nat × Rdr
  byte : Rdr → Int × Rdr
  bytes : Nat → Rdr → List Int × Rdr
def R1 : Rds := ⟨fun m r => ((rdNum m r.b_ r.wrong_).1, rdr (rdNum m r.b_ r.wrong_).2), fun r => ((rdByte r.b_ r.wrong_).1, rdr (rdByte r.b_ r.wrong_).2), fun m r => ((rdBytes m r.b_ r.wrong_).1, rdr (rdBytes m r.b_ r.wrong_).2)⟩
def R2 : Rds := ⟨fun m r => if r.wrong_ = true then (0, r) else ((rdNum m r.b_ false).1, rdr (rdNum m r.b_ false).2), fun r => if r.wrong_ = true then (0, r) else ((rdByte r.b_ false).1, rdr (rdByte r.b_ false).2), fun m r => if r.wrong_ = true then ([], r) else ((rdBytes m r.b_ false).1, rdr (rdBytes m r.b_ false).2)⟩
structure RL (R : Rds) : Prop where
  nok : ∀ m r, RdOk r → RdOk (R.num m r).2
  nle : ∀ m r, (R.num m r).1 ≤ m
  bok : ∀ r, RdOk r → RdOk (R.byte r).2
  brg : ∀ r, RdOk r → 0 ≤ (R.byte r).1 ∧ (R.byte r).1 < 256
  sok : ∀ m r, RdOk r → RdOk (R.bytes m r).2
  sle : ∀ m r, (R.bytes m r).1.length ≤ m
  nf : ∀ m l, R.num m ⟨l, false⟩ = ((rdNum m l false).1, rdr (rdNum m l false).2)
  bf : ∀ l, R.byte ⟨l, false⟩ = ((rdByte l false).1, rdr (rdByte l false).2)
  sf : ∀ m l, R.bytes m ⟨l, false⟩ = ((rdBytes m l false).1, rdr (rdBytes m l false).2)
theorem L1 : RL R1 := ⟨fun m r h => rdok_num h m, fun m r => (rdNum_le _ _ _).1, fun r h => rdok_byte h, fun r h => byte_rg h r.wrong_, fun m r h => rdok_bytes h m, fun m r => (rdBytes_le _ _ _).1, fun _ _ => rfl, fun _ => rfl, fun _ _ => rfl⟩
theorem L2 : RL R2 := by
  refine ⟨fun m r h => ?_, fun m r => ?_, fun r h => ?_, fun r h => ?_, fun m r h => ?_, fun m r => ?_, fun _ _ => rfl, fun _ => rfl, fun _ _ => rfl⟩ <;> simp only [R2] <;> split
  · exact h
  · exact rdok_num (r := ⟨r.b_, false⟩) (rdok_f h) m
  · exact Nat.zero_le _
  · exact (rdNum_le _ _ _).1
  · exact h
  · exact rdok_byte (r := ⟨r.b_, false⟩) (rdok_f h)
  · exact ⟨Int.le_refl _, show (0 : Int) < 256 by decide⟩
  · exact byte_rg h false
  · exact h
  · exact rdok_bytes (r := ⟨r.b_, false⟩) (rdok_f h) m
  · exact Nat.zero_le _
  · exact (rdBytes_le _ _ _).1
/-- Again and again. -/
def rep {X : Type} (P : Rdr → X × Rdr) : Nat → Rdr → List X × Rdr
  | 0, r => ([], r)
  | n + 1, r => ((P r).1 :: (rep P n (P r).2).1, (rep P n (P r).2).2)
section
variable {X : Type} {P : Rdr → X × Rdr}
theorem rep_ok (h : ∀ r, RdOk r → RdOk (P r).2) : ∀ n r, RdOk r → RdOk (rep P n r).2
  | 0, r, hr => hr
  | n + 1, r, hr => rep_ok h n _ (h r hr)
theorem rep_len : ∀ n r, (rep P n r).1.length = n
  | 0, r => rfl
  | n + 1, r => by rw [rep, List.length_cons, rep_len n]
theorem rep_all {G : X → Prop} (h : ∀ r, RdOk r → RdOk (P r).2) (hg : ∀ r, RdOk r → G (P r).1) : ∀ n r, RdOk r → ∀ x ∈ (rep P n r).1, G x
  | 0, r, hr, x, hx => by cases hx
  | n + 1, r, hr, x, hx => by
    rcases List.mem_cons.1 hx with rfl | hx
    · exact hg r hr
    · exact rep_all h hg n _ (h r hr) x hx
theorem rep_back {e : X → List Int} : ∀ (l : List X), (∀ x ∈ l, ∀ t, P ⟨e x ++ t, false⟩ = (x, ⟨t, false⟩)) → ∀ t, rep P l.length ⟨l.flatMap e ++ t, false⟩ = (l, ⟨t, false⟩)
  | [], _, t => rfl
  | a :: l, h, t => by
    rw [List.length_cons, rep, List.flatMap_cons, List.append_assoc, h a (by simp), rep_back l (fun x hx => h x (by simp [hx]))]
theorem rep_canon {e : X → List Int} (h : ∀ r, RdOk r → RdOk (P r).2) (hc : ∀ r, RdOk r → (P r).2.wrong_ = false → r.wrong_ = false ∧ r.b_ = e (P r).1 ++ (P r).2.b_) : ∀ n r, RdOk r → (rep P n r).2.wrong_ = false → r.wrong_ = false ∧ r.b_ = (rep P n r).1.flatMap e ++ (rep P n r).2.b_
  | 0, r, hr, hw => ⟨hw, rfl⟩
  | n + 1, r, hr, hw => by
    obtain ⟨h1, h2⟩ := rep_canon h hc n _ (h r hr) hw
    obtain ⟨h3, h4⟩ := hc r hr h1
    exact ⟨h3, by rw [h4, h2]; simp [rep]⟩
theorem rep_fold : ∀ n r (acc : List X), (List.replicate n ()).foldl (fun (s : Rdr × List X) _ => ((P s.1).2, s.2 ++ [(P s.1).1])) (r, acc) = ((rep P n r).2, acc ++ (rep P n r).1)
  | 0, r, acc => by simp [rep]
  | n + 1, r, acc => by rw [List.replicate_succ, List.foldl_cons, rep_fold n]; simp [rep]
theorem lp_rep {T O : Type} (P : Rdr → X × Rdr) (mk : Nat → Rdr → List X → T) (fin : Rdr → List X → O) {body : T → Option (T ⊕ O)} {n fl : Nat} {r : Rdr} (hr : RdOk r) (hok : ∀ r, RdOk r → RdOk (P r).2)
    (hb : ∀ i r acc, i < n → RdOk r → acc.length = i → body (mk i r acc) = some (.inl (mk (i + 1) (P r).2 (acc ++ [(P r).1])))) (he : ∀ r acc, body (mk n r acc) = some (.inr (fin r acc))) (hf : n < fl) : lp body fl (mk 0 r []) = some (fin (rep P n r).2 (rep P n r).1) := by
  have := lp_list (l := List.replicate n ()) (fun i (s : Rdr × List X) => mk i s.1 s.2) (body := body) (fun s _ => ((P s.1).2, s.2 ++ [(P s.1).1])) (fun s => fin s.1 s.2) (r, []) (fl := fl) (fun i s => RdOk s.1 ∧ s.2.length = i) ⟨hr, rfl⟩
    (fun i x s hx hI => by
      have hi := (List.getElem?_eq_some_iff.1 hx).1
      rw [List.length_replicate] at hi
      exact ⟨hb i s.1 s.2 hi hI.1 hI.2, hok _ hI.1, by rw [List.length_append, hI.2]; rfl⟩)
    (fun s hI => by rw [List.length_replicate]; exact he _ _) (by rw [List.length_replicate]; exact hf)
  rw [rep_fold, List.nil_append] at this
  exact this
end
def pE (R : Rds) (kl : Nat) (r : Rdr) : Ent × Rdr := (⟨strOf (R.bytes kl r).1, strOf (R.bytes 2048 (R.bytes kl r).2).1⟩, (R.bytes 2048 (R.bytes kl r).2).2)
def pF (R : Rds) (r : Rdr) : Rf × Rdr := (⟨(R.byte r).1, ((R.num 4611686018427387904 (R.byte r).2).1 : Int)⟩, (R.num 4611686018427387904 (R.byte r).2).2)
def pL (R : Rds) (kl : Nat) (r : Rdr) : Lin × Rdr :=
  let a := R.num 4611686018427387904 r
  let b := R.num 4611686018427387904 a.2
  let c := R.byte b.2
  let d := R.num 65535 c.2
  let k := R.bytes kl d.2
  (⟨(a.1 : Int), (b.1 : Int), c.1, (d.1 : Int), strOf k.1⟩, k.2)
def parR (R : Rds) (kl : Nat) (r : Rdr) : (Rpl × Int) × Rdr :=
  let c := R.num 65535 r
  let n := R.num 4611686018427387904 c.2
  let f := R.byte n.2
  let v := R.bytes 2048 f.2
  let rn := R.num 64 v.2
  let rs := rep (pE R kl) rn.1 rn.2
  let fn := R.num 64 rs.2
  let fs := rep (pF R) fn.1 fn.2
  let ln := R.num 32 fs.2
  let ls := rep (pL R kl) ln.1 ln.2
  ((⟨(c.1 : Int), (n.1 : Int), decide (f.1 = 1), strOf v.1, rs.1, fs.1, ls.1⟩, f.1), ls.2)
section
variable {R : Rds} (L : RL R)
include L
theorem pE_ok (kl : Nat) : ∀ r, RdOk r → RdOk (pE R kl r).2 := fun r h => L.sok _ _ (L.sok _ _ h)
theorem pF_ok : ∀ r, RdOk r → RdOk (pF R r).2 := fun r h => L.nok _ _ (L.bok _ h)
theorem pL_ok (kl : Nat) : ∀ r, RdOk r → RdOk (pL R kl r).2 := fun r h => L.sok _ _ (L.nok _ _ (L.bok _ (L.nok _ _ (L.nok _ _ h))))
theorem num_u (m : Nat) (hm : m ≤ 4611686018427387904) (r : Rdr) : U64 ((R.num m r).1 : Int) := by
  have := L.nle m r; exact ⟨by omega, by omega⟩
theorem parR_ok (kl : Nat) {r : Rdr} (h : RdOk r) : RpOk (parR R kl r).1.1 ∧ RdOk (parR R kl r).2 := by
  have h1 := L.nok 65535 r h
  have h2 := L.nok 4611686018427387904 _ h1
  have h3 := L.bok _ h2
  have h4 := L.sok 2048 _ h3
  have h5 := L.nok 64 _ h4
  have h6 := rep_ok (pE_ok L kl) (R.num 64 (R.bytes 2048 (R.byte (R.num 4611686018427387904 (R.num 65535 r).2).2).2).2).1 _ h5
  have h7 := L.nok 64 _ h6
  have h8 := fun n => rep_ok (pF_ok L) n _ h7
  have h9 := fun n => L.nok 32 _ (h8 n)
  refine ⟨⟨?_, ?_, ?_, ?_⟩, rep_ok (pL_ok L kl) _ _ (h9 _)⟩
  · have := L.nle 65535 r
    exact ⟨by show _ ≤ ((R.num 65535 r).1 : Int); omega, by show ((R.num 65535 r).1 : Int) < _; omega⟩
  · exact num_u L _ (by omega) _
  · refine rep_all (G := fun f : Rf => I64 f.Slot ∧ U64 f.Gen) (pF_ok L) (fun r hr => ?_) _ _ h7
    have := L.brg r hr
    exact ⟨⟨by show _ ≤ (R.byte r).1; omega, by show (R.byte r).1 < _; omega⟩, num_u L _ (by omega) _⟩
  · refine rep_all (G := fun x : Lin => U64 x.Seq ∧ U64 x.Who ∧ (0 ≤ x.What ∧ x.What < 256) ∧ (0 ≤ x.Code ∧ x.Code < 65536)) (pL_ok L kl) (fun r hr => ?_) _ _ (h9 _)
    refine ⟨num_u L _ (by omega) _, num_u L _ (by omega) _, L.brg _ (L.nok _ _ (L.nok _ _ hr)), ?_⟩
    have := L.nle 65535 (R.byte (R.num 4611686018427387904 (R.num 4611686018427387904 r).2).2).2
    exact ⟨by show _ ≤ ((R.num 65535 (R.byte (R.num 4611686018427387904 (R.num 4611686018427387904 r).2).2).2).1 : Int); omega, by show ((R.num 65535 (R.byte (R.num 4611686018427387904 (R.num 4611686018427387904 r).2).2).2).1 : Int) < _; omega⟩
theorem parR_lens (kl : Nat) (r : Rdr) : (parR R kl r).1.1.Rows.length ≤ 64 ∧ (parR R kl r).1.1.Refs.length ≤ 64 ∧ (parR R kl r).1.1.Lines.length ≤ 32 := by
  refine ⟨?_, ?_, ?_⟩
  · show (rep (pE R kl) _ _).1.length ≤ _; rw [rep_len]; exact L.nle _ _
  · show (rep (pF R) _ _).1.length ≤ _; rw [rep_len]; exact L.nle _ _
  · show (rep (pL R kl) _ _).1.length ≤ _; rw [rep_len]; exact L.nle _ _
/-! There and back. -/
theorem nb {n : Int} {m : Nat} (h : U64 n) (hm : n ≤ (m : Int)) (t : List Int) : R.num m ⟨vb n.toNat ++ t, false⟩ = (n.toNat, ⟨t, false⟩) := by rw [L.nf, num_back h hm]; rfl
theorem sb {s : ByteArray} {m : Nat} (h : s.size ≤ m) (hm : m < 18446744073709551616) (t : List Int) : R.bytes m ⟨bsB (bytesOf s) ++ t, false⟩ = (bytesOf s, ⟨t, false⟩) := by rw [L.sf, bytes_back h hm]; rfl
theorem bb (c : Int) (t : List Int) : R.byte ⟨c :: t, false⟩ = (c, ⟨t, false⟩) := by rw [L.bf]; simp [rdByte, rdr]
theorem nbN {n m : Nat} (h : n ≤ m) (hm : m < 1000000) (t : List Int) : R.num m ⟨vb n ++ t, false⟩ = (n, ⟨t, false⟩) := by
  have := nb L (n := (n : Int)) (m := m) ⟨by omega, by omega⟩ (by omega) t
  rwa [Int.toNat_natCast] at this
theorem parR_back {kl : Nat} (h1 : 40 ≤ kl) (h2 : kl ≤ 2048) {q : Rpl} (ok : RpOk q) (m : MayR q) (t : List Int) : parR R kl ⟨encR q ++ t, false⟩ = ((q, flg q.Found), ⟨t, false⟩) := by
  have i (n : Int) (h : U64 n) : ((n.toNat : Nat) : Int) = n := by have := h.1; omega
  have hc : U64 q.Code := ⟨m.code.1, by have := m.code.2; omega⟩
  have hE : ∀ x ∈ q.Rows, ∀ t, pE R kl ⟨encE x ++ t, false⟩ = (x, ⟨t, false⟩) := fun x hx t => by
    have h := m.rows x hx
    unfold pE encE
    rw [List.append_assoc, sb L (by omega) (by omega), sb L h.2 (by decide), strOf_bytesOf, strOf_bytesOf]
  have hF : ∀ x ∈ q.Refs, ∀ t, pF R ⟨encF x ++ t, false⟩ = (x, ⟨t, false⟩) := fun x hx t => by
    have h := ok.refs x hx
    unfold pF encF
    rw [List.cons_append, bb L, nb L h.2 (m.refs x hx).2, i _ h.2]
  have hL : ∀ x ∈ q.Lines, ∀ t, pL R kl ⟨encL x ++ t, false⟩ = (x, ⟨t, false⟩) := fun x hx t => by
    obtain ⟨k1, k2, k3, k4⟩ := ok.lines x hx
    have h := m.lines x hx
    have k5 : U64 x.Code := ⟨k4.1, by omega⟩
    unfold pL encL
    dsimp only
    rw [List.append_assoc, nb L k1 h.1]
    dsimp only
    rw [List.append_assoc, nb L k2 h.2.1]
    dsimp only
    rw [List.cons_append, bb L]
    dsimp only
    rw [List.append_assoc, nb L (m := 65535) k5 (by omega), sb L (by omega) (by omega), strOf_bytesOf, i _ k1, i _ k2, i _ k5]
  have hf : decide (flg q.Found = 1) = q.Found := by unfold flg; cases q.Found <;> rfl
  unfold parR encR encB
  dsimp only
  rw [List.append_assoc, nb L (m := 65535) hc (by have := m.code.2; omega)]
  dsimp only
  rw [List.append_assoc, nb L ok.n m.n]
  dsimp only
  rw [List.cons_append, bb L]
  dsimp only
  rw [List.append_assoc, sb L m.value (by decide)]
  dsimp only
  rw [List.append_assoc, nbN L m.rowsN (by decide)]
  dsimp only
  rw [List.append_assoc, rep_back q.Rows hE]
  dsimp only
  rw [List.append_assoc, nbN L m.refsN (by decide)]
  dsimp only
  rw [List.append_assoc, rep_back q.Refs hF]
  dsimp only
  rw [List.append_assoc, nbN L m.linesN (by decide)]
  dsimp only
  rw [rep_back q.Lines hL, i _ hc, i _ ok.n, hf, strOf_bytesOf]
end
/-! One form. -/
theorem cn {m : Nat} {r : Rdr} (h : RdOk r) (hw : (R1.num m r).2.wrong_ = false) : r.wrong_ = false ∧ r.b_ = vb (R1.num m r).1 ++ (R1.num m r).2.b_ := by
  have := num_canon (m := m) (b := r.wrong_) h.1 hw
  exact ⟨this.1, this.2.1⟩
theorem cb {r : Rdr} (hw : (R1.byte r).2.wrong_ = false) : r.wrong_ = false ∧ r.b_ = (R1.byte r).1 :: (R1.byte r).2.b_ := byte_canon (l := r.b_) (b := r.wrong_) hw
theorem cs {m : Nat} {r : Rdr} (h : RdOk r) (hw : (R1.bytes m r).2.wrong_ = false) : r.wrong_ = false ∧ r.b_ = bsB (bytesOf (strOf (R1.bytes m r).1)) ++ (R1.bytes m r).2.b_ := by
  have := bytes_canon (m := m) (b := r.wrong_) h.1 hw
  refine ⟨this.1, ?_⟩
  have hb : Bts (R1.bytes m r).1 := fun x hx => h.1 x (by
    rw [this.2.1]
    show x ∈ bsB (R1.bytes m r).1 ++ _
    unfold bsB; simp [hx])
  rw [bytesOf_strOf hb]; exact this.2.1
theorem pE_canon (kl : Nat) : ∀ r, RdOk r → (pE R1 kl r).2.wrong_ = false → r.wrong_ = false ∧ r.b_ = encE (pE R1 kl r).1 ++ (pE R1 kl r).2.b_ := fun r h hw => by
  obtain ⟨a1, a2⟩ := cs (L1.sok kl r h) hw
  obtain ⟨b1, b2⟩ := cs h a1
  refine ⟨b1, ?_⟩
  unfold encE pE
  dsimp only
  rw [b2, a2]; simp
theorem pF_canon : ∀ r, RdOk r → (pF R1 r).2.wrong_ = false → r.wrong_ = false ∧ r.b_ = encF (pF R1 r).1 ++ (pF R1 r).2.b_ := fun r h hw => by
  obtain ⟨a1, a2⟩ := cn (L1.bok r h) hw
  obtain ⟨b1, b2⟩ := cb a1
  refine ⟨b1, ?_⟩
  unfold encF pF
  dsimp only
  rw [b2, a2, Int.toNat_natCast]; simp
theorem pL_canon (kl : Nat) : ∀ r, RdOk r → (pL R1 kl r).2.wrong_ = false → r.wrong_ = false ∧ r.b_ = encL (pL R1 kl r).1 ++ (pL R1 kl r).2.b_ := fun r h hw => by
  have h1 := L1.nok 4611686018427387904 r h
  have h2 := L1.nok 4611686018427387904 _ h1
  have h3 := L1.bok _ h2
  have h4 := L1.nok 65535 _ h3
  obtain ⟨a1, a2⟩ := cs h4 hw
  obtain ⟨b1, b2⟩ := cn h3 a1
  obtain ⟨c1, c2⟩ := cb b1
  obtain ⟨d1, d2⟩ := cn h1 c1
  obtain ⟨e1, e2⟩ := cn h d1
  refine ⟨e1, ?_⟩
  unfold encL pL
  dsimp only
  simp only [Int.toNat_natCast]
  rw [e2, d2, c2, b2, a2]; simp
theorem parR_canon {r : Rdr} (h : RdOk r) (hw : (parR R1 40 r).2.wrong_ = false) : r.b_ = encB (parR R1 40 r).1.1 (parR R1 40 r).1.2 ++ (parR R1 40 r).2.b_ := by
  have h1 := L1.nok 65535 r h
  have h2 := L1.nok 4611686018427387904 _ h1
  have h3 := L1.bok _ h2
  have h4 := L1.sok 2048 _ h3
  have h5 := L1.nok 64 _ h4
  have h6 := rep_ok (pE_ok L1 40) (R1.num 64 (R1.bytes 2048 (R1.byte (R1.num 4611686018427387904 (R1.num 65535 r).2).2).2).2).1 _ h5
  have h7 := L1.nok 64 _ h6
  have h8 := fun n => rep_ok (pF_ok L1) n _ h7
  have h9 := fun n => L1.nok 32 _ (h8 n)
  unfold parR at hw ⊢
  dsimp only at hw ⊢
  unfold encB
  dsimp only
  rw [rep_len, rep_len, rep_len]
  obtain ⟨a1, a2⟩ := rep_canon (pL_ok L1 40) (pL_canon 40) _ _ (h9 _) hw
  obtain ⟨b1, b2⟩ := cn (h8 _) a1
  obtain ⟨c1, c2⟩ := rep_canon (pF_ok L1) pF_canon _ _ h7 b1
  obtain ⟨d1, d2⟩ := cn h6 c1
  obtain ⟨e1, e2⟩ := rep_canon (pE_ok L1 40) (pE_canon 40) _ _ h5 d1
  obtain ⟨f1, f2⟩ := cn h4 e1
  obtain ⟨g1, g2⟩ := cs h3 f1
  obtain ⟨i1, i2⟩ := cb g1
  obtain ⟨j1, j2⟩ := cn h1 i1
  obtain ⟨k1, k2⟩ := cn h j1
  simp only [Int.toNat_natCast, List.append_assoc, List.cons_append]
  rw [← a2, ← b2, ← c2, ← d2, ← e2, ← f2, ← g2, ← i2, ← j2, ← k2]
end Go.Proofs.YtmnhfpcbfdgbcaaDoor.Eng.A

/- Replies, in plain Lean: the two decoders. -/
namespace Go.Proofs.YtmnhfpcbfdgbcaaDoor.Eng.A
set_option linter.unusedVariables false
set_option linter.unusedSimpArgs false
open Go.RowKit Go.Proofs.YtmnhfpcbfdgbcaaDoor.Plain Go.Proofs.YtmnhfpcbfdgbcaaDoor.Eng Go.Proofs.YtmnhfpcbfdgbcaaDoor.Eng.Pk Go.Proofs.YtmnhfpcbfdgbcaaDoor.Eng.Rd

theorem n1a {r : Rdr} (h : RdOk r) : oRNum r 65535 = some (((R1.num 65535 r).1 : Int), (R1.num 65535 r).2) := oRNum_t h (by decide)
theorem n1b {r : Rdr} (h : RdOk r) : oRNum r 4611686018427387904 = some (((R1.num 4611686018427387904 r).1 : Int), (R1.num 4611686018427387904 r).2) := oRNum_t h (by decide)
theorem n1c {r : Rdr} (h : RdOk r) : oRNum r 64 = some (((R1.num 64 r).1 : Int), (R1.num 64 r).2) := oRNum_t h (by decide)
theorem n1d {r : Rdr} (h : RdOk r) : oRNum r 32 = some (((R1.num 32 r).1 : Int), (R1.num 32 r).2) := oRNum_t h (by decide)
theorem s1a {r : Rdr} (h : RdOk r) : oRBytes r 2048 = some ((R1.bytes 2048 r).1, (R1.bytes 2048 r).2) := oRBytes_t h (by decide)
theorem s1b {r : Rdr} (h : RdOk r) : oRBytes r 40 = some ((R1.bytes 40 r).1, (R1.bytes 40 r).2) := oRBytes_t h (by decide)
theorem b1a (r : Rdr) : oRByte r = some ((R1.byte r).1, (R1.byte r).2) := rfl
theorem rline_eq {r : Rdr} (h : RdOk r) : F_rline r = some (pL R1 40 r) := by
  have h1 := L1.nok 4611686018427387904 r h
  have h2 := L1.nok 4611686018427387904 _ h1
  have h3 := L1.bok _ h2
  have h4 := L1.nok 65535 _ h3
  unfold F_rline pL
  rw [n1b h, bnd_s]
  dsimp only
  rw [n1b h1, bnd_s]
  dsimp only
  rw [b1a, bnd_s]
  dsimp only
  rw [n1a h3, bnd_s]
  dsimp only
  rw [s1b h4, bnd_s, wrap_u16 (by have := L1.nle 65535 (R1.byte (R1.num 4611686018427387904 (R1.num 4611686018427387904 r).2).2).2; omega)]
def z0 : Rpl := ⟨0, 0, false, ⟨#[]⟩, [], [], []⟩
def okP (x : (Rpl × Int) × Rdr) : Bool := !(((decide (1 < x.1.2)) || (rdDone x.2.wrong_ x.2.b_).isSome) || !mayR x.1.1)
theorem fits1 {b k n : Nat} {A : Type} (c : A) (h : k < 64) (hb : b ≤ 100) : Fits b (k + ([c] : List A).length) := by
  have : (k + 1) * b ≤ 64 * 100 := Nat.mul_le_mul (by omega) hb
  exact ⟨by show (k + 1) * b ≤ _; omega, by show k + 1 ≤ _; omega⟩
theorem rdec_eq {b : List Int} (hb : Bts b) (hl : b.length ≤ 10000000) {fl : Nat} (hf : 64 < fl) : F_rdec fl b = some (if okP (parR R1 40 ⟨b, false⟩) = true then ((parR R1 40 ⟨b, false⟩).1.1, none) else (z0, some 3)) := by
  have h0 : RdOk ⟨b, false⟩ := ⟨hb, by show b.length ≤ _; omega⟩
  have hN : oNew b = some ⟨b, false⟩ := grd_t (show Wrd b.length by unfold Wrd; omega) _
  obtain ⟨x, hx⟩ : ∃ x, x = parR R1 40 ⟨b, false⟩ := ⟨_, rfl⟩
  rw [← hx]
  unfold F_rdec
  rw [hN, bnd_s, n1a h0, bnd_s]
  dsimp only
  have h1 := L1.nok 65535 _ h0; have g1 := L1.nle 65535 ⟨b, false⟩
  unfold parR at hx
  dsimp only at hx
  generalize R1.num 65535 ⟨b, false⟩ = c at h1 g1 hx ⊢
  rw [n1b h1, bnd_s]
  dsimp only
  have h2 := L1.nok 4611686018427387904 _ h1
  generalize R1.num 4611686018427387904 c.2 = n at h2 hx ⊢
  rw [b1a, bnd_s]
  dsimp only
  have h3 := L1.bok _ h2
  generalize R1.byte n.2 = f at h3 hx ⊢
  rw [s1a h3, bnd_s]
  dsimp only
  have h4 := L1.sok 2048 _ h3
  generalize R1.bytes 2048 f.2 = v at h4 hx ⊢
  rw [n1c h4, bnd_s]
  dsimp only
  have h5 := L1.nok 64 _ h4; have g5 := L1.nle 64 v.2
  generalize R1.num 64 v.2 = rn at h5 g5 hx ⊢
  have e1 := lp_rep (pE R1 40) (fun i r acc => ((i : Int), r, acc)) (fun r acc => (r, acc)) (body := F_rdec_b0 ((rn.1 : Int), rn.2)) (n := rn.1) (fl := fl) h5 (pE_ok L1 40) (fun i r acc hi hr ha => by
    unfold F_rdec_b0
    dsimp only
    rw [ifb_dec, if_pos (by omega), s1b hr, bnd_s]
    dsimp only
    rw [s1a (L1.sok 40 r hr), bnd_s]
    dsimp only
    rw [grd_t (fits1 (n := 0) _ (by omega) (by decide)), wrap_u64 (by omega)]
    rfl) (fun r acc => by unfold F_rdec_b0; dsimp only; rw [ifb_dec, if_neg (by omega)]) (by omega)
  rw [show lp (F_rdec_b0 ((rn.1 : Int), rn.2)) fl (0, rn.2, []) = _ from e1, bnd_s]
  dsimp only
  have h6 := rep_ok (pE_ok L1 40) rn.1 _ h5
  generalize rep (pE R1 40) rn.1 rn.2 = rs at h6 hx ⊢
  rw [n1c h6, bnd_s]
  dsimp only
  have h7 := L1.nok 64 _ h6; have g7 := L1.nle 64 rs.2
  generalize R1.num 64 rs.2 = fn at h7 g7 hx ⊢
  have e2 := lp_rep (pF R1) (fun i r acc => ((i : Int), r, acc)) (fun r acc => (r, acc)) (body := F_rdec_b1 ((fn.1 : Int), fn.2)) (n := fn.1) (fl := fl) h7 (pF_ok L1) (fun i r acc hi hr ha => by
    have hbr := L1.brg r hr
    unfold F_rdec_b1
    dsimp only
    rw [ifb_dec, if_pos (by omega), b1a, bnd_s]
    dsimp only
    rw [n1b (L1.bok r hr), bnd_s]
    dsimp only
    rw [grd_t (fits1 (n := 0) _ (by omega) (by decide)), wrap_u64 (by omega), wrap_i64 (n := (R1.byte r).1) (by omega)]
    rfl) (fun r acc => by unfold F_rdec_b1; dsimp only; rw [ifb_dec, if_neg (by omega)]) (by omega)
  rw [show lp (F_rdec_b1 ((fn.1 : Int), fn.2)) fl (0, fn.2, []) = _ from e2, bnd_s]
  dsimp only
  have h8 := rep_ok (pF_ok L1) fn.1 _ h7
  generalize rep (pF R1) fn.1 fn.2 = fs at h8 hx ⊢
  rw [n1d h8, bnd_s]
  dsimp only
  have h9 := L1.nok 32 _ h8; have g9 := L1.nle 32 fs.2
  generalize R1.num 32 fs.2 = ln at h9 g9 hx ⊢
  have e3 := lp_rep (pL R1 40) (fun i r acc => ((i : Int), r, acc)) (fun r acc => (r, acc)) (body := F_rdec_b2 ((ln.1 : Int), ln.2)) (n := ln.1) (fl := fl) h9 (pL_ok L1 40) (fun i r acc hi hr ha => by
    unfold F_rdec_b2
    dsimp only
    rw [ifb_dec, if_pos (by omega), rline_eq hr, bnd_s, grd_t (fits1 (n := 0) _ (by omega) (by decide)), wrap_u64 (by omega)]
    rfl) (fun r acc => by unfold F_rdec_b2; dsimp only; rw [ifb_dec, if_neg (by omega)]) (by omega)
  rw [show lp (F_rdec_b2 ((ln.1 : Int), ln.2)) fl (0, ln.2, []) = _ from e3, bnd_s]
  dsimp only
  generalize rep (pL R1 40) ln.1 ln.2 = ls at hx ⊢
  rw [wrap_i64 (n := (c.1 : Int)) (by omega)]
  generalize hq : (⟨(c.1 : Int), (n.1 : Int), decide (f.1 = 1), strOf v.1, rs.1, fs.1, ls.1⟩ : Rpl) = q at hx ⊢
  subst hx
  rw [rcheck_eq hf, oRDone]
  unfold okP
  dsimp only
  cases decide (1 < f.1) with
  | true => rfl
  | false =>
    simp only [BEq.rfl, gif_1, bnd_s, Bool.false_or]
    cases (rdDone ls.2.wrong_ ls.2.b_).isSome with
    | true => rfl
    | false =>
      simp only [BEq.rfl, gif_1, bnd_s, Bool.false_or]
      cases mayR q <;> rfl

/-! ### The document's -/
theorem n2 {r : Rdr} (h : RdOk r) {m : Int} (hm : U64 m) : F_rnum2 r m = some ((R2.num m.toNat r).2, ((R2.num m.toNat r).1 : Int)) := by
  unfold F_rnum2
  simp only [R2]
  cases hw : r.wrong_ with
  | true => rfl
  | false => rw [ifb_0, oDNum_t h hm]; rfl
theorem n2a {r : Rdr} (h : RdOk r) : F_rnum2 r 65535 = some ((R2.num 65535 r).2, ((R2.num 65535 r).1 : Int)) := n2 h (by decide)
theorem n2b {r : Rdr} (h : RdOk r) : F_rnum2 r 4611686018427387904 = some ((R2.num 4611686018427387904 r).2, ((R2.num 4611686018427387904 r).1 : Int)) := n2 h (by decide)
theorem n2c {r : Rdr} (h : RdOk r) : F_rnum2 r 64 = some ((R2.num 64 r).2, ((R2.num 64 r).1 : Int)) := n2 h (by decide)
theorem n2d {r : Rdr} (h : RdOk r) : F_rnum2 r 32 = some ((R2.num 32 r).2, ((R2.num 32 r).1 : Int)) := n2 h (by decide)
theorem s2a {r : Rdr} (h : RdOk r) : F_rtext2 r = some ((R2.bytes 2048 r).2, strOf (R2.bytes 2048 r).1) := by
  unfold F_rtext2
  simp only [R2]
  cases hw : r.wrong_ with
  | true => rfl
  | false => rw [ifb_0, oDBytes_t h (by decide)]; rfl
theorem b2a (r : Rdr) : F_rone2 r = some ((R2.byte r).2, (R2.byte r).1) := by
  unfold F_rone2
  simp only [R2]
  cases hw : r.wrong_ with
  | true => rfl
  | false => rfl
theorem encB_bts {q : Rpl} (ok : RpOk q) (m : MayR q) : Bts (encR q) := by
  have hs : ∀ s : ByteArray, Bts (bsB (bytesOf s)) := fun s => by
    refine Bts.app (vb_bts _) fun x hx => ?_
    simp only [bytesOf, List.mem_map] at hx
    obtain ⟨u, _, rfl⟩ := hx
    have := u.toNat_lt; omega
  unfold encR encB
  refine Bts.app (vb_bts _) (Bts.app (vb_bts _) (Bts.cons ?_ ?_ (Bts.app (hs _) (Bts.app (vb_bts _) (Bts.app ?_ (Bts.app (vb_bts _) (Bts.app ?_ (Bts.app (vb_bts _) ?_))))))))
  · unfold flg; split <;> decide
  · unfold flg; split <;> decide
  · intro x hx
    obtain ⟨e, _, hx⟩ := List.mem_flatMap.1 hx
    exact Bts.app (hs _) (hs _) x hx
  · intro x hx
    obtain ⟨e, he, hx⟩ := List.mem_flatMap.1 hx
    have := (m.refs e he).1
    exact Bts.cons (by omega) (by omega) (vb_bts _) x hx
  · intro x hx
    obtain ⟨e, he, hx⟩ := List.mem_flatMap.1 hx
    obtain ⟨_, _, h3, _⟩ := ok.lines e he
    exact Bts.app (vb_bts _) (Bts.app (vb_bts _) (Bts.cons h3.1 h3.2 (Bts.app (vb_bts _) (hs _)))) x hx
theorem rdec2_eq {b : List Int} (hb : Bts b) (hl : b.length ≤ 10000000) {fl : Nat} (hf : 64 < fl) : F_rdec2 fl b = some (if ((parR R2 2048 ⟨b, false⟩).2.wrong_ = false ∧ (parR R2 2048 ⟨b, false⟩).2.b_ = []) ∧ mayR (parR R2 2048 ⟨b, false⟩).1.1 = true ∧ encR (parR R2 2048 ⟨b, false⟩).1.1 = b then ((parR R2 2048 ⟨b, false⟩).1.1, 0) else (z0, 3)) := by
  have h0 : RdOk ⟨b, false⟩ := ⟨hb, by show b.length ≤ _; omega⟩
  obtain ⟨x, hx⟩ : ∃ x, x = parR R2 2048 ⟨b, false⟩ := ⟨_, rfl⟩
  have hok : RpOk x.1.1 := by rw [hx]; exact (parR_ok L2 2048 h0).1
  rw [← hx]
  unfold F_rdec2
  rw [n2a h0, bnd_s]
  dsimp only
  have h1 := L2.nok 65535 _ h0; have g1 := L2.nle 65535 ⟨b, false⟩
  unfold parR at hx
  dsimp only at hx
  generalize R2.num 65535 ⟨b, false⟩ = c at h1 g1 hx ⊢
  rw [n2b h1, bnd_s]
  dsimp only
  have h2 := L2.nok 4611686018427387904 _ h1
  generalize R2.num 4611686018427387904 c.2 = n at h2 hx ⊢
  rw [b2a, bnd_s]
  dsimp only
  have h3 := L2.bok _ h2
  generalize R2.byte n.2 = f at h3 hx ⊢
  rw [s2a h3, bnd_s]
  dsimp only
  have h4 := L2.sok 2048 _ h3
  generalize R2.bytes 2048 f.2 = v at h4 hx ⊢
  rw [n2c h4, bnd_s]
  dsimp only
  have h5 := L2.nok 64 _ h4; have g5 := L2.nle 64 v.2
  generalize R2.num 64 v.2 = rn at h5 g5 hx ⊢
  have e1 := lp_rep (pE R2 2048) (fun i r acc => ((i : Int), acc, r)) (fun r acc => (acc, r)) (body := F_rdec2_b0 (rn.2, (rn.1 : Int))) (n := rn.1) (fl := fl) h5 (pE_ok L2 2048) (fun i r acc hi hr ha => by
    unfold F_rdec2_b0
    dsimp only
    rw [ifb_dec, if_pos (by omega), s2a hr, bnd_s]
    dsimp only
    rw [s2a (L2.sok 2048 r hr), bnd_s]
    dsimp only
    rw [grd_t (fits1 (n := 0) _ (by omega) (by decide)), wrap_u64 (by omega)]
    rfl) (fun r acc => by unfold F_rdec2_b0; dsimp only; rw [ifb_dec, if_neg (by omega)]) (by omega)
  rw [show lp (F_rdec2_b0 (rn.2, (rn.1 : Int))) fl (0, [], rn.2) = _ from e1, bnd_s]
  dsimp only
  have h6 := rep_ok (pE_ok L2 2048) rn.1 _ h5
  generalize rep (pE R2 2048) rn.1 rn.2 = rs at h6 hx ⊢
  rw [n2c h6, bnd_s]
  dsimp only
  have h7 := L2.nok 64 _ h6; have g7 := L2.nle 64 rs.2
  generalize R2.num 64 rs.2 = fn at h7 g7 hx ⊢
  have e2 := lp_rep (pF R2) (fun i r acc => ((i : Int), acc, r)) (fun r acc => (acc, r)) (body := F_rdec2_b1 (fn.2, (fn.1 : Int))) (n := fn.1) (fl := fl) h7 (pF_ok L2) (fun i r acc hi hr ha => by
    have hbr := L2.brg r hr
    unfold F_rdec2_b1
    dsimp only
    rw [ifb_dec, if_pos (by omega), b2a, bnd_s]
    dsimp only
    rw [n2b (L2.bok r hr), bnd_s]
    dsimp only
    rw [grd_t (fits1 (n := 0) _ (by omega) (by decide)), wrap_u64 (by omega), wrap_i64 (n := (R2.byte r).1) (by omega)]
    rfl) (fun r acc => by unfold F_rdec2_b1; dsimp only; rw [ifb_dec, if_neg (by omega)]) (by omega)
  rw [show lp (F_rdec2_b1 (fn.2, (fn.1 : Int))) fl (0, [], fn.2) = _ from e2, bnd_s]
  dsimp only
  have h8 := rep_ok (pF_ok L2) fn.1 _ h7
  generalize rep (pF R2) fn.1 fn.2 = fs at h8 hx ⊢
  rw [n2d h8, bnd_s]
  dsimp only
  have h9 := L2.nok 32 _ h8; have g9 := L2.nle 32 fs.2
  generalize R2.num 32 fs.2 = ln at h9 g9 hx ⊢
  have e3 := lp_rep (pL R2 2048) (fun i r acc => ((i : Int), acc, r)) (fun r acc => (acc, r)) (body := F_rdec2_b2 (ln.2, (ln.1 : Int))) (n := ln.1) (fl := fl) h9 (pL_ok L2 2048) (fun i r acc hi hr ha => by
    have k1 := L2.nok 4611686018427387904 r hr
    have k2 := L2.nok 4611686018427387904 _ k1
    have k3 := L2.bok _ k2
    have k4 := L2.nok 65535 _ k3
    unfold F_rdec2_b2
    dsimp only
    rw [ifb_dec, if_pos (by omega), n2b hr, bnd_s]
    dsimp only
    rw [n2b k1, bnd_s]
    dsimp only
    rw [b2a, bnd_s]
    dsimp only
    rw [n2a k3, bnd_s]
    dsimp only
    rw [s2a k4, bnd_s]
    dsimp only
    rw [grd_t (fits1 (n := 0) _ (by omega) (by decide)), wrap_u64 (by omega), wrap_u16 (by have := L2.nle 65535 (R2.byte (R2.num 4611686018427387904 (R2.num 4611686018427387904 r).2).2).2; omega)]
    rfl) (fun r acc => by unfold F_rdec2_b2; dsimp only; rw [ifb_dec, if_neg (by omega)]) (by omega)
  rw [show lp (F_rdec2_b2 (ln.2, (ln.1 : Int))) fl (0, [], ln.2) = _ from e3, bnd_s]
  dsimp only
  generalize rep (pL R2 2048) ln.1 ln.2 = ls at hx ⊢
  rw [wrap_i64 (n := (c.1 : Int)) (by omega)]
  generalize hq : (⟨(c.1 : Int), (n.1 : Int), decide (f.1 = 1), strOf v.1, rs.1, fs.1, ls.1⟩ : Rpl) = q at hx ⊢
  subst hx
  dsimp only at hok ⊢
  by_cases m : MayR q
  · rw [renc2_eq hok m hf, bnd_s, oDDone, bnd_s]
    have hs : (strOf (encR q) ≠ strOf b) ↔ encR q ≠ b := not_congr (str_eq (encB_bts hok m) hb)
    by_cases g : (ls.2.wrong_ = false ∧ ls.2.b_ = []) ∧ mayR q = true ∧ encR q = b
    · rw [if_pos g]
      obtain ⟨⟨g1, g2⟩, _, g3⟩ := g
      simp [g1, g2, g3]
    · rw [if_neg g]
      have : (((!(!ls.2.wrong_ && decide ((ls.2.b_.length : Int) = 0))) || (decide ((0 : Int) ≠ 0))) || (decide (strOf (encR q) ≠ strOf b))) = true := by
        cases hh : (((!(!ls.2.wrong_ && decide ((ls.2.b_.length : Int) = 0))) || (decide ((0 : Int) ≠ 0))) || (decide (strOf (encR q) ≠ strOf b))) with
        | true => rfl
        | false =>
          exfalso; apply g
          simp only [Bool.or_eq_false_iff, decide_eq_false_iff_not, hs, Classical.not_not, Bool.not_eq_false', Bool.and_eq_true, Bool.not_eq_true', decide_eq_true_eq] at hh
          obtain ⟨⟨⟨g1, g2⟩, _⟩, g3⟩ := hh
          exact ⟨⟨g1, by rw [← List.length_eq_zero_iff]; omega⟩, mayR_iff.2 m, g3⟩
      rw [this]; rfl
  · rw [renc2_no m hf, bnd_s, oDDone, bnd_s, if_neg (fun h => m (mayR_iff.1 h.2.1))]
    simp [z0]
end Go.Proofs.YtmnhfpcbfdgbcaaDoor.Eng.A

/- Replies, in plain Lean: the laws. -/
namespace Go.Proofs.YtmnhfpcbfdgbcaaDoor.Eng.A
set_option linter.unusedVariables false
set_option linter.unusedSimpArgs false
open Go.RowKit Go.Proofs.YtmnhfpcbfdgbcaaDoor.Plain Go.Proofs.YtmnhfpcbfdgbcaaDoor.Eng Go.Proofs.YtmnhfpcbfdgbcaaDoor.Eng.Pk Go.Proofs.YtmnhfpcbfdgbcaaDoor.Eng.Rd Go.Proofs.YtmnhfpcbfdgbcaaDoor.Eng.Er

/-- Bytes are those of a reply. -/
def IsEnc (b : List Int) (x : Rpl) : Prop := RpOk x ∧ MayR x ∧ encR x = b
theorem enc_one {b : List Int} {x y : Rpl} (h : IsEnc b x) (h2 : IsEnc b y) : x = y := by
  obtain ⟨o1, m1, rfl⟩ := h
  obtain ⟨o2, m2, e⟩ := h2
  have k1 := parR_back L1 (kl := 40) (by decide) (by decide) o1 m1 []
  have k2 := parR_back L1 (kl := 40) (by decide) (by decide) o2 m2 []
  rw [e, k1] at k2
  simp only [Prod.mk.injEq] at k2
  exact k2.1.1
theorem may_cap {x : Rpl} (m : MayR x) {fl : Nat} (hf : 64 < fl) : Cap x fl := cap_small m.rowsN m.refsN (by have := m.linesN; omega) hf
theorem z0_cap {fl : Nat} (hf : 64 < fl) : Cap z0 fl := cap_small (by decide) (by decide) (by decide) hf
theorem rdec_spec {b : List Int} (hb : Bts b) (hl : b.length ≤ 10000000) {fl : Nat} (hf : 64 < fl) : (∃ x, F_rdec fl b = some (x, none) ∧ IsEnc b x) ∨ (F_rdec fl b = some (z0, some 3) ∧ ∀ x, ¬ IsEnc b x) := by
  have h0 : RdOk ⟨b, false⟩ := ⟨hb, by show b.length ≤ _; omega⟩
  rw [rdec_eq hb hl hf]
  cases hk : okP (parR R1 40 ⟨b, false⟩) with
  | true =>
    left
    refine ⟨_, rfl, (parR_ok L1 40 h0).1, ?_⟩
    simp only [okP, Bool.not_eq_true', Bool.or_eq_false_iff, decide_eq_false_iff_not, Bool.not_eq_false'] at hk
    obtain ⟨⟨k1, k2⟩, k3⟩ := hk
    have hd : (parR R1 40 ⟨b, false⟩).2.wrong_ = false ∧ (parR R1 40 ⟨b, false⟩).2.b_ = [] := by
      unfold rdDone at k2
      split at k2
      · cases k2
      · rename_i h
        refine ⟨?_, ?_⟩
        · cases hw : (parR R1 40 ⟨b, false⟩).2.wrong_ with
          | false => rfl
          | true => exact absurd (.inl hw) h
        · exact Classical.byContradiction fun hh => h (.inr hh)
    refine ⟨mayR_iff.1 k3, ?_⟩
    have hc := parR_canon h0 hd.1
    rw [hd.2, List.append_nil] at hc
    have hg : 0 ≤ (parR R1 40 ⟨b, false⟩).1.2 := (L1.brg _ (L1.nok _ _ (L1.nok _ _ h0))).1
    have hfd : (parR R1 40 ⟨b, false⟩).1.1.Found = decide ((parR R1 40 ⟨b, false⟩).1.2 = 1) := rfl
    have hfl : flg (parR R1 40 ⟨b, false⟩).1.1.Found = (parR R1 40 ⟨b, false⟩).1.2 := by
      rw [hfd]
      generalize (parR R1 40 ⟨b, false⟩).1.2 = f at k1 hg
      have : f = 0 ∨ f = 1 := by omega
      rcases this with rfl | rfl <;> rfl
    unfold encR
    rw [hfl]
    exact hc.symm
  | false =>
    right
    refine ⟨rfl, ?_⟩
    rintro x ⟨o, m, e⟩
    have := parR_back L1 (kl := 40) (by decide) (by decide) o m []
    rw [List.append_nil, e] at this
    rw [this] at hk
    have hle : ¬ 1 < flg x.Found := by unfold flg; split <;> decide
    simp [okP, mayR_iff.2 m, rdDone, hle] at hk
theorem rdec2_spec {b : List Int} (hb : Bts b) (hl : b.length ≤ 10000000) {fl : Nat} (hf : 64 < fl) : (∃ x, F_rdec2 fl b = some (x, 0) ∧ IsEnc b x) ∨ (F_rdec2 fl b = some (z0, 3) ∧ ∀ x, ¬ IsEnc b x) := by
  have h0 : RdOk ⟨b, false⟩ := ⟨hb, by show b.length ≤ _; omega⟩
  rw [rdec2_eq hb hl hf]
  split
  · rename_i h
    exact .inl ⟨_, rfl, (parR_ok L2 2048 h0).1, mayR_iff.1 h.2.1, h.2.2⟩
  · rename_i h
    refine .inr ⟨rfl, ?_⟩
    rintro x ⟨o, m, e⟩
    have := parR_back L2 (kl := 2048) (by decide) (by decide) o m []
    rw [List.append_nil, e] at this
    rw [this] at h
    exact h ⟨⟨rfl, rfl⟩, mayR_iff.2 m, e⟩
theorem rdec_at {x : Rpl} (o : RpOk x) (m : MayR x) {fl : Nat} (hf : 64 < fl) : F_rdec fl (encR x) = some (x, none) := by
  rcases rdec_spec (encB_bts o m) (by have := encB_le o m (flg x.Found); unfold encR; omega) hf with ⟨y, h1, h2⟩ | ⟨h1, h2⟩
  · rw [h1, enc_one h2 ⟨o, m, rfl⟩]
  · exact absurd ⟨o, m, rfl⟩ (h2 x)
theorem rdec_no {b : List Int} (hb : Bts b) (hl : b.length ≤ 10000000) {fl : Nat} (hf : 64 < fl) (h : ∀ x, ¬ IsEnc b x) : F_rdec fl b = some (z0, some 3) := by
  rcases rdec_spec hb hl hf with ⟨y, h1, h2⟩ | ⟨h1, h2⟩
  · exact absurd h2 (h y)
  · exact h1
theorem enc_ne (x : Rpl) : encR x ≠ [] := by
  unfold encR encB
  intro h
  have := congrArg List.length h
  simp at this
/-! Sizes. -/
theorem rbig_some {q : Rpl} {fl : Nat} (hf : 80 < fl) : ∃ B, F_rbig fl q = some B ∧ (B = false → q.Rows.length ≤ 80 ∧ q.Refs.length ≤ 80 ∧ q.Lines.length ≤ 80) := by
  unfold F_rbig
  by_cases h : ((((decide (80 < (q.Rows.length : Int))) || (decide (80 < (q.Refs.length : Int)))) || (decide (80 < (q.Lines.length : Int)))) || (decide (3000 < (q.Value.size : Int)))) = true
  · rw [h]; exact ⟨true, rfl, fun h => nomatch h⟩
  · rw [Bool.not_eq_true] at h
    rw [h, ifb_0]
    simp only [Bool.or_eq_false_iff, decide_eq_false_iff_not] at h
    obtain ⟨⟨⟨h1, h2⟩, h3⟩, _⟩ := h
    have e1 := lp_list (l := q.Rows) (fun i s => (s, (i : Int))) (body := F_rbig_b0 q) (fun s x => IntKind.i64.wrap ((IntKind.i64.wrap (s + (if 9000 < (x.Key.size : Int) then 9000 else (x.Key.size : Int)))) + (if 9000 < (x.Value.size : Int) then 9000 else (x.Value.size : Int)))) (fun s => s) (0 : Int) (fl := fl) (fun _ _ => True) trivial
      (fun i x s hx _ => by
        have hi := (List.getElem?_eq_some_iff.1 hx).1
        refine ⟨?_, trivial⟩
        unfold F_rbig_b0
        dsimp only
        rw [ifb_dec, if_pos (by omega), ixb_n hx, ixb_n hx, wrap_i64 (n := (i : Int) + 1) (by omega)]; rfl)
      (fun s _ => by unfold F_rbig_b0; dsimp only; rw [ifb_dec, if_neg (by omega)]) (by omega)
    rw [show lp (F_rbig_b0 q) fl (0, 0) = _ from e1, bnd_s]
    generalize q.Rows.foldl _ (0 : Int) = z
    have e2 := lp_list (l := q.Lines) (fun i s => (s, (i : Int))) (body := F_rbig_b1 q) (fun s x => IntKind.i64.wrap (s + (if 9000 < (x.Key.size : Int) then 9000 else (x.Key.size : Int)))) (fun s => s) z (fl := fl) (fun _ _ => True) trivial
      (fun i x s hx _ => by
        have hi := (List.getElem?_eq_some_iff.1 hx).1
        refine ⟨?_, trivial⟩
        unfold F_rbig_b1
        dsimp only
        rw [ifb_dec, if_pos (by omega), ixb_n hx, wrap_i64 (n := (i : Int) + 1) (by omega)]; rfl)
      (fun s _ => by unfold F_rbig_b1; dsimp only; rw [ifb_dec, if_neg (by omega)]) (by omega)
    rw [show lp (F_rbig_b1 q) fl (z, 0) = _ from e2, bnd_s]
    exact ⟨_, rfl, fun _ => by omega⟩
/-! The fixed case. -/
def q12 : Rpl := ⟨12, 0, false, ⟨#[]⟩, [], [], []⟩
theorem code_ok {c : Int} (h : 0 ≤ c ∧ c ≤ 65535) : RpOk ⟨c, 0, false, ⟨#[]⟩, [], [], []⟩ := ⟨⟨by show _ ≤ c; omega, by show c < _; omega⟩, by show U64 0; decide, fun f hf => by simp at hf, fun f hf => by simp at hf⟩
theorem code_may {c : Int} (h : 0 ≤ c ∧ c ≤ 65535) : MayR ⟨c, 0, false, ⟨#[]⟩, [], [], []⟩ := ⟨h, (show (0 : Int) ≤ 4611686018427387904 by decide), (show ByteArray.size ⟨#[]⟩ ≤ 2048 by decide), Nat.zero_le _, Nat.zero_le _, Nat.zero_le _, fun f hf => by simp at hf, fun f hf => by simp at hf, fun f hf => by simp at hf⟩
theorem enc12 : encR q12 = [12, 0, 0, 0, 0, 0, 0] := by
  have h12 : vb 12 = [12] := vb_small (by decide)
  have h0 : vb 0 = [0] := vb_small (by decide)
  have hb : bytesOf (⟨#[]⟩ : ByteArray) = [] := rfl
  simp [encR, encB, q12, h12, h0, hb, flg, bsB]
theorem sure36_eq {fl : Nat} (hf : 64 < fl) : F_sure36 fl = some true := by
  have o : RpOk q12 := code_ok (by decide)
  have m : MayR q12 := code_may (by decide)
  have h1 : F_renc fl (⟨12, 0, false, ⟨#[]⟩, [], [], []⟩ : Rpl) = some ([12, 0, 0, 0, 0, 0, 0], none) := by
    have := renc_eq o m hf; rw [enc12] at this; exact this
  have h2 : F_rdec fl [12, 0, 0, 0, 0, 0, 0] = some (q12, none) := by
    have := rdec_at o m hf; rwa [enc12] at this
  have h3 : F_rdec fl [] = some (z0, some 3) := rdec_no (fun x hx => by simp at hx) (by decide) hf fun x h => enc_ne x h.2.2
  have w1 : F_wrong (some 12) = some q12 := rfl
  have w2 : F_wrong none = some z0 := rfl
  have w3 : F_wrongO = some ⟨1, 0, false, ⟨#[]⟩, [], [], []⟩ := rfl
  unfold F_sure36
  rw [h1, bnd_s]
  dsimp only
  rw [h2, bnd_s, h3, bnd_s, w1, w2, w3]
  simp only [oNumF, gif_s, bnd_s]
  decide
/-! The laws. -/
theorem enc_both {q : Rpl} (o : RpOk q) {fl : Nat} (hf : 64 < fl) : ∃ E c, F_renc fl q = some (E, c) ∧ F_renc2 fl q = some (E, numV c) := by
  by_cases m : MayR q
  · exact ⟨_, _, renc_eq o m hf, renc2_eq o m hf⟩
  · exact ⟨_, _, renc_no m hf, renc2_no m hf⟩
theorem dec_both {b : List Int} (hb : Bts b) (hl : b.length ≤ 10000000) {fl : Nat} (hf : 64 < fl) : ∃ x c, F_rdec fl b = some (x, c) ∧ F_rdec2 fl b = some (x, numV c) ∧ Cap x fl := by
  rcases rdec_spec hb hl hf with ⟨x, h1, h2⟩ | ⟨h1, h2⟩ <;> rcases rdec2_spec hb hl hf with ⟨y, h3, h4⟩ | ⟨h3, h4⟩
  · obtain rfl := enc_one h2 h4
    exact ⟨x, none, h1, h3, may_cap h2.2.1 hf⟩
  · exact absurd h2 (h4 x)
  · exact absurd h4 (h2 y)
  · exact ⟨_, _, h1, h3, z0_cap hf⟩
theorem rForms_eq {p0 p1 : Rpl} {b : List Int} {fl : Nat} (hf : 80 < fl) (o : RpOk p0) (c0 : Cap p0 fl) (c1 : Cap p1 fl) (hb : Bts b) : F_rForms fl p0 p1 b = some true := by
  have hs := sure36_eq (fl := fl) (by omega)
  obtain ⟨B, hB, hB2⟩ := rbig_some (q := p0) hf
  obtain ⟨C, hC, hC2⟩ := rbig_some (q := p1) hf
  unfold F_rForms
  rw [hB, bnd_s, hC, gif_s, bnd_s, hs]
  generalize hD : ((B || (if (B == false) = true then C else default)) || (decide (9000 < (b.length : Int)))) = D
  cases D with
  | true => rfl
  | false =>
    have hl : b.length ≤ 10000000 := by
      simp only [Bool.or_eq_false_iff, decide_eq_false_iff_not] at hD
      omega
    obtain ⟨E, c, e1, e2⟩ := enc_both o (fl := fl) (by omega)
    obtain ⟨x, d, d1, d2, d3⟩ := dec_both hb hl (fl := fl) (by omega)
    have hk := rcheck_eq (q := p0) (fl := fl) (by omega)
    have hm := rmay_eq (q := p0) (fl := fl) (by omega)
    rw [ifb_0]
    simp only [rgive_eq c0, rgive_eq c1, bnd_s, e1, e2, d1, d2, gif_s, oNumF, ris_eq d3 d3, ris_eq c0 c1, rsame_eq c0, hk, hm, decide_true, BEq.rfl, if_true, Bool.and_true]
    cases mayR p0 <;> simp [rsame_eq c0, ris_eq c0 c1]
theorem rBack_eq {p0 : Rpl} {p1 : Int} {fl : Nat} (hf : 80 < fl) (o : RpOk p0) (c0 : Cap p0 fl) (h1 : 0 ≤ p1 ∧ p1 < 65536) : F_rBack fl p0 p1 = some true := by
  have hs := sure36_eq (fl := fl) (by omega)
  obtain ⟨B, hB, hB2⟩ := rbig_some (q := p0) hf
  unfold F_rBack
  rw [rgive_eq c0, bnd_s, hB, bnd_s, rcheck_eq (by omega), gif_s, bnd_s, hs]
  by_cases m : MayR p0
  · cases B with
    | true => rfl
    | false =>
      rw [mayR_iff.2 m, if_pos rfl]
      simp only [BEq.rfl, if_true, Option.isSome_none, Bool.or_false, ifb_0]
      have hE := encB_bts o m
      have hlen := encB_le o m (flg p0.Found)
      have hback := parR_back L1 (kl := 40) (by decide) (by decide) o m
      rw [show encB p0 (flg p0.Found) = encR p0 from rfl] at hlen
      rw [renc_eq o m (by omega), bnd_s]
      dsimp only
      rw [rdec_at o m (by omega), bnd_s]
      dsimp only
      have hpos : 0 < (encR p0).length := List.length_pos_iff.2 (enc_ne p0)
      generalize hM : (if ((encR p0).length : Int) > 1 then ((encR p0).length : Int) else 1) = M
      have hMv : M = ((encR p0).length : Int) := by rw [← hM]; split <;> omega
      have ht : 0 ≤ (IntKind.i64.wrap p1).tmod M ∧ (IntKind.i64.wrap p1).tmod M < M := by
        rw [wrap_i64 (by omega)]
        exact ⟨Int.tmod_nonneg _ h1.1, Int.tmod_lt_of_pos _ (by omega)⟩
      generalize (IntKind.i64.wrap p1).tmod M = T at ht ⊢
      have hcut : ∀ x, ¬ IsEnc ((encR p0).take T.toNat) x := by
        rintro x ⟨ox, mx, ex⟩
        have k1 := parR_back L1 (kl := 40) (by decide) (by decide) ox mx ((encR p0).drop T.toNat)
        have k2 := hback []
        rw [ex, List.take_append_drop] at k1
        rw [List.append_nil, k1] at k2
        simp only [Prod.mk.injEq, Rdr.mk.injEq] at k2
        have := congrArg List.length k2.2.1
        rw [List.length_drop] at this
        simp at this
        omega
      have hext : ∀ x, ¬ IsEnc (encR p0 ++ [0]) x := by
        rintro x ⟨ox, mx, ex⟩
        have k1 := parR_back L1 (kl := 40) (by decide) (by decide) ox mx []
        have k2 := hback [0]
        rw [ex, List.append_nil, k2] at k1
        simp at k1
      rw [grd_t (by omega), grd_t ⟨by omega, by omega⟩, rdec_no (fun x hx => hE x (List.mem_of_mem_take hx)) (by rw [List.length_take]; omega) (by omega) hcut, bnd_s, grd_t (by unfold Fits; simp; omega), grd_t (by unfold Fits; simp; omega), rdec_no (Bts.app hE (Bts.one (by decide) (by decide))) (by rw [List.length_append]; simp; omega) (by omega) hext, bnd_s]
      have cm := may_cap m (fl := fl) (by omega)
      simp only [ris_eq cm c0, rsame_eq c0, gif_s, bnd_s, oNumF, Option.isNone_none]
      simp [numV]
  · have hn : mayR p0 = false := by cases h : mayR p0 with | true => exact absurd (mayR_iff.1 h) m | false => rfl
    rw [hn]
    cases B <;> rfl
theorem xor_ne {n : Int} (h : U64 n) : bits BinOp.xor .u64 n 1 ≠ n := by
  obtain ⟨a, rfl⟩ := Int.eq_ofNat_of_zero_le h.1
  have ha : a < 18446744073709551616 := by have := h.2; omega
  rw [show (1 : Int) = ((1 : Nat) : Int) from rfl, bits_xor_u64_nat a 1 ha (by decide)]
  intro e
  have e2 : a ^^^ 1 = a := by omega
  have e3 := congrArg (fun x => a ^^^ x) e2
  simp [← Nat.xor_assoc] at e3
theorem rWrong_eq {p0 : Int} {p1 : Rpl} {fl : Nat} (hf : 90 < fl) (h0 : 0 ≤ p0 ∧ p0 < 65536) (o : RpOk p1) (c1 : Cap p1 fl) : F_rWrong fl p0 p1 = some true := by
  have hs := sure36_eq (fl := fl) (by omega)
  obtain ⟨B, hB, hB2⟩ := rbig_some (q := p1) (fl := fl) (by omega)
  have hc : 0 ≤ p0 ∧ p0 ≤ 65535 := by omega
  unfold F_rWrong
  rw [wrap_i64 (by omega)]
  have w : F_wrong (some p0) = some ⟨p0, 0, false, ⟨#[]⟩, [], [], []⟩ := rfl
  have cw := may_cap (code_may hc) (fl := fl) (by omega)
  rw [w, bnd_s, renc_eq (code_ok hc) (code_may hc) (by omega), bnd_s]
  dsimp only
  rw [rdec_at (code_ok hc) (code_may hc) (by omega), bnd_s]
  dsimp only
  rw [rsame_eq cw, gif_s, bnd_s]
  have e0 : ((IntKind.i64.wrap ((IntKind.i64.wrap ((([] : List Ent).length : Int) + (([] : List Rf).length : Int))) + (([] : List Lin).length : Int)))) = 0 := by decide
  rw [e0]
  simp only [Option.isSome_none, ne_eq, not_true_eq_false, decide_false, decide_true, Bool.or_false, BEq.rfl, if_true, Bool.not_true, ifb_0]
  rw [rgive_eq c1, bnd_s, hB, bnd_s, hs]
  cases B with
  | true => rfl
  | false =>
    obtain ⟨l1, l2, l3⟩ := hB2 rfl
    rw [ifb_0, grd_t (by unfold Fits; simp; omega), grd_t (by unfold Fits; simp; omega)]
    obtain ⟨c, n, f, v, r, s, l⟩ := p1
    dsimp only at l1 l2 l3 ⊢
    have cR : Cap ⟨c, n, f, v, r ++ [(⟨⟨#[]⟩, ⟨#[]⟩⟩ : Ent)], s, l⟩ fl := by
      unfold Cap
      dsimp only
      rw [List.length_append]
      simp only [List.length_cons, List.length_nil]
      omega
    rw [rsame_eq c1, rsame_eq c1, rsame_eq cR, rsame_eq c1]
    have x1 : ¬ (n = bits BinOp.xor .u64 n 1) := fun h => xor_ne o.n h.symm
    have x2 : ¬ (f = !f) := by cases f <;> decide
    have x3 : ¬ (r ++ [(⟨⟨#[]⟩, ⟨#[]⟩⟩ : Ent)] = r) := fun h => by
      have := congrArg List.length h
      simp at this
    simp [gif_s, x1, x2, x3]
end Go.Proofs.YtmnhfpcbfdgbcaaDoor.Eng.A
